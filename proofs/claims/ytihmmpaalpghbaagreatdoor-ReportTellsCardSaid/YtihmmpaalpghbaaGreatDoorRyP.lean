/- The plain law, no program in sight. -/
import Derived.Test.YtihmmpaalpghbaaGreatDoorLi
import Derived.Test.YtihmmpaalpghbaaGreatDoorLd
set_option linter.unusedSimpArgs false
set_option linter.unusedVariables false
set_option maxRecDepth 100000
namespace Go.Proofs.YtihmmpaalpghbaaGreatDoor
open Go Go.Av
theorem xh (a0:ai) (a1:List ah) (a2 a3:Int) (a4:ae) (a5:ByteArray) (h:∀ a,a∈a1→a.report.dT) (hx:a4.dT):jc a0 a1 a2 a3 a4 a5=true:=oQ a0 a1 a2 a3 a4 a5 ⟨h,hx⟩
end Go.Proofs.YtihmmpaalpghbaaGreatDoor
