/- The plain law, no program in sight. -/
import Derived.Test.YtihmmpaalpghbaaGreatDoorRx16
import Derived.Test.YtihmmpaalpghbaaGreatDoorAvLb
set_option linter.unusedSimpArgs false
set_option linter.unusedVariables false
set_option maxRecDepth 100000
namespace Go.Proofs.YtihmmpaalpghbaaGreatDoor
open Go Go.Av
theorem allongelaw50_ReportWhole_law (a0 : Realm) (a1 : File) (a2 a3 a4 : Int) (h : a1.J) : allongelaw50_ReportWhole a0 a1 a2 a3 a4 = true := allongelaw50_ReportWhole_post a0 a1 a2 a3 a4 h

end Go.Proofs.YtihmmpaalpghbaaGreatDoor

