/- The plain law, no program in sight. -/
import Derived.Test.YtbcnlpcaajpclaaGreatDoorPl15
import Derived.Test.YtbcnlpcaajpclaaGreatDoorAvLb
set_option linter.unusedSimpArgs false
set_option linter.unusedVariables false
set_option maxRecDepth 100000
namespace Go.Proofs.YtbcnlpcaajpclaaGreatDoor
open Go Go.Av
theorem L27_PayLess_law (a0 : Realm) (a1 : Int) (a2 : File) (a3 : Int) : L27_PayLess a0 a1 a2 a3 = true :=
 L27_PayLess_post a0 a1 a2 a3
end Go.Proofs.YtbcnlpcaajpclaaGreatDoor
