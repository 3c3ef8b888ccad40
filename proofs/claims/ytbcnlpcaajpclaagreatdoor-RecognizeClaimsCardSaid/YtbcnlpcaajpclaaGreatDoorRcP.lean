/- The plain law, no program in sight. -/
import Derived.Test.YtbcnlpcaajpclaaGreatDoorRc17
import Derived.Test.YtbcnlpcaajpclaaGreatDoorAvLa
set_option linter.unusedSimpArgs false
set_option linter.unusedVariables false
set_option maxRecDepth 100000
namespace Go.Proofs.YtbcnlpcaajpclaaGreatDoor
open Go Go.Av
theorem L47_RecognizeClaims_law (a0:Realm) (a1:Int) (a2:File) (a3 a4:Int):L47_RecognizeClaims a0 a1 a2 a3 a4=true :=
 L47_RecognizeClaims_post a0 a1 a2 a3 a4
end Go.Proofs.YtbcnlpcaajpclaaGreatDoor
