/- The plain law, no program in sight. -/
import Derived.Test.YtggilgghigileaaGreatDoorRn13
import Derived.Test.YtggilgghigileaaGreatDoorAvLb
set_option linter.unusedSimpArgs false
set_option linter.unusedVariables false
set_option maxRecDepth 100000
namespace Go.Proofs.YtggilgghigileaaGreatDoor
open Go Go.Av
theorem allongelaw28_LimitLater_law (a0 : Realm) (a1 : Int) (a2 : File) (a3 : Claim) (a4 : Int) (a5 : Int) : allongelaw28_LimitLater a0 a1 a2 a3 a4 a5 = true :=
  allongelaw28_LimitLater_post a0 a1 a2 a3 a4 a5

end Go.Proofs.YtggilgghigileaaGreatDoor
