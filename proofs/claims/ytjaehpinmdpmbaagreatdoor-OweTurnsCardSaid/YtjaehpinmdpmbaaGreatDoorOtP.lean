/- The plain law, no program in sight. -/
import Derived.Test.YtjaehpinmdpmbaaGreatDoorOt15
import Derived.Test.YtjaehpinmdpmbaaGreatDoorAvLb
set_option linter.unusedSimpArgs false
set_option linter.unusedVariables false
set_option maxRecDepth 100000
namespace Go.Proofs.YtjaehpinmdpmbaaGreatDoor
open Go Go.Av
theorem allongelaw26_OweTurns_law (a0 : Realm) (a1 : Int) (a2 : File) (a3 : Int) : allongelaw26_OweTurns a0 a1 a2 a3 = true :=
  allongelaw26_OweTurns_post a0 a1 a2 a3

end Go.Proofs.YtjaehpinmdpmbaaGreatDoor

