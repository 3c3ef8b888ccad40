/- The plain law, no program in sight. -/
import Derived.Test.YtjaehpinmdpmbaaGreatDoorOl15
import Derived.Test.YtjaehpinmdpmbaaGreatDoorAvLb
set_option linter.unusedSimpArgs false
set_option linter.unusedVariables false
set_option maxRecDepth 100000
namespace Go.Proofs.YtjaehpinmdpmbaaGreatDoor
open Go Go.Av
theorem allongelaw26_OweLeads_law (a0 : Realm) (a1 : File) (a2 : Int) (a3 : Int) (a4 : Int) : allongelaw26_OweLeads a0 a1 a2 a3 a4 = true :=
  allongelaw26_OweLeads_post a0 a1 a2 a3 a4

end Go.Proofs.YtjaehpinmdpmbaaGreatDoor

