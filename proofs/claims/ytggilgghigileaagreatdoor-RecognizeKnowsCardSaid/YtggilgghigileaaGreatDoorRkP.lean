/- The plain law, no program in sight. -/
import Derived.Test.YtggilgghigileaaGreatDoorRk14
import Derived.Test.YtggilgghigileaaGreatDoorAvLb
set_option linter.unusedSimpArgs false
set_option linter.unusedVariables false
set_option maxRecDepth 100000
namespace Go.Proofs.YtggilgghigileaaGreatDoor
open Go Go.Av
theorem allongelaw47_RecognizeKnows_law (a0 : Realm) (a1 : Int) (a2 : File) (a3 : Judgment) (a4 : List Receipt) (a5 : Int) (a6 : List Fact) : allongelaw47_RecognizeKnows a0 a1 a2 a3 a4 a5 a6 = true :=
  allongelaw47_RecognizeKnows_post a0 a1 a2 a3 a4 a5 a6

end Go.Proofs.YtggilgghigileaaGreatDoor
