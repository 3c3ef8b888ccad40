/- The plain law, no program in sight. -/
import Derived.Test.YtggilgghigileaaGreatDoorRo13
import Derived.Test.YtggilgghigileaaGreatDoorAvLb
set_option linter.unusedSimpArgs false
set_option linter.unusedVariables false
set_option maxRecDepth 100000
namespace Go.Proofs.YtggilgghigileaaGreatDoor
open Go Go.Av
theorem allongelaw47_RecognizeOnce_law (a0 : Realm) (a1 : File) (a2 : List Judgment) (a3 : Int) (a4 : List Receipt) (a5 : Int) (a6 : List Try) (h : ∀ x, x ∈ a6 → -9223372036854775808 ≤ x.sum ∧ x.sum ≤ 9223372036854775807) : allongelaw47_RecognizeOnce a0 a1 a2 a3 a4 a5 a6 = true :=
  allongelaw47_RecognizeOnce_post a0 a1 a2 a3 a4 a5 a6 h

end Go.Proofs.YtggilgghigileaaGreatDoor
