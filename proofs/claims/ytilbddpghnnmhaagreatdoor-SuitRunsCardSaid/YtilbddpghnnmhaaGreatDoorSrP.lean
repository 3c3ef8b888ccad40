/- The plain law, no program in sight. -/
import Derived.Test.YtilbddpghnnmhaaGreatDoorSr1
import Derived.Test.YtilbddpghnnmhaaGreatDoorAvLb
set_option linter.unusedSimpArgs false
set_option linter.unusedVariables false
set_option maxRecDepth 100000
namespace Go.Proofs.YtilbddpghnnmhaaGreatDoor
open Go Go.Av
theorem allongelaw46_SuitRuns_law (a0 : List Suit) (a1 : List Move) (a2 a3 : Int) (h2 : 0 ≤ a2 ∧ a2 < 256) (h3 : 0 ≤ a3 ∧ a3 < 256) : allongelaw46_SuitRuns a0 a1 a2 a3 = true :=
  allongelaw46_SuitRuns_post a0 a1 a2 a3 ⟨h2, h3⟩

end Go.Proofs.YtilbddpghnnmhaaGreatDoor

