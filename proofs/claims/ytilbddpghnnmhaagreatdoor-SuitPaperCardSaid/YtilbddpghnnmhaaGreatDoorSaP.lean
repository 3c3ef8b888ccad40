/- The plain law, no program in sight. -/
import Derived.Test.YtilbddpghnnmhaaGreatDoorSa17
import Derived.Test.YtilbddpghnnmhaaGreatDoorAvLa
set_option linter.unusedSimpArgs false
set_option linter.unusedVariables false
set_option maxRecDepth 100000
namespace Go.Proofs.YtilbddpghnnmhaaGreatDoor
open Go Go.Av
theorem zad (a0:jg) (a1:List jh) (a2:jM) (a3:List Int) (a4:Int):JF a0 a1 a2 a3 a4=true :=
 Ue a0 a1 a2 a3 a4
end Go.Proofs.YtilbddpghnnmhaaGreatDoor
