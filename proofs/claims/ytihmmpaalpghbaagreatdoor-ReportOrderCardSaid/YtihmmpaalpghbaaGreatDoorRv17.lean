/- Functions, as sketches. -/
import Derived.Test.YtihmmpaalpghbaaGreatDoorRv16
namespace Go.Proofs.YtihmmpaalpghbaaGreatDoor
open Go Go.Av
set_option linter.unusedSimpArgs false
set_option linter.unusedVariables false
set_option maxHeartbeats 1000000
set_option maxRecDepth 100000
/-! the law of later days -/
abbrev dayLe (d : Int) (x : Arrival) : Bool := decide (x.day ≤ d)
end Go.Proofs.YtihmmpaalpghbaaGreatDoor

