/- The plain law, no program in sight. -/
import Derived.Test.YtihmmpaalpghbaaGreatDoorRv17
import Derived.Test.YtihmmpaalpghbaaGreatDoorAvLb
set_option linter.unusedSimpArgs false
set_option linter.unusedVariables false
set_option maxRecDepth 100000
namespace Go.Proofs.YtihmmpaalpghbaaGreatDoor
open Go Go.Av
theorem allongelaw50_ReportLater_law (a0 : Realm) (a1 : List Arrival) (a2 a3 a4 : Int) (h : ∀ a, a ∈ a1 → a.report.I64) : allongelaw50_ReportLater a0 a1 a2 a3 a4 = true := allongelaw50_ReportLater_post a0 a1 a2 a3 a4 h

end Go.Proofs.YtihmmpaalpghbaaGreatDoor

