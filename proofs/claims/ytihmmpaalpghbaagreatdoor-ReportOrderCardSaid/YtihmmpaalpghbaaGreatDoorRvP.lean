/- The plain law, no program in sight. -/
import Derived.Test.YtihmmpaalpghbaaGreatDoorRv17
import Derived.Test.YtihmmpaalpghbaaGreatDoorAvLb
set_option linter.unusedSimpArgs false
set_option linter.unusedVariables false
set_option maxRecDepth 100000
namespace Go.Proofs.YtihmmpaalpghbaaGreatDoor
open Go Go.Av
theorem allongelaw50_ReportOrder_law (a0 : Realm) (a1 : List Arrival) (a2 a3 : Int) (a4 : List Int) (a5 : Int) (a6 : List Arrival) (h : OrdH a1 a4 a5 a6) : allongelaw50_ReportOrder a0 a1 a2 a3 a4 a5 a6 = true := allongelaw50_ReportOrder_post a0 a1 a2 a3 a4 a5 a6 h

end Go.Proofs.YtihmmpaalpghbaaGreatDoor

