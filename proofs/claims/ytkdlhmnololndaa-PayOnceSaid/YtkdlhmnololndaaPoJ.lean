/- The statement PayOnceSaid, proved. -/
import Derived.Test.YtkdlhmnololndaaPoI
import Derived.Test.YtkdlhmnololndaaPoH
namespace Go.Proofs.Ytkdlhmnololndaa
theorem payOnce_holds : Rows.PayOnceSaid := payOnce_holds_if payOnce_law
end Go.Proofs.Ytkdlhmnololndaa
