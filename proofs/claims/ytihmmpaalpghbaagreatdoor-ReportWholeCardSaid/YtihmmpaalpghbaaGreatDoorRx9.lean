/- Functions, as sketches. -/
import Derived.Test.YtihmmpaalpghbaaGreatDoorRx8
namespace Go.Proofs.YtihmmpaalpghbaaGreatDoor
open Go Go.Av
set_option linter.unusedSimpArgs false
set_option linter.unusedVariables false
set_option maxHeartbeats 1000000
set_option maxRecDepth 100000
noncomputable def report_Known_c2_sk (a : Report) (b : Report) : Sk (Int) :=
 .r 1 (.dep ((report_Text_k a).c) fun x1 => .dep ((report_Text_k b).c) fun x2 => (strings_Compare_k x1 x2).c) fun p4 =>
 .fin p4.2.2
noncomputable def report_Known_c2 a b := (report_Known_c2_sk a b).val
theorem report_Known_c2_ok (a : Report) (b : Report) (ha : a.I64) (hb : b.I64) : (report_Known_c2_sk a b).obs (fun _ => True) := by
  unfold report_Known_c2_sk
  try simp only [report_Text_k, strings_Compare_k]
  exact okD

noncomputable def report_Known_c2_k a b := kk tok mixed Tryz.func56 [av a.cells, av b.cells] (fun x => iv x) true (report_Known_c2_sk a b) (report_Known_c2 a b) (u2 (report_Known_c2_ok a b))
end Go.Proofs.YtihmmpaalpghbaaGreatDoor

