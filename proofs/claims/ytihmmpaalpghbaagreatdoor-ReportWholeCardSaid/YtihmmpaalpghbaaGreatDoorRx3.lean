/- Functions, as sketches. -/
import Derived.Test.YtihmmpaalpghbaaGreatDoorRx2
namespace Go.Proofs.YtihmmpaalpghbaaGreatDoor
open Go Go.Av
set_option linter.unusedSimpArgs false
set_option linter.unusedVariables false
set_option maxHeartbeats 1000000
set_option maxRecDepth 100000
noncomputable def report_Text_sk (x_ : Report) : Sk (ByteArray) :=
 .r 1 ((report_Right_k x_).c) fun x1 =>
 .br (!x1)
 (.fin (⟨#[]⟩ : ByteArray))
 (.r 3 (.andl (.o [.nrm (litC intE [x_.reporter, x_.no, x_.day, x_.body.kind, x_.body.bill, x_.body.index])]) (.dep ((report_numbers_k x_.body).c) fun x2 => .andl (.andl (.o [.nrm (catC intE [x_.reporter, x_.no, x_.day, x_.body.kind, x_.body.bill, x_.body.index] x2)]) (.andl (.t (intE.src x2)) (.p (szP ([x_.reporter, x_.no, x_.day, x_.body.kind, x_.body.bill, x_.body.index].length) x2.length 8)))) ((wire_Ints_k ([x_.reporter, x_.no, x_.day, x_.body.kind, x_.body.bill, x_.body.index] ++ x2)).c))) fun p4 =>
 .fin p4.2)
noncomputable def report_Text x_ := (report_Text_sk x_).val
theorem report_Text_ok (x_ : Report) (hi : x_.I64) : (report_Text_sk x_).obs (fun _ => True) := by
  refine Sk.obs_of _ ?_
  unfold report_Text_sk
  simp only [Sk.obq, Sk.isLoop, reduceCtorEq, leafB, leafJ, Cal.z, Cal.p, Cal.t, Cal.pt, Cal.o, Cal.and, Cal.andl, Cal.andr, Cal.wh, Cal.dep, Cal.depr, Ctr.c, kk, kp, report_Right_k, report_numbers_k, wire_Ints_k, maxLen, implies_true, true_and, and_true, and_self, true_implies, false_implies, ixP, szP, forall_eq]
  intro _ hp
  rw [hp]
  have h1 := numL_len x_.body
  obtain ⟨p1, p2, p3, p4⟩ := hi.parts
  obtain ⟨q1, q2, q3, -⟩ := p4.parts
  have h2 := numL_I64 p4
  simp only [List.length_cons, List.length_nil, List.length_append]
  refine ⟨by omega, by omega, fun n hn => ?_⟩
  simp only [List.cons_append, List.nil_append, List.mem_cons] at hn
  rcases hn with rfl | rfl | rfl | rfl | rfl | rfl | hn
  · exact p1
  · exact p2
  · exact p3
  · exact q1
  · exact q2
  · exact q3
  · exact h2 n hn

noncomputable def report_Text_k x_ := kk tok mixed Tryz.func11 [av x_.cells] (fun x => sv x) true (report_Text_sk x_) (report_Text x_) (report_Text_ok x_)
end Go.Proofs.YtihmmpaalpghbaaGreatDoor

