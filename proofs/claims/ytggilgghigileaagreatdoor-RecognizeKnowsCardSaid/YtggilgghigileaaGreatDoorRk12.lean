/- Functions, as sketches. -/
import Derived.Test.YtggilgghigileaaGreatDoorRk11
namespace Go.Proofs.YtggilgghigileaaGreatDoor
open Go Go.Av
set_option linter.unusedSimpArgs false
set_option linter.unusedVariables false
set_option maxHeartbeats 1000000
set_option maxRecDepth 100000
noncomputable def wording_Check_sk (r : Realm) (b : Bill) : Sk (Int) :=
 .r 1 ((realm_Check_k r).c) fun x1 =>
 .br (x1 != 0)
 (.fin x1)
 (.r 5 (.dep ((wording_index_k b.drawer ((r.firms.length : Nat) : Int)).c) fun x2 => .dep (.wh x2 true ((wording_index_k b.drawee ((r.firms.length : Nat) : Int)).c)) fun x3 => .dep (.wh (x2 && x3) true (.wh (b.payee == (-1)) false ((wording_index_k b.payee ((r.firms.length : Nat) : Int)).c))) fun x4 => .wh ((x2 && x3) && ((b.payee == (-1)) || x4)) true (.wh (b.need == (-1)) false ((wording_index_k b.need ((r.firms.length : Nat) : Int)).c))) fun p12 =>
 .r 6 (.dep (.wh (!(((p12.1 && p12.2.1) && ((b.payee == (-1)) || p12.2.2.1)) && ((b.need == (-1)) || p12.2.2.2))) false ((wording_index_k b.currency ((r.currencies.length : Nat) : Int)).c)) fun x6 => .dep (.wh ((!(((p12.1 && p12.2.1) && ((b.payee == (-1)) || p12.2.2.1)) && ((b.need == (-1)) || p12.2.2.2))) || (!x6)) false ((wording_index_k b.city ((r.cities.length : Nat) : Int)).c)) fun x7 => .wh (((!(((p12.1 && p12.2.1) && ((b.payee == (-1)) || p12.2.2.1)) && ((b.need == (-1)) || p12.2.2.2))) || (!x6)) || (!x7)) false ((wording_index_k b.pay ((r.cities.length : Nat) : Int)).c)) fun p11 =>
 .br ((((!(((p12.1 && p12.2.1) && ((b.payee == (-1)) || p12.2.2.1)) && ((b.need == (-1)) || p12.2.2.2))) || (!p11.1)) || (!p11.2.1)) || (!p11.2.2))
 (.fin 1)
 (.br ((((((decide (b.sum < 1)) || (decide (b.sum > 1099511627776))) || (decide (b.day < 0))) || (decide (b.day > 100000))) || (decide (b.rate < 0))) || (decide (b.rate > 1000)))
 (.fin 3)
 (.br ((decide (b.parts < 1)) || (decide (b.parts > 4)))
 (.fin 15)
 (.r 12 (.wh (((decide (b.flags < 0)) || (decide (b.flags > 7))) || (((andK .i64 b.flags 4) != 0) && (b.payee == (-1)))) false ((wording_tenor_k b).c)) fun x9 =>
 .br ((((decide (b.flags < 0)) || (decide (b.flags > 7))) || (((andK .i64 b.flags 4) != 0) && (b.payee == (-1)))) || (!x9))
 (.fin 2)
 (.br (b.tenor.kind == 4)
 (.r 15 ((realm_Usance_k r b.city b.pay).c) fun x10 =>
 .fin x10.2)
 (.fin 0))))))
noncomputable def wording_Check (r : Realm) (b : Bill) : Int := (wording_Check_sk r b).val
theorem wording_Check_pst (r : Realm) (b : Bill) : (wording_Check_sk r b).pst (fun (x : Int) => x = 0 → 0 ≤ b.currency ∧ b.currency < r.currencies.length ∧ 0 ≤ b.day ∧ b.day ≤ 100000) := by
  refine Sk.pst_of _ ?_
  unfold wording_Check_sk
  simp only [Sk.pstq, Sk.isLoop, reduceCtorEq, leafB, leafJ, Cal.z, Cal.p, Cal.t, Cal.pt, Cal.o, Cal.and, Cal.andl, Cal.andr, Cal.wh, Cal.dep, Cal.depr, Ctr.c, Ctr.nil, Ctr.nilc, CtrO.c, CtrO.nil, realm_Check_k, realm_Usance_k, wording_index_k, wording_tenor_k, wording_index_eq, forall_eq, File.Small, Realm.Small, Realm.HaltOK, maxLen, implies_true, true_and, and_true, and_self, true_implies, false_implies, ixP, szP, mkP]
  all_goals (repeat' first | assumption | (apply And.intro) | (intro h))
  all_goals first | trivial | assumption | omega | ((try simp only [decide_eq_true_eq, decide_eq_false_iff_not, List.length_append, List.length_cons, List.length_nil, List.length_set, List.length_replicate, Bool.not_eq_true, Bool.not_eq_false, Int.not_lt, Int.not_le, Bool.and_eq_true, Bool.or_eq_true, Bool.and_eq_false_iff, Bool.or_eq_false_iff, Bool.not_eq_eq_eq_not, Bool.not_true, Bool.not_false, beq_iff_eq, bne_iff_ne, beq_eq_false_iff_ne, bne_eq_false_iff_eq, ne_eq, subL_length] at *) <;> first | omega | (refine (w64_id ?_ ?_).trans ?_ <;> omega) | (simp (disch := omega) only [w64_id] at *; omega) | (grind) | (simp_all; done) | (simp_all; omega))

theorem wording_Check_post (r : Realm) (b : Bill) : (fun (x : Int) => x = 0 → 0 ≤ b.currency ∧ b.currency < r.currencies.length ∧ 0 ≤ b.day ∧ b.day ≤ 100000) (wording_Check r b) := Sk.pval _ (wording_Check_pst r b)
theorem wording_Check_ok (r : Realm) (b : Bill) (h_r_Small : r.Small) : (wording_Check_sk r b).obs (fun _ => True) := by
  simp only [File.Small, Realm.Small, Realm.HaltOK] at h_r_Small
  refine Sk.obs_of _ ?_
  unfold wording_Check_sk
  simp only [Sk.obq, Sk.isLoop, reduceCtorEq, leafB, leafJ, Cal.z, Cal.p, Cal.t, Cal.pt, Cal.o, Cal.and, Cal.andl, Cal.andr, Cal.wh, Cal.dep, Cal.depr, Ctr.c, Ctr.nil, Ctr.nilc, CtrO.c, CtrO.nil, realm_Check_k, realm_Usance_k, wording_index_k, wording_tenor_k, wording_index_eq, forall_eq, File.Small, Realm.Small, Realm.HaltOK, maxLen, implies_true, true_and, and_true, and_self, true_implies, false_implies, ixP, szP, mkP]
  all_goals (repeat' first | assumption | (apply And.intro) | (intro h))
  all_goals first | trivial | assumption | omega | ((try simp only [decide_eq_true_eq, decide_eq_false_iff_not, List.length_append, List.length_cons, List.length_nil, List.length_set, List.length_replicate, Bool.not_eq_true, Bool.not_eq_false, Int.not_lt, Int.not_le, Bool.and_eq_true, Bool.or_eq_true, Bool.and_eq_false_iff, Bool.or_eq_false_iff, Bool.not_eq_eq_eq_not, Bool.not_true, Bool.not_false, beq_iff_eq, bne_iff_ne, beq_eq_false_iff_ne, bne_eq_false_iff_eq, ne_eq, subL_length] at *) <;> first | omega | (refine (w64_id ?_ ?_).trans ?_ <;> omega) | (simp (disch := omega) only [w64_id] at *; omega) | (grind) | (simp_all; done) | (simp_all; omega))

theorem wording_Check_fn (r : Realm) (b : Bill) (h_r_Small : r.Small) : FnA Tryz.prog 47 [av r.cells, av b.cells] [] (iv (wording_Check r b)) [] :=
  FnA.sk tok mixed (fun x => iv x) (fun _ => []) Tryz.func47 rfl (by kernel_rfl) 3000 (wording_Check_sk r b) (by kernel_rfl) (wording_Check_ok r b h_r_Small)
noncomputable def wording_Check_k (r : Realm) (b : Bill) : Ctr (Int) := ⟨Tryz.prog, 47, [av r.cells, av b.cells], fun x => iv x, true, wording_Check r b, (r.Small), fun h => wording_Check_fn r b h, fun (x : Int) => x = 0 → 0 ≤ b.currency ∧ b.currency < r.currencies.length ∧ 0 ≤ b.day ∧ b.day ≤ 100000, wording_Check_post r b⟩
noncomputable def paper_in_sk (n : Int) (low : Int) (high : Int) : Sk (Bool) :=
 .fin ((decide (n ≥ low)) && (decide (n ≤ high)))
noncomputable def paper_in (n : Int) (low : Int) (high : Int) : Bool := (paper_in_sk n low high).val
theorem paper_in_eq (n : Int) (low : Int) (high : Int) : paper_in n low high = ((decide (n ≥ low)) && (decide (n ≤ high))) := rfl
theorem paper_in_ok (n : Int) (low : Int) (high : Int) : (paper_in_sk n low high).obs (fun _ => True) := by
  refine Sk.obs_of _ ?_
  unfold paper_in_sk
  simp only [Sk.obq, Sk.isLoop, reduceCtorEq, leafB, leafJ, Cal.z, Cal.p, Cal.t, Cal.pt, Cal.o, Cal.and, Cal.andl, Cal.andr, Cal.wh, Cal.dep, Cal.depr, Ctr.c, Ctr.nil, Ctr.nilc, CtrO.c, CtrO.nil, maxLen, implies_true, true_and, and_true, and_self, true_implies, false_implies, ixP, szP, mkP]

theorem paper_in_fn (n : Int) (low : Int) (high : Int) : FnA Tryz.prog 49 [iv n, iv low, iv high] [] (bv (paper_in n low high)) [] :=
  FnA.sk tok mixed (fun x => bv x) (fun _ => []) Tryz.func49 rfl (by kernel_rfl) 3000 (paper_in_sk n low high) (by kernel_rfl) (paper_in_ok n low high)
noncomputable def paper_in_k (n : Int) (low : Int) (high : Int) : Ctr (Bool) := ⟨Tryz.prog, 49, [iv n, iv low, iv high], fun x => bv x, true, paper_in n low high, True, fun _ => paper_in_fn n low high, fun _ => True, trivial⟩
noncomputable def paper_stands_sk (f : File) (i : Int) (part : Int) : Sk (Bool) :=
 .r 1 (.wh (i == 0) false (.p (ixP i f.signs.length))) fun _ =>
 .fin ((i == 0) || (((f.signs.getD i.toNat default).part) == part))
noncomputable def paper_stands (f : File) (i : Int) (part : Int) : Bool := (paper_stands_sk f i part).val
theorem paper_stands_ok (f : File) (i : Int) (part : Int) (hi : i = 0 ∨ (0 ≤ i ∧ i < (f.signs.length : Int))) : (paper_stands_sk f i part).obs (fun _ => True) := by
  refine Sk.obs_of _ ?_
  unfold paper_stands_sk
  simp only [Sk.obq, Sk.isLoop, reduceCtorEq, leafB, leafJ, Cal.z, Cal.p, Cal.t, Cal.pt, Cal.o, Cal.and, Cal.andl, Cal.andr, Cal.wh, Cal.dep, Cal.depr, Ctr.c, Ctr.nil, Ctr.nilc, CtrO.c, CtrO.nil, maxLen, implies_true, true_and, and_true, and_self, true_implies, false_implies, ixP, szP, mkP]
  all_goals (repeat' first | assumption | (apply And.intro) | (intro h))
  all_goals first | trivial | assumption | omega | ((try simp only [decide_eq_true_eq, decide_eq_false_iff_not, List.length_append, List.length_cons, List.length_nil, List.length_set, List.length_replicate, Bool.not_eq_true, Bool.not_eq_false, Int.not_lt, Int.not_le, Bool.and_eq_true, Bool.or_eq_true, Bool.and_eq_false_iff, Bool.or_eq_false_iff, Bool.not_eq_eq_eq_not, Bool.not_true, Bool.not_false, beq_iff_eq, bne_iff_ne, beq_eq_false_iff_ne, bne_eq_false_iff_eq, ne_eq, subL_length] at *) <;> first | omega | (refine (w64_id ?_ ?_).trans ?_ <;> omega) | (simp (disch := omega) only [w64_id] at *; omega) | (grind) | (simp_all; done) | (simp_all; omega))

theorem paper_stands_fn (f : File) (i : Int) (part : Int) (hi : i = 0 ∨ (0 ≤ i ∧ i < (f.signs.length : Int))) : FnA Tryz.prog 133 [av f.cells, iv i, iv part] [] (bv (paper_stands f i part)) [] :=
  FnA.sk tok mixed (fun x => bv x) (fun _ => []) Tryz.func133 rfl (by kernel_rfl) 3000 (paper_stands_sk f i part) (by kernel_rfl) (paper_stands_ok f i part hi)
noncomputable def paper_stands_k (f : File) (i : Int) (part : Int) : Ctr (Bool) := ⟨Tryz.prog, 133, [av f.cells, iv i, iv part], fun x => bv x, true, paper_stands f i part, (i = 0 ∨ (0 ≤ i ∧ i < (f.signs.length : Int))), fun h => paper_stands_fn f i part h, fun _ => True, trivial⟩
noncomputable def paper_bears_sk (f : File) (i : Int) (kinds : List Int) : Sk (Bool) :=
 .r 1 (.p (ixP i f.signs.length)) fun _ =>
 .r 2 (.dep ((paper_in_k ((f.signs.getD i.toNat default).for_) 0 (w64 (i - 1))).c) fun x1 => .andl (.wh x1 true (.p (ixP i f.signs.length))) (.dep (.wh x1 true ((paper_stands_k f ((f.signs.getD i.toNat default).for_) ((f.signs.getD i.toNat default).part)).c)) fun x2 => .andl (.wh (x1 && x2) true (.p (ixP ((f.signs.getD i.toNat default).for_) f.signs.length))) (.wh (x1 && x2) true ((slices_Contains_k kinds ((f.signs.getD (((f.signs.getD i.toNat default).for_).toNat) default).kind)).c)))) fun p4 =>
 .fin ((p4.1 && p4.2.1) && p4.2.2)
noncomputable def paper_bears (f : File) (i : Int) (kinds : List Int) : Bool := (paper_bears_sk f i kinds).val
theorem paper_bears_ok (f : File) (i : Int) (kinds : List Int) (hi : 0 ≤ i ∧ i < (f.signs.length : Int)) (hf : f.signs.length ≤ 1000000) : (paper_bears_sk f i kinds).obs (fun _ => True) := by
  refine Sk.obs_of _ ?_
  unfold paper_bears_sk
  simp only [Sk.obq, Sk.isLoop, reduceCtorEq, leafB, leafJ, Cal.z, Cal.p, Cal.t, Cal.pt, Cal.o, Cal.and, Cal.andl, Cal.andr, Cal.wh, Cal.dep, Cal.depr, Ctr.c, Ctr.nil, Ctr.nilc, CtrO.c, CtrO.nil, paper_in_k, paper_stands_k, slices_Contains_k, paper_in_eq, forall_eq, maxLen, implies_true, true_and, and_true, and_self, true_implies, false_implies, ixP, szP, mkP]
  all_goals (repeat' first | assumption | (apply And.intro) | (intro h))
  all_goals first | trivial | assumption | omega | ((try simp only [decide_eq_true_eq, decide_eq_false_iff_not, List.length_append, List.length_cons, List.length_nil, List.length_set, List.length_replicate, Bool.not_eq_true, Bool.not_eq_false, Int.not_lt, Int.not_le, Bool.and_eq_true, Bool.or_eq_true, Bool.and_eq_false_iff, Bool.or_eq_false_iff, Bool.not_eq_eq_eq_not, Bool.not_true, Bool.not_false, beq_iff_eq, bne_iff_ne, beq_eq_false_iff_ne, bne_eq_false_iff_eq, ne_eq, subL_length] at *) <;> first | omega | (refine (w64_id ?_ ?_).trans ?_ <;> omega) | (simp (disch := omega) only [w64_id] at *; omega) | (grind) | (simp_all; done) | (simp_all; omega))

theorem paper_bears_fn (f : File) (i : Int) (kinds : List Int) (hi : 0 ≤ i ∧ i < (f.signs.length : Int)) (hf : f.signs.length ≤ 1000000) : FnA Tryz.prog 132 [av f.cells, iv i, lv intC kinds] [] (bv (paper_bears f i kinds)) [] :=
  FnA.sk tok mixed (fun x => bv x) (fun _ => []) Tryz.func132 rfl (by kernel_rfl) 3000 (paper_bears_sk f i kinds) (by kernel_rfl) (paper_bears_ok f i kinds hi hf)
noncomputable def paper_bears_k (f : File) (i : Int) (kinds : List Int) : Ctr (Bool) := ⟨Tryz.prog, 132, [av f.cells, iv i, lv intC kinds], fun x => bv x, true, paper_bears f i kinds, (0 ≤ i ∧ i < (f.signs.length : Int)) ∧ (f.signs.length ≤ 1000000), fun h => paper_bears_fn f i kinds h.1 h.2, fun _ => True, trivial⟩
noncomputable def paper_fits_sk (r : Realm) (f : File) (i : Int) : Sk (Bool) :=
 .r 1 (.p (ixP i f.signs.length)) fun _ =>
 .br ((!((i == 0) == (((f.signs.getD i.toNat default).kind) == 0))) || ((((f.signs.getD i.toNat default).kind) != 2) && (((f.signs.getD i.toNat default).to_) != (-1))))
 (.fin false)
 (.br (((((f.signs.getD i.toNat default).kind) != 3) && (((f.signs.getD i.toNat default).kind) != 4)) && (((f.signs.getD i.toNat default).for_) != (-1)))
 (.fin false)
 (.r 7 ((paper_in_k ((f.signs.getD i.toNat default).sum) 1 1099511627776).c) fun x1 =>
 .br (((f.signs.getD i.toNat default).kind) == 0)
 (.fin ((((((((f.signs.getD i.toNat default).who) == f.bill.drawer) && (((f.signs.getD i.toNat default).sum) == 0)) && ((orK .i64 ((f.signs.getD i.toNat default).flags) 1) == 1)) && (((f.signs.getD i.toNat default).part) == 0)) && (((f.signs.getD i.toNat default).day) == f.bill.day)) && (((f.signs.getD i.toNat default).city) == f.bill.city)))
 (.br (((f.signs.getD i.toNat default).kind) == 1)
 (.fin ((((f.signs.getD i.toNat default).who) == f.bill.drawee) && (x1 && (((f.signs.getD i.toNat default).flags) == 0))))
 (.br (((f.signs.getD i.toNat default).kind) == 2)
 (.r 15 (.dep ((paper_in_k ((f.signs.getD i.toNat default).to_) (-1) (w64 (((r.firms.length : Nat) : Int) - 1))).c) fun x2 => .wh (x2 && (((f.signs.getD i.toNat default).sum) == 0)) true ((paper_in_k ((f.signs.getD i.toNat default).flags) 0 7).c)) fun p4 =>
 .fin (((p4.1 && (((f.signs.getD i.toNat default).sum) == 0)) && p4.2) && ((andK .i64 ((f.signs.getD i.toNat default).flags) 6) != 6)))
 (.br (((f.signs.getD i.toNat default).kind) == 3)
 (.r 17 (.andl (.wh ((((f.signs.getD i.toNat default).sum) == 0) && (((f.signs.getD i.toNat default).flags) == 0)) true (.o [.nrm (litC intE [0, 1, 2, 4])])) (.wh ((((f.signs.getD i.toNat default).sum) == 0) && (((f.signs.getD i.toNat default).flags) == 0)) true ((paper_bears_k f i [0, 1, 2, 4]).c))) fun x5 =>
 .fin (((((f.signs.getD i.toNat default).sum) == 0) && (((f.signs.getD i.toNat default).flags) == 0)) && x5))
 (.br (((f.signs.getD i.toNat default).kind) == 4)
 (.r 19 (.andl (.wh ((x1 && (((f.signs.getD i.toNat default).flags) == 0)) && (((f.signs.getD i.toNat default).who) != f.bill.drawee)) true (.o [.nrm (litC intE [0, 2])])) (.wh ((x1 && (((f.signs.getD i.toNat default).flags) == 0)) && (((f.signs.getD i.toNat default).who) != f.bill.drawee)) true ((paper_bears_k f i [0, 2]).c))) fun x6 =>
 .fin (((x1 && (((f.signs.getD i.toNat default).flags) == 0)) && (((f.signs.getD i.toNat default).who) != f.bill.drawee)) && x6))
 (.fin false)))))))
noncomputable def paper_fits (r : Realm) (f : File) (i : Int) : Bool := (paper_fits_sk r f i).val
theorem paper_fits_ok (r : Realm) (f : File) (i : Int) (hi : 0 ≤ i ∧ i < (f.signs.length : Int)) (hf : f.signs.length ≤ 1000000) : (paper_fits_sk r f i).obs (fun _ => True) := by
  refine Sk.obs_of _ ?_
  unfold paper_fits_sk
  simp only [Sk.obq, Sk.isLoop, reduceCtorEq, leafB, leafJ, Cal.z, Cal.p, Cal.t, Cal.pt, Cal.o, Cal.and, Cal.andl, Cal.andr, Cal.wh, Cal.dep, Cal.depr, Ctr.c, Ctr.nil, Ctr.nilc, CtrO.c, CtrO.nil, paper_bears_k, paper_in_k, paper_in_eq, forall_eq, maxLen, implies_true, true_and, and_true, and_self, true_implies, false_implies, ixP, szP, mkP]
  all_goals (repeat' first | assumption | (apply And.intro) | (intro h))
  all_goals first | trivial | assumption | omega | ((try simp only [decide_eq_true_eq, decide_eq_false_iff_not, List.length_append, List.length_cons, List.length_nil, List.length_set, List.length_replicate, Bool.not_eq_true, Bool.not_eq_false, Int.not_lt, Int.not_le, Bool.and_eq_true, Bool.or_eq_true, Bool.and_eq_false_iff, Bool.or_eq_false_iff, Bool.not_eq_eq_eq_not, Bool.not_true, Bool.not_false, beq_iff_eq, bne_iff_ne, beq_eq_false_iff_ne, bne_eq_false_iff_eq, ne_eq, subL_length] at *) <;> first | omega | (refine (w64_id ?_ ?_).trans ?_ <;> omega) | (simp (disch := omega) only [w64_id] at *; omega) | (grind) | (simp_all; done) | (simp_all; omega))

theorem paper_fits_fn (r : Realm) (f : File) (i : Int) (hi : 0 ≤ i ∧ i < (f.signs.length : Int)) (hf : f.signs.length ≤ 1000000) : FnA Tryz.prog 91 [av r.cells, av f.cells, iv i] [] (bv (paper_fits r f i)) [] :=
  FnA.sk tok mixed (fun x => bv x) (fun _ => []) Tryz.func91 rfl (by kernel_rfl) 3000 (paper_fits_sk r f i) (by kernel_rfl) (paper_fits_ok r f i hi hf)
noncomputable def paper_fits_k (r : Realm) (f : File) (i : Int) : Ctr (Bool) := ⟨Tryz.prog, 91, [av r.cells, av f.cells, iv i], fun x => bv x, true, paper_fits r f i, (0 ≤ i ∧ i < (f.signs.length : Int)) ∧ (f.signs.length ≤ 1000000), fun h => paper_fits_fn r f i h.1 h.2, fun _ => True, trivial⟩
def SignOK (r : Realm) (f : File) (q : Nat) : Prop := 0 ≤ (f.signs.getD q default).who ∧ (f.signs.getD q default).who < r.firms.length ∧ (if q = 0 then f.bill.day else (f.signs.getD (q - 1) default).day) ≤ (f.signs.getD q default).day ∧ (f.signs.getD q default).day ≤ 100000
def ActOK (f : File) (q : Nat) : Prop := f.bill.day ≤ (f.acts.getD q default).day ∧ (q ≠ 0 → (f.acts.getD (q - 1) default).day ≤ (f.acts.getD q default).day) ∧ (f.acts.getD q default).day ≤ 100000
def BillOK (r : Realm) (b : Bill) : Prop := 0 ≤ b.currency ∧ b.currency < r.currencies.length ∧ 0 ≤ b.day ∧ b.day ≤ 100000
def PaperOK (r : Realm) (f : File) : Prop := BillOK r f.bill ∧ (∀ q, q < f.signs.length → SignOK r f q) ∧ ∀ q, q < f.acts.length → ActOK f q
theorem subL_getD {α : Type} [Inhabited α] (L : List α) (n i : Nat) (h : i < n) : (subL L 0 n).getD i default = L.getD i default := by
  simp [subL, List.getD, h]
noncomputable def paper_sign_sk (r : Realm) (f : File) (i : Int) : Sk (Int) :=
 .r 1 (.p (ixP i f.signs.length)) fun _ =>
 .r 2 ((paper_in_k ((f.signs.getD i.toNat default).part) 0 (w64 (f.bill.parts - 1))).c) fun x1 =>
 .br (!x1)
 (.fin 15)
 (.r 4 (.dep ((paper_in_k ((f.signs.getD i.toNat default).who) 0 (w64 (((r.firms.length : Nat) : Int) - 1))).c) fun x2 => .wh (!x2) false ((paper_in_k ((f.signs.getD i.toNat default).city) 0 (w64 (((r.cities.length : Nat) : Int) - 1))).c)) fun p8 =>
 .br ((!p8.1) || (!p8.2))
 (.fin 1)
 (.r 7 (.andl (.o [.nrm (subC Sign.E f.signs 0 i.toNat)]) (.pt (0 ≤ i ∧ i ≤ ((f.signs.length : Nat) : Int)) (Sign.E.lens f.signs))) fun _ =>
 .bind true (fun b4 => b4.1 = (if i.toNat = 0 then f.bill.day else (f.signs.getD (i.toNat - 1) default).day))
 (.loop (default : Sum (Int) (Int × Bool)) (fun i5 => i5.2.2 ≤ i.toNat ∧ i5.1 = (if i5.2.2 = 0 then f.bill.day else (f.signs.getD (i5.2.2 - 1) default).day)) (fun i5 => (subL f.signs 0 i.toNat).length - i5.2.2) ((f.bill.day, false, 0) : Int × Bool × Nat)
 (fun (i5 : Int × Bool × Nat) => ⟨[(8, iv i5.1), (9, bv i5.2.1), (51, iv ((i5.2.2 : Nat) : Int))], []⟩) fun i5 =>
 .bnd 49 0 ((subL f.signs 0 i.toNat).length) <|
 .br (decide (((i5.2.2 : Nat) : Int) < (((subL f.signs 0 i.toNat).length : Nat) : Int)))
 (.r 9 (.p (ixP ((i5.2.2 : Nat) : Int) ((subL f.signs 0 i.toNat).length))) fun _ =>
 .r 12 .z fun _ =>
 .wi 51 (w64 (((i5.2.2 : Nat) : Int) + 1)) ((i5.2.2 + 1 : Nat) : Int) <|
 .fin (.inr (((subL f.signs 0 i.toNat).getD i5.2.2 default).day, i5.2.1 || (((((f.signs.getD i.toNat default).kind) == 1) && ((((subL f.signs 0 i.toNat).getD i5.2.2 default).kind) == 1)) && ((((subL f.signs 0 i.toNat).getD i5.2.2 default).part) == ((f.signs.getD i.toNat default).part))), i5.2.2 + 1)))
 (.fin (.inl (.inr (i5.1, i5.2.1)))))
 (fun (b4 : Int × Bool) => ⟨[(8, iv b4.1), (9, bv b4.2)], []⟩) fun b4 =>
 .r 13 ((paper_in_k ((f.signs.getD i.toNat default).day) b4.1 100000).c) fun x6 =>
 .br ((!x6) || ((i == 0) && (((f.signs.getD i.toNat default).day) != b4.1)))
 (.fin 13)
 (.r 15 ((paper_fits_k r f i).c) fun x7 =>
 .br (!x7)
 (.fin 14)
 (.br b4.2
 (.fin 5)
 (.fin 0)))))
noncomputable def paper_sign (r : Realm) (f : File) (i : Int) : Int := (paper_sign_sk r f i).val
theorem paper_sign_pst (r : Realm) (f : File) (i : Int) (hP : r.Small ∧ f.signs.length ≤ 1000000 ∧ 0 ≤ i ∧ i < (f.signs.length : Int)) : (paper_sign_sk r f i).pst (fun (x : Int) => x = 0 → SignOK r f i.toNat) := by
  refine Sk.pst_of _ ?_
  unfold paper_sign_sk
  simp only [Sk.pstq, Sk.isLoop, reduceCtorEq, leafB, leafJ, Cal.z, Cal.p, Cal.t, Cal.pt, Cal.o, Cal.and, Cal.andl, Cal.andr, Cal.wh, Cal.dep, Cal.depr, Ctr.c, Ctr.nil, Ctr.nilc, CtrO.c, CtrO.nil, paper_fits_k, paper_in_k, paper_in_eq, forall_eq, File.Small, Realm.Small, maxLen, implies_true, true_and, and_true, and_self, true_implies, false_implies, ixP, szP, mkP]
  obtain ⟨hr, hf, h0, h1⟩ := hP
  intro _
  refine ⟨fun _ h => absurd h (by decide), fun _ => ⟨fun _ h => absurd h (by decide), fun hwho _ => ⟨⟨⟨by omega, by simp⟩, fun k hk => ⟨fun hc _ _ => ⟨⟨?_, ?_⟩, ?_⟩, fun hc => ?_⟩⟩, fun b hb => ⟨fun _ h => absurd h (by decide), fun hd => ⟨fun _ h => absurd h (by decide), fun _ => ⟨fun _ h => absurd h (by decide), fun _ => ?_⟩⟩⟩⟩⟩⟩
  all_goals (try simp only [decide_eq_true_eq, decide_eq_false_iff_not, List.length_append, List.length_cons, List.length_nil, List.length_set, List.length_replicate, Bool.not_eq_true, Bool.not_eq_false, Int.not_lt, Int.not_le, Bool.and_eq_true, Bool.or_eq_true, Bool.and_eq_false_iff, Bool.or_eq_false_iff, Bool.not_eq_eq_eq_not, Bool.not_true, Bool.not_false, beq_iff_eq, bne_iff_ne, beq_eq_false_iff_ne, bne_eq_false_iff_eq, ne_eq, subL_length] at hc)
  · omega
  · rw [subL_getD _ _ _ (by omega), if_neg (by simp)]; rfl
  · simp only [subL_length] at hc ⊢; omega
  · have e : k.2.2 = i.toNat := by omega
    rw [hk.2, e]
  · simp only [decide_eq_true_eq, decide_eq_false_iff_not, List.length_append, List.length_cons, List.length_nil, List.length_set, List.length_replicate, Bool.not_eq_true, Bool.not_eq_false, Int.not_lt, Int.not_le, Bool.and_eq_true, Bool.or_eq_true, Bool.and_eq_false_iff, Bool.or_eq_false_iff, Bool.not_eq_eq_eq_not, Bool.not_true, Bool.not_false, beq_iff_eq, bne_iff_ne, beq_eq_false_iff_ne, bne_eq_false_iff_eq, ne_eq, subL_length] at hwho hd
    obtain ⟨⟨w1, w2⟩, _⟩ := hwho
    obtain ⟨⟨d1, d2⟩, _⟩ := hd
    unfold Realm.Small at hr
    rw [w64_id (by omega) (by omega)] at w2
    exact ⟨w1, by omega, by rw [← hb]; exact d1, d2⟩

theorem paper_sign_post (r : Realm) (f : File) (i : Int) : (fun (x : Int) => (r.Small ∧ f.signs.length ≤ 1000000 ∧ 0 ≤ i ∧ i < (f.signs.length : Int)) → (x = 0 → SignOK r f i.toNat)) (paper_sign r f i) := fun hP => Sk.pval _ (paper_sign_pst r f i hP)
theorem paper_sign_ok (r : Realm) (f : File) (i : Int) (hi : 0 ≤ i ∧ i < (f.signs.length : Int)) (hf : f.signs.length ≤ 1000000) (hr : r.Small) : (paper_sign_sk r f i).obs (fun _ => True) := by
  simp only [File.Small, Realm.Small] at hr
  refine Sk.obs_of _ ?_
  unfold paper_sign_sk
  simp only [Sk.obq, Sk.isLoop, reduceCtorEq, leafB, leafJ, Cal.z, Cal.p, Cal.t, Cal.pt, Cal.o, Cal.and, Cal.andl, Cal.andr, Cal.wh, Cal.dep, Cal.depr, Ctr.c, Ctr.nil, Ctr.nilc, CtrO.c, CtrO.nil, paper_fits_k, paper_in_k, paper_in_eq, forall_eq, File.Small, Realm.Small, maxLen, implies_true, true_and, and_true, and_self, true_implies, false_implies, ixP, szP, mkP]
  refine ⟨hi, fun _ hp hwho => ⟨⟨hi.1, by omega⟩, fun _ => ⟨⟨⟨by omega, by simp⟩, fun k hk hl => ⟨fun hc => ⟨⟨by omega, of_decide_eq_true hc⟩, fun _ _ => ⟨?_, ⟨⟨?_, ?_⟩, ?_⟩⟩⟩, fun hc => ?_⟩⟩, ?_⟩⟩⟩
  all_goals (try simp only [decide_eq_true_eq, decide_eq_false_iff_not, List.length_append, List.length_cons, List.length_nil, List.length_set, List.length_replicate, Bool.not_eq_true, Bool.not_eq_false, Int.not_lt, Int.not_le, Bool.and_eq_true, Bool.or_eq_true, Bool.and_eq_false_iff, Bool.or_eq_false_iff, Bool.not_eq_eq_eq_not, Bool.not_true, Bool.not_false, beq_iff_eq, bne_iff_ne, beq_eq_false_iff_ne, bne_eq_false_iff_eq, ne_eq, subL_length] at hc)
  · exact w64_id (by simp only [subL_length] at hl; omega) (by simp only [subL_length] at hl; omega)
  · omega
  · rw [subL_getD _ _ _ (by omega), if_neg (by simp)]; rfl
  · simp only [subL_length] at hc ⊢; omega
  · have e : k.2.2 = i.toNat := by omega
    rw [hk.2, e]
  · intro b hb hd
    exact ⟨hi, hf⟩

theorem paper_sign_fn (r : Realm) (f : File) (i : Int) (hi : 0 ≤ i ∧ i < (f.signs.length : Int)) (hf : f.signs.length ≤ 1000000) (hr : r.Small) : FnA Tryz.prog 48 [av r.cells, av f.cells, iv i] [] (iv (paper_sign r f i)) [] :=
  FnA.sk tok mixed (fun x => iv x) (fun _ => []) Tryz.func48 rfl (by kernel_rfl) 3000 (paper_sign_sk r f i) (by kernel_rfl) (paper_sign_ok r f i hi hf hr)
noncomputable def paper_sign_k (r : Realm) (f : File) (i : Int) : Ctr (Int) := ⟨Tryz.prog, 48, [av r.cells, av f.cells, iv i], fun x => iv x, true, paper_sign r f i, (0 ≤ i ∧ i < (f.signs.length : Int)) ∧ (f.signs.length ≤ 1000000) ∧ (r.Small), fun h => paper_sign_fn r f i h.1 h.2.1 h.2.2, fun (x : Int) => (r.Small ∧ f.signs.length ≤ 1000000 ∧ 0 ≤ i ∧ i < (f.signs.length : Int)) → (x = 0 → SignOK r f i.toNat), paper_sign_post r f i⟩
noncomputable def paper_act_sk (r : Realm) (f : File) (a : ActX) : Sk (Bool) :=
 .r 1 (.dep ((paper_in_k a.at_ 0 (w64 (((f.signs.length : Nat) : Int) - 1))).c) fun x1 => .wh x1 true ((paper_stands_k f a.at_ a.part).c)) fun p11 =>
 .r 2 (.wh (p11.1 && p11.2) true (.p (ixP a.at_ f.signs.length))) fun _ =>
 .r 3 ((paper_in_k a.to_ 0 (w64 (((r.firms.length : Nat) : Int) - 1))).c) fun x3 =>
 .r 4 ((paper_in_k a.who 0 (w64 (((r.firms.length : Nat) : Int) - 1))).c) fun x4 =>
 .br ((!x4) || ((a.kind != 4) && (a.form != 0)))
 (.fin false)
 (.bind false (fun _ => True)
 (.br (a.kind == 0)
 (.fin (.inr (a.kind == 0)))
 (.br (a.kind == 1)
 (.fin (.inr (a.kind == 1)))
 (.fin (.inr (a.kind == 2)))))
 (fun (b5 : Bool) => ⟨[(65, bv b5)], []⟩) fun b5 =>
 .br b5
 (.fin ((x3 && (a.at_ == (-1))) && (a.sum == 0)))
 (.bind false (fun _ => True)
 (.br (a.kind == 3)
 (.fin (.inr (a.kind == 3)))
 (.br (a.kind == 5)
 (.fin (.inr (a.kind == 5)))
 (.fin (.inr (a.kind == 4)))))
 (fun (b6 : Bool) => ⟨[(80, bv b6)], []⟩) fun b6 =>
 .br b6
 (.r 14 (.dep (.wh (x3 && (a.at_ == (-1))) true ((paper_in_k a.sum 0 1099511627776).c)) fun x7 => .wh ((x3 && (a.at_ == (-1))) && x7) true ((paper_in_k a.form 0 1).c)) fun p9 =>
 .fin (((x3 && (a.at_ == (-1))) && p9.1) && p9.2))
 (.br (a.kind == 6)
 (.r 16 (.wh (x3 && ((p11.1 && p11.2) && (((f.signs.getD a.at_.toNat default).who) == a.who))) true ((paper_in_k a.sum 1 1099511627776).c)) fun x10 =>
 .fin ((x3 && ((p11.1 && p11.2) && (((f.signs.getD a.at_.toNat default).who) == a.who))) && x10))
 (.br (a.kind == 9)
 (.fin (((a.to_ == (-1)) && ((p11.1 && p11.2) && (((f.signs.getD a.at_.toNat default).who) == a.who))) && (a.sum == 0)))
 (.fin (((a.to_ == (-1)) && (p11.1 && p11.2)) && (a.sum == 0)))))))
noncomputable def paper_act (r : Realm) (f : File) (a : ActX) : Bool := (paper_act_sk r f a).val
theorem paper_act_pst (r : Realm) (f : File) (a : ActX) (hP : f.signs.length ≤ 1000000) : (paper_act_sk r f a).pst (fun (x : Bool) => x = true → a.at_ = -1 ∨ (0 ≤ a.at_ ∧ a.at_ < (f.signs.length : Int))) := by
  refine Sk.pst_of _ ?_
  unfold paper_act_sk
  simp only [Sk.pstq, Sk.isLoop, reduceCtorEq, leafB, leafJ, Cal.z, Cal.p, Cal.t, Cal.pt, Cal.o, Cal.and, Cal.andl, Cal.andr, Cal.wh, Cal.dep, Cal.depr, Ctr.c, Ctr.nil, Ctr.nilc, CtrO.c, CtrO.nil, paper_in_k, paper_stands_k, paper_in_eq, forall_eq, maxLen, implies_true, true_and, and_true, and_self, true_implies, false_implies, ixP, szP, mkP]
  all_goals (repeat' first | assumption | (apply And.intro) | (intro h))
  all_goals first | trivial | assumption | omega | ((try simp only [decide_eq_true_eq, decide_eq_false_iff_not, List.length_append, List.length_cons, List.length_nil, List.length_set, List.length_replicate, Bool.not_eq_true, Bool.not_eq_false, Int.not_lt, Int.not_le, Bool.and_eq_true, Bool.or_eq_true, Bool.and_eq_false_iff, Bool.or_eq_false_iff, Bool.not_eq_eq_eq_not, Bool.not_true, Bool.not_false, beq_iff_eq, bne_iff_ne, beq_eq_false_iff_ne, bne_eq_false_iff_eq, ne_eq, subL_length] at *) <;> first | omega | (refine (w64_id ?_ ?_).trans ?_ <;> omega) | (simp (disch := omega) only [w64_id] at *; omega) | (grind) | (simp_all; done) | (simp_all; omega))

theorem paper_act_post (r : Realm) (f : File) (a : ActX) : (fun (x : Bool) => (f.signs.length ≤ 1000000) → (x = true → a.at_ = -1 ∨ (0 ≤ a.at_ ∧ a.at_ < (f.signs.length : Int)))) (paper_act r f a) := fun hP => Sk.pval _ (paper_act_pst r f a hP)
theorem paper_act_ok (r : Realm) (f : File) (a : ActX) (hf : f.signs.length ≤ 1000000) : (paper_act_sk r f a).obs (fun _ => True) := by
  refine Sk.obs_of _ ?_
  unfold paper_act_sk
  simp only [Sk.obq, Sk.isLoop, reduceCtorEq, leafB, leafJ, Cal.z, Cal.p, Cal.t, Cal.pt, Cal.o, Cal.and, Cal.andl, Cal.andr, Cal.wh, Cal.dep, Cal.depr, Ctr.c, Ctr.nil, Ctr.nilc, CtrO.c, CtrO.nil, paper_in_k, paper_stands_k, paper_in_eq, forall_eq, maxLen, implies_true, true_and, and_true, and_self, true_implies, false_implies, ixP, szP, mkP]
  all_goals (repeat' first | assumption | (apply And.intro) | (intro h))
  all_goals first | trivial | assumption | omega | ((try simp only [decide_eq_true_eq, decide_eq_false_iff_not, List.length_append, List.length_cons, List.length_nil, List.length_set, List.length_replicate, Bool.not_eq_true, Bool.not_eq_false, Int.not_lt, Int.not_le, Bool.and_eq_true, Bool.or_eq_true, Bool.and_eq_false_iff, Bool.or_eq_false_iff, Bool.not_eq_eq_eq_not, Bool.not_true, Bool.not_false, beq_iff_eq, bne_iff_ne, beq_eq_false_iff_ne, bne_eq_false_iff_eq, ne_eq, subL_length] at *) <;> first | omega | (refine (w64_id ?_ ?_).trans ?_ <;> omega) | (simp (disch := omega) only [w64_id] at *; omega) | (grind) | (simp_all; done) | (simp_all; omega))

theorem paper_act_fn (r : Realm) (f : File) (a : ActX) (hf : f.signs.length ≤ 1000000) : FnA Tryz.prog 92 [av r.cells, av f.cells, av a.cells] [] (bv (paper_act r f a)) [] :=
  FnA.sk tok mixed (fun x => bv x) (fun _ => []) Tryz.func92 rfl (by kernel_rfl) 3000 (paper_act_sk r f a) (by kernel_rfl) (paper_act_ok r f a hf)
noncomputable def paper_act_k (r : Realm) (f : File) (a : ActX) : Ctr (Bool) := ⟨Tryz.prog, 92, [av r.cells, av f.cells, av a.cells], fun x => bv x, true, paper_act r f a, (f.signs.length ≤ 1000000), fun h => paper_act_fn r f a h, fun (x : Bool) => (f.signs.length ≤ 1000000) → (x = true → a.at_ = -1 ∨ (0 ≤ a.at_ ∧ a.at_ < (f.signs.length : Int))), paper_act_post r f a⟩
noncomputable def paper_acts_sk (r : Realm) (f : File) : Sk (Int) :=
 .bind true (fun b1 => ∀ q, q < f.acts.length → ActOK f q)
 (.loop (default : Sum (Int) (Unit)) (fun i2 => i2 ≤ f.acts.length ∧ ∀ q, q < i2 → ActOK f q) (fun i2 => f.acts.length - i2) (0 : Nat)
 (fun (i2 : Nat) => ⟨[(11, iv ((i2 : Nat) : Int))], []⟩) fun i2 =>
 .bnd 9 0 f.acts.length <|
 .br (decide (((i2 : Nat) : Int) < ((f.acts.length : Nat) : Int)))
 (.r 3 (.p (ixP ((i2 : Nat) : Int) f.acts.length)) fun _ =>
 .r 4 ((paper_in_k ((f.acts.getD i2 default).part) 0 (w64 (f.bill.parts - 1))).c) fun x3 =>
 .br (!x3)
 (.fin (.inl (.inl 15)))
 (.r 6 (.dep ((paper_in_k ((f.acts.getD i2 default).city) 0 (w64 (((r.cities.length : Nat) : Int) - 1))).c) fun x4 => .wh (!x4) false ((paper_in_k ((f.acts.getD i2 default).kind) 0 9).c)) fun p10 =>
 .br ((!p10.1) || (!p10.2))
 (.fin (.inl (.inl 1)))
 (.r 8 ((paper_act_k r f (f.acts.getD i2 default)).c) fun x6 =>
 .br (!x6)
 (.fin (.inl (.inl 14)))
 (.bind false (fun b7 => f.bill.day ≤ b7)
 (.br (((f.acts.getD i2 default).at_) != (-1))
 (.r 12 (.p (ixP ((f.acts.getD i2 default).at_) f.signs.length)) fun _ =>
 .fin (.inr (maxI f.bill.day ((f.signs.getD (((f.acts.getD i2 default).at_).toNat) default).day))))
 (.fin (.inr f.bill.day)))
 (fun (b7 : Int) => ⟨[(7, iv b7)], []⟩) fun b7 =>
 .bind false (fun b8 => f.bill.day ≤ b8 ∧ (i2 ≠ 0 → (f.acts.getD (i2 - 1) default).day ≤ b8))
 (.br (decide (((i2 : Nat) : Int) > 0))
 (.r 14 (.p (ixP (w64 (((i2 : Nat) : Int) - 1)) f.acts.length)) fun _ =>
 .fin (.inr (maxI b7 ((f.acts.getD ((w64 (((i2 : Nat) : Int) - 1)).toNat) default).day))))
 (.fin (.inr b7)))
 (fun (b8 : Int) => ⟨[(7, iv b8)], []⟩) fun b8 =>
 .r 15 ((paper_in_k ((f.acts.getD i2 default).day) b8 100000).c) fun x9 =>
 .br (!x9)
 (.fin (.inl (.inl 13)))
 (.r 17 .z fun _ =>
 .wi 11 (w64 (((i2 : Nat) : Int) + 1)) ((i2 + 1 : Nat) : Int) <|
 .fin (.inr (i2 + 1)))))))
 (.fin (.inl (.inr ()))))
 (fun (_ : Unit) => ⟨[], []⟩) fun _ =>
 .fin 0
noncomputable def paper_acts (r : Realm) (f : File) : Int := (paper_acts_sk r f).val
theorem paper_acts_pst (r : Realm) (f : File) (hP : f.signs.length ≤ 1000000 ∧ f.acts.length ≤ 1000000) : (paper_acts_sk r f).pst (fun (x : Int) => x = 0 → ∀ q, q < f.acts.length → ActOK f q) := by
  refine Sk.pst_of _ ?_
  unfold paper_acts_sk
  simp only [Sk.pstq, Sk.isLoop, reduceCtorEq, leafB, leafJ, Cal.z, Cal.p, Cal.t, Cal.pt, Cal.o, Cal.and, Cal.andl, Cal.andr, Cal.wh, Cal.dep, Cal.depr, Ctr.c, Ctr.nil, Ctr.nilc, CtrO.c, CtrO.nil, paper_act_k, paper_in_k, paper_in_eq, forall_eq, maxLen, implies_true, true_and, and_true, and_self, true_implies, false_implies, ixP, szP, mkP]
  obtain ⟨hf, ha⟩ := hP
  refine ⟨⟨⟨by omega, fun q hq => absurd hq (by omega)⟩, fun k hk => ⟨fun hc _ => ⟨fun _ h => absurd h (by decide), fun _ => ⟨fun _ h => absurd h (by decide), fun _ hact => ⟨fun _ h => absurd h (by decide), fun ha2 => ⟨⟨fun _ _ => ?_, fun _ => Int.le_refl _⟩, fun b _ hb => ⟨⟨fun hk0 _ => ⟨?_, fun _ => ?_⟩, fun hk0 => ⟨hb, fun h => ?_⟩⟩, fun c _ hcc => ⟨fun _ h => absurd h (by decide), fun hd _ => ⟨⟨?_, fun q hq => ?_⟩, ?_⟩⟩⟩⟩⟩⟩⟩, fun hc q hq => hk.2 q (by simp only [decide_eq_true_eq, decide_eq_false_iff_not, List.length_append, List.length_cons, List.length_nil, List.length_set, List.length_replicate, Bool.not_eq_true, Bool.not_eq_false, Int.not_lt, Int.not_le, Bool.and_eq_true, Bool.or_eq_true, Bool.and_eq_false_iff, Bool.or_eq_false_iff, Bool.not_eq_eq_eq_not, Bool.not_true, Bool.not_false, beq_iff_eq, bne_iff_ne, beq_eq_false_iff_ne, bne_eq_false_iff_eq, ne_eq, subL_length] at hc; omega)⟩⟩, ?_⟩
  all_goals (try simp only [decide_eq_true_eq, decide_eq_false_iff_not, List.length_append, List.length_cons, List.length_nil, List.length_set, List.length_replicate, Bool.not_eq_true, Bool.not_eq_false, Int.not_lt, Int.not_le, Bool.and_eq_true, Bool.or_eq_true, Bool.and_eq_false_iff, Bool.or_eq_false_iff, Bool.not_eq_eq_eq_not, Bool.not_true, Bool.not_false, beq_iff_eq, bne_iff_ne, beq_eq_false_iff_ne, bne_eq_false_iff_eq, ne_eq, subL_length] at hc)
  · unfold maxI; omega
  · unfold maxI; omega
  · simp only [decide_eq_true_eq, decide_eq_false_iff_not, List.length_append, List.length_cons, List.length_nil, List.length_set, List.length_replicate, Bool.not_eq_true, Bool.not_eq_false, Int.not_lt, Int.not_le, Bool.and_eq_true, Bool.or_eq_true, Bool.and_eq_false_iff, Bool.or_eq_false_iff, Bool.not_eq_eq_eq_not, Bool.not_true, Bool.not_false, beq_iff_eq, bne_iff_ne, beq_eq_false_iff_ne, bne_eq_false_iff_eq, ne_eq, subL_length] at hk0
    have e : (w64 ((k : Int) - 1)).toNat = k - 1 := by rw [w64_id (by omega) (by omega)]; omega
    rw [e]; unfold maxI; omega
  · simp only [decide_eq_true_eq, decide_eq_false_iff_not, List.length_append, List.length_cons, List.length_nil, List.length_set, List.length_replicate, Bool.not_eq_true, Bool.not_eq_false, Int.not_lt, Int.not_le, Bool.and_eq_true, Bool.or_eq_true, Bool.and_eq_false_iff, Bool.or_eq_false_iff, Bool.not_eq_eq_eq_not, Bool.not_true, Bool.not_false, beq_iff_eq, bne_iff_ne, beq_eq_false_iff_ne, bne_eq_false_iff_eq, ne_eq, subL_length] at hk0; omega
  · omega
  · simp only [decide_eq_true_eq, decide_eq_false_iff_not, List.length_append, List.length_cons, List.length_nil, List.length_set, List.length_replicate, Bool.not_eq_true, Bool.not_eq_false, Int.not_lt, Int.not_le, Bool.and_eq_true, Bool.or_eq_true, Bool.and_eq_false_iff, Bool.or_eq_false_iff, Bool.not_eq_eq_eq_not, Bool.not_true, Bool.not_false, beq_iff_eq, bne_iff_ne, beq_eq_false_iff_ne, bne_eq_false_iff_eq, ne_eq, subL_length] at hd
    by_cases e : q = k
    · subst e
      exact ⟨by omega, fun h => by have := hcc.2 h; omega, hd.2⟩
    · exact hk.2 q (by omega)
  · omega
  · first | exact fun _ hb => hb | exact fun _ hb _ => hb | trivial

theorem paper_acts_post (r : Realm) (f : File) : (fun (x : Int) => (f.signs.length ≤ 1000000 ∧ f.acts.length ≤ 1000000) → (x = 0 → ∀ q, q < f.acts.length → ActOK f q)) (paper_acts r f) := fun hP => Sk.pval _ (paper_acts_pst r f hP)
theorem paper_acts_ok (r : Realm) (f : File) (hf : f.signs.length ≤ 1000000) (ha : f.acts.length ≤ 1000000) : (paper_acts_sk r f).obs (fun _ => True) := by
  refine Sk.obs_of _ ?_
  unfold paper_acts_sk
  simp only [Sk.obq, Sk.isLoop, reduceCtorEq, leafB, leafJ, Cal.z, Cal.p, Cal.t, Cal.pt, Cal.o, Cal.and, Cal.andl, Cal.andr, Cal.wh, Cal.dep, Cal.depr, Ctr.c, Ctr.nil, Ctr.nilc, CtrO.c, CtrO.nil, paper_act_k, paper_in_k, paper_in_eq, forall_eq, maxLen, implies_true, true_and, and_true, and_self, true_implies, false_implies, ixP, szP, mkP]
  refine ⟨⟨by omega, fun q hq => absurd hq (by omega)⟩, fun k hk hl => ⟨fun hc => ⟨⟨by omega, of_decide_eq_true hc⟩, fun _ _ _ => ⟨hf, fun hact ha2 => ⟨⟨fun hne => ⟨?_, fun _ => ?_⟩, fun _ => Int.le_refl _⟩, fun b _ hb => ⟨⟨fun hk0 => ⟨⟨?_, ?_⟩, fun _ => ⟨?_, fun _ => ?_⟩⟩, fun hk0 => ⟨hb, fun h => ?_⟩⟩, fun c _ hcc hd _ => ⟨?_, ⟨?_, fun q hq => ?_⟩, ?_⟩⟩⟩⟩⟩, fun hc q hq => hk.2 q (by simp only [decide_eq_true_eq, decide_eq_false_iff_not, List.length_append, List.length_cons, List.length_nil, List.length_set, List.length_replicate, Bool.not_eq_true, Bool.not_eq_false, Int.not_lt, Int.not_le, Bool.and_eq_true, Bool.or_eq_true, Bool.and_eq_false_iff, Bool.or_eq_false_iff, Bool.not_eq_eq_eq_not, Bool.not_true, Bool.not_false, beq_iff_eq, bne_iff_ne, beq_eq_false_iff_ne, bne_eq_false_iff_eq, ne_eq, subL_length] at hc; omega)⟩⟩
  all_goals (try simp only [decide_eq_true_eq, decide_eq_false_iff_not, List.length_append, List.length_cons, List.length_nil, List.length_set, List.length_replicate, Bool.not_eq_true, Bool.not_eq_false, Int.not_lt, Int.not_le, Bool.and_eq_true, Bool.or_eq_true, Bool.and_eq_false_iff, Bool.or_eq_false_iff, Bool.not_eq_eq_eq_not, Bool.not_true, Bool.not_false, beq_iff_eq, bne_iff_ne, beq_eq_false_iff_ne, bne_eq_false_iff_eq, ne_eq, subL_length] at hc)
  · simp only [decide_eq_true_eq, decide_eq_false_iff_not, List.length_append, List.length_cons, List.length_nil, List.length_set, List.length_replicate, Bool.not_eq_true, Bool.not_eq_false, Int.not_lt, Int.not_le, Bool.and_eq_true, Bool.or_eq_true, Bool.and_eq_false_iff, Bool.or_eq_false_iff, Bool.not_eq_eq_eq_not, Bool.not_true, Bool.not_false, beq_iff_eq, bne_iff_ne, beq_eq_false_iff_ne, bne_eq_false_iff_eq, ne_eq, subL_length] at hne ha2
    have := hact hf ha2
    omega
  · unfold maxI; omega
  · simp only [decide_eq_true_eq, decide_eq_false_iff_not, List.length_append, List.length_cons, List.length_nil, List.length_set, List.length_replicate, Bool.not_eq_true, Bool.not_eq_false, Int.not_lt, Int.not_le, Bool.and_eq_true, Bool.or_eq_true, Bool.and_eq_false_iff, Bool.or_eq_false_iff, Bool.not_eq_eq_eq_not, Bool.not_true, Bool.not_false, beq_iff_eq, bne_iff_ne, beq_eq_false_iff_ne, bne_eq_false_iff_eq, ne_eq, subL_length] at hk0; rw [w64_id (by omega) (by omega)]; omega
  · simp only [decide_eq_true_eq, decide_eq_false_iff_not, List.length_append, List.length_cons, List.length_nil, List.length_set, List.length_replicate, Bool.not_eq_true, Bool.not_eq_false, Int.not_lt, Int.not_le, Bool.and_eq_true, Bool.or_eq_true, Bool.and_eq_false_iff, Bool.or_eq_false_iff, Bool.not_eq_eq_eq_not, Bool.not_true, Bool.not_false, beq_iff_eq, bne_iff_ne, beq_eq_false_iff_ne, bne_eq_false_iff_eq, ne_eq, subL_length] at hk0; rw [w64_id (by omega) (by omega)]; omega
  · unfold maxI; omega
  · simp only [decide_eq_true_eq, decide_eq_false_iff_not, List.length_append, List.length_cons, List.length_nil, List.length_set, List.length_replicate, Bool.not_eq_true, Bool.not_eq_false, Int.not_lt, Int.not_le, Bool.and_eq_true, Bool.or_eq_true, Bool.and_eq_false_iff, Bool.or_eq_false_iff, Bool.not_eq_eq_eq_not, Bool.not_true, Bool.not_false, beq_iff_eq, bne_iff_ne, beq_eq_false_iff_ne, bne_eq_false_iff_eq, ne_eq, subL_length] at hk0
    have e : (w64 ((k : Int) - 1)).toNat = k - 1 := by rw [w64_id (by omega) (by omega)]; omega
    rw [e]; unfold maxI; omega
  · simp only [decide_eq_true_eq, decide_eq_false_iff_not, List.length_append, List.length_cons, List.length_nil, List.length_set, List.length_replicate, Bool.not_eq_true, Bool.not_eq_false, Int.not_lt, Int.not_le, Bool.and_eq_true, Bool.or_eq_true, Bool.and_eq_false_iff, Bool.or_eq_false_iff, Bool.not_eq_eq_eq_not, Bool.not_true, Bool.not_false, beq_iff_eq, bne_iff_ne, beq_eq_false_iff_ne, bne_eq_false_iff_eq, ne_eq, subL_length] at hk0; omega
  · exact w64_id (by omega) (by omega)
  · omega
  · simp only [decide_eq_true_eq, decide_eq_false_iff_not, List.length_append, List.length_cons, List.length_nil, List.length_set, List.length_replicate, Bool.not_eq_true, Bool.not_eq_false, Int.not_lt, Int.not_le, Bool.and_eq_true, Bool.or_eq_true, Bool.and_eq_false_iff, Bool.or_eq_false_iff, Bool.not_eq_eq_eq_not, Bool.not_true, Bool.not_false, beq_iff_eq, bne_iff_ne, beq_eq_false_iff_ne, bne_eq_false_iff_eq, ne_eq, subL_length] at hd
    by_cases e : q = k
    · subst e
      exact ⟨by omega, fun h => by have := hcc.2 h; omega, hd.2⟩
    · exact hk.2 q (by omega)
  · omega

theorem paper_acts_fn (r : Realm) (f : File) (hf : f.signs.length ≤ 1000000) (ha : f.acts.length ≤ 1000000) : FnA Tryz.prog 50 [av r.cells, av f.cells] [] (iv (paper_acts r f)) [] :=
  FnA.sk tok mixed (fun x => iv x) (fun _ => []) Tryz.func50 rfl (by kernel_rfl) 3000 (paper_acts_sk r f) (by kernel_rfl) (paper_acts_ok r f hf ha)
noncomputable def paper_acts_k (r : Realm) (f : File) : Ctr (Int) := ⟨Tryz.prog, 50, [av r.cells, av f.cells], fun x => iv x, true, paper_acts r f, (f.signs.length ≤ 1000000) ∧ (f.acts.length ≤ 1000000), fun h => paper_acts_fn r f h.1 h.2, fun (x : Int) => (f.signs.length ≤ 1000000 ∧ f.acts.length ≤ 1000000) → (x = 0 → ∀ q, q < f.acts.length → ActOK f q), paper_acts_post r f⟩
noncomputable def cmp_isNaN_sk (x_ : Int) : Sk (Bool) :=
 .fin (x_ != x_)
noncomputable def cmp_isNaN (x_ : Int) : Bool := (cmp_isNaN_sk x_).val
theorem cmp_isNaN_eq (x_ : Int) : cmp_isNaN x_ = (x_ != x_) := rfl
theorem cmp_isNaN_ok (x_ : Int) : (cmp_isNaN_sk x_).obs (fun _ => True) := by
  refine Sk.obs_of _ ?_
  unfold cmp_isNaN_sk
  simp only [Sk.obq, Sk.isLoop, reduceCtorEq, leafB, leafJ, Cal.z, Cal.p, Cal.t, Cal.pt, Cal.o, Cal.and, Cal.andl, Cal.andr, Cal.wh, Cal.dep, Cal.depr, Ctr.c, Ctr.nil, Ctr.nilc, CtrO.c, CtrO.nil, maxLen, implies_true, true_and, and_true, and_self, true_implies, false_implies, ixP, szP, mkP]

theorem cmp_isNaN_fn (x_ : Int) : FnA Tryz.prog 134 [iv x_] [] (bv (cmp_isNaN x_)) [] :=
  FnA.sk tok mixed (fun x => bv x) (fun _ => []) Tryz.func134 rfl (by kernel_rfl) 3000 (cmp_isNaN_sk x_) (by kernel_rfl) (cmp_isNaN_ok x_)
noncomputable def cmp_isNaN_k (x_ : Int) : Ctr (Bool) := ⟨Tryz.prog, 134, [iv x_], fun x => bv x, true, cmp_isNaN x_, True, fun _ => cmp_isNaN_fn x_, fun _ => True, trivial⟩
noncomputable def cmp_Compare_sk (x_ : Int) (y : Int) : Sk (Int) :=
 .r 1 ((cmp_isNaN_k x_).c) fun x1 =>
 .r 2 ((cmp_isNaN_k y).c) fun x2 =>
 .br x1
 (.br x2
 (.fin 0)
 (.fin (-1)))
 (.br x2
 (.fin 1)
 (.br (decide (x_ < y))
 (.fin (-1))
 (.br (decide (x_ > y))
 (.fin 1)
 (.fin 0))))
noncomputable def cmp_Compare (x_ : Int) (y : Int) : Int := (cmp_Compare_sk x_ y).val
theorem cmp_Compare_ok (x_ : Int) (y : Int) : (cmp_Compare_sk x_ y).obs (fun _ => True) := by
  refine Sk.obs_of _ ?_
  unfold cmp_Compare_sk
  simp only [Sk.obq, Sk.isLoop, reduceCtorEq, leafB, leafJ, Cal.z, Cal.p, Cal.t, Cal.pt, Cal.o, Cal.and, Cal.andl, Cal.andr, Cal.wh, Cal.dep, Cal.depr, Ctr.c, Ctr.nil, Ctr.nilc, CtrO.c, CtrO.nil, cmp_isNaN_k, cmp_isNaN_eq, forall_eq, maxLen, implies_true, true_and, and_true, and_self, true_implies, false_implies, ixP, szP, mkP]

theorem cmp_Compare_fn (x_ : Int) (y : Int) : FnA Tryz.prog 94 [iv x_, iv y] [] (iv (cmp_Compare x_ y)) [] :=
  FnA.sk tok mixed (fun x => iv x) (fun _ => []) Tryz.func94 rfl (by kernel_rfl) 3000 (cmp_Compare_sk x_ y) (by kernel_rfl) (cmp_Compare_ok x_ y)
noncomputable def cmp_Compare_k (x_ : Int) (y : Int) : Ctr (Int) := ⟨Tryz.prog, 94, [iv x_, iv y], fun x => iv x, true, cmp_Compare x_ y, True, fun _ => cmp_Compare_fn x_ y, fun _ => True, trivial⟩
noncomputable def cmp_Or_sk (vals : List Int) : Sk (Int) :=
 .bind true (fun _ => True)
 (.loop (default : Sum (Int) (Unit)) (fun i2 => i2 ≤ vals.length) (fun i2 => vals.length - i2) (0 : Nat)
 (fun (i2 : Nat) => ⟨[(8, iv ((i2 : Nat) : Int))], []⟩) fun i2 =>
 .bnd 6 0 vals.length <|
 .br (decide (((i2 : Nat) : Int) < ((vals.length : Nat) : Int)))
 (.r 4 (.p (ixP ((i2 : Nat) : Int) vals.length)) fun _ =>
 .br ((vals.getD i2 default) != 0)
 (.fin (.inl (.inl (vals.getD i2 default))))
 (.r 7 .z fun _ =>
 .wi 8 (w64 (((i2 : Nat) : Int) + 1)) ((i2 + 1 : Nat) : Int) <|
 .fin (.inr (i2 + 1))))
 (.fin (.inl (.inr ()))))
 (fun (_ : Unit) => ⟨[], []⟩) fun _ =>
 .fin 0
noncomputable def cmp_Or (vals : List Int) : Int := (cmp_Or_sk vals).val
theorem cmp_Or_ok (vals : List Int) : (cmp_Or_sk vals).obs (fun _ => True) := by
  refine Sk.obs_of _ ?_
  unfold cmp_Or_sk
  simp only [Sk.obq, Sk.isLoop, reduceCtorEq, leafB, leafJ, Cal.z, Cal.p, Cal.t, Cal.pt, Cal.o, Cal.and, Cal.andl, Cal.andr, Cal.wh, Cal.dep, Cal.depr, Ctr.c, Ctr.nil, Ctr.nilc, CtrO.c, CtrO.nil, maxLen, implies_true, true_and, and_true, and_self, true_implies, false_implies, ixP, szP, mkP]
  all_goals (repeat' first | assumption | (apply And.intro) | (intro h))
  all_goals first | trivial | assumption | omega | ((try simp only [decide_eq_true_eq, decide_eq_false_iff_not, List.length_append, List.length_cons, List.length_nil, List.length_set, List.length_replicate, Bool.not_eq_true, Bool.not_eq_false, Int.not_lt, Int.not_le, Bool.and_eq_true, Bool.or_eq_true, Bool.and_eq_false_iff, Bool.or_eq_false_iff, Bool.not_eq_eq_eq_not, Bool.not_true, Bool.not_false, beq_iff_eq, bne_iff_ne, beq_eq_false_iff_ne, bne_eq_false_iff_eq, ne_eq, subL_length] at *) <;> first | omega | (refine (w64_id ?_ ?_).trans ?_ <;> omega) | (simp (disch := omega) only [w64_id] at *; omega) | (grind) | (simp_all; done) | (simp_all; omega))

theorem cmp_Or_fn (vals : List Int) : FnA Tryz.prog 93 [lv intC vals] [] (iv (cmp_Or vals)) [] :=
  FnA.sk tok mixed (fun x => iv x) (fun _ => []) Tryz.func93 rfl (by kernel_rfl) 3000 (cmp_Or_sk vals) (by kernel_rfl) (cmp_Or_ok vals)
noncomputable def cmp_Or_k (vals : List Int) : Ctr (Int) := ⟨Tryz.prog, 93, [lv intC vals], fun x => iv x, true, cmp_Or vals, True, fun _ => cmp_Or_fn vals, fun _ => True, trivial⟩
noncomputable def paper_facts_sk (f : File) : Sk (Int) :=
 .bind true (fun _ => True)
 (.loop (default : Sum (Int) (Unit)) (fun i2 => i2 ≤ f.facts.length) (fun i2 => f.facts.length - i2) (0 : Nat)
 (fun (i2 : Nat) => ⟨[(9, iv ((i2 : Nat) : Int))], []⟩) fun i2 =>
 .bnd 7 0 f.facts.length <|
 .br (decide (((i2 : Nat) : Int) < ((f.facts.length : Nat) : Int)))
 (.r 3 (.p (ixP ((i2 : Nat) : Int) f.facts.length)) fun _ =>
 .r 4 (.dep ((paper_in_k ((f.facts.getD i2 default).kind) 0 4).c) fun x3 => .dep (.wh (!x3) false ((paper_in_k ((f.facts.getD i2 default).at_) 0 (w64 (((f.signs.length : Nat) : Int) - 1))).c)) fun x4 => .wh ((!x3) || (!x4)) false ((paper_in_k ((f.facts.getD i2 default).n) 0 1).c)) fun p10 =>
 .br (((!p10.1) || (!p10.2.1)) || (!p10.2.2))
 (.fin (.inl (.inl 1)))
 (.br (((i2 : Nat) : Int) == 0)
 (.r 10 .z fun _ =>
 .wi 9 (w64 (((i2 : Nat) : Int) + 1)) ((i2 + 1 : Nat) : Int) <|
 .fin (.inr (i2 + 1)))
 (.r 7 (.p (ixP (w64 (((i2 : Nat) : Int) - 1)) f.facts.length)) fun _ =>
 .r 8 (.dep ((cmp_Compare_k ((f.facts.getD ((w64 (((i2 : Nat) : Int) - 1)).toNat) default).at_) ((f.facts.getD i2 default).at_)).c) fun x6 => .dep ((cmp_Compare_k ((f.facts.getD ((w64 (((i2 : Nat) : Int) - 1)).toNat) default).kind) ((f.facts.getD i2 default).kind)).c) fun x7 => .andl (.o [.nrm (litC intE [x6, x7])]) ((cmp_Or_k [x6, x7]).c)) fun p9 =>
 .br (decide (p9.2.2 ≥ 0))
 (.fin (.inl (.inl 5)))
 (.r 10 .z fun _ =>
 .wi 9 (w64 (((i2 : Nat) : Int) + 1)) ((i2 + 1 : Nat) : Int) <|
 .fin (.inr (i2 + 1))))))
 (.fin (.inl (.inr ()))))
 (fun (_ : Unit) => ⟨[], []⟩) fun _ =>
 .fin 0
noncomputable def paper_facts (f : File) : Int := (paper_facts_sk f).val
theorem paper_facts_ok (f : File) : (paper_facts_sk f).obs (fun _ => True) := by
  refine Sk.obs_of _ ?_
  unfold paper_facts_sk
  simp only [Sk.obq, Sk.isLoop, reduceCtorEq, leafB, leafJ, Cal.z, Cal.p, Cal.t, Cal.pt, Cal.o, Cal.and, Cal.andl, Cal.andr, Cal.wh, Cal.dep, Cal.depr, Ctr.c, Ctr.nil, Ctr.nilc, CtrO.c, CtrO.nil, cmp_Compare_k, cmp_Or_k, paper_in_k, paper_in_eq, forall_eq, maxLen, implies_true, true_and, and_true, and_self, true_implies, false_implies, ixP, szP, mkP]
  all_goals (repeat' first | assumption | (apply And.intro) | (intro h))
  all_goals first | trivial | assumption | omega | ((try simp only [decide_eq_true_eq, decide_eq_false_iff_not, List.length_append, List.length_cons, List.length_nil, List.length_set, List.length_replicate, Bool.not_eq_true, Bool.not_eq_false, Int.not_lt, Int.not_le, Bool.and_eq_true, Bool.or_eq_true, Bool.and_eq_false_iff, Bool.or_eq_false_iff, Bool.not_eq_eq_eq_not, Bool.not_true, Bool.not_false, beq_iff_eq, bne_iff_ne, beq_eq_false_iff_ne, bne_eq_false_iff_eq, ne_eq, subL_length] at *) <;> first | omega | (refine (w64_id ?_ ?_).trans ?_ <;> omega) | (simp (disch := omega) only [w64_id] at *; omega) | (grind) | (simp_all; done) | (simp_all; omega))

theorem paper_facts_fn (f : File) : FnA Tryz.prog 51 [av f.cells] [] (iv (paper_facts f)) [] :=
  FnA.sk tok mixed (fun x => iv x) (fun _ => []) Tryz.func51 rfl (by kernel_rfl) 3000 (paper_facts_sk f) (by kernel_rfl) (paper_facts_ok f)
noncomputable def paper_facts_k (f : File) : Ctr (Int) := ⟨Tryz.prog, 51, [av f.cells], fun x => iv x, true, paper_facts f, True, fun _ => paper_facts_fn f, fun _ => True, trivial⟩
noncomputable def paper_Check_sk (r : Realm) (f : File) : Sk (Int) :=
 .br ((((decide (((f.signs.length : Nat) : Int) > 40)) || (decide (((f.alters.length : Nat) : Int) > 4))) || (decide (((f.acts.length : Nat) : Int) > 100))) || (decide (((f.facts.length : Nat) : Int) > 200)))
 (.fin 6)
 (.r 3 ((wording_Check_k r f.bill).c) fun x1 =>
 .br (x1 != 0)
 (.fin x1)
 (.br (((f.signs.length : Nat) : Int) == 0)
 (.fin 14)
 (.bind true (fun b2 => ∀ q, q < f.signs.length → SignOK r f q)
 (.loop (default : Sum (Int) (Unit)) (fun i3 => i3 ≤ f.signs.length ∧ ∀ q, q < i3 → SignOK r f q) (fun i3 => f.signs.length - i3) (0 : Nat)
 (fun (i3 : Nat) => ⟨[(48, iv ((i3 : Nat) : Int))], []⟩) fun i3 =>
 .bnd 3 15 f.signs.length <|
 .br (decide (((i3 : Nat) : Int) < ((f.signs.length : Nat) : Int)))
 (.r 11 ((paper_sign_k r f ((i3 : Nat) : Int)).c) fun x4 =>
 .br (x4 != 0)
 (.fin (.inl (.inl x4)))
 (.r 14 .z fun _ =>
 .wi 48 (w64 (((i3 : Nat) : Int) + 1)) ((i3 + 1 : Nat) : Int) <|
 .fin (.inr (i3 + 1))))
 (.fin (.inl (.inr ()))))
 (fun (_ : Unit) => ⟨[], []⟩) fun _ =>
 .bind true (fun _ => True)
 (.loop (default : Sum (Int) (Unit)) (fun i6 => i6.2 ≤ f.alters.length) (fun i6 => f.alters.length - i6.2) ((0, 0) : Int × Nat)
 (fun (i6 : Int × Nat) => ⟨[(8, iv i6.1), (62, iv ((i6.2 : Nat) : Int))], []⟩) fun i6 =>
 .bnd 60 0 f.alters.length <|
 .br (decide (((i6.2 : Nat) : Int) < ((f.alters.length : Nat) : Int)))
 (.r 18 (.p (ixP ((i6.2 : Nat) : Int) f.alters.length)) fun _ =>
 .r 19 ((paper_in_k ((f.alters.getD i6.2 default).at_) (w64 (i6.1 + 1)) ((f.signs.length : Nat) : Int)).c) fun x7 =>
 .br (!x7)
 (.fin (.inl (.inl 1)))
 (.r 21 ((paper_in_k ((f.alters.getD i6.2 default).sum) 1 1099511627776).c) fun x8 =>
 .br (!x8)
 (.fin (.inl (.inl 3)))
 (.r 24 .z fun _ =>
 .wi 62 (w64 (((i6.2 : Nat) : Int) + 1)) ((i6.2 + 1 : Nat) : Int) <|
 .fin (.inr ((f.alters.getD i6.2 default).at_, i6.2 + 1)))))
 (.fin (.inl (.inr ()))))
 (fun (_ : Unit) => ⟨[], []⟩) fun _ =>
 .r 25 ((paper_acts_k r f).c) fun x9 =>
 .br (x9 != 0)
 (.fin x9)
 (.r 28 ((paper_facts_k f).c) fun x10 =>
 .fin x10))))
noncomputable def paper_Check (r : Realm) (f : File) : Int := (paper_Check_sk r f).val
theorem paper_Check_pst (r : Realm) (f : File) (hP : r.Small) : (paper_Check_sk r f).pst (fun (x : Int) => x = 0 → PaperOK r f) := by
  refine Sk.pst_of _ ?_
  unfold paper_Check_sk
  simp only [Sk.pstq, Sk.isLoop, reduceCtorEq, leafB, leafJ, Cal.z, Cal.p, Cal.t, Cal.pt, Cal.o, Cal.and, Cal.andl, Cal.andr, Cal.wh, Cal.dep, Cal.depr, Ctr.c, Ctr.nil, Ctr.nilc, CtrO.c, CtrO.nil, paper_acts_k, paper_facts_k, paper_in_k, paper_sign_k, wording_Check_k, paper_in_eq, forall_eq, File.Small, Realm.Small, maxLen, implies_true, true_and, and_true, and_self, true_implies, false_implies, ixP, szP, mkP]
  refine ⟨fun _ h => absurd h (by decide), fun hlen hw => ⟨fun h1 h2 => ?_, fun hwz => ⟨fun _ h => absurd h (by decide), fun _ => ⟨⟨⟨by omega, fun q hq => absurd hq (by omega)⟩, fun k hk => ⟨fun hc hs => ⟨fun h1 h2 => ?_, fun h1 _ => ⟨⟨?_, fun q hq => ?_⟩, ?_⟩⟩, fun hc q hq => hk.2 q (by simp only [decide_eq_true_eq, decide_eq_false_iff_not, List.length_append, List.length_cons, List.length_nil, List.length_set, List.length_replicate, Bool.not_eq_true, Bool.not_eq_false, Int.not_lt, Int.not_le, Bool.and_eq_true, Bool.or_eq_true, Bool.and_eq_false_iff, Bool.or_eq_false_iff, Bool.not_eq_eq_eq_not, Bool.not_true, Bool.not_false, beq_iff_eq, bne_iff_ne, beq_eq_false_iff_ne, bne_eq_false_iff_eq, ne_eq, subL_length] at hc; omega)⟩⟩, fun _ hsg => ⟨⟨by omega, fun k hk hc _ => ⟨fun _ h => absurd h (by decide), fun _ => ⟨fun _ h => absurd h (by decide), fun _ _ => ⟨?_, ?_⟩⟩⟩⟩, fun _ hac => ⟨fun h1 h2 => ?_, fun h1 h2 => ?_⟩⟩⟩⟩⟩⟩
  all_goals (try simp only [decide_eq_true_eq, decide_eq_false_iff_not, List.length_append, List.length_cons, List.length_nil, List.length_set, List.length_replicate, Bool.not_eq_true, Bool.not_eq_false, Int.not_lt, Int.not_le, Bool.and_eq_true, Bool.or_eq_true, Bool.and_eq_false_iff, Bool.or_eq_false_iff, Bool.not_eq_eq_eq_not, Bool.not_true, Bool.not_false, beq_iff_eq, bne_iff_ne, beq_eq_false_iff_ne, bne_eq_false_iff_eq, ne_eq, subL_length] at hc)
  all_goals (try simp only [decide_eq_true_eq, decide_eq_false_iff_not, List.length_append, List.length_cons, List.length_nil, List.length_set, List.length_replicate, Bool.not_eq_true, Bool.not_eq_false, Int.not_lt, Int.not_le, Bool.and_eq_true, Bool.or_eq_true, Bool.and_eq_false_iff, Bool.or_eq_false_iff, Bool.not_eq_eq_eq_not, Bool.not_true, Bool.not_false, beq_iff_eq, bne_iff_ne, beq_eq_false_iff_ne, bne_eq_false_iff_eq, ne_eq, subL_length] at hlen)
  · rw [h2] at h1; exact absurd h1 (by decide)
  · rw [h2] at h1; exact absurd h1 (by decide)
  · omega
  · by_cases e : q = k
    · subst e
      have := hs ⟨hP, by omega, by omega, by omega⟩ (by simpa using h1)
      simpa using this
    · exact hk.2 q (by omega)
  · omega
  · omega
  · omega
  · rw [h2] at h1; exact absurd h1 (by decide)
  · exact ⟨hw (by simpa using hwz), hsg, hac ⟨by omega, by omega⟩ (by simpa using h1)⟩

theorem paper_Check_post (r : Realm) (f : File) : (fun (x : Int) => (r.Small) → (x = 0 → PaperOK r f)) (paper_Check r f) := fun hP => Sk.pval _ (paper_Check_pst r f hP)
theorem paper_Check_ok (r : Realm) (f : File) (hr : r.Small) : (paper_Check_sk r f).obs (fun _ => True) := by
  simp only [File.Small, Realm.Small] at hr
  refine Sk.obs_of _ ?_
  unfold paper_Check_sk
  simp only [Sk.obq, Sk.isLoop, reduceCtorEq, leafB, leafJ, Cal.z, Cal.p, Cal.t, Cal.pt, Cal.o, Cal.and, Cal.andl, Cal.andr, Cal.wh, Cal.dep, Cal.depr, Ctr.c, Ctr.nil, Ctr.nilc, CtrO.c, CtrO.nil, paper_acts_k, paper_facts_k, paper_in_k, paper_sign_k, wording_Check_k, paper_in_eq, forall_eq, File.Small, Realm.Small, maxLen, implies_true, true_and, and_true, and_self, true_implies, false_implies, ixP, szP, mkP]
  intro hlen
  simp only [decide_eq_true_eq, decide_eq_false_iff_not, List.length_append, List.length_cons, List.length_nil, List.length_set, List.length_replicate, Bool.not_eq_true, Bool.not_eq_false, Int.not_lt, Int.not_le, Bool.and_eq_true, Bool.or_eq_true, Bool.and_eq_false_iff, Bool.or_eq_false_iff, Bool.not_eq_eq_eq_not, Bool.not_true, Bool.not_false, beq_iff_eq, bne_iff_ne, beq_eq_false_iff_ne, bne_eq_false_iff_eq, ne_eq, subL_length] at hlen
  refine ⟨hr, fun hw hwz _ => ⟨⟨⟨by omega, fun q hq => absurd hq (by omega)⟩, fun k hk hl => ⟨fun hc => ⟨⟨⟨by omega, of_decide_eq_true hc⟩, by omega, hr⟩, fun hs h1 _ => ⟨?_, ⟨?_, fun q hq => ?_⟩, ?_⟩⟩, fun hc q hq => hk.2 q (by simp only [decide_eq_true_eq, decide_eq_false_iff_not, List.length_append, List.length_cons, List.length_nil, List.length_set, List.length_replicate, Bool.not_eq_true, Bool.not_eq_false, Int.not_lt, Int.not_le, Bool.and_eq_true, Bool.or_eq_true, Bool.and_eq_false_iff, Bool.or_eq_false_iff, Bool.not_eq_eq_eq_not, Bool.not_true, Bool.not_false, beq_iff_eq, bne_iff_ne, beq_eq_false_iff_ne, bne_eq_false_iff_eq, ne_eq, subL_length] at hc; omega)⟩⟩, fun _ hsg => ⟨⟨by omega, fun k hk hl hc => ⟨⟨by omega, of_decide_eq_true hc⟩, fun _ _ _ _ => ⟨?_, ?_, ?_⟩⟩⟩, ?_⟩⟩⟩
  all_goals (try simp only [decide_eq_true_eq, decide_eq_false_iff_not, List.length_append, List.length_cons, List.length_nil, List.length_set, List.length_replicate, Bool.not_eq_true, Bool.not_eq_false, Int.not_lt, Int.not_le, Bool.and_eq_true, Bool.or_eq_true, Bool.and_eq_false_iff, Bool.or_eq_false_iff, Bool.not_eq_eq_eq_not, Bool.not_true, Bool.not_false, beq_iff_eq, bne_iff_ne, beq_eq_false_iff_ne, bne_eq_false_iff_eq, ne_eq, subL_length] at hc)
  · exact w64_id (by omega) (by omega)
  · omega
  · by_cases e : q = k
    · subst e
      have := hs ⟨hr, by omega, by omega, by omega⟩ (by simpa using h1)
      simpa using this
    · exact hk.2 q (by omega)
  · omega
  · exact w64_id (by omega) (by omega)
  · omega
  · omega
  · (repeat' first | assumption | apply And.intro | intro h) <;> omega

theorem paper_Check_fn (r : Realm) (f : File) (hr : r.Small) : FnA Tryz.prog 17 [av r.cells, av f.cells] [] (iv (paper_Check r f)) [] :=
  FnA.sk tok mixed (fun x => iv x) (fun _ => []) Tryz.func17 rfl (by kernel_rfl) 3000 (paper_Check_sk r f) (by kernel_rfl) (paper_Check_ok r f hr)
noncomputable def paper_Check_k (r : Realm) (f : File) : Ctr (Int) := ⟨Tryz.prog, 17, [av r.cells, av f.cells], fun x => iv x, true, paper_Check r f, (r.Small), fun h => paper_Check_fn r f h, fun (x : Int) => (r.Small) → (x = 0 → PaperOK r f), paper_Check_post r f⟩
noncomputable def allongelaw47_bounded_sk (r : Realm) (f : File) : Sk (Bool) :=
 .r 1 (.dep ((allongeref21_Few_k r f).c) fun x1 => .dep (.wh x1 true ((allongeref09_Check_k r).c)) fun x2 => .wh (x1 && (x2 == 0)) true ((paper_Check_k r f).c)) fun p4 =>
 .fin ((p4.1 && (p4.2.1 == 0)) && (p4.2.2 == 0))
noncomputable def allongelaw47_bounded (r : Realm) (f : File) : Bool := (allongelaw47_bounded_sk r f).val
theorem allongelaw47_bounded_pst (r : Realm) (f : File) : (allongelaw47_bounded_sk r f).pst (fun (x : Bool) => x = true → r.Small ∧ f.Small ∧ r.ByOK ∧ PaperOK r f) := by
  refine Sk.pst_of _ ?_
  unfold allongelaw47_bounded_sk
  simp only [Sk.pstq, Sk.isLoop, reduceCtorEq, leafB, leafJ, Cal.z, Cal.p, Cal.t, Cal.pt, Cal.o, Cal.and, Cal.andl, Cal.andr, Cal.wh, Cal.dep, Cal.depr, Ctr.c, Ctr.nil, Ctr.nilc, CtrO.c, CtrO.nil, allongeref09_Check_k, allongeref21_Few_k, paper_Check_k, File.Small, Realm.Small, Realm.ByOK, maxLen, implies_true, true_and, and_true, and_self, true_implies, false_implies, ixP, szP, mkP]
  intro x _ h hx
  simp only [decide_eq_true_eq, decide_eq_false_iff_not, List.length_append, List.length_cons, List.length_nil, List.length_set, List.length_replicate, Bool.not_eq_true, Bool.not_eq_false, Int.not_lt, Int.not_le, Bool.and_eq_true, Bool.or_eq_true, Bool.and_eq_false_iff, Bool.or_eq_false_iff, Bool.not_eq_eq_eq_not, Bool.not_true, Bool.not_false, beq_iff_eq, bne_iff_ne, beq_eq_false_iff_ne, bne_eq_false_iff_eq, ne_eq, subL_length] at hx
  have a := h.1 hx.1.1
  exact ⟨a.1, a.2, h.2.1 hx.1.2, h.2.2 a.1 hx.2⟩

theorem allongelaw47_bounded_post (r : Realm) (f : File) : (fun (x : Bool) => x = true → r.Small ∧ f.Small ∧ r.ByOK ∧ PaperOK r f) (allongelaw47_bounded r f) := Sk.pval _ (allongelaw47_bounded_pst r f)
theorem allongelaw47_bounded_ok (r : Realm) (f : File) : (allongelaw47_bounded_sk r f).obs (fun _ => True) := by
  refine Sk.obs_of _ ?_
  unfold allongelaw47_bounded_sk
  simp only [Sk.obq, Sk.isLoop, reduceCtorEq, leafB, leafJ, Cal.z, Cal.p, Cal.t, Cal.pt, Cal.o, Cal.and, Cal.andl, Cal.andr, Cal.wh, Cal.dep, Cal.depr, Ctr.c, Ctr.nil, Ctr.nilc, CtrO.c, CtrO.nil, allongeref09_Check_k, allongeref21_Few_k, paper_Check_k, File.Small, Realm.Small, Realm.ByOK, maxLen, implies_true, true_and, and_true, and_self, true_implies, false_implies, ixP, szP, mkP]
  all_goals (repeat' first | assumption | (apply And.intro) | (intro h))
  all_goals first | trivial | assumption | omega | ((try simp only [decide_eq_true_eq, decide_eq_false_iff_not, List.length_append, List.length_cons, List.length_nil, List.length_set, List.length_replicate, Bool.not_eq_true, Bool.not_eq_false, Int.not_lt, Int.not_le, Bool.and_eq_true, Bool.or_eq_true, Bool.and_eq_false_iff, Bool.or_eq_false_iff, Bool.not_eq_eq_eq_not, Bool.not_true, Bool.not_false, beq_iff_eq, bne_iff_ne, beq_eq_false_iff_ne, bne_eq_false_iff_eq, ne_eq, subL_length] at *) <;> first | omega | (refine (w64_id ?_ ?_).trans ?_ <;> omega) | (simp (disch := omega) only [w64_id] at *; omega) | (grind) | (simp_all; done) | (simp_all; omega))

theorem allongelaw47_bounded_fn (r : Realm) (f : File) : FnA Tryz.prog 19 [av r.cells, av f.cells] [] (bv (allongelaw47_bounded r f)) [] :=
  FnA.sk tok mixed (fun x => bv x) (fun _ => []) Tryz.func19 rfl (by kernel_rfl) 3000 (allongelaw47_bounded_sk r f) (by kernel_rfl) (allongelaw47_bounded_ok r f)
noncomputable def allongelaw47_bounded_k (r : Realm) (f : File) : Ctr (Bool) := ⟨Tryz.prog, 19, [av r.cells, av f.cells], fun x => bv x, true, allongelaw47_bounded r f, True, fun _ => allongelaw47_bounded_fn r f, fun (x : Bool) => x = true → r.Small ∧ f.Small ∧ r.ByOK ∧ PaperOK r f, allongelaw47_bounded_post r f⟩
noncomputable def allongeref14_Fact_sk (f : File) (kind : Int) (at_ : Int) : Sk (CellX) :=
 .bind true (fun _ => True)
 (.loop (default : Sum (CellX) (Unit)) (fun i2 => i2 ≤ f.facts.length) (fun i2 => f.facts.length - i2) (0 : Nat)
 (fun (i2 : Nat) => ⟨[(7, iv ((i2 : Nat) : Int))], []⟩) fun i2 =>
 .bnd 3 18 f.facts.length <|
 .br (decide (((i2 : Nat) : Int) < ((f.facts.length : Nat) : Int)))
 (.r 4 (.andl (.p (ixP ((i2 : Nat) : Int) f.facts.length)) (.wh (((f.facts.getD i2 default).kind) == kind) true (.p (ixP ((i2 : Nat) : Int) f.facts.length)))) fun _ =>
 .br ((((f.facts.getD i2 default).kind) == kind) && (((f.facts.getD i2 default).at_) == at_))
 (.r 5 (.p (ixP ((i2 : Nat) : Int) f.facts.length)) fun _ =>
 .br (((f.facts.getD i2 default).n) == 0)
 (.fin (.inl (.inl ({ known := true, n := 0 } : CellX))))
 (.fin (.inl (.inl ({ known := true, n := 1 } : CellX)))))
 (.r 3 .z fun _ =>
 .wi 7 (w64 (((i2 : Nat) : Int) + 1)) ((i2 + 1 : Nat) : Int) <|
 .fin (.inr (i2 + 1))))
 (.fin (.inl (.inr ()))))
 (fun (_ : Unit) => ⟨[], []⟩) fun _ =>
 .fin ({ known := false, n := 0 } : CellX)
noncomputable def allongeref14_Fact (f : File) (kind : Int) (at_ : Int) : CellX := (allongeref14_Fact_sk f kind at_).val
theorem allongeref14_Fact_ok (f : File) (kind : Int) (at_ : Int) : (allongeref14_Fact_sk f kind at_).obs (fun _ => True) := by
  refine Sk.obs_of _ ?_
  unfold allongeref14_Fact_sk
  simp only [Sk.obq, Sk.isLoop, reduceCtorEq, leafB, leafJ, Cal.z, Cal.p, Cal.t, Cal.pt, Cal.o, Cal.and, Cal.andl, Cal.andr, Cal.wh, Cal.dep, Cal.depr, Ctr.c, Ctr.nil, Ctr.nilc, CtrO.c, CtrO.nil, maxLen, implies_true, true_and, and_true, and_self, true_implies, false_implies, ixP, szP, mkP]
  all_goals (repeat' first | assumption | (apply And.intro) | (intro h))
  all_goals first | trivial | assumption | omega | ((try simp only [decide_eq_true_eq, decide_eq_false_iff_not, List.length_append, List.length_cons, List.length_nil, List.length_set, List.length_replicate, Bool.not_eq_true, Bool.not_eq_false, Int.not_lt, Int.not_le, Bool.and_eq_true, Bool.or_eq_true, Bool.and_eq_false_iff, Bool.or_eq_false_iff, Bool.not_eq_eq_eq_not, Bool.not_true, Bool.not_false, beq_iff_eq, bne_iff_ne, beq_eq_false_iff_ne, bne_eq_false_iff_eq, ne_eq, subL_length] at *) <;> first | omega | (refine (w64_id ?_ ?_).trans ?_ <;> omega) | (simp (disch := omega) only [w64_id] at *; omega) | (grind) | (simp_all; done) | (simp_all; omega))

theorem allongeref14_Fact_fn (f : File) (kind : Int) (at_ : Int) : FnA Tryz.prog 69 [av f.cells, iv kind, iv at_] [] (av (allongeref14_Fact f kind at_).cells) [] :=
  FnA.sk tok mixed (fun x => av x.cells) (fun _ => []) Tryz.func69 rfl (by kernel_rfl) 3000 (allongeref14_Fact_sk f kind at_) (by kernel_rfl) (allongeref14_Fact_ok f kind at_)
noncomputable def allongeref14_Fact_k (f : File) (kind : Int) (at_ : Int) : Ctr (CellX) := ⟨Tryz.prog, 69, [av f.cells, iv kind, iv at_], fun x => av x.cells, true, allongeref14_Fact f kind at_, True, fun _ => allongeref14_Fact_fn f kind at_, fun _ => True, trivial⟩
end Go.Proofs.YtggilgghigileaaGreatDoor
