/- Functions, as sketches. -/
import Derived.Test.YtggilgghigileaaGreatDoorRk2
namespace Go.Proofs.YtggilgghigileaaGreatDoor
open Go Go.Av
set_option linter.unusedSimpArgs false
set_option linter.unusedVariables false
set_option maxHeartbeats 1000000
set_option maxRecDepth 100000
noncomputable def slices_IndexFunc_181_sk (s : List Alter) (v : CaseX) : Sk (Int) :=
 .bind true (fun b1 => ∀ q, q < s.length → record_Vars_c1 (s.getD q default) v = false)
 (.loop (default : Sum (Int) (Unit)) (fun i2 => ∀ q, q < i2 → record_Vars_c1 (s.getD q default) v = false) (fun i2 => s.length - i2) (0 : Nat)
 (fun (i2 : Nat) => ⟨[(8, iv ((i2 : Nat) : Int))], []⟩) fun i2 =>
 .bnd 0 0 s.length <|
 .br (decide (((i2 : Nat) : Int) < ((s.length : Nat) : Int)))
 (.r 4 (.andl (.p (ixP ((i2 : Nat) : Int) s.length)) ((record_Vars_c1_k (s.getD i2 default) v).c)) fun x3 =>
 .br x3
 (.fin (.inl (.inl ((i2 : Nat) : Int))))
 (.r 6 .z fun _ =>
 .wi 8 (w64 (((i2 : Nat) : Int) + 1)) ((i2 + 1 : Nat) : Int) <|
 .fin (.inr (i2 + 1))))
 (.fin (.inl (.inr ()))))
 (fun (_ : Unit) => ⟨[], []⟩) fun _ =>
 .fin (-1)
noncomputable def slices_IndexFunc_181 (s : List Alter) (v : CaseX) : Int := (slices_IndexFunc_181_sk s v).val
theorem slices_IndexFunc_181_pst (s : List Alter) (v : CaseX) : (slices_IndexFunc_181_sk s v).pst (fun (x : Int) => (x = -1 ∧ ∀ q, q < s.length → record_Vars_c1 (s.getD q default) v = false) ∨ (0 ≤ x ∧ x < s.length ∧ record_Vars_c1 (s.getD x.toNat default) v = true ∧ ∀ q, (q : Nat) < x.toNat → record_Vars_c1 (s.getD q default) v = false)) := by
  refine Sk.pst_of _ ?_
  unfold slices_IndexFunc_181_sk
  simp only [Sk.pstq, Sk.isLoop, reduceCtorEq, leafB, leafJ, Cal.z, Cal.p, Cal.t, Cal.pt, Cal.o, Cal.and, Cal.andl, Cal.andr, Cal.wh, Cal.dep, Cal.depr, Ctr.c, Ctr.nil, Ctr.nilc, CtrO.c, CtrO.nil, record_Vars_c1_k, record_Vars_c1_eq, forall_eq, maxLen, implies_true, true_and, and_true, and_self, true_implies, false_implies, ixP, szP, mkP]
  all_goals (repeat' first | assumption | (apply And.intro) | (intro h))
  all_goals first | trivial | assumption | omega | ((try simp only [decide_eq_true_eq, decide_eq_false_iff_not, List.length_append, List.length_cons, List.length_nil, List.length_set, List.length_replicate, Bool.not_eq_true, Bool.not_eq_false, Int.not_lt, Int.not_le, Bool.and_eq_true, Bool.or_eq_true, Bool.and_eq_false_iff, Bool.or_eq_false_iff, Bool.not_eq_eq_eq_not, Bool.not_true, Bool.not_false, beq_iff_eq, bne_iff_ne, beq_eq_false_iff_ne, bne_eq_false_iff_eq, ne_eq, subL_length] at *) <;> first | omega | (refine (w64_id ?_ ?_).trans ?_ <;> omega) | (simp (disch := omega) only [w64_id] at *; omega) | (grind) | (simp_all; done) | (simp_all; omega))

theorem slices_IndexFunc_181_post (s : List Alter) (v : CaseX) : (fun (x : Int) => (x = -1 ∧ ∀ q, q < s.length → record_Vars_c1 (s.getD q default) v = false) ∨ (0 ≤ x ∧ x < s.length ∧ record_Vars_c1 (s.getD x.toNat default) v = true ∧ ∀ q, (q : Nat) < x.toNat → record_Vars_c1 (s.getD q default) v = false)) (slices_IndexFunc_181 s v) := Sk.pval _ (slices_IndexFunc_181_pst s v)
theorem slices_IndexFunc_181_ok (s : List Alter) (v : CaseX) : (slices_IndexFunc_181_sk s v).obs (fun _ => True) := by
  refine Sk.obs_of _ ?_
  unfold slices_IndexFunc_181_sk
  simp only [Sk.obq, Sk.isLoop, reduceCtorEq, leafB, leafJ, Cal.z, Cal.p, Cal.t, Cal.pt, Cal.o, Cal.and, Cal.andl, Cal.andr, Cal.wh, Cal.dep, Cal.depr, Ctr.c, Ctr.nil, Ctr.nilc, CtrO.c, CtrO.nil, record_Vars_c1_k, record_Vars_c1_eq, forall_eq, maxLen, implies_true, true_and, and_true, and_self, true_implies, false_implies, ixP, szP, mkP]
  all_goals (repeat' first | assumption | (apply And.intro) | (intro h))
  all_goals first | trivial | assumption | omega | ((try simp only [decide_eq_true_eq, decide_eq_false_iff_not, List.length_append, List.length_cons, List.length_nil, List.length_set, List.length_replicate, Bool.not_eq_true, Bool.not_eq_false, Int.not_lt, Int.not_le, Bool.and_eq_true, Bool.or_eq_true, Bool.and_eq_false_iff, Bool.or_eq_false_iff, Bool.not_eq_eq_eq_not, Bool.not_true, Bool.not_false, beq_iff_eq, bne_iff_ne, beq_eq_false_iff_ne, bne_eq_false_iff_eq, ne_eq, subL_length] at *) <;> first | omega | (refine (w64_id ?_ ?_).trans ?_ <;> omega) | (simp (disch := omega) only [w64_id] at *; omega) | (grind) | (simp_all; done) | (simp_all; omega))

theorem slices_IndexFunc_181_fn (s : List Alter) (v : CaseX) : FnA Tryz.prog 208 [lv Alter.cells s, .fn 181 [.ref v.cells]] [] (iv (slices_IndexFunc_181 s v)) [] :=
  FnA.sk tok mixed (fun x => iv x) (fun _ => []) Tryz.func208 rfl (by kernel_rfl) 3000 (slices_IndexFunc_181_sk s v) (by kernel_rfl) (slices_IndexFunc_181_ok s v)
noncomputable def slices_IndexFunc_181_k (s : List Alter) (v : CaseX) : Ctr (Int) := ⟨Tryz.prog, 208, [lv Alter.cells s, .fn 181 [.ref v.cells]], fun x => iv x, true, slices_IndexFunc_181 s v, True, fun _ => slices_IndexFunc_181_fn s v, fun (x : Int) => (x = -1 ∧ ∀ q, q < s.length → record_Vars_c1 (s.getD q default) v = false) ∨ (0 ≤ x ∧ x < s.length ∧ record_Vars_c1 (s.getD x.toNat default) v = true ∧ ∀ q, (q : Nat) < x.toNat → record_Vars_c1 (s.getD q default) v = false), slices_IndexFunc_181_post s v⟩
noncomputable def slices_ContainsFunc_181_sk (s : List Alter) (v : CaseX) : Sk (Bool) :=
 .r 1 ((slices_IndexFunc_181_k s v).c) fun x1 =>
 .fin (decide (x1 ≥ 0))
noncomputable def slices_ContainsFunc_181 (s : List Alter) (v : CaseX) : Bool := (slices_ContainsFunc_181_sk s v).val
theorem slices_ContainsFunc_181_pst (s : List Alter) (v : CaseX) : (slices_ContainsFunc_181_sk s v).pst (fun (x : Bool) => (x = true ↔ ∃ q, q < s.length ∧ record_Vars_c1 (s.getD q default) v = true)) := by
  refine Sk.pst_of _ ?_
  unfold slices_ContainsFunc_181_sk
  simp only [Sk.pstq, Sk.isLoop, reduceCtorEq, leafB, leafJ, Cal.z, Cal.p, Cal.t, Cal.pt, Cal.o, Cal.and, Cal.andl, Cal.andr, Cal.wh, Cal.dep, Cal.depr, Ctr.c, Ctr.nil, Ctr.nilc, CtrO.c, CtrO.nil, slices_IndexFunc_181_k, maxLen, implies_true, true_and, and_true, and_self, true_implies, false_implies, ixP, szP, mkP]
  all_goals (repeat' first | assumption | (apply And.intro) | (intro h))
  all_goals first | trivial | assumption | omega | ((try simp only [decide_eq_true_eq, decide_eq_false_iff_not, List.length_append, List.length_cons, List.length_nil, List.length_set, List.length_replicate, Bool.not_eq_true, Bool.not_eq_false, Int.not_lt, Int.not_le, Bool.and_eq_true, Bool.or_eq_true, Bool.and_eq_false_iff, Bool.or_eq_false_iff, Bool.not_eq_eq_eq_not, Bool.not_true, Bool.not_false, beq_iff_eq, bne_iff_ne, beq_eq_false_iff_ne, bne_eq_false_iff_eq, ne_eq, subL_length] at *) <;> first | omega | (refine (w64_id ?_ ?_).trans ?_ <;> omega) | (simp (disch := omega) only [w64_id] at *; omega) | (grind) | (simp_all; done) | (simp_all; omega))

theorem slices_ContainsFunc_181_post (s : List Alter) (v : CaseX) : (fun (x : Bool) => (x = true ↔ ∃ q, q < s.length ∧ record_Vars_c1 (s.getD q default) v = true)) (slices_ContainsFunc_181 s v) := Sk.pval _ (slices_ContainsFunc_181_pst s v)
theorem slices_ContainsFunc_181_ok (s : List Alter) (v : CaseX) : (slices_ContainsFunc_181_sk s v).obs (fun _ => True) := by
  refine Sk.obs_of _ ?_
  unfold slices_ContainsFunc_181_sk
  simp only [Sk.obq, Sk.isLoop, reduceCtorEq, leafB, leafJ, Cal.z, Cal.p, Cal.t, Cal.pt, Cal.o, Cal.and, Cal.andl, Cal.andr, Cal.wh, Cal.dep, Cal.depr, Ctr.c, Ctr.nil, Ctr.nilc, CtrO.c, CtrO.nil, slices_IndexFunc_181_k, maxLen, implies_true, true_and, and_true, and_self, true_implies, false_implies, ixP, szP, mkP]

theorem slices_ContainsFunc_181_fn (s : List Alter) (v : CaseX) : FnA Tryz.prog 180 [lv Alter.cells s, .fn 181 [.ref v.cells]] [] (bv (slices_ContainsFunc_181 s v)) [] :=
  FnA.sk tok mixed (fun x => bv x) (fun _ => []) Tryz.func180 rfl (by kernel_rfl) 3000 (slices_ContainsFunc_181_sk s v) (by kernel_rfl) (slices_ContainsFunc_181_ok s v)
noncomputable def slices_ContainsFunc_181_k (s : List Alter) (v : CaseX) : Ctr (Bool) := ⟨Tryz.prog, 180, [lv Alter.cells s, .fn 181 [.ref v.cells]], fun x => bv x, true, slices_ContainsFunc_181 s v, True, fun _ => slices_ContainsFunc_181_fn s v, fun (x : Bool) => (x = true ↔ ∃ q, q < s.length ∧ record_Vars_c1 (s.getD q default) v = true), slices_ContainsFunc_181_post s v⟩
noncomputable def realm_in_sk (i : Int) (n : Int) : Sk (Bool) :=
 .fin ((decide (i ≥ 0)) && (decide (i < n)))
noncomputable def realm_in (i : Int) (n : Int) : Bool := (realm_in_sk i n).val
theorem realm_in_eq (i : Int) (n : Int) : realm_in i n = ((decide (i ≥ 0)) && (decide (i < n))) := rfl
theorem realm_in_ok (i : Int) (n : Int) : (realm_in_sk i n).obs (fun _ => True) := by
  refine Sk.obs_of _ ?_
  unfold realm_in_sk
  simp only [Sk.obq, Sk.isLoop, reduceCtorEq, leafB, leafJ, Cal.z, Cal.p, Cal.t, Cal.pt, Cal.o, Cal.and, Cal.andl, Cal.andr, Cal.wh, Cal.dep, Cal.depr, Ctr.c, Ctr.nil, Ctr.nilc, CtrO.c, CtrO.nil, maxLen, implies_true, true_and, and_true, and_self, true_implies, false_implies, ixP, szP, mkP]

theorem realm_in_fn (i : Int) (n : Int) : FnA Tryz.prog 122 [iv i, iv n] [] (bv (realm_in i n)) [] :=
  FnA.sk tok mixed (fun x => bv x) (fun _ => []) Tryz.func122 rfl (by kernel_rfl) 3000 (realm_in_sk i n) (by kernel_rfl) (realm_in_ok i n)
noncomputable def realm_in_k (i : Int) (n : Int) : Ctr (Bool) := ⟨Tryz.prog, 122, [iv i, iv n], fun x => bv x, true, realm_in i n, True, fun _ => realm_in_fn i n, fun _ => True, trivial⟩
noncomputable def realm_OrderAt_sk (r : Realm) (city : Int) : Sk (Int) :=
 .r 1 ((realm_in_k city ((r.cities.length : Nat) : Int)).c) fun x1 =>
 .br (!x1)
 (.fin (-1))
 (.r 3 (.p (ixP city r.cities.length)) fun _ =>
 .fin ((r.cities.getD city.toNat default).order))
noncomputable def realm_OrderAt (r : Realm) (city : Int) : Int := (realm_OrderAt_sk r city).val
theorem realm_OrderAt_ok (r : Realm) (city : Int) : (realm_OrderAt_sk r city).obs (fun _ => True) := by
  refine Sk.obs_of _ ?_
  unfold realm_OrderAt_sk
  simp only [Sk.obq, Sk.isLoop, reduceCtorEq, leafB, leafJ, Cal.z, Cal.p, Cal.t, Cal.pt, Cal.o, Cal.and, Cal.andl, Cal.andr, Cal.wh, Cal.dep, Cal.depr, Ctr.c, Ctr.nil, Ctr.nilc, CtrO.c, CtrO.nil, realm_in_k, realm_in_eq, forall_eq, maxLen, implies_true, true_and, and_true, and_self, true_implies, false_implies, ixP, szP, mkP]
  all_goals (repeat' first | assumption | (apply And.intro) | (intro h))
  all_goals first | trivial | assumption | omega | ((try simp only [decide_eq_true_eq, decide_eq_false_iff_not, List.length_append, List.length_cons, List.length_nil, List.length_set, List.length_replicate, Bool.not_eq_true, Bool.not_eq_false, Int.not_lt, Int.not_le, Bool.and_eq_true, Bool.or_eq_true, Bool.and_eq_false_iff, Bool.or_eq_false_iff, Bool.not_eq_eq_eq_not, Bool.not_true, Bool.not_false, beq_iff_eq, bne_iff_ne, beq_eq_false_iff_ne, bne_eq_false_iff_eq, ne_eq, subL_length] at *) <;> first | omega | (refine (w64_id ?_ ?_).trans ?_ <;> omega) | (simp (disch := omega) only [w64_id] at *; omega) | (grind) | (simp_all; done) | (simp_all; omega))

theorem realm_OrderAt_fn (r : Realm) (city : Int) : FnA Tryz.prog 129 [av r.cells, iv city] [] (iv (realm_OrderAt r city)) [] :=
  FnA.sk tok mixed (fun x => iv x) (fun _ => []) Tryz.func129 rfl (by kernel_rfl) 3000 (realm_OrderAt_sk r city) (by kernel_rfl) (realm_OrderAt_ok r city)
noncomputable def realm_OrderAt_k (r : Realm) (city : Int) : Ctr (Int) := ⟨Tryz.prog, 129, [av r.cells, iv city], fun x => iv x, true, realm_OrderAt r city, True, fun _ => realm_OrderAt_fn r city, fun _ => True, trivial⟩
noncomputable def record_truth_sk (is_ : Bool) : Sk (CellX) :=
 .br is_
 (.fin ({ known := true, n := 1 } : CellX))
 (.fin ({ known := true, n := 0 } : CellX))
noncomputable def record_truth (is_ : Bool) : CellX := (record_truth_sk is_).val
theorem record_truth_ok (is_ : Bool) : (record_truth_sk is_).obs (fun _ => True) := by
  refine Sk.obs_of _ ?_
  unfold record_truth_sk
  simp only [Sk.obq, Sk.isLoop, reduceCtorEq, leafB, leafJ, Cal.z, Cal.p, Cal.t, Cal.pt, Cal.o, Cal.and, Cal.andl, Cal.andr, Cal.wh, Cal.dep, Cal.depr, Ctr.c, Ctr.nil, Ctr.nilc, CtrO.c, CtrO.nil, maxLen, implies_true, true_and, and_true, and_self, true_implies, false_implies, ixP, szP, mkP]

theorem record_truth_fn (is_ : Bool) : FnA Tryz.prog 182 [bv is_] [] (av (record_truth is_).cells) [] :=
  FnA.sk tok mixed (fun x => av x.cells) (fun _ => []) Tryz.func182 rfl (by kernel_rfl) 3000 (record_truth_sk is_) (by kernel_rfl) (record_truth_ok is_)
noncomputable def record_truth_k (is_ : Bool) : Ctr (CellX) := ⟨Tryz.prog, 182, [bv is_], fun x => av x.cells, true, record_truth is_, True, fun _ => record_truth_fn is_, fun _ => True, trivial⟩
noncomputable def record_Fact_sk (f : File) (kind : Int) (at_ : Int) : Sk (CellX) :=
 .bind true (fun _ => True)
 (.loop (default : Sum (CellX) (Unit)) (fun i2 => i2 ≤ f.facts.length) (fun i2 => f.facts.length - i2) (0 : Nat)
 (fun (i2 : Nat) => ⟨[(12, iv ((i2 : Nat) : Int))], []⟩) fun i2 =>
 .bnd 10 0 f.facts.length <|
 .br (decide (((i2 : Nat) : Int) < ((f.facts.length : Nat) : Int)))
 (.r 3 (.p (ixP ((i2 : Nat) : Int) f.facts.length)) fun _ =>
 .br ((((f.facts.getD i2 default).kind) == kind) && (((f.facts.getD i2 default).at_) == at_))
 (.r 5 ((record_truth_k (((f.facts.getD i2 default).n) != 0)).c) fun x3 =>
 .fin (.inl (.inl x3)))
 (.r 6 .z fun _ =>
 .wi 12 (w64 (((i2 : Nat) : Int) + 1)) ((i2 + 1 : Nat) : Int) <|
 .fin (.inr (i2 + 1))))
 (.fin (.inl (.inr ()))))
 (fun (_ : Unit) => ⟨[], []⟩) fun _ =>
 .fin ({ known := false, n := 0 } : CellX)
noncomputable def record_Fact (f : File) (kind : Int) (at_ : Int) : CellX := (record_Fact_sk f kind at_).val
theorem record_Fact_ok (f : File) (kind : Int) (at_ : Int) : (record_Fact_sk f kind at_).obs (fun _ => True) := by
  refine Sk.obs_of _ ?_
  unfold record_Fact_sk
  simp only [Sk.obq, Sk.isLoop, reduceCtorEq, leafB, leafJ, Cal.z, Cal.p, Cal.t, Cal.pt, Cal.o, Cal.and, Cal.andl, Cal.andr, Cal.wh, Cal.dep, Cal.depr, Ctr.c, Ctr.nil, Ctr.nilc, CtrO.c, CtrO.nil, record_truth_k, maxLen, implies_true, true_and, and_true, and_self, true_implies, false_implies, ixP, szP, mkP]
  all_goals (repeat' first | assumption | (apply And.intro) | (intro h))
  all_goals first | trivial | assumption | omega | ((try simp only [decide_eq_true_eq, decide_eq_false_iff_not, List.length_append, List.length_cons, List.length_nil, List.length_set, List.length_replicate, Bool.not_eq_true, Bool.not_eq_false, Int.not_lt, Int.not_le, Bool.and_eq_true, Bool.or_eq_true, Bool.and_eq_false_iff, Bool.or_eq_false_iff, Bool.not_eq_eq_eq_not, Bool.not_true, Bool.not_false, beq_iff_eq, bne_iff_ne, beq_eq_false_iff_ne, bne_eq_false_iff_eq, ne_eq, subL_length] at *) <;> first | omega | (refine (w64_id ?_ ?_).trans ?_ <;> omega) | (simp (disch := omega) only [w64_id] at *; omega) | (grind) | (simp_all; done) | (simp_all; omega))

theorem record_Fact_fn (f : File) (kind : Int) (at_ : Int) : FnA Tryz.prog 183 [av f.cells, iv kind, iv at_] [] (av (record_Fact f kind at_).cells) [] :=
  FnA.sk tok mixed (fun x => av x.cells) (fun _ => []) Tryz.func183 rfl (by kernel_rfl) 3000 (record_Fact_sk f kind at_) (by kernel_rfl) (record_Fact_ok f kind at_)
noncomputable def record_Fact_k (f : File) (kind : Int) (at_ : Int) : Ctr (CellX) := ⟨Tryz.prog, 183, [av f.cells, iv kind, iv at_], fun x => av x.cells, true, record_Fact f kind at_, True, fun _ => record_Fact_fn f kind at_, fun _ => True, trivial⟩
noncomputable def record_Vars_sk (r : Realm) (c_ : CaseX) : Sk ((List CellX)) :=
 .r 3 (.dep ((record_within_k c_.sign ((c_.file.signs.length : Nat) : Int)).c) fun x1 => .wh (((!x1) || (decide (c_.holder < (-1)))) || (decide ((maxI c_.holder 0) ≥ ((c_.file.signs.length : Nat) : Int)))) false (.wh (c_.due != (-1)) true ((record_within_k c_.due 100001).c))) fun p25 =>
 .br ((((!p25.1) || (decide (c_.holder < (-1)))) || (decide ((maxI c_.holder 0) ≥ ((c_.file.signs.length : Nat) : Int)))) || ((c_.due != (-1)) && (!p25.2)))
 (.fin [])
 (.r 5 (.p (ixP c_.sign c_.file.signs.length)) fun _ =>
 .r 6 ((record_within_k ((c_.file.signs.getD c_.sign.toNat default).day) 100001).c) fun x3 =>
 .br (!x3)
 (.fin [])
 (.bind false (fun _ => True)
 (.br (c_.due != (-1))
 (.fin (.inr (w64 (((c_.file.signs.getD c_.sign.toNat default).day) - c_.due))))
 (.fin (.inr 0)))
 (fun (b4 : Int) => ⟨[(9, iv b4)], []⟩) fun b4 =>
 .r 11 (.andl (.o [.nrm (mkC CellX.E 20 ({ known := false, n := 0 } : CellX))]) (.p (mkP (20 : Int) 16))) fun _ =>
 .r 12 (.andl (.o [.nrmm (insN dI 0 c_.file.bill.sum)]) (.andl (.o [.nrmm (insC dI [0] [c_.file.bill.sum] rfl 1 c_.file.bill.parts)]) (.andl (.o [.nrmm (insC dI [0, 1] [c_.file.bill.sum, c_.file.bill.parts] rfl 2 c_.file.bill.tenor.kind)]) (.andl (.o [.nrmm (insC dI [0, 1, 2] [c_.file.bill.sum, c_.file.bill.parts, c_.file.bill.tenor.kind] rfl 3 c_.file.bill.rate)]) (.andl (.o [.nrmm (insC dI [0, 1, 2, 3] [c_.file.bill.sum, c_.file.bill.parts, c_.file.bill.tenor.kind, c_.file.bill.rate] rfl 4 ((c_.file.signs.getD c_.sign.toNat default).kind))]) (.andl (.o [.nrmm (insC dI [0, 1, 2, 3, 4] [c_.file.bill.sum, c_.file.bill.parts, c_.file.bill.tenor.kind, c_.file.bill.rate, (c_.file.signs.getD c_.sign.toNat default).kind] rfl 5 c_.defence)]) (.o [.nrmm (insC dI [0, 1, 2, 3, 4, 5] [c_.file.bill.sum, c_.file.bill.parts, c_.file.bill.tenor.kind, c_.file.bill.rate, (c_.file.signs.getD c_.sign.toNat default).kind, c_.defence] rfl 6 b4)]))))))) fun _ =>
 .bind true (fun b5 => b5.length = 20)
 (.mr 7 (fun g6 => g6.length = 20) (List.replicate 20 ({ known := false, n := 0 } : CellX) : (List CellX))
 (fun g6 s8 => ⟨[(10, ow 100002 g6)], [(100002, rowB 94 2 CellX.cells g6), (90, .it 74 7 s8)]⟩)
 (fun g9 => ⟨[(10, ow 100002 g9)], [(100002, rowB 94 2 CellX.cells g9)]⟩)
 (fun g6 i7 =>
 .brt <|
 .r 14 (.p (i7 < 7)) fun _ =>
 .r 15 (.andl (.p (ixP (([0, 1, 2, 3, 4, 5, 6] : List Int).getD i7 0) g6.length)) (.andl (.o [.nrm (setC CellX.E g6 ((([0, 1, 2, 3, 4, 5, 6] : List Int).getD i7 0).toNat) ({ known := true, n := ([c_.file.bill.sum, c_.file.bill.parts, c_.file.bill.tenor.kind, c_.file.bill.rate, (c_.file.signs.getD c_.sign.toNat default).kind, c_.defence, b4] : List Int).getD i7 default } : CellX))]) (.p ((([0, 1, 2, 3, 4, 5, 6] : List Int).getD i7 0).toNat < g6.length)))) fun _ =>
 .wn 100002 g6.length (g6.set ((([0, 1, 2, 3, 4, 5, 6] : List Int).getD i7 0).toNat) ({ known := true, n := ([c_.file.bill.sum, c_.file.bill.parts, c_.file.bill.tenor.kind, c_.file.bill.rate, (c_.file.signs.getD c_.sign.toNat default).kind, c_.defence, b4] : List Int).getD i7 default } : CellX)).length <|
 .fin (g6.set ((([0, 1, 2, 3, 4, 5, 6] : List Int).getD i7 0).toNat) ({ known := true, n := ([c_.file.bill.sum, c_.file.bill.parts, c_.file.bill.tenor.kind, c_.file.bill.rate, (c_.file.signs.getD c_.sign.toNat default).kind, c_.defence, b4] : List Int).getD i7 default } : CellX))) fun g9 =>
 .brf <|
 .fin (.inr g9))
 (fun (b5 : (List CellX)) => ⟨[(10, ow 100001 b5)], [(100001, rowB 94 2 CellX.cells b5)]⟩) fun b5 =>
 .r 16 ((slices_ContainsFunc_181_k c_.file.alters c_).c) fun x10 =>
 .r 17 (.dep ((realm_OrderAt_k r c_.file.bill.city).c) fun _ => (realm_OrderAt_k r c_.file.bill.pay).c) fun p24 =>
 .r 18 (.andl (.o [.nrmm (insN dB 7 ((andK .i64 c_.file.bill.flags 1) != 0))]) (.andl (.o [.nrmm (insC dB [7] [(andK .i64 c_.file.bill.flags 1) != 0] rfl 8 (c_.file.bill.payee == (-1)))]) (.andl (.o [.nrmm (insC dB [7, 8] [(andK .i64 c_.file.bill.flags 1) != 0, c_.file.bill.payee == (-1)] rfl 9 ((andK .i64 c_.file.bill.flags 4) != 0))]) (.andl (.o [.nrmm (insC dB [7, 8, 9] [(andK .i64 c_.file.bill.flags 1) != 0, c_.file.bill.payee == (-1), (andK .i64 c_.file.bill.flags 4) != 0] rfl 10 ((andK .i64 c_.file.bill.flags 2) != 0))]) (.andl (.o [.nrmm (insC dB [7, 8, 9, 10] [(andK .i64 c_.file.bill.flags 1) != 0, c_.file.bill.payee == (-1), (andK .i64 c_.file.bill.flags 4) != 0, (andK .i64 c_.file.bill.flags 2) != 0] rfl 11 (p24.1 != p24.2))]) (.andl (.o [.nrmm (insC dB [7, 8, 9, 10, 11] [(andK .i64 c_.file.bill.flags 1) != 0, c_.file.bill.payee == (-1), (andK .i64 c_.file.bill.flags 4) != 0, (andK .i64 c_.file.bill.flags 2) != 0, p24.1 != p24.2] rfl 12 x10)]) (.andl (.o [.nrmm (insC dB [7, 8, 9, 10, 11, 12] [(andK .i64 c_.file.bill.flags 1) != 0, c_.file.bill.payee == (-1), (andK .i64 c_.file.bill.flags 4) != 0, (andK .i64 c_.file.bill.flags 2) != 0, p24.1 != p24.2, x10] rfl 13 ((andK .i64 ((c_.file.signs.getD c_.sign.toNat default).flags) 1) != 0))]) (.o [.nrmm (insC dB [7, 8, 9, 10, 11, 12, 13] [(andK .i64 c_.file.bill.flags 1) != 0, c_.file.bill.payee == (-1), (andK .i64 c_.file.bill.flags 4) != 0, (andK .i64 c_.file.bill.flags 2) != 0, p24.1 != p24.2, x10, (andK .i64 ((c_.file.signs.getD c_.sign.toNat default).flags) 1) != 0] rfl 14 (decide (b4 > 0)))])))))))) fun _ =>
 .bind true (fun b13 => b13.length = 20)
 (.mr 8 (fun g14 => g14.length = 20) (b5 : (List CellX))
 (fun g14 s16 => ⟨[(10, ow 100005 g14)], [(100005, rowB 94 2 CellX.cells g14), (139, .it 114 8 s16)]⟩)
 (fun g18 => ⟨[(10, ow 100005 g18)], [(100005, rowB 94 2 CellX.cells g18)]⟩)
 (fun g14 i15 =>
 .brt <|
 .r 20 (.p (i15 < 8)) fun _ =>
 .r 21 (.depr ((record_truth_k (([(andK .i64 c_.file.bill.flags 1) != 0, c_.file.bill.payee == (-1), (andK .i64 c_.file.bill.flags 4) != 0, (andK .i64 c_.file.bill.flags 2) != 0, p24.1 != p24.2, x10, (andK .i64 ((c_.file.signs.getD c_.sign.toNat default).flags) 1) != 0, decide (b4 > 0)] : List Bool).getD i15 default)).c) fun x17 => .andl (.p (ixP (([7, 8, 9, 10, 11, 12, 13, 14] : List Int).getD i15 0) g14.length)) (.andl (.o [.nrm (setC CellX.E g14 ((([7, 8, 9, 10, 11, 12, 13, 14] : List Int).getD i15 0).toNat) x17)]) (.p ((([7, 8, 9, 10, 11, 12, 13, 14] : List Int).getD i15 0).toNat < g14.length)))) fun x17 =>
 .wn 100005 g14.length (g14.set ((([7, 8, 9, 10, 11, 12, 13, 14] : List Int).getD i15 0).toNat) x17).length <|
 .fin (g14.set ((([7, 8, 9, 10, 11, 12, 13, 14] : List Int).getD i15 0).toNat) x17)) fun g18 =>
 .brf <|
 .fin (.inr g18))
 (fun (b13 : (List CellX)) => ⟨[(10, ow 100004 b13)], [(100004, rowB 94 2 CellX.cells b13)]⟩) fun b13 =>
 .r 22 (.depr ((record_Fact_k c_.file 0 c_.sign).c) fun x19 => .andl (.p (ixP (15 : Int) b13.length)) (.andl (.o [.nrm (setC CellX.E b13 15 x19)]) (.p (15 < b13.length)))) fun x19 =>
 .wn 100004 b13.length (b13.set 15 x19).length <|
 .r 23 (.depr ((record_Fact_k c_.file 1 c_.sign).c) fun x20 => .andl (.p (ixP (16 : Int) ((b13.set 15 x19).length))) (.andl (.o [.nrm (setC CellX.E (b13.set 15 x19) 16 x20)]) (.p (16 < (b13.set 15 x19).length)))) fun x20 =>
 .wn 100004 (b13.set 15 x19).length ((b13.set 15 x19).set 16 x20).length <|
 .r 24 (.depr ((record_Fact_k c_.file 2 c_.sign).c) fun x21 => .andl (.p (ixP (17 : Int) (((b13.set 15 x19).set 16 x20).length))) (.andl (.o [.nrm (setC CellX.E ((b13.set 15 x19).set 16 x20) 17 x21)]) (.p (17 < ((b13.set 15 x19).set 16 x20).length)))) fun x21 =>
 .wn 100004 ((b13.set 15 x19).set 16 x20).length (((b13.set 15 x19).set 16 x20).set 17 x21).length <|
 .r 25 (.depr ((record_Fact_k c_.file 3 (maxI c_.holder 0)).c) fun x22 => .andl (.p (ixP (18 : Int) ((((b13.set 15 x19).set 16 x20).set 17 x21).length))) (.andl (.o [.nrm (setC CellX.E (((b13.set 15 x19).set 16 x20).set 17 x21) 18 x22)]) (.p (18 < (((b13.set 15 x19).set 16 x20).set 17 x21).length)))) fun x22 =>
 .wn 100004 (((b13.set 15 x19).set 16 x20).set 17 x21).length ((((b13.set 15 x19).set 16 x20).set 17 x21).set 18 x22).length <|
 .r 26 (.depr ((record_Fact_k c_.file 4 (maxI c_.holder 0)).c) fun x23 => .andl (.p (ixP (19 : Int) (((((b13.set 15 x19).set 16 x20).set 17 x21).set 18 x22).length))) (.andl (.o [.nrm (setC CellX.E ((((b13.set 15 x19).set 16 x20).set 17 x21).set 18 x22) 19 x23)]) (.p (19 < ((((b13.set 15 x19).set 16 x20).set 17 x21).set 18 x22).length)))) fun x23 =>
 .wn 100004 ((((b13.set 15 x19).set 16 x20).set 17 x21).set 18 x22).length (((((b13.set 15 x19).set 16 x20).set 17 x21).set 18 x22).set 19 x23).length <|
 .fin (((((b13.set 15 x19).set 16 x20).set 17 x21).set 18 x22).set 19 x23)))
noncomputable def record_Vars (r : Realm) (c_ : CaseX) : (List CellX) := (record_Vars_sk r c_).val
theorem keys7 : (∀ i, i < 7 → 0 ≤ ([0, 1, 2, 3, 4, 5, 6] : List Int).getD i 0 ∧ ([0, 1, 2, 3, 4, 5, 6] : List Int).getD i 0 < 20) ∧ ∀ i, i < 7 → ∀ j, j < 7 → i ≠ j → (([0, 1, 2, 3, 4, 5, 6] : List Int).getD j 0).toNat ≠ (([0, 1, 2, 3, 4, 5, 6] : List Int).getD i 0).toNat := by decide
theorem keys8 : (∀ i, i < 8 → 0 ≤ ([7, 8, 9, 10, 11, 12, 13, 14] : List Int).getD i 0 ∧ ([7, 8, 9, 10, 11, 12, 13, 14] : List Int).getD i 0 < 20) ∧ ∀ i, i < 8 → ∀ j, j < 8 → i ≠ j → (([7, 8, 9, 10, 11, 12, 13, 14] : List Int).getD j 0).toNat ≠ (([7, 8, 9, 10, 11, 12, 13, 14] : List Int).getD i 0).toNat := by decide
theorem record_Vars_pst (r : Realm) (c_ : CaseX) : (record_Vars_sk r c_).pst (fun (x : (List CellX)) => x = [] ∨ (x.length = 20 ∧ 0 ≤ c_.sign ∧ c_.sign < c_.file.signs.length)) := by
  refine Sk.pst_of _ ?_
  unfold record_Vars_sk
  simp only [Sk.pstq, Sk.isLoop, reduceCtorEq, leafB, leafJ, Cal.z, Cal.p, Cal.t, Cal.pt, Cal.o, Cal.and, Cal.andl, Cal.andr, Cal.wh, Cal.dep, Cal.depr, Ctr.c, Ctr.nil, Ctr.nilc, CtrO.c, CtrO.nil, realm_OrderAt_k, record_Fact_k, record_truth_k, record_within_k, slices_ContainsFunc_181_k, record_within_eq, forall_eq, maxLen, implies_true, true_and, and_true, and_self, true_implies, false_implies, ixP, szP, mkP]
  all_goals (repeat' first | assumption | (apply And.intro) | (intro h))
  all_goals first | trivial | assumption | omega | ((try simp only [decide_eq_true_eq, decide_eq_false_iff_not, List.length_append, List.length_cons, List.length_nil, List.length_set, List.length_replicate, Bool.not_eq_true, Bool.not_eq_false, Int.not_lt, Int.not_le, Bool.and_eq_true, Bool.or_eq_true, Bool.and_eq_false_iff, Bool.or_eq_false_iff, Bool.not_eq_eq_eq_not, Bool.not_true, Bool.not_false, beq_iff_eq, bne_iff_ne, beq_eq_false_iff_ne, bne_eq_false_iff_eq, ne_eq, subL_length] at *) <;> first | omega | (refine (w64_id ?_ ?_).trans ?_ <;> omega) | (simp (disch := omega) only [w64_id] at *; omega) | (grind) | (simp_all; done) | (simp_all; omega))

theorem record_Vars_post (r : Realm) (c_ : CaseX) : (fun (x : (List CellX)) => x = [] ∨ (x.length = 20 ∧ 0 ≤ c_.sign ∧ c_.sign < c_.file.signs.length)) (record_Vars r c_) := Sk.pval _ (record_Vars_pst r c_)
theorem record_Vars_ok (r : Realm) (c_ : CaseX) : (record_Vars_sk r c_).obs (fun _ => True) := by
  refine Sk.obs_of _ ?_
  unfold record_Vars_sk
  simp only [Sk.obq, Sk.isLoop, reduceCtorEq, leafB, leafJ, Cal.z, Cal.p, Cal.t, Cal.pt, Cal.o, Cal.and, Cal.andl, Cal.andr, Cal.wh, Cal.dep, Cal.depr, Ctr.c, Ctr.nil, Ctr.nilc, CtrO.c, CtrO.nil, Sk.pst, realm_OrderAt_k, record_Fact_k, record_truth_k, record_within_k, slices_ContainsFunc_181_k, record_within_eq, forall_eq, maxLen, implies_true, true_and, and_true, and_self, true_implies, false_implies, ixP, szP, mkP]
  all_goals (repeat' first | (apply And.intro) | (intro h))
  all_goals first | trivial | assumption | omega | (have := keys7.1 _ ‹_ < 7›; (try simp only [decide_eq_true_eq, decide_eq_false_iff_not, List.length_append, List.length_cons, List.length_nil, List.length_set, List.length_replicate, Bool.not_eq_true, Bool.not_eq_false, Int.not_lt, Int.not_le, Bool.and_eq_true, Bool.or_eq_true, Bool.and_eq_false_iff, Bool.or_eq_false_iff, Bool.not_eq_eq_eq_not, Bool.not_true, Bool.not_false, beq_iff_eq, bne_iff_ne, beq_eq_false_iff_ne, bne_eq_false_iff_eq, ne_eq, subL_length] at *) <;> omega) | (have := keys8.1 _ ‹_ < 8›; (try simp only [decide_eq_true_eq, decide_eq_false_iff_not, List.length_append, List.length_cons, List.length_nil, List.length_set, List.length_replicate, Bool.not_eq_true, Bool.not_eq_false, Int.not_lt, Int.not_le, Bool.and_eq_true, Bool.or_eq_true, Bool.and_eq_false_iff, Bool.or_eq_false_iff, Bool.not_eq_eq_eq_not, Bool.not_true, Bool.not_false, beq_iff_eq, bne_iff_ne, beq_eq_false_iff_ne, bne_eq_false_iff_eq, ne_eq, subL_length] at *) <;> omega) | exact List.set_comm _ _ (keys7.2 _ ‹_› _ ‹_› ‹_›) | exact List.set_comm _ _ (keys8.2 _ ‹_› _ ‹_› ‹_›) | ((try simp only [decide_eq_true_eq, decide_eq_false_iff_not, List.length_append, List.length_cons, List.length_nil, List.length_set, List.length_replicate, Bool.not_eq_true, Bool.not_eq_false, Int.not_lt, Int.not_le, Bool.and_eq_true, Bool.or_eq_true, Bool.and_eq_false_iff, Bool.or_eq_false_iff, Bool.not_eq_eq_eq_not, Bool.not_true, Bool.not_false, beq_iff_eq, bne_iff_ne, beq_eq_false_iff_ne, bne_eq_false_iff_eq, ne_eq, subL_length] at *) <;> omega)

theorem record_Vars_fn (r : Realm) (c_ : CaseX) : FnA Tryz.prog 150 [av r.cells, av c_.cells] [] (lv CellX.cells (record_Vars r c_)) [] :=
  FnA.sk tok mixed (fun x => lv CellX.cells x) (fun _ => []) Tryz.func150 rfl (by kernel_rfl) 3000 (record_Vars_sk r c_) (by kernel_rfl) (record_Vars_ok r c_)
noncomputable def record_Vars_k (r : Realm) (c_ : CaseX) : Ctr ((List CellX)) := ⟨Tryz.prog, 150, [av r.cells, av c_.cells], fun x => lv CellX.cells x, false, record_Vars r c_, True, fun _ => record_Vars_fn r c_, fun (x : (List CellX)) => x = [] ∨ (x.length = 20 ∧ 0 ≤ c_.sign ∧ c_.sign < c_.file.signs.length), record_Vars_post r c_⟩
theorem record_Vars_fnO (r : Realm) (c_ : CaseX) : FnA Tryz.prog 150 [av r.cells, av c_.cells] [] (ow 777777 (record_Vars r c_)) [(777777, rowB 94 2 CellX.cells (record_Vars r c_))] :=
  FnA.sk tok mixed (fun x => ow 777777 x) (fun x => [(777777, rowB 94 2 CellX.cells x)]) Tryz.func150 rfl (by kernel_rfl) 3000 (record_Vars_sk r c_) (by kernel_rfl) (record_Vars_ok r c_)
noncomputable def record_Vars_ko (κ : Nat) (r : Realm) (c_ : CaseX) : CtrO ((List CellX)) := ⟨Tryz.prog, 150, [av r.cells, av c_.cells], fun x => ow κ x, fun x => [(κ, rowB 94 2 CellX.cells x)], record_Vars r c_, True, fun _ => FnA.rekey κ (record_Vars_fnO r c_), fun (x : (List CellX)) => x = [] ∨ (x.length = 20 ∧ 0 ≤ c_.sign ∧ c_.sign < c_.file.signs.length), record_Vars_post r c_⟩
noncomputable def ask_of_sk (r : Realm) (c_ : CaseX) : Sk (CaseX × (List CellX)) :=
 .r 1 ((record_At_k c_.file c_.day).c) fun x1 =>
 .r 2 ((record_Vars_k r ({ file := x1, sign := c_.sign, holder := c_.holder, defence := c_.defence, due := c_.due, day := c_.day } : CaseX)).c) fun x2 =>
 .fin (({ file := x1, sign := c_.sign, holder := c_.holder, defence := c_.defence, due := c_.due, day := c_.day } : CaseX), x2)
noncomputable def ask_of (r : Realm) (c_ : CaseX) : CaseX × (List CellX) := (ask_of_sk r c_).val
theorem ask_of_pst (r : Realm) (c_ : CaseX) : (ask_of_sk r c_).pst (fun (x : CaseX × (List CellX)) => x.2 = [] ∨ (x.2.length = 20 ∧ 0 ≤ x.1.sign ∧ x.1.sign < x.1.file.signs.length)) := by
  refine Sk.pst_of _ ?_
  unfold ask_of_sk
  simp only [Sk.pstq, Sk.isLoop, reduceCtorEq, leafB, leafJ, Cal.z, Cal.p, Cal.t, Cal.pt, Cal.o, Cal.and, Cal.andl, Cal.andr, Cal.wh, Cal.dep, Cal.depr, Ctr.c, Ctr.nil, Ctr.nilc, CtrO.c, CtrO.nil, record_At_k, record_Vars_k, File.Small, Realm.Small, maxLen, implies_true, true_and, and_true, and_self, true_implies, false_implies, ixP, szP, mkP]
  all_goals (repeat' first | assumption | (apply And.intro) | (intro h))
  all_goals first | trivial | assumption | omega | ((try simp only [decide_eq_true_eq, decide_eq_false_iff_not, List.length_append, List.length_cons, List.length_nil, List.length_set, List.length_replicate, Bool.not_eq_true, Bool.not_eq_false, Int.not_lt, Int.not_le, Bool.and_eq_true, Bool.or_eq_true, Bool.and_eq_false_iff, Bool.or_eq_false_iff, Bool.not_eq_eq_eq_not, Bool.not_true, Bool.not_false, beq_iff_eq, bne_iff_ne, beq_eq_false_iff_ne, bne_eq_false_iff_eq, ne_eq, subL_length] at *) <;> first | omega | (refine (w64_id ?_ ?_).trans ?_ <;> omega) | (simp (disch := omega) only [w64_id] at *; omega) | (grind) | (simp_all; done) | (simp_all; omega))

theorem ask_of_post (r : Realm) (c_ : CaseX) : (fun (x : CaseX × (List CellX)) => x.2 = [] ∨ (x.2.length = 20 ∧ 0 ≤ x.1.sign ∧ x.1.sign < x.1.file.signs.length)) (ask_of r c_) := Sk.pval _ (ask_of_pst r c_)
theorem ask_of_ok (r : Realm) (c_ : CaseX) (hf : c_.file.Small) : (ask_of_sk r c_).obs (fun _ => True) := by
  simp only [File.Small, Realm.Small] at hf
  refine Sk.obs_of _ ?_
  unfold ask_of_sk
  simp only [Sk.obq, Sk.isLoop, reduceCtorEq, leafB, leafJ, Cal.z, Cal.p, Cal.t, Cal.pt, Cal.o, Cal.and, Cal.andl, Cal.andr, Cal.wh, Cal.dep, Cal.depr, Ctr.c, Ctr.nil, Ctr.nilc, CtrO.c, CtrO.nil, record_At_k, record_Vars_k, File.Small, Realm.Small, maxLen, implies_true, true_and, and_true, and_self, true_implies, false_implies, ixP, szP, mkP]
  all_goals (repeat' first | assumption | (apply And.intro) | (intro h))
  all_goals first | trivial | assumption | omega | ((try simp only [decide_eq_true_eq, decide_eq_false_iff_not, List.length_append, List.length_cons, List.length_nil, List.length_set, List.length_replicate, Bool.not_eq_true, Bool.not_eq_false, Int.not_lt, Int.not_le, Bool.and_eq_true, Bool.or_eq_true, Bool.and_eq_false_iff, Bool.or_eq_false_iff, Bool.not_eq_eq_eq_not, Bool.not_true, Bool.not_false, beq_iff_eq, bne_iff_ne, beq_eq_false_iff_ne, bne_eq_false_iff_eq, ne_eq, subL_length] at *) <;> first | omega | (refine (w64_id ?_ ?_).trans ?_ <;> omega) | (simp (disch := omega) only [w64_id] at *; omega) | (grind) | (simp_all; done) | (simp_all; omega))

theorem ask_of_fn (r : Realm) (c_ : CaseX) (hf : c_.file.Small) : FnA Tryz.prog 111 [av r.cells, av c_.cells] [] (.tup [av ((ask_of r c_).1).cells, lv CellX.cells ((ask_of r c_).2)]) [] :=
  FnA.sk tok mixed (fun x => .tup [av x.1.cells, lv CellX.cells x.2]) (fun _ => []) Tryz.func111 rfl (by kernel_rfl) 3000 (ask_of_sk r c_) (by kernel_rfl) (ask_of_ok r c_ hf)
noncomputable def ask_of_k (r : Realm) (c_ : CaseX) : Ctr (CaseX × (List CellX)) := ⟨Tryz.prog, 111, [av r.cells, av c_.cells], fun x => .tup [av x.1.cells, lv CellX.cells x.2], false, ask_of r c_, (c_.file.Small), fun h => ask_of_fn r c_ h, fun (x : CaseX × (List CellX)) => x.2 = [] ∨ (x.2.length = 20 ∧ 0 ≤ x.1.sign ∧ x.1.sign < x.1.file.signs.length), ask_of_post r c_⟩
theorem filter_idem {α : Type} (p : α → Bool) (l : List α) : (l.filter p).filter p = l.filter p := by simp
theorem takeWhile_idem {α : Type} (p : α → Bool) : ∀ (l : List α), (l.takeWhile p).takeWhile p = l.takeWhile p
  | [] => rfl
  | x :: r => by
    rw [List.takeWhile_cons]
    cases h : p x with
    | false => rfl
    | true => rw [if_pos rfl, List.takeWhile_cons, h, if_pos rfl, takeWhile_idem p r]
theorem At_idem (f : File) (d : Int) : record_At (record_At f d) d = record_At f d := by
  rw [record_At_eq f d, record_At_eq]
  simp only [takeWhile_idem, filter_idem]
theorem walk_filter {α σ β : Type} (step : α → σ → β ⊕ σ) (fin : σ → β) (p : α → Bool) : ∀ (l : List α), (∀ x s, p x = false → step x s = .inr s) → ∀ s, walk step fin (l.filter p) s = walk step fin l s
  | [], _, s => rfl
  | x :: r, h, s => by
    rw [List.filter_cons]
    cases hp : p x with
    | false => rw [if_neg (by simp)]; conv => rhs; unfold walk
               rw [h x s hp]; exact walk_filter step fin p r h s
    | true =>
      rw [if_pos rfl]
      unfold walk
      cases step x s with
      | inl b => rfl
      | inr s' => exact walk_filter step fin p r h s'
noncomputable def factStep (kind at_ : Int) (x : Fact) (s : Unit) : CellX ⊕ Unit := bif (x.kind == kind) && (x.at_ == at_) then .inl (record_truth (x.n != 0)) else .inr ()
theorem Fact_eq (f : File) (kind at_ : Int) : record_Fact f kind at_ = walk (factStep kind at_) (fun _ => ⟨false, 0⟩) f.facts () := by
  simp only [record_Fact, record_Fact_sk, Sk.val_bind, Sk.val_loop, Sk.val_bnd, Sk.val_br, Sk.val_r, Sk.val_wi, Sk.val_fin, Ctr.c_v, record_truth_k]
  refine (pick_iter_walk f.facts (fun s i => i) (factStep kind at_) id _ (fun s i hi => ?_) (fun s => ?_) (by simp) ()).trans rfl
  · rw [decide_eq_true (by omega), cond_true]
    unfold factStep
    cases (((f.facts.getD i default).kind == kind) && ((f.facts.getD i default).at_ == at_)) <;> rfl
  · rw [decide_eq_false (by omega), cond_false]
theorem Fact_At (f : File) (d kind s : Int) (h : 0 ≤ s ∧ s < (record_At f d).signs.length) : record_Fact (record_At f d) kind s = record_Fact f kind s := by
  rw [Fact_eq, Fact_eq]
  rw [record_At_eq] at h ⊢
  dsimp only at h
  refine walk_filter _ _ _ _ (fun x u hp => ?_) ()
  have : (x.at_ == s) = false := by
    simp only [decide_eq_true_eq, decide_eq_false_iff_not, List.length_append, List.length_cons, List.length_nil, List.length_set, List.length_replicate, Bool.not_eq_true, Bool.not_eq_false, Int.not_lt, Int.not_le, Bool.and_eq_true, Bool.or_eq_true, Bool.and_eq_false_iff, Bool.or_eq_false_iff, Bool.not_eq_eq_eq_not, Bool.not_true, Bool.not_false, beq_iff_eq, bne_iff_ne, beq_eq_false_iff_ne, bne_eq_false_iff_eq, ne_eq, subL_length] at hp ⊢
    intro e
    subst e
    rcases hp with q | q <;> omega
  unfold factStep
  rw [this, Bool.and_false, cond_false]
noncomputable def slices_Index_sk (s : List Int) (v : Int) : Sk (Int) :=
 .bind true (fun b1 => ∀ q, q < s.length → (s.getD q default == v) = false)
 (.loop (default : Sum (Int) (Unit)) (fun i2 => ∀ q, q < i2 → (s.getD q default == v) = false) (fun i2 => s.length - i2) (0 : Nat)
 (fun (i2 : Nat) => ⟨[(8, iv ((i2 : Nat) : Int))], []⟩) fun i2 =>
 .bnd 0 0 s.length <|
 .br (decide (((i2 : Nat) : Int) < ((s.length : Nat) : Int)))
 (.r 4 (.p (ixP ((i2 : Nat) : Int) s.length)) fun _ =>
 .br (v == (s.getD i2 default))
 (.fin (.inl (.inl ((i2 : Nat) : Int))))
 (.r 6 .z fun _ =>
 .wi 8 (w64 (((i2 : Nat) : Int) + 1)) ((i2 + 1 : Nat) : Int) <|
 .fin (.inr (i2 + 1))))
 (.fin (.inl (.inr ()))))
 (fun (_ : Unit) => ⟨[], []⟩) fun _ =>
 .fin (-1)
noncomputable def slices_Index (s : List Int) (v : Int) : Int := (slices_Index_sk s v).val
theorem slices_Index_pst (s : List Int) (v : Int) : (slices_Index_sk s v).pst (fun (x : Int) => (x = -1 ∧ ∀ q, q < s.length → (s.getD q default == v) = false) ∨ (0 ≤ x ∧ x < s.length ∧ (s.getD x.toNat default == v) = true ∧ ∀ q, (q : Nat) < x.toNat → (s.getD q default == v) = false)) := by
  refine Sk.pst_of _ ?_
  unfold slices_Index_sk
  simp only [Sk.pstq, Sk.isLoop, reduceCtorEq, leafB, leafJ, Cal.z, Cal.p, Cal.t, Cal.pt, Cal.o, Cal.and, Cal.andl, Cal.andr, Cal.wh, Cal.dep, Cal.depr, Ctr.c, Ctr.nil, Ctr.nilc, CtrO.c, CtrO.nil, maxLen, implies_true, true_and, and_true, and_self, true_implies, false_implies, ixP, szP, mkP]
  all_goals (repeat' first | assumption | (apply And.intro) | (intro h))
  all_goals first | trivial | assumption | omega | ((try simp only [decide_eq_true_eq, decide_eq_false_iff_not, List.length_append, List.length_cons, List.length_nil, List.length_set, List.length_replicate, Bool.not_eq_true, Bool.not_eq_false, Int.not_lt, Int.not_le, Bool.and_eq_true, Bool.or_eq_true, Bool.and_eq_false_iff, Bool.or_eq_false_iff, Bool.not_eq_eq_eq_not, Bool.not_true, Bool.not_false, beq_iff_eq, bne_iff_ne, beq_eq_false_iff_ne, bne_eq_false_iff_eq, ne_eq, subL_length] at *) <;> first | omega | (refine (w64_id ?_ ?_).trans ?_ <;> omega) | (simp (disch := omega) only [w64_id] at *; omega) | (grind) | (simp_all; done) | (simp_all; omega))

theorem slices_Index_post (s : List Int) (v : Int) : (fun (x : Int) => (x = -1 ∧ ∀ q, q < s.length → (s.getD q default == v) = false) ∨ (0 ≤ x ∧ x < s.length ∧ (s.getD x.toNat default == v) = true ∧ ∀ q, (q : Nat) < x.toNat → (s.getD q default == v) = false)) (slices_Index s v) := Sk.pval _ (slices_Index_pst s v)
theorem slices_Index_ok (s : List Int) (v : Int) : (slices_Index_sk s v).obs (fun _ => True) := by
  refine Sk.obs_of _ ?_
  unfold slices_Index_sk
  simp only [Sk.obq, Sk.isLoop, reduceCtorEq, leafB, leafJ, Cal.z, Cal.p, Cal.t, Cal.pt, Cal.o, Cal.and, Cal.andl, Cal.andr, Cal.wh, Cal.dep, Cal.depr, Ctr.c, Ctr.nil, Ctr.nilc, CtrO.c, CtrO.nil, maxLen, implies_true, true_and, and_true, and_self, true_implies, false_implies, ixP, szP, mkP]
  all_goals (repeat' first | assumption | (apply And.intro) | (intro h))
  all_goals first | trivial | assumption | omega | ((try simp only [decide_eq_true_eq, decide_eq_false_iff_not, List.length_append, List.length_cons, List.length_nil, List.length_set, List.length_replicate, Bool.not_eq_true, Bool.not_eq_false, Int.not_lt, Int.not_le, Bool.and_eq_true, Bool.or_eq_true, Bool.and_eq_false_iff, Bool.or_eq_false_iff, Bool.not_eq_eq_eq_not, Bool.not_true, Bool.not_false, beq_iff_eq, bne_iff_ne, beq_eq_false_iff_ne, bne_eq_false_iff_eq, ne_eq, subL_length] at *) <;> first | omega | (refine (w64_id ?_ ?_).trans ?_ <;> omega) | (simp (disch := omega) only [w64_id] at *; omega) | (grind) | (simp_all; done) | (simp_all; omega))

theorem slices_Index_fn (s : List Int) (v : Int) : FnA Tryz.prog 184 [lv intC s, iv v] [] (iv (slices_Index s v)) [] :=
  FnA.sk tok mixed (fun x => iv x) (fun _ => []) Tryz.func184 rfl (by kernel_rfl) 3000 (slices_Index_sk s v) (by kernel_rfl) (slices_Index_ok s v)
noncomputable def slices_Index_k (s : List Int) (v : Int) : Ctr (Int) := ⟨Tryz.prog, 184, [lv intC s, iv v], fun x => iv x, true, slices_Index s v, True, fun _ => slices_Index_fn s v, fun (x : Int) => (x = -1 ∧ ∀ q, q < s.length → (s.getD q default == v) = false) ∨ (0 ≤ x ∧ x < s.length ∧ (s.getD x.toNat default == v) = true ∧ ∀ q, (q : Nat) < x.toNat → (s.getD q default == v) = false), slices_Index_post s v⟩
noncomputable def slices_Contains_sk (s : List Int) (v : Int) : Sk (Bool) :=
 .r 1 ((slices_Index_k s v).c) fun x1 =>
 .fin (decide (x1 ≥ 0))
noncomputable def slices_Contains (s : List Int) (v : Int) : Bool := (slices_Contains_sk s v).val
theorem slices_Contains_pst (s : List Int) (v : Int) : (slices_Contains_sk s v).pst (fun (x : Bool) => (x = true ↔ ∃ q, q < s.length ∧ (s.getD q default == v) = true)) := by
  refine Sk.pst_of _ ?_
  unfold slices_Contains_sk
  simp only [Sk.pstq, Sk.isLoop, reduceCtorEq, leafB, leafJ, Cal.z, Cal.p, Cal.t, Cal.pt, Cal.o, Cal.and, Cal.andl, Cal.andr, Cal.wh, Cal.dep, Cal.depr, Ctr.c, Ctr.nil, Ctr.nilc, CtrO.c, CtrO.nil, slices_Index_k, maxLen, implies_true, true_and, and_true, and_self, true_implies, false_implies, ixP, szP, mkP]
  all_goals (repeat' first | assumption | (apply And.intro) | (intro h))
  all_goals first | trivial | assumption | omega | ((try simp only [decide_eq_true_eq, decide_eq_false_iff_not, List.length_append, List.length_cons, List.length_nil, List.length_set, List.length_replicate, Bool.not_eq_true, Bool.not_eq_false, Int.not_lt, Int.not_le, Bool.and_eq_true, Bool.or_eq_true, Bool.and_eq_false_iff, Bool.or_eq_false_iff, Bool.not_eq_eq_eq_not, Bool.not_true, Bool.not_false, beq_iff_eq, bne_iff_ne, beq_eq_false_iff_ne, bne_eq_false_iff_eq, ne_eq, subL_length] at *) <;> first | omega | (refine (w64_id ?_ ?_).trans ?_ <;> omega) | (simp (disch := omega) only [w64_id] at *; omega) | (grind) | (simp_all; done) | (simp_all; omega))

theorem slices_Contains_post (s : List Int) (v : Int) : (fun (x : Bool) => (x = true ↔ ∃ q, q < s.length ∧ (s.getD q default == v) = true)) (slices_Contains s v) := Sk.pval _ (slices_Contains_pst s v)
theorem slices_Contains_ok (s : List Int) (v : Int) : (slices_Contains_sk s v).obs (fun _ => True) := by
  refine Sk.obs_of _ ?_
  unfold slices_Contains_sk
  simp only [Sk.obq, Sk.isLoop, reduceCtorEq, leafB, leafJ, Cal.z, Cal.p, Cal.t, Cal.pt, Cal.o, Cal.and, Cal.andl, Cal.andr, Cal.wh, Cal.dep, Cal.depr, Ctr.c, Ctr.nil, Ctr.nilc, CtrO.c, CtrO.nil, slices_Index_k, maxLen, implies_true, true_and, and_true, and_self, true_implies, false_implies, ixP, szP, mkP]

theorem slices_Contains_fn (s : List Int) (v : Int) : FnA Tryz.prog 151 [lv intC s, iv v] [] (bv (slices_Contains s v)) [] :=
  FnA.sk tok mixed (fun x => bv x) (fun _ => []) Tryz.func151 rfl (by kernel_rfl) 3000 (slices_Contains_sk s v) (by kernel_rfl) (slices_Contains_ok s v)
noncomputable def slices_Contains_k (s : List Int) (v : Int) : Ctr (Bool) := ⟨Tryz.prog, 151, [lv intC s, iv v], fun x => bv x, true, slices_Contains s v, True, fun _ => slices_Contains_fn s v, fun (x : Bool) => (x = true ↔ ∃ q, q < s.length ∧ (s.getD q default == v) = true), slices_Contains_post s v⟩
noncomputable def order_Type_sk (ask : Int) : Sk (Int × Bool) :=
 .br ((decide (ask < 0)) || (decide (ask ≥ 22)))
 (.fin (0, false))
 (.r 3 (.andl (.o [.nrm (litC intE [6, 7, 10, 12, 13, 14, 15, 16, 20, 21])]) ((slices_Contains_k [6, 7, 10, 12, 13, 14, 15, 16, 20, 21] ask).c)) fun x1 =>
 .br x1
 (.fin (0, true))
 (.fin (1, true)))
noncomputable def order_Type (ask : Int) : Int × Bool := (order_Type_sk ask).val
theorem order_Type_ok (ask : Int) : (order_Type_sk ask).obs (fun _ => True) := by
  refine Sk.obs_of _ ?_
  unfold order_Type_sk
  simp only [Sk.obq, Sk.isLoop, reduceCtorEq, leafB, leafJ, Cal.z, Cal.p, Cal.t, Cal.pt, Cal.o, Cal.and, Cal.andl, Cal.andr, Cal.wh, Cal.dep, Cal.depr, Ctr.c, Ctr.nil, Ctr.nilc, CtrO.c, CtrO.nil, slices_Contains_k, maxLen, implies_true, true_and, and_true, and_self, true_implies, false_implies, ixP, szP, mkP]

theorem order_Type_fn (ask : Int) : FnA Tryz.prog 112 [iv ask] [] (.tup [iv ((order_Type ask).1), bv ((order_Type ask).2)]) [] :=
  FnA.sk tok mixed (fun x => .tup [iv x.1, bv x.2]) (fun _ => []) Tryz.func112 rfl (by kernel_rfl) 3000 (order_Type_sk ask) (by kernel_rfl) (order_Type_ok ask)
noncomputable def order_Type_k (ask : Int) : Ctr (Int × Bool) := ⟨Tryz.prog, 112, [iv ask], fun x => .tup [iv x.1, bv x.2], true, order_Type ask, True, fun _ => order_Type_fn ask, fun _ => True, trivial⟩
noncomputable def ask_places_sk (r : Realm) (forum : Int) (c_ : CaseX) : Sk ((List Int)) :=
 .r 1 (.p (ixP c_.sign c_.file.signs.length)) fun _ =>
 .br ((((decide (((c_.file.signs.getD c_.sign.toNat default).who) < 0)) || (decide (((c_.file.signs.getD c_.sign.toNat default).who) ≥ ((r.firms.length : Nat) : Int)))) || (decide (forum < 0))) || (decide (forum ≥ ((r.orders.length : Nat) : Int))))
 (.fin [])
 (.r 4 (.andl (.o [.nrm (mkC intE 5 0)]) (.p (mkP (5 : Int) 8))) fun _ =>
 .r 5 (.andl (.p (ixP (0 : Int) ((List.replicate 5 (0 : Int)).length))) (.andl (.o [.nrm (setC intE (List.replicate 5 (0 : Int)) 0 forum)]) (.p (0 < (List.replicate 5 (0 : Int)).length)))) fun _ =>
 .wn 42 (List.replicate 5 (0 : Int)).length ((List.replicate 5 (0 : Int)).set 0 forum).length <|
 .r 6 (.depr ((realm_OrderAt_k r ((c_.file.signs.getD c_.sign.toNat default).city)).c) fun x1 => .andl (.p (ixP (1 : Int) (((List.replicate 5 (0 : Int)).set 0 forum).length))) (.andl (.o [.nrm (setC intE ((List.replicate 5 (0 : Int)).set 0 forum) 1 x1)]) (.p (1 < ((List.replicate 5 (0 : Int)).set 0 forum).length)))) fun x1 =>
 .wn 42 ((List.replicate 5 (0 : Int)).set 0 forum).length (((List.replicate 5 (0 : Int)).set 0 forum).set 1 x1).length <|
 .r 7 (.depr ((realm_OrderAt_k r c_.file.bill.pay).c) fun x2 => .andl (.p (ixP (2 : Int) ((((List.replicate 5 (0 : Int)).set 0 forum).set 1 x1).length))) (.andl (.o [.nrm (setC intE (((List.replicate 5 (0 : Int)).set 0 forum).set 1 x1) 2 x2)]) (.p (2 < (((List.replicate 5 (0 : Int)).set 0 forum).set 1 x1).length)))) fun x2 =>
 .wn 42 (((List.replicate 5 (0 : Int)).set 0 forum).set 1 x1).length ((((List.replicate 5 (0 : Int)).set 0 forum).set 1 x1).set 2 x2).length <|
 .r 8 (.depr ((realm_OrderAt_k r c_.file.bill.city).c) fun x3 => .andl (.p (ixP (3 : Int) (((((List.replicate 5 (0 : Int)).set 0 forum).set 1 x1).set 2 x2).length))) (.andl (.o [.nrm (setC intE ((((List.replicate 5 (0 : Int)).set 0 forum).set 1 x1).set 2 x2) 3 x3)]) (.p (3 < ((((List.replicate 5 (0 : Int)).set 0 forum).set 1 x1).set 2 x2).length)))) fun x3 =>
 .wn 42 ((((List.replicate 5 (0 : Int)).set 0 forum).set 1 x1).set 2 x2).length (((((List.replicate 5 (0 : Int)).set 0 forum).set 1 x1).set 2 x2).set 3 x3).length <|
 .r 9 (.andl (.p (ixP ((c_.file.signs.getD c_.sign.toNat default).who) r.firms.length)) (.depr ((realm_OrderAt_k r ((r.firms.getD (((c_.file.signs.getD c_.sign.toNat default).who).toNat) default).city)).c) fun x4 => .andl (.p (ixP (4 : Int) ((((((List.replicate 5 (0 : Int)).set 0 forum).set 1 x1).set 2 x2).set 3 x3).length))) (.andl (.o [.nrm (setC intE (((((List.replicate 5 (0 : Int)).set 0 forum).set 1 x1).set 2 x2).set 3 x3) 4 x4)]) (.p (4 < (((((List.replicate 5 (0 : Int)).set 0 forum).set 1 x1).set 2 x2).set 3 x3).length))))) fun x4 =>
 .wn 42 (((((List.replicate 5 (0 : Int)).set 0 forum).set 1 x1).set 2 x2).set 3 x3).length ((((((List.replicate 5 (0 : Int)).set 0 forum).set 1 x1).set 2 x2).set 3 x3).set 4 x4).length <|
 .r 10 ((slices_Contains_k ((((((List.replicate 5 (0 : Int)).set 0 forum).set 1 x1).set 2 x2).set 3 x3).set 4 x4) (-1)).c) fun x5 =>
 .br x5
 (.fin [])
 (.fin ((((((List.replicate 5 (0 : Int)).set 0 forum).set 1 x1).set 2 x2).set 3 x3).set 4 x4)))
noncomputable def ask_places (r : Realm) (forum : Int) (c_ : CaseX) : (List Int) := (ask_places_sk r forum c_).val
theorem ask_places_ok (r : Realm) (forum : Int) (c_ : CaseX) (hs : 0 ≤ c_.sign ∧ c_.sign < c_.file.signs.length) : (ask_places_sk r forum c_).obs (fun _ => True) := by
  refine Sk.obs_of _ ?_
  unfold ask_places_sk
  simp only [Sk.obq, Sk.isLoop, reduceCtorEq, leafB, leafJ, Cal.z, Cal.p, Cal.t, Cal.pt, Cal.o, Cal.and, Cal.andl, Cal.andr, Cal.wh, Cal.dep, Cal.depr, Ctr.c, Ctr.nil, Ctr.nilc, CtrO.c, CtrO.nil, realm_OrderAt_k, slices_Contains_k, maxLen, implies_true, true_and, and_true, and_self, true_implies, false_implies, ixP, szP, mkP]
  all_goals (repeat' first | assumption | (apply And.intro) | (intro h))
  all_goals first | trivial | assumption | omega | ((try simp only [decide_eq_true_eq, decide_eq_false_iff_not, List.length_append, List.length_cons, List.length_nil, List.length_set, List.length_replicate, Bool.not_eq_true, Bool.not_eq_false, Int.not_lt, Int.not_le, Bool.and_eq_true, Bool.or_eq_true, Bool.and_eq_false_iff, Bool.or_eq_false_iff, Bool.not_eq_eq_eq_not, Bool.not_true, Bool.not_false, beq_iff_eq, bne_iff_ne, beq_eq_false_iff_ne, bne_eq_false_iff_eq, ne_eq, subL_length] at *) <;> first | omega | (refine (w64_id ?_ ?_).trans ?_ <;> omega) | (simp (disch := omega) only [w64_id] at *; omega) | (grind) | (simp_all; done) | (simp_all; omega))

theorem ask_places_fn (r : Realm) (forum : Int) (c_ : CaseX) (hs : 0 ≤ c_.sign ∧ c_.sign < c_.file.signs.length) : FnA Tryz.prog 113 [av r.cells, iv forum, av c_.cells] [] (.d (bif (ask_places r forum c_).isEmpty then .v (.slice none 0 0) else slD intC (ask_places r forum c_))) [] :=
  FnA.sk tok mixed (fun x => .d (bif x.isEmpty then .v (.slice none 0 0) else slD intC x)) (fun _ => []) Tryz.func113 rfl (by kernel_rfl) 3000 (ask_places_sk r forum c_) (by kernel_rfl) (ask_places_ok r forum c_ hs)
noncomputable def ask_places_k (r : Realm) (forum : Int) (c_ : CaseX) : Ctr ((List Int)) := ⟨Tryz.prog, 113, [av r.cells, iv forum, av c_.cells], fun x => .d (bif x.isEmpty then .v (.slice none 0 0) else slD intC x), false, ask_places r forum c_, (0 ≤ c_.sign ∧ c_.sign < c_.file.signs.length), fun h => ask_places_fn r forum c_ h, fun _ => True, trivial⟩
theorem ask_places_fnO (r : Realm) (forum : Int) (c_ : CaseX) (hs : 0 ≤ c_.sign ∧ c_.sign < c_.file.signs.length) : FnA Tryz.prog 113 [av r.cells, iv forum, av c_.cells] [] (ow 777777 (ask_places r forum c_)) [(777777, rowB 3 1 intC (ask_places r forum c_))] :=
  FnA.sk tok mixed (fun x => ow 777777 x) (fun x => [(777777, rowB 3 1 intC x)]) Tryz.func113 rfl (by kernel_rfl) 3000 (ask_places_sk r forum c_) (by kernel_rfl) (ask_places_ok r forum c_ hs)
noncomputable def ask_places_ko (κ : Nat) (r : Realm) (forum : Int) (c_ : CaseX) : CtrO ((List Int)) := ⟨Tryz.prog, 113, [av r.cells, iv forum, av c_.cells], fun x => ow κ x, fun x => [(κ, rowB 3 1 intC x)], ask_places r forum c_, (0 ≤ c_.sign ∧ c_.sign < c_.file.signs.length), fun h => FnA.rekey κ (ask_places_fnO r forum c_ h), fun _ => True, trivial⟩
noncomputable def conflict_fine_c1_sk (o : Int) (v : Int) : Sk (Bool) :=
 .fin ((decide (o < 0)) || (decide (o ≥ v)))
noncomputable def conflict_fine_c1 (o : Int) (v : Int) : Bool := (conflict_fine_c1_sk o v).val
theorem conflict_fine_c1_eq (o : Int) (v : Int) : conflict_fine_c1 o v = ((decide (o < 0)) || (decide (o ≥ v))) := rfl
theorem conflict_fine_c1_ok (o : Int) (v : Int) : (conflict_fine_c1_sk o v).obs (fun _ => True) := by
  refine Sk.obs_of _ ?_
  unfold conflict_fine_c1_sk
  simp only [Sk.obq, Sk.isLoop, reduceCtorEq, leafB, leafJ, Cal.z, Cal.p, Cal.t, Cal.pt, Cal.o, Cal.and, Cal.andl, Cal.andr, Cal.wh, Cal.dep, Cal.depr, Ctr.c, Ctr.nil, Ctr.nilc, CtrO.c, CtrO.nil, maxLen, implies_true, true_and, and_true, and_self, true_implies, false_implies, ixP, szP, mkP]

theorem conflict_fine_c1_fn (o : Int) (v : Int) : FnA Tryz.prog 186 [iv o, .ref [dI v]] [] (bv (conflict_fine_c1 o v)) [] :=
  FnA.sk tok mixed (fun x => bv x) (fun _ => []) Tryz.func186 rfl (by kernel_rfl) 3000 (conflict_fine_c1_sk o v) (by kernel_rfl) (conflict_fine_c1_ok o v)
noncomputable def conflict_fine_c1_k (o : Int) (v : Int) : Ctr (Bool) := ⟨Tryz.prog, 186, [iv o, .ref [dI v]], fun x => bv x, true, conflict_fine_c1 o v, True, fun _ => conflict_fine_c1_fn o v, fun _ => True, trivial⟩
end Go.Proofs.YtggilgghigileaaGreatDoor
