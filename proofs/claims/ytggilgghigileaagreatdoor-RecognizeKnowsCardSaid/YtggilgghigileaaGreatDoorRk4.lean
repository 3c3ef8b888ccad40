/- Functions, as sketches. -/
import Derived.Test.YtggilgghigileaaGreatDoorRk3
namespace Go.Proofs.YtggilgghigileaaGreatDoor
open Go Go.Av
set_option linter.unusedSimpArgs false
set_option linter.unusedVariables false
set_option maxHeartbeats 1000000
set_option maxRecDepth 100000
noncomputable def slices_IndexFunc_186_sk (s : List Int) (v : Int) : Sk (Int) :=
 .bind true (fun b1 => ∀ q, q < s.length → conflict_fine_c1 (s.getD q default) v = false)
 (.loop (default : Sum (Int) (Unit)) (fun i2 => ∀ q, q < i2 → conflict_fine_c1 (s.getD q default) v = false) (fun i2 => s.length - i2) (0 : Nat)
 (fun (i2 : Nat) => ⟨[(8, iv ((i2 : Nat) : Int))], []⟩) fun i2 =>
 .bnd 0 0 s.length <|
 .br (decide (((i2 : Nat) : Int) < ((s.length : Nat) : Int)))
 (.r 4 (.andl (.p (ixP ((i2 : Nat) : Int) s.length)) ((conflict_fine_c1_k (s.getD i2 default) v).c)) fun x3 =>
 .br x3
 (.fin (.inl (.inl ((i2 : Nat) : Int))))
 (.r 6 .z fun _ =>
 .wi 8 (w64 (((i2 : Nat) : Int) + 1)) ((i2 + 1 : Nat) : Int) <|
 .fin (.inr (i2 + 1))))
 (.fin (.inl (.inr ()))))
 (fun (_ : Unit) => ⟨[], []⟩) fun _ =>
 .fin (-1)
noncomputable def slices_IndexFunc_186 (s : List Int) (v : Int) : Int := (slices_IndexFunc_186_sk s v).val
theorem slices_IndexFunc_186_pst (s : List Int) (v : Int) : (slices_IndexFunc_186_sk s v).pst (fun (x : Int) => (x = -1 ∧ ∀ q, q < s.length → conflict_fine_c1 (s.getD q default) v = false) ∨ (0 ≤ x ∧ x < s.length ∧ conflict_fine_c1 (s.getD x.toNat default) v = true ∧ ∀ q, (q : Nat) < x.toNat → conflict_fine_c1 (s.getD q default) v = false)) := by
  refine Sk.pst_of _ ?_
  unfold slices_IndexFunc_186_sk
  simp only [Sk.pstq, Sk.isLoop, reduceCtorEq, leafB, leafJ, Cal.z, Cal.p, Cal.t, Cal.pt, Cal.o, Cal.and, Cal.andl, Cal.andr, Cal.wh, Cal.dep, Cal.depr, Ctr.c, Ctr.nil, Ctr.nilc, CtrO.c, CtrO.nil, conflict_fine_c1_k, conflict_fine_c1_eq, forall_eq, maxLen, implies_true, true_and, and_true, and_self, true_implies, false_implies, ixP, szP, mkP]
  all_goals (repeat' first | assumption | (apply And.intro) | (intro h))
  all_goals first | trivial | assumption | omega | ((try simp only [decide_eq_true_eq, decide_eq_false_iff_not, List.length_append, List.length_cons, List.length_nil, List.length_set, List.length_replicate, Bool.not_eq_true, Bool.not_eq_false, Int.not_lt, Int.not_le, Bool.and_eq_true, Bool.or_eq_true, Bool.and_eq_false_iff, Bool.or_eq_false_iff, Bool.not_eq_eq_eq_not, Bool.not_true, Bool.not_false, beq_iff_eq, bne_iff_ne, beq_eq_false_iff_ne, bne_eq_false_iff_eq, ne_eq, subL_length] at *) <;> first | omega | (refine (w64_id ?_ ?_).trans ?_ <;> omega) | (simp (disch := omega) only [w64_id] at *; omega) | (grind) | (simp_all; done) | (simp_all; omega))

theorem slices_IndexFunc_186_post (s : List Int) (v : Int) : (fun (x : Int) => (x = -1 ∧ ∀ q, q < s.length → conflict_fine_c1 (s.getD q default) v = false) ∨ (0 ≤ x ∧ x < s.length ∧ conflict_fine_c1 (s.getD x.toNat default) v = true ∧ ∀ q, (q : Nat) < x.toNat → conflict_fine_c1 (s.getD q default) v = false)) (slices_IndexFunc_186 s v) := Sk.pval _ (slices_IndexFunc_186_pst s v)
theorem slices_IndexFunc_186_ok (s : List Int) (v : Int) : (slices_IndexFunc_186_sk s v).obs (fun _ => True) := by
  refine Sk.obs_of _ ?_
  unfold slices_IndexFunc_186_sk
  simp only [Sk.obq, Sk.isLoop, reduceCtorEq, leafB, leafJ, Cal.z, Cal.p, Cal.t, Cal.pt, Cal.o, Cal.and, Cal.andl, Cal.andr, Cal.wh, Cal.dep, Cal.depr, Ctr.c, Ctr.nil, Ctr.nilc, CtrO.c, CtrO.nil, conflict_fine_c1_k, conflict_fine_c1_eq, forall_eq, maxLen, implies_true, true_and, and_true, and_self, true_implies, false_implies, ixP, szP, mkP]
  all_goals (repeat' first | assumption | (apply And.intro) | (intro h))
  all_goals first | trivial | assumption | omega | ((try simp only [decide_eq_true_eq, decide_eq_false_iff_not, List.length_append, List.length_cons, List.length_nil, List.length_set, List.length_replicate, Bool.not_eq_true, Bool.not_eq_false, Int.not_lt, Int.not_le, Bool.and_eq_true, Bool.or_eq_true, Bool.and_eq_false_iff, Bool.or_eq_false_iff, Bool.not_eq_eq_eq_not, Bool.not_true, Bool.not_false, beq_iff_eq, bne_iff_ne, beq_eq_false_iff_ne, bne_eq_false_iff_eq, ne_eq, subL_length] at *) <;> first | omega | (refine (w64_id ?_ ?_).trans ?_ <;> omega) | (simp (disch := omega) only [w64_id] at *; omega) | (grind) | (simp_all; done) | (simp_all; omega))

theorem slices_IndexFunc_186_fn (s : List Int) (v : Int) : FnA Tryz.prog 209 [lv intC s, .fn 186 [.ref [dI v]]] [] (iv (slices_IndexFunc_186 s v)) [] :=
  FnA.sk tok mixed (fun x => iv x) (fun _ => []) Tryz.func209 rfl (by kernel_rfl) 3000 (slices_IndexFunc_186_sk s v) (by kernel_rfl) (slices_IndexFunc_186_ok s v)
noncomputable def slices_IndexFunc_186_k (s : List Int) (v : Int) : Ctr (Int) := ⟨Tryz.prog, 209, [lv intC s, .fn 186 [.ref [dI v]]], fun x => iv x, true, slices_IndexFunc_186 s v, True, fun _ => slices_IndexFunc_186_fn s v, fun (x : Int) => (x = -1 ∧ ∀ q, q < s.length → conflict_fine_c1 (s.getD q default) v = false) ∨ (0 ≤ x ∧ x < s.length ∧ conflict_fine_c1 (s.getD x.toNat default) v = true ∧ ∀ q, (q : Nat) < x.toNat → conflict_fine_c1 (s.getD q default) v = false), slices_IndexFunc_186_post s v⟩
noncomputable def slices_ContainsFunc_186_sk (s : List Int) (v : Int) : Sk (Bool) :=
 .r 1 ((slices_IndexFunc_186_k s v).c) fun x1 =>
 .fin (decide (x1 ≥ 0))
noncomputable def slices_ContainsFunc_186 (s : List Int) (v : Int) : Bool := (slices_ContainsFunc_186_sk s v).val
theorem slices_ContainsFunc_186_pst (s : List Int) (v : Int) : (slices_ContainsFunc_186_sk s v).pst (fun (x : Bool) => (x = true ↔ ∃ q, q < s.length ∧ conflict_fine_c1 (s.getD q default) v = true)) := by
  refine Sk.pst_of _ ?_
  unfold slices_ContainsFunc_186_sk
  simp only [Sk.pstq, Sk.isLoop, reduceCtorEq, leafB, leafJ, Cal.z, Cal.p, Cal.t, Cal.pt, Cal.o, Cal.and, Cal.andl, Cal.andr, Cal.wh, Cal.dep, Cal.depr, Ctr.c, Ctr.nil, Ctr.nilc, CtrO.c, CtrO.nil, slices_IndexFunc_186_k, maxLen, implies_true, true_and, and_true, and_self, true_implies, false_implies, ixP, szP, mkP]
  all_goals (repeat' first | assumption | (apply And.intro) | (intro h))
  all_goals first | trivial | assumption | omega | ((try simp only [decide_eq_true_eq, decide_eq_false_iff_not, List.length_append, List.length_cons, List.length_nil, List.length_set, List.length_replicate, Bool.not_eq_true, Bool.not_eq_false, Int.not_lt, Int.not_le, Bool.and_eq_true, Bool.or_eq_true, Bool.and_eq_false_iff, Bool.or_eq_false_iff, Bool.not_eq_eq_eq_not, Bool.not_true, Bool.not_false, beq_iff_eq, bne_iff_ne, beq_eq_false_iff_ne, bne_eq_false_iff_eq, ne_eq, subL_length] at *) <;> first | omega | (refine (w64_id ?_ ?_).trans ?_ <;> omega) | (simp (disch := omega) only [w64_id] at *; omega) | (grind) | (simp_all; done) | (simp_all; omega))

theorem slices_ContainsFunc_186_post (s : List Int) (v : Int) : (fun (x : Bool) => (x = true ↔ ∃ q, q < s.length ∧ conflict_fine_c1 (s.getD q default) v = true)) (slices_ContainsFunc_186 s v) := Sk.pval _ (slices_ContainsFunc_186_pst s v)
theorem slices_ContainsFunc_186_ok (s : List Int) (v : Int) : (slices_ContainsFunc_186_sk s v).obs (fun _ => True) := by
  refine Sk.obs_of _ ?_
  unfold slices_ContainsFunc_186_sk
  simp only [Sk.obq, Sk.isLoop, reduceCtorEq, leafB, leafJ, Cal.z, Cal.p, Cal.t, Cal.pt, Cal.o, Cal.and, Cal.andl, Cal.andr, Cal.wh, Cal.dep, Cal.depr, Ctr.c, Ctr.nil, Ctr.nilc, CtrO.c, CtrO.nil, slices_IndexFunc_186_k, maxLen, implies_true, true_and, and_true, and_self, true_implies, false_implies, ixP, szP, mkP]

theorem slices_ContainsFunc_186_fn (s : List Int) (v : Int) : FnA Tryz.prog 185 [lv intC s, .fn 186 [.ref [dI v]]] [] (bv (slices_ContainsFunc_186 s v)) [] :=
  FnA.sk tok mixed (fun x => bv x) (fun _ => []) Tryz.func185 rfl (by kernel_rfl) 3000 (slices_ContainsFunc_186_sk s v) (by kernel_rfl) (slices_ContainsFunc_186_ok s v)
noncomputable def slices_ContainsFunc_186_k (s : List Int) (v : Int) : Ctr (Bool) := ⟨Tryz.prog, 185, [lv intC s, .fn 186 [.ref [dI v]]], fun x => bv x, true, slices_ContainsFunc_186 s v, True, fun _ => slices_ContainsFunc_186_fn s v, fun (x : Bool) => (x = true ↔ ∃ q, q < s.length ∧ conflict_fine_c1 (s.getD q default) v = true), slices_ContainsFunc_186_post s v⟩
noncomputable def conflict_fine_sk (r : Realm) (order : Int) (ask : Int) (places : List Int) : Sk (Bool) :=
 .br (((((decide (order < 0)) || (decide (order ≥ ((r.orders.length : Nat) : Int)))) || (decide (ask < 0))) || (decide (ask ≥ 22))) || (((places.length : Nat) : Int) != 5))
 (.fin false)
 (.r 4 ((slices_ContainsFunc_186_k places ((r.orders.length : Nat) : Int)).c) fun x1 =>
 .fin (!x1))
noncomputable def conflict_fine (r : Realm) (order : Int) (ask : Int) (places : List Int) : Bool := (conflict_fine_sk r order ask places).val
theorem conflict_fine_pst (r : Realm) (order : Int) (ask : Int) (places : List Int) : (conflict_fine_sk r order ask places).pst (fun (x : Bool) => x = true → 0 ≤ order ∧ order < r.orders.length ∧ places.length = 5 ∧ ∀ i, i < 5 → 0 ≤ places.getD i default ∧ places.getD i default < r.orders.length) := by
  refine Sk.pst_of _ ?_
  unfold conflict_fine_sk
  simp only [Sk.pstq, Sk.isLoop, reduceCtorEq, leafB, leafJ, Cal.z, Cal.p, Cal.t, Cal.pt, Cal.o, Cal.and, Cal.andl, Cal.andr, Cal.wh, Cal.dep, Cal.depr, Ctr.c, Ctr.nil, Ctr.nilc, CtrO.c, CtrO.nil, slices_ContainsFunc_186_k, maxLen, implies_true, true_and, and_true, and_self, true_implies, false_implies, ixP, szP, mkP]
  all_goals (repeat' first | (apply And.intro) | (intro h))
  all_goals first | trivial | (simp at *; done) | (simp only [decide_eq_true_eq, decide_eq_false_iff_not, List.length_append, List.length_cons, List.length_nil, List.length_set, List.length_replicate, Bool.not_eq_true, Bool.not_eq_false, Int.not_lt, Int.not_le, Bool.and_eq_true, Bool.or_eq_true, Bool.and_eq_false_iff, Bool.or_eq_false_iff, Bool.not_eq_eq_eq_not, Bool.not_true, Bool.not_false, beq_iff_eq, bne_iff_ne, beq_eq_false_iff_ne, bne_eq_false_iff_eq, ne_eq, subL_length] at *; omega) | (simp only [decide_eq_true_eq, decide_eq_false_iff_not, List.length_append, List.length_cons, List.length_nil, List.length_set, List.length_replicate, Bool.not_eq_true, Bool.not_eq_false, Int.not_lt, Int.not_le, Bool.and_eq_true, Bool.or_eq_true, Bool.and_eq_false_iff, Bool.or_eq_false_iff, Bool.not_eq_eq_eq_not, Bool.not_true, Bool.not_false, beq_iff_eq, bne_iff_ne, beq_eq_false_iff_ne, bne_eq_false_iff_eq, ne_eq, subL_length] at *; grind [conflict_fine_c1_eq])

theorem conflict_fine_post (r : Realm) (order : Int) (ask : Int) (places : List Int) : (fun (x : Bool) => x = true → 0 ≤ order ∧ order < r.orders.length ∧ places.length = 5 ∧ ∀ i, i < 5 → 0 ≤ places.getD i default ∧ places.getD i default < r.orders.length) (conflict_fine r order ask places) := Sk.pval _ (conflict_fine_pst r order ask places)
theorem conflict_fine_ok (r : Realm) (order : Int) (ask : Int) (places : List Int) : (conflict_fine_sk r order ask places).obs (fun _ => True) := by
  refine Sk.obs_of _ ?_
  unfold conflict_fine_sk
  simp only [Sk.obq, Sk.isLoop, reduceCtorEq, leafB, leafJ, Cal.z, Cal.p, Cal.t, Cal.pt, Cal.o, Cal.and, Cal.andl, Cal.andr, Cal.wh, Cal.dep, Cal.depr, Ctr.c, Ctr.nil, Ctr.nilc, CtrO.c, CtrO.nil, slices_ContainsFunc_186_k, maxLen, implies_true, true_and, and_true, and_self, true_implies, false_implies, ixP, szP, mkP]

theorem conflict_fine_fn (r : Realm) (order : Int) (ask : Int) (places : List Int) : FnA Tryz.prog 152 [av r.cells, iv order, iv ask, lv intC places] [] (bv (conflict_fine r order ask places)) [] :=
  FnA.sk tok mixed (fun x => bv x) (fun _ => []) Tryz.func152 rfl (by kernel_rfl) 3000 (conflict_fine_sk r order ask places) (by kernel_rfl) (conflict_fine_ok r order ask places)
noncomputable def conflict_fine_k (r : Realm) (order : Int) (ask : Int) (places : List Int) : Ctr (Bool) := ⟨Tryz.prog, 152, [av r.cells, iv order, iv ask, lv intC places], fun x => bv x, true, conflict_fine r order ask places, True, fun _ => conflict_fine_fn r order ask places, fun (x : Bool) => x = true → 0 ≤ order ∧ order < r.orders.length ∧ places.length = 5 ∧ ∀ i, i < 5 → 0 ≤ places.getD i default ∧ places.getD i default < r.orders.length, conflict_fine_post r order ask places⟩
noncomputable def conflict_Leads_sk (r : Realm) (order : Int) (ask : Int) (places : List Int) : Sk (Int × Bool) :=
 .r 1 ((conflict_fine_k r order ask places).c) fun x1 =>
 .br (!x1)
 (.fin ((-1), false))
 (.r 3 (.p (ixP order r.orders.length)) fun _ =>
 .bind true (fun _ => True)
 (.loop (default : Sum (Int × Bool) (Unit)) (fun i3 => i3 ≤ ((r.orders.getD order.toNat default).choices).length) (fun i3 => ((r.orders.getD order.toNat default).choices).length - i3) (0 : Nat)
 (fun (i3 : Nat) => ⟨[(25, iv ((i3 : Nat) : Int))], []⟩) fun i3 =>
 .bnd 23 0 (((r.orders.getD order.toNat default).choices).length) <|
 .br (decide (((i3 : Nat) : Int) < ((((r.orders.getD order.toNat default).choices).length : Nat) : Int)))
 (.r 5 (.p (ixP ((i3 : Nat) : Int) (((r.orders.getD order.toNat default).choices).length))) fun _ =>
 .br ((((((r.orders.getD order.toNat default).choices).getD i3 default).ask) == ask) && (((((r.orders.getD order.toNat default).choices).getD i3 default).by_) != 0))
 (.r 7 (.p (ixP ((((r.orders.getD order.toNat default).choices).getD i3 default).by_) places.length)) fun _ =>
 .fin (.inl (.inl (places.getD (((((r.orders.getD order.toNat default).choices).getD i3 default).by_).toNat) default, (((r.orders.getD order.toNat default).choices).getD i3 default).whole))))
 (.r 8 .z fun _ =>
 .wi 25 (w64 (((i3 : Nat) : Int) + 1)) ((i3 + 1 : Nat) : Int) <|
 .fin (.inr (i3 + 1))))
 (.fin (.inl (.inr ()))))
 (fun (_ : Unit) => ⟨[], []⟩) fun _ =>
 .fin (order, false))
noncomputable def conflict_Leads (r : Realm) (order : Int) (ask : Int) (places : List Int) : Int × Bool := (conflict_Leads_sk r order ask places).val
theorem getD_fine {l : List Int} {n : Nat} (h0 : 0 < n) (h : ∀ i, i < 5 → 0 ≤ l.getD i default ∧ l.getD i default < n) (hl : l.length = 5) (k : Nat) : 0 ≤ l.getD k default ∧ l.getD k default < n := by
  by_cases c : k < 5
  · exact h k c
  · have : l.getD k default = 0 := by simp [List.getD, List.getElem?_eq_none (by omega : l.length ≤ k)]
    rw [this]; omega
theorem conflict_fine_other {r : Realm} {a b ask : Int} {places : List Int} (h : conflict_fine r a ask places = true) (hb : 0 ≤ b ∧ b < r.orders.length) : conflict_fine r b ask places = true := by
  simp only [conflict_fine, conflict_fine_sk, Sk.val, Ctr.c, slices_ContainsFunc_186_k] at h ⊢
  revert h
  simp only [Bool.cond_eq_ite]
  split
  · intro h; cases h
  · rename_i h1
    intro h
    rw [if_neg]
    · exact h
    · simp only [Bool.or_eq_true, decide_eq_true_eq, not_or] at h1 ⊢
      exact ⟨⟨⟨⟨by omega, by omega⟩, h1.1.1.2⟩, h1.1.2⟩, h1.2⟩
theorem conflict_Leads_pst (r : Realm) (order : Int) (ask : Int) (places : List Int) : (conflict_Leads_sk r order ask places).pst (fun (x : Int × Bool) => conflict_fine r order ask places = true → 0 ≤ x.1 ∧ x.1 < r.orders.length) := by
  refine Sk.pst_of _ ?_
  unfold conflict_Leads_sk
  simp only [Sk.pstq, Sk.isLoop, reduceCtorEq, leafB, leafJ, Cal.z, Cal.p, Cal.t, Cal.pt, Cal.o, Cal.and, Cal.andl, Cal.andr, Cal.wh, Cal.dep, Cal.depr, Ctr.c, Ctr.nil, Ctr.nilc, CtrO.c, CtrO.nil, conflict_fine_k, Realm.ByOK, maxLen, implies_true, true_and, and_true, and_self, true_implies, false_implies, ixP, szP, mkP]
  all_goals (repeat' first | (apply And.intro) | (intro h))
  all_goals first | trivial | omega | (simp only [decide_eq_true_eq, decide_eq_false_iff_not, List.length_append, List.length_cons, List.length_nil, List.length_set, List.length_replicate, Bool.not_eq_true, Bool.not_eq_false, Int.not_lt, Int.not_le, Bool.and_eq_true, Bool.or_eq_true, Bool.and_eq_false_iff, Bool.or_eq_false_iff, Bool.not_eq_eq_eq_not, Bool.not_true, Bool.not_false, beq_iff_eq, bne_iff_ne, beq_eq_false_iff_ne, bne_eq_false_iff_eq, ne_eq, subL_length] at *; first | omega | (exact (getD_fine (n := r.orders.length) (by grind) (by grind) (by grind) _).1) | (exact (getD_fine (n := r.orders.length) (by grind) (by grind) (by grind) _).2) | grind)

theorem conflict_Leads_post (r : Realm) (order : Int) (ask : Int) (places : List Int) : (fun (x : Int × Bool) => conflict_fine r order ask places = true → 0 ≤ x.1 ∧ x.1 < r.orders.length) (conflict_Leads r order ask places) := Sk.pval _ (conflict_Leads_pst r order ask places)
theorem conflict_Leads_ok (r : Realm) (order : Int) (ask : Int) (places : List Int) (hb : r.ByOK) : (conflict_Leads_sk r order ask places).obs (fun _ => True) := by
  simp only [Realm.ByOK] at hb
  refine Sk.obs_of _ ?_
  unfold conflict_Leads_sk
  simp only [Sk.obq, Sk.isLoop, reduceCtorEq, leafB, leafJ, Cal.z, Cal.p, Cal.t, Cal.pt, Cal.o, Cal.and, Cal.andl, Cal.andr, Cal.wh, Cal.dep, Cal.depr, Ctr.c, Ctr.nil, Ctr.nilc, CtrO.c, CtrO.nil, conflict_fine_k, Realm.ByOK, maxLen, implies_true, true_and, and_true, and_self, true_implies, false_implies, ixP, szP, mkP]
  all_goals (repeat' first | assumption | (apply And.intro) | (intro h))
  all_goals first | trivial | assumption | omega | ((try simp only [decide_eq_true_eq, decide_eq_false_iff_not, List.length_append, List.length_cons, List.length_nil, List.length_set, List.length_replicate, Bool.not_eq_true, Bool.not_eq_false, Int.not_lt, Int.not_le, Bool.and_eq_true, Bool.or_eq_true, Bool.and_eq_false_iff, Bool.or_eq_false_iff, Bool.not_eq_eq_eq_not, Bool.not_true, Bool.not_false, beq_iff_eq, bne_iff_ne, beq_eq_false_iff_ne, bne_eq_false_iff_eq, ne_eq, subL_length] at *) <;> first | omega | (refine (w64_id ?_ ?_).trans ?_ <;> omega) | (simp (disch := omega) only [w64_id] at *; omega) | (grind) | (simp_all; done) | (simp_all; omega))

theorem conflict_Leads_fn (r : Realm) (order : Int) (ask : Int) (places : List Int) (hb : r.ByOK) : FnA Tryz.prog 153 [av r.cells, iv order, iv ask, lv intC places] [] (.tup [iv ((conflict_Leads r order ask places).1), bv ((conflict_Leads r order ask places).2)]) [] :=
  FnA.sk tok mixed (fun x => .tup [iv x.1, bv x.2]) (fun _ => []) Tryz.func153 rfl (by kernel_rfl) 3000 (conflict_Leads_sk r order ask places) (by kernel_rfl) (conflict_Leads_ok r order ask places hb)
noncomputable def conflict_Leads_k (r : Realm) (order : Int) (ask : Int) (places : List Int) : Ctr (Int × Bool) := ⟨Tryz.prog, 153, [av r.cells, iv order, iv ask, lv intC places], fun x => .tup [iv x.1, bv x.2], true, conflict_Leads r order ask places, (r.ByOK), fun h => conflict_Leads_fn r order ask places h, fun (x : Int × Bool) => conflict_fine r order ask places = true → 0 ≤ x.1 ∧ x.1 < r.orders.length, conflict_Leads_post r order ask places⟩
def PathOK (n : Nat) (l : List Int) : Prop := l.length ≠ 0 ∧ l.Nodup ∧ ∀ x, x ∈ l → 0 ≤ x ∧ x < n
theorem PathOK.le {n : Nat} {l : List Int} (h : PathOK n l) : l.length ≤ n := by
  have h1 := List.Nodup.length_le_of_subset (l₁ := l) (l₂ := (List.range n).map Int.ofNat) h.2.1 (fun x hx => by
    have := h.2.2 x hx
    exact List.mem_map.2 ⟨x.toNat, List.mem_range.2 (by omega), by simp; omega⟩)
  simpa using h1
theorem PathOK.get {n : Nat} {l : List Int} (h : PathOK n l) (k : Nat) : 0 ≤ l.getD k default ∧ l.getD k default < n := by
  by_cases hk : k < l.length
  · have e : l.getD k default = l[k] := by simp [List.getD, hk]
    rw [e]
    exact h.2.2 _ (List.getElem_mem hk)
  · have e : l.getD k default = 0 := by simp [List.getD, List.getElem?_eq_none (by omega : l.length ≤ k)]
    have := h.le
    have := h.1
    rw [e]
    omega
theorem PathOK.snoc' {n : Nat} {l : List Int} (h : PathOK n l) {x : Int} (hx : 0 ≤ x ∧ x < n) : ∀ y, y ∈ l ++ [x] → 0 ≤ y ∧ y < n := fun y hy => by
  rcases List.mem_append.1 hy with h1 | h1
  · exact h.2.2 y h1
  · simp only [List.mem_singleton] at h1; subst h1; exact hx
theorem PathOK.snoc {n : Nat} {l : List Int} (h : PathOK n l) {x : Int} (hx : 0 ≤ x ∧ x < n) (hn : ¬ ∃ q, q < l.length ∧ (l.getD q default == x) = true) : PathOK n (l ++ [x]) := by
  refine ⟨by simp, ?_, h.snoc' hx⟩
  refine List.nodup_append.2 ⟨h.2.1, by simp, fun a ha b hb e => ?_⟩
  simp only [List.mem_singleton] at hb
  subst hb; subst e
  obtain ⟨q, hq, e⟩ := List.getElem_of_mem ha
  exact hn ⟨q, hq, by simp [List.getD, hq, e]⟩
theorem PathOK.one {n : Nat} {x : Int} (hx : 0 ≤ x ∧ x < n) : PathOK n [x] := ⟨by simp, by simp, fun y hy => by simp only [List.mem_singleton] at hy; subst hy; exact hx⟩
noncomputable def conflict_Law_sk (r : Realm) (forum : Int) (ask : Int) (places : List Int) : Sk ((List Int) × Int) :=
 .r 1 (.depr ((conflict_fine_k r forum ask places).c) fun x1 => .wh (!x1) false (.p (ixP (0 : Int) places.length))) fun x1 =>
 .br ((!x1) || ((places.getD 0 default) != forum))
 (.fin ([], 1))
 (.r 3 (.o [.nrm (litC intE [forum])]) fun _ =>
 .loop (default : (List Int) × Int) (fun i2 => PathOK r.orders.length i2) (fun i2 => r.orders.length + 1 - i2.length) ([forum] : (List Int))
 (fun (i2 : (List Int)) => ⟨[(10, ow 100001 i2)], [(100001, rowB 3 1 intC i2)]⟩) fun i2 =>
 .r 4 (.andl (.p (ixP (w64 (((i2.length : Nat) : Int) - 1)) i2.length)) (.p ((w64 (((i2.length : Nat) : Int) - 1)).toNat < i2.length))) fun _ =>
 .r 5 ((conflict_Leads_k r (i2.getD ((w64 (((i2.length : Nat) : Int) - 1)).toNat) default) ask places).c) fun x3 =>
 .br (x3.1 == (i2.getD ((w64 (((i2.length : Nat) : Int) - 1)).toNat) default))
 (.fin (.inl (i2, 0)))
 (.r 8 ((slices_Contains_k i2 x3.1).c) fun x4 =>
 .r 9 (.andl (.o [.nrm (litC intE [x3.1])]) (.andl (.o [.nrm (catC intE i2 [x3.1])]) (.andl (.t (intE.ones [x3.1])) (.p (szP i2.length [x3.1].length 8))))) fun _ =>
 .r 10 (.wh (!x3.2) false (.wh x4 true (.p (ixP x3.1 r.orders.length)))) fun _ =>
 .br ((!x3.2) || (x4 && ((r.orders.getD x3.1.toNat default).accepts)))
 (.fin (.inl (i2 ++ [x3.1], 0)))
 (.br x4
 (.fin (.inl (i2 ++ [x3.1], 12)))
 (.fin (.inr (i2 ++ [x3.1]))))))
noncomputable def conflict_Law (r : Realm) (forum : Int) (ask : Int) (places : List Int) : (List Int) × Int := (conflict_Law_sk r forum ask places).val
theorem conflict_Law_pst (r : Realm) (forum : Int) (ask : Int) (places : List Int) : (conflict_Law_sk r forum ask places).pst (fun (x : (List Int) × Int) => x.2 = 0 → x.1.length ≠ 0 ∧ (∀ y, y ∈ x.1 → 0 ≤ y ∧ y < r.orders.length) ∧ x.1.length ≤ r.orders.length + 1) := by
  refine Sk.pst_of _ ?_
  unfold conflict_Law_sk
  simp only [Sk.pstq, Sk.isLoop, reduceCtorEq, leafB, leafJ, Cal.z, Cal.p, Cal.t, Cal.pt, Cal.o, Cal.and, Cal.andl, Cal.andr, Cal.wh, Cal.dep, Cal.depr, Ctr.c, Ctr.nil, Ctr.nilc, CtrO.c, CtrO.nil, conflict_Leads_k, conflict_fine_k, slices_Contains_k, File.Small, Realm.Small, Realm.ByOK, maxLen, implies_true, true_and, and_true, and_self, true_implies, false_implies, ixP, szP, mkP]
  intro x hx hp
  refine ⟨fun _ h => by omega, fun hc _ => ?_⟩
  have hx1 : x = true := by simp at hc; exact hc.1
  obtain ⟨h1, h2, h3, h4⟩ := hp hx1
  refine ⟨PathOK.one ⟨h1, h2⟩, fun i hi _ y hy hy2 => ?_⟩
  have hy3 := hy2 (conflict_fine_other (hx ▸ hx1) (hi.get _))
  have hle := hi.le
  refine ⟨fun _ => ⟨hi.1, hi.2.2, by omega⟩, fun _ z hz hz2 _ _ => ⟨fun _ => ⟨by simp, hi.snoc' hy3, by simp; omega⟩, fun _ => ⟨fun _ h => by omega, fun hz3 => ?_⟩⟩⟩
  have hs := hi.snoc hy3 (by rw [← hz2, hz3]; simp)
  have := hs.le
  simp only [List.length_append, List.length_cons, List.length_nil] at this ⊢
  exact ⟨hs, by omega⟩

theorem conflict_Law_post (r : Realm) (forum : Int) (ask : Int) (places : List Int) : (fun (x : (List Int) × Int) => x.2 = 0 → x.1.length ≠ 0 ∧ (∀ y, y ∈ x.1 → 0 ≤ y ∧ y < r.orders.length) ∧ x.1.length ≤ r.orders.length + 1) (conflict_Law r forum ask places) := Sk.pval _ (conflict_Law_pst r forum ask places)
theorem conflict_Law_ok (r : Realm) (forum : Int) (ask : Int) (places : List Int) (hb : r.ByOK) (hr : r.Small) : (conflict_Law_sk r forum ask places).obs (fun _ => True) := by
  simp only [File.Small, Realm.Small, Realm.ByOK] at hb
  simp only [File.Small, Realm.Small, Realm.ByOK] at hr
  refine Sk.obs_of _ ?_
  unfold conflict_Law_sk
  simp only [Sk.obq, Sk.isLoop, reduceCtorEq, leafB, leafJ, Cal.z, Cal.p, Cal.t, Cal.pt, Cal.o, Cal.and, Cal.andl, Cal.andr, Cal.wh, Cal.dep, Cal.depr, Ctr.c, Ctr.nil, Ctr.nilc, CtrO.c, CtrO.nil, conflict_Leads_k, conflict_fine_k, slices_Contains_k, File.Small, Realm.Small, Realm.ByOK, maxLen, implies_true, true_and, and_true, and_self, true_implies, false_implies, ixP, szP, mkP]
  refine ⟨fun x hx hp hx1 => ?_, fun x hx hp hc _ => ?_⟩
  · have := hp (by simpa using hx1); omega
  have hx1 : x = true := by simp at hc; exact hc.1
  obtain ⟨h1, h2, h3, h4⟩ := hp hx1
  refine ⟨PathOK.one ⟨h1, h2⟩, fun i hi => ?_⟩
  have hle := hi.le
  have hne := hi.1
  have hw : w64 ((i.length : Int) - 1) = (i.length : Int) - 1 := w64_id (by omega) (by omega)
  rw [hw]
  refine ⟨⟨⟨by omega, by omega⟩, by omega⟩, fun _ => ⟨hb, fun y hy hy2 hne2 z hz hz2 => ?_⟩⟩
  have hy3 := hy2 (conflict_fine_other (hx ▸ hx1) (hi.get _))
  refine ⟨⟨by simp only [List.length_cons, List.length_nil]; omega, by simp only [List.length_cons, List.length_nil]; omega⟩, fun _ => ⟨fun _ _ => hy3, fun _ _ hz3 => ?_⟩⟩
  have hs := hi.snoc hy3 (by rw [← hz2, hz3]; simp)
  have := hs.le
  simp only [List.length_append, List.length_cons, List.length_nil] at this ⊢
  exact ⟨hs, by omega⟩

theorem conflict_Law_fn (r : Realm) (forum : Int) (ask : Int) (places : List Int) (hb : r.ByOK) (hr : r.Small) : FnA Tryz.prog 114 [av r.cells, iv forum, iv ask, lv intC places] [] (.tup [lv intC ((conflict_Law r forum ask places).1), iv ((conflict_Law r forum ask places).2)]) [] :=
  FnA.sk tok mixed (fun x => .tup [lv intC x.1, iv x.2]) (fun _ => []) Tryz.func114 rfl (by kernel_rfl) 3000 (conflict_Law_sk r forum ask places) (by kernel_rfl) (conflict_Law_ok r forum ask places hb hr)
noncomputable def conflict_Law_k (r : Realm) (forum : Int) (ask : Int) (places : List Int) : Ctr ((List Int) × Int) := ⟨Tryz.prog, 114, [av r.cells, iv forum, iv ask, lv intC places], fun x => .tup [lv intC x.1, iv x.2], false, conflict_Law r forum ask places, (r.ByOK) ∧ (r.Small), fun h => conflict_Law_fn r forum ask places h.1 h.2, fun (x : (List Int) × Int) => x.2 = 0 → x.1.length ≠ 0 ∧ (∀ y, y ∈ x.1 → 0 ≤ y ∧ y < r.orders.length) ∧ x.1.length ≤ r.orders.length + 1, conflict_Law_post r forum ask places⟩
theorem all_get {n : Nat} {l : List Int} (h1 : l.length ≠ 0) (h2 : ∀ y, y ∈ l → 0 ≤ y ∧ y < (n : Int)) (k : Nat) : 0 ≤ l.getD k default ∧ l.getD k default < n := by
  by_cases hk : k < l.length
  · have e : l.getD k default = l[k] := by simp [List.getD, hk]
    rw [e]
    exact h2 _ (List.getElem_mem hk)
  · have e : l.getD k default = 0 := by simp [List.getD, List.getElem?_eq_none (by omega : l.length ≤ k)]
    have h3 := h2 l[0] (List.getElem_mem (by omega))
    rw [e]
    omega
noncomputable def ask_find_sk (r : Realm) (forum : Int) (question : Int) (c_ : CaseX) : Sk (Said × (List CellX)) :=
 .r 2 ((ask_of_k r c_).c) fun x1 =>
 .br (((x1.2.length : Nat) : Int) == 0)
 (.fin (({ cell := ({ known := false, n := 0 } : CellX), order := (-1), path := [], err := 1 } : Said), []))
 (.r 5 ((order_Type_k question).c) fun x2 =>
 .br (!x2.2)
 (.fin (({ cell := ({ known := false, n := 0 } : CellX), order := (-1), path := [], err := 1 } : Said), []))
 (.r 8 ((ask_places_k r forum x1.1).c) fun x3 =>
 .cas 14 x3.isEmpty nv (lv intC x3)
 (.brt <|
 .fin (({ cell := ({ known := false, n := 0 } : CellX), order := (-1), path := [], err := 1 } : Said), []))
 (.r 9 (.p (x3.length ≠ 0)) fun _ =>
 .brf <|
 .r 11 ((conflict_Law_k r forum question x3).c) fun x4 =>
 .br (x4.2 == 0)
 (.r 13 (.p (ixP (w64 (((x4.1.length : Nat) : Int) - 1)) x4.1.length)) fun _ =>
 .fin (({ cell := ({ known := false, n := 0 } : CellX), order := x4.1.getD ((w64 (((x4.1.length : Nat) : Int) - 1)).toNat) default, path := x4.1, err := x4.2 } : Said), x1.2))
 (.fin (({ cell := ({ known := false, n := 0 } : CellX), order := (-1), path := x4.1, err := x4.2 } : Said), x1.2)))))
noncomputable def ask_find (r : Realm) (forum : Int) (question : Int) (c_ : CaseX) : Said × (List CellX) := (ask_find_sk r forum question c_).val
theorem ask_find_pst (r : Realm) (forum : Int) (question : Int) (c_ : CaseX) : (ask_find_sk r forum question c_).pst (fun (x : Said × (List CellX)) => x.1.order = -1 ∨ (0 ≤ x.1.order ∧ x.1.order < r.orders.length ∧ x.2.length = 20)) := by
  refine Sk.pst_of _ ?_
  unfold ask_find_sk
  simp only [Sk.pstq, Sk.isLoop, reduceCtorEq, leafB, leafJ, Cal.z, Cal.p, Cal.t, Cal.pt, Cal.o, Cal.and, Cal.andl, Cal.andr, Cal.wh, Cal.dep, Cal.depr, Ctr.c, Ctr.nil, Ctr.nilc, CtrO.c, CtrO.nil, ask_of_k, ask_places_k, conflict_Law_k, order_Type_k, File.Small, Realm.Small, Realm.ByOK, maxLen, implies_true, true_and, and_true, and_self, true_implies, false_implies, ixP, szP, mkP]
  intro x hx hp
  refine ⟨fun _ => .inl trivial, fun hc x1 _ => ⟨fun _ => .inl trivial, fun _ x2 _ => ⟨fun _ => .inl trivial, fun _ _ x4 _ hl => ⟨fun h0 _ => .inr ?_, fun _ => .inl trivial⟩⟩⟩⟩
  obtain ⟨h1, h2, h3⟩ := hl (by simpa using h0)
  have h20 : x.2.length = 20 := by
    rcases hp with h | h
    · rw [h] at hc; simp at hc
    · exact h.1
  exact ⟨(all_get h1 h2 _).1, (all_get h1 h2 _).2, h20⟩

theorem ask_find_post (r : Realm) (forum : Int) (question : Int) (c_ : CaseX) : (fun (x : Said × (List CellX)) => x.1.order = -1 ∨ (0 ≤ x.1.order ∧ x.1.order < r.orders.length ∧ x.2.length = 20)) (ask_find r forum question c_) := Sk.pval _ (ask_find_pst r forum question c_)
theorem ask_find_ok (r : Realm) (forum : Int) (question : Int) (c_ : CaseX) (hf : c_.file.Small) (hb : r.ByOK) (hr : r.Small) : (ask_find_sk r forum question c_).obs (fun _ => True) := by
  simp only [File.Small, Realm.Small, Realm.ByOK] at hf
  simp only [File.Small, Realm.Small, Realm.ByOK] at hb
  simp only [File.Small, Realm.Small, Realm.ByOK] at hr
  refine Sk.obs_of _ ?_
  unfold ask_find_sk
  simp only [Sk.obq, Sk.isLoop, reduceCtorEq, leafB, leafJ, Cal.z, Cal.p, Cal.t, Cal.pt, Cal.o, Cal.and, Cal.andl, Cal.andr, Cal.wh, Cal.dep, Cal.depr, Ctr.c, Ctr.nil, Ctr.nilc, CtrO.c, CtrO.nil, ask_of_k, ask_places_k, conflict_Law_k, order_Type_k, File.Small, Realm.Small, Realm.ByOK, maxLen, implies_true, true_and, and_true, and_self, true_implies, false_implies, ixP, szP, mkP]
  refine ⟨hf, fun x hx hp hc x1 _ _ => ?_⟩
  have hp' : x.2.length = 20 ∧ 0 ≤ x.1.sign ∧ x.1.sign < x.1.file.signs.length := by
    rcases hp with h | h
    · rw [h] at hc; simp at hc
    · exact h
  refine ⟨hp'.2, fun x2 _ he => ⟨fun h => by simp [List.length_eq_zero_iff.1 h] at he, fun _ => ⟨⟨hb, hr⟩, fun x4 _ hl h0 => ?_⟩⟩⟩
  obtain ⟨h1, h2, h3⟩ := hl (by simpa using h0)
  rw [w64_id (by omega) (by omega)]
  omega

theorem ask_find_fn (r : Realm) (forum : Int) (question : Int) (c_ : CaseX) (hf : c_.file.Small) (hb : r.ByOK) (hr : r.Small) : FnA Tryz.prog 79 [av r.cells, iv forum, iv question, av c_.cells] [] (.tup [av ((ask_find r forum question c_).1).cells, lv CellX.cells ((ask_find r forum question c_).2)]) [] :=
  FnA.sk tok mixed (fun x => .tup [av x.1.cells, lv CellX.cells x.2]) (fun _ => []) Tryz.func79 rfl (by kernel_rfl) 3000 (ask_find_sk r forum question c_) (by kernel_rfl) (ask_find_ok r forum question c_ hf hb hr)
noncomputable def ask_find_k (r : Realm) (forum : Int) (question : Int) (c_ : CaseX) : Ctr (Said × (List CellX)) := ⟨Tryz.prog, 79, [av r.cells, iv forum, iv question, av c_.cells], fun x => .tup [av x.1.cells, lv CellX.cells x.2], false, ask_find r forum question c_, (c_.file.Small) ∧ (r.ByOK) ∧ (r.Small), fun h => ask_find_fn r forum question c_ h.1 h.2.1 h.2.2, fun (x : Said × (List CellX)) => x.1.order = -1 ∨ (0 ≤ x.1.order ∧ x.1.order < r.orders.length ∧ x.2.length = 20), ask_find_post r forum question c_⟩
noncomputable def order_find_c1_sk (r : Rule) (v : Int) : Sk (Bool) :=
 .fin (r.ask == v)
noncomputable def order_find_c1 (r : Rule) (v : Int) : Bool := (order_find_c1_sk r v).val
theorem order_find_c1_eq (r : Rule) (v : Int) : order_find_c1 r v = (r.ask == v) := rfl
theorem order_find_c1_ok (r : Rule) (v : Int) : (order_find_c1_sk r v).obs (fun _ => True) := by
  refine Sk.obs_of _ ?_
  unfold order_find_c1_sk
  simp only [Sk.obq, Sk.isLoop, reduceCtorEq, leafB, leafJ, Cal.z, Cal.p, Cal.t, Cal.pt, Cal.o, Cal.and, Cal.andl, Cal.andr, Cal.wh, Cal.dep, Cal.depr, Ctr.c, Ctr.nil, Ctr.nilc, CtrO.c, CtrO.nil, maxLen, implies_true, true_and, and_true, and_self, true_implies, false_implies, ixP, szP, mkP]

theorem order_find_c1_fn (r : Rule) (v : Int) : FnA Tryz.prog 155 [av r.cells, .ref [dI v]] [] (bv (order_find_c1 r v)) [] :=
  FnA.sk tok mixed (fun x => bv x) (fun _ => []) Tryz.func155 rfl (by kernel_rfl) 3000 (order_find_c1_sk r v) (by kernel_rfl) (order_find_c1_ok r v)
noncomputable def order_find_c1_k (r : Rule) (v : Int) : Ctr (Bool) := ⟨Tryz.prog, 155, [av r.cells, .ref [dI v]], fun x => bv x, true, order_find_c1 r v, True, fun _ => order_find_c1_fn r v, fun _ => True, trivial⟩
noncomputable def slices_IndexFunc_155_sk (s : List Rule) (v : Int) : Sk (Int) :=
 .bind true (fun b1 => ∀ q, q < s.length → order_find_c1 (s.getD q default) v = false)
 (.loop (default : Sum (Int) (Unit)) (fun i2 => ∀ q, q < i2 → order_find_c1 (s.getD q default) v = false) (fun i2 => s.length - i2) (0 : Nat)
 (fun (i2 : Nat) => ⟨[(8, iv ((i2 : Nat) : Int))], []⟩) fun i2 =>
 .bnd 0 0 s.length <|
 .br (decide (((i2 : Nat) : Int) < ((s.length : Nat) : Int)))
 (.r 4 (.andl (.p (ixP ((i2 : Nat) : Int) s.length)) ((order_find_c1_k (s.getD i2 default) v).c)) fun x3 =>
 .br x3
 (.fin (.inl (.inl ((i2 : Nat) : Int))))
 (.r 6 .z fun _ =>
 .wi 8 (w64 (((i2 : Nat) : Int) + 1)) ((i2 + 1 : Nat) : Int) <|
 .fin (.inr (i2 + 1))))
 (.fin (.inl (.inr ()))))
 (fun (_ : Unit) => ⟨[], []⟩) fun _ =>
 .fin (-1)
noncomputable def slices_IndexFunc_155 (s : List Rule) (v : Int) : Int := (slices_IndexFunc_155_sk s v).val
theorem slices_IndexFunc_155_pst (s : List Rule) (v : Int) : (slices_IndexFunc_155_sk s v).pst (fun (x : Int) => (x = -1 ∧ ∀ q, q < s.length → order_find_c1 (s.getD q default) v = false) ∨ (0 ≤ x ∧ x < s.length ∧ order_find_c1 (s.getD x.toNat default) v = true ∧ ∀ q, (q : Nat) < x.toNat → order_find_c1 (s.getD q default) v = false)) := by
  refine Sk.pst_of _ ?_
  unfold slices_IndexFunc_155_sk
  simp only [Sk.pstq, Sk.isLoop, reduceCtorEq, leafB, leafJ, Cal.z, Cal.p, Cal.t, Cal.pt, Cal.o, Cal.and, Cal.andl, Cal.andr, Cal.wh, Cal.dep, Cal.depr, Ctr.c, Ctr.nil, Ctr.nilc, CtrO.c, CtrO.nil, order_find_c1_k, order_find_c1_eq, forall_eq, maxLen, implies_true, true_and, and_true, and_self, true_implies, false_implies, ixP, szP, mkP]
  all_goals (repeat' first | assumption | (apply And.intro) | (intro h))
  all_goals first | trivial | assumption | omega | ((try simp only [decide_eq_true_eq, decide_eq_false_iff_not, List.length_append, List.length_cons, List.length_nil, List.length_set, List.length_replicate, Bool.not_eq_true, Bool.not_eq_false, Int.not_lt, Int.not_le, Bool.and_eq_true, Bool.or_eq_true, Bool.and_eq_false_iff, Bool.or_eq_false_iff, Bool.not_eq_eq_eq_not, Bool.not_true, Bool.not_false, beq_iff_eq, bne_iff_ne, beq_eq_false_iff_ne, bne_eq_false_iff_eq, ne_eq, subL_length] at *) <;> first | omega | (refine (w64_id ?_ ?_).trans ?_ <;> omega) | (simp (disch := omega) only [w64_id] at *; omega) | (grind) | (simp_all; done) | (simp_all; omega))

theorem slices_IndexFunc_155_post (s : List Rule) (v : Int) : (fun (x : Int) => (x = -1 ∧ ∀ q, q < s.length → order_find_c1 (s.getD q default) v = false) ∨ (0 ≤ x ∧ x < s.length ∧ order_find_c1 (s.getD x.toNat default) v = true ∧ ∀ q, (q : Nat) < x.toNat → order_find_c1 (s.getD q default) v = false)) (slices_IndexFunc_155 s v) := Sk.pval _ (slices_IndexFunc_155_pst s v)
theorem slices_IndexFunc_155_ok (s : List Rule) (v : Int) : (slices_IndexFunc_155_sk s v).obs (fun _ => True) := by
  refine Sk.obs_of _ ?_
  unfold slices_IndexFunc_155_sk
  simp only [Sk.obq, Sk.isLoop, reduceCtorEq, leafB, leafJ, Cal.z, Cal.p, Cal.t, Cal.pt, Cal.o, Cal.and, Cal.andl, Cal.andr, Cal.wh, Cal.dep, Cal.depr, Ctr.c, Ctr.nil, Ctr.nilc, CtrO.c, CtrO.nil, order_find_c1_k, order_find_c1_eq, forall_eq, maxLen, implies_true, true_and, and_true, and_self, true_implies, false_implies, ixP, szP, mkP]
  all_goals (repeat' first | assumption | (apply And.intro) | (intro h))
  all_goals first | trivial | assumption | omega | ((try simp only [decide_eq_true_eq, decide_eq_false_iff_not, List.length_append, List.length_cons, List.length_nil, List.length_set, List.length_replicate, Bool.not_eq_true, Bool.not_eq_false, Int.not_lt, Int.not_le, Bool.and_eq_true, Bool.or_eq_true, Bool.and_eq_false_iff, Bool.or_eq_false_iff, Bool.not_eq_eq_eq_not, Bool.not_true, Bool.not_false, beq_iff_eq, bne_iff_ne, beq_eq_false_iff_ne, bne_eq_false_iff_eq, ne_eq, subL_length] at *) <;> first | omega | (refine (w64_id ?_ ?_).trans ?_ <;> omega) | (simp (disch := omega) only [w64_id] at *; omega) | (grind) | (simp_all; done) | (simp_all; omega))

theorem slices_IndexFunc_155_fn (s : List Rule) (v : Int) : FnA Tryz.prog 154 [lv Rule.cells s, .fn 155 [.ref [dI v]]] [] (iv (slices_IndexFunc_155 s v)) [] :=
  FnA.sk tok mixed (fun x => iv x) (fun _ => []) Tryz.func154 rfl (by kernel_rfl) 3000 (slices_IndexFunc_155_sk s v) (by kernel_rfl) (slices_IndexFunc_155_ok s v)
noncomputable def slices_IndexFunc_155_k (s : List Rule) (v : Int) : Ctr (Int) := ⟨Tryz.prog, 154, [lv Rule.cells s, .fn 155 [.ref [dI v]]], fun x => iv x, true, slices_IndexFunc_155 s v, True, fun _ => slices_IndexFunc_155_fn s v, fun (x : Int) => (x = -1 ∧ ∀ q, q < s.length → order_find_c1 (s.getD q default) v = false) ∨ (0 ≤ x ∧ x < s.length ∧ order_find_c1 (s.getD x.toNat default) v = true ∧ ∀ q, (q : Nat) < x.toNat → order_find_c1 (s.getD q default) v = false), slices_IndexFunc_155_post s v⟩
noncomputable def term_measure_kr (rv : Term → Int → Int) (rp : Term → Int → Prop) (rf : ∀ (t : Term) (level : Int), rp t level → FnA Tryz.prog 187 [av t.cells, iv level] [] (iv (rv t level)) []) (t : Term) (level : Int) : Ctr (Int) := ⟨Tryz.prog, 187, [av t.cells, iv level], fun x => iv x, true, rv t level, rp t level, rf t level, fun _ => True, trivial⟩
noncomputable def term_measure_sk (rv : Term → Int → Int) (rp : Term → Int → Prop) (rf : ∀ (t : Term) (level : Int), rp t level → FnA Tryz.prog 187 [av t.cells, iv level] [] (iv (rv t level)) []) (t : Term) (level : Int) : Sk (Int) :=
 .br (decide (level > 8))
 (.fin 61)
 (.bind true (fun b1 => ∀ B : Int, 1 ≤ B → B ≤ 1000000 → (∀ q, q < t.args.length → 1 ≤ rv (t.args.getD q default) (w64 (level + 1)) ∧ rv (t.args.getD q default) (w64 (level + 1)) ≤ B) → (1 : Int) ≤ b1 ∧ b1 ≤ 60 + B ∧ (b1 ≤ 60 → t.args.length ≤ 60 ∧ ∀ q, q < t.args.length → rv (t.args.getD q default) (w64 (level + 1)) ≤ 60))
 (.loop (default : Sum (Int) (Int)) (fun i2 => i2.2 ≤ t.args.length ∧ (∀ B : Int, 1 ≤ B → B ≤ 1000000 → (∀ q, q < t.args.length → 1 ≤ rv (t.args.getD q default) (w64 (level + 1)) ∧ rv (t.args.getD q default) (w64 (level + 1)) ≤ B) → (1 + (i2.2 : Int)) ≤ i2.1 ∧ i2.1 ≤ 60 ∧ ∀ q, q < i2.2 → rv (t.args.getD q default) (w64 (level + 1)) ≤ 60)) (fun i2 => t.args.length - i2.2) ((1, 0) : Int × Nat)
 (fun (i2 : Int × Nat) => ⟨[(5, iv i2.1), (13, iv ((i2.2 : Nat) : Int))], []⟩) fun i2 =>
 .bnd 11 0 t.args.length <|
 .br (decide (((i2.2 : Nat) : Int) < ((t.args.length : Nat) : Int)))
 (.r 6 (.andl (.p (ixP ((i2.2 : Nat) : Int) t.args.length)) (.o [.cast 15 (refC (Term.unroll (t.args.getD i2.2 default)))])) fun _ =>
 .r 7 ((term_measure_kr rv rp rf (t.args.getD i2.2 default) (w64 (level + 1))).c) fun x3 =>
 .br (decide ((w64 (i2.1 + x3)) > 60))
 (.fin (.inl (.inr (w64 (i2.1 + x3)))))
 (.r 9 .z fun _ =>
 .wi 13 (w64 (((i2.2 : Nat) : Int) + 1)) ((i2.2 + 1 : Nat) : Int) <|
 .fin (.inr (w64 (i2.1 + x3), i2.2 + 1))))
 (.fin (.inl (.inr i2.1))))
 (fun (b1 : Int) => ⟨[(5, iv b1)], []⟩) fun b1 =>
 .fin b1)
noncomputable def term_measure_n : Nat → Term → Int → Int
  | 0, _, _ => default
  | fu + 1, t, level => (term_measure_sk (term_measure_n fu) (fun _ _ => False) (fun _ _ => fun h => h.elim) t level).val
/-- no node has too many parts -/
inductive Thin : Term → Prop
  | mk {t : Term} (h : t.args.length ≤ 60) (h2 : ∀ q, q < t.args.length → Thin (t.args.getD q default)) : Thin t
theorem term_measure_ok (fu : Nat) (rf : ∀ (t : Term) (level : Int), t.depth ≤ fu ∧ True → FnA Tryz.prog 187 [av t.cells, iv level] [] (iv (term_measure_n fu t level)) []) (t : Term) (level : Int) (hm : t.depth ≤ fu + 1) : (term_measure_sk (term_measure_n fu) (fun t level => t.depth ≤ fu ∧ True) rf t level).obs (fun _ => True) := by
  refine Sk.obs_of _ ?_
  unfold term_measure_sk
  simp only [Sk.obq, Sk.isLoop, reduceCtorEq, leafB, leafJ, Cal.z, Cal.p, Cal.t, Cal.pt, Cal.o, Cal.and, Cal.andl, Cal.andr, Cal.wh, Cal.dep, Cal.depr, Ctr.c, Ctr.nil, Ctr.nilc, CtrO.c, CtrO.nil, term_measure_kr, maxLen, implies_true, true_and, and_true, and_self, true_implies, false_implies, ixP, szP, mkP]
  intro hlev
  have hlev : level ≤ 8 := by simp only [decide_eq_true_eq, decide_eq_false_iff_not, List.length_append, List.length_cons, List.length_nil, List.length_set, List.length_replicate, Bool.not_eq_true, Bool.not_eq_false, Int.not_lt, Int.not_le, Bool.and_eq_true, Bool.or_eq_true, Bool.and_eq_false_iff, Bool.or_eq_false_iff, Bool.not_eq_eq_eq_not, Bool.not_true, Bool.not_false, beq_iff_eq, bne_iff_ne, beq_eq_false_iff_ne, bne_eq_false_iff_eq, ne_eq, subL_length] at hlev; exact hlev
  refine ⟨⟨Nat.zero_le _, fun B _ _ _ => ⟨by omega, by omega, fun q hq => absurd hq (by omega)⟩⟩, fun i hi hlen => ⟨fun hc => ⟨⟨by omega, of_decide_eq_true hc⟩, fun _ => ⟨?_, fun x hx => ⟨fun hb B b1 b2 hq => ?_, fun hb _ => ⟨?_, ⟨?_, fun B b1 b2 hq => ?_⟩, ?_⟩⟩⟩⟩, fun hc B b1 b2 hq => ?_⟩⟩
  all_goals (try simp only [decide_eq_true_eq, decide_eq_false_iff_not, List.length_append, List.length_cons, List.length_nil, List.length_set, List.length_replicate, Bool.not_eq_true, Bool.not_eq_false, Int.not_lt, Int.not_le, Bool.and_eq_true, Bool.or_eq_true, Bool.and_eq_false_iff, Bool.or_eq_false_iff, Bool.not_eq_eq_eq_not, Bool.not_true, Bool.not_false, beq_iff_eq, bne_iff_ne, beq_eq_false_iff_ne, bne_eq_false_iff_eq, ne_eq, subL_length] at hc)
  all_goals (try simp only [decide_eq_true_eq, decide_eq_false_iff_not, List.length_append, List.length_cons, List.length_nil, List.length_set, List.length_replicate, Bool.not_eq_true, Bool.not_eq_false, Int.not_lt, Int.not_le, Bool.and_eq_true, Bool.or_eq_true, Bool.and_eq_false_iff, Bool.or_eq_false_iff, Bool.not_eq_eq_eq_not, Bool.not_true, Bool.not_false, beq_iff_eq, bne_iff_ne, beq_eq_false_iff_ne, bne_eq_false_iff_eq, ne_eq, subL_length] at hb)
  · have := t.depth_args i.2 (by omega); omega
  · subst hx
    have q1 := hi.2 B b1 b2 hq
    have q2 := hq i.2 (by omega)
    rw [w64_id (n := i.1 + _) (by omega) (by omega)] at hb ⊢
    exact ⟨by omega, by omega, fun h => by omega⟩
  · exact w64_id (by omega) (by omega)
  · omega
  · subst hx
    have q1 := hi.2 B b1 b2 hq
    have q2 := hq i.2 (by omega)
    rw [w64_id (n := i.1 + _) (by omega) (by omega)] at hb ⊢
    refine ⟨by omega, by omega, fun q hqq => ?_⟩
    by_cases e : q = i.2
    · subst e; omega
    · exact q1.2.2 q (by omega)
  · omega
  · have q1 := hi.2 B b1 b2 hq
    exact ⟨by omega, by omega, fun _ => ⟨by omega, fun q hqq => q1.2.2 q (by omega)⟩⟩

theorem term_measure_val (fu : Nat) (rp : Term → Int → Prop) (rf : ∀ (t : Term) (level : Int), rp t level → FnA Tryz.prog 187 [av t.cells, iv level] [] (iv (term_measure_n fu t level)) []) (t : Term) (level : Int) : (term_measure_sk (term_measure_n fu) rp rf t level).val = term_measure_n (fu + 1) t level := by kernel_rfl
theorem term_measure_fnN (fu : Nat) : ∀ (t : Term) (level : Int), t.depth ≤ fu → FnA Tryz.prog 187 [av t.cells, iv level] [] (iv (term_measure_n fu t level)) [] := by
  induction fu with
  | zero => intro t level hm; exact absurd hm (by have := Term.depth_pos t; omega)
  | succ fu ih =>
    intro t level hm
    have h : FnA Tryz.prog 187 [av t.cells, iv level] [] (iv ((term_measure_sk (term_measure_n fu) (fun t level => t.depth ≤ fu ∧ True) (fun t level h => ih t level h.1) t level).val)) [] := FnA.sk tok mixed (fun x => iv x) (fun _ => []) Tryz.func187 rfl (by kernel_rfl) 3000 (term_measure_sk (term_measure_n fu) (fun t level => t.depth ≤ fu ∧ True) (fun t level h => ih t level h.1) t level) (by kernel_rfl) (term_measure_ok fu _ t level hm)
    rw [term_measure_val] at h
    exact h
noncomputable def term_measure (t : Term) (level : Int) : Int := term_measure_n (t.depth) t level
theorem term_measure_fn (t : Term) (level : Int) : FnA Tryz.prog 187 [av t.cells, iv level] [] (iv (term_measure t level)) [] := term_measure_fnN _ t level (Nat.le_refl _)
noncomputable def term_measure_k (t : Term) (level : Int) : Ctr (Int) := ⟨Tryz.prog, 187, [av t.cells, iv level], fun x => iv x, true, term_measure t level, True, fun _ => term_measure_fn t level, fun _ => True, trivial⟩
theorem Term.depthL_le {B : Nat} : ∀ (l : List Term), (∀ q, q < l.length → (l.getD q default).depth ≤ B) → Term.depthL l ≤ B
  | [], _ => by simp [Term.depthL]
  | x :: r, h => by
    have h0 := h 0 (by simp)
    have := Term.depthL_le r (fun q hq => by simpa using h (q + 1) (by simpa using hq))
    simp only [Term.depthL]
    simp at h0
    omega

theorem term_measure_le : ∀ (fu : Nat) (t : Term) (level : Int), t.depth ≤ fu → 1 ≤ level → level ≤ 9 → 1 ≤ term_measure_n fu t level ∧ term_measure_n fu t level ≤ 61 + 60 * (9 - level) ∧ (term_measure_n fu t level ≤ 60 → t.depth + level ≤ 9) ∧ (term_measure_n fu t level ≤ 60 → Thin t)
  | 0, t, _, hd, _, _ => absurd hd (by have := t.depth_pos; omega)
  | fu + 1, t, level, hd, h1, h9 => by
    have ih := term_measure_le fu
    have key : term_measure_n (fu+1) t level = (term_measure_sk (term_measure_n fu) (fun _ _ => False) (fun _ _ h => h.elim) t level).val := rfl
    rw [key]
    refine Sk.pval (term_measure_sk (term_measure_n fu) (fun _ _ => False) (fun _ _ h => h.elim) t level) (L := fun x => 1 ≤ x ∧ x ≤ 61 + 60 * (9 - level) ∧ (x ≤ 60 → t.depth + level ≤ 9) ∧ (x ≤ 60 → Thin t)) (Sk.pst_of _ ?_)
    have hw : w64 (level + 1) = level + 1 := w64_id (by omega) (by omega)
    unfold term_measure_sk
    simp only [Sk.pstq, Sk.isLoop, reduceCtorEq, false_implies, leafB, leafJ, Cal.z, Cal.p, Cal.t, Cal.pt, Cal.o, Cal.and, Cal.andl, Cal.andr, Cal.wh, Cal.dep, Cal.depr, Ctr.c, Ctr.nil, Ctr.nilc, CtrO.c, CtrO.nil, term_measure_kr, implies_true, true_and, and_true, and_self, true_implies, forall_eq, forall_const, hw]
    refine ⟨fun h => ⟨by omega, by omega, fun h => by omega, fun h => by omega⟩, fun hlev => ?_⟩
    have hlev : level ≤ 8 := by simp only [decide_eq_true_eq, decide_eq_false_iff_not, List.length_append, List.length_cons, List.length_nil, List.length_set, List.length_replicate, Bool.not_eq_true, Bool.not_eq_false, Int.not_lt, Int.not_le, Bool.and_eq_true, Bool.or_eq_true, Bool.and_eq_false_iff, Bool.or_eq_false_iff, Bool.not_eq_eq_eq_not, Bool.not_true, Bool.not_false, beq_iff_eq, bne_iff_ne, beq_eq_false_iff_ne, bne_eq_false_iff_eq, ne_eq, subL_length] at hlev; exact hlev
    have hq : ∀ q, q < t.args.length → 1 ≤ term_measure_n fu (t.args.getD q default) (level + 1) ∧ term_measure_n fu (t.args.getD q default) (level + 1) ≤ 61 + 60 * (8 - level) := fun q hq => by
      have := ih (t.args.getD q default) (level + 1) (by have := t.depth_args q hq; omega) (by omega) (by omega)
      omega
    refine ⟨⟨⟨Nat.zero_le _, fun B _ _ _ => ⟨by omega, by omega, fun q hq => absurd hq (by omega)⟩⟩, fun i hi => ⟨fun hc => ⟨fun hb => ?_, fun hb => ⟨⟨?_, fun B b1 b2 hq => ?_⟩, ?_⟩⟩, fun hc => ?_⟩⟩, fun b hb => ?_⟩
    all_goals (try simp only [decide_eq_true_eq, decide_eq_false_iff_not, List.length_append, List.length_cons, List.length_nil, List.length_set, List.length_replicate, Bool.not_eq_true, Bool.not_eq_false, Int.not_lt, Int.not_le, Bool.and_eq_true, Bool.or_eq_true, Bool.and_eq_false_iff, Bool.or_eq_false_iff, Bool.not_eq_eq_eq_not, Bool.not_true, Bool.not_false, beq_iff_eq, bne_iff_ne, beq_eq_false_iff_ne, bne_eq_false_iff_eq, ne_eq, subL_length] at hc)
    all_goals (try simp only [decide_eq_true_eq, decide_eq_false_iff_not, List.length_append, List.length_cons, List.length_nil, List.length_set, List.length_replicate, Bool.not_eq_true, Bool.not_eq_false, Int.not_lt, Int.not_le, Bool.and_eq_true, Bool.or_eq_true, Bool.and_eq_false_iff, Bool.or_eq_false_iff, Bool.not_eq_eq_eq_not, Bool.not_true, Bool.not_false, beq_iff_eq, bne_iff_ne, beq_eq_false_iff_ne, bne_eq_false_iff_eq, ne_eq, subL_length] at hb)
    · intro B b1 b2 hq
      have q1 := hi.2 B b1 b2 hq
      have q2 := hq i.2 (by omega)
      rw [w64_id (by omega) (by omega)] at hb ⊢
      exact ⟨by omega, by omega, fun h => by omega⟩
    · omega
    · have q1 := hi.2 B b1 b2 hq
      have q2 := hq i.2 (by omega)
      rw [w64_id (by omega) (by omega)] at hb ⊢
      refine ⟨by omega, by omega, fun q hqq => ?_⟩
      by_cases e : q = i.2
      · subst e; omega
      · exact q1.2.2 q (by omega)
    · omega
    · intro B b1 b2 hq
      have q1 := hi.2 B b1 b2 hq
      exact ⟨by omega, by omega, fun _ => ⟨by omega, fun q hqq => q1.2.2 q (by omega)⟩⟩
    · have := hb _ (by omega) (by omega) hq
      refine ⟨this.1, by omega, fun h60 => ?_, fun h60 => .mk (this.2.2 h60).1 fun q hqq => ?_⟩
      · have q3 := (this.2.2 h60).2
        have : Term.depthL t.args ≤ (8 - level).toNat := Term.depthL_le _ (fun q hqq => by
          have := (ih (t.args.getD q default) (level + 1) (by have := t.depth_args q hqq; omega) (by omega) (by omega)).2.2.1 (q3 q hqq)
          omega)
        have e : t.depth = Term.depthL t.args + 1 := by obtain ⟨_, _, _⟩ := t; rfl
        omega
      · exact (ih (t.args.getD q default) (level + 1) (by have := t.depth_args q hqq; omega) (by omega) (by omega)).2.2.2 ((this.2.2 h60).2 q hqq)
noncomputable def term_cut_sk (n : Int) : Sk (Int) :=
 .fin (minI (maxI n (-1099511627776)) 1099511627776)
noncomputable def term_cut (n : Int) : Int := (term_cut_sk n).val
theorem term_cut_eq (n : Int) : term_cut n = (minI (maxI n (-1099511627776)) 1099511627776) := rfl
theorem term_cut_ok (n : Int) : (term_cut_sk n).obs (fun _ => True) := by
  refine Sk.obs_of _ ?_
  unfold term_cut_sk
  simp only [Sk.obq, Sk.isLoop, reduceCtorEq, leafB, leafJ, Cal.z, Cal.p, Cal.t, Cal.pt, Cal.o, Cal.and, Cal.andl, Cal.andr, Cal.wh, Cal.dep, Cal.depr, Ctr.c, Ctr.nil, Ctr.nilc, CtrO.c, CtrO.nil, maxLen, implies_true, true_and, and_true, and_self, true_implies, false_implies, ixP, szP, mkP]

theorem term_cut_fn (n : Int) : FnA Tryz.prog 214 [iv n] [] (iv (term_cut n)) [] :=
  FnA.sk tok mixed (fun x => iv x) (fun _ => []) Tryz.func214 rfl (by kernel_rfl) 3000 (term_cut_sk n) (by kernel_rfl) (term_cut_ok n)
noncomputable def term_cut_k (n : Int) : Ctr (Int) := ⟨Tryz.prog, 214, [iv n], fun x => iv x, true, term_cut n, True, fun _ => term_cut_fn n, fun _ => True, trivial⟩
noncomputable def term_VarType_sk (v : Int) : Sk (Int × Bool) :=
 .br ((decide (v < 0)) || (decide (v > 19)))
 (.fin (0, false))
 (.br (decide (v < 7))
 (.fin (0, true))
 (.fin (1, true)))
noncomputable def term_VarType (v : Int) : Int × Bool := (term_VarType_sk v).val
theorem term_VarType_ok (v : Int) : (term_VarType_sk v).obs (fun _ => True) := by
  refine Sk.obs_of _ ?_
  unfold term_VarType_sk
  simp only [Sk.obq, Sk.isLoop, reduceCtorEq, leafB, leafJ, Cal.z, Cal.p, Cal.t, Cal.pt, Cal.o, Cal.and, Cal.andl, Cal.andr, Cal.wh, Cal.dep, Cal.depr, Ctr.c, Ctr.nil, Ctr.nilc, CtrO.c, CtrO.nil, maxLen, implies_true, true_and, and_true, and_self, true_implies, false_implies, ixP, szP, mkP]

theorem term_VarType_fn (v : Int) : FnA Tryz.prog 212 [iv v] [] (.tup [iv ((term_VarType v).1), bv ((term_VarType v).2)]) [] :=
  FnA.sk tok mixed (fun x => .tup [iv x.1, bv x.2]) (fun _ => []) Tryz.func212 rfl (by kernel_rfl) 3000 (term_VarType_sk v) (by kernel_rfl) (term_VarType_ok v)
noncomputable def term_VarType_k (v : Int) : Ctr (Int × Bool) := ⟨Tryz.prog, 212, [iv v], fun x => .tup [iv x.1, bv x.2], true, term_VarType v, True, fun _ => term_VarType_fn v, fun _ => True, trivial⟩
noncomputable def term_leaf_sk (t : Term) : Sk (Int × Int) :=
 .br (decide (((t.args.length : Nat) : Int) > 0))
 (.fin (0, 2))
 (.br (t.op == 0)
 (.r 5 ((term_cut_k t.n).c) fun x1 =>
 .br (x1 != t.n)
 (.fin (0, 3))
 (.fin (0, 0)))
 (.br (t.op == 1)
 (.br ((decide (t.n < 0)) || (decide (t.n > 1)))
 (.fin (0, 3))
 (.fin (1, 0)))
 (.r 12 ((term_VarType_k t.n).c) fun x2 =>
 .br (!x2.2)
 (.fin (0, 10))
 (.fin (x2.1, 0)))))
noncomputable def term_leaf (t : Term) : Int × Int := (term_leaf_sk t).val
theorem term_leaf_ok (t : Term) : (term_leaf_sk t).obs (fun _ => True) := by
  refine Sk.obs_of _ ?_
  unfold term_leaf_sk
  simp only [Sk.obq, Sk.isLoop, reduceCtorEq, leafB, leafJ, Cal.z, Cal.p, Cal.t, Cal.pt, Cal.o, Cal.and, Cal.andl, Cal.andr, Cal.wh, Cal.dep, Cal.depr, Ctr.c, Ctr.nil, Ctr.nilc, CtrO.c, CtrO.nil, term_VarType_k, term_cut_k, term_cut_eq, forall_eq, maxLen, implies_true, true_and, and_true, and_self, true_implies, false_implies, ixP, szP, mkP]

theorem term_leaf_fn (t : Term) : FnA Tryz.prog 210 [av t.cells] [] (.tup [iv ((term_leaf t).1), iv ((term_leaf t).2)]) [] :=
  FnA.sk tok mixed (fun x => .tup [iv x.1, iv x.2]) (fun _ => []) Tryz.func210 rfl (by kernel_rfl) 3000 (term_leaf_sk t) (by kernel_rfl) (term_leaf_ok t)
noncomputable def term_leaf_k (t : Term) : Ctr (Int × Int) := ⟨Tryz.prog, 210, [av t.cells], fun x => .tup [iv x.1, iv x.2], true, term_leaf t, True, fun _ => term_leaf_fn t, fun _ => True, trivial⟩
structure Shape where
  args : List Int
  result : Int
  deriving Inhabited
def Shape.cells (c : Shape) : List D := [slD intC c.args, dI c.result]
def Shape.E : Enc Shape := ⟨Shape.cells, 2, fun _ => rfl, fun _ => rfl⟩
noncomputable def term_shapeOf_sk (op : Int) : Sk (Shape) :=
 .br (op == 3)
 (.r 3 (.o [.nrm (litC intE [1])]) fun _ =>
 .fin ({ args := [1], result := 1 } : Shape))
 (.bind false (fun _ => True)
 (.br (op == 4)
 (.fin (.inr (op == 4)))
 (.fin (.inr (op == 5))))
 (fun (b1 : Bool) => ⟨[(8, bv b1)], []⟩) fun b1 =>
 .br b1
 (.r 6 (.o [.nrm (litC intE [1, 1])]) fun _ =>
 .fin ({ args := [1, 1], result := 1 } : Shape))
 (.br (op == 6)
 (.r 8 (.o [.nrm (litC intE [1, (-1), (-1)])]) fun _ =>
 .fin ({ args := [1, (-1), (-1)], result := (-1) } : Shape))
 (.br (op == 7)
 (.r 10 (.o [.nrm (litC intE [0, 0])]) fun _ =>
 .fin ({ args := [0, 0], result := 1 } : Shape))
 (.br (op == 8)
 (.r 12 (.o [.nrm (litC intE [(-1), (-1)])]) fun _ =>
 .fin ({ args := [(-1), (-1)], result := 1 } : Shape))
 (.r 13 (.o [.nrm (litC intE [0, 0])]) fun _ =>
 .fin ({ args := [0, 0], result := 0 } : Shape))))))
noncomputable def term_shapeOf (op : Int) : Shape := (term_shapeOf_sk op).val
theorem term_shapeOf_ok (op : Int) : (term_shapeOf_sk op).obs (fun _ => True) := by
  refine Sk.obs_of _ ?_
  unfold term_shapeOf_sk
  simp only [Sk.obq, Sk.isLoop, reduceCtorEq, leafB, leafJ, Cal.z, Cal.p, Cal.t, Cal.pt, Cal.o, Cal.and, Cal.andl, Cal.andr, Cal.wh, Cal.dep, Cal.depr, Ctr.c, Ctr.nil, Ctr.nilc, CtrO.c, CtrO.nil, maxLen, implies_true, true_and, and_true, and_self, true_implies, false_implies, ixP, szP, mkP]

theorem term_shapeOf_fn (op : Int) : FnA Tryz.prog 211 [iv op] [] (av (term_shapeOf op).cells) [] :=
  FnA.sk tok mixed (fun x => av x.cells) (fun _ => []) Tryz.func211 rfl (by kernel_rfl) 3000 (term_shapeOf_sk op) (by kernel_rfl) (term_shapeOf_ok op)
noncomputable def term_shapeOf_k (op : Int) : Ctr (Shape) := ⟨Tryz.prog, 211, [iv op], fun x => av x.cells, false, term_shapeOf op, True, fun _ => term_shapeOf_fn op, fun _ => True, trivial⟩
end Go.Proofs.YtggilgghigileaaGreatDoor
