/- Functions, as sketches. -/
import Derived.Test.YtggilgghigileaaGreatDoorRn12
namespace Go.Proofs.YtggilgghigileaaGreatDoor
open Go Go.Av
set_option linter.unusedSimpArgs false
set_option linter.unusedVariables false
set_option maxHeartbeats 1000000
set_option maxRecDepth 100000
noncomputable def allongeref28_Question_sk (f : File) (c_ : Claim) : Sk (Int) :=
 .br (c_.turn == 0)
 (.fin 13)
 (.r 3 ((allongeref28_Paid_k f c_).c) fun x1 =>
 .br (x1 != (-1))
 (.fin 15)
 (.fin 14))
noncomputable def allongeref28_Question (f : File) (c_ : Claim) : Int := (allongeref28_Question_sk f c_).val
theorem allongeref28_Question_ok (f : File) (c_ : Claim) : (allongeref28_Question_sk f c_).obs (fun _ => True) := by
  refine Sk.obs_of _ ?_
  unfold allongeref28_Question_sk
  simp only [Sk.obq, Sk.isLoop, reduceCtorEq, leafB, leafJ, Cal.z, Cal.p, Cal.t, Cal.pt, Cal.o, Cal.and, Cal.andl, Cal.andr, Cal.wh, Cal.dep, Cal.depr, Ctr.c, Ctr.nil, Ctr.nilc, CtrO.c, CtrO.nil, allongeref28_Paid_k, maxLen, implies_true, true_and, and_true, and_self, true_implies, false_implies, ixP, szP, mkP]

theorem allongeref28_Question_fn (f : File) (c_ : Claim) : FnA Tryz.prog 14 [av f.cells, av c_.cells] [] (iv (allongeref28_Question f c_)) [] :=
  FnA.sk tok mixed (fun x => iv x) (fun _ => []) Tryz.func14 rfl (by kernel_rfl) 3000 (allongeref28_Question_sk f c_) (by kernel_rfl) (allongeref28_Question_ok f c_)
noncomputable def allongeref28_Question_k (f : File) (c_ : Claim) : Ctr (Int) := ⟨Tryz.prog, 14, [av f.cells, av c_.cells], fun x => iv x, true, allongeref28_Question f c_, True, fun _ => allongeref28_Question_fn f c_, fun _ => True, trivial⟩
noncomputable def allongelaw28_refused_sk (f : File) (day : Int) : Sk (Bool) :=
 .bind true (fun b1 => ∀ q, q < f.acts.length → (f.acts.getD q default).kind = 1 → day < (f.acts.getD q default).day)
 (.loop (default : Sum (Bool) (Unit)) (fun i2 => i2 ≤ f.acts.length ∧ ∀ q, q < i2 → (f.acts.getD q default).kind = 1 → day < (f.acts.getD q default).day) (fun i2 => f.acts.length - i2) (0 : Nat)
 (fun (i2 : Nat) => ⟨[(5, iv ((i2 : Nat) : Int))], []⟩) fun i2 =>
 .bnd 2 17 f.acts.length <|
 .br (decide (((i2 : Nat) : Int) < ((f.acts.length : Nat) : Int)))
 (.r 4 (.andl (.p (ixP ((i2 : Nat) : Int) f.acts.length)) (.wh (((f.acts.getD i2 default).kind) == 1) true (.p (ixP ((i2 : Nat) : Int) f.acts.length)))) fun _ =>
 .br ((((f.acts.getD i2 default).kind) == 1) && (decide (((f.acts.getD i2 default).day) ≤ day)))
 (.fin (.inl (.inl true)))
 (.r 3 .z fun _ =>
 .wi 5 (w64 (((i2 : Nat) : Int) + 1)) ((i2 + 1 : Nat) : Int) <|
 .fin (.inr (i2 + 1))))
 (.fin (.inl (.inr ()))))
 (fun (_ : Unit) => ⟨[], []⟩) fun _ =>
 .fin false
noncomputable def allongelaw28_refused (f : File) (day : Int) : Bool := (allongelaw28_refused_sk f day).val
theorem allongelaw28_refused_pst (f : File) (day : Int) : (allongelaw28_refused_sk f day).pst (fun (x : Bool) => x = false → ∀ q, q < f.acts.length → (f.acts.getD q default).kind = 1 → day < (f.acts.getD q default).day) := by
  refine Sk.pst_of _ ?_
  unfold allongelaw28_refused_sk
  simp only [Sk.pstq, Sk.isLoop, reduceCtorEq, leafB, leafJ, Cal.z, Cal.p, Cal.t, Cal.pt, Cal.o, Cal.and, Cal.andl, Cal.andr, Cal.wh, Cal.dep, Cal.depr, Ctr.c, Ctr.nil, Ctr.nilc, CtrO.c, CtrO.nil, maxLen, implies_true, true_and, and_true, and_self, true_implies, false_implies, ixP, szP, mkP]
  all_goals (repeat' first | assumption | (apply And.intro) | (intro h))
  all_goals first | trivial | assumption | omega | ((try simp only [decide_eq_true_eq, decide_eq_false_iff_not, List.length_append, List.length_cons, List.length_nil, List.length_set, List.length_replicate, Bool.not_eq_true, Bool.not_eq_false, Int.not_lt, Int.not_le, Bool.and_eq_true, Bool.or_eq_true, Bool.and_eq_false_iff, Bool.or_eq_false_iff, Bool.not_eq_eq_eq_not, Bool.not_true, Bool.not_false, beq_iff_eq, bne_iff_ne, beq_eq_false_iff_ne, bne_eq_false_iff_eq, ne_eq, subL_length] at *) <;> first | omega | (refine (w64_id ?_ ?_).trans ?_ <;> omega) | (simp (disch := omega) only [w64_id] at *; omega) | (grind) | (simp_all; done) | (simp_all; omega))

theorem allongelaw28_refused_post (f : File) (day : Int) : (fun (x : Bool) => x = false → ∀ q, q < f.acts.length → (f.acts.getD q default).kind = 1 → day < (f.acts.getD q default).day) (allongelaw28_refused f day) := Sk.pval _ (allongelaw28_refused_pst f day)
theorem allongelaw28_refused_ok (f : File) (day : Int) : (allongelaw28_refused_sk f day).obs (fun _ => True) := by
  refine Sk.obs_of _ ?_
  unfold allongelaw28_refused_sk
  simp only [Sk.obq, Sk.isLoop, reduceCtorEq, leafB, leafJ, Cal.z, Cal.p, Cal.t, Cal.pt, Cal.o, Cal.and, Cal.andl, Cal.andr, Cal.wh, Cal.dep, Cal.depr, Ctr.c, Ctr.nil, Ctr.nilc, CtrO.c, CtrO.nil, maxLen, implies_true, true_and, and_true, and_self, true_implies, false_implies, ixP, szP, mkP]
  all_goals (repeat' first | assumption | (apply And.intro) | (intro h))
  all_goals first | trivial | assumption | omega | ((try simp only [decide_eq_true_eq, decide_eq_false_iff_not, List.length_append, List.length_cons, List.length_nil, List.length_set, List.length_replicate, Bool.not_eq_true, Bool.not_eq_false, Int.not_lt, Int.not_le, Bool.and_eq_true, Bool.or_eq_true, Bool.and_eq_false_iff, Bool.or_eq_false_iff, Bool.not_eq_eq_eq_not, Bool.not_true, Bool.not_false, beq_iff_eq, bne_iff_ne, beq_eq_false_iff_ne, bne_eq_false_iff_eq, ne_eq, subL_length] at *) <;> first | omega | (refine (w64_id ?_ ?_).trans ?_ <;> omega) | (simp (disch := omega) only [w64_id] at *; omega) | (grind) | (simp_all; done) | (simp_all; omega))

theorem allongelaw28_refused_fn (f : File) (day : Int) : FnA Tryz.prog 15 [av f.cells, iv day] [] (bv (allongelaw28_refused f day)) [] :=
  FnA.sk tok mixed (fun x => bv x) (fun _ => []) Tryz.func15 rfl (by kernel_rfl) 3000 (allongelaw28_refused_sk f day) (by kernel_rfl) (allongelaw28_refused_ok f day)
noncomputable def allongelaw28_refused_k (f : File) (day : Int) : Ctr (Bool) := ⟨Tryz.prog, 15, [av f.cells, iv day], fun x => bv x, true, allongelaw28_refused f day, True, fun _ => allongelaw28_refused_fn f day, fun (x : Bool) => x = false → ∀ q, q < f.acts.length → (f.acts.getD q default).kind = 1 → day < (f.acts.getD q default).day, allongelaw28_refused_post f day⟩
theorem filter_idem {α : Type} (p : α → Bool) (l : List α) : (l.filter p).filter p = l.filter p := by simp
theorem takeWhile_idem {α : Type} (p : α → Bool) : ∀ (l : List α), (l.takeWhile p).takeWhile p = l.takeWhile p
  | [] => rfl
  | x :: r => by
    rw [List.takeWhile_cons]
    cases h : p x with
    | false => rfl
    | true => rw [if_pos rfl, List.takeWhile_cons, h, if_pos rfl, takeWhile_idem p r]
theorem At_idem (f : File) (d : Int) : record_At (record_At f d) d = record_At f d := by
  rw [record_At_eq f d, record_At_eq]
  simp only [takeWhile_idem, filter_idem]
theorem Maturity_At (r : Realm) (fo : Int) (f : File) (d : Int) : ask_Maturity r fo (record_At f d) d = ask_Maturity r fo f d := by
  rw [Maturity_eq, Maturity_eq, At_idem]
theorem walk_filter {α σ β : Type} (step : α → σ → β ⊕ σ) (fin : σ → β) (p : α → Bool) : ∀ (l : List α), (∀ x s, p x = false → step x s = .inr s) → ∀ s, walk step fin (l.filter p) s = walk step fin l s
  | [], _, s => rfl
  | x :: r, h, s => by
    rw [List.filter_cons]
    cases hp : p x with
    | false => rw [if_neg (by simp)]; conv => rhs; unfold walk
               rw [h x s hp]; exact walk_filter step fin p r h s
    | true =>
      rw [if_pos rfl]
      unfold walk
      cases step x s with
      | inl b => rfl
      | inr s' => exact walk_filter step fin p r h s'
noncomputable def factStep (kind at_ : Int) (x : Fact) (s : Unit) : CellX ⊕ Unit := bif (x.kind == kind) && (x.at_ == at_) then .inl (record_truth (x.n != 0)) else .inr ()
theorem Fact_eq (f : File) (kind at_ : Int) : record_Fact f kind at_ = walk (factStep kind at_) (fun _ => ⟨false, 0⟩) f.facts () := by
  simp only [record_Fact, record_Fact_sk, Sk.val_bind, Sk.val_loop, Sk.val_bnd, Sk.val_br, Sk.val_r, Sk.val_wi, Sk.val_fin, Ctr.c_v, record_truth_k]
  refine (pick_iter_walk f.facts (fun s i => i) (factStep kind at_) id _ (fun s i hi => ?_) (fun s => ?_) (by simp) ()).trans rfl
  · rw [decide_eq_true (by omega), cond_true]
    unfold factStep
    cases (((f.facts.getD i default).kind == kind) && ((f.facts.getD i default).at_ == at_)) <;> rfl
  · rw [decide_eq_false (by omega), cond_false]
theorem Fact_At (f : File) (d kind s : Int) (h : 0 ≤ s ∧ s < (record_At f d).signs.length) : record_Fact (record_At f d) kind s = record_Fact f kind s := by
  rw [Fact_eq, Fact_eq]
  rw [record_At_eq] at h ⊢
  dsimp only at h
  refine walk_filter _ _ _ _ (fun x u hp => ?_) ()
  have : (x.at_ == s) = false := by
    simp only [decide_eq_true_eq, decide_eq_false_iff_not, List.length_append, List.length_cons, List.length_nil, List.length_set, List.length_replicate, Bool.not_eq_true, Bool.not_eq_false, Int.not_lt, Int.not_le, Bool.and_eq_true, Bool.or_eq_true, Bool.and_eq_false_iff, Bool.or_eq_false_iff, Bool.not_eq_eq_eq_not, Bool.not_true, Bool.not_false, beq_iff_eq, bne_iff_ne, beq_eq_false_iff_ne, bne_eq_false_iff_eq, ne_eq, subL_length] at hp ⊢
    intro e
    subst e
    rcases hp with q | q <;> omega
  unfold factStep
  rw [this, Bool.and_false, cond_false]
theorem CF181_eq (s : List Alter) (v : CaseX) : slices_ContainsFunc_181 s v = s.any (fun a => decide (a.at_ ≤ v.sign)) := by
  refine Bool.eq_iff_iff.2 (Iff.trans (slices_ContainsFunc_181_post s v) ?_)
  simp only [record_Vars_c1_eq, List.any_eq_true]
  constructor
  · rintro ⟨q, hq, e⟩; exact ⟨_, lget_mem hq _, e⟩
  · rintro ⟨x, hx, e⟩
    obtain ⟨i, hi, rfl⟩ := List.getElem_of_mem hx
    exact ⟨i, hi, by simpa [List.getD, hi] using e⟩
theorem alters_At (f : File) (d s : Int) (h : s < (record_At f d).signs.length) : ((record_At f d).alters.any (fun a => decide (a.at_ ≤ s))) = f.alters.any (fun a => decide (a.at_ ≤ s)) := by
  rw [record_At_eq] at h ⊢
  simp only
  generalize ((f.signs.takeWhile (fun s => decide (s.day ≤ d))).length : Int) = n at h ⊢
  induction f.alters with
  | nil => rfl
  | cons x l ih =>
    rw [List.filter_cons]
    by_cases c : x.at_ ≤ n
    · rw [decide_eq_true c, if_pos rfl, List.any_cons, List.any_cons, ih]
    · rw [decide_eq_false c, if_neg (by decide), ih, List.any_cons, decide_eq_false (by omega), Bool.false_or]
theorem bill_At (f : File) (d : Int) : (record_At f d).bill = f.bill := by rw [record_At_eq]
theorem sign_At (f : File) (d : Int) (i : Nat) (h : i < (record_At f d).signs.length) : (record_At f d).signs.getD i default = f.signs.getD i default := by
  rw [record_At_eq] at h ⊢
  exact (takeWhile_getD _ _ _ h).1
theorem signs_At_le (f : File) (d : Int) : (record_At f d).signs.length ≤ f.signs.length := by
  rw [record_At_eq]
  exact (List.takeWhile_sublist _).length_le
theorem Vars_At (r : Realm) (f : File) (d s e due y : Int) (h : 0 ≤ s ∧ s < (record_At f d).signs.length) : record_Vars r ⟨record_At f d, s, s, e, due, y⟩ = record_Vars r ⟨f, s, s, e, due, 0⟩ := by
  have hle := signs_At_le f d
  have w1 : record_within s ((record_At f d).signs.length : Int) = true := by rw [record_within_eq]; simp; omega
  have w2 : record_within s (f.signs.length : Int) = true := by rw [record_within_eq]; simp; omega
  have m0 : maxI s 0 = s := by unfold maxI; split <;> omega
  have m1 : decide (s ≥ ((record_At f d).signs.length : Int)) = false := decide_eq_false (by omega)
  have m2 : decide (s ≥ (f.signs.length : Int)) = false := decide_eq_false (by omega)
  have hs : (record_At f d).signs.getD s.toNat default = f.signs.getD s.toNat default := sign_At f d _ (by omega)
  unfold record_Vars record_Vars_sk
  simp only [Sk.val_r, Cal.dep_v, Cal.wh_v, Cal.depr_v, Ctr.c_v, record_within_k, w1, w2, m0, m1, m2, hs, slices_ContainsFunc_181_k, CF181_eq, alters_At f d s h.2, bill_At, record_Fact_k, Fact_At f d _ s h]
  rfl
theorem places_At (r : Realm) (fo : Int) (f : File) (d s e due y : Int) (h : 0 ≤ s ∧ s < (record_At f d).signs.length) : ask_places r fo ⟨record_At f d, s, s, e, due, y⟩ = ask_places r fo ⟨f, s, s, e, due, 0⟩ := by
  have hs : (record_At f d).signs.getD s.toNat default = f.signs.getD s.toNat default := sign_At f d _ (by omega)
  unfold ask_places ask_places_sk
  simp only [Sk.val_r, Cal.dep_v, Cal.wh_v, Cal.depr_v, Cal.andl_v, Ctr.c_v, hs, bill_At]
  try rfl
theorem find_At (r : Realm) (fo q : Int) (f : File) (d s e due : Int) (h : 0 ≤ s ∧ s < (record_At f d).signs.length) : ask_find r fo q ⟨record_At f d, s, s, e, due, d⟩ = 
    (fun l : List CellX => bif (l.length : Int) == 0 then ((⟨⟨false, 0⟩, -1, [], 1⟩ : Said), []) else bif !(order_Type q).2 then (⟨⟨false, 0⟩, -1, [], 1⟩, []) else
      (fun p : List Int => bif p.isEmpty then ((⟨⟨false, 0⟩, -1, [], 1⟩ : Said), []) else (fun w : List Int × Int => bif w.2 == 0 then ((⟨⟨false, 0⟩, w.1.getD (w64 ((w.1.length : Int) - 1)).toNat default, w.1, w.2⟩ : Said), l) else (⟨⟨false, 0⟩, -1, w.1, w.2⟩, l)) (conflict_Law r fo q p)) (ask_places r fo ⟨f, s, s, e, due, 0⟩)) (record_Vars r ⟨f, s, s, e, due, 0⟩) := by
  simp only [ask_find, ask_find_sk, Sk.val_r, Sk.val_br, Sk.val_cas, Sk.val_brt, Sk.val_brf, Sk.val_fin, Ctr.c_v, ask_of_k, of_eq, At_idem, Vars_At r f d s e due _ h, ask_places_k, places_At r fo f d s e due _ h]
  rfl
theorem Ask_At (r : Realm) (fo q : Int) (f : File) (d d2 s e due : Int) (h : 0 ≤ s ∧ s < (record_At f d).signs.length) (h2 : 0 ≤ s ∧ s < (record_At f d2).signs.length) :
    ask_Ask r fo q ⟨record_At f d, s, s, e, due, d⟩ = ask_Ask r fo q ⟨record_At f d2, s, s, e, due, d2⟩ := by
  rw [Ask_eq, Ask_eq, find_At r fo q f d s e due h, find_At r fo q f d2 s e due h2]
theorem Question_eq (f : File) (c : Claim) : allongeref28_Question f c = bif c.turn == 0 then 13 else bif allongeref28_Paid f c != -1 then 15 else 14 := by kernel_rfl
noncomputable def payStep (c : Claim) (a : ActX) (s : Unit) : Int ⊕ Unit := bif (a.kind == 6 && a.who == c.creditor) && a.at_ == c.by_ then .inl a.day else .inr ()
theorem Paid_eq (f : File) (c : Claim) : allongeref28_Paid f c = walk (payStep c) (fun _ => -1) f.acts () := by
  simp only [allongeref28_Paid, allongeref28_Paid_sk, Sk.val_bind, Sk.val_loop, Sk.val_bnd, Sk.val_br, Sk.val_r, Sk.val_wi, Sk.val_fin, Ctr.c_v]
  refine (pick_iter_walk f.acts (fun s i => i) (payStep c) id _ (fun s i hi => ?_) (fun s => ?_) (by simp) ()).trans rfl
  · rw [decide_eq_true (by omega), cond_true]
    unfold payStep
    cases (((f.acts.getD i default).kind == 6 && (f.acts.getD i default).who == c.creditor) && (f.acts.getD i default).at_ == c.by_) <;> rfl
  · rw [decide_eq_false (by omega), cond_false]
/-- the first payment, or none -/
theorem pay_find (c : Claim) (z : Int × Int) : ∀ (l : List ActX), (∀ x, x ∈ l → 0 ≤ x.day) → (walk (payStep c) (fun _ => (-1 : Int)) l () = -1 ∧ (∀ r, walk (paidStep c) (fun _ => z) (l ++ r) () = walk (paidStep c) (fun _ => z) r ()) ∧ walk (paidStep c) (fun _ => z) l () = z) ∨ (walk (payStep c) (fun _ => (-1 : Int)) l () ≠ -1 ∧ ∃ d, (∀ z r, walk (paidStep c) (fun _ => z) (l ++ r) () = (15, d)) ∧ ∀ z, walk (paidStep c) (fun _ => z) l () = (15, d))
  | [], _ => .inl ⟨rfl, fun _ => rfl, rfl⟩
  | x :: r, h => by
    have e1 : ∀ {β : Type} (st : ActX → Unit → β ⊕ Unit) (fi : Unit → β) (t : List ActX), walk st fi (x :: t) () = (match st x () with | .inl b => b | .inr s => walk st fi t s) := fun st _ _ => by rw [walk]; cases st x () <;> rfl
    simp only [List.cons_append, e1]
    unfold payStep paidStep
    cases hc : ((x.kind == 6 && x.who == c.creditor) && x.at_ == c.by_) with
    | true =>
      right
      have := h x (by simp)
      exact ⟨by show x.day ≠ -1; omega, x.day, fun _ _ => rfl, fun _ => rfl⟩
    | false =>
      exact pay_find c z r (fun y hy => h y (by simp [hy]))
theorem firstNone {v : View} (h : ∀ x, x ∈ v.f.acts → x.kind ≠ 1) : diligence_view_first v 1 0 = -1 := by
  rw [first_eq]
  refine walk_res (Q := fun n => n = -1) (fun _ => rfl) _ (fun x s b hx e => ?_) _
  have h1 : (x.kind == 1) = false := by simpa using h x hx
  unfold firstStep at e
  rw [h1] at e
  cases e
theorem Dishonour_none (r : Realm) (fo : Int) {f : File} {D : Int} (h : ∀ x, x ∈ (record_At f D).acts → x.kind ≠ 1) : diligence_Dishonour r fo (record_At f D) D = ask_Maturity r fo f D := by
  have hm := Maturity_rng r fo f D
  rw [Dishonour_eq, dishonour_eq, At_idem, Maturity_At, firstNone (by exact h)]
  dsimp only
  rw [decide_eq_false (by omega)]; rfl
theorem refused_no {f : File} {D : Int} (h : allongelaw28_refused f D = false) : ∀ x, x ∈ (record_At f D).acts → x.kind ≠ 1 := by
  rw [record_At_eq]
  dsimp only
  intro x hx
  have hmem : x ∈ f.acts := (List.takeWhile_sublist _).subset hx
  have hday : x.day ≤ D := by
    have : ∀ (l : List ActX), x ∈ l.takeWhile (fun a => decide (a.day ≤ D)) → x.day ≤ D := by
      intro l
      induction l with
      | nil => intro h; simp at h
      | cons y r ih =>
        rw [List.takeWhile_cons]
        by_cases c : y.day ≤ D
        · rw [decide_eq_true c, if_pos rfl]
          intro h
          rcases List.mem_cons.1 h with rfl | h
          · exact c
          · exact ih h
        · rw [decide_eq_false c]; intro h; simp at h
    exact this _ hx
  intro hk
  have := allongelaw28_refused_post f D
  dsimp only at this
  obtain ⟨i, hi, rfl⟩ := List.getElem_of_mem hmem
  have := this h i hi
  have e : f.acts.getD i default = f.acts[i] := by simp [List.getD, hi]
  rw [e] at this
  exact absurd hday (by have := this hk; omega)
/-- the start of a claim, on two days -/
theorem start_two (r : Realm) (fo : Int) {f : File} (c : Claim) {m M : Int} (rest : List ActX) (hr : (record_At f M).acts = (record_At f m).acts ++ rest) (hp : ∀ x, x ∈ (record_At f M).acts → 0 ≤ x.day) (hm : ask_Maturity r fo f m = ask_Maturity r fo f M)
    (hq : allongeref28_Question (record_At f m) c = allongeref28_Question (record_At f M) c) (hn : c.turn ≠ 0 → ∀ x, x ∈ (record_At f M).acts → x.kind ≠ 1) :
    limit_start r fo (record_At f m) c m = limit_start r fo (record_At f M) c M := by
  rw [start_eq, start_eq, Maturity_At, Maturity_At, hm]
  cases ht : c.turn == 0 with
  | true => rw [cond_true, cond_true]
  | false =>
    simp only [decide_eq_true_eq, decide_eq_false_iff_not, List.length_append, List.length_cons, List.length_nil, List.length_set, List.length_replicate, Bool.not_eq_true, Bool.not_eq_false, Int.not_lt, Int.not_le, Bool.and_eq_true, Bool.or_eq_true, Bool.and_eq_false_iff, Bool.or_eq_false_iff, Bool.not_eq_eq_eq_not, Bool.not_true, Bool.not_false, beq_iff_eq, bne_iff_ne, beq_eq_false_iff_ne, bne_eq_false_iff_eq, ne_eq, subL_length] at ht
    have hM := hn ht
    have hm1 : ∀ x, x ∈ (record_At f m).acts → x.kind ≠ 1 := fun x hx => hM x (by rw [hr]; exact List.mem_append_left _ hx)
    simp only [cond_false]
    rw [Dishonour_none r fo hm1, Dishonour_none r fo hM, hm]
    have ht2 : (c.turn == 0) = false := by simpa using ht
    rw [Question_eq, Question_eq, Paid_eq, Paid_eq, ht2] at hq
    simp only [cond_false] at hq
    rcases pay_find c (14, ask_Maturity r fo f M) (record_At f m).acts (fun x hx => hp x (by rw [hr]; exact List.mem_append_left _ hx)) with ⟨a1, a2, a3⟩ | ⟨a1, d, a2, a3⟩
    · rw [a3]
      rcases pay_find c (14, ask_Maturity r fo f M) (record_At f M).acts hp with ⟨b1, b2, b3⟩ | ⟨b1, d, b2, b3⟩
      · rw [b3]
      · rw [a1] at hq
        have : (walk (payStep c) (fun _ => (-1 : Int)) (record_At f M).acts () != -1) = true := by simpa using b1
        rw [this] at hq
        simp at hq
    · rw [a3, hr, a2]
theorem mono_step {n : Nat} {g : Nat → Int} (h : ∀ q, q < n → q ≠ 0 → g (q - 1) ≤ g q) (i : Nat) : ∀ k, i + k < n → g i ≤ g (i + k)
  | 0, _ => Int.le_refl _
  | k + 1, hk => Int.le_trans (mono_step h i k (by omega)) (h (i + (k + 1)) hk (by omega))
theorem tw_len {α : Type} [Inhabited α] (p : α → Bool) : ∀ (l : List α) (i : Nat), i < l.length → (∀ q, q ≤ i → p (l.getD q default) = true) → i < (l.takeWhile p).length
  | [], i, h, _ => absurd h (by simp)
  | x :: r, i, h, hp => by
    have h0 : p x = true := hp 0 (by omega)
    rw [List.takeWhile_cons, h0, if_pos rfl, List.length_cons]
    cases i with
    | zero => omega
    | succ i => have := tw_len p r i (by simpa using h) (fun q hq => by have := hp (q + 1) (by omega); simpa using this); omega
theorem sign_in {r : Realm} {f : File} (hP : PaperOK r f) {i : Nat} {d : Int} (hi : i < f.signs.length) (hd : (f.signs.getD i default).day ≤ d) : i < (record_At f d).signs.length := by
  rw [record_At_eq]
  refine tw_len _ _ _ hi (fun q hq => decide_eq_true ?_)
  have := mono_step (n := f.signs.length) (g := fun q => (f.signs.getD q default).day) (fun q hq h0 => by
    have := (hP.2.1 q hq).2.2.1
    rw [if_neg h0] at this
    exact this) q (i - q) (by omega)
  have e : q + (i - q) = i := by omega
  rw [e] at this
  omega
theorem acts_sorted {r : Realm} {f : File} (hP : PaperOK r f) : f.acts.Pairwise (fun a b => a.day ≤ b.day) := by
  rw [List.pairwise_iff_getElem]
  intro i j hi hj hij
  have := mono_step (n := f.acts.length) (g := fun q => (f.acts.getD q default).day) (fun q hq h0 => (hP.2.2 q hq).2.1 h0) i (j - i) (by omega)
  have e : i + (j - i) = j := by omega
  rw [e] at this
  simpa [List.getD, hi, hj] using this
theorem acts_rng {r : Realm} {f : File} (hP : PaperOK r f) : ∀ x, x ∈ f.acts → 0 ≤ x.day ∧ x.day ≤ 100000 := by
  intro x hx
  obtain ⟨i, hi, rfl⟩ := List.getElem_of_mem hx
  have h1 := hP.2.2 i hi
  have hb0 : 0 ≤ f.bill.day := hP.1.2.2.1
  unfold ActOK at h1
  have e : f.acts.getD i default = f.acts[i] := by simp [List.getD, hi]
  rw [e] at h1
  omega
theorem tw_split {m M : Int} (hm : m ≤ M) : ∀ (l : List ActX), l.Pairwise (fun a b => a.day ≤ b.day) → ∃ rest, l.takeWhile (fun a => decide (a.day ≤ M)) = l.takeWhile (fun a => decide (a.day ≤ m)) ++ rest ∧ ∀ x, x ∈ rest → m < x.day
  | [], _ => ⟨[], rfl, fun x h => by cases h⟩
  | x :: r, h => by
    rw [List.pairwise_cons] at h
    by_cases c : x.day ≤ m
    · obtain ⟨rest, e, h2⟩ := tw_split hm r h.2
      refine ⟨rest, ?_, h2⟩
      rw [List.takeWhile_cons, List.takeWhile_cons, decide_eq_true c, decide_eq_true (show x.day ≤ M by omega), if_pos rfl, if_pos rfl, e]; rfl
    · refine ⟨(x :: r).takeWhile (fun a => decide (a.day ≤ M)), ?_, fun y hy => ?_⟩
      · conv => rhs; rw [List.takeWhile_cons, decide_eq_false c]
        rfl
      · have : y ∈ x :: r := (List.takeWhile_sublist _).subset hy
        rcases List.mem_cons.1 this with rfl | hy
        · omega
        · have := h.1 y hy; omega
theorem lastOf_mono (c : Claim) (first n : Int) (h0 : -1 ≤ first) (hn : 0 ≤ n ∧ n ≤ 20000) : ∀ (rest l : List ActX), (l ++ rest).Pairwise (fun a b => a.day ≤ b.day) → (∀ x, x ∈ l ++ rest → 0 ≤ x.day ∧ x.day ≤ 100000) → lastOf c first n l ≤ lastOf c first n (l ++ rest)
  | [], l, _, _ => by rw [List.append_nil]; exact Int.le_refl _
  | a :: r, l, hs, hr => by
    have e : l ++ a :: r = (l ++ [a]) ++ r := by simp
    rw [e] at hs hr ⊢
    refine Int.le_trans ?_ (lastOf_mono c first n h0 hn r (l ++ [a]) hs hr)
    have h1 := (List.pairwise_append.1 (List.pairwise_append.1 hs).1).2.2
    have := last_more c first n a h0 (hr a (by simp)) hn l (fun x hx => ⟨(hr x (by simp [hx])).1, h1 x hx a (by simp)⟩)
    unfold lastOf at this ⊢
    rw [List.foldl_append]
    exact this
theorem lastOf_stay (c : Claim) (first n : Int) : ∀ (rest : List ActX) (s : Int), (∀ x, x ∈ rest → s < x.day) → rest.foldl (fun s a => lastStep c first n a s) s = s
  | [], _, _ => rfl
  | a :: r, s, h => by
    rw [List.foldl_cons, last_same c first n a (h a (by simp))]
    exact lastOf_stay c first n r s (fun x hx => h x (by simp [hx]))
theorem End_two (r : Realm) (fo : Int) {f : File} (c : Claim) {m M : Int} (hP : PaperOK r f) (hmM : m ≤ M) (h0 : 0 ≤ c.sign) (hs : c.sign < f.signs.length) (hd : (f.signs.getD c.sign.toNat default).day ≤ m) :
    (limit_End r fo f c m).2 ≠ 1 ∧ (limit_End r fo f c M).2 ≠ 1 ∧ (ask_Maturity r fo f m = ask_Maturity r fo f M → allongeref28_Question (record_At f m) c = allongeref28_Question (record_At f M) c → (c.turn ≠ 0 → allongelaw28_refused f M = false) →
      (limit_End r fo f c M).2 = (limit_End r fo f c m).2 ∧ ((limit_End r fo f c m).2 = 0 → (limit_End r fo f c m).1 ≤ (limit_End r fo f c M).1 ∧ ((limit_End r fo f c m).1 < m → (limit_End r fo f c M).1 = (limit_End r fo f c m).1))) := by
  have i1 := sign_in hP (i := c.sign.toNat) (d := m) (by omega) hd
  have i2 := sign_in hP (i := c.sign.toNat) (d := M) (by omega) (by omega)
  have g0 : decide (c.sign < 0) = false := decide_eq_false (by omega)
  have g1 : decide (c.sign ≥ ((record_At f m).signs.length : Int)) = false := decide_eq_false (by omega)
  have g2 : decide (c.sign ≥ ((record_At f M).signs.length : Int)) = false := decide_eq_false (by omega)
  have ne : ∀ (b1 b2 : Bool) (z : Int), (bif b1 then ((0, 4) : Int × Int) else bif b2 then (0, 17) else (z, 0)).2 ≠ 1 := fun b1 b2 z => by
    cases b1 <;> cases b2 <;> simp
  rw [End_eq, End_eq]
  unfold endOf
  rw [g0, g1, g2, Bool.false_or, cond_false, cond_false]
  refine ⟨ne _ _ _, ne _ _ _, fun hm hq hn => ?_⟩
  obtain ⟨rest, hr, hlate⟩ := tw_split hmM f.acts (acts_sorted hP)
  have hr2 : (record_At f M).acts = (record_At f m).acts ++ rest := by rw [record_At_eq, record_At_eq]; exact hr
  have hsub : ∀ x, x ∈ (record_At f M).acts → x ∈ f.acts := fun x hx => by rw [record_At_eq] at hx; exact (List.takeWhile_sublist _).subset hx
  have hrng : ∀ x, x ∈ (record_At f M).acts → 0 ≤ x.day ∧ x.day ≤ 100000 := fun x hx => acts_rng hP x (hsub x hx)
  have hst := start_two r fo c rest hr2 (fun x hx => (hrng x hx).1) hm hq (fun h => refused_no (hn h))
  have hsaid : saidOf r fo (record_At f m) c m = saidOf r fo (record_At f M) c M := by
    unfold saidOf
    rw [hst, Maturity_At, Maturity_At, hm]
    exact Ask_At _ _ _ _ _ _ _ _ _ ⟨h0, by omega⟩ ⟨h0, by omega⟩
  have hkn := saidOf_rng r fo (record_At f M) c M (Maturity_rng _ _ _ _) (fun x hx => (hrng x hx).1)
  have hsr := (start_rng r fo (record_At f M) c M (Maturity_rng _ _ _ _) (fun x hx => (hrng x hx).1)).2
  rw [hst, hsaid, hr2]
  have hsort : ((record_At f m).acts ++ rest).Pairwise (fun a b => a.day ≤ b.day) := by
    rw [← hr2, record_At_eq]
    exact (acts_sorted hP).sublist (List.takeWhile_sublist _)
  rw [hr2] at hrng
  generalize limit_start r fo (record_At f M) c M = v at *
  generalize saidOf r fo (record_At f M) c M = w at *
  cases w.err != 0 || v.2 == -1 with
  | true => exact ⟨rfl, fun h => absurd (show (4 : Int) = 0 from h) (by decide)⟩
  | false =>
    rw [cond_false, cond_false]
    cases hk : w.cell.known with
    | false => exact ⟨rfl, fun h => absurd (show (17 : Int) = 0 from h) (by decide)⟩
    | true =>
      rw [Bool.not_true, cond_false, cond_false]
      refine ⟨rfl, fun _ => ⟨lastOf_mono c v.2 w.cell.n hsr (hkn hk) rest _ hsort hrng, fun hlt => ?_⟩⟩
      dsimp only at hlt ⊢
      have := lastOf_stay c v.2 w.cell.n rest (lastOf c v.2 w.cell.n (record_At f m).acts) (fun x hx => by have := hlate x hx; omega)
      unfold lastOf at this ⊢
      rw [List.foldl_append]
      exact this
theorem Lapsed_eq (r : Realm) (fo : Int) (f : File) (c : Claim) (d : Int) : limit_Lapsed r fo f c d = bif (limit_End r fo f c d).2 == 17 then 2 else bif (limit_End r fo f c d).2 == 0 && decide (d > (limit_End r fo f c d).1) then 1 else 0 := by kernel_rfl
noncomputable def allongelaw28_LimitLater_sk (r : Realm) (forum : Int) (f : File) (c_ : Claim) (x_ : Int) (y : Int) : Sk (Bool) :=
 .r 1 allongelaw28_sane_k.c fun x1 =>
 .r 2 (.depr ((allongelaw28_bounded_k r f).c) fun x2 => .wh (((!x2) || (decide (c_.sign < 0))) || (decide (c_.sign ≥ ((f.signs.length : Nat) : Int)))) false (.p (ixP c_.sign f.signs.length))) fun x2 =>
 .br ((((!x2) || (decide (c_.sign < 0))) || (decide (c_.sign ≥ ((f.signs.length : Nat) : Int)))) || (decide ((minI x_ y) < ((f.signs.getD c_.sign.toNat default).day))))
 (.fin x1)
 (.r 4 ((record_At_k f (minI x_ y)).c) fun x3 =>
 .r 5 ((record_At_k f (maxI x_ y)).c) fun x4 =>
 .r 6 ((limit_End_k r forum f c_ (minI x_ y)).c) fun x5 =>
 .r 7 ((limit_End_k r forum f c_ (maxI x_ y)).c) fun x6 =>
 .br ((x5.2 == 1) || (x6.2 == 1))
 (.fin false)
 (.r 10 (.dep ((ask_Maturity_k r forum f (minI x_ y)).c) fun x7 => .dep ((ask_Maturity_k r forum f (maxI x_ y)).c) fun x8 => .dep (.wh (x7 != x8) false ((allongeref28_Question_k x3 c_).c)) fun x9 => .dep (.wh (x7 != x8) false ((allongeref28_Question_k x4 c_).c)) fun x10 => .wh ((x7 != x8) || (x9 != x10)) false (.wh (c_.turn != 0) true ((allongelaw28_refused_k f (maxI x_ y)).c))) fun p15 =>
 .br (((p15.1 != p15.2.1) || (p15.2.2.1 != p15.2.2.2.1)) || ((c_.turn != 0) && p15.2.2.2.2))
 (.fin x1)
 (.br ((x5.2 == 0) && ((x6.2 != 0) || (decide (x6.1 < x5.1))))
 (.fin false)
 (.r 14 (.dep (.wh x1 true ((limit_Lapsed_k r forum f c_ (minI x_ y)).c)) fun x12 => .wh x1 true (.wh (x12 != 1) false ((limit_Lapsed_k r forum f c_ (maxI x_ y)).c))) fun p14 =>
 .fin (x1 && ((p14.1 != 1) || (p14.2 == 1)))))))
noncomputable def allongelaw28_LimitLater (r : Realm) (forum : Int) (f : File) (c_ : Claim) (x_ : Int) (y : Int) : Bool := (allongelaw28_LimitLater_sk r forum f c_ x_ y).val
theorem allongelaw28_LimitLater_pst (r : Realm) (forum : Int) (f : File) (c_ : Claim) (x_ : Int) (y : Int) : (allongelaw28_LimitLater_sk r forum f c_ x_ y).pst (fun (x : Bool) => x = true) := by
  refine Sk.pst_of _ ?_
  unfold allongelaw28_LimitLater_sk
  simp only [Sk.pstq, Sk.isLoop, reduceCtorEq, leafB, leafJ, Cal.z, Cal.p, Cal.t, Cal.pt, Cal.o, Cal.and, Cal.andl, Cal.andr, Cal.wh, Cal.dep, Cal.depr, Ctr.c, Ctr.nil, Ctr.nilc, CtrO.c, CtrO.nil, allongelaw28_bounded_k, allongelaw28_refused_k, allongelaw28_sane_k, allongeref28_Question_k, ask_Maturity_k, limit_End_k, limit_Lapsed_k, record_At_k, File.Small, Realm.Small, Realm.ByOK, maxLen, implies_true, true_and, and_true, and_self, true_implies, false_implies, ixP, szP, mkP]
  intro x _ hxt x1 _ hb
  refine ⟨fun _ => hxt, fun hc X hX _ Y hY _ v hv w hw => ?_⟩
  simp only [decide_eq_true_eq, decide_eq_false_iff_not, List.length_append, List.length_cons, List.length_nil, List.length_set, List.length_replicate, Bool.not_eq_true, Bool.not_eq_false, Int.not_lt, Int.not_le, Bool.and_eq_true, Bool.or_eq_true, Bool.and_eq_false_iff, Bool.or_eq_false_iff, Bool.not_eq_eq_eq_not, Bool.not_true, Bool.not_false, beq_iff_eq, bne_iff_ne, beq_eq_false_iff_ne, bne_eq_false_iff_eq, ne_eq, subL_length] at hc
  obtain ⟨-, -, -, hP⟩ := hb hc.1.1.1
  have hmM : minI x_ y ≤ maxI x_ y := by unfold minI maxI; split <;> split <;> omega
  have key := End_two r forum c_ (m := minI x_ y) (M := maxI x_ y) hP hmM hc.1.1.2 hc.1.2 hc.2
  rw [← hv, ← hw, ← hX, ← hY] at key
  obtain ⟨k1, k2, k3⟩ := key
  refine ⟨fun h => ?_, fun _ p hp _ => ⟨fun _ => hxt, fun hq => ?_⟩⟩
  · simp only [decide_eq_true_eq, decide_eq_false_iff_not, List.length_append, List.length_cons, List.length_nil, List.length_set, List.length_replicate, Bool.not_eq_true, Bool.not_eq_false, Int.not_lt, Int.not_le, Bool.and_eq_true, Bool.or_eq_true, Bool.and_eq_false_iff, Bool.or_eq_false_iff, Bool.not_eq_eq_eq_not, Bool.not_true, Bool.not_false, beq_iff_eq, bne_iff_ne, beq_eq_false_iff_ne, bne_eq_false_iff_eq, ne_eq, subL_length] at h
    exact h.elim k1 k2
  · subst hp
    simp only [decide_eq_true_eq, decide_eq_false_iff_not, List.length_append, List.length_cons, List.length_nil, List.length_set, List.length_replicate, Bool.not_eq_true, Bool.not_eq_false, Int.not_lt, Int.not_le, Bool.and_eq_true, Bool.or_eq_true, Bool.and_eq_false_iff, Bool.or_eq_false_iff, Bool.not_eq_eq_eq_not, Bool.not_true, Bool.not_false, beq_iff_eq, bne_iff_ne, beq_eq_false_iff_ne, bne_eq_false_iff_eq, ne_eq, subL_length] at hq
    have k := k3 hq.1.1 hq.1.2 (fun ht => hq.2.resolve_left ht)
    refine ⟨fun h => ?_, fun h z hz => ?_⟩
    · simp only [decide_eq_true_eq, decide_eq_false_iff_not, List.length_append, List.length_cons, List.length_nil, List.length_set, List.length_replicate, Bool.not_eq_true, Bool.not_eq_false, Int.not_lt, Int.not_le, Bool.and_eq_true, Bool.or_eq_true, Bool.and_eq_false_iff, Bool.or_eq_false_iff, Bool.not_eq_eq_eq_not, Bool.not_true, Bool.not_false, beq_iff_eq, bne_iff_ne, beq_eq_false_iff_ne, bne_eq_false_iff_eq, ne_eq, subL_length] at h
      have k5 := k.2 h.1
      omega
    · subst hz
      subst hxt
      simp only [Bool.true_and]
      rw [Lapsed_eq, Lapsed_eq, ← hv, ← hw]
      by_cases h0 : v.2 = 0
      · have e1 : (v.2 == 17) = false := by rw [h0]; rfl
        have e2 : (w.2 == 17) = false := by rw [k.1, h0]; rfl
        have e3 : (v.2 == 0) = true := by rw [h0]; rfl
        have e4 : (w.2 == 0) = true := by rw [k.1, h0]; rfl
        rw [e1, e2, e3, e4, cond_false, cond_false, Bool.true_and, Bool.true_and]
        by_cases c : minI x_ y > v.1
        · have k5 := (k.2 h0).2 (by omega)
          rw [decide_eq_true (show maxI x_ y > w.1 by omega)]
          simp
        · rw [decide_eq_false c]; rfl
      · have e3 : (v.2 == 0) = false := by simpa using h0
        rw [e3, Bool.false_and, cond_false]
        cases (v.2 == 17) <;> rfl

theorem allongelaw28_LimitLater_post (r : Realm) (forum : Int) (f : File) (c_ : Claim) (x_ : Int) (y : Int) : (fun (x : Bool) => x = true) (allongelaw28_LimitLater r forum f c_ x_ y) := Sk.pval _ (allongelaw28_LimitLater_pst r forum f c_ x_ y)
theorem allongelaw28_LimitLater_ok (r : Realm) (forum : Int) (f : File) (c_ : Claim) (x_ : Int) (y : Int) : (allongelaw28_LimitLater_sk r forum f c_ x_ y).obs (fun _ => True) := by
  refine Sk.obs_of _ ?_
  unfold allongelaw28_LimitLater_sk
  simp only [Sk.obq, Sk.isLoop, reduceCtorEq, leafB, leafJ, Cal.z, Cal.p, Cal.t, Cal.pt, Cal.o, Cal.and, Cal.andl, Cal.andr, Cal.wh, Cal.dep, Cal.depr, Ctr.c, Ctr.nil, Ctr.nilc, CtrO.c, CtrO.nil, allongelaw28_bounded_k, allongelaw28_refused_k, allongelaw28_sane_k, allongeref28_Question_k, ask_Maturity_k, limit_End_k, limit_Lapsed_k, record_At_k, File.Small, Realm.Small, Realm.ByOK, maxLen, implies_true, true_and, and_true, and_self, true_implies, false_implies, ixP, szP, mkP]
  all_goals (repeat' first | assumption | (apply And.intro) | (intro h))
  all_goals first | trivial | assumption | omega | ((try simp only [decide_eq_true_eq, decide_eq_false_iff_not, List.length_append, List.length_cons, List.length_nil, List.length_set, List.length_replicate, Bool.not_eq_true, Bool.not_eq_false, Int.not_lt, Int.not_le, Bool.and_eq_true, Bool.or_eq_true, Bool.and_eq_false_iff, Bool.or_eq_false_iff, Bool.not_eq_eq_eq_not, Bool.not_true, Bool.not_false, beq_iff_eq, bne_iff_ne, beq_eq_false_iff_ne, bne_eq_false_iff_eq, ne_eq, subL_length] at *) <;> first | omega | (refine (w64_id ?_ ?_).trans ?_ <;> omega) | (simp (disch := omega) only [w64_id] at *; omega) | (grind) | (simp_all; done) | (simp_all; omega))

theorem allongelaw28_LimitLater_fn (r : Realm) (forum : Int) (f : File) (c_ : Claim) (x_ : Int) (y : Int) : FnA Tryz.prog 3 [av r.cells, iv forum, av f.cells, av c_.cells, iv x_, iv y] [] (bv (allongelaw28_LimitLater r forum f c_ x_ y)) [] :=
  FnA.sk tok mixed (fun x => bv x) (fun _ => []) Tryz.func3 rfl (by kernel_rfl) 3000 (allongelaw28_LimitLater_sk r forum f c_ x_ y) (by kernel_rfl) (allongelaw28_LimitLater_ok r forum f c_ x_ y)
noncomputable def allongelaw28_LimitLater_k (r : Realm) (forum : Int) (f : File) (c_ : Claim) (x_ : Int) (y : Int) : Ctr (Bool) := ⟨Tryz.prog, 3, [av r.cells, iv forum, av f.cells, av c_.cells, iv x_, iv y], fun x => bv x, true, allongelaw28_LimitLater r forum f c_ x_ y, True, fun _ => allongelaw28_LimitLater_fn r forum f c_ x_ y, fun (x : Bool) => x = true, allongelaw28_LimitLater_post r forum f c_ x_ y⟩
end Go.Proofs.YtggilgghigileaaGreatDoor
