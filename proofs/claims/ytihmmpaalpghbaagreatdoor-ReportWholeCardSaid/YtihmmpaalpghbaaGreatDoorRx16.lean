/- Functions, as sketches. -/
import Derived.Test.YtihmmpaalpghbaaGreatDoorRx15
namespace Go.Proofs.YtihmmpaalpghbaaGreatDoor
open Go Go.Av
set_option linter.unusedSimpArgs false
set_option linter.unusedVariables false
set_option maxHeartbeats 1000000
set_option maxRecDepth 100000
/-- a loop over indices that fails or goes on -/
theorem loop_or {γ δ ι : Type} (n : Nat) (st : Nat → ι) (P : γ → Prop) (u : δ) {f : ι → (γ ⊕ δ) ⊕ ι} {d : γ ⊕ δ} {g : δ → γ} (hs : ∀ i, i < n → (∃ b, f (st i) = .inl (.inl b) ∧ P b) ∨ f (st i) = .inr (st (i + 1))) (he : f (st n) = .inl (.inr u)) {m : Nat} (hm : n < m) : P (pickS (iter f d m (st 0)) g) ∨ ((∀ i, i < n → f (st i) = .inr (st (i + 1))) ∧ pickS (iter f d m (st 0)) g = g u) := by
  have key : ∀ c k m, k + c = n → c < m → P (pickS (iter f d m (st k)) g) ∨ ((∀ i, k ≤ i → i < n → f (st i) = .inr (st (i + 1))) ∧ pickS (iter f d m (st k)) g = g u) := by
    intro c
    induction c with
    | zero =>
      intro k m hk hm
      obtain ⟨m, rfl⟩ : ∃ q, m = q + 1 := ⟨m - 1, by omega⟩
      obtain rfl : k = n := by omega
      simp only [iter, he, pickS_inr]
      exact .inr ⟨fun i h1 h2 => by omega, trivial⟩
    | succ c ih =>
      intro k m hk hm
      obtain ⟨m, rfl⟩ : ∃ q, m = q + 1 := ⟨m - 1, by omega⟩
      rcases hs k (by omega) with ⟨b, h1, h2⟩ | h1
      · simp only [iter, h1, pickS_inl]
        exact .inl h2
      · simp only [iter, h1]
        rcases ih (k + 1) m (by omega) (by omega) with h | ⟨h2, h3⟩
        · exact .inl h
        · refine .inr ⟨fun i h4 h5 => ?_, h3⟩
          by_cases c1 : i = k
          · rw [c1]; exact h1
          · exact h2 i (by omega) h5
  rcases key n 0 m (by omega) hm with h | ⟨h1, h2⟩
  · exact .inl h
  · exact .inr ⟨fun i hi => h1 i (by omega) hi, h2⟩
theorem loop_well {γ δ ι : Type} (n : Nat) (st : Nat → ι) (u : δ) {f : ι → (γ ⊕ δ) ⊕ ι} {d : γ ⊕ δ} {g : δ → γ} {z : γ} {m : Nat} (h : pickS (iter f d m (st 0)) g = z) (hs : ∀ i, i < n → (∃ b, f (st i) = .inl (.inl b) ∧ b ≠ z) ∨ f (st i) = .inr (st (i + 1))) (he : f (st n) = .inl (.inr u)) (hm : n < m) : (∀ i, i < n → f (st i) = .inr (st (i + 1))) ∧ g u = z := by
  rcases loop_or n st (fun b => b ≠ z) u (d := d) (g := g) hs he hm with h1 | ⟨h1, h2⟩
  · exact absurd h h1
  · exact ⟨h1, h2.symm.trans h⟩
theorem loop_go {γ δ ι : Type} (n : Nat) (st : Nat → ι) (u : δ) {f : ι → (γ ⊕ δ) ⊕ ι} {d : γ ⊕ δ} {g : δ → γ} {m : Nat} (hs : ∀ i, i < n → f (st i) = .inr (st (i + 1))) (he : f (st n) = .inl (.inr u)) (hm : n < m) : pickS (iter f d m (st 0)) g = g u := by
  rcases loop_or n st (fun _ => False) u (d := d) (g := g) (fun i hi => .inr (hs i hi)) he hm with h1 | ⟨_, h2⟩
  · exact h1.elim
  · exact h2
theorem go_end {α : Type} {n : Nat} {a b : α} : (bif decide (((n : Nat) : Int) < ((n : Nat) : Int)) then a else b) = b := by
  rw [decide_eq_false (by omega), cond_false]
theorem go_in {α : Type} {i n : Nat} (h : i < n) {a b : α} : (bif decide (((i : Nat) : Int) < ((n : Nat) : Int)) then a else b) = a := by
  rw [decide_eq_true (by omega), cond_true]
/-! what paper.Check asks, part by part -/
def lastAt (L : List Alter) (i : Nat) : Int := if i = 0 then 0 else (L.getD (i - 1) default).at_
noncomputable def altOK (n : Nat) (L : List Alter) (i : Nat) : Bool := paper_in (L.getD i default).at_ (w64 (lastAt L i + 1)) ((n : Nat) : Int) && paper_in (L.getD i default).sum 1 1099511627776
theorem Check_iff (r : Realm) (f : File) : paper_Check r f = 0 ↔ (f.signs.length ≤ 40 ∧ f.alters.length ≤ 4 ∧ f.acts.length ≤ 100 ∧ f.facts.length ≤ 200) ∧ wording_Check r f.bill = 0 ∧ f.signs.length ≠ 0 ∧ (∀ i, i < f.signs.length → paper_sign r f ((i : Nat) : Int) = 0) ∧ (∀ i, i < f.alters.length → altOK f.signs.length f.alters i = true) ∧ paper_acts r f = 0 ∧ paper_facts f = 0 := by
  constructor
  · intro h
    have hl := paper_len h
    refine ⟨hl, ?_⟩
    unfold paper_Check paper_Check_sk at h
    simp only [Sk.val_bind, Sk.val_loop, Sk.val_bnd, Sk.val_br, Sk.val_r, Sk.val_wi, Sk.val_fin, Ctr.c_v, kk, kp, paper_sign_k, paper_acts_k, paper_facts_k, wording_Check_k, paper_in_k] at h
    rw [show ((((decide (((f.signs.length : Nat) : Int) > 40)) || (decide (((f.alters.length : Nat) : Int) > 4))) || (decide (((f.acts.length : Nat) : Int) > 100))) || (decide (((f.facts.length : Nat) : Int) > 200))) = false by simp only [Bool.or_eq_false_iff, decide_eq_false_iff_not]; omega, cond_false] at h
    cases hw : (wording_Check r f.bill != 0) with
    | true => rw [hw, cond_true] at h; rw [h] at hw; simp at hw
    | false =>
      rw [hw, cond_false] at h
      cases h0 : (((f.signs.length : Nat) : Int) == 0) with
      | true => rw [h0, cond_true] at h; exact absurd h (by decide)
      | false =>
        rw [h0, cond_false] at h
        refine ⟨by simpa using hw, by simp only [beq_eq_false_iff_ne, ne_eq] at h0; omega, ?_⟩
        obtain ⟨h1, h⟩ := loop_well f.signs.length (fun i => i) () h (fun i hi => by
          rw [go_in hi]
          cases hc : (paper_sign r f ((i : Nat) : Int) != 0) with
          | true => exact .inl ⟨_, rfl, by simpa using hc⟩
          | false => exact .inr rfl) go_end (Nat.lt_succ_self _)
        refine ⟨fun i hi => ?_, ?_⟩
        · have h2 := h1 i hi
          rw [go_in hi] at h2
          cases hc : (paper_sign r f ((i : Nat) : Int) != 0) with
          | true => rw [hc, cond_true] at h2; cases h2
          | false => simpa using hc
        · obtain ⟨h3, h⟩ := loop_well f.alters.length (fun i => (lastAt f.alters i, i)) () h (fun i hi => by
            simp only
            rw [go_in hi]
            cases hc : (!paper_in (f.alters.getD i default).at_ (w64 (lastAt f.alters i + 1)) ((f.signs.length : Nat) : Int)) with
            | true => exact .inl ⟨1, rfl, by decide⟩
            | false =>
              cases hd : (!paper_in (f.alters.getD i default).sum 1 1099511627776) with
              | true => exact .inl ⟨3, rfl, by decide⟩
              | false => exact .inr rfl) go_end (Nat.lt_succ_self _)
          refine ⟨fun i hi => ?_, ?_⟩
          · have h2 := h3 i hi
            simp only at h2
            rw [go_in hi] at h2
            unfold altOK
            cases hc : paper_in (f.alters.getD i default).at_ (w64 (lastAt f.alters i + 1)) ((f.signs.length : Nat) : Int) with
            | false => rw [hc] at h2; cases h2
            | true =>
              cases hd : paper_in (f.alters.getD i default).sum 1 1099511627776 with
              | false => rw [hc, hd] at h2; cases h2
              | true => rfl
          · cases ha : (paper_acts r f != 0) with
            | true => rw [ha, cond_true] at h; rw [h] at ha; simp at ha
            | false =>
              rw [ha, cond_false] at h
              exact ⟨by simpa using ha, h⟩
  · rintro ⟨hl, hw, h0, h1, h2, h3, h4⟩
    unfold paper_Check paper_Check_sk
    simp only [Sk.val_bind, Sk.val_loop, Sk.val_bnd, Sk.val_br, Sk.val_r, Sk.val_wi, Sk.val_fin, Ctr.c_v, kk, kp, paper_sign_k, paper_acts_k, paper_facts_k, wording_Check_k, paper_in_k]
    rw [show ((((decide (((f.signs.length : Nat) : Int) > 40)) || (decide (((f.alters.length : Nat) : Int) > 4))) || (decide (((f.acts.length : Nat) : Int) > 100))) || (decide (((f.facts.length : Nat) : Int) > 200))) = false by simp only [Bool.or_eq_false_iff, decide_eq_false_iff_not]; omega, cond_false, hw]
    rw [show ((0 : Int) != 0) = false from rfl, cond_false, show (((f.signs.length : Nat) : Int) == 0) = false by rw [beq_eq_false_iff_ne]; omega, cond_false]
    refine (loop_go f.signs.length (fun i => i) () (fun i hi => ?_) go_end (Nat.lt_succ_self _)).trans ?_
    · rw [go_in hi, h1 i hi]; rfl
    refine (loop_go f.alters.length (fun i => (lastAt f.alters i, i)) () (fun i hi => ?_) go_end (Nat.lt_succ_self _)).trans ?_
    · simp only
      have := h2 i hi
      unfold altOK at this
      rw [Bool.and_eq_true] at this
      rw [go_in hi, this.1, this.2]
      rfl
    rw [h3, h4]
    rfl
/-! parts of a right file are right -/
/-- the first day that fits for an act -/
def firstD (f : File) (i : Nat) : Int := let a := f.acts.getD i default
  let b := bif a.at_ != -1 then maxI f.bill.day (f.signs.getD a.at_.toNat default).day else f.bill.day
  bif decide ((i : Int) > 0) then maxI b (f.acts.getD (w64 ((i : Int) - 1)).toNat default).day else b
noncomputable def actOK (r : Realm) (f : File) (i : Nat) : Bool := paper_in (f.acts.getD i default).part 0 (w64 (f.bill.parts - 1)) && (paper_in (f.acts.getD i default).city 0 (w64 (((r.cities.length : Nat) : Int) - 1)) && (paper_in (f.acts.getD i default).kind 0 9 && (paper_act r f (f.acts.getD i default) && paper_in (f.acts.getD i default).day (firstD f i) 100000)))
theorem pick_br {γ δ : Type} {c : Bool} {a b : δ} {k : δ → γ} : pickS (bif c then (.inr a : γ ⊕ δ) else .inr b) k = k (bif c then a else b) := by cases c <;> rfl
/-- one round of the acts -/
noncomputable def actR (r : Realm) (f : File) (i : Nat) : (Int ⊕ Unit) ⊕ Nat := bif !paper_in (f.acts.getD i default).part 0 (w64 (f.bill.parts - 1)) then .inl (.inl 15) else bif (!paper_in (f.acts.getD i default).city 0 (w64 (((r.cities.length : Nat) : Int) - 1))) || (!paper_in (f.acts.getD i default).kind 0 9) then .inl (.inl 1) else bif !paper_act r f (f.acts.getD i default) then .inl (.inl 14) else bif !paper_in (f.acts.getD i default).day (firstD f i) 100000 then .inl (.inl 13) else .inr (i + 1)
theorem actR_or (r : Realm) (f : File) (i : Nat) : (actOK r f i = true ∧ actR r f i = .inr (i + 1)) ∨ (actOK r f i = false ∧ ∃ b, actR r f i = .inl (.inl b) ∧ b ≠ 0) := by
  unfold actOK actR
  cases paper_in (f.acts.getD i default).part 0 (w64 (f.bill.parts - 1)) with
  | false => exact .inr ⟨rfl, 15, rfl, by decide⟩
  | true =>
    cases paper_in (f.acts.getD i default).city 0 (w64 (((r.cities.length : Nat) : Int) - 1)) with
    | false => exact .inr ⟨rfl, 1, rfl, by decide⟩
    | true =>
      cases paper_in (f.acts.getD i default).kind 0 9 with
      | false => exact .inr ⟨rfl, 1, rfl, by decide⟩
      | true =>
        cases paper_act r f (f.acts.getD i default) with
        | false => exact .inr ⟨rfl, 14, rfl, by decide⟩
        | true =>
          cases paper_in (f.acts.getD i default).day (firstD f i) 100000 with
          | false => exact .inr ⟨rfl, 13, rfl, by decide⟩
          | true => exact .inl ⟨rfl, rfl⟩
theorem acts_eq (r : Realm) (f : File) : paper_acts r f = pickS (iter (fun i => bif decide (((i : Nat) : Int) < ((f.acts.length : Nat) : Int)) then actR r f i else .inl (.inr ())) (default : Int ⊕ Unit) (f.acts.length - 0 + 1) 0) fun _ => 0 := by
  unfold paper_acts paper_acts_sk
  simp only [Sk.val_bind, Sk.val_loop, Sk.val_bnd, Sk.val_br, Sk.val_r, Sk.val_wi, Sk.val_fin, Ctr.c_v, kk, kp, paper_act_k, paper_in_k, pick_br]
  rfl
theorem acts_iff (r : Realm) (f : File) : paper_acts r f = 0 ↔ ∀ i, i < f.acts.length → actOK r f i = true := by
  rw [acts_eq]
  constructor
  · intro h i hi
    obtain ⟨h1, -⟩ := loop_well f.acts.length (fun i => i) () h (fun i hi => by
      rw [go_in hi]
      rcases actR_or r f i with ⟨-, h⟩ | ⟨-, b, h1, h2⟩
      · exact .inr h
      · exact .inl ⟨b, h1, h2⟩) go_end (Nat.lt_succ_self _)
    have h2 := h1 i hi
    rw [go_in hi] at h2
    rcases actR_or r f i with ⟨h, -⟩ | ⟨-, b, h3, -⟩
    · exact h
    · rw [h3] at h2; cases h2
  · intro h
    refine loop_go f.acts.length (fun i => i) () (fun i hi => ?_) go_end (Nat.lt_succ_self _)
    rw [go_in hi]
    rcases actR_or r f i with ⟨-, h1⟩ | ⟨h1, -⟩
    · exact h1
    · rw [h i hi] at h1; cases h1
/-- the beginnings of a file's lists -/
def preF (f : File) (s a c : Nat) (F : List Fact) : File := { bill := f.bill, signs := f.signs.take s, alters := f.alters.take a, acts := f.acts.take c, facts := F }
theorem take_gd {α : Type} [Inhabited α] {l : List α} {n i : Nat} (h : i < n) : (l.take n).getD i default = l.getD i default := by simp [List.getD, List.getElem?_take, h]
theorem subL_tk {α : Type} [Inhabited α] {l : List α} {n i : Nat} (h : i ≤ n) : subL (l.take n) 0 i = subL l 0 i := by
  unfold subL
  refine List.map_congr_left fun j hj => ?_
  simp only [List.mem_range] at hj
  simp [List.getD, List.getElem?_take, show j < n by omega]
theorem bears_eq (f : File) (i : Int) (K : List Int) : paper_bears f i K = ((paper_in (f.signs.getD i.toNat default).for_ 0 (w64 (i - 1)) && paper_stands f (f.signs.getD i.toNat default).for_ (f.signs.getD i.toNat default).part) && slices_Contains K (f.signs.getD (f.signs.getD i.toNat default).for_.toNat default).kind) := rfl
theorem stands_eq (f : File) (i p : Int) : paper_stands f i p = ((i == 0) || ((f.signs.getD i.toNat default).part == p)) := rfl
theorem pin_iff (i a b : Int) : paper_in i a b = true ↔ a ≤ i ∧ i ≤ b := by
  have e : paper_in i a b = ((decide (i ≥ a)) && (decide (i ≤ b))) := rfl
  rw [e, Bool.and_eq_true, decide_eq_true_eq, decide_eq_true_eq]
theorem bears_pre {f : File} {s a c i : Nat} {F : List Fact} (h : i < s) (hs : i ≤ 1000) (K : List Int) : paper_bears (preF f s a c F) ((i : Nat) : Int) K = paper_bears f ((i : Nat) : Int) K := by
  have hg : ∀ j, j < s → (preF f s a c F).signs.getD j default = f.signs.getD j default := fun j hj => take_gd hj
  rw [bears_eq, bears_eq, Int.toNat_natCast, hg i h]
  cases hn : paper_in (f.signs.getD i default).for_ 0 (w64 (((i : Nat) : Int) - 1)) with
  | false => rfl
  | true =>
    have h1 := (pin_iff _ _ _).1 hn
    rw [w64_id (by omega) (by omega)] at h1
    rw [stands_eq, stands_eq, hg _ (by omega)]
theorem fits_pre {r : Realm} {f : File} {s a c i : Nat} {F : List Fact} (h : i < s) (hs : i ≤ 1000) : paper_fits r (preF f s a c F) ((i : Nat) : Int) = paper_fits r f ((i : Nat) : Int) := by
  have hg : (preF f s a c F).signs.getD i default = f.signs.getD i default := take_gd h
  unfold paper_fits paper_fits_sk
  simp only [Sk.val_br, Sk.val_r, Sk.val_fin, Ctr.c_v, kk, kp, paper_in_k, paper_bears_k, bears_pre h hs, Int.toNat_natCast, hg]
  rfl
theorem sign_pre {r : Realm} {f : File} {s a c i : Nat} {F : List Fact} (h : i < s) (hs : i ≤ 1000) : paper_sign r (preF f s a c F) ((i : Nat) : Int) = paper_sign r f ((i : Nat) : Int) := by
  have hg : (preF f s a c F).signs.getD i default = f.signs.getD i default := take_gd h
  have hu : subL (preF f s a c F).signs 0 i = subL f.signs 0 i := subL_tk (l := f.signs) (n := s) (i := i) (by omega)
  unfold paper_sign paper_sign_sk
  simp only [Sk.val_bind, Sk.val_loop, Sk.val_bnd, Sk.val_br, Sk.val_r, Sk.val_wi, Sk.val_fin, Ctr.c_v, kk, kp, paper_in_k, paper_fits_k, fits_pre h hs, Int.toNat_natCast, hg, hu]
  rfl
theorem act_pre {r : Realm} {f : File} {s a c : Nat} {F : List Fact} (h : f.signs.length ≤ s) (x : ActX) : paper_act r (preF f s a c F) x = paper_act r f x := by
  have hg : (preF f s a c F).signs = f.signs := List.take_of_length_le h
  unfold paper_act paper_act_sk
  simp only [Sk.val_bind, Sk.val_br, Sk.val_r, Sk.val_fin, Ctr.c_v, kk, kp, paper_in_k, paper_stands_k, hg, stands_eq]
  rfl
theorem actOK_pre {r : Realm} {f : File} {s a c i : Nat} {F : List Fact} (h : f.signs.length ≤ s) (hi : i < c) (hs : i ≤ 1000) : actOK r (preF f s a c F) i = actOK r f i := by
  have hg : (preF f s a c F).signs = f.signs := List.take_of_length_le h
  have hx : ∀ j, j < c → (preF f s a c F).acts.getD j default = f.acts.getD j default := fun j hj => take_gd hj
  have hf : firstD (preF f s a c F) i = firstD f i := by
    unfold firstD
    simp only [hx i hi, hg]
    cases hd : decide ((i : Int) > 0) with
    | false => rfl
    | true =>
      have hd := of_decide_eq_true hd
      have e : (w64 ((i : Int) - 1)).toNat = i - 1 := by rw [w64_id (by omega) (by omega)]; omega
      rw [e, hx (i - 1) (by omega)]
      rfl
  unfold actOK
  rw [hx i hi, act_pre h, hf]
  rfl
theorem altOK_pre {f : File} {a i : Nat} (n : Nat) (hi : i < a) : altOK n (f.alters.take a) i = altOK n f.alters i := by
  unfold altOK lastAt
  rw [take_gd hi, take_gd (by omega : i - 1 < a)]
/-- the beginnings of a right file are right: the signatures first, then the rest -/
theorem Check_pre {r : Realm} {f : File} (h : paper_Check r f = 0) {s a c : Nat} {F : List Fact} (hs : 0 < s) (ha : f.signs.length ≤ s ∨ (a = 0 ∧ c = 0 ∧ F = [])) (hF : FOK f.signs.length F) (hl : F.length ≤ 200) : paper_Check r (preF f s a c F) = 0 := by
  obtain ⟨h1, h2, h3, h4, h5, h6, h7⟩ := (Check_iff r f).1 h
  rw [Check_iff]
  have e1 : (preF f s a c F).signs = f.signs.take s := rfl
  have e2 : (preF f s a c F).alters = f.alters.take a := rfl
  have e3 : (preF f s a c F).acts = f.acts.take c := rfl
  have e4 : (preF f s a c F).facts = F := rfl
  have l1 : (f.signs.take s).length ≤ f.signs.length := by simp; omega
  refine ⟨?_, h2, ?_, fun i hi => ?_, fun i hi => ?_, ?_, ?_⟩
  · rw [e1, e2, e3, e4]
    simp only [List.length_take]
    omega
  · rw [e1]; simp only [List.length_take]; omega
  · rw [e1, List.length_take] at hi
    rw [sign_pre (by omega) (by omega)]
    exact h4 i (by omega)
  · rw [e2] at hi ⊢
    rw [List.length_take] at hi
    rcases ha with ha | ⟨rfl, -, -⟩
    · rw [altOK_pre _ (by omega), e1, List.take_of_length_le ha]
      exact h5 i (by omega)
    · omega
  · rw [acts_iff]
    intro i hi
    rw [e3, List.length_take] at hi
    rcases ha with ha | ⟨-, rfl, -⟩
    · rw [actOK_pre ha (by omega) (by omega)]
      exact (acts_iff r f).1 h6 i (by omega)
    · omega
  · refine (paper_facts_post (preF f s a c F) ⟨by rw [e1]; omega, by rw [e4]; omega⟩).2 ?_
    rw [e4, e1]
    rcases ha with ha | ⟨-, -, rfl⟩
    · rw [List.take_of_length_le ha]; exact hF
    · exact ⟨fun x hx => (by cases hx), List.Pairwise.nil⟩
/-! the file of a bill, step by step -/
abbrev kS (i : Int) : Key := { kind := 1, index := i, at_ := 0, fact := 0 }
abbrev kA (i : Int) : Key := { kind := 3, index := i, at_ := 0, fact := 0 }
abbrev kC (i : Int) : Key := { kind := 2, index := i, at_ := 0, fact := 0 }
abbrev kF (a k : Int) : Key := { kind := 4, index := 0, at_ := a, fact := k }
noncomputable def addF (m : Maker) (k : Key) : Maker := (report_maker_add m k).2
noncomputable def altsP (m : Maker) (n : Nat) : Maker := (List.range n).foldl (fun m i => addF m (kA (i : Nat))) m
noncomputable def actsP (m : Maker) (n : Nat) : Maker := (List.range n).foldl (fun m i => addF m (kC (i : Nat))) m
noncomputable def kindsP (a : Int) (m : Maker) (n : Nat) : Maker := (List.range n).foldl (fun m i => addF m (kF a (i : Nat))) m
noncomputable def factsP (m : Maker) (n : Nat) : Maker := (List.range n).foldl (fun m i => kindsP (i : Nat) m 5) m
noncomputable def tailP (m : Maker) : Maker := factsP (actsP (altsP m 4) 100) (actsP (altsP m 4) 100).file.signs.length
noncomputable def sgnR (i : Int × Maker) : (Maker ⊕ Maker) ⊕ (Int × Maker) := bif (report_maker_add i.2 (kS i.1)).1 then .inr (w64 (i.1 + 1), (report_maker_add i.2 (kS i.1)).2) else .inl (.inr (report_maker_add i.2 (kS i.1)).2)
theorem foldl_range_succ {α : Type} (g : α → Nat → α) (a : α) (n : Nat) : (List.range (n + 1)).foldl g a = g ((List.range n).foldl g a) n := by rw [List.range_succ, List.foldl_append]; rfl
noncomputable abbrev mk0 (r : Realm) (A : List (Key × Body)) : Maker := { r := r, all := A, file := { bill := { drawer := 0, drawee := 0, payee := 0, sum := 0, currency := 0, tenor := { kind := 0, n := 0, unit := 0 }, day := 0, city := 0, pay := 0, need := 0, rate := 0, flags := 0, parts := 0 }, signs := [], alters := [], acts := [], facts := [] }, used := [] }
abbrev kB : Key := { kind := 0, index := 0, at_ := 0, fact := 0 }
theorem tail_eq (b3 : Maker) : pickS (iter (fun i => bif decide (((i.1 : Nat) : Int) < 4) then .inr (i.1 + 1, (report_maker_add i.2 (kA (i.1 : Nat))).2) else .inl (.inr i.2)) (default : Maker ⊕ Maker) (4 - 0 + 1) ((0, b3) : Nat × Maker)) (fun b => (pickS (iter (fun i => bif decide (((i.1 : Nat) : Int) < 100) then .inr (i.1 + 1, (report_maker_add i.2 (kC (i.1 : Nat))).2) else .inl (.inr i.2)) (default : Maker ⊕ Maker) (100 - 0 + 1) ((0, b) : Nat × Maker)) (fun b9 =>
    pickS (iter (fun i => bif decide (((i.1 : Nat) : Int) < ((b9.file.signs.length : Nat) : Int)) then
      pickS (pickS (iter (fun j => bif decide (((j.1 : Nat) : Int) < 5) then .inr (j.1 + 1, (report_maker_add j.2 (kF (i.1 : Nat) (j.1 : Nat))).2) else .inl (.inr (((j.1 : Nat) : Int), j.2))) (default : (((Maker ⊕ Maker) ⊕ (Nat × Maker)) ⊕ Maker) ⊕ (Int × Maker)) (5 - 0 + 1) ((0, i.2) : Nat × Maker)) fun b => .inr b.2) fun b => .inr (i.1 + 1, b)
    else .inl (.inr i.2)) (default : Maker ⊕ Maker) (b9.file.signs.length - 0 + 1) ((0, b9) : Nat × Maker)) fun b => b))) = tailP b3 := by
  refine (loop_go 4 (fun i => (i, altsP b3 i)) (altsP b3 4) (fun i hi => ?_) ?_ (by decide)).trans ?_
  · simp only
    rw [decide_eq_true (by omega : ((i : Nat) : Int) < 4), cond_true]
    unfold altsP
    rw [foldl_range_succ]
    rfl
  · rw [decide_eq_false (show ¬ (((4 : Nat) : Int) < 4) by decide), cond_false]
  unfold tailP
  generalize altsP b3 4 = b
  refine (loop_go 100 (fun i => (i, actsP b i)) (actsP b 100) (fun i hi => ?_) ?_ (by decide)).trans ?_
  · simp only
    rw [decide_eq_true (by omega : ((i : Nat) : Int) < 100), cond_true]
    unfold actsP
    rw [foldl_range_succ]
    rfl
  · rw [decide_eq_false (show ¬ (((100 : Nat) : Int) < 100) by decide), cond_false]
  generalize actsP b 100 = b9
  refine (loop_go b9.file.signs.length (fun i => (i, factsP b9 i)) (factsP b9 b9.file.signs.length) (fun i hi => ?_) ?_ (Nat.lt_succ_self _))
  · simp only
    rw [go_in hi]
    have e : factsP b9 (i + 1) = kindsP (i : Nat) (factsP b9 i) 5 := by unfold factsP; rw [foldl_range_succ]
    rw [e]
    generalize factsP b9 i = m
    refine (congrArg (fun z : ((Maker ⊕ Maker) ⊕ (Nat × Maker)) ⊕ Maker => pickS z fun b => Sum.inr (i + 1, b)) (loop_go 5 (fun j => (j, kindsP (i : Nat) m j)) (((5 : Nat) : Int), kindsP (i : Nat) m 5) (fun j hj => ?_) ?_ (by decide))).trans ?_
    · simp only
      rw [decide_eq_true (by omega : ((j : Nat) : Int) < 5), cond_true]
      unfold kindsP
      rw [foldl_range_succ]
      rfl
    · rw [decide_eq_false (show ¬ (((5 : Nat) : Int) < 5) by decide), cond_false]
    · rfl
  · exact go_end
theorem build_eq (r : Realm) (l : List Arrival) (bill day : Int) : report_build r l bill day = bif !(report_maker_add (mk0 r (report_stated l bill day)) kB).1 then (report_maker_add (mk0 r (report_stated l bill day)) kB).2 else pickS (iter sgnR default (40 - (report_maker_add (mk0 r (report_stated l bill day)) kB).2.file.signs.length + 1) (1, (report_maker_add (mk0 r (report_stated l bill day)) kB).2)) tailP := by
  unfold report_build report_build_sk
  simp only [Sk.val_r, Sk.val_up, Sk.val_bind, Sk.val_loop, Sk.val_bnd, Sk.val_br, Sk.val_wi, Sk.val_fin, CtrO.c_v, CtrB.c_v, report_stated_km, report_maker_add_kb]
  simp only [tail_eq]
  rfl
/-! what is stated, step by step -/
noncomputable def statStep (bill : Int) (s : List (Key × Body) × List (Key × Bool)) (x : Report) : List (Key × Body) × List (Key × Bool) := bif x.body.bill != bill then s else (kupd Key.K s.1 (report_about x.body) x.body, bif khas Key.K s.1 (report_about x.body) && !(eqCs (Body.cells (kget Key.K s.1 (report_about x.body) Body.Z)) (Body.cells x.body)) then kupd Key.K s.2 (report_about x.body) true else s.2)
noncomputable def statDel (s : List (Key × Body) × List (Key × Bool)) : List (Key × Body) := (List.range s.2.length).foldr (fun i g => kdel Key.K g (s.2.getD i default).1) s.1
theorem stated_eq (l : List Arrival) (bill day : Int) : report_stated l bill day = statDel ((report_Known l day).foldl (statStep bill) ([], [])) := by
  unfold report_stated report_stated_sk
  simp only [Sk.val_r, Sk.val_bind, Sk.val_loop, Sk.val_bnd, Sk.val_br, Sk.val_wi, Sk.val_fin, Ctr.c_v, kk, kp, report_Known_k, report_about_k]
  refine (pick_iter_walk (report_Known l day) (fun (s : List (Key × Body) × List (Key × Bool)) i => (i, s.1, s.2)) (fun x s => (.inr (statStep bill s x) : List (Key × Body) ⊕ (List (Key × Body) × List (Key × Bool)))) id _ (fun s i hi => ?_) (fun s => ?_) (by simp) ([], [])).trans ?_
  · simp only
    refine (go_in hi).trans ?_
    unfold statStep
    cases h1 : (((report_Known l day).getD i default).body.bill != bill) with
    | true => rfl
    | false =>
      cases h2 : (khas Key.K s.1 (report_about ((report_Known l day).getD i default).body) && !(eqCs (Body.cells (kget Key.K s.1 (report_about ((report_Known l day).getD i default).body) Body.Z)) (Body.cells ((report_Known l day).getD i default).body))) with
      | true => simp only [cond_false, cond_true, h2]
      | false => simp only [cond_false, h2]
  · simp only
    exact go_end
  · rw [walk_fold]
    rfl
theorem kupd_new {κ α : Type} (K : KE κ) (hK : ∀ a b : κ, eqCs (K.C a) (K.C b) = true ↔ a = b) (k : κ) (v : α) : ∀ (m : List (κ × α)), k ∉ m.map Prod.fst → kupd K m k v = m ++ [(k, v)] ∧ kfind K m k = none
  | [], _ => ⟨rfl, rfl⟩
  | p :: r, h => by
    simp only [List.map_cons, List.mem_cons, not_or] at h
    have hk : eqCs (K.C k) (K.C p.1) = false := by
      cases e : eqCs (K.C k) (K.C p.1) with
      | false => rfl
      | true => exact absurd ((hK _ _).1 e) h.1
    obtain ⟨h1, h2⟩ := kupd_new K hK k v r h.2
    simp only [kupd, kfind, hk, cond_false, h1, h2, List.cons_append, and_self]
/-- bodies about different things: all of them are stated -/
theorem stated_all {bill : Int} : ∀ (L : List Report) (m : List (Key × Body)), (∀ x, x ∈ L → x.body.bill = bill) → (m.map Prod.fst ++ L.map fun x => report_about x.body).Nodup → L.foldl (statStep bill) (m, []) = (m ++ L.map (fun x => (report_about x.body, x.body)), [])
  | [], m, _, _ => by simp
  | x :: L, m, hb, hn => by
    have h1 : report_about x.body ∉ m.map Prod.fst := fun h => by
      rw [List.nodup_append] at hn
      exact hn.2.2 _ h _ (by simp) rfl
    obtain ⟨h2, h3⟩ := kupd_new Key.K (fun _ _ => eqKey) (report_about x.body) x.body m h1
    have h4 : khas Key.K m (report_about x.body) = false := by unfold khas; rw [h3]; rfl
    have e : statStep bill (m, []) x = (m ++ [(report_about x.body, x.body)], []) := by
      unfold statStep
      rw [show (x.body.bill != bill) = false by rw [hb x List.mem_cons_self]; simp, cond_false, h2, h4]
      rfl
    rw [List.foldl_cons, e, stated_all L _ (fun y hy => hb y (List.mem_cons_of_mem _ hy)) (by simpa using hn)]
    simp
theorem stated_keys {l : List Arrival} {bill day : Int} (hb : ∀ x, x ∈ report_Known l day → x.body.bill = bill) (hn : ((report_Known l day).map fun x => report_about x.body).Nodup) : report_stated l bill day = (report_Known l day).map fun x => (report_about x.body, x.body) := by
  rw [stated_eq, stated_all _ _ hb (by simpa using hn)]
  simp [statDel]
theorem map_find {L : List Report} (hn : (L.map fun x => report_about x.body).Nodup) (k : Key) (b : Body) : kfind Key.K (L.map fun x => (report_about x.body, x.body)) k = some b ↔ ∃ x, x ∈ L ∧ x.body = b ∧ report_about b = k := by
  have hm : ((L.map fun x => (report_about x.body, x.body)).map Prod.fst).Nodup := by simpa [List.map_map, Function.comp_def] using hn
  constructor
  · intro h
    have := kfind_some Key.K (fun _ _ => eqKey) _ _ _ h
    obtain ⟨x, hx, e⟩ := List.mem_map.1 this
    simp only [Prod.mk.injEq] at e
    exact ⟨x, hx, e.2, by rw [← e.2]; exact e.1⟩
  · rintro ⟨x, hx, rfl, rfl⟩
    exact kfind_mem Key.K (fun _ _ => eqKey) _ hm (report_about x.body, x.body) (List.mem_map.2 ⟨x, hx, rfl⟩)
/-! all that a file says -/
def bBill (f : File) (bill : Int) : Body := { (default : Body) with kind := 0, bill := bill, index := 0, paper := f.bill, sign := { (default : Sign) with flags := (f.signs.getD 0 default).flags } }
def bSign (f : File) (bill : Int) (i : Nat) : Body := { (default : Body) with kind := 1, bill := bill, index := ((i : Nat) : Int), sign := f.signs.getD i default }
def bAlt (f : File) (bill : Int) (i : Nat) : Body := { (default : Body) with kind := 3, bill := bill, index := ((i : Nat) : Int), alter := f.alters.getD i default }
def bAct (f : File) (bill : Int) (i : Nat) : Body := { (default : Body) with kind := 2, bill := bill, index := ((i : Nat) : Int), act := f.acts.getD i default }
def bFact (bill : Int) (x : Fact) : Body := { (default : Body) with kind := 4, bill := bill, index := 0, fact := x }
def bodiesP (f : File) (bill : Int) : List Body := bBill f bill :: ((List.range (f.signs.length - 1)).map (fun i => bSign f bill (i + 1)) ++ ((List.range f.alters.length).map (bAlt f bill) ++ ((List.range f.acts.length).map (bAct f bill) ++ f.facts.map (bFact bill))))
theorem ab_fact (bill : Int) (x : Fact) : report_about (bFact bill x) = kF x.at_ x.kind := rfl
theorem mem_bodies {f : File} {bill : Int} {b : Body} : b ∈ bodiesP f bill ↔ b = bBill f bill ∨ (∃ i, i + 1 < f.signs.length ∧ b = bSign f bill (i + 1)) ∨ (∃ i, i < f.alters.length ∧ b = bAlt f bill i) ∨ (∃ i, i < f.acts.length ∧ b = bAct f bill i) ∨ ∃ x, x ∈ f.facts ∧ b = bFact bill x := by
  unfold bodiesP
  simp only [List.mem_cons, List.mem_append, List.mem_map, List.mem_range]
  constructor
  · rintro (h | ⟨i, hi, rfl⟩ | ⟨i, hi, rfl⟩ | ⟨i, hi, rfl⟩ | ⟨x, hx, rfl⟩)
    · exact .inl h
    · exact .inr (.inl ⟨i, by omega, rfl⟩)
    · exact .inr (.inr (.inl ⟨i, hi, rfl⟩))
    · exact .inr (.inr (.inr (.inl ⟨i, hi, rfl⟩)))
    · exact .inr (.inr (.inr (.inr ⟨x, hx, rfl⟩)))
  · rintro (h | ⟨i, hi, rfl⟩ | ⟨i, hi, rfl⟩ | ⟨i, hi, rfl⟩ | ⟨x, hx, rfl⟩)
    · exact .inl h
    · exact .inr (.inl ⟨i, by omega, rfl⟩)
    · exact .inr (.inr (.inl ⟨i, hi, rfl⟩))
    · exact .inr (.inr (.inr (.inl ⟨i, hi, rfl⟩)))
    · exact .inr (.inr (.inr (.inr ⟨x, hx, rfl⟩)))
theorem keys_eq (f : File) (bill : Int) : (bodiesP f bill).map report_about = kB :: ((List.range (f.signs.length - 1)).map (fun i => kS ((i + 1 : Nat) : Int)) ++ ((List.range f.alters.length).map (fun i => kA (i : Nat)) ++ ((List.range f.acts.length).map (fun i => kC (i : Nat)) ++ f.facts.map (fun x => kF x.at_ x.kind)))) := by
  unfold bodiesP
  simp only [List.map_cons, List.map_append, List.map_map]
  rfl
theorem keys_nodup {f : File} {bill : Int} (h : FOK f.signs.length f.facts) : ((bodiesP f bill).map report_about).Nodup := by
  rw [keys_eq, List.nodup_cons, List.nodup_append, List.nodup_append, List.nodup_append]
  have inj : ∀ {n : Nat} {g : Nat → Key}, (∀ i, (g i).index = (i : Int) ∨ (g i).index = (i : Int) + 1) → (∀ i j, g i = g j → i = j) → ((List.range n).map g).Nodup := fun {n g} _ hg => List.pairwise_map.2 (List.nodup_range.imp fun h e => h (hg _ _ e))
  refine ⟨fun hm => ?_, inj (fun i => .inr (by simp)) (fun i j e => by have := congrArg Key.index e; simp at this; omega), ⟨inj (fun i => .inl rfl) (fun i j e => by have := congrArg Key.index e; simp at this; omega), ⟨inj (fun i => .inl rfl) (fun i j e => by have := congrArg Key.index e; simp at this; omega), List.pairwise_map.2 (h.2.imp fun {x y} hl e => ?_), ?_⟩, ?_⟩, ?_⟩
  · simp only [List.mem_append, List.mem_map] at hm
    rcases hm with ⟨i, _, e⟩ | ⟨i, _, e⟩ | ⟨i, _, e⟩ | ⟨i, _, e⟩ <;> exact absurd (congrArg Key.kind e) (by simp)
  · have h1 := congrArg Key.at_ e
    have h2 := congrArg Key.fact e
    simp only at h1 h2
    unfold FLt at hl
    omega
  · intro a ha b hb e
    simp only [List.mem_map] at ha hb
    obtain ⟨i, _, rfl⟩ := ha
    obtain ⟨j, _, rfl⟩ := hb
    exact absurd (congrArg Key.kind e) (by simp)
  · intro a ha b hb e
    simp only [List.mem_append, List.mem_map] at ha hb
    obtain ⟨i, _, rfl⟩ := ha
    rcases hb with ⟨j, _, rfl⟩ | ⟨j, _, rfl⟩ <;> exact absurd (congrArg Key.kind e) (by simp)
  · intro a ha b hb e
    simp only [List.mem_append, List.mem_map] at ha hb
    obtain ⟨i, _, rfl⟩ := ha
    rcases hb with ⟨j, _, rfl⟩ | ⟨j, _, rfl⟩ | ⟨j, _, rfl⟩ <;> exact absurd (congrArg Key.kind e) (by simp)
def WholeA (A : List (Key × Body)) (f : File) (bill : Int) : Prop := ∀ k b, kfind Key.K A k = some b ↔ b ∈ bodiesP f bill ∧ report_about b = k
theorem WholeA.hit {A : List (Key × Body)} {f : File} {bill : Int} (h : WholeA A f bill) {b : Body} (hb : b ∈ bodiesP f bill) {k : Key} (hk : report_about b = k) : khas Key.K A k = true ∧ kget Key.K A k Body.Z = b := by
  have := (h k b).2 ⟨hb, hk⟩
  unfold khas kget
  rw [this]
  exact ⟨rfl, rfl⟩
theorem WholeA.miss {A : List (Key × Body)} {f : File} {bill : Int} (h : WholeA A f bill) {k : Key} (hk : ∀ b, b ∈ bodiesP f bill → report_about b ≠ k) : khas Key.K A k = false := by
  unfold khas
  cases hf : kfind Key.K A k with
  | none => rfl
  | some b =>
    have := (h k b).1 hf
    exact absurd this.2 (hk b this.1)
/-- a maker at work -/
def WM (r : Realm) (A : List (Key × Body)) (g : File) (m : Maker) : Prop := m.r = r ∧ m.all = A ∧ m.file = g ∧ (m.used.length ≠ 0 ∨ g.signs = [])
theorem WM.hit {r : Realm} {A : List (Key × Body)} {f g g' : File} {bill : Int} {m : Maker} (hm : WM r A g m) (h : WholeA A f bill) {b : Body} (hb : b ∈ bodiesP f bill) {k : Key} (hk : report_about b = k) (hg : nextP g k b = g') (hc : paper_Check r g' = 0) : (report_maker_add m k).1 = true ∧ WM r A g' (report_maker_add m k).2 := by
  obtain ⟨h1, h2, h3, -⟩ := hm
  obtain ⟨h4, h5⟩ := h.hit hb hk
  rw [add_eq]
  unfold addP
  rw [h2, h4, h5, h1, h3, hg, hc]
  exact ⟨rfl, rfl, rfl, rfl, .inl (by show (m.used ++ [b]).length ≠ 0; simp)⟩
theorem WM.miss {r : Realm} {A : List (Key × Body)} {f g : File} {bill : Int} {m : Maker} (hm : WM r A g m) (h : WholeA A f bill) {k : Key} (hk : ∀ b, b ∈ bodiesP f bill → report_about b ≠ k) : report_maker_add m k = (false, m) := by
  rw [add_eq]
  unfold addP
  rw [hm.2.1, h.miss hk]
  rfl
/-- the last day and whether a part has an acceptance, after so many signatures -/
def sgF (f : File) (q : Nat) : Nat → Int × Bool
  | 0 => (f.bill.day, false)
  | k + 1 => (((subL f.signs 0 q).getD k default).day, (sgF f q k).2 || (((((f.signs.getD q default).kind) == 1) && ((((subL f.signs 0 q).getD k default).kind) == 1)) && ((((subL f.signs 0 q).getD k default).part) == ((f.signs.getD q default).part))))
/-- what paper.Check asks of a signature -/
theorem sign_fits {r : Realm} {f : File} {i : Nat} (h : paper_sign r f ((i : Nat) : Int) = 0) : paper_fits r f ((i : Nat) : Int) = true := by
  cases hfit : paper_fits r f ((i : Nat) : Int) with
  | true => rfl
  | false =>
    exfalso
    unfold paper_sign paper_sign_sk at h
    simp only [Sk.val_bind, Sk.val_loop, Sk.val_bnd, Sk.val_br, Sk.val_r, Sk.val_wi, Sk.val_fin, Ctr.c_v, kk, kp, paper_in_k, paper_fits_k, hfit, Int.toNat_natCast] at h
    revert h
    cases h1 : !paper_in (f.signs.getD i default).part 0 (w64 (f.bill.parts - 1)) with
    | true => intro h; simp at h
    | false =>
      rw [cond_false]
      generalize hc : ((!_) || (!_) : Bool) = c
      cases c with
      | true => intro h; simp at h
      | false =>
        rw [cond_false]
        intro h
        refine absurd (Eq.trans (Eq.symm (loop_go (subL f.signs 0 i).length (fun k => ((sgF f i k).1, (sgF f i k).2, k)) (sgF f i (subL f.signs 0 i).length) (fun k hk => ?_) ?_ (Nat.lt_succ_self _))) h) ?_
        · simp only
          exact (go_in hk).trans rfl
        · exact go_end
        · generalize ((!_) || (_ && _) : Bool) = c
          cases c <;> simp
/-- the first signature is the drawer's -/
theorem draw_eq {r : Realm} {f : File} (bill : Int) (h : paper_Check r f = 0) : drawP (bBill f bill) = f.signs.getD 0 default := by
  obtain ⟨-, -, h0, h1, -⟩ := (Check_iff r f).1 h
  have hf := sign_fits (h1 0 (by omega))
  unfold paper_fits paper_fits_sk at hf
  simp only [Sk.val_br, Sk.val_r, Sk.val_fin] at hf
  rw [show (((0 : Nat) : Int)).toNat = 0 from rfl] at hf
  revert hf
  unfold drawP bBill
  simp only
  generalize f.signs.getD 0 default = s
  obtain ⟨k, p, wh, fo, to, su, d, ci, fl⟩ := s
  simp only
  cases hk : (k == 0) with
  | false => simp
  | true =>
    have hk : k = 0 := by simpa using hk
    subst hk
    intro hf
    simp at hf
    obtain ⟨h1, h2, h3⟩ := hf
    simp only [Sign.mk.injEq, true_and]
    obtain ⟨⟨⟨⟨⟨a1, a2⟩, -⟩, a3⟩, a4⟩, a5⟩ := h3
    exact ⟨a3.symm, a1.symm, h2.symm, h1.symm, a2.symm, a4.symm, a5.symm, trivial⟩
/-! the maker makes the file again -/
theorem kind_ne {f : File} {bill : Int} {b : Body} (hb : b ∈ bodiesP f bill) {k : Key} (e : report_about b = k) : (k.kind = 0 ∧ b = bBill f bill) ∨ (k.kind = 1 ∧ ∃ i, i + 1 < f.signs.length ∧ b = bSign f bill (i + 1) ∧ k.index = ((i + 1 : Nat) : Int)) ∨ (k.kind = 3 ∧ ∃ i, i < f.alters.length ∧ b = bAlt f bill i ∧ k.index = ((i : Nat) : Int)) ∨ (k.kind = 2 ∧ ∃ i, i < f.acts.length ∧ b = bAct f bill i ∧ k.index = ((i : Nat) : Int)) ∨ (k.kind = 4 ∧ ∃ x, x ∈ f.facts ∧ b = bFact bill x ∧ k.at_ = x.at_ ∧ k.fact = x.kind) := by
  rcases mem_bodies.1 hb with rfl | ⟨i, hi, rfl⟩ | ⟨i, hi, rfl⟩ | ⟨i, hi, rfl⟩ | ⟨x, hx, rfl⟩
  · exact .inl ⟨by rw [← e]; rfl, rfl⟩
  · exact .inr (.inl ⟨by rw [← e]; rfl, i, hi, rfl, by rw [← e]; rfl⟩)
  · exact .inr (.inr (.inl ⟨by rw [← e]; rfl, i, hi, rfl, by rw [← e]; rfl⟩))
  · exact .inr (.inr (.inr (.inl ⟨by rw [← e]; rfl, i, hi, rfl, by rw [← e]; rfl⟩)))
  · exact .inr (.inr (.inr (.inr ⟨by rw [← e]; rfl, x, hx, rfl, by rw [← e]; rfl, by rw [← e]; rfl⟩)))
theorem take_more {α : Type} [Inhabited α] {l : List α} {n : Nat} (h : n < l.length) : l.take n ++ [l.getD n default] = l.take (n + 1) := (take_succ_gd h).symm
theorem take_all2 {α : Type} {l : List α} {n : Nat} (h : l.length ≤ n) : l.take (n + 1) = l.take n := by rw [List.take_of_length_le h, List.take_of_length_le (by omega)]
section
variable {r : Realm} {A : List (Key × Body)} {f : File} {bill : Int}
theorem FOK.nil (n : Nat) : FOK n [] := ⟨fun x hx => (by cases hx), List.Pairwise.nil⟩
theorem w_signs (h : paper_Check r f = 0) (hA : WholeA A f bill) : ∀ (k j fuel : Nat) (m : Maker), j + 1 + k = f.signs.length → k < fuel → WM r A (preF f (j + 1) 0 0 []) m → ∃ m', iter sgnR default fuel (((j + 1 : Nat) : Int), m) = .inr m' ∧ WM r A (preF f f.signs.length 0 0 []) m'
  | 0, j, fuel, m, hj, hf, hm => by
    obtain ⟨fuel, rfl⟩ : ∃ q, fuel = q + 1 := ⟨fuel - 1, by omega⟩
    have h1 := hm.miss hA (k := kS ((j + 1 : Nat) : Int)) (fun b hb e => by
      rcases kind_ne hb e with ⟨h, -⟩ | ⟨-, i, hi, -, h⟩ | ⟨h, -⟩ | ⟨h, -⟩ | ⟨h, -⟩
      · exact absurd h (by simp)
      · have h : ((j + 1 : Nat) : Int) = ((i + 1 : Nat) : Int) := h
        omega
      · exact absurd h (by simp)
      · exact absurd h (by simp)
      · exact absurd h (by simp))
    refine ⟨m, ?_, by rw [show f.signs.length = j + 1 by omega]; exact hm⟩
    unfold iter sgnR
    simp only
    rw [h1]
    rfl
  | k + 1, j, fuel, m, hj, hf, hm => by
    obtain ⟨fuel, rfl⟩ : ∃ q, fuel = q + 1 := ⟨fuel - 1, by omega⟩
    have hl := ((Check_iff r f).1 h).1
    obtain ⟨h1, h2⟩ := hm.hit hA (b := bSign f bill (j + 1)) (mem_bodies.2 (.inr (.inl ⟨j, by omega, rfl⟩))) (k := kS ((j + 1 : Nat) : Int)) rfl (g' := preF f (j + 1 + 1) 0 0 []) (by
      show ({ preF f (j + 1) 0 0 [] with signs := f.signs.take (j + 1) ++ [f.signs.getD (j + 1) default] } : File) = _
      rw [take_more (by omega)]
      rfl) (Check_pre h (by omega) (.inr ⟨rfl, rfl, rfl⟩) (FOK.nil _) (by simp))
    obtain ⟨m', h3, h4⟩ := w_signs h hA k (j + 1) fuel _ (by omega) (by omega) h2
    refine ⟨m', ?_, h4⟩
    unfold iter sgnR
    simp only
    rw [h1, cond_true]
    simp only
    rw [show w64 (((j + 1 : Nat) : Int) + 1) = ((j + 1 + 1 : Nat) : Int) by rw [w64_id (by omega) (by omega)]; omega]
    exact h3
theorem w_alts (h : paper_Check r f = 0) (hA : WholeA A f bill) {m : Maker} (hm : WM r A (preF f f.signs.length 0 0 []) m) : ∀ i, WM r A (preF f f.signs.length i 0 []) (altsP m i)
  | 0 => hm
  | i + 1 => by
    have ih := w_alts h hA hm i
    have e : altsP m (i + 1) = addF (altsP m i) (kA (i : Nat)) := foldl_range_succ _ _ _
    rw [e]
    have h0 := ((Check_iff r f).1 h).2.2.1
    by_cases hi : i < f.alters.length
    · exact (ih.hit hA (b := bAlt f bill i) (mem_bodies.2 (.inr (.inr (.inl ⟨i, hi, rfl⟩)))) rfl (g' := preF f f.signs.length (i + 1) 0 []) (by
        show ({ preF f f.signs.length i 0 [] with alters := f.alters.take i ++ [f.alters.getD i default] } : File) = _
        rw [take_more hi]
        rfl) (Check_pre h (by omega) (.inl (Nat.le_refl _)) (FOK.nil _) (by simp))).2
    · have h1 := ih.miss hA (k := kA (i : Nat)) (fun b hb e => by
        rcases kind_ne hb e with ⟨h, -⟩ | ⟨h, -⟩ | ⟨-, j, hj, -, h⟩ | ⟨h, -⟩ | ⟨h, -⟩
        · exact absurd h (by simp)
        · exact absurd h (by simp)
        · have h : ((i : Nat) : Int) = ((j : Nat) : Int) := h
          omega
        · exact absurd h (by simp)
        · exact absurd h (by simp))
      unfold addF
      rw [h1]
      have e2 : preF f f.signs.length (i + 1) 0 [] = preF f f.signs.length i 0 [] := by unfold preF; rw [take_all2 (by omega)]
      rw [e2]
      exact ih
theorem w_acts (h : paper_Check r f = 0) (hA : WholeA A f bill) {a : Nat} {m : Maker} (hm : WM r A (preF f f.signs.length a 0 []) m) : ∀ i, WM r A (preF f f.signs.length a i []) (actsP m i)
  | 0 => hm
  | i + 1 => by
    have ih := w_acts h hA hm i
    have e : actsP m (i + 1) = addF (actsP m i) (kC (i : Nat)) := foldl_range_succ _ _ _
    rw [e]
    have h0 := ((Check_iff r f).1 h).2.2.1
    by_cases hi : i < f.acts.length
    · exact (ih.hit hA (b := bAct f bill i) (mem_bodies.2 (.inr (.inr (.inr (.inl ⟨i, hi, rfl⟩))))) rfl (g' := preF f f.signs.length a (i + 1) []) (by
        show ({ preF f f.signs.length a i [] with acts := f.acts.take i ++ [f.acts.getD i default] } : File) = _
        rw [take_more hi]
        rfl) (Check_pre h (by omega) (.inl (Nat.le_refl _)) (FOK.nil _) (by simp))).2
    · have h1 := ih.miss hA (k := kC (i : Nat)) (fun b hb e => by
        rcases kind_ne hb e with ⟨h, -⟩ | ⟨h, -⟩ | ⟨h, -⟩ | ⟨-, j, hj, -, h⟩ | ⟨h, -⟩
        · exact absurd h (by simp)
        · exact absurd h (by simp)
        · exact absurd h (by simp)
        · have h : ((i : Nat) : Int) = ((j : Nat) : Int) := h
          omega
        · exact absurd h (by simp))
      unfold addF
      rw [h1]
      have e2 : preF f f.signs.length a (i + 1) [] = preF f f.signs.length a i [] := by unfold preF; rw [take_all2 (by omega)]
      rw [e2]
      exact ih
/-- the facts before a signature and a kind -/
def befF (a k : Int) (x : Fact) : Bool := decide (x.at_ < a ∨ (x.at_ = a ∧ x.kind < k))
theorem bef_hit {n : Nat} {L : List Fact} (h : FOK n L) {x : Fact} (hx : x ∈ L) : L.filter (befF x.at_ (x.kind + 1)) = L.filter (befF x.at_ x.kind) ++ [x] := by
  obtain ⟨p, q, rfl⟩ := List.append_of_mem hx
  obtain ⟨hp1, hp2, hp3⟩ := List.pairwise_append.1 h.2
  rw [List.pairwise_cons] at hp2
  have f1 : p.filter (befF x.at_ (x.kind + 1)) = p := List.filter_eq_self.2 fun y hy => by
    have := hp3 y hy x List.mem_cons_self
    unfold FLt at this
    exact decide_eq_true (by omega)
  have f2 : p.filter (befF x.at_ x.kind) = p := List.filter_eq_self.2 fun y hy => by
    have := hp3 y hy x List.mem_cons_self
    unfold FLt at this
    exact decide_eq_true (by omega)
  have f3 : q.filter (befF x.at_ (x.kind + 1)) = [] := List.filter_eq_nil_iff.2 fun y hy => by
    have := hp2.1 y hy
    unfold FLt at this
    unfold befF
    rw [decide_eq_true_eq]
    omega
  have f4 : q.filter (befF x.at_ x.kind) = [] := List.filter_eq_nil_iff.2 fun y hy => by
    have := hp2.1 y hy
    unfold FLt at this
    unfold befF
    rw [decide_eq_true_eq]
    omega
  rw [List.filter_append, List.filter_append, List.filter_cons, List.filter_cons, f1, f2, f3, f4, if_pos (by unfold befF; rw [decide_eq_true_eq]; omega), if_neg (by unfold befF; rw [decide_eq_true_eq]; omega)]
  simp
theorem bef_congr {L : List Fact} {a k a' k' : Int} (h : ∀ x, x ∈ L → (befF a k x = befF a' k' x)) : L.filter (befF a k) = L.filter (befF a' k') := List.filter_congr h
theorem w_kinds (h : paper_Check r f = 0) (hF : FOK f.signs.length f.facts) (hA : WholeA A f bill) {a c s : Nat} {m : Maker} (hm : WM r A (preF f f.signs.length a c (f.facts.filter (befF (s : Nat) 0))) m) : ∀ i : Nat, WM r A (preF f f.signs.length a c (f.facts.filter (befF (s : Nat) (i : Nat)))) (kindsP (s : Nat) m i)
  | 0 => hm
  | i + 1 => by
    have ih := w_kinds h hF hA hm i
    have e : kindsP (s : Nat) m (i + 1) = addF (kindsP (s : Nat) m i) (kF (s : Nat) (i : Nat)) := foldl_range_succ _ _ _
    rw [e]
    have hc := (Check_iff r f).1 h
    by_cases hx : ∃ x, x ∈ f.facts ∧ x.at_ = ((s : Nat) : Int) ∧ x.kind = ((i : Nat) : Int)
    · obtain ⟨x, hx, h1, h2⟩ := hx
      have hb := bef_hit hF hx
      rw [h1, h2] at hb
      rw [show ((i + 1 : Nat) : Int) = ((i : Nat) : Int) + 1 by omega, hb]
      refine (ih.hit hA (b := bFact bill x) (mem_bodies.2 (.inr (.inr (.inr (.inr ⟨x, hx, rfl⟩))))) (by rw [ab_fact, h1, h2]) (g' := preF f f.signs.length a c (f.facts.filter (befF (s : Nat) (i : Nat)) ++ [x])) rfl (Check_pre h (by have := hc.2.2.1; omega) (.inl (Nat.le_refl _)) ?_ ?_)).2
      · rw [← hb]
        exact ⟨fun y hy => hF.1 y (List.mem_filter.1 hy).1, hF.2.sublist (List.filter_sublist)⟩
      · rw [← hb]
        have := List.length_filter_le (befF (s : Nat) ((i : Nat) + 1)) f.facts
        have := hc.1
        omega
    · have h1 := ih.miss hA (k := kF (s : Nat) (i : Nat)) (fun b hb e => by
        rcases kind_ne hb e with ⟨h, -⟩ | ⟨h, -⟩ | ⟨h, -⟩ | ⟨h, -⟩ | ⟨-, x, hx', -, h1, h2⟩
        · exact absurd h (by simp)
        · exact absurd h (by simp)
        · exact absurd h (by simp)
        · exact absurd h (by simp)
        · exact hx ⟨x, hx', h1.symm, h2.symm⟩)
      unfold addF
      rw [h1]
      have e2 : f.facts.filter (befF (s : Nat) ((i + 1 : Nat) : Int)) = f.facts.filter (befF (s : Nat) (i : Nat)) := bef_congr fun y hy => by
        unfold befF
        rw [decide_eq_decide]
        constructor
        · rintro (h | ⟨h3, h4⟩)
          · exact .inl h
          · refine .inr ⟨h3, ?_⟩
            by_cases e : y.kind = ((i : Nat) : Int)
            · exact absurd ⟨y, hy, h3, e⟩ hx
            · omega
        · rintro (h | ⟨h3, h4⟩)
          · exact .inl h
          · exact .inr ⟨h3, by omega⟩
      rw [e2]
      exact ih
theorem w_facts (h : paper_Check r f = 0) (hF : FOK f.signs.length f.facts) (hA : WholeA A f bill) {a c : Nat} {m : Maker} (hm : WM r A (preF f f.signs.length a c []) m) : ∀ s : Nat, WM r A (preF f f.signs.length a c (f.facts.filter (befF (s : Nat) 0))) (factsP m s)
  | 0 => by
    have e : f.facts.filter (befF ((0 : Nat) : Int) 0) = [] := List.filter_eq_nil_iff.2 fun y hy => by
      have := (hF.1 y hy).2.1
      have := (hF.1 y hy).1
      unfold befF
      rw [decide_eq_true_eq]
      omega
    rw [e]
    exact hm
  | s + 1 => by
    have ih := w_facts h hF hA hm s
    have e : factsP m (s + 1) = kindsP (s : Nat) (factsP m s) 5 := foldl_range_succ _ _ _
    rw [e]
    have h1 := w_kinds h hF hA ih 5
    have e2 : f.facts.filter (befF ((s + 1 : Nat) : Int) 0) = f.facts.filter (befF (s : Nat) ((5 : Nat) : Int)) := bef_congr fun y hy => by
      have h2 := (hF.1 y hy).1
      unfold befF
      rw [decide_eq_decide]
      omega
    rw [e2]
    exact h1
theorem w_tail (h : paper_Check r f = 0) (hF : FOK f.signs.length f.facts) (hA : WholeA A f bill) {m : Maker} (hm : WM r A (preF f f.signs.length 0 0 []) m) : WM r A f (tailP m) := by
  have hc := (Check_iff r f).1 h
  have h1 := w_acts h hA (w_alts h hA hm 4) 100
  have e : (actsP (altsP m 4) 100).file.signs.length = f.signs.length := by rw [h1.2.2.1]; show (f.signs.take f.signs.length).length = _; simp
  have h2 := w_facts h hF hA h1 f.signs.length
  unfold tailP
  rw [e]
  have e2 : f.facts.filter (befF ((f.signs.length : Nat) : Int) 0) = f.facts := List.filter_eq_self.2 fun y hy => by
    have := (hF.1 y hy).2.1
    exact decide_eq_true (by omega)
  have e3 : preF f f.signs.length 4 100 f.facts = f := by
    unfold preF
    rw [List.take_of_length_le (Nat.le_refl _), List.take_of_length_le hc.1.2.1, List.take_of_length_le hc.1.2.2.1]
  rw [e2, e3] at h2
  exact h2
end
/-! the file is made again -/
theorem take_one {f : File} (h : 0 < f.signs.length) : f.signs.take 1 = [f.signs.getD 0 default] := by
  have := take_succ_gd (l := f.signs) (n := 0) h
  simpa using this
theorem next_bill {r : Realm} {f : File} (bill : Int) (h : paper_Check r f = 0) : nextP { bill := { drawer := 0, drawee := 0, payee := 0, sum := 0, currency := 0, tenor := { kind := 0, n := 0, unit := 0 }, day := 0, city := 0, pay := 0, need := 0, rate := 0, flags := 0, parts := 0 }, signs := [], alters := [], acts := [], facts := [] } kB (bBill f bill) = preF f 1 0 0 [] := by
  show ({ bill := f.bill, signs := [drawP (bBill f bill)], alters := [], acts := [], facts := [] } : File) = _
  rw [draw_eq bill h]
  unfold preF
  rw [take_one (Nat.pos_of_ne_zero ((Check_iff r f).1 h).2.2.1)]
  rfl
theorem w_bill {r : Realm} {A : List (Key × Body)} {f : File} {bill : Int} (h : paper_Check r f = 0) (hA : WholeA A f bill) : (report_maker_add (mk0 r A) kB).1 = true ∧ WM r A (preF f 1 0 0 []) (report_maker_add (mk0 r A) kB).2 := by
  have hc := (Check_iff r f).1 h
  have h0 : WM r A { bill := { drawer := 0, drawee := 0, payee := 0, sum := 0, currency := 0, tenor := { kind := 0, n := 0, unit := 0 }, day := 0, city := 0, pay := 0, need := 0, rate := 0, flags := 0, parts := 0 }, signs := [], alters := [], acts := [], facts := [] } (mk0 r A) := ⟨rfl, rfl, rfl, .inr rfl⟩
  have hn : paper_Check r (preF f 1 0 0 []) = 0 := Check_pre h (by omega) (.inr ⟨rfl, rfl, rfl⟩) (FOK.nil _) (by simp)
  exact h0.hit hA (mem_bodies.2 (.inl rfl)) rfl (next_bill bill h) hn
theorem w_end {r : Realm} {A : List (Key × Body)} {f : File} {m : Maker} (h : 0 < f.signs.length) (h5 : WM r A f m) : m.file = f ∧ m.used.length ≠ 0 := by
  refine ⟨h5.2.2.1, ?_⟩
  rcases h5.2.2.2 with h6 | h6
  · exact h6
  · rw [h6] at h
    exact absurd h (Nat.lt_irrefl _)
theorem w_loop {r : Realm} {A : List (Key × Body)} {f : File} {bill : Int} (h : paper_Check r f = 0) (hA : WholeA A f bill) {m : Maker} (h2 : WM r A (preF f 1 0 0 []) m) : ∃ m', iter sgnR default (40 - m.file.signs.length + 1) (1, m) = .inr m' ∧ WM r A (preF f f.signs.length 0 0 []) m' := by
  have hc := (Check_iff r f).1 h
  have e : m.file.signs.length = 1 := by
    rw [h2.2.2.1]
    show (f.signs.take 1).length = 1
    rw [List.length_take]
    have := hc.2.2.1
    omega
  generalize hq : 40 - m.file.signs.length + 1 = q
  have h3 := w_signs h hA (f.signs.length - 1) 0 q m (by have := hc.2.2.1; omega) (by have := hc.1; omega) h2
  exact h3
noncomputable def bldP (x : Bool × Maker) : Maker := bif !x.1 then x.2 else pickS (iter sgnR default (40 - x.2.file.signs.length + 1) (1, x.2)) tailP
theorem build_bld (r : Realm) (l : List Arrival) (bill day : Int) : report_build r l bill day = bldP (report_maker_add (mk0 r (report_stated l bill day)) kB) := build_eq r l bill day
theorem bldP_true {m m' : Maker} (h : iter sgnR default (40 - m.file.signs.length + 1) (1, m) = .inr m') : bldP (true, m) = tailP m' := by
  unfold bldP
  simp only [h, Bool.not_true, cond_false, pickS]
theorem bldP_whole {r : Realm} {A : List (Key × Body)} {f : File} {bill : Int} (h : paper_Check r f = 0) (hF : FOK f.signs.length f.facts) (hA : WholeA A f bill) (x : Bool × Maker) (h1 : x.1 = true) (h2 : WM r A (preF f 1 0 0 []) x.2) : (bldP x).file = f ∧ (bldP x).used.length ≠ 0 := by
  obtain ⟨x1, m⟩ := x
  subst h1
  obtain ⟨m', h3, h4⟩ := w_loop h hA h2
  rw [bldP_true h3]
  exact w_end (Nat.pos_of_ne_zero ((Check_iff r f).1 h).2.2.1) (w_tail h hF hA h4)
theorem build_whole {r : Realm} {f : File} {bill : Int} {l : List Arrival} {day : Int} (h : paper_Check r f = 0) (hF : FOK f.signs.length f.facts) (hA : WholeA (report_stated l bill day) f bill) : (report_build r l bill day).file = f ∧ (report_build r l bill day).used.length ≠ 0 := by
  rw [build_bld]
  obtain ⟨h1, h2⟩ := w_bill h hA
  exact bldP_whole h hF hA _ h1 h2
theorem okI_of {n : Int} (h : in64w n) : okI (dI n) = true := decide_eq_true h
theorem list_getD {l : List Int} {n : Nat} (h : l.length = n) : (List.range n).map (fun i => l.getD i default) = l := by
  subst h
  refine List.ext_getElem (by simp) (fun i h1 h2 => by simp [List.getD, h2])
/-- a body from its numbers -/
theorem body_eq (k bi ix : Int) (l : List Int) : report_body k bi ix l = bif ((decide (k < 0)) || (decide (k ≥ 5))) || (((l.length : Nat) : Int) != (((report_numbers { (default : Body) with kind := k, bill := bi, index := ix }).length : Nat) : Int)) then (default, false) else
    bif k == 0 then ({ (default : Body) with kind := k, bill := bi, index := ix, paper := ⟨l.getD 0 default, l.getD 1 default, l.getD 2 default, l.getD 3 default, l.getD 4 default, ⟨l.getD 5 default, l.getD 6 default, l.getD 7 default⟩, l.getD 8 default, l.getD 9 default, l.getD 10 default, l.getD 11 default, l.getD 12 default, l.getD 13 default, l.getD 14 default⟩, sign := { (default : Sign) with flags := l.getD 15 default } }, true)
    else bif k == 1 then ({ (default : Body) with kind := k, bill := bi, index := ix, sign := ⟨l.getD 0 default, l.getD 1 default, l.getD 2 default, l.getD 3 default, l.getD 4 default, l.getD 5 default, l.getD 6 default, l.getD 7 default, l.getD 8 default⟩ }, true)
    else bif k == 2 then ({ (default : Body) with kind := k, bill := bi, index := ix, act := ⟨l.getD 0 default, l.getD 1 default, l.getD 2 default, l.getD 3 default, l.getD 4 default, l.getD 5 default, l.getD 6 default, l.getD 7 default, l.getD 8 default⟩ }, true)
    else bif k == 3 then ({ (default : Body) with kind := k, bill := bi, index := ix, alter := ⟨l.getD 0 default, l.getD 1 default⟩ }, true)
    else ({ (default : Body) with kind := k, bill := bi, index := ix, fact := ⟨l.getD 0 default, l.getD 1 default, l.getD 2 default⟩ }, true) := rfl
def numN (k : Int) : Nat := bif k == 0 then 16 else bif k == 1 then 9 else bif k == 2 then 9 else bif k == 3 then 2 else 3
theorem numL_n (b : Body) : (numL b).length = numN b.kind := by
  unfold numL numN
  cases b.kind == 0 <;> cases b.kind == 1 <;> cases b.kind == 2 <;> cases b.kind == 3 <;> rfl
theorem body_two {k bi ix : Int} {l : List Int} : (report_body k bi ix l).2 = true ↔ (0 ≤ k ∧ k < 5) ∧ l.length = numN k := by
  have hn := report_numbers_post { (default : Body) with kind := k, bill := bi, index := ix }
  dsimp only at hn
  have hl := numL_n { (default : Body) with kind := k, bill := bi, index := ix }
  rw [body_eq, hn, hl]
  cases hc : (((decide (k < 0)) || (decide (k ≥ 5))) || (((l.length : Nat) : Int) != ((numN k : Nat) : Int))) with
  | true =>
    simp only [cond_true, Bool.false_eq_true, false_iff]
    simp only [Bool.or_eq_true, decide_eq_true_eq, bne_iff_ne, ne_eq] at hc
    omega
  | false =>
    simp only [Bool.or_eq_false_iff, decide_eq_false_iff_not, bne_eq_false_iff_eq] at hc
    have : (0 ≤ k ∧ k < 5) ∧ l.length = numN k := by omega
    simp only [this, and_self, iff_true, cond_false]
    cases k == 0 <;> cases k == 1 <;> cases k == 2 <;> cases k == 3 <;> rfl
theorem body_one {k bi ix : Int} {l : List Int} (h : (report_body k bi ix l).2 = true) : (report_body k bi ix l).1.kind = k ∧ (report_body k bi ix l).1.bill = bi ∧ (report_body k bi ix l).1.index = ix ∧ numL (report_body k bi ix l).1 = l ∧ ((∀ n ∈ l, in64w n) → in64w k → in64w bi → in64w ix → (report_body k bi ix l).1.I64) := by
  obtain ⟨hk, hl⟩ := body_two.1 h
  have hn := report_numbers_post { (default : Body) with kind := k, bill := bi, index := ix }
  dsimp only at hn
  have hl2 := numL_n { (default : Body) with kind := k, bill := bi, index := ix }
  have hc : (((decide (k < 0)) || (decide (k ≥ 5))) || (((l.length : Nat) : Int) != ((numN k : Nat) : Int))) = false := by
    simp only [Bool.or_eq_false_iff, decide_eq_false_iff_not, bne_eq_false_iff_eq]
    omega
  rw [body_eq, hn, hl2, hc]
  have hg : (∀ n ∈ l, in64w n) → ∀ j, okI (dI (l.getD j default)) = true := fun hi j => by
    rw [okI_dI, decide_eq_true_eq]
    by_cases hj : j < l.length
    · exact hi _ (lget_mem hj default)
    · have : l.getD j default = 0 := by simp [List.getD, hj]
      rw [this]
      decide
  have h0 : okI (dI 0) = true := by decide
  have hd : okI (dI default) = true := by decide
  unfold numN at hl
  cases h0k : k == 0 with
  | true =>
    rw [h0k] at hl
    refine ⟨rfl, rfl, rfl, ?_, fun hi hk hb hx => ?_⟩
    · have := list_getD (l := l) (n := 16) hl
      show numL _ = l
      unfold numL
      simp only [cond_false, cond_true, h0k]
      exact this
    · simp only [cond_false, cond_true, Body.I64, Body.cells, Bill.cells, Tenor.cells, Sign.cells, ActX.cells, Alter.cells, Fact.cells, List.all_append, List.all_cons, List.all_nil, hg hi, okI_of hk, okI_of hb, okI_of hx, Bool.and_true, Bool.true_and]
      rfl
  | false =>
    cases h1k : k == 1 with
    | true =>
      rw [h0k, h1k] at hl
      refine ⟨rfl, rfl, rfl, ?_, fun hi hk hb hx => ?_⟩
      · have := list_getD (l := l) (n := 9) hl
        show numL _ = l
        unfold numL
        simp only [cond_false, cond_true, h0k, h1k]
        exact this
      · simp only [cond_false, cond_true, Body.I64, Body.cells, Bill.cells, Tenor.cells, Sign.cells, ActX.cells, Alter.cells, Fact.cells, List.all_append, List.all_cons, List.all_nil, hg hi, okI_of hk, okI_of hb, okI_of hx, Bool.and_true, Bool.true_and]
        rfl
    | false =>
      cases h2k : k == 2 with
      | true =>
        rw [h0k, h1k, h2k] at hl
        refine ⟨rfl, rfl, rfl, ?_, fun hi hk hb hx => ?_⟩
        · have := list_getD (l := l) (n := 9) hl
          show numL _ = l
          unfold numL
          simp only [cond_false, cond_true, h0k, h1k, h2k]
          exact this
        · simp only [cond_false, cond_true, Body.I64, Body.cells, Bill.cells, Tenor.cells, Sign.cells, ActX.cells, Alter.cells, Fact.cells, List.all_append, List.all_cons, List.all_nil, hg hi, okI_of hk, okI_of hb, okI_of hx, Bool.and_true, Bool.true_and]
          rfl
      | false =>
        cases h3k : k == 3 with
        | true =>
          rw [h0k, h1k, h2k, h3k] at hl
          refine ⟨rfl, rfl, rfl, ?_, fun hi hk hb hx => ?_⟩
          · have := list_getD (l := l) (n := 2) hl
            show numL _ = l
            unfold numL
            simp only [cond_false, cond_true, h0k, h1k, h2k, h3k]
            exact this
          · simp only [cond_false, cond_true, Body.I64, Body.cells, Bill.cells, Tenor.cells, Sign.cells, ActX.cells, Alter.cells, Fact.cells, List.all_append, List.all_cons, List.all_nil, hg hi, okI_of hk, okI_of hb, okI_of hx, Bool.and_true, Bool.true_and]
            rfl
        | false =>
          rw [h0k, h1k, h2k, h3k] at hl
          refine ⟨rfl, rfl, rfl, ?_, fun hi hk hb hx => ?_⟩
          · have := list_getD (l := l) (n := 3) hl
            show numL _ = l
            unfold numL
            simp only [cond_false, h0k, h1k, h2k, h3k]
            exact this
          · simp only [cond_false, Body.I64, Body.cells, Bill.cells, Tenor.cells, Sign.cells, ActX.cells, Alter.cells, Fact.cells, List.all_append, List.all_cons, List.all_nil, hg hi, okI_of hk, okI_of hb, okI_of hx, Bool.and_true, Bool.true_and]
            rfl
noncomputable abbrev zeroR : Report := default
theorem read_eq (s : ByteArray) : report_Read s = bif (((!(wire_ReadInts s).2.2) || (!((wire_ReadInts s).2.1.toList == (⟨#[]⟩ : ByteArray).toList))) || (decide ((((wire_ReadInts s).1.length : Nat) : Int) < 6))) then (zeroR, false) else
    bif (!(report_body ((wire_ReadInts s).1.getD 3 default) ((wire_ReadInts s).1.getD 4 default) ((wire_ReadInts s).1.getD 5 default) (subL (wire_ReadInts s).1 6 ((wire_ReadInts s).1.length - 6))).2) || (!(report_Right ({ reporter := (wire_ReadInts s).1.getD 0 default, no := (wire_ReadInts s).1.getD 1 default, day := (wire_ReadInts s).1.getD 2 default, body := (report_body ((wire_ReadInts s).1.getD 3 default) ((wire_ReadInts s).1.getD 4 default) ((wire_ReadInts s).1.getD 5 default) (subL (wire_ReadInts s).1 6 ((wire_ReadInts s).1.length - 6))).1 } : Report))) then (zeroR, false) else
    (({ reporter := (wire_ReadInts s).1.getD 0 default, no := (wire_ReadInts s).1.getD 1 default, day := (wire_ReadInts s).1.getD 2 default, body := (report_body ((wire_ReadInts s).1.getD 3 default) ((wire_ReadInts s).1.getD 4 default) ((wire_ReadInts s).1.getD 5 default) (subL (wire_ReadInts s).1 6 ((wire_ReadInts s).1.length - 6))).1 } : Report), true) := by
  unfold report_Read report_Read_sk
  simp only [Sk.val_br, Sk.val_r]
  rfl
theorem sub6 {l : List Int} (h : 6 ≤ l.length) : l = [l.getD 0 default, l.getD 1 default, l.getD 2 default, l.getD 3 default, l.getD 4 default, l.getD 5 default] ++ subL l 6 (l.length - 6) := by
  refine List.ext_getElem (by simp [subL]; omega) (fun i h1 h2 => ?_)
  by_cases c : i < 6
  · have : i = 0 ∨ i = 1 ∨ i = 2 ∨ i = 3 ∨ i = 4 ∨ i = 5 := by omega
    rcases this with rfl | rfl | rfl | rfl | rfl | rfl <;> simp [List.getD, h1]
  · rw [List.getElem_append_right (by simp; omega)]
    simp [subL, List.getD]
    rw [List.getElem?_eq_getElem (by omega)]
    simp
    congr 1
    omega
theorem subL_6 (a b c d e f : Int) (r : List Int) : subL ([a, b, c, d, e, f] ++ r) 6 (([a, b, c, d, e, f] ++ r).length - 6) = r := by
  refine List.ext_getElem (by simp [subL]) (fun i h1 h2 => ?_)
  simp only [subL, List.getElem_map, List.getElem_range]
  rw [Nat.add_comm 6 i]
  simp [List.getD, h2]
theorem right_kind {x : Report} (h : report_Right x = true) : 0 ≤ x.body.kind ∧ x.body.kind < 5 := by
  have e : report_Right x = bif (((((!report_within x.reporter 200) || (!report_within x.no 10000)) || (!report_within x.day 100001)) || (!report_within x.body.kind 5)) || (!report_within x.body.bill 50)) then false else bif !(eqCs (Body.cells (report_body x.body.kind x.body.bill x.body.index (report_numbers x.body)).1) (Body.cells x.body)) then false else (bif x.body.kind == 0 then (x.body.index == 0) && (x.body.paper.day == x.day) else bif x.body.kind == 1 then ((decide (x.body.index > 0)) && (decide (x.body.index < 40))) && (x.body.sign.day == x.day) else bif x.body.kind == 2 then report_within x.body.index 100 && (x.body.act.day == x.day) else bif x.body.kind == 3 then report_within x.body.index 4 else x.body.index == 0) := rfl
  cases hw : report_within x.body.kind 5 with
  | false => rw [e, hw] at h; simp at h
  | true =>
    rw [report_within_eq] at hw
    simp only [Bool.and_eq_true, decide_eq_true_eq] at hw
    omega
theorem rep6 (x : Report) : 6 ≤ (repL x).length ∧ (repL x).getD 0 default = x.reporter ∧ (repL x).getD 1 default = x.no ∧ (repL x).getD 2 default = x.day ∧ (repL x).getD 3 default = x.body.kind ∧ (repL x).getD 4 default = x.body.bill ∧ (repL x).getD 5 default = x.body.index ∧ subL (repL x) 6 ((repL x).length - 6) = numL x.body :=
  ⟨by simp [repL], rfl, rfl, rfl, rfl, rfl, rfl, subL_6 _ _ _ _ _ _ _⟩
theorem text_size {x : Report} (h : x.I64) : (report_Text x).size ≤ 1000 := by
  cases hr : report_Right x with
  | false => rw [text_wrong hr]; exact Nat.zero_le _
  | true =>
    rw [text_right hr]
    have h1 := repL_I64 h
    have h2 := repL_len x
    have hf : ∀ (m : List Int), (∀ n ∈ m, in64w n) → (m.flatMap intL).length ≤ m.length * 21 := by
      intro m
      induction m with
      | nil => intro _; simp
      | cons a r ih =>
        intro h
        have h1 := intL_len a (h a (by simp)).1 (h a (by simp)).2
        have h2 := ih (fun n hn => h n (by simp [hn]))
        simp only [List.flatMap_cons, List.length_append, List.length_cons]
        omega
    have h3 := hf _ h1
    have h4 := intL_len (repL x).length (by omega) (by omega)
    show (intsL (repL x)).toArray.size ≤ 1000
    simp only [intsL, List.size_toArray, List.length_append]
    omega
/-- the text of a right report is read as its numbers -/
theorem ints_text {x : Report} (hx : x.I64) (hr : report_Right x = true) : wire_ReadInts (report_Text x) = (repL x, ⟨#[]⟩, true) := by
  have hs := text_size hx
  have hp := wire_ReadInts_post (report_Text x) (by omega)
  have h2 := repL_len x
  exact RdP.eq hp (r := []) (by omega) (repL_I64 hx) (by rw [List.append_nil]; exact rpT_right hr)
/-- and as this report -/
theorem read_text {x : Report} (hx : x.I64) (hr : report_Right x = true) : report_Read (report_Text x) = (x, true) := by
  obtain ⟨a1, a2, a3, a4, a5, a6, a7, a8⟩ := rep6 x
  have hb2 : (report_body x.body.kind x.body.bill x.body.index (numL x.body)).2 = true := body_two.2 ⟨right_kind hr, numL_n _⟩
  have hb1 := right_body hr
  rw [read_eq, ints_text hx hr]
  dsimp only
  rw [a2, a3, a4, a5, a6, a7, a8, ← hb1, hb2]
  have e : (⟨x.reporter, x.no, x.day, x.body⟩ : Report) = x := rfl
  rw [e, hr]
  have hl : decide ((((repL x).length : Nat) : Int) < 6) = false := by rw [decide_eq_false_iff_not]; omega
  rw [hl]
  simp
/-- what is read is right, and its text is what was read -/
theorem read_back {s : ByteArray} (hs : s.size ≤ 1000000) {a : Report} (h : report_Read s = (a, true)) : report_Right a = true ∧ rpT a = s.data.toList ∧ a.I64 ∧ s.data.toList ≠ [] := by
  have hp := wire_ReadInts_post s hs
  rw [read_eq] at h
  cases hc : (((!(wire_ReadInts s).2.2) || (!((wire_ReadInts s).2.1.toList == (⟨#[]⟩ : ByteArray).toList))) || (decide ((((wire_ReadInts s).1.length : Nat) : Int) < 6))) with
  | true => rw [hc] at h; simp at h
  | false =>
    rw [hc] at h
    simp only [Bool.or_eq_false_iff, Bool.not_eq_false', decide_eq_false_iff_not] at hc
    obtain ⟨⟨c1, c2⟩, c3⟩ := hc
    obtain ⟨q1, q2, q3⟩ := hp.1 c1
    have c2 : (wire_ReadInts s).2.1.data.toList = [] := by
      have := (beq_iff_eq.1 c2)
      simpa [ByteArray.toList_eq] using this
    generalize (wire_ReadInts s).1 = l at *
    have hl6 : 6 ≤ l.length := by omega
    have hl := sub6 hl6
    have hsub : ∀ n ∈ subL l 6 (l.length - 6), in64w n := fun n hn => q3 n (by rw [hl]; exact List.mem_append_right _ hn)
    generalize subL l 6 (l.length - 6) = r at *
    simp only [cond_false] at h
    cases hb : (report_body (l.getD 3 default) (l.getD 4 default) (l.getD 5 default) r).2 with
    | false => rw [hb] at h; simp at h
    | true =>
      rw [hb] at h
      cases hr : report_Right ({ reporter := l.getD 0 default, no := l.getD 1 default, day := l.getD 2 default, body := (report_body (l.getD 3 default) (l.getD 4 default) (l.getD 5 default) r).1 } : Report) with
      | false => rw [hr] at h; simp at h
      | true =>
        rw [hr] at h
        simp only [Bool.not_true, Bool.or_self, cond_false, Prod.mk.injEq, and_true] at h
        subst h
        obtain ⟨b1, b2, b3, b4, b5⟩ := body_one hb
        have hg : ∀ j, j < 6 → in64w (l.getD j default) := fun j hj => q3 _ (lget_mem (by omega) default)
        have hrep : repL ({ reporter := l.getD 0 default, no := l.getD 1 default, day := l.getD 2 default, body := (report_body (l.getD 3 default) (l.getD 4 default) (l.getD 5 default) r).1 } : Report) = l := by
          unfold repL
          dsimp only
          rw [b1, b2, b3, b4]
          exact hl.symm
        refine ⟨hr, ?_, ?_, ?_⟩
        · rw [rpT_right hr, hrep, q1, c2, List.append_nil]
        · have hbI := b5 hsub (hg 3 (by omega)) (hg 4 (by omega)) (hg 5 (by omega))
          unfold Report.I64 Report.cells
          rw [List.all_append, Bool.and_eq_true]
          refine ⟨?_, hbI⟩
          simp only [List.all_cons, List.all_nil, okI_of (hg 0 (by omega)), okI_of (hg 1 (by omega)), okI_of (hg 2 (by omega)), Bool.and_true]
        · rw [q1]
          intro e
          have := congrArg List.length e
          have h2 := intL_two l.length
          simp only [intsL, List.length_append, List.length_nil] at this
          omega
theorem sortRp_nil : sortRp [] = [] := by
  have := sortRp_perm (l := []) (fun s hs => by cases hs)
  exact List.perm_nil.1 this
theorem sortRp_one {x : Report} (h : x.I64) : sortRp [x] = [x] := by
  have := sortRp_perm (l := [x]) (fun s hs => by rw [List.mem_singleton.1 hs]; exact h)
  exact List.perm_singleton.1 this
theorem lied_no {L : List Report} {r : Int} (h : ∀ c, cnt L r c ≤ 1) : lied L r = false := by
  unfold lied
  exact @decide_eq_false _ (Classical.propDecidable _) (fun ⟨c, hc⟩ => by have := h c; omega)
theorem lied_yes {L : List Report} {r c : Int} (h : 2 ≤ cnt L r c) : lied L r = true := by
  unfold lied
  exact @decide_eq_true _ (Classical.propDecidable _) ⟨c, h⟩
theorem cnt_cons (x : Report) (L : List Report) (a c : Int) : cnt (x :: L) a c = cnt L a c + bif x.reporter == a && x.no == c then 1 else 0 := by
  unfold cnt
  rw [List.countP_cons]
  cases (x.reporter == a && x.no == c) <;> rfl
theorem sane_known9 : report_Known sL 9 = [allongelaw50_fact 0 1 1] := by
  rw [report_Known_of (by decide) sL_I64]
  unfold knownL
  have e : agreedL sL 9 = [allongelaw50_fact 0 1 1] := rfl
  rw [e]
  have h : lied [allongelaw50_fact 0 1 1] (allongelaw50_fact 0 1 1).reporter = false := lied_no fun c => by
    rw [cnt_cons]
    show 0 + _ ≤ 1
    cases ((allongelaw50_fact 0 1 1).reporter == (allongelaw50_fact 0 1 1).reporter && (allongelaw50_fact 0 1 1).no == c) <;> decide
  simp only [List.filter_cons, h, Bool.not_false, if_true, List.filter_nil]
  exact sortRp_one (fact_I64' _ _ _ rfl)
theorem sane_known10 : (report_Known sL 10).length = 2 := by
  rw [report_Known_of (by decide) sL_I64]
  unfold knownL
  have e : agreedL sL 10 = [allongelaw50_fact 0 1 1, allongelaw50_fact 2 1 1] := rfl
  rw [e]
  have h : ∀ r, lied [allongelaw50_fact 0 1 1, allongelaw50_fact 2 1 1] r = false := fun r => lied_no fun c => by
    rw [cnt_cons, cnt_cons]
    show 0 + (bif ((2 : Int) == r) && ((1 : Int) == c) then 1 else 0) + (bif ((0 : Int) == r) && ((1 : Int) == c) then 1 else 0) ≤ 1
    by_cases h0 : (0 : Int) = r
    · have h2 : ((2 : Int) == r) = false := by rw [← h0]; rfl
      rw [h2]
      cases (((0 : Int) == r) && ((1 : Int) == c)) <;> simp
    · have h2 : ((0 : Int) == r) = false := by simpa using h0
      rw [h2]
      cases (((2 : Int) == r) && ((1 : Int) == c)) <;> simp
  simp only [List.filter_cons, h, Bool.not_false, if_true, List.filter_nil]
  have hI : ∀ s, s ∈ [allongelaw50_fact 0 1 1, allongelaw50_fact 2 1 1] → s.I64 := fun s hs => by
    simp only [List.mem_cons, List.not_mem_nil, or_false] at hs
    rcases hs with rfl | rfl <;> exact fact_I64' _ _ _ rfl
  exact (sortRp_perm hI).length_eq
theorem sane_known8 : (report_Known sL 8).length = 0 := by
  rw [report_Known_of (by decide) sL_I64]
  unfold knownL
  have e : agreedL sL 8 = [] := rfl
  rw [e]
  show (sortRp []).length = 0
  rw [sortRp_nil]
  rfl
theorem sane_knownT : (report_Known sT 9).length = 0 := by
  rw [report_Known_of (by decide) sT_I64]
  unfold knownL
  have e : agreedL sT 9 = [allongelaw50_fact 0 1 1, allongelaw50_fact 0 1 0] := rfl
  rw [e]
  have h : lied [allongelaw50_fact 0 1 1, allongelaw50_fact 0 1 0] 0 = true := lied_yes (c := 1) (by decide)
  have h1 : lied [allongelaw50_fact 0 1 1, allongelaw50_fact 0 1 0] (allongelaw50_fact 0 1 1).reporter = true := h
  have h2 : lied [allongelaw50_fact 0 1 1, allongelaw50_fact 0 1 0] (allongelaw50_fact 0 1 0).reporter = true := h
  simp only [List.filter_cons, h1, h2, Bool.not_true, Bool.false_eq_true, if_false, List.filter_nil]
  rw [sortRp_nil]
  rfl
theorem sane_liarsT : report_Liars sT 9 = [0] := by
  have e : agreedL sT 9 = [allongelaw50_fact 0 1 1, allongelaw50_fact 0 1 0] := rfl
  have hq : liarQ (agreedL sT 9) [(0, true)] := by
    rw [e]
    refine ⟨by simp, by simp, fun r => ?_⟩
    constructor
    · intro hr
      simp at hr
      subst hr
      exact ⟨1, by decide⟩
    · rintro ⟨c, hc⟩
      rw [cnt_cons, cnt_cons] at hc
      have hc : 2 ≤ 0 + (bif ((0 : Int) == r) && ((1 : Int) == c) then 1 else 0) + (bif ((0 : Int) == r) && ((1 : Int) == c) then 1 else 0) := hc
      cases h0 : ((0 : Int) == r) with
      | true => simp at h0; simp [h0]
      | false => rw [h0] at hc; simp at hc
  rw [report_Liars_of (by decide) hq]
  simp [sortI]
theorem sane_liarsL : report_Liars sL 9 = [] := by
  have e : agreedL sL 9 = [allongelaw50_fact 0 1 1] := rfl
  have hq : liarQ (agreedL sL 9) [] := by
    rw [e]
    refine ⟨by simp, by simp, fun r => ?_⟩
    constructor
    · intro hr
      cases hr
    · rintro ⟨c, hc⟩
      rw [cnt_cons] at hc
      have hc : 2 ≤ 0 + (bif ((0 : Int) == r) && ((1 : Int) == c) then 1 else 0) := hc
      cases h0 : (((0 : Int) == r) && ((1 : Int) == c)) <;> rw [h0] at hc <;> simp at hc
  rw [report_Liars_of (by decide) hq]
  simp [sortI]
theorem sane_read : report_Read (report_Text (allongelaw50_fact 0 1 1)) = (allongelaw50_fact 0 1 1, true) := read_text (fact_I64' _ _ _ rfl) rfl
theorem sane_bad : (report_Read (report_Text (allongelaw50_fact 0 1 1) ++ (⟨#[48, 59]⟩ : ByteArray))).2 = false := by
  have hA : (allongelaw50_fact 0 1 1).I64 := fact_I64' _ _ _ rfl
  have hr : report_Right (allongelaw50_fact 0 1 1) = true := rfl
  cases h : (report_Read (report_Text (allongelaw50_fact 0 1 1) ++ (⟨#[48, 59]⟩ : ByteArray))).2 with
  | false => rfl
  | true =>
    have hs : (report_Text (allongelaw50_fact 0 1 1) ++ (⟨#[48, 59]⟩ : ByteArray)).size ≤ 1000000 := by rw [fact_text]; exact (by decide : (22 : Nat) ≤ 1000000)
    obtain ⟨h1, h2, h3, -⟩ := read_back hs (a := (report_Read (report_Text (allongelaw50_fact 0 1 1) ++ (⟨#[48, 59]⟩ : ByteArray))).1) (by rw [← h])
    generalize (report_Read (report_Text (allongelaw50_fact 0 1 1) ++ (⟨#[48, 59]⟩ : ByteArray))).1 = a at *
    have e : (report_Text (allongelaw50_fact 0 1 1) ++ (⟨#[48, 59]⟩ : ByteArray)).data.toList = rpT (allongelaw50_fact 0 1 1) ++ [48, 59] := by simp [rpT]
    rw [e, rpT_right h1, rpT_right hr] at h2
    have l1 := repL_len a
    have l2 := repL_len (allongelaw50_fact 0 1 1)
    have := (intsL_inj (t := []) (u := [48, 59]) (by omega) (by omega) (repL_I64 h3) (repL_I64 hA) (by rw [List.append_nil]; exact h2)).2
    cases this
theorem sane_true : allongelaw50_sane = true := by
  have e : allongelaw50_sane = (((((((((((allongeref50_SameReports (report_Known sL 9) [allongelaw50_fact 0 1 1]) && ((((report_Known sL 10).length : Nat) : Int) == 2)) && ((((report_Known sL 8).length : Nat) : Int) == 0)) && ((((((report_Known sT 9).length : Nat) : Int) == 0) && allongeref15_Same (report_Liars sT 9) [0]) && ((((report_Liars sL 9).length : Nat) : Int) == 0))) && (report_Read (report_Text (allongelaw50_fact 0 1 1))).2) && (eqCs (Report.cells (report_Read (report_Text (allongelaw50_fact 0 1 1))).1) (Report.cells (allongelaw50_fact 0 1 1)))) && (!(report_Read (report_Text (allongelaw50_fact 0 1 1) ++ (⟨#[48, 59]⟩ : ByteArray))).2)) && report_Right (allongelaw50_fact 0 1 1)) && ((report_Text (allongelaw50_fact 0 1 1)).toList == (⟨#[57, 59, 48, 59, 49, 59, 53, 59, 52, 59, 51, 59, 48, 59, 48, 59, 49, 59, 49, 59]⟩ : ByteArray).toList)) && report_Convicts (allongelaw50_fact 0 1 1) (allongelaw50_fact 0 1 0)) && (!report_Convicts (allongelaw50_fact 0 1 1) (allongelaw50_fact 1 1 1))) := by
    unfold allongelaw50_sane allongelaw50_sane_sk
    simp only [Sk.val_r, Sk.val_fz]
    rfl
  rw [e, sane_known9, sane_known10, sane_known8, sane_knownT, sane_liarsT, sane_liarsL, sane_bad, sane_read, fact_text]
  have c1 : allongeref50_SameReports [allongelaw50_fact 0 1 1] [allongelaw50_fact 0 1 1] = true := rfl
  have c2 : allongeref15_Same [0] [0] = true := rfl
  have c3 : eqCs (Report.cells (allongelaw50_fact 0 1 1)) (Report.cells (allongelaw50_fact 0 1 1)) = true := rfl
  have c4 : report_Right (allongelaw50_fact 0 1 1) = true := rfl
  have c5 : report_Convicts (allongelaw50_fact 0 1 1) (allongelaw50_fact 0 1 0) = true := rfl
  have c6 : report_Convicts (allongelaw50_fact 0 1 1) (allongelaw50_fact 1 1 1) = false := rfl
  simp only [c1, c2, c3, c4, c5, c6, List.length_nil, Int.cast_ofNat_Int, beq_self_eq_true, Bool.and_self, Bool.not_false]
theorem within_iff (i n : Int) : report_within i n = true ↔ 0 ≤ i ∧ i < n := by
  have e : report_within i n = ((decide (i ≥ 0)) && (decide (i < n))) := rfl
  rw [e, Bool.and_eq_true, decide_eq_true_eq, decide_eq_true_eq]
theorem right_eq (x : Report) : report_Right x = bif (((((!report_within x.reporter 200) || (!report_within x.no 10000)) || (!report_within x.day 100001)) || (!report_within x.body.kind 5)) || (!report_within x.body.bill 50)) then false else bif !(eqCs (Body.cells (report_body x.body.kind x.body.bill x.body.index (numL x.body)).1) (Body.cells x.body)) then false else (bif x.body.kind == 0 then (x.body.index == 0) && (x.body.paper.day == x.day) else bif x.body.kind == 1 then ((decide (x.body.index > 0)) && (decide (x.body.index < 40))) && (x.body.sign.day == x.day) else bif x.body.kind == 2 then report_within x.body.index 100 && (x.body.act.day == x.day) else bif x.body.kind == 3 then report_within x.body.index 4 else x.body.index == 0) := by
  have hn := report_numbers_post x.body
  dsimp only at hn
  rw [← hn]
  rfl
/-- a right report, part by part -/
def RightP (x : Report) : Prop := (0 ≤ x.reporter ∧ x.reporter < 200) ∧ (0 ≤ x.no ∧ x.no < 10000) ∧ (0 ≤ x.day ∧ x.day < 100001) ∧ (0 ≤ x.body.bill ∧ x.body.bill < 50) ∧
  ((x.body.kind = 0 ∧ x.body = { (default : Body) with kind := 0, bill := x.body.bill, index := 0, paper := x.body.paper, sign := { (default : Sign) with flags := x.body.sign.flags } } ∧ x.body.paper.day = x.day) ∨
   (x.body.kind = 1 ∧ x.body = { (default : Body) with kind := 1, bill := x.body.bill, index := x.body.index, sign := x.body.sign } ∧ (0 < x.body.index ∧ x.body.index < 40) ∧ x.body.sign.day = x.day) ∨
   (x.body.kind = 2 ∧ x.body = { (default : Body) with kind := 2, bill := x.body.bill, index := x.body.index, act := x.body.act } ∧ (0 ≤ x.body.index ∧ x.body.index < 100) ∧ x.body.act.day = x.day) ∨
   (x.body.kind = 3 ∧ x.body = { (default : Body) with kind := 3, bill := x.body.bill, index := x.body.index, alter := x.body.alter } ∧ 0 ≤ x.body.index ∧ x.body.index < 4) ∨
   (x.body.kind = 4 ∧ x.body = { (default : Body) with kind := 4, bill := x.body.bill, index := 0, fact := x.body.fact }))
theorem condF {c y : Bool} : ((bif c then false else y) = true) ↔ (c = false ∧ y = true) := by cases c <;> simp
theorem eqBody {a b : Body} : (!(eqCs (Body.cells a) (Body.cells b))) = false ↔ a = b := by
  rw [Bool.not_eq_false']
  exact ⟨fun h => Body.cells_inj (eqCs_eq rfl rfl h), fun h => by subst h; exact eqCs_rfl rfl⟩
theorem body_own {B : Body} (hk : 0 ≤ B.kind ∧ B.kind < 5) : (report_body B.kind B.bill B.index (numL B)).1 = bif B.kind == 0 then { (default : Body) with kind := B.kind, bill := B.bill, index := B.index, paper := B.paper, sign := { (default : Sign) with flags := B.sign.flags } } else bif B.kind == 1 then { (default : Body) with kind := B.kind, bill := B.bill, index := B.index, sign := B.sign } else bif B.kind == 2 then { (default : Body) with kind := B.kind, bill := B.bill, index := B.index, act := B.act } else bif B.kind == 3 then { (default : Body) with kind := B.kind, bill := B.bill, index := B.index, alter := B.alter } else { (default : Body) with kind := B.kind, bill := B.bill, index := B.index, fact := B.fact } := by
  have hn := report_numbers_post { (default : Body) with kind := B.kind, bill := B.bill, index := B.index }
  dsimp only at hn
  have hl := numL_n { (default : Body) with kind := B.kind, bill := B.bill, index := B.index }
  have hc : (((decide (B.kind < 0)) || (decide (B.kind ≥ 5))) || ((((numL B).length : Nat) : Int) != ((numN B.kind : Nat) : Int))) = false := by
    rw [numL_n, bne_self_eq_false, Bool.or_false, Bool.or_eq_false_iff, decide_eq_false_iff_not, decide_eq_false_iff_not]
    omega
  rw [body_eq, hn, hl]
  rw [hc, cond_false]
  unfold numL
  cases B.kind == 0 <;> cases B.kind == 1 <;> cases B.kind == 2 <;> cases B.kind == 3 <;> rfl
theorem right_iff (x : Report) : report_Right x = true ↔ RightP x := by
  rw [right_eq, condF, condF, eqBody]
  simp only [Bool.or_eq_false_iff, Bool.not_eq_false', within_iff]
  unfold RightP
  constructor
  · rintro ⟨⟨⟨⟨⟨h1, h2⟩, h3⟩, h4⟩, h5⟩, hb, hf⟩
    rw [body_own h4] at hb
    refine ⟨h1, h2, h3, h5, ?_⟩
    have h6 : x.body.kind = 0 ∨ x.body.kind = 1 ∨ x.body.kind = 2 ∨ x.body.kind = 3 ∨ x.body.kind = 4 := by omega
    rcases h6 with k | k | k | k | k <;> rw [k] at hb hf
    · obtain ⟨f1, f2⟩ : x.body.index = 0 ∧ x.body.paper.day = x.day := by simpa using hf
      refine .inl ⟨k, ?_, f2⟩
      rw [f1] at hb
      exact hb.symm
    · have hf : (decide (x.body.index > 0) && decide (x.body.index < 40) && (x.body.sign.day == x.day)) = true := hf
      simp only [Bool.and_eq_true, decide_eq_true_eq, beq_iff_eq] at hf
      exact .inr (.inl ⟨k, hb.symm, ⟨hf.1.1, hf.1.2⟩, hf.2⟩)
    · have hf : (report_within x.body.index 100 && (x.body.act.day == x.day)) = true := hf
      simp only [Bool.and_eq_true, within_iff, beq_iff_eq] at hf
      exact .inr (.inr (.inl ⟨k, hb.symm, hf.1, hf.2⟩))
    · have hf : report_within x.body.index 4 = true := hf
      exact .inr (.inr (.inr (.inl ⟨k, hb.symm, (within_iff _ _).1 hf⟩)))
    · have hf : (x.body.index == 0) = true := hf
      have f1 : x.body.index = 0 := by simpa using hf
      rw [f1] at hb
      exact .inr (.inr (.inr (.inr ⟨k, hb.symm⟩)))
  · rintro ⟨h1, h2, h3, h5, h⟩
    rcases h with ⟨k, hb, f2⟩ | ⟨k, hb, f1, f2⟩ | ⟨k, hb, f1, f2⟩ | ⟨k, hb, f1⟩ | ⟨k, hb⟩
    all_goals refine ⟨⟨⟨⟨⟨h1, h2⟩, h3⟩, by omega⟩, h5⟩, ?_, ?_⟩
    all_goals first | rw [body_own (by omega)] | skip
    all_goals rw [k]
    · have f1 : x.body.index = 0 := by rw [hb]
      rw [f1]
      exact hb.symm
    · have f1 : x.body.index = 0 := by rw [hb]
      simp [f1, f2]
    · exact hb.symm
    · show (decide (x.body.index > 0) && decide (x.body.index < 40) && (x.body.sign.day == x.day)) = true
      simp only [Bool.and_eq_true, decide_eq_true_eq, beq_iff_eq]
      exact ⟨f1, f2⟩
    · exact hb.symm
    · show (report_within x.body.index 100 && (x.body.act.day == x.day)) = true
      simp only [Bool.and_eq_true, within_iff, beq_iff_eq]
      exact ⟨f1, f2⟩
    · exact hb.symm
    · show report_within x.body.index 4 = true
      exact (within_iff _ _).2 f1
    · have f1 : x.body.index = 0 := by rw [hb]
      rw [f1]
      exact hb.symm
    · have f1 : x.body.index = 0 := by rw [hb]
      show (x.body.index == 0) = true
      simp [f1]
theorem Same14_refl (f : File) : allongeref14_Same f f = true := (allongeref14_Same_post f f) rfl
/-! all that a file says, reported and known -/
def Sign.J (x : Sign) : Prop := x.cells.all okI = true
def ActX.J (x : ActX) : Prop := x.cells.all okI = true
def Alter.J (x : Alter) : Prop := x.cells.all okI = true
def Fact.J (x : Fact) : Prop := x.cells.all okI = true
def Bill.J (x : Bill) : Prop := x.cells.all okI = true
def File.J (f : File) : Prop := f.bill.J ∧ (∀ x, x ∈ f.signs → x.J) ∧ (∀ x, x ∈ f.alters → x.J) ∧ (∀ x, x ∈ f.acts → x.J) ∧ ∀ x, x ∈ f.facts → x.J
theorem gd_mem {α : Type} [Inhabited α] {l : List α} {i : Nat} (h : i < l.length) : l.getD i default ∈ l := by
  rw [show l.getD i default = l[i] by simp [List.getD, h]]
  exact List.getElem_mem h
def dayW (f : File) (b : Body) : Int := bif b.kind == 2 then b.act.day else bif b.kind == 1 then b.sign.day else f.bill.day
def repW (f : File) (B : List Body) (i : Nat) : Report := { reporter := 0, no := ((i : Nat) : Int), day := dayW f (B.getD i default), body := B.getD i default }
def arrW (one two : Int) (f : File) (B : List Body) (n : Nat) : List Arrival := (List.range n).flatMap fun i => [{ registry := one, day := 100000, report := repW f B i }, { registry := two, day := 100000, report := repW f B i }]
theorem arrW_succ (one two : Int) (f : File) (B : List Body) (n : Nat) : arrW one two f B (n + 1) = (arrW one two f B n ++ [{ registry := one, day := 100000, report := repW f B n }]) ++ [{ registry := two, day := 100000, report := repW f B n }] := by
  unfold arrW
  rw [List.range_succ, List.flatMap_append]
  simp
theorem arrW_len (one two : Int) (f : File) (B : List Body) : ∀ n, (arrW one two f B n).length = 2 * n
  | 0 => rfl
  | n + 1 => by
    rw [arrW_succ, List.length_append, List.length_append, arrW_len one two f B n]
    simp
    omega
theorem mem_arrW {one two : Int} {f : File} {B : List Body} {n : Nat} {a : Arrival} : a ∈ arrW one two f B n ↔ ∃ i, i < n ∧ (a = { registry := one, day := 100000, report := repW f B i } ∨ a = { registry := two, day := 100000, report := repW f B i }) := by
  unfold arrW
  simp only [List.mem_flatMap, List.mem_range, List.mem_cons, List.not_mem_nil, or_false]
theorem bill_body {f : File} {bill : Int} {b : Body} (h : b ∈ bodiesP f bill) : b.bill = bill := by
  rcases mem_bodies.1 h with rfl | ⟨i, _, rfl⟩ | ⟨i, _, rfl⟩ | ⟨i, _, rfl⟩ | ⟨x, _, rfl⟩ <;> rfl
theorem k64 : in64w 0 ∧ in64w 1 ∧ in64w 2 ∧ in64w 3 ∧ in64w 4 := by decide
theorem z64 : (Bill.cells default).all okI = true ∧ (Sign.cells default).all okI = true ∧ (ActX.cells default).all okI = true ∧ (Alter.cells default).all okI = true ∧ (Fact.cells default).all okI = true := by decide
theorem body_J {f : File} {bill : Int} (hf : f.J) (hb : in64w bill) {b : Body} (h : b ∈ bodiesP f bill) (hl : f.signs.length ≤ 40 ∧ f.alters.length ≤ 4 ∧ f.acts.length ≤ 100) (h0 : 0 < f.signs.length) : b.I64 := by
  obtain ⟨j1, j2, j3, j4, j5⟩ := hf
  unfold Bill.J at j1
  unfold Sign.J at j2
  unfold Alter.J at j3
  unfold ActX.J at j4
  unfold Fact.J at j5
  unfold Body.I64 Body.cells
  simp only [List.all_append, List.all_cons, List.all_nil, okI_dI, Bool.and_eq_true, decide_eq_true_eq, Bool.and_true]
  rcases mem_bodies.1 h with rfl | ⟨i, hi, rfl⟩ | ⟨i, hi, rfl⟩ | ⟨i, hi, rfl⟩ | ⟨x, hx, rfl⟩
  · have h2 := j2 _ (gd_mem h0)
    have h3 : in64w (f.signs.getD 0 default).flags := by
      unfold Sign.cells at h2
      simp only [List.all_append, List.all_cons, List.all_nil, okI_dI, Bool.and_eq_true, decide_eq_true_eq, Bool.and_true] at h2
      exact h2.2.2.2.2.2.2.2.2
    refine ⟨⟨⟨⟨⟨⟨k64.1, hb, k64.1⟩, j1⟩, ?_⟩, z64.2.2.1⟩, z64.2.2.2.1⟩, z64.2.2.2.2⟩
    show (Sign.cells { (default : Sign) with flags := (f.signs.getD 0 default).flags }).all okI = true
    unfold Sign.cells
    simp only [List.all_append, List.all_cons, List.all_nil, okI_dI, Bool.and_eq_true, decide_eq_true_eq, Bool.and_true]
    exact ⟨k64.1, k64.1, k64.1, k64.1, k64.1, k64.1, k64.1, k64.1, h3⟩
  · exact ⟨⟨⟨⟨⟨⟨k64.2.1, hb, by show in64w ((i + 1 : Nat) : Int); omega⟩, z64.1⟩, j2 _ (gd_mem hi)⟩, z64.2.2.1⟩, z64.2.2.2.1⟩, z64.2.2.2.2⟩
  · exact ⟨⟨⟨⟨⟨⟨k64.2.2.2.1, hb, by show in64w ((i : Nat) : Int); omega⟩, z64.1⟩, z64.2.1⟩, z64.2.2.1⟩, j3 _ (gd_mem hi)⟩, z64.2.2.2.2⟩
  · exact ⟨⟨⟨⟨⟨⟨k64.2.2.1, hb, by show in64w ((i : Nat) : Int); omega⟩, z64.1⟩, z64.2.1⟩, j4 _ (gd_mem hi)⟩, z64.2.2.2.1⟩, z64.2.2.2.2⟩
  · exact ⟨⟨⟨⟨⟨⟨k64.2.2.2.2, hb, k64.1⟩, z64.1⟩, z64.2.1⟩, z64.2.2.1⟩, z64.2.2.2.1⟩, j5 _ hx⟩
theorem day_mono {r : Realm} {f : File} (h : RightF r f) : ∀ q, q < f.signs.length → f.bill.day ≤ (f.signs.getD q default).day
  | 0, hq => by rw [(h.2.2.1 0 hq).2.2.2.1 rfl]; exact Int.le_refl _
  | q + 1, hq => by
    have h1 := (h.2.2.1 (q + 1) hq).2.1 (by omega)
    have h2 := day_mono h q (by omega)
    rw [Nat.add_sub_cancel] at h1
    omega
theorem day_ok {r : Realm} {f : File} {bill : Int} (h : RightF r f) {b : Body} (hb : b ∈ bodiesP f bill) : 0 ≤ dayW f b ∧ dayW f b ≤ 100000 := by
  have h0 := h.1.2.2.1
  rcases mem_bodies.1 hb with rfl | ⟨i, hi, rfl⟩ | ⟨i, hi, rfl⟩ | ⟨i, hi, rfl⟩ | ⟨x, hx, rfl⟩
  · exact h0
  · show 0 ≤ (f.signs.getD (i + 1) default).day ∧ (f.signs.getD (i + 1) default).day ≤ 100000
    have h1 := (h.2.2.1 (i + 1) hi).2.2.1
    have h2 := day_mono h (i + 1) hi
    omega
  · exact h0
  · show 0 ≤ (f.acts.getD i default).day ∧ (f.acts.getD i default).day ≤ 100000
    have h1 := (h.2.2.2.2 i hi).2.1
    omega
  · exact h0
theorem right_rep {r : Realm} {f : File} {bill : Int} (h : RightF r f) (hb : 0 ≤ bill ∧ bill < 50) {i : Nat} (hi : i < (bodiesP f bill).length) (hl : (bodiesP f bill).length ≤ 60) : report_Right (repW f (bodiesP f bill) i) = true := by
  rw [right_iff]
  have hm : (bodiesP f bill).getD i default ∈ bodiesP f bill := gd_mem hi
  have hd := day_ok h hm
  have hbb := bill_body hm
  have hc := h.2.1
  unfold RightP repW
  simp only
  generalize hB : (bodiesP f bill).getD i default = B at hm hd hbb
  rw [hbb]
  refine ⟨by omega, by omega, by omega, hb, ?_⟩
  rcases mem_bodies.1 hm with rfl | ⟨i, hi, rfl⟩ | ⟨i, hi, rfl⟩ | ⟨i, hi, rfl⟩ | ⟨x, hx, rfl⟩
  · exact .inl ⟨rfl, rfl, rfl⟩
  · exact .inr (.inl ⟨rfl, rfl, ⟨by show 0 < ((i + 1 : Nat) : Int); omega, by show ((i + 1 : Nat) : Int) < 40; omega⟩, rfl⟩)
  · exact .inr (.inr (.inr (.inl ⟨rfl, rfl, by show 0 ≤ ((i : Nat) : Int); omega, by show ((i : Nat) : Int) < 4; omega⟩)))
  · exact .inr (.inr (.inl ⟨rfl, rfl, ⟨by show 0 ≤ ((i : Nat) : Int); omega, by show ((i : Nat) : Int) < 100; omega⟩, rfl⟩))
  · exact .inr (.inr (.inr (.inr ⟨rfl, rfl⟩)))
theorem rep_I64 {r : Realm} {f : File} {bill : Int} (h : RightF r f) (hf : f.J) (hb : 0 ≤ bill ∧ bill < 50) {i : Nat} (hi : i < (bodiesP f bill).length) (hl : (bodiesP f bill).length ≤ 60) : (repW f (bodiesP f bill) i).I64 := by
  have hm : (bodiesP f bill).getD i default ∈ bodiesP f bill := gd_mem hi
  have hc := h.2.1
  have hd := day_ok h hm
  have h1 : ((bodiesP f bill).getD i default).I64 := body_J hf (by omega) hm (by omega) (by omega)
  unfold Report.I64 Report.cells
  rw [List.all_append, Bool.and_eq_true]
  refine ⟨?_, h1⟩
  unfold repW
  simp only [List.all_cons, List.all_nil, okI_dI, Bool.and_eq_true, decide_eq_true_eq, Bool.and_true]
  exact ⟨by omega, by omega, by omega⟩
/-! all of them are known, and the file is made of them -/
theorem countP_one {α : Type} {p : α → Bool} : ∀ {L : List α}, L.Nodup → (∀ x, x ∈ L → ∀ y, y ∈ L → p x = true → p y = true → x = y) → L.countP p ≤ 1
  | [], _, _ => Nat.zero_le 1
  | x :: L, hn, h => by
    rw [List.nodup_cons] at hn
    rw [List.countP_cons]
    cases hp : p x with
    | false => simpa using countP_one hn.2 fun a ha b hb => h a (.tail _ ha) b (.tail _ hb)
    | true =>
      have : L.countP p = 0 := List.countP_eq_zero.2 fun y hy hy' => hn.1 (by rw [h x List.mem_cons_self y (.tail _ hy) hp hy']; exact hy)
      rw [this]
      simp
theorem repW_inj {f : File} {B : List Body} {i j : Nat} (h : repW f B i = repW f B j) : i = j := by
  have := congrArg Report.no h
  exact Int.ofNat_inj.1 this
theorem reps_nodup (f : File) (B : List Body) (n : Nat) : ((List.range n).map (repW f B)).Nodup := List.pairwise_map.2 (List.nodup_range.imp fun h e => h (repW_inj e))
theorem agC_W {f : File} {B : List Body} {i : Nat} {o : Int} (ho : 0 ≤ o ∧ o < 3) (hr : report_Right (repW f B i) = true) (hd : dayW f (B.getD i default) ≤ 100000) : agC 100000 { registry := o, day := 100000, report := repW f B i } = true := by
  unfold agC
  simp only [hr, Bool.and_true, Bool.and_eq_true, decide_eq_true_eq]
  exact ⟨⟨ho, Int.le_refl _⟩, hd⟩
section
variable {f : File} {bill one two : Int} {r : Realm}
theorem agreed_W (h : RightF r f) (hb : 0 ≤ bill ∧ bill < 50) (hl : (bodiesP f bill).length ≤ 60) (h1 : 0 ≤ one ∧ one < 3) (h2 : 0 ≤ two ∧ two < 3) (hne : one ≠ two) : (agreedL (arrW one two f (bodiesP f bill) (bodiesP f bill).length) 100000).Perm ((List.range (bodiesP f bill).length).map (repW f (bodiesP f bill))) := by
  refine (List.perm_ext_iff_of_nodup (agreedL_nodup _ _) (reps_nodup _ _ _)).2 fun x => ?_
  rw [agreedL_iff, List.mem_map]
  constructor
  · rintro ⟨a, b, ha, -, -, -, e, -, -⟩
    obtain ⟨i, hi, h | h⟩ := mem_arrW.1 ha
    · exact ⟨i, List.mem_range.2 hi, by rw [← e, h]⟩
    · exact ⟨i, List.mem_range.2 hi, by rw [← e, h]⟩
  · rintro ⟨i, hi, rfl⟩
    have hi := List.mem_range.1 hi
    have hr := right_rep h hb hi hl
    have hd := (day_ok h (gd_mem hi)).2
    exact ⟨_, _, mem_arrW.2 ⟨i, hi, .inl rfl⟩, mem_arrW.2 ⟨i, hi, .inr rfl⟩, agC_W h1 hr hd, agC_W h2 hr hd, rfl, rfl, hne⟩
theorem known_W (h : RightF r f) (hf : f.J) (hb : 0 ≤ bill ∧ bill < 50) (hl : (bodiesP f bill).length ≤ 60) (h1 : 0 ≤ one ∧ one < 3) (h2 : 0 ≤ two ∧ two < 3) (hne : one ≠ two) : (report_Known (arrW one two f (bodiesP f bill) (bodiesP f bill).length) 100000).Perm ((List.range (bodiesP f bill).length).map (repW f (bodiesP f bill))) := by
  have hI : ∀ a, a ∈ arrW one two f (bodiesP f bill) (bodiesP f bill).length → a.report.I64 := fun a ha => by
    obtain ⟨i, hi, h' | h'⟩ := mem_arrW.1 ha
    · rw [h']; exact rep_I64 h hf hb hi hl
    · rw [h']; exact rep_I64 h hf hb hi hl
  have hp := agreed_W h hb hl h1 h2 hne
  rw [report_Known_of (by rw [arrW_len]; omega) hI]
  unfold knownL
  have hlied : ∀ q, lied (agreedL (arrW one two f (bodiesP f bill) (bodiesP f bill).length) 100000) q = false := fun q => by
    rw [lied_perm hp]
    refine lied_no fun c => ?_
    unfold cnt
    refine countP_one (reps_nodup _ _ _) fun x hx y hy px py => ?_
    obtain ⟨i, -, rfl⟩ := List.mem_map.1 hx
    obtain ⟨j, -, rfl⟩ := List.mem_map.1 hy
    rw [Bool.and_eq_true, beq_iff_eq, beq_iff_eq] at px py
    have e : ((i : Nat) : Int) = ((j : Nat) : Int) := px.2.trans py.2.symm
    rw [Int.ofNat_inj.1 e]
  have e : (agreedL (arrW one two f (bodiesP f bill) (bodiesP f bill).length) 100000).filter (fun c => !lied (agreedL (arrW one two f (bodiesP f bill) (bodiesP f bill).length) 100000) c.reporter) = agreedL (arrW one two f (bodiesP f bill) (bodiesP f bill).length) 100000 := List.filter_eq_self.2 fun c _ => by rw [hlied]; rfl
  rw [e]
  refine (sortRp_perm fun s hs => ?_).trans hp
  obtain ⟨-, a, ha, e⟩ := agreedL_mem hs
  exact e ▸ hI a ha
theorem stated_W (h : RightF r f) (hF : FOK f.signs.length f.facts) (hf : f.J) (hb : 0 ≤ bill ∧ bill < 50) (hl : (bodiesP f bill).length ≤ 60) (h1 : 0 ≤ one ∧ one < 3) (h2 : 0 ≤ two ∧ two < 3) (hne : one ≠ two) : WholeA (report_stated (arrW one two f (bodiesP f bill) (bodiesP f bill).length) bill 100000) f bill := by
  have hk := known_W h hf hb hl h1 h2 hne
  generalize hL : report_Known (arrW one two f (bodiesP f bill) (bodiesP f bill).length) 100000 = L at hk
  have hB : ∀ b, (∃ x, x ∈ L ∧ x.body = b) ↔ b ∈ bodiesP f bill := fun b => by
    constructor
    · rintro ⟨x, hx, rfl⟩
      obtain ⟨i, hi, rfl⟩ := List.mem_map.1 (hk.mem_iff.1 hx)
      exact gd_mem (List.mem_range.1 hi)
    · intro hm
      obtain ⟨i, hi, e⟩ := List.getElem_of_mem hm
      exact ⟨repW f (bodiesP f bill) i, hk.mem_iff.2 (List.mem_map.2 ⟨i, List.mem_range.2 hi, rfl⟩), by rw [← e]; show (bodiesP f bill).getD i default = _; simp [List.getD, hi]⟩
  have hn : (L.map fun x => report_about x.body).Nodup := by
    refine (hk.map fun x : Report => report_about x.body).nodup_iff.2 ?_
    have := keys_nodup (bill := bill) hF
    have e : ((List.range (bodiesP f bill).length).map (repW f (bodiesP f bill))).map (fun x => report_about x.body) = (bodiesP f bill).map report_about := by
      refine List.ext_getElem (by simp) fun i h3 h4 => ?_
      have h5 : i < (bodiesP f bill).length := by simpa using h4
      simp [repW, List.getD, h5]
    rw [e]
    exact this
  have hbb : ∀ x, x ∈ L → x.body.bill = bill := fun x hx => bill_body ((hB _).1 ⟨x, hx, rfl⟩)
  rw [stated_keys (by rw [hL]; exact hbb) (by rw [hL]; exact hn), hL]
  intro k b
  rw [map_find hn]
  constructor
  · rintro ⟨x, hx, e, e2⟩
    exact ⟨(hB b).1 ⟨x, hx, e⟩, e2⟩
  · rintro ⟨hm, e⟩
    obtain ⟨x, hx, e2⟩ := (hB b).2 hm
    exact ⟨x, hx, e2, e⟩
theorem file_eq (r : Realm) (l : List Arrival) (bill day : Int) : report_File r l bill day = ((report_build r l bill day).file, decide ((((report_build r l bill day).used.length : Nat) : Int) > 0)) := rfl
theorem whole_law (h : RightF r f) (hc : paper_Check r f = 0) (hf : f.J) (hb : 0 ≤ bill ∧ bill < 50) (hl : (bodiesP f bill).length ≤ 60) (h1 : 0 ≤ one ∧ one < 3) (h2 : 0 ≤ two ∧ two < 3) (hne : one ≠ two) : (((true && (report_File r (arrW one two f (bodiesP f bill) (bodiesP f bill).length) bill 100000).2) && allongeref14_Same f (report_File r (arrW one two f (bodiesP f bill) (bodiesP f bill).length) bill 100000).1) && ((((report_Known (arrW one two f (bodiesP f bill) (bodiesP f bill).length) 100000).length : Nat) : Int) == (((bodiesP f bill).length : Nat) : Int))) = true := by
  have hF : FOK f.signs.length f.facts := (paper_facts_post f (by have := h.2.1; omega)).1 ((Check_iff r f).1 hc).2.2.2.2.2.2
  have hk := (known_W h hf hb hl h1 h2 hne).length_eq
  rw [List.length_map, List.length_range] at hk
  obtain ⟨e1, e2⟩ := build_whole hc hF (stated_W h hF hf hb hl h1 h2 hne)
  rw [file_eq]
  simp only
  rw [e1, hk, Same14_refl]
  simp only [beq_self_eq_true, Bool.and_true, Bool.true_and, decide_eq_true_eq]
  omega
end
/-! the two registries -/
noncomputable abbrev oneW (a : Int) : Int := (w64 (a.tmod 3 + 3)).tmod 3
noncomputable abbrev twoW (a b : Int) : Int := (w64 (w64 (oneW a + 1) + (w64 (b.tmod 2 + 2)).tmod 2)).tmod 3
theorem tm_nn {a : Int} (h : 0 ≤ a) (n : Int) : a.tmod n = a % n := Int.tmod_eq_emod_of_nonneg h
theorem reg_W (a b : Int) : (0 ≤ oneW a ∧ oneW a < 3) ∧ (0 ≤ twoW a b ∧ twoW a b < 3) ∧ oneW a ≠ twoW a b := by
  have ha : -3 < a.tmod 3 ∧ a.tmod 3 < 3 := by
    have h1 := Int.lt_tmod_of_pos a (show (0 : Int) < 3 by decide)
    have h2 := Int.tmod_lt_of_pos a (show (0 : Int) < 3 by decide)
    omega
  have hb : -2 < b.tmod 2 ∧ b.tmod 2 < 2 := by
    have h1 := Int.lt_tmod_of_pos b (show (0 : Int) < 2 by decide)
    have h2 := Int.tmod_lt_of_pos b (show (0 : Int) < 2 by decide)
    omega
  have h1 : oneW a = (a.tmod 3 + 3) % 3 := by
    unfold oneW
    rw [w64_id (by omega) (by omega), tm_nn (by omega)]
  have h2 : twoW a b = (oneW a + 1 + (b.tmod 2 + 2) % 2) % 3 := by
    unfold twoW
    have h3 : 0 ≤ oneW a ∧ oneW a < 3 := by omega
    rw [w64_id (n := oneW a + 1) (by omega) (by omega), w64_id (n := b.tmod 2 + 2) (by omega) (by omega), tm_nn (a := b.tmod 2 + 2) (by omega), w64_id (by omega) (by omega), tm_nn (by omega)]
  omega
theorem ref_realm {r : Realm} {f : File} (h : allongeref09_Few r = true) (hc : paper_Check r f = 0) : r.Small ∧ RightF r f := by
  have hr := allongeref09_Few_post r h
  refine ⟨hr, ((paper_Check_post r f) ?_ hc).1⟩
  unfold Realm.Small at hr
  omega
theorem B4_eq (f : File) (bill : Int) : (((bBill f bill :: (List.range (f.signs.length - 1)).map fun i => bSign f bill (i + 1)) ++ (List.range f.alters.length).map (bAlt f bill)) ++ (List.range f.acts.length).map (bAct f bill)) ++ f.facts.map (bFact bill) = bodiesP f bill := by
  unfold bodiesP
  simp only [List.cons_append, List.append_assoc]
theorem range_snoc {α : Type} (g : Nat → α) (n : Nat) : (List.range (n + 1)).map g = (List.range n).map g ++ [g n] := by rw [List.range_succ, List.map_append]; rfl
theorem val_br2 {α : Type} {c : Bool} {x y b : Int} (h : (bif c then (.inr x : α ⊕ Int) else .inr y) = .inr b) : b = bif c then x else y := by
  cases c <;> exact (Sum.inr.inj h).symm
theorem sgn_step {f : File} {bill : Int} {L : List Body} {i : Int} (h : 1 ≤ i ∧ i ≤ (f.signs.length : Int) ∧ L = bBill f bill :: (List.range (i - 1).toNat).map fun i => bSign f bill (i + 1)) (hi : i < (f.signs.length : Int)) (hn : f.signs.length ≤ 40) : (1 ≤ w64 (i + 1) ∧ w64 (i + 1) ≤ (f.signs.length : Int) ∧ L ++ [{ (default : Body) with kind := 1, bill := bill, index := i, sign := f.signs.getD i.toNat default }] = bBill f bill :: (List.range (w64 (i + 1) - 1).toNat).map fun i => bSign f bill (i + 1)) ∧ ((f.signs.length : Int) - w64 (i + 1)).toNat < ((f.signs.length : Int) - i).toNat := by
  obtain ⟨k, rfl⟩ : ∃ k : Nat, i = ((k + 1 : Nat) : Int) := ⟨(i - 1).toNat, by omega⟩
  rw [w64_id (by omega) (by omega)]
  refine ⟨⟨by omega, by omega, ?_⟩, by omega⟩
  rw [h.2.2, show ((((k + 1 : Nat) : Int) + 1) - 1).toNat = k + 1 by omega, show ((((k + 1 : Nat) : Int)) - 1).toNat = k by omega, range_snoc (fun i => bSign f bill (i + 1))]
  rfl
theorem sgn_end {f : File} {bill : Int} {L : List Body} {i : Int} (h : 1 ≤ i ∧ i ≤ (f.signs.length : Int) ∧ L = bBill f bill :: (List.range (i - 1).toNat).map fun i => bSign f bill (i + 1)) (hi : ¬ i < (f.signs.length : Int)) : L = bBill f bill :: (List.range (f.signs.length - 1)).map fun i => bSign f bill (i + 1) := by
  rw [h.2.2, show (i - 1).toNat = f.signs.length - 1 by omega]
theorem snoc_step {X L : List Body} {g : Nat → Body} {k : Nat} (h : L = X ++ (List.range k).map g) : L ++ [g k] = X ++ (List.range (k + 1)).map g := by
  rw [h, range_snoc, List.append_assoc]
theorem fact_step {X L : List Body} {bill : Int} {F : List Fact} {k : Nat} (h : L = X ++ (F.take k).map (bFact bill)) (hk : k < F.length) : L ++ [bFact bill (F.getD k default)] = X ++ (F.take (k + 1)).map (bFact bill) := by
  rw [h, take_succ_gd hk, List.map_append, List.append_assoc]
  rfl
theorem arr_step {one two day : Int} {f : File} {B : List Body} {L : List Arrival} {k : Nat} (h : L = arrW one two f B k) (hd : day = dayW f (B.getD k default)) : (L ++ [({ registry := one, day := 100000, report := { reporter := 0, no := ((k : Nat) : Int), day := day, body := B.getD k default } } : Arrival)]) ++ [({ registry := two, day := 100000, report := { reporter := 0, no := ((k : Nat) : Int), day := day, body := B.getD k default } } : Arrival)] = arrW one two f B (k + 1) := by
  rw [arrW_succ, h, hd]
  rfl

noncomputable def allongelaw50_ReportWhole_sk (r : Realm) (f : File) (bill : Int) (a : Int) (b : Int) : Sk (Bool) :=
 .r 1 allongelaw50_sane_k.c fun x1 =>
 .r 2 (.dep ((allongeref09_Few_k r).c) fun x2 => .dep (.wh (!x2) false ((allongeref12_Few_k f).c)) fun x3 => .wh ((!x2) || (!x3)) false ((paper_Check_k r f).c)) fun p24 =>
 .br (((((!p24.1) || (!p24.2.1)) || (p24.2.2 != 0)) || (decide (bill < 0))) || (decide (bill ≥ 50)))
 (.fin x1)
 (.r 4 (.andl (.p (ixP (0 : Int) f.signs.length)) (.o [.nrm (litC Body.E [({ kind := 0, bill := bill, index := 0, paper := f.bill, sign := ({ kind := 0, part := 0, who := 0, for_ := 0, to_ := 0, sum := 0, day := 0, city := 0, flags := (f.signs.getD 0 default).flags } : Sign), act := ({ kind := 0, who := 0, to_ := 0, part := 0, at_ := 0, sum := 0, day := 0, city := 0, form := 0 } : ActX), alter := ({ at_ := 0, sum := 0 } : Alter), fact := ({ kind := 0, at_ := 0, n := 0 } : Fact) } : Body)])])) fun _ =>
 .bind true (fun b5 => b5 = (bBill f bill :: (List.range (f.signs.length - 1)).map fun i => bSign f bill (i + 1)))
 (.loop (default : Sum (Bool) ((List Body))) (fun i6 => 1 ≤ i6.2 ∧ i6.2 ≤ (f.signs.length : Int) ∧ i6.1 = bBill f bill :: (List.range (i6.2 - 1).toNat).map fun i => bSign f bill (i + 1)) (fun i6 => ((f.signs.length : Int) - i6.2).toNat) (([({ kind := 0, bill := bill, index := 0, paper := f.bill, sign := ({ kind := 0, part := 0, who := 0, for_ := 0, to_ := 0, sum := 0, day := 0, city := 0, flags := (f.signs.getD 0 default).flags } : Sign), act := ({ kind := 0, who := 0, to_ := 0, part := 0, at_ := 0, sum := 0, day := 0, city := 0, form := 0 } : ActX), alter := ({ at_ := 0, sum := 0 } : Alter), fact := ({ kind := 0, at_ := 0, n := 0 } : Fact) } : Body)], 1) : (List Body) × Int)
 (fun (i6 : (List Body) × Int) => ⟨[(12, ow 100002 i6.1), (13, iv i6.2)], [(100002, rowB 35 41 Body.cells i6.1)]⟩) fun i6 =>
 .br (decide (i6.2 < ((f.signs.length : Nat) : Int)))
 (.r 8 (.andl (.p (ixP i6.2 f.signs.length)) (.andl (.o [.nrm (litC Body.E [({ kind := 1, bill := bill, index := i6.2, paper := ({ drawer := 0, drawee := 0, payee := 0, sum := 0, currency := 0, tenor := ({ kind := 0, n := 0, unit := 0 } : Tenor), day := 0, city := 0, pay := 0, need := 0, rate := 0, flags := 0, parts := 0 } : Bill), sign := f.signs.getD i6.2.toNat default, act := ({ kind := 0, who := 0, to_ := 0, part := 0, at_ := 0, sum := 0, day := 0, city := 0, form := 0 } : ActX), alter := ({ at_ := 0, sum := 0 } : Alter), fact := ({ kind := 0, at_ := 0, n := 0 } : Fact) } : Body)])]) (.andl (.o [.nrm (catC Body.E i6.1 [({ kind := 1, bill := bill, index := i6.2, paper := ({ drawer := 0, drawee := 0, payee := 0, sum := 0, currency := 0, tenor := ({ kind := 0, n := 0, unit := 0 } : Tenor), day := 0, city := 0, pay := 0, need := 0, rate := 0, flags := 0, parts := 0 } : Bill), sign := f.signs.getD i6.2.toNat default, act := ({ kind := 0, who := 0, to_ := 0, part := 0, at_ := 0, sum := 0, day := 0, city := 0, form := 0 } : ActX), alter := ({ at_ := 0, sum := 0 } : Alter), fact := ({ kind := 0, at_ := 0, n := 0 } : Fact) } : Body)])]) (.andl (.t (Body.E.ones [({ kind := 1, bill := bill, index := i6.2, paper := ({ drawer := 0, drawee := 0, payee := 0, sum := 0, currency := 0, tenor := ({ kind := 0, n := 0, unit := 0 } : Tenor), day := 0, city := 0, pay := 0, need := 0, rate := 0, flags := 0, parts := 0 } : Bill), sign := f.signs.getD i6.2.toNat default, act := ({ kind := 0, who := 0, to_ := 0, part := 0, at_ := 0, sum := 0, day := 0, city := 0, form := 0 } : ActX), alter := ({ at_ := 0, sum := 0 } : Alter), fact := ({ kind := 0, at_ := 0, n := 0 } : Fact) } : Body)])) (.p (szP i6.1.length [({ kind := 1, bill := bill, index := i6.2, paper := ({ drawer := 0, drawee := 0, payee := 0, sum := 0, currency := 0, tenor := ({ kind := 0, n := 0, unit := 0 } : Tenor), day := 0, city := 0, pay := 0, need := 0, rate := 0, flags := 0, parts := 0 } : Bill), sign := f.signs.getD i6.2.toNat default, act := ({ kind := 0, who := 0, to_ := 0, part := 0, at_ := 0, sum := 0, day := 0, city := 0, form := 0 } : ActX), alter := ({ at_ := 0, sum := 0 } : Alter), fact := ({ kind := 0, at_ := 0, n := 0 } : Fact) } : Body)].length 328)))))) fun _ =>
 .fin (.inr (i6.1 ++ [({ kind := 1, bill := bill, index := i6.2, paper := ({ drawer := 0, drawee := 0, payee := 0, sum := 0, currency := 0, tenor := ({ kind := 0, n := 0, unit := 0 } : Tenor), day := 0, city := 0, pay := 0, need := 0, rate := 0, flags := 0, parts := 0 } : Bill), sign := f.signs.getD i6.2.toNat default, act := ({ kind := 0, who := 0, to_ := 0, part := 0, at_ := 0, sum := 0, day := 0, city := 0, form := 0 } : ActX), alter := ({ at_ := 0, sum := 0 } : Alter), fact := ({ kind := 0, at_ := 0, n := 0 } : Fact) } : Body)], w64 (i6.2 + 1))))
 (.fin (.inl (.inr i6.1))))
 (fun (b5 : (List Body)) => ⟨[(12, ow 100001 b5)], [(100001, rowB 35 41 Body.cells b5)]⟩) fun b5 =>
 .bind true (fun b7 => b7 = ((bBill f bill :: (List.range (f.signs.length - 1)).map fun i => bSign f bill (i + 1)) ++ (List.range f.alters.length).map (bAlt f bill)))
 (.loop (default : Sum (Bool) ((List Body))) (fun i8 => i8.2 ≤ f.alters.length ∧ i8.1 = (bBill f bill :: (List.range (f.signs.length - 1)).map fun i => bSign f bill (i + 1)) ++ (List.range i8.2).map (bAlt f bill)) (fun i8 => f.alters.length - i8.2) ((b5, 0) : (List Body) × Nat)
 (fun (i8 : (List Body) × Nat) => ⟨[(12, ow 100005 i8.1), (14, iv ((i8.2 : Nat) : Int))], [(100005, rowB 35 41 Body.cells i8.1)]⟩) fun i8 =>
 .lt 6 16 i8.2 f.alters.length
 (.r 12 (.andl (.p (ixP ((i8.2 : Nat) : Int) f.alters.length)) (.andl (.o [.nrm (litC Body.E [({ kind := 3, bill := bill, index := ((i8.2 : Nat) : Int), paper := ({ drawer := 0, drawee := 0, payee := 0, sum := 0, currency := 0, tenor := ({ kind := 0, n := 0, unit := 0 } : Tenor), day := 0, city := 0, pay := 0, need := 0, rate := 0, flags := 0, parts := 0 } : Bill), sign := ({ kind := 0, part := 0, who := 0, for_ := 0, to_ := 0, sum := 0, day := 0, city := 0, flags := 0 } : Sign), act := ({ kind := 0, who := 0, to_ := 0, part := 0, at_ := 0, sum := 0, day := 0, city := 0, form := 0 } : ActX), alter := f.alters.getD i8.2 default, fact := ({ kind := 0, at_ := 0, n := 0 } : Fact) } : Body)])]) (.andl (.o [.nrm (catC Body.E i8.1 [({ kind := 3, bill := bill, index := ((i8.2 : Nat) : Int), paper := ({ drawer := 0, drawee := 0, payee := 0, sum := 0, currency := 0, tenor := ({ kind := 0, n := 0, unit := 0 } : Tenor), day := 0, city := 0, pay := 0, need := 0, rate := 0, flags := 0, parts := 0 } : Bill), sign := ({ kind := 0, part := 0, who := 0, for_ := 0, to_ := 0, sum := 0, day := 0, city := 0, flags := 0 } : Sign), act := ({ kind := 0, who := 0, to_ := 0, part := 0, at_ := 0, sum := 0, day := 0, city := 0, form := 0 } : ActX), alter := f.alters.getD i8.2 default, fact := ({ kind := 0, at_ := 0, n := 0 } : Fact) } : Body)])]) (.andl (.t (Body.E.ones [({ kind := 3, bill := bill, index := ((i8.2 : Nat) : Int), paper := ({ drawer := 0, drawee := 0, payee := 0, sum := 0, currency := 0, tenor := ({ kind := 0, n := 0, unit := 0 } : Tenor), day := 0, city := 0, pay := 0, need := 0, rate := 0, flags := 0, parts := 0 } : Bill), sign := ({ kind := 0, part := 0, who := 0, for_ := 0, to_ := 0, sum := 0, day := 0, city := 0, flags := 0 } : Sign), act := ({ kind := 0, who := 0, to_ := 0, part := 0, at_ := 0, sum := 0, day := 0, city := 0, form := 0 } : ActX), alter := f.alters.getD i8.2 default, fact := ({ kind := 0, at_ := 0, n := 0 } : Fact) } : Body)])) (.p (szP i8.1.length [({ kind := 3, bill := bill, index := ((i8.2 : Nat) : Int), paper := ({ drawer := 0, drawee := 0, payee := 0, sum := 0, currency := 0, tenor := ({ kind := 0, n := 0, unit := 0 } : Tenor), day := 0, city := 0, pay := 0, need := 0, rate := 0, flags := 0, parts := 0 } : Bill), sign := ({ kind := 0, part := 0, who := 0, for_ := 0, to_ := 0, sum := 0, day := 0, city := 0, flags := 0 } : Sign), act := ({ kind := 0, who := 0, to_ := 0, part := 0, at_ := 0, sum := 0, day := 0, city := 0, form := 0 } : ActX), alter := f.alters.getD i8.2 default, fact := ({ kind := 0, at_ := 0, n := 0 } : Fact) } : Body)].length 328)))))) fun _ =>
 .r 11 .z fun _ =>
 .wi 14 (w64 (((i8.2 : Nat) : Int) + 1)) ((i8.2 + 1 : Nat) : Int) <|
 .fin (.inr (i8.1 ++ [({ kind := 3, bill := bill, index := ((i8.2 : Nat) : Int), paper := ({ drawer := 0, drawee := 0, payee := 0, sum := 0, currency := 0, tenor := ({ kind := 0, n := 0, unit := 0 } : Tenor), day := 0, city := 0, pay := 0, need := 0, rate := 0, flags := 0, parts := 0 } : Bill), sign := ({ kind := 0, part := 0, who := 0, for_ := 0, to_ := 0, sum := 0, day := 0, city := 0, flags := 0 } : Sign), act := ({ kind := 0, who := 0, to_ := 0, part := 0, at_ := 0, sum := 0, day := 0, city := 0, form := 0 } : ActX), alter := f.alters.getD i8.2 default, fact := ({ kind := 0, at_ := 0, n := 0 } : Fact) } : Body)], i8.2 + 1)))
 (.fin (.inl (.inr i8.1))))
 (fun (b7 : (List Body)) => ⟨[(12, ow 100004 b7)], [(100004, rowB 35 41 Body.cells b7)]⟩) fun b7 =>
 .bind true (fun b9 => b9 = (((bBill f bill :: (List.range (f.signs.length - 1)).map fun i => bSign f bill (i + 1)) ++ (List.range f.alters.length).map (bAlt f bill)) ++ (List.range f.acts.length).map (bAct f bill)))
 (.loop (default : Sum (Bool) ((List Body))) (fun i10 => i10.2 ≤ f.acts.length ∧ i10.1 = ((bBill f bill :: (List.range (f.signs.length - 1)).map fun i => bSign f bill (i + 1)) ++ (List.range f.alters.length).map (bAlt f bill)) ++ (List.range i10.2).map (bAct f bill)) (fun i10 => f.acts.length - i10.2) ((b7, 0) : (List Body) × Nat)
 (fun (i10 : (List Body) × Nat) => ⟨[(12, ow 100008 i10.1), (15, iv ((i10.2 : Nat) : Int))], [(100008, rowB 35 41 Body.cells i10.1)]⟩) fun i10 =>
 .lt 6 17 i10.2 f.acts.length
 (.r 16 (.andl (.p (ixP ((i10.2 : Nat) : Int) f.acts.length)) (.andl (.o [.nrm (litC Body.E [({ kind := 2, bill := bill, index := ((i10.2 : Nat) : Int), paper := ({ drawer := 0, drawee := 0, payee := 0, sum := 0, currency := 0, tenor := ({ kind := 0, n := 0, unit := 0 } : Tenor), day := 0, city := 0, pay := 0, need := 0, rate := 0, flags := 0, parts := 0 } : Bill), sign := ({ kind := 0, part := 0, who := 0, for_ := 0, to_ := 0, sum := 0, day := 0, city := 0, flags := 0 } : Sign), act := f.acts.getD i10.2 default, alter := ({ at_ := 0, sum := 0 } : Alter), fact := ({ kind := 0, at_ := 0, n := 0 } : Fact) } : Body)])]) (.andl (.o [.nrm (catC Body.E i10.1 [({ kind := 2, bill := bill, index := ((i10.2 : Nat) : Int), paper := ({ drawer := 0, drawee := 0, payee := 0, sum := 0, currency := 0, tenor := ({ kind := 0, n := 0, unit := 0 } : Tenor), day := 0, city := 0, pay := 0, need := 0, rate := 0, flags := 0, parts := 0 } : Bill), sign := ({ kind := 0, part := 0, who := 0, for_ := 0, to_ := 0, sum := 0, day := 0, city := 0, flags := 0 } : Sign), act := f.acts.getD i10.2 default, alter := ({ at_ := 0, sum := 0 } : Alter), fact := ({ kind := 0, at_ := 0, n := 0 } : Fact) } : Body)])]) (.andl (.t (Body.E.ones [({ kind := 2, bill := bill, index := ((i10.2 : Nat) : Int), paper := ({ drawer := 0, drawee := 0, payee := 0, sum := 0, currency := 0, tenor := ({ kind := 0, n := 0, unit := 0 } : Tenor), day := 0, city := 0, pay := 0, need := 0, rate := 0, flags := 0, parts := 0 } : Bill), sign := ({ kind := 0, part := 0, who := 0, for_ := 0, to_ := 0, sum := 0, day := 0, city := 0, flags := 0 } : Sign), act := f.acts.getD i10.2 default, alter := ({ at_ := 0, sum := 0 } : Alter), fact := ({ kind := 0, at_ := 0, n := 0 } : Fact) } : Body)])) (.p (szP i10.1.length [({ kind := 2, bill := bill, index := ((i10.2 : Nat) : Int), paper := ({ drawer := 0, drawee := 0, payee := 0, sum := 0, currency := 0, tenor := ({ kind := 0, n := 0, unit := 0 } : Tenor), day := 0, city := 0, pay := 0, need := 0, rate := 0, flags := 0, parts := 0 } : Bill), sign := ({ kind := 0, part := 0, who := 0, for_ := 0, to_ := 0, sum := 0, day := 0, city := 0, flags := 0 } : Sign), act := f.acts.getD i10.2 default, alter := ({ at_ := 0, sum := 0 } : Alter), fact := ({ kind := 0, at_ := 0, n := 0 } : Fact) } : Body)].length 328)))))) fun _ =>
 .r 15 .z fun _ =>
 .wi 15 (w64 (((i10.2 : Nat) : Int) + 1)) ((i10.2 + 1 : Nat) : Int) <|
 .fin (.inr (i10.1 ++ [({ kind := 2, bill := bill, index := ((i10.2 : Nat) : Int), paper := ({ drawer := 0, drawee := 0, payee := 0, sum := 0, currency := 0, tenor := ({ kind := 0, n := 0, unit := 0 } : Tenor), day := 0, city := 0, pay := 0, need := 0, rate := 0, flags := 0, parts := 0 } : Bill), sign := ({ kind := 0, part := 0, who := 0, for_ := 0, to_ := 0, sum := 0, day := 0, city := 0, flags := 0 } : Sign), act := f.acts.getD i10.2 default, alter := ({ at_ := 0, sum := 0 } : Alter), fact := ({ kind := 0, at_ := 0, n := 0 } : Fact) } : Body)], i10.2 + 1)))
 (.fin (.inl (.inr i10.1))))
 (fun (b9 : (List Body)) => ⟨[(12, ow 100007 b9)], [(100007, rowB 35 41 Body.cells b9)]⟩) fun b9 =>
 .bind true (fun b11 => b11 = ((((bBill f bill :: (List.range (f.signs.length - 1)).map fun i => bSign f bill (i + 1)) ++ (List.range f.alters.length).map (bAlt f bill)) ++ (List.range f.acts.length).map (bAct f bill)) ++ f.facts.map (bFact bill)))
 (.loop (default : Sum (Bool) ((List Body))) (fun i12 => i12.2 ≤ f.facts.length ∧ i12.1 = (((bBill f bill :: (List.range (f.signs.length - 1)).map fun i => bSign f bill (i + 1)) ++ (List.range f.alters.length).map (bAlt f bill)) ++ (List.range f.acts.length).map (bAct f bill)) ++ (f.facts.take i12.2).map (bFact bill)) (fun i12 => f.facts.length - i12.2) ((b9, 0) : (List Body) × Nat)
 (fun (i12 : (List Body) × Nat) => ⟨[(12, ow 100011 i12.1), (16, iv ((i12.2 : Nat) : Int))], [(100011, rowB 35 41 Body.cells i12.1)]⟩) fun i12 =>
 .lt 6 18 i12.2 f.facts.length
 (.r 20 (.andl (.p (ixP ((i12.2 : Nat) : Int) f.facts.length)) (.andl (.o [.nrm (litC Body.E [({ kind := 4, bill := bill, index := 0, paper := ({ drawer := 0, drawee := 0, payee := 0, sum := 0, currency := 0, tenor := ({ kind := 0, n := 0, unit := 0 } : Tenor), day := 0, city := 0, pay := 0, need := 0, rate := 0, flags := 0, parts := 0 } : Bill), sign := ({ kind := 0, part := 0, who := 0, for_ := 0, to_ := 0, sum := 0, day := 0, city := 0, flags := 0 } : Sign), act := ({ kind := 0, who := 0, to_ := 0, part := 0, at_ := 0, sum := 0, day := 0, city := 0, form := 0 } : ActX), alter := ({ at_ := 0, sum := 0 } : Alter), fact := f.facts.getD i12.2 default } : Body)])]) (.andl (.o [.nrm (catC Body.E i12.1 [({ kind := 4, bill := bill, index := 0, paper := ({ drawer := 0, drawee := 0, payee := 0, sum := 0, currency := 0, tenor := ({ kind := 0, n := 0, unit := 0 } : Tenor), day := 0, city := 0, pay := 0, need := 0, rate := 0, flags := 0, parts := 0 } : Bill), sign := ({ kind := 0, part := 0, who := 0, for_ := 0, to_ := 0, sum := 0, day := 0, city := 0, flags := 0 } : Sign), act := ({ kind := 0, who := 0, to_ := 0, part := 0, at_ := 0, sum := 0, day := 0, city := 0, form := 0 } : ActX), alter := ({ at_ := 0, sum := 0 } : Alter), fact := f.facts.getD i12.2 default } : Body)])]) (.andl (.t (Body.E.ones [({ kind := 4, bill := bill, index := 0, paper := ({ drawer := 0, drawee := 0, payee := 0, sum := 0, currency := 0, tenor := ({ kind := 0, n := 0, unit := 0 } : Tenor), day := 0, city := 0, pay := 0, need := 0, rate := 0, flags := 0, parts := 0 } : Bill), sign := ({ kind := 0, part := 0, who := 0, for_ := 0, to_ := 0, sum := 0, day := 0, city := 0, flags := 0 } : Sign), act := ({ kind := 0, who := 0, to_ := 0, part := 0, at_ := 0, sum := 0, day := 0, city := 0, form := 0 } : ActX), alter := ({ at_ := 0, sum := 0 } : Alter), fact := f.facts.getD i12.2 default } : Body)])) (.p (szP i12.1.length [({ kind := 4, bill := bill, index := 0, paper := ({ drawer := 0, drawee := 0, payee := 0, sum := 0, currency := 0, tenor := ({ kind := 0, n := 0, unit := 0 } : Tenor), day := 0, city := 0, pay := 0, need := 0, rate := 0, flags := 0, parts := 0 } : Bill), sign := ({ kind := 0, part := 0, who := 0, for_ := 0, to_ := 0, sum := 0, day := 0, city := 0, flags := 0 } : Sign), act := ({ kind := 0, who := 0, to_ := 0, part := 0, at_ := 0, sum := 0, day := 0, city := 0, form := 0 } : ActX), alter := ({ at_ := 0, sum := 0 } : Alter), fact := f.facts.getD i12.2 default } : Body)].length 328)))))) fun _ =>
 .r 19 .z fun _ =>
 .wi 16 (w64 (((i12.2 : Nat) : Int) + 1)) ((i12.2 + 1 : Nat) : Int) <|
 .fin (.inr (i12.1 ++ [({ kind := 4, bill := bill, index := 0, paper := ({ drawer := 0, drawee := 0, payee := 0, sum := 0, currency := 0, tenor := ({ kind := 0, n := 0, unit := 0 } : Tenor), day := 0, city := 0, pay := 0, need := 0, rate := 0, flags := 0, parts := 0 } : Bill), sign := ({ kind := 0, part := 0, who := 0, for_ := 0, to_ := 0, sum := 0, day := 0, city := 0, flags := 0 } : Sign), act := ({ kind := 0, who := 0, to_ := 0, part := 0, at_ := 0, sum := 0, day := 0, city := 0, form := 0 } : ActX), alter := ({ at_ := 0, sum := 0 } : Alter), fact := f.facts.getD i12.2 default } : Body)], i12.2 + 1)))
 (.fin (.inl (.inr i12.1))))
 (fun (b11 : (List Body)) => ⟨[(12, ow 100010 b11)], [(100010, rowB 35 41 Body.cells b11)]⟩) fun b11 =>
 .br (decide (((b11.length : Nat) : Int) > 60))
 (.fin x1)
 (.r 23 (.andl (.p ((3 : Int) ≠ 0)) (.p ((3 : Int) ≠ 0))) fun _ =>
 .r 24 (.andl (.p ((2 : Int) ≠ 0)) (.andl (.p ((2 : Int) ≠ 0)) (.p ((3 : Int) ≠ 0)))) fun _ =>
 .bind true (fun b13 => b13 = arrW (oneW a) (twoW a b) f b11 b11.length)
 (.loop (default : Sum (Bool) ((List Arrival))) (fun i14 => i14.2 ≤ b11.length ∧ i14.1 = arrW (oneW a) (twoW a b) f b11 i14.2) (fun i14 => b11.length - i14.2) (([], 0) : (List Arrival) × Nat)
 (fun (i14 : (List Arrival) × Nat) => ⟨[(19, ow 100014 i14.1), (20, iv ((i14.2 : Nat) : Int))], [(100014, rowB 70 46 Arrival.cells i14.1)]⟩) fun i14 =>
 .lt 12 0 i14.2 b11.length
 (.r 30 (.andl (.p (ixP ((i14.2 : Nat) : Int) b11.length)) (.p (i14.2 < b11.length))) fun _ =>
 .bind false (fun _ => True)
 (.br (((b11.getD i14.2 default).kind) == 1)
 (.r 31 (.andl (.p (ixP ((i14.2 : Nat) : Int) b11.length)) (.p (i14.2 < b11.length))) fun _ =>
 .fin (.inr (((b11.getD i14.2 default).sign).day)))
 (.fin (.inr f.bill.day)))
 (fun (b15 : Int) => ⟨[(21, iv b15)], []⟩) fun b15 =>
 .r 32 (.andl (.p (ixP ((i14.2 : Nat) : Int) b11.length)) (.p (i14.2 < b11.length))) fun _ =>
 .bind false (fun _ => True)
 (.br (((b11.getD i14.2 default).kind) == 2)
 (.r 33 (.andl (.p (ixP ((i14.2 : Nat) : Int) b11.length)) (.p (i14.2 < b11.length))) fun _ =>
 .fin (.inr (((b11.getD i14.2 default).act).day)))
 (.fin (.inr b15)))
 (fun (b16 : Int) => ⟨[(21, iv b16)], []⟩) fun b16 =>
 .r 34 (.andl (.p (ixP ((i14.2 : Nat) : Int) b11.length)) (.p (i14.2 < b11.length))) fun _ =>
 .r 35 ((report_Right_k ({ reporter := 0, no := ((i14.2 : Nat) : Int), day := b16, body := b11.getD i14.2 default } : Report)).c) fun x17 =>
 .br (!x17)
 (.fin (.inl (.inl false)))
 (.r 37 (.depr ((allongelaw50_at_k ((w64 ((a.tmod 3) + 3)).tmod 3) 100000 ({ reporter := 0, no := ((i14.2 : Nat) : Int), day := b16, body := b11.getD i14.2 default } : Report)).c) fun x18 => .andl (.o [.nrm (litC Arrival.E [x18])]) (.andl (.o [.nrm (catC Arrival.E i14.1 [x18])]) (.andl (.t (Arrival.E.ones [x18])) (.p (szP i14.1.length [x18].length 368))))) fun x18 =>
 .r 38 (.depr ((allongelaw50_at_k ((w64 ((w64 (((w64 ((a.tmod 3) + 3)).tmod 3) + 1)) + ((w64 ((b.tmod 2) + 2)).tmod 2))).tmod 3) 100000 ({ reporter := 0, no := ((i14.2 : Nat) : Int), day := b16, body := b11.getD i14.2 default } : Report)).c) fun x19 => .andl (.o [.nrm (litC Arrival.E [x19])]) (.andl (.o [.nrm (catC Arrival.E (i14.1 ++ [x18]) [x19])]) (.andl (.t (Arrival.E.ones [x19])) (.p (szP ((i14.1 ++ [x18]).length) [x19].length 368))))) fun x19 =>
 .nx 28 20 i14.2 ((i14.1 ++ [x18]) ++ [x19], i14.2 + 1)))
 (.fin (.inl (.inr i14.1))))
 (fun (b13 : (List Arrival)) => ⟨[(19, ow 100013 b13)], [(100013, rowB 70 46 Arrival.cells b13)]⟩) fun b13 =>
 .fz 100013 <|
 .r 39 ((report_File_k r b13 bill 100000).c) fun x20 =>
 .r 40 (.dep (.wh (x1 && x20.2) true ((allongeref14_Same_k f x20.1).c)) fun x21 => .wh ((x1 && x20.2) && x21) true ((report_Known_k b13 100000).c)) fun p23 =>
 .fin (((x1 && x20.2) && p23.1) && (((p23.2.length : Nat) : Int) == ((b11.length : Nat) : Int)))))
noncomputable def allongelaw50_ReportWhole r f bill a b := (allongelaw50_ReportWhole_sk r f bill a b).val
theorem allongelaw50_ReportWhole_pst (r : Realm) (f : File) (bill : Int) (a : Int) (b : Int) (hP : f.J) : (allongelaw50_ReportWhole_sk r f bill a b).pst (fun (x : Bool) => x = true) := by
  unfold allongelaw50_ReportWhole_sk
  have hJ := hP
  have st : ∀ {i n : Nat}, decide ((i : Int) < (n : Int)) = true → i < n := fun h => by have h := of_decide_eq_true h; omega
  have sf : ∀ {i n : Nat}, decide ((i : Int) < (n : Int)) = false → n ≤ i := fun h => by have h := of_decide_eq_false h; omega
  refine fun x1 e1 _ => ?_
  have e1 : x1 = true := (show x1 = allongelaw50_sane from e1).trans sane_true
  refine fun p24 hp _ => ⟨fun _ => e1, fun hc => ?_⟩
  have hp : p24 = (allongeref09_Few r, allongeref12_Few f, paper_Check r f) := hp
  subst hp
  simp only [Bool.or_eq_false_iff, Bool.not_eq_false', bne_eq_false_iff_eq, decide_eq_false_iff_not] at hc
  obtain ⟨⟨⟨⟨c1, -⟩, c3⟩, c4⟩, c5⟩ := hc
  obtain ⟨hr, hR⟩ := ref_realm c1 c3
  have hB : 0 ≤ bill ∧ bill < 50 := by omega
  have hl := hR.2.1
  refine fun _ _ _ => ⟨⟨⟨by show (1 : Int) ≤ 1; decide, by show (1 : Int) ≤ (f.signs.length : Int); omega, rfl⟩, fun i6 h6 => ⟨fun hc => fun _ _ _ => sgn_step h6 (of_decide_eq_true hc) (by omega), fun hc => sgn_end h6 (of_decide_eq_false hc)⟩⟩, fun b5 _ h5 => ?_⟩
  have h5 : b5 = _ := h5
  subst h5
  refine ⟨⟨⟨Nat.zero_le _, by simp⟩, fun i8 h8 => ⟨fun hc => fun _ _ _ => fun _ _ _ => ⟨⟨by have := st hc; show i8.2 + 1 ≤ f.alters.length; omega, snoc_step h8.2⟩, by have := st hc; show f.alters.length - (i8.2 + 1) < f.alters.length - i8.2; omega⟩, fun hc => ?_⟩⟩, fun b7 _ h7 => ?_⟩
  · have hc := sf hc
    have e : i8.2 = f.alters.length := Nat.le_antisymm h8.1 hc
    have := h8.2
    rw [e] at this
    exact this
  have h7 : b7 = _ := h7
  subst h7
  refine ⟨⟨⟨Nat.zero_le _, by simp⟩, fun i10 h10 => ⟨fun hc => fun _ _ _ => fun _ _ _ => ⟨⟨by have := st hc; show i10.2 + 1 ≤ f.acts.length; omega, snoc_step h10.2⟩, by have := st hc; show f.acts.length - (i10.2 + 1) < f.acts.length - i10.2; omega⟩, fun hc => ?_⟩⟩, fun b9 _ h9 => ?_⟩
  · have hc := sf hc
    have e : i10.2 = f.acts.length := Nat.le_antisymm h10.1 hc
    have := h10.2
    rw [e] at this
    exact this
  have h9 : b9 = _ := h9
  subst h9
  refine ⟨⟨⟨Nat.zero_le _, by simp⟩, fun i12 h12 => ⟨fun hc => fun _ _ _ => fun _ _ _ => ⟨⟨by have := st hc; show i12.2 + 1 ≤ f.facts.length; omega, fact_step h12.2 (st hc)⟩, by have := st hc; show f.facts.length - (i12.2 + 1) < f.facts.length - i12.2; omega⟩, fun hc => ?_⟩⟩, fun b11 _ h11 => ?_⟩
  · have hc := sf hc
    have := h12.2
    rw [List.take_of_length_le hc] at this
    exact this
  have h11 : b11 = bodiesP f bill := (show b11 = _ from h11).trans (B4_eq f bill)
  subst h11
  refine ⟨fun _ => e1, fun hc => ?_⟩
  have hl6 : (bodiesP f bill).length ≤ 60 := by have hc := of_decide_eq_false hc; omega
  obtain ⟨w1, w2, w3⟩ := reg_W a b
  refine fun _ _ _ => fun _ _ _ => ⟨⟨⟨Nat.zero_le _, rfl⟩, fun i14 h14 => ⟨fun hc => ?_, fun hc => ?_⟩⟩, fun b13 _ h13 => ?_⟩
  · have hc := st hc
    refine fun _ _ _ => ⟨⟨fun _ => fun _ _ _ => trivial, fun _ => trivial⟩, fun b15 e15 _ => fun _ _ _ => ⟨⟨fun _ => fun _ _ _ => trivial, fun _ => trivial⟩, fun b16 e16 _ => fun _ _ _ => fun x17 e17 _ => ?_⟩⟩
    have e15 := val_br2 e15
    have e16 := val_br2 e16
    have hd : b16 = dayW f ((bodiesP f bill).getD i14.2 default) := by rw [e16, e15]; rfl
    refine ⟨fun h17 => ?_, fun _ => fun x18 e18 _ => fun x19 e19 _ => fun _ _ _ => ⟨⟨by show i14.2 + 1 ≤ (bodiesP f bill).length; omega, ?_⟩, by show (bodiesP f bill).length - (i14.2 + 1) < (bodiesP f bill).length - i14.2; omega⟩⟩
    · have e17 : x17 = report_Right { reporter := 0, no := ((i14.2 : Nat) : Int), day := b16, body := (bodiesP f bill).getD i14.2 default } := e17
      have := right_rep hR hB hc hl6
      unfold repW at this
      rw [← hd, ← e17] at this
      rw [this] at h17
      cases h17
    · show (i14.1 ++ [x18]) ++ [x19] = _
      rw [show x18 = allongelaw50_at (oneW a) 100000 _ from e18, show x19 = allongelaw50_at (twoW a b) 100000 _ from e19]
      exact arr_step h14.2 hd
  · have hc := sf hc
    have e : i14.2 = (bodiesP f bill).length := Nat.le_antisymm h14.1 hc
    have := h14.2
    rw [e] at this
    exact this
  have h13 : b13 = arrW (oneW a) (twoW a b) f (bodiesP f bill) (bodiesP f bill).length := h13
  subst h13
  refine fun x20 e20 _ => fun p23 e23 _ => ?_
  have e20 : x20 = report_File r (arrW (oneW a) (twoW a b) f (bodiesP f bill) (bodiesP f bill).length) bill 100000 := e20
  have e23 : p23 = (allongeref14_Same f x20.1, report_Known (arrW (oneW a) (twoW a b) f (bodiesP f bill) (bodiesP f bill).length) 100000) := e23
  show (((x1 && x20.2) && p23.1) && (((p23.2.length : Nat) : Int) == (((bodiesP f bill).length : Nat) : Int))) = true
  rw [e1, e23, e20]
  exact whole_law hR c3 hJ hB hl6 w1 w2 w3

theorem allongelaw50_ReportWhole_post (r : Realm) (f : File) (bill : Int) (a : Int) (b : Int) : (fun (x : Bool) => (f.J) → (x = true)) (allongelaw50_ReportWhole r f bill a b) := fun hP => have h := Sk.pval _ (allongelaw50_ReportWhole_pst r f bill a b hP); h
theorem allongelaw50_ReportWhole_ok (r : Realm) (f : File) (bill : Int) (a : Int) (b : Int) (hJ : f.J) : (allongelaw50_ReportWhole_sk r f bill a b).obs (fun _ => True) := by
  unfold allongelaw50_ReportWhole_sk
  have st : ∀ {i n : Nat}, decide ((i : Int) < (n : Int)) = true → i < n := fun h => by have h := of_decide_eq_true h; omega
  have sf : ∀ {i n : Nat}, decide ((i : Int) < (n : Int)) = false → n ≤ i := fun h => by have h := of_decide_eq_false h; omega
  have w : ∀ {i n : Nat}, i < n → n ≤ 1000000 → w64 ((i : Int) + 1) = ((i + 1 : Nat) : Int) := fun h h' => by rw [w64_id (by omega) (by omega)]; omega
  have sz : ∀ {n m : Nat}, n + m ≤ 1000 → szP n m 368 := fun h => by simp only [szP, maxLen]; omega
  have sb : ∀ {n m : Nat}, n + m ≤ 1000 → szP n m 328 := fun h => by simp only [szP, maxLen]; omega
  have ix : ∀ {i n : Nat}, i < n → ixP (i : Int) n := fun h => ⟨by omega, by omega⟩
  refine ⟨trivial, fun x1 _ _ => ⟨⟨trivial, fun x2 _ k2 => ⟨fun _ => trivial, fun x3 _ _ => fun h => k2 (by cases x2 <;> simp_all)⟩⟩, fun p24 hp _ => ⟨fun _ => trivial, fun hc => ?_⟩⟩⟩
  have hp : p24 = (allongeref09_Few r, allongeref12_Few f, paper_Check r f) := hp
  subst hp
  simp only [Bool.or_eq_false_iff, Bool.not_eq_false', bne_eq_false_iff_eq, decide_eq_false_iff_not] at hc
  obtain ⟨⟨⟨⟨c1, -⟩, c3⟩, c4⟩, c5⟩ := hc
  obtain ⟨hr, hR⟩ := ref_realm c1 c3
  have hB : 0 ≤ bill ∧ bill < 50 := by omega
  have hl := hR.2.1
  refine ⟨⟨⟨by decide, by show (0 : Int) < (f.signs.length : Int); omega⟩, trivial⟩, fun _ _ _ => ⟨⟨⟨by show (1 : Int) ≤ 1; decide, by show (1 : Int) ≤ (f.signs.length : Int); omega, rfl⟩, fun i6 h6 => ⟨fun hc => ⟨⟨⟨by omega, of_decide_eq_true hc⟩, trivial, trivial, trivial, sb ?_⟩, fun _ _ _ => sgn_step h6 (of_decide_eq_true hc) (by omega)⟩, fun hc => sgn_end h6 (of_decide_eq_false hc)⟩⟩, fun b5 _ h5 => ?_⟩⟩
  · rw [h6.2.2]
    have := of_decide_eq_true hc
    simp only [List.length_cons, List.length_map, List.length_range, List.length_nil]
    omega
  have h5 : b5 = _ := h5
  subst h5
  refine ⟨⟨⟨Nat.zero_le _, by simp⟩, fun i8 h8 _ => ⟨fun hc => ⟨⟨ix (st hc), trivial, trivial, trivial, sb ?_⟩, fun _ _ _ => ⟨trivial, fun _ _ _ => ⟨w (st hc) (by omega), ⟨by have := st hc; show i8.2 + 1 ≤ f.alters.length; omega, snoc_step h8.2⟩, by have := st hc; show f.alters.length - (i8.2 + 1) < f.alters.length - i8.2; omega⟩⟩⟩, fun hc => ?_⟩⟩, fun b7 _ h7 => ?_⟩
  · rw [h8.2]
    have := st hc
    simp only [List.length_cons, List.length_append, List.length_map, List.length_range, List.length_nil]
    omega
  · have hc := sf hc
    have e : i8.2 = f.alters.length := Nat.le_antisymm h8.1 hc
    have := h8.2
    rw [e] at this
    exact this
  have h7 : b7 = _ := h7
  subst h7
  refine ⟨⟨⟨Nat.zero_le _, by simp⟩, fun i10 h10 _ => ⟨fun hc => ⟨⟨ix (st hc), trivial, trivial, trivial, sb ?_⟩, fun _ _ _ => ⟨trivial, fun _ _ _ => ⟨w (st hc) (by omega), ⟨by have := st hc; show i10.2 + 1 ≤ f.acts.length; omega, snoc_step h10.2⟩, by have := st hc; show f.acts.length - (i10.2 + 1) < f.acts.length - i10.2; omega⟩⟩⟩, fun hc => ?_⟩⟩, fun b9 _ h9 => ?_⟩
  · rw [h10.2]
    have := st hc
    simp only [List.length_cons, List.length_append, List.length_map, List.length_range, List.length_nil]
    omega
  · have hc := sf hc
    have e : i10.2 = f.acts.length := Nat.le_antisymm h10.1 hc
    have := h10.2
    rw [e] at this
    exact this
  have h9 : b9 = _ := h9
  subst h9
  refine ⟨⟨⟨Nat.zero_le _, by simp⟩, fun i12 h12 _ => ⟨fun hc => ⟨⟨ix (st hc), trivial, trivial, trivial, sb ?_⟩, fun _ _ _ => ⟨trivial, fun _ _ _ => ⟨w (st hc) (by omega), ⟨by have := st hc; show i12.2 + 1 ≤ f.facts.length; omega, fact_step h12.2 (st hc)⟩, by have := st hc; show f.facts.length - (i12.2 + 1) < f.facts.length - i12.2; omega⟩⟩⟩, fun hc => ?_⟩⟩, fun b11 _ h11 => ?_⟩
  · rw [h12.2]
    have := st hc
    simp only [List.length_cons, List.length_append, List.length_map, List.length_range, List.length_nil, List.length_take]
    omega
  · have hc := sf hc
    have := h12.2
    rw [List.take_of_length_le hc] at this
    exact this
  have h11 : b11 = bodiesP f bill := (show b11 = _ from h11).trans (B4_eq f bill)
  subst h11
  refine ⟨fun _ => trivial, fun hc => ?_⟩
  have hl6 : (bodiesP f bill).length ≤ 60 := by have hc := of_decide_eq_false hc; omega
  obtain ⟨w1, w2, w3⟩ := reg_W a b
  have n3 : (3 : Int) ≠ 0 := by decide
  have n2 : (2 : Int) ≠ 0 := by decide
  refine ⟨⟨n3, n3⟩, fun _ _ _ => ⟨⟨n2, n2, n3⟩, fun _ _ _ => ⟨⟨⟨Nat.zero_le _, rfl⟩, fun i14 h14 _ => ⟨fun hc => ?_, fun hc => ?_⟩⟩, fun b13 _ h13 => ?_⟩⟩⟩
  · have hc := st hc
    have e14 : i14.1.length = 2 * i14.2 := by rw [h14.2, arrW_len]
    refine ⟨⟨ix hc, hc⟩, fun _ _ _ => ⟨⟨fun _ => ⟨⟨ix hc, hc⟩, fun _ _ _ => trivial⟩, fun _ => trivial⟩, fun b15 e15 _ => ⟨⟨ix hc, hc⟩, fun _ _ _ => ⟨⟨fun _ => ⟨⟨ix hc, hc⟩, fun _ _ _ => trivial⟩, fun _ => trivial⟩, fun b16 e16 _ => ⟨⟨ix hc, hc⟩, fun _ _ _ => ⟨trivial, fun x17 e17 _ => ?_⟩⟩⟩⟩⟩⟩
    have e15 := val_br2 e15
    have e16 := val_br2 e16
    have hd : b16 = dayW f ((bodiesP f bill).getD i14.2 default) := by rw [e16, e15]; rfl
    refine ⟨fun h17 => trivial, fun _ => ⟨⟨trivial, fun _ _ _ => ⟨trivial, trivial, trivial, sz (by show i14.1.length + 1 ≤ 1000; omega)⟩⟩, fun x18 e18 _ => ⟨⟨trivial, fun _ _ _ => ⟨trivial, trivial, trivial, sz (by show (i14.1 ++ [x18]).length + 1 ≤ 1000; simp; omega)⟩⟩, fun x19 e19 _ => ⟨trivial, fun _ _ _ => ⟨w hc (by omega), ⟨by show i14.2 + 1 ≤ (bodiesP f bill).length; omega, ?_⟩, by show (bodiesP f bill).length - (i14.2 + 1) < (bodiesP f bill).length - i14.2; omega⟩⟩⟩⟩⟩
    show (i14.1 ++ [x18]) ++ [x19] = _
    rw [show x18 = allongelaw50_at (oneW a) 100000 _ from e18, show x19 = allongelaw50_at (twoW a b) 100000 _ from e19]
    exact arr_step h14.2 hd
  · have hc := sf hc
    have e : i14.2 = (bodiesP f bill).length := Nat.le_antisymm h14.1 hc
    have := h14.2
    rw [e] at this
    exact this
  have h13 : b13 = arrW (oneW a) (twoW a b) f (bodiesP f bill) (bodiesP f bill).length := h13
  subst h13
  have hI : ∀ q, q ∈ arrW (oneW a) (twoW a b) f (bodiesP f bill) (bodiesP f bill).length → q.report.I64 := fun q hq => by
    obtain ⟨i, hi, h' | h'⟩ := mem_arrW.1 hq
    · rw [h']; exact rep_I64 hR hJ hB hi hl6
    · rw [h']; exact rep_I64 hR hJ hB hi hl6
  exact ⟨⟨hI, hr⟩, fun x20 _ _ => ⟨⟨fun _ => trivial, fun x21 _ _ => fun _ => hI⟩, fun _ _ _ => trivial⟩⟩

noncomputable def allongelaw50_ReportWhole_k r f bill a b := kk tok mixed Tryz.func4 [av r.cells, av f.cells, iv bill, iv a, iv b] (fun x => bv x) true (allongelaw50_ReportWhole_sk r f bill a b) (allongelaw50_ReportWhole r f bill a b) (allongelaw50_ReportWhole_ok r f bill a b) (fun (x : Bool) => (f.J) → (x = true)) (allongelaw50_ReportWhole_post r f bill a b)
theorem allongelaw50_ReportWhole_fn (r : Realm) (f : File) (bill : Int) (a : Int) (b : Int) (hJ : f.J) : FnA Tryz.prog 4 [av r.cells, av f.cells, iv bill, iv a, iv b] [] (bv (allongelaw50_ReportWhole r f bill a b)) [] := (allongelaw50_ReportWhole_k r f bill a b).pf hJ
end Go.Proofs.YtihmmpaalpghbaaGreatDoor

