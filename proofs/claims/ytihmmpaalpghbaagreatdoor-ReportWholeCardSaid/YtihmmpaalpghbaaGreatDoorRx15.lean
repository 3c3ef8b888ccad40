/- Functions, as sketches. -/
import Derived.Test.YtihmmpaalpghbaaGreatDoorRx14
namespace Go.Proofs.YtihmmpaalpghbaaGreatDoor
open Go Go.Av
set_option linter.unusedSimpArgs false
set_option linter.unusedVariables false
set_option maxHeartbeats 1000000
set_option maxRecDepth 100000
theorem cmp_val (x y : Int) : cmp_Compare x y = if x < y then -1 else if x > y then 1 else 0 := by
  have h : ∀ x : Int, cmp_isNaN x = false := fun x => by
    have : cmp_isNaN x = (x != x) := rfl
    rw [this]; simp
  simp only [cmp_Compare, cmp_Compare_sk, Sk.val_br, Sk.val_r, Sk.val_fin, Ctr.c_v, kk, kp, cmp_isNaN_k, h, cond_false, Bool.cond_eq_ite, decide_eq_true_eq]
  simp only [if_neg Bool.false_ne_true]
theorem or2_val (a b : Int) : cmp_Or [a, b] = if a ≠ 0 then a else b := by
  simp only [cmp_Or, cmp_Or_sk, Sk.val_bind, Sk.val_loop, Sk.val_bnd, Sk.val_br, Sk.val_r, Sk.val_wi, Sk.val_fin, Ctr.c_v, kk, kp]
  refine (pick_iter_walk [a, b] (fun s i => i) (fun x (_ : Unit) => bif x != 0 then .inl x else .inr ()) id _ (fun s i hi => ?_) (fun s => ?_) (by simp) ()).trans ?_
  · have h2 : ((i : Nat) : Int) < (([a, b].length : Nat) : Int) := by omega
    rw [decide_eq_true h2, cond_true]
    cases (([a, b].getD i default) != 0) <;> rfl
  · rw [decide_eq_false (by simp), cond_false]
  · simp only [walk]
    by_cases h : a = 0
    · have : (a != 0) = false := by simp [h]
      rw [this]
      by_cases h2 : b = 0
      · have : (b != 0) = false := by simp [h2]
        rw [this]; simp [h, h2]
      · have : (b != 0) = true := by simp [h2]
        rw [this]; simp [h]
    · have : (a != 0) = true := by simp [h]
      rw [this]; simp [h]
theorem or_pos (a b c d : Int) : cmp_Or [cmp_Compare a b, cmp_Compare c d] > 0 ↔ (a > b ∨ (a = b ∧ c > d)) := by
  rw [or2_val, cmp_val, cmp_val]
  (repeat' split) <;> omega
theorem or_nneg (a b c d : Int) : cmp_Or [cmp_Compare a b, cmp_Compare c d] ≥ 0 ↔ ¬ (a < b ∨ (a = b ∧ c < d)) := by
  rw [or2_val, cmp_val, cmp_val]
  (repeat' split) <;> omega
/-- facts in order -/
def FLt (x y : Fact) : Prop := x.at_ < y.at_ ∨ (x.at_ = y.at_ ∧ x.kind < y.kind)
def FIn (n : Nat) (x : Fact) : Prop := (0 ≤ x.kind ∧ x.kind ≤ 4) ∧ (0 ≤ x.at_ ∧ x.at_ < (n : Int)) ∧ (x.n = 0 ∨ x.n = 1)
def FOK (n : Nat) (F : List Fact) : Prop := (∀ x, x ∈ F → FIn n x) ∧ F.Pairwise FLt
theorem FOK.push {n : Nat} {F : List Fact} {i : Nat} (h : FOK n (F.take i)) (hi : i < F.length) (hx : FIn n (F.getD i default)) (hl : i ≠ 0 → FLt (F.getD (i - 1) default) (F.getD i default)) : FOK n (F.take (i + 1)) := by
  have e : F.getD i default = F[i] := by simp [List.getD, hi]
  rw [e] at hx hl
  rw [List.take_succ_eq_append_getElem hi]
  refine ⟨fun x hm => ?_, List.pairwise_append.2 ⟨h.2, List.pairwise_singleton _ _, fun a ha b hb => ?_⟩⟩
  · rcases List.mem_append.1 hm with hm | hm
    · exact h.1 x hm
    · rw [List.mem_singleton] at hm; rw [hm]; exact hx
  · rw [List.mem_singleton] at hb
    subst hb
    by_cases h0 : i = 0
    · subst h0; simp at ha
    · have hl := hl h0
      have e2 : F.getD (i - 1) default = F[i - 1] := by simp [List.getD, show i - 1 < F.length by omega]
      rw [e2] at hl
      have e3 : F.take i = F.take (i - 1) ++ [F[i - 1]] := by
        have := List.take_succ_eq_append_getElem (show i - 1 < F.length by omega)
        rwa [show i - 1 + 1 = i by omega] at this
      rw [e3] at ha
      rcases List.mem_append.1 ha with ha | ha
      · have hp := h.2
        rw [e3] at hp
        have := (List.pairwise_append.1 hp).2.2 a ha F[i - 1] (by simp)
        unfold FLt at this hl ⊢
        omega
      · rw [List.mem_singleton] at ha; rw [ha]; exact hl
theorem FOK.at_ {n : Nat} {F : List Fact} (h : FOK n F) {i : Nat} (hi : i < F.length) : FIn n (F.getD i default) ∧ (i ≠ 0 → FLt (F.getD (i - 1) default) (F.getD i default)) := by
  have e : ∀ j (hj : j < F.length), F.getD j default = F[j] := fun j hj => by simp [List.getD, hj]
  refine ⟨h.1 _ (lget_mem hi _), fun h0 => ?_⟩
  rw [e _ hi, e _ (by omega)]
  exact List.pairwise_iff_getElem.1 h.2 _ _ _ _ (by omega)
theorem or_lt (x y : Fact) : cmp_Or [cmp_Compare x.at_ y.at_, cmp_Compare x.kind y.kind] ≥ 0 ↔ ¬ FLt x y := or_nneg _ _ _ _
noncomputable def paper_facts_sk (f : File) : Sk (Int) :=
 .bind true (fun b1 => ((f.signs.length ≤ 1000000 ∧ f.facts.length ≤ 1000000) → FOK f.signs.length f.facts))
 (.loop (default : Sum (Int) (Unit)) (fun i2 => i2 ≤ f.facts.length ∧ ((f.signs.length ≤ 1000000 ∧ f.facts.length ≤ 1000000) → FOK f.signs.length (f.facts.take i2))) (fun i2 => f.facts.length - i2) (0 : Nat)
 (fun (i2 : Nat) => ⟨[(9, iv ((i2 : Nat) : Int))], []⟩) fun i2 =>
 .lt 7 0 i2 f.facts.length
 (.r 3 (.p (ixP ((i2 : Nat) : Int) f.facts.length)) fun _ =>
 .r 4 (.dep ((paper_in_k ((f.facts.getD i2 default).kind) 0 4).c) fun x3 => .dep (.wh (!x3) false ((paper_in_k ((f.facts.getD i2 default).at_) 0 (w64 (((f.signs.length : Nat) : Int) - 1))).c)) fun x4 => .wh ((!x3) || (!x4)) false ((paper_in_k ((f.facts.getD i2 default).n) 0 1).c)) fun p10 =>
 .br (((!p10.1) || (!p10.2.1)) || (!p10.2.2))
 (.fin (.inl (.inl 1)))
 (.br (((i2 : Nat) : Int) == 0)
 (.nx 10 9 i2 (i2 + 1))
 (.r 7 (.p (ixP (w64 (((i2 : Nat) : Int) - 1)) f.facts.length)) fun _ =>
 .r 8 (.dep ((cmp_Compare_k ((f.facts.getD ((w64 (((i2 : Nat) : Int) - 1)).toNat) default).at_) ((f.facts.getD i2 default).at_)).c) fun x6 => .dep ((cmp_Compare_k ((f.facts.getD ((w64 (((i2 : Nat) : Int) - 1)).toNat) default).kind) ((f.facts.getD i2 default).kind)).c) fun x7 => .andl (.o [.nrm (litC intE [x6, x7])]) ((cmp_Or_k [x6, x7]).c)) fun p9 =>
 .br (decide (p9.2.2 ≥ 0))
 (.fin (.inl (.inl 5)))
 (.nx 10 9 i2 (i2 + 1)))))
 (.fin (.inl (.inr ()))))
 (fun (_ : Unit) => ⟨[], []⟩) fun _ =>
 .fin 0
noncomputable def paper_facts f := (paper_facts_sk f).val
theorem paper_facts_pst (f : File) (hP : f.signs.length ≤ 1000000 ∧ f.facts.length ≤ 1000000) : (paper_facts_sk f).pst (fun (x : Int) => x = 0 ↔ FOK f.signs.length f.facts) := by
  refine Sk.pst_of _ ?_
  unfold paper_facts_sk
  simp only [Sk.pstq, Sk.isLoop, reduceCtorEq, ON, kk, kp, cmp_Compare_k, cmp_Or_k, paper_in_k, paper_in_eq, forall_eq, maxLen]
  refine ⟨⟨⟨Nat.zero_le _, fun _ => ⟨fun x hx => by simp at hx, by simp⟩⟩, fun i hi => ⟨fun hc _ => ⟨fun h => ?_, fun h => ⟨fun h0 _ => ⟨⟨?_, fun _ => ?_⟩, ?_⟩, fun h0 _ => ⟨fun hd => ?_, fun hd _ => ⟨⟨?_, fun _ => ?_⟩, ?_⟩⟩⟩⟩, fun hc _ => ?_⟩⟩, fun _ hb => ⟨fun _ => hb hP, fun _ => trivial⟩⟩
  all_goals simp only [LN] at hc
  all_goals try omega
  · refine ⟨fun e => absurd e (by omega), fun hF => ?_⟩
    have := (hF.at_ (show i < f.facts.length by omega)).1
    unfold FIn at this
    simp only [LN] at h
    rw [w64_id (by omega) (by omega)] at h
    omega
  · have hx : FIn f.signs.length (f.facts.getD i default) := by
      unfold FIn
      simp only [LN] at h
      rw [w64_id (by omega) (by omega)] at h
      omega
    exact (hi.2 hP).push (by omega) hx (fun hn => absurd (by simpa using h0) hn)
  · have hn : i ≠ 0 := by simpa using h0
    refine ⟨fun e => absurd e (by omega), fun hF => ?_⟩
    have hl := (hF.at_ (show i < f.facts.length by omega)).2 hn
    rw [w64_id (by omega) (by omega), show ((i : Int) - 1).toNat = i - 1 by omega, decide_eq_true_eq, or_lt] at hd
    exact absurd hl hd
  · have hn : i ≠ 0 := by simpa using h0
    have hx : FIn f.signs.length (f.facts.getD i default) := by
      unfold FIn
      simp only [LN] at h
      rw [w64_id (by omega) (by omega)] at h
      omega
    rw [w64_id (by omega) (by omega), show ((i : Int) - 1).toNat = i - 1 by omega, decide_eq_false_iff_not, or_lt, Classical.not_not] at hd
    exact (hi.2 hP).push (by omega) hx (fun _ => hd)
  · have := hi.2 hP
    rwa [show i = f.facts.length by omega, List.take_length] at this

theorem paper_facts_post (f : File) : (fun (x : Int) => (f.signs.length ≤ 1000000 ∧ f.facts.length ≤ 1000000) → (x = 0 ↔ FOK f.signs.length f.facts)) (paper_facts f) := fun hP => have h := Sk.pval _ (paper_facts_pst f hP); h
theorem paper_facts_ok (f : File) : (paper_facts_sk f).obs (fun _ => True) := by
  refine Sk.obs_of _ ?_
  unfold paper_facts_sk
  simp only [Sk.obq, Sk.isLoop, reduceCtorEq, ON, kk, kp, cmp_Compare_k, cmp_Or_k, paper_in_k, paper_in_eq, forall_eq, maxLen]
  refine ⟨⟨Nat.zero_le _, fun _ => ⟨fun x hx => by simp at hx, by simp⟩⟩, fun i hi hm => ⟨fun hc => ⟨?_, fun _ h => ⟨fun h0 _ => ⟨?_, ⟨?_, fun hP => ?_⟩, ?_⟩, fun h0 => ⟨?_, fun _ hd _ => ⟨?_, ⟨?_, fun hP => ?_⟩, ?_⟩⟩⟩⟩, fun hc hP => ?_⟩⟩
  all_goals simp only [LN] at hc
  all_goals try omega
  · exact (w64_id (by omega) (by omega)).trans (by omega)
  · have hx : FIn f.signs.length (f.facts.getD i default) := by
      unfold FIn
      simp only [LN] at h
      rw [w64_id (by omega) (by omega)] at h
      omega
    exact (hi.2 hP).push (by omega) hx (fun hn => absurd (by simpa using h0) hn)
  · have hn : i ≠ 0 := by simpa using h0
    rw [w64_id (by omega) (by omega)]; omega
  · exact (w64_id (by omega) (by omega)).trans (by omega)
  · have hn : i ≠ 0 := by simpa using h0
    have hx : FIn f.signs.length (f.facts.getD i default) := by
      unfold FIn
      simp only [LN] at h
      rw [w64_id (by omega) (by omega)] at h
      omega
    rw [w64_id (by omega) (by omega), show ((i : Int) - 1).toNat = i - 1 by omega, decide_eq_false_iff_not, or_lt, Classical.not_not] at hd
    exact (hi.2 hP).push (by omega) hx (fun _ => hd)
  · have := hi.2 hP
    rwa [show i = f.facts.length by omega, List.take_length] at this

noncomputable def paper_facts_k f := kk tok mixed Tryz.func50 [av f.cells] (fun x => iv x) true (paper_facts_sk f) (paper_facts f) (u0 (paper_facts_ok f)) (fun (x : Int) => (f.signs.length ≤ 1000000 ∧ f.facts.length ≤ 1000000) → (x = 0 ↔ FOK f.signs.length f.facts)) (paper_facts_post f)
noncomputable def paper_Check_sk (r : Realm) (f : File) : Sk (Int) :=
 .br ((((decide (((f.signs.length : Nat) : Int) > 40)) || (decide (((f.alters.length : Nat) : Int) > 4))) || (decide (((f.acts.length : Nat) : Int) > 100))) || (decide (((f.facts.length : Nat) : Int) > 200)))
 (.fin 6)
 (.r 3 ((wording_Check_k r f.bill).c) fun x1 =>
 .br (x1 != 0)
 (.fin x1)
 (.br (((f.signs.length : Nat) : Int) == 0)
 (.fin 14)
 (.bind true (fun b2 => (r.firms.length ≤ 1000000 → ∀ q, q < f.signs.length → SgnOK r f q ∧ ToQ r f q))
 (.loop (default : Sum (Int) (Unit)) (fun i3 => i3 ≤ f.signs.length ∧ (r.firms.length ≤ 1000000 → ∀ q, q < i3 → SgnOK r f q ∧ ToQ r f q)) (fun i3 => f.signs.length - i3) (0 : Nat)
 (fun (i3 : Nat) => ⟨[(48, iv ((i3 : Nat) : Int))], []⟩) fun i3 =>
 .lt 3 15 i3 f.signs.length
 (.r 11 ((paper_sign_k r f ((i3 : Nat) : Int)).c) fun x4 =>
 .br (x4 != 0)
 (.fin (.inl (.inl x4)))
 (.nx 14 48 i3 (i3 + 1)))
 (.fin (.inl (.inr ()))))
 (fun (_ : Unit) => ⟨[], []⟩) fun _ =>
 .bind true (fun b5 => (∀ q, q < f.alters.length → SumP (f.alters.getD q default).sum))
 (.loop (default : Sum (Int) (Unit)) (fun i6 => i6.2 ≤ f.alters.length ∧ (∀ q, q < i6.2 → SumP (f.alters.getD q default).sum)) (fun i6 => f.alters.length - i6.2) ((0, 0) : Int × Nat)
 (fun (i6 : Int × Nat) => ⟨[(8, iv i6.1), (62, iv ((i6.2 : Nat) : Int))], []⟩) fun i6 =>
 .lt 60 0 i6.2 f.alters.length
 (.r 18 (.p (ixP ((i6.2 : Nat) : Int) f.alters.length)) fun _ =>
 .r 19 ((paper_in_k ((f.alters.getD i6.2 default).at_) (w64 (i6.1 + 1)) ((f.signs.length : Nat) : Int)).c) fun x7 =>
 .br (!x7)
 (.fin (.inl (.inl 1)))
 (.r 21 ((paper_in_k ((f.alters.getD i6.2 default).sum) 1 1099511627776).c) fun x8 =>
 .br (!x8)
 (.fin (.inl (.inl 3)))
 (.nx 24 62 i6.2 ((f.alters.getD i6.2 default).at_, i6.2 + 1))))
 (.fin (.inl (.inr ()))))
 (fun (_ : Unit) => ⟨[], []⟩) fun _ =>
 .r 25 ((paper_acts_k r f).c) fun x9 =>
 .br (x9 != 0)
 (.fin x9)
 (.r 28 ((paper_facts_k f).c) fun x10 =>
 .fin x10))))
noncomputable def paper_Check r f := (paper_Check_sk r f).val
theorem paper_Check_pst (r : Realm) (f : File) (hP : r.firms.length ≤ 1000000) : (paper_Check_sk r f).pst (fun (x : Int) => x = 0 → RightF r f ∧ ToF r f) := by
  refine Sk.pst_of _ ?_
  unfold paper_Check_sk
  simp only [Sk.pstq, Sk.isLoop, reduceCtorEq, ON, kk, kp, paper_acts_k, paper_facts_k, paper_in_k, paper_sign_k, wording_Check_k, paper_in_eq, forall_eq, maxLen]
  refine ⟨fun _ h => absurd h (by decide), fun hlen hw => ⟨fun h1 h2 => ?_, fun hwz => ⟨fun _ h => absurd h (by decide), fun hne => ⟨⟨⟨by omega, fun _ q hq => absurd hq (by omega)⟩, fun k hk => ⟨fun hc hs => ⟨fun h1 h2 => ?_, fun h1 _ => ⟨⟨?_, fun hr q hq => ?_⟩, ?_⟩⟩, fun hc hr q hq => hk.2 hr q (by simp only [LN] at hc; omega)⟩⟩, fun _ hsg => ⟨⟨⟨by omega, fun q hq => absurd hq (by omega)⟩, fun k hk => ⟨fun hc _ => ⟨fun _ h => absurd h (by decide), fun _ => ⟨fun _ h => absurd h (by decide), fun hs _ => ⟨⟨?_, fun q hq => ?_⟩, ?_⟩⟩⟩, fun hc q hq => hk.2 q (by simp only [LN] at hc; omega)⟩⟩, fun _ hal hac => ⟨fun h1 h2 => ?_, fun h1 h2 => ?_⟩⟩⟩⟩⟩⟩
  all_goals simp only [LN] at hlen
  all_goals (try simp only [LN] at hc)
  · rw [h2] at h1; exact absurd h1 (by decide)
  · rw [h2] at h1; exact absurd h1 (by decide)
  · omega
  · by_cases e : q = k
    · subst e
      have := hs ⟨by omega, by omega, hP, (hw (by simpa using hwz)).1⟩ (by simpa using h1)
      simpa using this
    · exact hk.2 hr q (by omega)
  · omega
  · omega
  · by_cases e : q = k.2
    · subst e
      simp only [LN] at hs
      exact ⟨by omega, by omega⟩
    · exact hk.2 q (by omega)
  · omega
  · rw [h2] at h1; exact absurd h1 (by decide)
  · have W := hw (by simpa using hwz)
    simp only [LN] at hne
    try intro _
    exact ⟨⟨W.1, ⟨by omega, by omega, by omega, by omega, by omega⟩, fun q hq => (hsg hP q hq).1, hal, hac ⟨by omega, by omega⟩ (by simpa using h1)⟩, W.2, fun q hq => (hsg hP q hq).2⟩

theorem paper_Check_post (r : Realm) (f : File) : (fun (x : Int) => (r.firms.length ≤ 1000000) → (x = 0 → RightF r f ∧ ToF r f)) (paper_Check r f) := fun hP => have h := Sk.pval _ (paper_Check_pst r f hP); h
theorem paper_Check_ok (r : Realm) (f : File) (hr : r.Small) : (paper_Check_sk r f).obs (fun _ => True) := by
  refine Sk.obs_of _ ?_
  unfold paper_Check_sk
  simp only [Sk.obq, Sk.isLoop, reduceCtorEq, ON, kk, kp, paper_acts_k, paper_facts_k, paper_in_k, paper_sign_k, wording_Check_k, paper_in_eq, forall_eq, maxLen]
  intro hlen
  simp only [LN] at hlen
  refine ⟨hr, fun hw hwz hne => ⟨⟨⟨by omega, fun _ q hq => absurd hq (by omega)⟩, fun k hk hl => ⟨fun hc => ⟨⟨⟨by omega, of_decide_eq_true hc⟩, by omega, hr⟩, fun hs h1 _ => ⟨?_, ⟨?_, fun hr2 q hq => ?_⟩, ?_⟩⟩, fun hc hr2 q hq => hk.2 hr2 q (by simp only [LN] at hc; omega)⟩⟩, fun _ hsg => ⟨⟨⟨by omega, fun q hq => absurd hq (by omega)⟩, fun k hk hl => ⟨fun hc => ⟨⟨by omega, of_decide_eq_true hc⟩, fun _ _ hs _ => ⟨?_, ⟨?_, fun q hq => ?_⟩, ?_⟩⟩, fun hc q hq => hk.2 q (by simp only [LN] at hc; omega)⟩⟩, fun _ _ => ⟨by omega, by omega⟩⟩⟩⟩
  all_goals (try simp only [LN] at hc)
  · exact w64_id (by omega) (by omega)
  · omega
  · by_cases e : q = k
    · subst e
      have := hs ⟨by omega, by omega, hr2, (hw (by simpa using hwz)).1⟩ (by simpa using h1)
      simpa using this
    · exact hk.2 hr2 q (by omega)
  · omega
  · exact w64_id (by omega) (by omega)
  · omega
  · by_cases e : q = k.2
    · subst e
      simp only [LN] at hs
      exact ⟨by omega, by omega⟩
    · exact hk.2 q (by omega)
  · omega

noncomputable def paper_Check_k r f := kk tok mixed Tryz.func15 [av r.cells, av f.cells] (fun x => iv x) true (paper_Check_sk r f) (paper_Check r f) (paper_Check_ok r f) (fun (x : Int) => (r.firms.length ≤ 1000000) → (x = 0 → RightF r f ∧ ToF r f)) (paper_Check_post r f)
structure Key where
  kind : Int
  index : Int
  at_ : Int
  fact : Int
  deriving Inhabited
def Key.cells (c : Key) : List D := [dI c.kind, dI c.index, dI c.at_, dI c.fact]
def Key.K : KE Key := ⟨Key.cells, 4, fun _ => ⟨rfl, rfl⟩⟩
structure Maker where
  r : Realm
  all : List (Key × Body)
  file : File
  used : List Body
  deriving Inhabited
noncomputable def report_about_sk (b : Body) : Sk (Key) :=
 .br (b.kind == 4)
 (.fin ({ kind := b.kind, index := 0, at_ := b.fact.at_, fact := b.fact.kind } : Key))
 (.fin ({ kind := b.kind, index := b.index, at_ := 0, fact := 0 } : Key))
noncomputable def report_about b := (report_about_sk b).val
theorem report_about_ok (b : Body) : (report_about_sk b).obs (fun _ => True) := by
  unfold report_about_sk
  exact okE

noncomputable def report_about_k b := kk tok mixed Tryz.func126 [av b.cells] (fun x => av x.cells) true (report_about_sk b) (report_about b) (u0 (report_about_ok b))
def Body.Z : Body := ({ kind := 0, bill := 0, index := 0, paper := ({ drawer := 0, drawee := 0, payee := 0, sum := 0, currency := 0, tenor := ({ kind := 0, n := 0, unit := 0 } : Tenor), day := 0, city := 0, pay := 0, need := 0, rate := 0, flags := 0, parts := 0 } : Bill), sign := ({ kind := 0, part := 0, who := 0, for_ := 0, to_ := 0, sum := 0, day := 0, city := 0, flags := 0 } : Sign), act := ({ kind := 0, who := 0, to_ := 0, part := 0, at_ := 0, sum := 0, day := 0, city := 0, form := 0 } : ActX), alter := ({ at_ := 0, sum := 0 } : Alter), fact := ({ kind := 0, at_ := 0, n := 0 } : Fact) } : Body)
/-! which reports are agreed, as a set -/
theorem Report.cells_inj {a b : Report} (h : a.cells = b.cells) : a = b := by
  obtain ⟨r, n, d, bo⟩ := a
  obtain ⟨r', n', d', bo'⟩ := b
  have e : ([dI r, dI n, dI d] ++ bo.cells : List D) = [dI r', dI n', dI d'] ++ bo'.cells := h
  simp only [List.cons_append, List.nil_append, List.cons.injEq, dI, D.v.injEq, Value.int.injEq, true_and] at e
  obtain ⟨rfl, rfl, rfl, hb⟩ := e
  rw [Body.cells_inj hb]
theorem eqRp {a b : Report} : eqCs (Report.K.C a) (Report.K.C b) = true ↔ a = b :=
  ⟨fun h => Report.cells_inj (eqCs_eq rfl rfl h), fun h => by subst h; exact eqCs_rfl rfl⟩
theorem kupd_keys {κ α : Type} (K : KE κ) (hK : ∀ a b : κ, eqCs (K.C a) (K.C b) = true ↔ a = b) (k : κ) (v : α) : ∀ (m : List (κ × α)), (m.map Prod.fst).Nodup → ((kupd K m k v).map Prod.fst).Nodup ∧ ∀ q, q ∈ (kupd K m k v).map Prod.fst ↔ q = k ∨ q ∈ m.map Prod.fst
  | [], _ => by simp [kupd]
  | p :: r, h => by
    simp only [List.map_cons, List.nodup_cons] at h
    obtain ⟨i1, i2⟩ := kupd_keys K hK k v r h.2
    simp only [kupd]
    cases hk : eqCs (K.C k) (K.C p.1) with
    | true =>
      have e := (hK _ _).1 hk
      simp only [cond_true, List.map_cons, List.nodup_cons, List.mem_cons]
      exact ⟨h, fun q => by rw [e]; constructor <;> intro hq <;> rcases hq with hq | hq <;> simp_all⟩
    | false =>
      have e : p.1 ≠ k := fun e => by rw [(hK k p.1).2 e.symm] at hk; cases hk
      simp only [cond_false, List.map_cons, List.nodup_cons, List.mem_cons]
      refine ⟨⟨fun hq => ?_, i1⟩, fun q => ?_⟩
      · rcases (i2 _).1 hq with hq | hq
        · exact e hq
        · exact h.1 hq
      · rw [i2 q]
        constructor
        · rintro (h | h | h)
          · exact .inr (.inl h)
          · exact .inl h
          · exact .inr (.inr h)
        · rintro (h | h | h)
          · exact .inr (.inl h)
          · exact .inl h
          · exact .inr (.inr h)
theorem kfind_mem {κ α : Type} (K : KE κ) (hK : ∀ a b : κ, eqCs (K.C a) (K.C b) = true ↔ a = b) : ∀ (m : List (κ × α)), (m.map Prod.fst).Nodup → ∀ e, e ∈ m → kfind K m e.1 = some e.2
  | [], _, e, he => by cases he
  | p :: r, h, e, he => by
    simp only [List.map_cons, List.nodup_cons] at h
    simp only [kfind]
    rcases List.mem_cons.1 he with rfl | he
    · rw [(hK _ _).2 rfl]; rfl
    · have : eqCs (K.C e.1) (K.C p.1) = false := by
        cases q : eqCs (K.C e.1) (K.C p.1) with
        | false => rfl
        | true => exact absurd (List.mem_map.2 ⟨e, he, (hK _ _).1 q⟩) h.1
      rw [this]
      exact kfind_mem K hK r h.2 e he
theorem kfind_some {κ α : Type} (K : KE κ) (hK : ∀ a b : κ, eqCs (K.C a) (K.C b) = true ↔ a = b) : ∀ (m : List (κ × α)) (k : κ) (v : α), kfind K m k = some v → (k, v) ∈ m
  | [], _, _, h => by cases h
  | p :: r, k, v, h => by
    simp only [kfind] at h
    cases q : eqCs (K.C k) (K.C p.1) with
    | true =>
      rw [q] at h
      simp only [cond_true, Option.some.injEq] at h
      have e := (hK _ _).1 q
      obtain ⟨p1, p2⟩ := p
      simp only at e h
      subst e; subst h
      exact List.mem_cons_self
    | false =>
      rw [q] at h
      exact List.mem_cons_of_mem _ (kfind_some K hK r k v h)
/-- the registries 0, 1, 2 as bits -/
def bit3 (p q r : Bool) : Int := (bif p then 1 else 0) + (bif q then 2 else 0) + (bif r then 4 else 0)
theorem bit3_0 : ∀ p q r : Bool, orK .i64 (bit3 p q r) (shlK .i64 1 0) = bit3 true q r := by decide
theorem bit3_1 : ∀ p q r : Bool, orK .i64 (bit3 p q r) (shlK .i64 1 1) = bit3 p true r := by decide
theorem bit3_2 : ∀ p q r : Bool, orK .i64 (bit3 p q r) (shlK .i64 1 2) = bit3 p q true := by decide
theorem bit3_ag : ∀ p q r : Bool, agBit (bit3 p q r) = ((p && q) || (p && r) || (q && r)) := by decide
noncomputable def hasR (l : List Arrival) (day : Int) (x : Report) (i : Int) : Bool := l.any fun a => agC day a && (eqCs (Report.K.C x) (Report.K.C a.report) && a.registry == i)
theorem hasR_iff {l : List Arrival} {day : Int} {x : Report} {i : Int} : hasR l day x i = true ↔ ∃ a, a ∈ l ∧ agC day a = true ∧ a.report = x ∧ a.registry = i := by
  unfold hasR
  rw [List.any_eq_true]
  constructor
  · rintro ⟨a, h1, h2⟩
    simp only [Bool.and_eq_true, beq_iff_eq] at h2
    exact ⟨a, h1, h2.1, (eqRp.1 h2.2.1).symm, h2.2.2⟩
  · rintro ⟨a, h1, h2, h3, h4⟩
    refine ⟨a, h1, ?_⟩
    simp only [Bool.and_eq_true, beq_iff_eq]
    exact ⟨h2, eqRp.2 h3.symm, h4⟩
theorem agC_reg {day : Int} {a : Arrival} (h : agC day a = true) : a.registry = 0 ∨ a.registry = 1 ∨ a.registry = 2 := by
  unfold agC at h
  simp only [Bool.and_eq_true, decide_eq_true_eq] at h
  omega
def InvR (day : Int) (m : List (Report × Int)) (l : List Arrival) : Prop := (m.map Prod.fst).Nodup ∧ ∀ x, kfind Report.K m x = bif (hasR l day x 0 || hasR l day x 1 || hasR l day x 2) then some (bit3 (hasR l day x 0) (hasR l day x 1) (hasR l day x 2)) else none
theorem hasR_snoc (l : List Arrival) (day : Int) (x : Report) (i : Int) (a : Arrival) : hasR (l ++ [a]) day x i = (hasR l day x i || (agC day a && (eqCs (Report.K.C x) (Report.K.C a.report) && a.registry == i))) := by
  unfold hasR
  simp [List.any_append]
theorem InvR.step {day : Int} {m : List (Report × Int)} {l : List Arrival} (h : InvR day m l) (a : Arrival) : InvR day (agStep day m a) (l ++ [a]) := by
  unfold agStep
  cases hc : agC day a with
  | false =>
    refine ⟨h.1, fun x => ?_⟩
    simp only [hasR_snoc, hc, Bool.false_and, Bool.or_false, cond_false]
    exact h.2 x
  | true =>
    simp only [cond_true]
    refine ⟨(kupd_keys Report.K (fun _ _ => eqRp) _ _ m h.1).1, fun x => ?_⟩
    have hd : Decidable (x = a.report) := Classical.propDecidable _
    rw [kfind_kupd Report.K (fun _ _ => eqRp) _ _ _ hd]
    by_cases hx : x = a.report
    · subst hx
      rw [if_pos rfl]
      have hg : kget Report.K m a.report (0 : Int) = bit3 (hasR l day a.report 0) (hasR l day a.report 1) (hasR l day a.report 2) := by
        unfold kget
        rw [h.2]
        generalize hasR l day a.report 0 = p
        generalize hasR l day a.report 1 = q
        generalize hasR l day a.report 2 = r
        revert p q r
        decide
      rw [hg]
      simp only [hasR_snoc, hc, eqRp.2 rfl, Bool.true_and]
      rcases agC_reg hc with e | e | e
      · rw [e, bit3_0]; simp
      · rw [e, bit3_1]; simp
      · rw [e, bit3_2]; simp
    · have : eqCs (Report.K.C x) (Report.K.C a.report) = false := by
        cases q : eqCs (Report.K.C x) (Report.K.C a.report) with
        | false => rfl
        | true => exact absurd (eqRp.1 q) hx
      rw [if_neg hx]
      simp only [hasR_snoc, this, Bool.false_and, Bool.and_false, Bool.or_false]
      exact h.2 x
theorem agMap_inv (l : List Arrival) (day : Int) : InvR day (agMap l day) l := by
  have key : ∀ (l : List Arrival) (l0 : List Arrival) (m : List (Report × Int)), InvR day m l0 → InvR day (l.foldl (agStep day) m) (l0 ++ l) := by
    intro l
    induction l with
    | nil => intro l0 m h; simpa using h
    | cons a l ih =>
      intro l0 m h
      have := ih (l0 ++ [a]) _ (h.step a)
      simpa using this
  have := key l [] [] ⟨by simp, fun x => by simp [kfind, hasR]⟩
  simpa [agMap] using this
theorem agreedL_iff {l : List Arrival} {day : Int} {x : Report} : x ∈ agreedL l day ↔ ∃ a b, a ∈ l ∧ b ∈ l ∧ agC day a = true ∧ agC day b = true ∧ a.report = x ∧ b.report = x ∧ a.registry ≠ b.registry := by
  have hI := agMap_inv l day
  have h1 : x ∈ agreedL l day ↔ ((hasR l day x 0 && hasR l day x 1) || (hasR l day x 0 && hasR l day x 2) || (hasR l day x 1 && hasR l day x 2)) = true := by
    rw [← bit3_ag]
    unfold agreedL agAll
    constructor
    · intro h
      obtain ⟨e, he, rfl⟩ := List.mem_map.1 h
      obtain ⟨h1, h2⟩ := List.mem_filter.1 he
      have h3 := kfind_mem Report.K (fun _ _ => eqRp) _ hI.1 e h1
      rw [hI.2] at h3
      cases hb : (hasR l day e.1 0 || hasR l day e.1 1 || hasR l day e.1 2) with
      | false => rw [hb] at h3; cases h3
      | true =>
        rw [hb] at h3
        simp only [cond_true, Option.some.injEq] at h3
        rw [h3]
        exact h2
    · intro h
      have h2 := hI.2 x
      have hb : (hasR l day x 0 || hasR l day x 1 || hasR l day x 2) = true := by
        rw [bit3_ag] at h
        revert h
        generalize hasR l day x 0 = p
        generalize hasR l day x 1 = q
        generalize hasR l day x 2 = r
        revert p q r
        decide
      rw [hb] at h2
      exact List.mem_map.2 ⟨_, List.mem_filter.2 ⟨kfind_some Report.K (fun _ _ => eqRp) _ _ _ h2, h⟩, rfl⟩
  rw [h1]
  simp only [Bool.or_eq_true, Bool.and_eq_true, hasR_iff]
  constructor
  · rintro ((⟨⟨a, a1, a2, a3, a4⟩, b, b1, b2, b3, b4⟩ | ⟨⟨a, a1, a2, a3, a4⟩, b, b1, b2, b3, b4⟩) | ⟨⟨a, a1, a2, a3, a4⟩, b, b1, b2, b3, b4⟩) <;> exact ⟨a, b, a1, b1, a2, b2, a3, b3, by omega⟩
  · rintro ⟨a, b, a1, b1, a2, b2, a3, b3, hab⟩
    rcases agC_reg a2 with e | e | e <;> rcases agC_reg b2 with f | f | f
    · omega
    · exact .inl (.inl ⟨⟨a, a1, a2, a3, e⟩, b, b1, b2, b3, f⟩)
    · exact .inl (.inr ⟨⟨a, a1, a2, a3, e⟩, b, b1, b2, b3, f⟩)
    · exact .inl (.inl ⟨⟨b, b1, b2, b3, f⟩, a, a1, a2, a3, e⟩)
    · omega
    · exact .inr ⟨⟨a, a1, a2, a3, e⟩, b, b1, b2, b3, f⟩
    · exact .inl (.inr ⟨⟨b, b1, b2, b3, f⟩, a, a1, a2, a3, e⟩)
    · exact .inr ⟨⟨b, b1, b2, b3, f⟩, a, a1, a2, a3, e⟩
    · omega
theorem agreedL_nodup (l : List Arrival) (day : Int) : (agreedL l day).Nodup := by
  unfold agreedL agAll
  exact ((List.filter_sublist (l := agMap l day)).map Prod.fst).nodup (agMap_inv l day).1
theorem lied_perm {L L' : List Report} (h : L.Perm L') (r : Int) : lied L r = lied L' r := by
  unfold lied
  have e : (∃ c, 2 ≤ cnt L r c) ↔ ∃ c, 2 ≤ cnt L' r c := by
    constructor
    · rintro ⟨c, hc⟩; exact ⟨c, by rw [← cnt_perm h]; exact hc⟩
    · rintro ⟨c, hc⟩; exact ⟨c, by rw [cnt_perm h]; exact hc⟩
  exact @decide_eq_decide _ _ (_) (_) |>.2 e
/-- each body lies under what it is about -/
def MapOK (m : List (Key × Body)) : Prop := ∀ e, e ∈ m → report_about e.2 = e.1
theorem eqKey {a b : Key} : eqCs (Key.K.C a) (Key.K.C b) = true ↔ a = b := by
  constructor
  · intro h
    have h1 := eqCs_eq (a := Key.cells a) (b := Key.cells b) rfl rfl h
    cases a; cases b
    simp [Key.cells, dI] at h1
    simp [h1]
  · rintro rfl
    exact eqCs_rfl rfl
theorem MapOK.upd {m : List (Key × Body)} (h : MapOK m) (b : Body) : MapOK (kupd Key.K m (report_about b) b) := by
  induction m with
  | nil => intro e he; simp [kupd] at he; subst he; rfl
  | cons p r ih =>
    have hr : MapOK r := fun e he => h e (List.mem_cons_of_mem _ he)
    intro e he
    simp only [kupd] at he
    cases hk : eqCs (Key.K.C (report_about b)) (Key.K.C p.1) with
    | true =>
      rw [hk] at he
      simp only [cond_true, List.mem_cons] at he
      rcases he with rfl | he
      · exact eqKey.1 hk
      · exact hr e he
    | false =>
      rw [hk] at he
      simp only [cond_false, List.mem_cons] at he
      rcases he with rfl | he
      · exact h _ List.mem_cons_self
      · exact ih hr e he
theorem kdel_sub {κ α : Type} (K : KE κ) (k : κ) : ∀ (m : List (κ × α)), (kdel K m k).Sublist m
  | [] => .slnil
  | p :: r => by
    simp only [kdel]
    cases eqCs (K.C k) (K.C p.1) with
    | true => exact (List.Sublist.refl r).cons p
    | false => exact (kdel_sub K k r).cons_cons p
theorem MapOK.del {m : List (Key × Body)} (h : MapOK m) (k : Key) : MapOK (kdel Key.K m k) := fun e he => h e ((kdel_sub _ _ _).subset he)
theorem kdel_comm {κ α : Type} (K : KE κ) (hK : ∀ a b : κ, eqCs (K.C a) (K.C b) = true ↔ a = b) (a b : κ) : ∀ (m : List (κ × α)), kdel K (kdel K m a) b = kdel K (kdel K m b) a
  | [] => rfl
  | p :: r => by
    have ih := kdel_comm K hK a b r
    cases ha : eqCs (K.C a) (K.C p.1) with
    | true =>
      cases hb : eqCs (K.C b) (K.C p.1) with
      | true => rw [(hK _ _).1 ha, (hK _ _).1 hb]
      | false => simp only [kdel, ha, hb, cond_true, cond_false]
    | false =>
      cases hb : eqCs (K.C b) (K.C p.1) with
      | true => simp only [kdel, ha, hb, cond_true, cond_false]
      | false => simp only [kdel, ha, hb, cond_false, ih]

noncomputable def report_stated_sk (l : List Arrival) (bill : Int) (day : Int) : Sk ((List (Key × Body))) :=
 .r 1 (.o [.nrmm (mkK Key.K (aggD Body.cells))]) fun _ =>
 .r 2 (.o [.nrmm (mkK Key.K dB)]) fun _ =>
 .r 3 ((report_Known_k l day).c) fun x1 =>
 .bind true (fun b2 => MapOK b2.1)
 (.loop (default : Sum ((List (Key × Body))) ((List (Key × Body)) × (List (Key × Bool)))) (fun i3 => i3.1 ≤ x1.length ∧ MapOK i3.2.1) (fun i3 => x1.length - i3.1) ((0, ([] : List (Key × Body)), ([] : List (Key × Bool))) : Nat × (List (Key × Body)) × (List (Key × Bool)))
 (fun (i3 : Nat × (List (Key × Body)) × (List (Key × Bool))) => ⟨[(21, iv ((i3.1 : Nat) : Int))], [(15, kpM Key.K (aggD Body.cells) i3.2.1), (16, kpM Key.K dB i3.2.2)]⟩) fun i3 =>
 .lt 19 0 i3.1 x1.length
 (.r 5 (.p (ixP ((i3.1 : Nat) : Int) x1.length)) fun _ =>
 .br ((((x1.getD i3.1 default).body).bill) != bill)
 (.nx 12 21 i3.1 (i3.1 + 1, i3.2.1, i3.2.2))
 (.r 7 ((report_about_k ((x1.getD i3.1 default).body)).c) fun x4 =>
 .r 8 (.andl (.t (keysK Key.K (aggD Body.cells) i3.2.1)) (.o [.cast 36 (getK2 Key.K (aggD Body.cells) i3.2.1 x4 Body.Z)])) fun _ =>
 .br ((khas Key.K i3.2.1 x4) && (!(eqCs (Body.cells (kget Key.K i3.2.1 x4 Body.Z)) (Body.cells ((x1.getD i3.1 default).body)))))
 (.r 10 (.andl (.t (keysK Key.K dB i3.2.2)) (.o [.nrmm (updK Key.K dB i3.2.2 x4 true)])) fun _ =>
 .r 11 (.andl (.t (keysK Key.K (aggD Body.cells) i3.2.1)) (.o [.nrmm (updK Key.K (aggD Body.cells) i3.2.1 x4 ((x1.getD i3.1 default).body))])) fun _ =>
 .r 12 .z fun _ =>
 .wi 21 (w64 (((i3.1 : Nat) : Int) + 1)) ((i3.1 + 1 : Nat) : Int) <|
 .fin (.inr (i3.1 + 1, kupd Key.K i3.2.1 x4 ((x1.getD i3.1 default).body), kupd Key.K i3.2.2 x4 true)))
 (.r 11 (.andl (.t (keysK Key.K (aggD Body.cells) i3.2.1)) (.o [.nrmm (updK Key.K (aggD Body.cells) i3.2.1 x4 ((x1.getD i3.1 default).body))])) fun _ =>
 .r 12 .z fun _ =>
 .wi 21 (w64 (((i3.1 : Nat) : Int) + 1)) ((i3.1 + 1 : Nat) : Int) <|
 .fin (.inr (i3.1 + 1, kupd Key.K i3.2.1 x4 ((x1.getD i3.1 default).body), i3.2.2)))))
 (.fin (.inl (.inr (i3.2.1, i3.2.2)))))
 (fun (b2 : (List (Key × Body)) × (List (Key × Bool))) => ⟨[], [(15, kpM Key.K (aggD Body.cells) b2.1), (16, kpM Key.K dB b2.2)]⟩) fun b2 =>
 .bind true (fun b5 => MapOK b5)
 (.mr b2.2.length (fun vs_ g6 => MapOK g6) (b2.1 : (List (Key × Body)))
 (fun g6 s8 => ⟨[], [(15, klM Key.K (aggD Body.cells) g6), (54, .it 16 b2.2.length s8)]⟩)
 (fun g9 => ⟨[], [(15, klM Key.K (aggD Body.cells) g9)]⟩)
 (fun g6 i7 =>
 .brt <|
 .r 15 (.p (i7 < b2.2.length)) fun _ =>
 .r 16 (.andl (.t (keysK Key.K (aggD Body.cells) g6)) (.o [.nrmm (delK Key.K (aggD Body.cells) g6 ((b2.2.getD i7 default).1))])) fun _ =>
 .fin (kdel Key.K g6 ((b2.2.getD i7 default).1))) fun g9 =>
 .brf <|
 .fin (.inr g9))
 (fun (b5 : (List (Key × Body))) => ⟨[(54, .any)], [(15, klM Key.K (aggD Body.cells) b5)]⟩) fun b5 =>
 .fin b5
noncomputable def report_stated l bill day := (report_stated_sk l bill day).val
theorem report_stated_pst (l : List Arrival) (bill : Int) (day : Int) : (report_stated_sk l bill day).pst (fun (x : (List (Key × Body))) => MapOK x) := by
  refine Sk.pst_of _ ?_
  unfold report_stated_sk
  simp only [Sk.pstq, Sk.isLoop, reduceCtorEq, ON, kk, kp, report_Known_k, report_about_k, maxLen]
  intro _ _ K hK _
  have st : ∀ {i n : Nat}, decide ((i : Int) < (n : Int)) = true → i < n := fun h => by have h := of_decide_eq_true h; omega
  refine ⟨⟨⟨Nat.zero_le _, fun e he => by cases he⟩, fun i hi => ⟨fun hc _ => ?_, fun _ => hi.2⟩⟩, fun b hb => ⟨⟨hb, fun s g i hg _ _ _ _ => hg.del _, fun g _ hg => hg⟩, fun _ _ h => h⟩⟩
  have hc := st hc
  have hm : K.length - (i.1 + 1) < K.length - i.1 := by omega
  refine ⟨fun _ _ => ⟨⟨by omega, hi.2⟩, hm⟩, fun _ k hk _ => ?_⟩
  subst hk
  exact ⟨fun _ _ _ _ => ⟨⟨by omega, hi.2.upd _⟩, hm⟩, fun _ _ _ => ⟨⟨by omega, hi.2.upd _⟩, hm⟩⟩

theorem report_stated_post (l : List Arrival) (bill : Int) (day : Int) : (fun (x : (List (Key × Body))) => MapOK x) (report_stated l bill day) := have h := Sk.pval _ (report_stated_pst l bill day); h
theorem report_stated_ok (l : List Arrival) (bill : Int) (day : Int) (hi : ∀ a, a ∈ l → a.report.I64) : (report_stated_sk l bill day).obs (fun _ => True) := by
  refine Sk.obs_of _ ?_
  unfold report_stated_sk
  simp only [Sk.obq, Sk.isLoop, reduceCtorEq, ON, kk, kp, Sk.pst, report_Known_k, report_about_k, maxLen]
  intro _ _
  refine ⟨hi, fun K hK hKp => ?_⟩
  have hl := (hKp hi).1
  have st : ∀ {i n : Nat}, decide ((i : Int) < (n : Int)) = true → i < n := fun h => by have h := of_decide_eq_true h; omega
  refine ⟨⟨⟨Nat.zero_le _, fun e he => by cases he⟩, fun i hi _ => ⟨fun hc => ?_, fun _ => hi.2⟩⟩, fun b hb => ⟨hb, fun s g i hg hi _ => ⟨fun _ _ => hg.del _, hi⟩, fun s g i j hg _ _ _ _ _ => kdel_comm Key.K (fun _ _ => eqKey) _ _ g, fun g _ hg => hg⟩⟩
  have hc := st hc
  have hm : K.length - (i.1 + 1) < K.length - i.1 := by omega
  have hw : w64 ((i.1 : Int) + 1) = ((i.1 + 1 : Nat) : Int) := by rw [w64_id (by omega) (by omega)]; omega
  refine ⟨⟨by omega, by omega⟩, fun _ => ⟨fun _ _ => ⟨hw, ⟨by omega, hi.2⟩, hm⟩, fun _ k hk _ => ?_⟩⟩
  subst hk
  exact ⟨fun _ _ _ _ => ⟨hw, ⟨by omega, hi.2.upd _⟩, hm⟩, fun _ _ _ => ⟨hw, ⟨by omega, hi.2.upd _⟩, hm⟩⟩

theorem report_stated_fnM (l : List Arrival) (bill : Int) (day : Int) (hi : ∀ a, a ∈ l → a.report.I64) : FnA Tryz.prog 87 [lv Arrival.cells l, iv bill, iv day] [] ((fun (_ : (List (Key × Body))) => (.mpv 777790 : AV)) (report_stated l bill day)) ((fun (x : (List (Key × Body))) => [(777790, klM Key.K (aggD Body.cells) x)]) (report_stated l bill day)) :=
  FnA.sk tok mixed (fun x => .mpv 777790) (fun x => [(777790, klM Key.K (aggD Body.cells) x)]) Tryz.func87 rfl (by kernel_rfl) 3000 (report_stated_sk l bill day) (by kernel_rfl) (report_stated_ok l bill day hi)
noncomputable def report_stated_km (l : List Arrival) (bill : Int) (day : Int) : CtrO ((List (Key × Body))) := ⟨Tryz.prog, 87, [lv Arrival.cells l, iv bill, iv day], fun x => .mpv 777790, fun x => [(777790, klM Key.K (aggD Body.cells) x)], report_stated l bill day, (∀ a, a ∈ l → a.report.I64), fun h => report_stated_fnM l bill day h, fun (x : (List (Key × Body))) => MapOK x, report_stated_post l bill day⟩
def Maker.bx (κ ρ : Nat) (m : Maker) : List (Nat × Blk) := [(κ, .box (m.r.cells.map .d ++ [.mpv (ρ + 2)] ++ m.file.cells.map .d ++ [ow (ρ + 4) m.used])), ((ρ + 2), klM Key.K (aggD Body.cells) m.all), ((ρ + 4), rowB 35 41 Body.cells m.used)]
noncomputable def slices_Clone_sk (s : List Sign) : Sk ((List Sign)) :=
 .nsp 0 s.length
 (.brt <|
 .fin [])
 (.brf <|
 .r 3 (.andl (.o [.nrm (litC Sign.E ([] : List Sign))]) (.andl (.o [.nrm (catC Sign.E ([] : List Sign) s)]) (.andl (.t (Sign.E.src s)) (.p (szP (([] : List Sign).length) s.length 72))))) fun _ =>
 .fin (([] : List Sign) ++ s))
noncomputable def slices_Clone s := (slices_Clone_sk s).val
theorem slices_Clone_pst (s : List Sign) : (slices_Clone_sk s).pst (fun (x : (List Sign)) => x.length = s.length ∧ x = s) := by
  unfold slices_Clone_sk
  simp [Sk.pst, litC, catC]
theorem slices_Clone_post (s : List Sign) : (fun (x : (List Sign)) => x.length = s.length ∧ x = s) (slices_Clone s) := have h := Sk.pval _ (slices_Clone_pst s); h
theorem slices_Clone_ok (s : List Sign) (hs : s.length ≤ 1000000000) : (slices_Clone_sk s).obs (fun _ => True) := by
  unfold slices_Clone_sk
  exact okD

theorem slices_Clone_fnO (s : List Sign) (hs : s.length ≤ 1000000000) : FnA Tryz.prog 169 [lv Sign.cells s] [] (ow 777777 (slices_Clone s)) [(777777, rowB 27 9 Sign.cells (slices_Clone s))] :=
  FnA.sk tok mixed (fun x => ow 777777 x) (fun x => [(777777, rowB 27 9 Sign.cells x)]) Tryz.func169 rfl (by kernel_rfl) 3000 (slices_Clone_sk s) (by kernel_rfl) (slices_Clone_ok s hs)
noncomputable def slices_Clone_ko (κ : Nat) (s : List Sign) : CtrO ((List Sign)) := ⟨Tryz.prog, 169, [lv Sign.cells s], fun x => ow κ x, fun x => [(κ, rowB 27 9 Sign.cells x)], slices_Clone s, (s.length ≤ 1000000000), fun h => FnA.rekey κ (slices_Clone_fnO s h), fun (x : (List Sign)) => x.length = s.length ∧ x = s, slices_Clone_post s⟩
noncomputable def slices_Clone_2_sk (s : List Alter) : Sk ((List Alter)) :=
 .nsp 0 s.length
 (.brt <|
 .fin [])
 (.brf <|
 .r 3 (.andl (.o [.nrm (litC Alter.E ([] : List Alter))]) (.andl (.o [.nrm (catC Alter.E ([] : List Alter) s)]) (.andl (.t (Alter.E.src s)) (.p (szP (([] : List Alter).length) s.length 16))))) fun _ =>
 .fin (([] : List Alter) ++ s))
noncomputable def slices_Clone_2 s := (slices_Clone_2_sk s).val
theorem slices_Clone_2_pst (s : List Alter) : (slices_Clone_2_sk s).pst (fun (x : (List Alter)) => x.length = s.length ∧ x = s) := by
  unfold slices_Clone_2_sk
  simp [Sk.pst, litC, catC]
theorem slices_Clone_2_post (s : List Alter) : (fun (x : (List Alter)) => x.length = s.length ∧ x = s) (slices_Clone_2 s) := have h := Sk.pval _ (slices_Clone_2_pst s); h
theorem slices_Clone_2_ok (s : List Alter) (hs : s.length ≤ 1000000000) : (slices_Clone_2_sk s).obs (fun _ => True) := by
  unfold slices_Clone_2_sk
  exact okD

theorem slices_Clone_2_fnO (s : List Alter) (hs : s.length ≤ 1000000000) : FnA Tryz.prog 170 [lv Alter.cells s] [] (ow 777777 (slices_Clone_2 s)) [(777777, rowB 31 2 Alter.cells (slices_Clone_2 s))] :=
  FnA.sk tok mixed (fun x => ow 777777 x) (fun x => [(777777, rowB 31 2 Alter.cells x)]) Tryz.func170 rfl (by kernel_rfl) 3000 (slices_Clone_2_sk s) (by kernel_rfl) (slices_Clone_2_ok s hs)
noncomputable def slices_Clone_2_ko (κ : Nat) (s : List Alter) : CtrO ((List Alter)) := ⟨Tryz.prog, 170, [lv Alter.cells s], fun x => ow κ x, fun x => [(κ, rowB 31 2 Alter.cells x)], slices_Clone_2 s, (s.length ≤ 1000000000), fun h => FnA.rekey κ (slices_Clone_2_fnO s h), fun (x : (List Alter)) => x.length = s.length ∧ x = s, slices_Clone_2_post s⟩
noncomputable def slices_Clone_3_sk (s : List ActX) : Sk ((List ActX)) :=
 .nsp 0 s.length
 (.brt <|
 .fin [])
 (.brf <|
 .r 3 (.andl (.o [.nrm (litC ActX.E ([] : List ActX))]) (.andl (.o [.nrm (catC ActX.E ([] : List ActX) s)]) (.andl (.t (ActX.E.src s)) (.p (szP (([] : List ActX).length) s.length 72))))) fun _ =>
 .fin (([] : List ActX) ++ s))
noncomputable def slices_Clone_3 s := (slices_Clone_3_sk s).val
theorem slices_Clone_3_pst (s : List ActX) : (slices_Clone_3_sk s).pst (fun (x : (List ActX)) => x.length = s.length ∧ x = s) := by
  unfold slices_Clone_3_sk
  simp [Sk.pst, litC, catC]
theorem slices_Clone_3_post (s : List ActX) : (fun (x : (List ActX)) => x.length = s.length ∧ x = s) (slices_Clone_3 s) := have h := Sk.pval _ (slices_Clone_3_pst s); h
theorem slices_Clone_3_ok (s : List ActX) (hs : s.length ≤ 1000000000) : (slices_Clone_3_sk s).obs (fun _ => True) := by
  unfold slices_Clone_3_sk
  exact okD

theorem slices_Clone_3_fnO (s : List ActX) (hs : s.length ≤ 1000000000) : FnA Tryz.prog 171 [lv ActX.cells s] [] (ow 777777 (slices_Clone_3 s)) [(777777, rowB 29 9 ActX.cells (slices_Clone_3 s))] :=
  FnA.sk tok mixed (fun x => ow 777777 x) (fun x => [(777777, rowB 29 9 ActX.cells x)]) Tryz.func171 rfl (by kernel_rfl) 3000 (slices_Clone_3_sk s) (by kernel_rfl) (slices_Clone_3_ok s hs)
noncomputable def slices_Clone_3_ko (κ : Nat) (s : List ActX) : CtrO ((List ActX)) := ⟨Tryz.prog, 171, [lv ActX.cells s], fun x => ow κ x, fun x => [(κ, rowB 29 9 ActX.cells x)], slices_Clone_3 s, (s.length ≤ 1000000000), fun h => FnA.rekey κ (slices_Clone_3_fnO s h), fun (x : (List ActX)) => x.length = s.length ∧ x = s, slices_Clone_3_post s⟩
noncomputable def slices_Clone_4_sk (s : List Fact) : Sk ((List Fact)) :=
 .nsp 0 s.length
 (.brt <|
 .fin [])
 (.brf <|
 .r 3 (.andl (.o [.nrm (litC Fact.E ([] : List Fact))]) (.andl (.o [.nrm (catC Fact.E ([] : List Fact) s)]) (.andl (.t (Fact.E.src s)) (.p (szP (([] : List Fact).length) s.length 24))))) fun _ =>
 .fin (([] : List Fact) ++ s))
noncomputable def slices_Clone_4 s := (slices_Clone_4_sk s).val
theorem slices_Clone_4_pst (s : List Fact) : (slices_Clone_4_sk s).pst (fun (x : (List Fact)) => x.length = s.length ∧ x = s) := by
  unfold slices_Clone_4_sk
  simp [Sk.pst, litC, catC]
theorem slices_Clone_4_post (s : List Fact) : (fun (x : (List Fact)) => x.length = s.length ∧ x = s) (slices_Clone_4 s) := have h := Sk.pval _ (slices_Clone_4_pst s); h
theorem slices_Clone_4_ok (s : List Fact) (hs : s.length ≤ 1000000000) : (slices_Clone_4_sk s).obs (fun _ => True) := by
  unfold slices_Clone_4_sk
  exact okD

theorem slices_Clone_4_fnO (s : List Fact) (hs : s.length ≤ 1000000000) : FnA Tryz.prog 172 [lv Fact.cells s] [] (ow 777777 (slices_Clone_4 s)) [(777777, rowB 33 3 Fact.cells (slices_Clone_4 s))] :=
  FnA.sk tok mixed (fun x => ow 777777 x) (fun x => [(777777, rowB 33 3 Fact.cells x)]) Tryz.func172 rfl (by kernel_rfl) 3000 (slices_Clone_4_sk s) (by kernel_rfl) (slices_Clone_4_ok s hs)
noncomputable def slices_Clone_4_ko (κ : Nat) (s : List Fact) : CtrO ((List Fact)) := ⟨Tryz.prog, 172, [lv Fact.cells s], fun x => ow κ x, fun x => [(κ, rowB 33 3 Fact.cells x)], slices_Clone_4 s, (s.length ≤ 1000000000), fun h => FnA.rekey κ (slices_Clone_4_fnO s h), fun (x : (List Fact)) => x.length = s.length ∧ x = s, slices_Clone_4_post s⟩
noncomputable def report_with_sk (f : File) (b : Body) : Sk (File) :=
 .br (b.kind == 1)
 (.r 3 (.depr ((slices_Clone_ko 11 f.signs).c) fun x1 => .andl (.o [.nrm (litC Sign.E [b.sign])]) (.andl (.o [.nrm (catC Sign.E x1 [b.sign])]) (.andl (.t (Sign.E.ones [b.sign])) (.p (szP x1.length [b.sign].length 72))))) fun x1 =>
 .fin ({ f with signs := x1 ++ [b.sign] }))
 (.br (b.kind == 3)
 (.r 5 (.depr ((slices_Clone_2_ko 21 f.alters).c) fun x2 => .andl (.o [.nrm (litC Alter.E [b.alter])]) (.andl (.o [.nrm (catC Alter.E x2 [b.alter])]) (.andl (.t (Alter.E.ones [b.alter])) (.p (szP x2.length [b.alter].length 16))))) fun x2 =>
 .fin ({ f with alters := x2 ++ [b.alter] }))
 (.br (b.kind == 2)
 (.r 7 (.depr ((slices_Clone_3_ko 31 f.acts).c) fun x3 => .andl (.o [.nrm (litC ActX.E [b.act])]) (.andl (.o [.nrm (catC ActX.E x3 [b.act])]) (.andl (.t (ActX.E.ones [b.act])) (.p (szP x3.length [b.act].length 72))))) fun x3 =>
 .fin ({ f with acts := x3 ++ [b.act] }))
 (.br (b.kind == 4)
 (.r 9 (.depr ((slices_Clone_4_ko 41 f.facts).c) fun x4 => .andl (.o [.nrm (litC Fact.E [b.fact])]) (.andl (.o [.nrm (catC Fact.E x4 [b.fact])]) (.andl (.t (Fact.E.ones [b.fact])) (.p (szP x4.length [b.fact].length 24))))) fun x4 =>
 .fin ({ f with facts := x4 ++ [b.fact] }))
 (.fin f))))
noncomputable def report_with f b := (report_with_sk f b).val
theorem report_with_ok (f : File) (b : Body) (hf : f.Small) : (report_with_sk f b).obs (fun _ => True) := by
  simp only [File.Small, Realm.Small] at hf
  unfold report_with_sk
  try simp only [slices_Clone_2_ko, slices_Clone_3_ko, slices_Clone_4_ko, slices_Clone_ko, File.Small, Realm.Small]
  exact okD

noncomputable def report_with_k f b := kk tok mixed Tryz.func127 [av f.cells, av b.cells] (fun x => av x.cells) false (report_with_sk f b) (report_with f b) (report_with_ok f b)
noncomputable def report_maker_add_sk (m : Maker) (k_ : Key) : Sk (Bool × Maker) :=
 .r 1 (.andl (.t (keysK Key.K (aggD Body.cells) m.all)) (.o [.cast 15 (getK2 Key.K (aggD Body.cells) m.all k_ Body.Z)])) fun _ =>
 .br (!(khas Key.K m.all k_))
 (.fin (false, m))
 (.r 4 ((report_with_k m.file (kget Key.K m.all k_ Body.Z)).c) fun x1 =>
 .bind false (fun _ => True)
 (.br (k_.kind == 0)
 (.r 7 (.andl (.o [.pur 42]) (.o [.nrm (litC Sign.E [({ kind := 0, part := 0, who := ((kget Key.K m.all k_ Body.Z).paper).drawer, for_ := (-1), to_ := (-1), sum := 0, day := ((kget Key.K m.all k_ Body.Z).paper).day, city := ((kget Key.K m.all k_ Body.Z).paper).city, flags := ((kget Key.K m.all k_ Body.Z).sign).flags } : Sign)])])) fun _ =>
 .fin (.inr ({ bill := (kget Key.K m.all k_ Body.Z).paper, signs := [({ kind := 0, part := 0, who := ((kget Key.K m.all k_ Body.Z).paper).drawer, for_ := (-1), to_ := (-1), sum := 0, day := ((kget Key.K m.all k_ Body.Z).paper).day, city := ((kget Key.K m.all k_ Body.Z).paper).city, flags := ((kget Key.K m.all k_ Body.Z).sign).flags } : Sign)], alters := [], acts := [], facts := [] } : File)))
 (.fin (.inr x1)))
 (fun (b2 : File) => ⟨[], [(7, .box (b2.cells.map .d))]⟩) fun b2 =>
 .r 8 ((paper_Check_k m.r b2).c) fun x3 =>
 .br (x3 != 0)
 (.fin (false, m))
 (.r 10 (.andl (.o [.nrm (litC Body.E [(kget Key.K m.all k_ Body.Z)])]) (.andl (.o [.nrm (catC Body.E m.used [(kget Key.K m.all k_ Body.Z)])]) (.andl (.t (Body.E.ones [(kget Key.K m.all k_ Body.Z)])) (.p (szP m.used.length [(kget Key.K m.all k_ Body.Z)].length 328))))) fun _ =>
 .fin (true, ({ r := m.r, all := m.all, file := b2, used := m.used ++ [(kget Key.K m.all k_ Body.Z)] } : Maker))))
noncomputable def report_maker_add m k_ := (report_maker_add_sk m k_).val
/-- a file with what a body says -/
def withP (f : File) (b : Body) : File := bif b.kind == 1 then { f with signs := f.signs ++ [b.sign] } else bif b.kind == 3 then { f with alters := f.alters ++ [b.alter] } else bif b.kind == 2 then { f with acts := f.acts ++ [b.act] } else bif b.kind == 4 then { f with facts := f.facts ++ [b.fact] } else f
theorem with_eq (f : File) (b : Body) : report_with f b = withP f b := by
  have e : report_with f b = bif b.kind == 1 then { f with signs := slices_Clone f.signs ++ [b.sign] } else bif b.kind == 3 then { f with alters := slices_Clone_2 f.alters ++ [b.alter] } else bif b.kind == 2 then { f with acts := slices_Clone_3 f.acts ++ [b.act] } else bif b.kind == 4 then { f with facts := slices_Clone_4 f.facts ++ [b.fact] } else f := rfl
  rw [e, (slices_Clone_post f.signs).2, (slices_Clone_2_post f.alters).2, (slices_Clone_3_post f.acts).2, (slices_Clone_4_post f.facts).2]
  rfl
/-- the drawer's signature on a bill -/
def drawP (b : Body) : Sign := { kind := 0, part := 0, who := b.paper.drawer, for_ := -1, to_ := -1, sum := 0, day := b.paper.day, city := b.paper.city, flags := b.sign.flags }
def nextP (f : File) (k : Key) (b : Body) : File := bif k.kind == 0 then { bill := b.paper, signs := [drawP b], alters := [], acts := [], facts := [] } else withP f b
noncomputable def addP (m : Maker) (k : Key) : Bool × Maker := bif !(khas Key.K m.all k) then (false, m) else bif paper_Check m.r (nextP m.file k (kget Key.K m.all k Body.Z)) != 0 then (false, m) else (true, { m with file := nextP m.file k (kget Key.K m.all k Body.Z), used := m.used ++ [kget Key.K m.all k Body.Z] })
theorem add_eq (m : Maker) (k : Key) : report_maker_add m k = addP m k := by
  unfold addP nextP
  cases hk : (k.kind == 0) with
  | true =>
    unfold report_maker_add report_maker_add_sk
    rw [hk]
    rfl
  | false =>
    have h := with_eq m.file (kget Key.K m.all k Body.Z)
    simp only [cond_false]
    rw [← h]
    unfold report_maker_add report_maker_add_sk
    rw [hk]
    rfl
theorem paper_len {r : Realm} {f : File} (h : paper_Check r f = 0) : f.signs.length ≤ 40 ∧ f.alters.length ≤ 4 ∧ f.acts.length ≤ 100 ∧ f.facts.length ≤ 200 := by
  unfold paper_Check paper_Check_sk at h
  simp only [Sk.val_br] at h
  revert h
  cases hc : ((((decide (((f.signs.length : Nat) : Int) > 40)) || (decide (((f.alters.length : Nat) : Int) > 4))) || (decide (((f.acts.length : Nat) : Int) > 100))) || (decide (((f.facts.length : Nat) : Int) > 200))) with
  | true => intro h; simp only [cond_true, Sk.val_fin] at h; omega
  | false =>
    intro _
    simp only [Bool.or_eq_false_iff, decide_eq_false_iff_not] at hc
    omega
theorem paper_small {r : Realm} {f : File} (h : paper_Check r f = 0) : f.Small := by have := paper_len h; unfold File.Small; omega
theorem kget_in {κ α : Type} (K : KE κ) (hK : ∀ a b : κ, eqCs (K.C a) (K.C b) = true ↔ a = b) {m : List (κ × α)} {k : κ} {z : α} (h : khas K m k = true) : (k, kget K m k z) ∈ m := by
  unfold khas at h
  unfold kget
  cases hf : kfind K m k with
  | none => rw [hf] at h; cases h
  | some v => exact kfind_some K hK m k v hf
theorem about_kind (b : Body) : (report_about b).kind = b.kind := by
  have e : report_about b = bif b.kind == 4 then ({ kind := b.kind, index := 0, at_ := b.fact.at_, fact := b.fact.kind } : Key) else ({ kind := b.kind, index := b.index, at_ := 0, fact := 0 } : Key) := rfl
  rw [e]
  cases (b.kind == 4) <;> rfl
abbrev AddP (m : Maker) (k : Key) (x : Bool × Maker) : Prop := x.2.r = m.r ∧ x.2.all = m.all ∧ (m.file.signs.length ≤ 40 → x.2.file.signs.length ≤ 40) ∧ (m.file.Small → x.2.file.Small) ∧ x.2.used.length ≤ m.used.length + 1 ∧ (x.1 = false → x.2 = m) ∧ (MapOK m.all → x.1 = true → k.kind = 1 → x.2.file.signs.length = m.file.signs.length + 1)
theorem add_post (m : Maker) (k : Key) : AddP m k (report_maker_add m k) := by
  rw [add_eq]
  unfold addP
  cases h1 : khas Key.K m.all k with
  | false => simp only [Bool.not_false, cond_true]; exact ⟨rfl, rfl, id, id, Nat.le_succ _, fun _ => rfl, fun _ h => by cases h⟩
  | true =>
    simp only [Bool.not_true, cond_false]
    cases h2 : (paper_Check m.r (nextP m.file k (kget Key.K m.all k Body.Z)) != 0) with
    | true => simp only [cond_true]; exact ⟨rfl, rfl, id, id, Nat.le_succ _, fun _ => rfl, fun _ h => by cases h⟩
    | false =>
      have h3 : paper_Check m.r (nextP m.file k (kget Key.K m.all k Body.Z)) = 0 := by simpa using h2
      simp only [cond_false]
      refine ⟨rfl, rfl, fun _ => (paper_len h3).1, fun _ => paper_small h3, by simp, fun h => (by cases h), fun hm _ hk => ?_⟩
      have h4 := hm _ (kget_in Key.K (fun _ _ => eqKey) (z := Body.Z) h1)
      have h5 : (kget Key.K m.all k Body.Z).kind = 1 := by rw [← about_kind, h4]; exact hk
      show (nextP m.file k (kget Key.K m.all k Body.Z)).signs.length = _
      unfold nextP withP
      simp [hk, h5]
def MkOK (r : Realm) (all : List (Key × Body)) (n : Nat) (m : Maker) : Prop := m.r = r ∧ m.all = all ∧ m.file.signs.length ≤ 40 ∧ m.file.Small ∧ m.used.length ≤ n
theorem MkOK.step {r : Realm} {all : List (Key × Body)} {n : Nat} {m : Maker} {k : Key} {x : Bool × Maker} (h : MkOK r all n m) (hx : AddP m k x) : MkOK r all (n + 1) x.2 :=
  ⟨hx.1.trans h.1, hx.2.1.trans h.2.1, hx.2.2.1 h.2.2.1, hx.2.2.2.1 h.2.2.2.1, by have h1 := hx.2.2.2.2.1; have h2 := h.2.2.2.2; omega⟩
theorem MkOK.le {r : Realm} {all : List (Key × Body)} {n n' : Nat} {m : Maker} (h : MkOK r all n m) (hn : n ≤ n') : MkOK r all n' m := ⟨h.1, h.2.1, h.2.2.1, h.2.2.2.1, Nat.le_trans h.2.2.2.2 hn⟩
theorem MkOK.pre {r : Realm} {all : List (Key × Body)} {n : Nat} {m : Maker} (h : MkOK r all n m) (hn : n ≤ 1000) (hr : r.Small) : m.used.length ≤ 1000000 ∧ m.file.Small ∧ m.r.Small := ⟨by have := h.2.2.2.2; omega, h.2.2.2.1, h.1 ▸ hr⟩

theorem report_maker_add_post (m : Maker) (k_ : Key) : (fun (x : Bool × Maker) => AddP m k_ x) (report_maker_add m k_) := add_post m k_
theorem report_maker_add_ok (m : Maker) (k_ : Key) (hu : m.used.length ≤ 1000000) (hs : m.file.Small) (h_m_r_Small : m.r.Small) : (report_maker_add_sk m k_).obs (fun _ => True) := by
  simp only [File.Small, Realm.Small] at hs
  simp only [File.Small, Realm.Small] at h_m_r_Small
  unfold report_maker_add_sk
  try simp only [paper_Check_k, report_with_k, File.Small, Realm.Small]
  exact okD

theorem report_maker_add_fnB (m : Maker) (k_ : Key) (hu : m.used.length ≤ 1000000) (hs : m.file.Small) (h_m_r_Small : m.r.Small) : FnB Tryz.prog 88 [.ptr 888000 0, av k_.cells] (Maker.bx 888000 888000 m) ((fun (x : Bool × Maker) => (bv x.1 : AV)) (report_maker_add m k_)) ((fun (x : Bool × Maker) => Maker.bx 888000 888005 x.2) (report_maker_add m k_)) [(0, 888000)] :=
  FnB.sk tok mixed (fun x => bv x.1) (fun x => Maker.bx 888000 888005 x.2) [(0, 888000)] Tryz.func88 rfl (by kernel_rfl) 3000 (report_maker_add_sk m k_) (by kernel_rfl) (report_maker_add_ok m k_ hu hs h_m_r_Small)
noncomputable def report_maker_add_kb (m : Maker) (k_ : Key) : CtrB (Bool × Maker) := ⟨Tryz.prog, 88, [.ptr 888000 0, av k_.cells], (Maker.bx 888000 888000 m), [(0, 888000)], fun x => bv x.1, fun x => Maker.bx 888000 888005 x.2, report_maker_add m k_, (m.used.length ≤ 1000000) ∧ (m.file.Small) ∧ (m.r.Small), fun h => report_maker_add_fnB m k_ h.1 h.2.1 h.2.2, fun (x : Bool × Maker) => AddP m k_ x, report_maker_add_post m k_⟩
noncomputable def report_build_sk (r : Realm) (l : List Arrival) (bill : Int) (day : Int) : Sk (Maker) :=
 .r 1 ((report_stated_km l bill day).c) fun x1 =>
 .up ⟨[(9, .ptr 888000 0)], Maker.bx 888000 888000 ({ r := r, all := x1, file := ({ bill := ({ drawer := 0, drawee := 0, payee := 0, sum := 0, currency := 0, tenor := ({ kind := 0, n := 0, unit := 0 } : Tenor), day := 0, city := 0, pay := 0, need := 0, rate := 0, flags := 0, parts := 0 } : Bill), signs := [], alters := [], acts := [], facts := [] } : File), used := [] } : Maker)⟩ <|
 .r 2 ((report_maker_add_kb ({ r := r, all := x1, file := ({ bill := ({ drawer := 0, drawee := 0, payee := 0, sum := 0, currency := 0, tenor := ({ kind := 0, n := 0, unit := 0 } : Tenor), day := 0, city := 0, pay := 0, need := 0, rate := 0, flags := 0, parts := 0 } : Bill), signs := [], alters := [], acts := [], facts := [] } : File), used := [] } : Maker) ({ kind := 0, index := 0, at_ := 0, fact := 0 } : Key)).c) fun x2 =>
 .br (!x2.1)
 (.fin x2.2)
 (.bind true (fun b3 => MkOK r x1 (41) b3)
 (.loop (default : Sum (Maker) (Maker)) (fun i4 => MkOK r x1 (i4.2.file.signs.length + 1) i4.2) (fun i4 => 40 - i4.2.file.signs.length) ((1, x2.2) : Int × Maker)
 (fun (i4 : Int × Maker) => ⟨[(10, iv i4.1)], Maker.bx 888000 888000 i4.2⟩) fun i4 =>
 .r 5 ((report_maker_add_kb i4.2 ({ kind := 1, index := i4.1, at_ := 0, fact := 0 } : Key)).c) fun x5 =>
 .br x5.1
 (.fin (.inr (w64 (i4.1 + 1), x5.2)))
 (.fin (.inl (.inr x5.2))))
 (fun (b3 : Maker) => ⟨[], Maker.bx 888000 888000 b3⟩) fun b3 =>
 .bind true (fun b6 => MkOK r x1 (45) b6)
 (.loop (default : Sum (Maker) (Maker)) (fun i7 => i7.1 ≤ 4 ∧ MkOK r x1 (41 + i7.1) i7.2) (fun i7 => 4 - i7.1) ((0, b3) : Nat × Maker)
 (fun (i7 : Nat × Maker) => ⟨[(33, iv ((i7.1 : Nat) : Int))], Maker.bx 888000 888000 i7.2⟩) fun i7 =>
 .br (decide (((i7.1 : Nat) : Int) < 4))
 (.r 10 ((report_maker_add_kb i7.2 ({ kind := 3, index := ((i7.1 : Nat) : Int), at_ := 0, fact := 0 } : Key)).c) fun x8 =>
 .nx 11 33 i7.1 (i7.1 + 1, x8.2))
 (.fin (.inl (.inr i7.2))))
 (fun (b6 : Maker) => ⟨[], Maker.bx 888000 888000 b6⟩) fun b6 =>
 .bind true (fun b9 => MkOK r x1 (145) b9)
 (.loop (default : Sum (Maker) (Maker)) (fun i10 => i10.1 ≤ 100 ∧ MkOK r x1 (45 + i10.1) i10.2) (fun i10 => 100 - i10.1) ((0, b6) : Nat × Maker)
 (fun (i10 : Nat × Maker) => ⟨[(41, iv ((i10.1 : Nat) : Int))], Maker.bx 888000 888000 i10.2⟩) fun i10 =>
 .br (decide (((i10.1 : Nat) : Int) < 100))
 (.r 15 ((report_maker_add_kb i10.2 ({ kind := 2, index := ((i10.1 : Nat) : Int), at_ := 0, fact := 0 } : Key)).c) fun x11 =>
 .nx 16 41 i10.1 (i10.1 + 1, x11.2))
 (.fin (.inl (.inr i10.2))))
 (fun (b9 : Maker) => ⟨[], Maker.bx 888000 888000 b9⟩) fun b9 =>
 .bind true (fun b12 => MkOK r x1 (345) b12)
 (.loop (default : Sum (Maker) (Maker)) (fun i13 => i13.1 ≤ b9.file.signs.length ∧ MkOK r x1 (145 + 5 * i13.1) i13.2) (fun i13 => b9.file.signs.length - i13.1) ((0, b9) : Nat × Maker)
 (fun (i13 : Nat × Maker) => ⟨[(55, iv ((i13.1 : Nat) : Int))], Maker.bx 888000 888000 i13.2⟩) fun i13 =>
 .br (decide (((i13.1 : Nat) : Int) < ((b9.file.signs.length : Nat) : Int)))
 (.bind true (fun b14 => MkOK r x1 (150 + 5 * i13.1) b14)
 (.bind true (fun b15 => MkOK r x1 (150 + 5 * i13.1) b15.2)
 (.loop (default : Sum (Sum (Sum (Sum (Maker) (Maker)) (Nat × Maker)) (Maker)) (Int × Maker)) (fun i16 => i16.1 ≤ 5 ∧ MkOK r x1 (145 + 5 * i13.1 + i16.1) i16.2) (fun i16 => 5 - i16.1) ((0, i13.2) : Nat × Maker)
 (fun (i16 : Nat × Maker) => ⟨[(58, iv ((i16.1 : Nat) : Int))], Maker.bx 888000 888000 i16.2⟩) fun i16 =>
 .br (decide (((i16.1 : Nat) : Int) < 5))
 (.r 23 ((report_maker_add_kb i16.2 ({ kind := 4, index := 0, at_ := ((i13.1 : Nat) : Int), fact := ((i16.1 : Nat) : Int) } : Key)).c) fun x17 =>
 .nx 24 58 i16.1 (i16.1 + 1, x17.2))
 (.fin (.inl (.inr (((i16.1 : Nat) : Int), i16.2)))))
 (fun (b15 : Int × Maker) => ⟨[(58, iv b15.1)], Maker.bx 888000 888000 b15.2⟩) fun b15 =>
 .fin (.inr b15.2))
 (fun (b14 : Maker) => ⟨[], Maker.bx 888000 888000 b14⟩) fun b14 =>
 .nx 25 55 i13.1 (i13.1 + 1, b14))
 (.fin (.inl (.inr i13.2))))
 (fun (b12 : Maker) => ⟨[], Maker.bx 888000 888000 b12⟩) fun b12 =>
 .fin b12)
noncomputable def report_build r l bill day := (report_build_sk r l bill day).val
theorem report_build_ok (r : Realm) (l : List Arrival) (bill : Int) (day : Int) (hi : ∀ a, a ∈ l → a.report.I64) (h_r_Small : r.Small) : (report_build_sk r l bill day).obs (fun _ => True) := by
  unfold report_build_sk
  refine ⟨hi, fun A _ hA => ?_⟩
  have hA : MapOK A := hA
  have st : ∀ {i n : Nat}, decide ((i : Int) < (n : Int)) = true → i < n := fun h => by have h := of_decide_eq_true h; omega
  have sf : ∀ {i n : Nat}, decide ((i : Int) < (n : Int)) = false → n ≤ i := fun h => by have h := of_decide_eq_false h; omega
  have w : ∀ {i : Nat}, i ≤ 1000 → w64 ((i : Int) + 1) = ((i + 1 : Nat) : Int) := fun h => by rw [w64_id (by omega) (by omega)]; omega
  refine ⟨⟨Nat.zero_le _, ⟨Nat.zero_le _, Nat.zero_le _, Nat.zero_le _, Nat.zero_le _⟩, h_r_Small⟩, fun x2 _ h2 => ⟨fun _ => trivial, fun hc => ⟨⟨?_, fun i hi => ⟨hi.pre (by have := hi.2.2.1; omega) h_r_Small, fun x5 _ h5 => ⟨fun ht => ?_, fun ht => ?_⟩⟩⟩, fun b3 _ h3 => ?_⟩⟩⟩
  · have h2 : AddP _ _ x2 := h2
    exact ⟨h2.1, h2.2.1, h2.2.2.1 (Nat.zero_le _), h2.2.2.2.1 ⟨Nat.zero_le _, Nat.zero_le _, Nat.zero_le _, Nat.zero_le _⟩, by have h : x2.2.used.length ≤ 0 + 1 := h2.2.2.2.2.1; show x2.2.used.length ≤ x2.2.file.signs.length + 1; omega⟩
  · have h5 : AddP _ _ x5 := h5
    have hl := h5.2.2.2.2.2.2 (hi.2.1 ▸ hA) ht rfl
    have hs := h5.2.2.1 hi.2.2.1
    exact ⟨(hi.step h5).le (by show i.2.file.signs.length + 1 + 1 ≤ x5.2.file.signs.length + 1; omega), by show 40 - x5.2.file.signs.length < 40 - i.2.file.signs.length; omega⟩
  · have h5 : AddP _ _ x5 := h5
    have e := h5.2.2.2.2.2.1 ht
    show MkOK r A 41 x5.2
    rw [e]
    exact hi.le (by have := hi.2.2.1; omega)
  refine ⟨⟨⟨Nat.zero_le _, h3⟩, fun i hi => ⟨fun hc => ⟨hi.2.pre (by omega) h_r_Small, fun x8 _ h8 => ⟨trivial, fun _ _ _ => ⟨w (by omega), ⟨have := st (n := 4) hc; by show i.1 + 1 ≤ 4; omega, (hi.2.step h8).le (Nat.le_of_eq (by omega))⟩, have := st (n := 4) hc; by show 4 - (i.1 + 1) < 4 - i.1; omega⟩⟩⟩, fun _ => hi.2.le (by omega)⟩⟩, fun b6 _ h6 => ?_⟩
  refine ⟨⟨⟨Nat.zero_le _, h6⟩, fun i hi => ⟨fun hc => ⟨hi.2.pre (by omega) h_r_Small, fun x8 _ h8 => ⟨trivial, fun _ _ _ => ⟨w (by omega), ⟨have := st (n := 100) hc; by show i.1 + 1 ≤ 100; omega, (hi.2.step h8).le (Nat.le_of_eq (by omega))⟩, have := st (n := 100) hc; by show 100 - (i.1 + 1) < 100 - i.1; omega⟩⟩⟩, fun _ => hi.2.le (by omega)⟩⟩, fun b9 _ h9 => ?_⟩
  have hn := h9.2.2.1
  refine ⟨⟨⟨Nat.zero_le _, h9⟩, fun i hi => ⟨fun hc => ?_, fun _ => hi.2.le (by omega)⟩⟩, fun b12 _ h12 => trivial⟩
  refine ⟨⟨⟨⟨Nat.zero_le _, hi.2⟩, fun j hj => ⟨fun hc => ⟨hj.2.pre (by omega) h_r_Small, fun x8 _ h8 => ⟨trivial, fun _ _ _ => ⟨w (by omega), ⟨have := st (n := 5) hc; by show j.1 + 1 ≤ 5; omega, (hj.2.step h8).le (Nat.le_of_eq (by omega))⟩, have := st (n := 5) hc; by show 5 - (j.1 + 1) < 5 - j.1; omega⟩⟩⟩, fun _ => hj.2.le (by omega)⟩⟩, fun b15 _ h15 => h15⟩, fun b14 _ h14 => ⟨trivial, fun _ _ _ => ⟨w (by omega), ⟨have := st hc; by show i.1 + 1 ≤ b9.file.signs.length; omega, h14.le (by omega)⟩, have := st hc; by show b9.file.signs.length - (i.1 + 1) < b9.file.signs.length - i.1; omega⟩⟩⟩

theorem report_build_fnM (r : Realm) (l : List Arrival) (bill : Int) (day : Int) (hi : ∀ a, a ∈ l → a.report.I64) (h_r_Small : r.Small) : FnA Tryz.prog 51 [av r.cells, lv Arrival.cells l, iv bill, iv day] [] ((fun (_ : Maker) => (.ptr 777700 0 : AV)) (report_build r l bill day)) ((fun (x : Maker) => Maker.bx 777700 777700 x) (report_build r l bill day)) :=
  FnA.sk tok mixed (fun x => .ptr 777700 0) (fun x => Maker.bx 777700 777700 x) Tryz.func51 rfl (by kernel_rfl) 3000 (report_build_sk r l bill day) (by kernel_rfl) (report_build_ok r l bill day hi h_r_Small)
noncomputable def report_build_km (r : Realm) (l : List Arrival) (bill : Int) (day : Int) : CtrO (Maker) := ⟨Tryz.prog, 51, [av r.cells, lv Arrival.cells l, iv bill, iv day], fun x => .ptr 777700 0, fun x => Maker.bx 777700 777700 x, report_build r l bill day, (∀ a, a ∈ l → a.report.I64) ∧ (r.Small), fun h => report_build_fnM r l bill day h.1 h.2, fun _ => True, trivial⟩
noncomputable def report_File_sk (r : Realm) (l : List Arrival) (bill : Int) (day : Int) : Sk (File × Bool) :=
 .r 1 ((report_build_km r l bill day).c) fun x1 =>
 .fin (x1.file, decide (((x1.used.length : Nat) : Int) > 0))
noncomputable def report_File r l bill day := (report_File_sk r l bill day).val
theorem report_File_ok (r : Realm) (l : List Arrival) (bill : Int) (day : Int) (hi : ∀ a, a ∈ l → a.report.I64) (h_r_Small : r.Small) : (report_File_sk r l bill day).obs (fun _ => True) := by
  simp only [File.Small, Realm.Small] at h_r_Small
  unfold report_File_sk
  try simp only [report_build_km, File.Small, Realm.Small]
  exact okD

noncomputable def report_File_k r l bill day := kk tok mixed Tryz.func17 [av r.cells, lv Arrival.cells l, iv bill, iv day] (fun x => .tup [av x.1.cells, bv x.2]) false (report_File_sk r l bill day) (report_File r l bill day) (u2 (report_File_ok r l bill day))
noncomputable def allongeref14_Same_sk (a : File) (b : File) : Sk (Bool) :=
 .br (((((!(eqCs (Bill.cells a.bill) (Bill.cells b.bill))) || (((a.signs.length : Nat) : Int) != ((b.signs.length : Nat) : Int))) || (((a.alters.length : Nat) : Int) != ((b.alters.length : Nat) : Int))) || (((a.acts.length : Nat) : Int) != ((b.acts.length : Nat) : Int))) || (((a.facts.length : Nat) : Int) != ((b.facts.length : Nat) : Int)))
 (.fin false)
 (.bt
 (.loop (default : Sum (Bool) (Unit)) (fun i2 => i2 ≤ a.signs.length) (fun i2 => a.signs.length - i2) (0 : Nat)
 (fun (i2 : Nat) => ⟨[(5, iv ((i2 : Nat) : Int))], []⟩) fun i2 =>
 .lt 2 15 i2 a.signs.length
 (.r 6 (.andl (.p (ixP ((i2 : Nat) : Int) a.signs.length)) (.p (ixP ((i2 : Nat) : Int) b.signs.length))) fun _ =>
 .br (!((((a.signs.getD i2 default).kind) == ((b.signs.getD i2 default).kind)) && ((((a.signs.getD i2 default).part) == ((b.signs.getD i2 default).part)) && ((((a.signs.getD i2 default).who) == ((b.signs.getD i2 default).who)) && ((((a.signs.getD i2 default).for_) == ((b.signs.getD i2 default).for_)) && ((((a.signs.getD i2 default).to_) == ((b.signs.getD i2 default).to_)) && ((((a.signs.getD i2 default).sum) == ((b.signs.getD i2 default).sum)) && ((((a.signs.getD i2 default).day) == ((b.signs.getD i2 default).day)) && ((((a.signs.getD i2 default).city) == ((b.signs.getD i2 default).city)) && ((((a.signs.getD i2 default).flags) == ((b.signs.getD i2 default).flags)) && true))))))))))
 (.fin (.inl (.inl false)))
 (.nx 5 5 i2 (i2 + 1)))
 (.fin (.inl (.inr ()))))
 (fun (_ : Unit) => ⟨[], []⟩) fun _ =>
 .bt
 (.loop (default : Sum (Bool) (Unit)) (fun i4 => i4 ≤ a.alters.length) (fun i4 => a.alters.length - i4) (0 : Nat)
 (fun (i4 : Nat) => ⟨[(6, iv ((i4 : Nat) : Int))], []⟩) fun i4 =>
 .lt 2 16 i4 a.alters.length
 (.r 11 (.andl (.p (ixP ((i4 : Nat) : Int) a.alters.length)) (.p (ixP ((i4 : Nat) : Int) b.alters.length))) fun _ =>
 .br (!((((a.alters.getD i4 default).at_) == ((b.alters.getD i4 default).at_)) && ((((a.alters.getD i4 default).sum) == ((b.alters.getD i4 default).sum)) && true)))
 (.fin (.inl (.inl false)))
 (.nx 10 6 i4 (i4 + 1)))
 (.fin (.inl (.inr ()))))
 (fun (_ : Unit) => ⟨[], []⟩) fun _ =>
 .bt
 (.loop (default : Sum (Bool) (Unit)) (fun i6 => i6 ≤ a.acts.length) (fun i6 => a.acts.length - i6) (0 : Nat)
 (fun (i6 : Nat) => ⟨[(7, iv ((i6 : Nat) : Int))], []⟩) fun i6 =>
 .lt 2 17 i6 a.acts.length
 (.r 16 (.andl (.p (ixP ((i6 : Nat) : Int) a.acts.length)) (.p (ixP ((i6 : Nat) : Int) b.acts.length))) fun _ =>
 .br (!((((a.acts.getD i6 default).kind) == ((b.acts.getD i6 default).kind)) && ((((a.acts.getD i6 default).who) == ((b.acts.getD i6 default).who)) && ((((a.acts.getD i6 default).to_) == ((b.acts.getD i6 default).to_)) && ((((a.acts.getD i6 default).part) == ((b.acts.getD i6 default).part)) && ((((a.acts.getD i6 default).at_) == ((b.acts.getD i6 default).at_)) && ((((a.acts.getD i6 default).sum) == ((b.acts.getD i6 default).sum)) && ((((a.acts.getD i6 default).day) == ((b.acts.getD i6 default).day)) && ((((a.acts.getD i6 default).city) == ((b.acts.getD i6 default).city)) && ((((a.acts.getD i6 default).form) == ((b.acts.getD i6 default).form)) && true))))))))))
 (.fin (.inl (.inl false)))
 (.nx 15 7 i6 (i6 + 1)))
 (.fin (.inl (.inr ()))))
 (fun (_ : Unit) => ⟨[], []⟩) fun _ =>
 .bt
 (.loop (default : Sum (Bool) (Unit)) (fun i8 => i8 ≤ a.facts.length) (fun i8 => a.facts.length - i8) (0 : Nat)
 (fun (i8 : Nat) => ⟨[(8, iv ((i8 : Nat) : Int))], []⟩) fun i8 =>
 .lt 2 18 i8 a.facts.length
 (.r 21 (.andl (.p (ixP ((i8 : Nat) : Int) a.facts.length)) (.p (ixP ((i8 : Nat) : Int) b.facts.length))) fun _ =>
 .br (!((((a.facts.getD i8 default).kind) == ((b.facts.getD i8 default).kind)) && ((((a.facts.getD i8 default).at_) == ((b.facts.getD i8 default).at_)) && ((((a.facts.getD i8 default).n) == ((b.facts.getD i8 default).n)) && true))))
 (.fin (.inl (.inl false)))
 (.nx 20 8 i8 (i8 + 1)))
 (.fin (.inl (.inr ()))))
 (fun (_ : Unit) => ⟨[], []⟩) fun _ =>
 .fin true)
noncomputable def allongeref14_Same a b := (allongeref14_Same_sk a b).val
theorem allongeref14_Same_pst (a : File) (b : File) : (allongeref14_Same_sk a b).pst (fun (x : Bool) => a = b → x = true) := by
  refine Sk.pst_of _ ?_
  unfold allongeref14_Same_sk
  simp only [Sk.pstq, Sk.isLoop, reduceCtorEq, ON, kk, kp, maxLen]
  have hb : ∀ x : Bill, eqCs x.cells x.cells = true := fun x => eqCs_rfl rfl
  all_goals (repeat' first | assumption | (apply And.intro) | (intro h))
  all_goals first
    | omega
    | (simp only [LN] at *; omega)
    | (subst_vars; simp_all; done)

theorem allongeref14_Same_post (a : File) (b : File) : (fun (x : Bool) => a = b → x = true) (allongeref14_Same a b) := have h := Sk.pval _ (allongeref14_Same_pst a b); h
theorem allongeref14_Same_ok (a : File) (b : File) : (allongeref14_Same_sk a b).obs (fun _ => True) := by
  unfold allongeref14_Same_sk
  exact okD

noncomputable def allongeref14_Same_k a b := kp tok mixed Tryz.func18 [av a.cells, av b.cells] (fun x => bv x) true (allongeref14_Same a b) (u0 (allongeref14_Same_ok a b)) (allongeref14_Same_pst a b)
end Go.Proofs.YtihmmpaalpghbaaGreatDoor

