/- Weakening of states: keys renamed, data said otherwise, nil taken for an empty row; own blocks that come back. -/
import Derived.Test.YtihmmpaalpghbaaGreatDoorAvS
set_option linter.unusedSimpArgs false
set_option linter.unusedVariables false
namespace Go.Av
open Go
set_option linter.unusedSectionVars false
variable [Globs]
abbrev Ren := List (Nat × Option Nat)
def muOf (ρ : Ren) (μ : Mu) : Mu := fun k => match look ρ k with | some (some o) => μ o | some none => some none | none => none
def keyOK (ρ : Ren) (κ' κ : Nat) : Bool := match look ρ κ' with | some (some o) => Nat.beq o κ | _ => false
def nilOK (ρ : Ren) (κ' : Nat) : Bool := match look ρ κ' with | some none => true | _ => false
theorem keyOK_mu {ρ : Ren} {κ' κ : Nat} (h : keyOK ρ κ' κ = true) (μ : Mu) : muOf ρ μ κ' = μ κ := by
 unfold keyOK at h
 unfold muOf
 split at h
 ·rename_i o hl
  rw [hl]
  simp only [Nat.eq_of_beq_eq_true h]
 ·cases h
theorem nilOK_mu {ρ : Ren} {κ' : Nat} (h : nilOK ρ κ' = true) (μ : Mu) : muOf ρ μ κ' = some none := by
 unfold nilOK at h
 unfold muOf
 split at h
 ·rename_i hl; rw [hl]
 ·cases h
mutual
def avLe (ρ : Ren) : AV → AV → Option Prop
 | _, .any => some True
 | .d x, .d y => some (DLe x y)
 | .own κ n, .own κ' n' => bif keyOK ρ κ' κ then some (n = n') else none
 | .d (.v (.slice none 0 0)), .own κ' n' => bif nilOK ρ κ' then some (n' = 0) else none
 | .ptr κ o, .ptr κ' o' => bif keyOK ρ κ' κ && Nat.beq o o' then some True else none
 | .ref cs, .ref cs' => some (cs = cs')
 | .fn f l, .fn f' l' => bif Nat.beq f f' then avLeL ρ l l' else none
 | .tup l, .tup l' => avLeL ρ l l'
 | .ag l, .ag l' => avLeL ρ l l'
 | .mpv κ, .mpv κ' => bif keyOK ρ κ' κ then some True else none
 | .pmp n f, .pmp n' f' => some (n = n' ∧ f = f')
 | .nns n f, .nns n' f' => some (n = n' ∧ f = f')
 | .nns n f, .d (.sl n' f') => some (n = n' ∧ f = f')
 | .elt κ k i o, .elt κ' k' i' o' => bif keyOK ρ κ' κ && Nat.beq k k' && Nat.beq o o' then some (i = i') else none
 | _, _ => none
def avLeL (ρ : Ren) : List AV → List AV → Option Prop
 | [], [] => some True
 | x :: r, y :: s => (match avLe ρ x y, avLeL ρ r s with | some a, some b => some (a ∧ b) | _, _ => none)
 | _, _ => none
end
def blLe (ρ : Ren) : Blk → Blk → Option Prop
 | .box cs, .box cs' => avLeL ρ cs cs'
 | .row e k n f, .row e' k' n' f' => bif Nat.beq e e' && Nat.beq k k' then some (n = n' ∧ ∀ i, i < n → f i = f' i) else none
 | .mp n f, .mp n' f' => some (n = n' ∧ f = f')
 | .mp n f, .ml n' f' => some (n = n' ∧ f = f')
 | .ml n f, .ml n' f' => some (n = n' ∧ f = f')
 | .it mk n s, .it mk' n' s' => bif keyOK ρ mk' mk then some (n = n' ∧ s = s') else none
 | .mx q, .mx q' => some (q = q')
 | .tx q, .tx q' => some (q = q')
 | .rx e k n q, .rx e' k' n' q' => bif Nat.beq e e' && Nat.beq k k' then some (n = n' ∧ q = q') else none
 | _, _ => none
def slLe (ρ : Ren) (sl : List (Nat × AV)) : List (Nat × AV) → Option Prop
 | [] => some True
 | (t, x) :: r => (match avLe ρ (St.get sl t) x, slLe ρ sl r with | some a, some b => some (a ∧ b) | _, _ => none)
def lbLe (ρ : Ren) (lb : List (Nat × Blk)) : List (Nat × Blk) → Option Prop
 | [] => some True
 | (κ, b) :: r => (match look ρ κ, lbLe ρ lb r with
  | some (some o), some p => (match look lb o with | some c => (match blLe ρ c b with | some q => some (q ∧ p) | none => none) | none => none)
  | some none, some p => (match b with | .row _ _ n _ => some (n = 0 ∧ p) | _ => none)
  | _, _ => none)
def injB : Ren → Bool
 | [] => true
 | (_, some o) :: r => r.all (fun p => match p.2 with | some q => !Nat.beq q o | none => true) && injB r
 | (_, none) :: r => injB r
section
variable {w : World} {S : Nat → Prop} {μ : Mu} {ν : Nat → Bool} {ρ : Ren}
theorem cond_some {α : Type} {b : Bool} {x y : α} (h : (bif b then some x else none) = some y) : b = true ∧ x = y := by
 cases b with
 | true => exact ⟨rfl, Option.some.inj h⟩
 | false => cases h
mutual
theorem avLe_rel : ∀ (x y : AV) (ob : Prop), avLe ρ x y = some ob → ob → ∀ v, Rel w S μ ν x v → Rel w S (muOf ρ μ) ν y v
 | x, y, ob, h, hob, v, hr => by
  unfold avLe at h
  split at h
  ·exact .any v
  ·simp only [Option.some.injEq] at h
   subst h
   exact .d (hob _ _ _ (rel_d.1 hr))
  ·obtain ⟨h1, rfl⟩ := cond_some h
   subst hob
   have hk := keyOK_mu h1 μ
   cases hr with
   | ownNil hμ => exact .ownNil (by rw [hk]; exact hμ)
   | own hμ => exact .own (by rw [hk]; exact hμ)
  ·obtain ⟨h1, rfl⟩ := cond_some h
   have := rel_scalar rfl hr
   rw [this, hob]
   exact .ownNil (nilOK_mu h1 μ)
  ·obtain ⟨h1, -⟩ := cond_some h
   simp only [Bool.and_eq_true] at h1
   have e := Nat.eq_of_beq_eq_true h1.2
   subst e
   cases hr with
   | ptr hμ => exact .ptr (by rw [keyOK_mu h1.1 μ]; exact hμ)
  ·simp only [Option.some.injEq] at h
   subst h
   subst hob
   cases hr with
   | ref vals hc h => exact .ref vals hc h
  ·rename_i f l f' l'
   cases hb : Nat.beq f f' with
   | false => rw [hb] at h; cases h
   | true =>
    rw [hb] at h
    have e := Nat.eq_of_beq_eq_true hb
    subst e
    simp only [cond_true] at h
    cases hr with
    | fn hl hh =>
     obtain ⟨q1, q2⟩ := avLeL_rel l l' ob h hob
     exact .fn (by omega) (fun i hi => q2 i hi _ (hh i (by omega)))
  ·rename_i l l'
   cases hr with
   | tup hl hh =>
    obtain ⟨q1, q2⟩ := avLeL_rel l l' ob h hob
    exact .tup (by omega) (fun i hi => q2 i hi _ (hh i (by omega)))
  ·rename_i l l'
   cases hr with
   | ag hl hh =>
    obtain ⟨q1, q2⟩ := avLeL_rel l l' ob h hob
    exact .ag (by omega) (fun i hi => q2 i hi _ (hh i (by omega)))
  ·obtain ⟨h1, -⟩ := cond_some h
   cases hr with
   | mpv hμ => exact .mpv (by rw [keyOK_mu h1 μ]; exact hμ)
  ·simp only [Option.some.injEq] at h
   subst h
   obtain ⟨rfl, rfl⟩ := hob
   cases hr with
   | pmp hd => exact .pmp hd
  ·simp only [Option.some.injEq] at h
   subst h
   obtain ⟨rfl, rfl⟩ := hob
   cases hr with
   | nns hd => exact .nns hd
  ·simp only [Option.some.injEq] at h
   subst h
   obtain ⟨rfl, rfl⟩ := hob
   cases hr with
   | nns hd => exact .d hd
  ·obtain ⟨h1, rfl⟩ := cond_some h
   subst hob
   simp only [Bool.and_eq_true] at h1
   have e1 := Nat.eq_of_beq_eq_true h1.1.2
   have e2 := Nat.eq_of_beq_eq_true h1.2
   subst e1; subst e2
   cases hr with
   | elt hμ => exact .elt (by rw [keyOK_mu h1.1.1 μ]; exact hμ)
  ·cases h
theorem avLeL_rel : ∀ (l l' : List AV) (ob : Prop), avLeL ρ l l' = some ob → ob → l.length = l'.length ∧ ∀ i, i < l'.length → ∀ v, Rel w S μ ν (l.getD i default) v → Rel w S (muOf ρ μ) ν (l'.getD i default) v
 | [], [], _, _, _ => ⟨rfl, fun i hi => absurd hi (by simp)⟩
 | x :: r, y :: s, ob, h, hob => by
  simp only [avLeL] at h
  cases h1 : avLe ρ x y with
  | none => rw [h1] at h; cases h
  | some a =>
   cases h2 : avLeL ρ r s with
   | none => rw [h1, h2] at h; cases h
   | some b =>
    rw [h1, h2] at h
    simp only [Option.some.injEq] at h
    subst h
    obtain ⟨q1, q2⟩ := avLeL_rel r s b h2 hob.2
    refine ⟨by simp [q1], fun i hi => ?_⟩
    cases i with
    | zero => simpa using avLe_rel x y a h1 hob.1
    | succ i => simpa using q2 i (by simpa using hi)
 | [], _ :: _, _, h, _ => by simp [avLeL] at h
 | _ :: _, [], _, h, _ => by simp [avLeL] at h
end
theorem blLe_at {b b' : Blk} {ob : Prop} (h : blLe ρ b b' = some ob) (hob : ob) {g c : Nat} (hb : BlkAt w S μ b g c) : BlkAt w S (muOf ρ μ) b' g c := by
 cases b with
 | box cs =>
  cases b' with
  | row => simp [blLe] at h
  | mp => simp [blLe] at h
  | it => simp [blLe] at h
  | mx => simp [blLe] at h
  | tx => simp [blLe] at h
  | rx => simp [blLe] at h
  | ml => simp [blLe] at h
  | box cs' =>
   simp only [blLe] at h
   obtain ⟨cur, e, h1, h2, h3, h4⟩ := hb
   have hlen := (avLeL_rel (w := w) (S := S) (μ := μ) (ν := fun _ => false) cs cs' ob h hob).1
   refine ⟨cur, e, h1, h2, by omega, fun j hj => ?_⟩
   obtain ⟨x, hx, hr⟩ := h4 j (by omega)
   exact ⟨x, hx, fun ν => (avLeL_rel (w := w) (S := S) (μ := μ) (ν := ν) cs cs' ob h hob).2 j hj x (hr ν)⟩
 | row e k n f =>
  cases b' with
  | box => simp [blLe] at h
  | mp => simp [blLe] at h
  | it => simp [blLe] at h
  | mx => simp [blLe] at h
  | tx => simp [blLe] at h
  | rx => simp [blLe] at h
  | ml => simp [blLe] at h
  | row e' k' n' f' =>
   simp only [blLe] at h
   obtain ⟨h1, rfl⟩ := cond_some h
   simp only [Bool.and_eq_true] at h1
   have e1 := Nat.eq_of_beq_eq_true h1.1
   have e2 := Nat.eq_of_beq_eq_true h1.2
   subst e1; subst e2
   obtain ⟨rfl, hf⟩ := hob
   obtain ⟨cur, q1, q2, q3, q4, q5, q6⟩ := hb
   refine ⟨cur, q1, q2, q3, q4, q5, fun i hi => ?_⟩
   rw [← hf i hi]
   exact q6 i hi
 | mp n f =>
  cases b' with
  | box => simp [blLe] at h
  | row => simp [blLe] at h
  | it => simp [blLe] at h
  | mx => simp [blLe] at h
  | tx => simp [blLe] at h
  | rx => simp [blLe] at h
  | mp n' f' =>
   simp only [blLe, Option.some.injEq] at h
   subst h
   obtain ⟨rfl, rfl⟩ := hob
   exact hb
  | ml n' f' =>
   simp only [blLe, Option.some.injEq] at h
   subst h
   obtain ⟨rfl, rfl⟩ := hob
   obtain ⟨cur, q1, q2, q3, q4⟩ := hb
   refine ⟨cur, n, q1, q2, q3, fun i hi => ?_⟩
   obtain ⟨e, p1, p2, p3, _, p5⟩ := q4 i hi
   exact ⟨e, p1, p2, p3, p5⟩
 | ml n f =>
  cases b' with
  | ml n' f' =>
   simp only [blLe, Option.some.injEq] at h
   subst h
   obtain ⟨rfl, rfl⟩ := hob
   exact hb
  | _ => simp [blLe] at h
 | it mk n s =>
  cases b' with
  | box => simp [blLe] at h
  | row => simp [blLe] at h
  | mp => simp [blLe] at h
  | mx => simp [blLe] at h
  | tx => simp [blLe] at h
  | rx => simp [blLe] at h
  | ml => simp [blLe] at h
  | it mk' n' s' =>
   simp only [blLe] at h
   obtain ⟨h1, rfl⟩ := cond_some h
   obtain ⟨rfl, rfl⟩ := hob
   obtain ⟨mg, cc, q0, q1⟩ := hb
   exact ⟨mg, cc, by rw [keyOK_mu h1 μ]; exact q0, q1⟩
 | mx =>
  cases b' with
  | mx q' =>
   simp only [blLe, Option.some.injEq] at h
   subst h
   obtain rfl := hob
   exact hb
  | _ => simp [blLe] at h
 | tx =>
  cases b' with
  | tx q' =>
   simp only [blLe, Option.some.injEq] at h
   subst h
   obtain rfl := hob
   exact hb
  | _ => simp [blLe] at h
 | rx e k n q =>
  cases b' with
  | rx e' k' n' q' =>
   simp only [blLe] at h
   obtain ⟨h1, rfl⟩ := cond_some h
   simp only [Bool.and_eq_true] at h1
   have e1 := Nat.eq_of_beq_eq_true h1.1
   have e2 := Nat.eq_of_beq_eq_true h1.2
   subst e1; subst e2
   obtain ⟨rfl, rfl⟩ := hob
   exact hb
  | _ => simp [blLe] at h
theorem blLe_ok {b b' : Blk} {ob : Prop} (h : blLe ρ b b' = some ob) (hob : ob) {y : Option (Option (Nat × Nat))} (hb : BlkOK w S μ b y) : BlkOK w S (muOf ρ μ) b' y := by
 cases y with
 | none => cases b <;> exact hb.elim
 | some y =>
  cases y with
  | none =>
   cases b with
   | box => exact hb.elim
   | mp => exact hb.elim
   | it => exact hb.elim
   | mx => exact hb.elim
   | tx => exact hb.elim
   | ml => exact hb.elim
   | rx e k n q =>
    cases b' with
    | rx e' k' n' q' =>
     simp only [blLe] at h
     obtain ⟨_, rfl⟩ := cond_some h
     obtain ⟨rfl, rfl⟩ := hob
     exact hb
    | _ => simp [blLe] at h
   | row e k n f =>
    cases b' with
    | box => simp [blLe] at h
    | mp => simp [blLe] at h
    | it => simp [blLe] at h
    | mx => simp [blLe] at h
    | tx => simp [blLe] at h
    | rx => simp [blLe] at h
    | ml => simp [blLe] at h
    | row e' k' n' f' =>
     simp only [blLe] at h
     obtain ⟨_, rfl⟩ := cond_some h
     have : n = 0 := hb
     show n' = 0
     rw [← hob.1, this]
  | some gc => obtain ⟨g, c⟩ := gc; exact (blLe_at h hob hb.at).ok
theorem lbLe_spec {lb : List (Nat × Blk)} : ∀ {lb' : List (Nat × Blk)} {ob : Prop}, lbLe ρ lb lb' = some ob → ob → ∀ κ b, look lb' κ = some b →
  (∃ o c q, look ρ κ = some (some o) ∧ look lb o = some c ∧ blLe ρ c b = some q ∧ q) ∨ (look ρ κ = some none ∧ ∃ e k f, b = .row e k 0 f)
 | [], _, _, _, κ, b, hl => by simp [look] at hl
 | (κ0, b0) :: r, ob, h, hob, κ, b, hl => by
  simp only [lbLe] at h
  split at h
  ·rename_i o p hρ hr
   split at h
   ·rename_i c hc
    split at h
    ·rename_i q hq
     simp only [Option.some.injEq] at h
     subst h
     rw [look_cons] at hl
     split at hl
     ·rename_i e
      subst e
      simp only [Option.some.injEq] at hl
      subst hl
      exact .inl ⟨o, c, q, hρ, hc, hq, hob.1⟩
     ·exact lbLe_spec hr hob.2 κ b hl
    ·cases h
   ·cases h
  ·rename_i p hρ hr
   split at h
   ·rename_i e k n f
    simp only [Option.some.injEq] at h
    subst h
    rw [look_cons] at hl
    split at hl
    ·rename_i e'
     subst e'
     simp only [Option.some.injEq] at hl
     subst hl
     rw [hob.1]
     exact .inr ⟨hρ, e, k, f, rfl⟩
    ·exact lbLe_spec hr hob.2 κ b hl
   ·cases h
  ·cases h
theorem injB_spec : ∀ {ρ : Ren}, injB ρ = true → ∀ κ κ' o, look ρ κ = some (some o) → look ρ κ' = some (some o) → κ = κ'
 | [], _, κ, κ', o, h, _ => by simp [look] at h
 | (k0, some o0) :: r, hi, κ, κ', o, h, h' => by
  simp only [injB, Bool.and_eq_true, List.all_eq_true] at hi
  rw [look_cons] at h h'
  have no : ∀ κ1, look r κ1 = some (some o0) → False := fun κ1 hk => by
   have := hi.1 (κ1, some o0) (look_mem hk)
   simp [Nat.beq_refl] at this
  split at h
  ·rename_i e1
   simp only [Option.some.injEq] at h
   split at h'
   ·rename_i e2; rw [← e1, ← e2]
   ·rw [← h] at h'; exact (no κ' h').elim
  ·split at h'
   ·rename_i e2
    simp only [Option.some.injEq] at h'
    rw [← h'] at h
    exact (no κ h).elim
   ·exact injB_spec hi.2 κ κ' o h h'
 | (k0, none) :: r, hi, κ, κ', o, h, h' => by
  simp only [injB] at hi
  rw [look_cons] at h h'
  split at h
  ·cases h
  ·split at h'
   ·cases h'
   ·exact injB_spec hi κ κ' o h h'
theorem slLe_spec {sl : List (Nat × AV)} : ∀ {sl' : List (Nat × AV)} {ob : Prop}, slLe ρ sl sl' = some ob → ob → ∀ t x, look sl' t = some x → ∃ q, avLe ρ (St.get sl t) x = some q ∧ q
 | [], _, _, _, t, x, hl => by simp [look] at hl
 | (t0, x0) :: r, ob, h, hob, t, x, hl => by
  simp only [slLe] at h
  split at h
  ·rename_i a b h1 h2
   simp only [Option.some.injEq] at h
   subst h
   rw [look_cons] at hl
   split at hl
   ·rename_i e
    subst e
    simp only [Option.some.injEq] at hl
    subst hl
    exact ⟨a, h1, hob.1⟩
   ·exact slLe_spec h2 hob.2 t x hl
  ·cases h
end
theorem muOf_some {ρ : Ren} {μ : Mu} {κ g c : Nat} (h : muOf ρ μ κ = some (some (g, c))) : ∃ o, look ρ κ = some (some o) ∧ μ o = some (some (g, c)) := by
 unfold muOf at h
 split at h
 ·rename_i o hl; exact ⟨o, hl, h⟩
 ·cases h
 ·cases h
theorem Sim.le {C : Cx} {st st' : St} {a : Act} {w : World} {S : Nat → Prop} {μ : Mu} {ν : Nat → Bool} (hs : Sim C st.toM a w S μ ν) {ρ : Ren} {ob1 ob2 : Prop} (hi : injB ρ = true) (h1 : slLe ρ st.sl st'.sl = some ob1) (hob1 : ob1) (h2 : lbLe ρ st.lb st'.lb = some ob2) (hob2 : ob2) : Sim C st'.toM a w S (muOf ρ μ) ν := by
 have old : ∀ κ b, look st'.lb κ = some b → ∀ g c, muOf ρ μ κ = some (some (g, c)) → ∃ o d, look ρ κ = some (some o) ∧ look st.lb o = some d ∧ μ o = some (some (g, c)) := by
  intro κ b hb g c hm
  obtain ⟨o, ho, hμ⟩ := muOf_some hm
  rcases lbLe_spec h2 hob2 κ b hb with ⟨o', d, q, q1, q2, _⟩ | ⟨q1, _⟩
  ·rw [ho] at q1
   simp only [Option.some.injEq] at q1
   subst q1
   exact ⟨o, d, ho, q2, hμ⟩
  ·rw [ho] at q1; cases q1
 refine ⟨hs.tmps, hs.defers, fun t => ?_, fun κ b hb => ?_, fun κ κ' b b' g c c' hb hb' hm hm' => ?_, fun κ b g c hb hm => ?_, hs.stable, hs.fresh, hs.bound, hs.kept⟩
 ·simp only [St.toM, St.get]
  cases hl : look st'.sl t with
  | none => exact .any _
  | some x =>
   obtain ⟨q, q1, q2⟩ := slLe_spec h1 hob1 t x hl
   exact avLe_rel _ x q q1 q2 _ (hs.slots t)
 ·rcases lbLe_spec h2 hob2 κ b hb with ⟨o, d, q, q1, q2, q3, q4⟩ | ⟨q1, e, k, f, rfl⟩
  ·have hm : muOf ρ μ κ = μ o := by simp [muOf, q1]
   rw [hm]
   exact blLe_ok q3 q4 (hs.mem o d q2)
  ·have hm : muOf ρ μ κ = some none := by simp [muOf, q1]
   rw [hm]
   rfl
 ·obtain ⟨o, d, x1, x2, x3⟩ := old κ b hb g c hm
  obtain ⟨o', d', y1, y2, y3⟩ := old κ' b' hb' g c' hm'
  have := hs.inj o o' d d' g c c' x2 y2 x3 y3
  subst this
  exact injB_spec hi κ κ' o x1 y1
 ·obtain ⟨o, d, x1, x2, x3⟩ := old κ b hb g c hm
  exact hs.own o d g c x2 x3
theorem LeS.of {st st' : St} (ρ : Ren) {ob1 ob2 : Prop} (hi : injB ρ = true) (h1 : slLe ρ st.sl st'.sl = some ob1) (hob1 : ob1) (h2 : lbLe ρ st.lb st'.lb = some ob2) (hob2 : ob2) : LeS st st' := by
 rintro C a w ⟨S, μ, hsim⟩
 exact ⟨S, muOf ρ μ, fun ν => (hsim ν).le hi h1 hob1 h2 hob2⟩
theorem slLe_mem {ρ : Ren} {sl : List (Nat × AV)} : ∀ {sl' : List (Nat × AV)} {ob : Prop}, slLe ρ sl sl' = some ob → ob → ∀ p, p ∈ sl' → ∃ q, avLe ρ (St.get sl p.1) p.2 = some q ∧ q
 | [], _, _, _, p, hp => by cases hp
 | (t0, x0) :: r, ob, h, hob, p, hp => by
  simp only [slLe] at h
  split at h
  ·rename_i a b h1 h2
   simp only [Option.some.injEq] at h
   subst h
   rcases List.mem_cons.1 hp with rfl | hp
   ·exact ⟨a, h1, hob.1⟩
   ·exact slLe_mem h2 hob.2 p hp
  ·cases h
section
variable {g : Goal} {k : List Item} {st : St}
theorem post_own {C : Cx} {a : Act} {w : World} (hs : SimB C st a w) (hT : TOk C.P g.T) (ρ : Ren) {l : List AV} {ro : List (Nat × Blk)} {ob : Ob} {ob1 ob2 : Prop} (h : evRes g.T st g.fn.results.toList = some (l, ro, ob)) (hob : ob.den) (hi : injB ρ = true) (h1 : avLe ρ (packR l) g.res = some ob1) (hob1 : ob1) (h2 : lbLe ρ st.lb g.lbs = some ob2) (hob2 : ob2) :
  ∃ v, (results g.fn a.tmps).run C.P w = .ok v w ∧ Post C g.res g.lbs (.returned v) w := by
 obtain ⟨S, μ, hsim⟩ := hs
 have h0 := hsim fun _ => false
 obtain ⟨vs, q1, _⟩ := evRes_run hT h0 h hob
 refine ⟨_, results_run q1, _, S, muOf ρ μ, rfl, ?_⟩
 have hle := h0.le (st' := ⟨[], g.lbs⟩) hi (by rfl) trivial h2 hob2
 refine ⟨fun ν => ?_, hle.mem, hle.inj, fun κ b g c h1 h2 => (hle.own κ b g c h1 h2).imp id .inl, h0.stable, fun b hb => (h0.fresh b hb).imp id (Or.imp id .inl), h0.bound, h0.kept.mono' fun _ h => .inl h⟩
 obtain ⟨vs', p1, p2⟩ := evRes_run hT (hsim ν) h hob
 have : vs' = vs := by rw [q1] at p1; cases p1; rfl
 subst this
 exact avLe_rel _ _ ob1 h1 hob1 _ (packR_rel p2)
theorem G.retO (hg : g.Nrm) (hT : TOk g.P g.T) (hf : g.P.funcs[g.f]? = some g.fn) (ρ : Ren) {l : List AV} {ro : List (Nat × Blk)} {ob : Ob} {ob1 ob2 : Prop} (h : evRes g.T st g.fn.results.toList = some (l, ro, ob)) (hob : ob.den) (hi : injB ρ = true) (h1 : avLe ρ (packR l) g.res = some ob1) (hob1 : ob1) (h2 : lbLe ρ st.lb g.lbs = some ob2) (hob2 : ob2) : G g [] st ∧ ∀ k, G g (.code .ret :: k) st :=
 G.out hg hf (fun C a w c1 hs => post_own (g := g) hs (by rw [c1]; exact hT) ρ h hob hi h1 hob1 h2 hob2)
theorem post_ownB {anc : List (Nat × Nat)} (hn : g.NrmB anc) {C : Cx} {a : Act} {w : World} (hk : g.kept a.tmps) (hs : SimB C st a w) (hT : TOk C.P g.T) (ρ : Ren) {l : List AV} {ro : List (Nat × Blk)} {ob : Ob} {ob1 ob2 ob3 : Prop} (h : evRes g.T st g.fn.results.toList = some (l, ro, ob)) (hob : ob.den) (hi : injB ρ = true) (h1 : avLe ρ (packR l) g.res = some ob1) (hob1 : ob1) (h2 : lbLe ρ st.lb g.lbs = some ob2) (hob2 : ob2) (h3 : slLe ρ st.sl (anc.map fun p => (p.1, .ptr p.2 0)) = some ob3) (hob3 : ob3) :
  ∃ v, (results g.fn a.tmps).run C.P w = .ok v w ∧ PostB C g.res g.lbs anc g.tm (.returned v) w := by
 obtain ⟨S, μ, hsim⟩ := hs
 have h0 := hsim fun _ => false
 obtain ⟨vs, q1, _⟩ := evRes_run hT h0 h hob
 refine ⟨_, results_run q1, _, S, muOf ρ μ, rfl, ?_, fun p hp ν => ?_⟩
 ·have hle := h0.le (st' := ⟨[], g.lbs⟩) hi (by rfl) trivial h2 hob2
  refine ⟨fun ν => ?_, hle.mem, hle.inj, fun κ b g c h1 h2 => (hle.own κ b g c h1 h2).imp id .inl, h0.stable, fun b hb => (h0.fresh b hb).imp id (Or.imp id .inl), h0.bound, h0.kept.mono' fun _ h => .inl h⟩
  obtain ⟨vs', p1, p2⟩ := evRes_run hT (hsim ν) h hob
  have : vs' = vs := by rw [q1] at p1; cases p1; rfl
  subst this
  exact avLe_rel _ _ ob1 h1 hob1 _ (packR_rel p2)
 ·obtain ⟨q, e1, e2⟩ := slLe_mem h3 hob3 (p.1, .ptr p.2 0) (List.mem_map.2 ⟨p, hp, rfl⟩)
  rw [← hk p.1 (hn.pr p hp)]
  exact avLe_rel _ _ q e1 e2 _ ((hsim ν).slots p.1)
theorem G.retB {anc : List (Nat × Nat)} (hg : g.NrmB anc) (hT : TOk g.P g.T) (hf : g.P.funcs[g.f]? = some g.fn) (ρ : Ren) {l : List AV} {ro : List (Nat × Blk)} {ob : Ob} {ob1 ob2 ob3 : Prop} (h : evRes g.T st g.fn.results.toList = some (l, ro, ob)) (hob : ob.den) (hi : injB ρ = true) (h1 : avLe ρ (packR l) g.res = some ob1) (hob1 : ob1) (h2 : lbLe ρ st.lb g.lbs = some ob2) (hob2 : ob2) (h3 : slLe ρ st.sl (anc.map fun p => (p.1, .ptr p.2 0)) = some ob3) (hob3 : ob3) : G g [] st ∧ ∀ k, G g (.code .ret :: k) st :=
 G.outB hg hf (fun C a w c1 hk hs => post_ownB (g := g) hg hk hs (by rw [c1]; exact hT) ρ h hob hi h1 hob1 h2 hob2 h3 hob3)
end
end Go.Av
