/- Ranges over functions. -/
import Derived.Test.YtihmmpaalpghbaaGreatDoorAvU
set_option linter.unusedSimpArgs false
set_option linter.unusedVariables false
namespace Go.Av
open Go
set_option linter.unusedSectionVars false
variable [Globs]
def ItA (P : Program) (gf : FuncId) (caps : List AV) (ys : List (List AV)) : Prop :=
 callable P gf = true ∧ ∀ (w0 : World) (S : Nat → Prop) (μ : Mu) (cvs : Array Value) (l : Nat) (J : Nat → (Nat → Prop) → World → Prop) (Jx : (Nat → Prop) → World → Prop) (F0 : Nat → Prop),
  (∀ b, S b → b < w0.heap.size) → GlobOK w0 S → (∀ ν, RelL w0 S μ ν caps cvs.toList) → (∀ b, S b → ¬ F0 b) → (∀ b, F0 b → b < w0.heap.size) →
  (∀ i F W W', J i F W → Kept W W' (fun b => w0.heap.size ≤ b ∧ ¬ F b ∧ ¬ S b) → J i F W') → (∀ F W W', Jx F W → Kept W W' (fun b => w0.heap.size ≤ b ∧ ¬ F b ∧ ¬ S b) → Jx F W') →
  (∀ i F W (vs : Array Value), i < ys.length → J i F W → (∀ ν, RelL W (fun _ => False) (fun _ => none) ν (ys.getD i []) vs.toList) → YieldAt Fence.wide 0 P l vs W fun e W' => ∃ F', (∀ b, F' b → F b ∨ W.heap.size ≤ b) ∧ (∀ b, F' b → b < W'.heap.size) ∧ Kept W W' F ∧ ((e = .returned (.bool true) ∧ J (i + 1) F' W') ∨ (e = .returned (.bool false) ∧ Jx F' W'))) →
  J 0 F0 w0 → Calls P gf (#[.func (.yield l) #[] #[]] ++ cvs) w0 fun e w' => (∃ v, e = .returned v) ∧ ((∃ F, J ys.length F w') ∨ ∃ F, Jx F w')
structure Core (A : M) (tm : Array Value) (w : World) (S : Nat → Prop) (μ : Mu) (ν : Nat → Bool) : Prop where
 slots : ∀ t, Rel w S μ ν (A.sl t) (tm.getD t undef)
 mem : ∀ κ b, A.lb κ = some b → BlkOK w S μ b (μ κ)
 inj : ∀ κ κ' b b' g c c', A.lb κ = some b → A.lb κ' = some b' → μ κ = some (some (g, c)) → μ κ' = some (some (g, c')) → κ = κ'
 bound : ∀ b, S b → b < w.heap.size
def OwnB (A : M) (μ : Mu) (q : Nat) : Prop := ∃ κ b c, A.lb κ = some b ∧ μ κ = some (some (q, c))
theorem Sim.core {C : Cx} {A : M} {a : Act} {w : World} {S : Nat → Prop} {μ : Mu} {ν : Nat → Bool} (h : Sim C A a w S μ ν) : Core A a.tmps w S μ ν := ⟨h.slots, h.mem, h.inj, h.bound⟩
theorem Sim.ownB {C : Cx} {A : M} {a : Act} {w : World} {S : Nat → Prop} {μ : Mu} {ν : Nat → Bool} (h : Sim C A a w S μ ν) {q : Nat} (hq : OwnB A μ q) : C.w0.heap.size ≤ q ∨ C.T0 q := by
 obtain ⟨κ, b, c, h1, h2⟩ := hq
 exact h.own κ b q c h1 h2
theorem Core.ownAt {A : M} {tm : Array Value} {w : World} {S : Nat → Prop} {μ : Mu} {ν : Nat → Bool} (h : Core A tm w S μ ν) {q : Nat} (hq : OwnB A μ q) : ∃ b c, BlkAt w S μ b q c := by
 obtain ⟨κ, b, c, h1, h2⟩ := hq
 have := h.mem κ b h1
 rw [h2] at this
 exact ⟨b, c, this.at⟩
theorem BlkAt.notLoop {w : World} {S : Nat → Prop} {μ : Mu} {b : Blk} {g cap : Nat} {o : Loop} (h : BlkAt w S μ b g cap) : w.heap[g]? ≠ some (.loop o) := by
 cases b with
 | box cs => obtain ⟨cur, e, hg, _⟩ := h; rw [hg]; simp
 | row e k n f => obtain ⟨cur, hg, _⟩ := h; rw [hg]; simp
 | mp n f => obtain ⟨cur, hg, _⟩ := h; rw [hg]; simp
 | it mk n seen => obtain ⟨mg, c, _, hg, _⟩ := h; rw [hg]; simp
 | mx => obtain ⟨m, _, cur, hg, _⟩ := h; rw [hg]; simp
 | tx => obtain ⟨n, f, _, cur, hg, _⟩ := h; rw [hg]; simp
 | rx => obtain ⟨f, _, cur, hg, _⟩ := h; rw [hg]; simp
 | ml => obtain ⟨cur, c, hg, _⟩ := h; rw [hg]; simp
theorem Core.keep {A : M} {tm tm' : Array Value} {w w' : World} {S : Nat → Prop} {μ : Mu} {ν : Nat → Bool} (h : Core A tm w S μ ν) (ht : ∀ t, A.sl t = .any ∨ tm'.getD t undef = tm.getD t undef) (hS : ∀ b, S b → w'.heap[b]? = w.heap[b]?) (hO : ∀ q, OwnB A μ q → w'.heap[q]? = w.heap[q]?) (hsz : w.heap.size ≤ w'.heap.size) : Core A tm' w' S μ ν := by
 refine ⟨fun t => ?_, fun κ b hb => ?_, h.inj, fun b hb => Nat.lt_of_lt_of_le (h.bound b hb) hsz⟩
 ·rcases ht t with e | e
  ·rw [e]; exact .any _
  ·rw [e]; exact (h.slots t).mono (fun _ x => x) hS (fun _ _ e => e)
 ·have hm := h.mem κ b hb
  refine hm.mono (fun _ x => x) hS (fun _ _ e => e) (fun g c e => ?_)
  rw [e] at hm
  exact ⟨hO g ⟨κ, b, c, hb, e⟩, hm.at.not⟩
def Cx.at (P : Program) (nt : Nat) (w : World) (S : Nat → Prop) (A : M) (μ : Mu) (hg : GlobOK w S) (hm : ∀ κ b, A.lb κ = some b → BlkOK w S μ b (μ κ)) (hb : ∀ b, S b → b < w.heap.size) (dl : List Deferred) (dok : ∀ d, d ∈ dl → ∃ q, d = { target := .collected q, args := #[] } ∧ w.heap[q]? = some (.deferred (some [])) ∧ ¬ S q) (dnd : dl.Nodup) : Cx :=
 ⟨P, w, S, OwnB A μ, nt, hg, fun b hs ⟨κ, bk, c, h1, h2⟩ => by
  have := hm κ bk h1
  rw [h2] at this
  exact this.at.not hs, hb, dl, fun d hd => by
  obtain ⟨q, e, h1, h2⟩ := dok d hd
  refine ⟨q, e, h1, fun ⟨κ, bk, c, q1, q2⟩ => ?_, h2⟩
  have := hm κ bk q1
  rw [q2] at this
  exact this.at.notDeferred h1, dnd⟩
theorem Core.sim {P : Program} {nt : Nat} {A : M} {a : Act} {w : World} {S : Nat → Prop} {μ : Mu} {ν : Nat → Bool} (h : Core A a.tmps w S μ ν) (hn : a.tmps.size = nt) (hg : GlobOK w S) (hm hb dl dok dnd) (hd : a.defers = dl) : Sim (Cx.at P nt w S A μ hg hm hb dl dok dnd) A a w S μ ν :=
 ⟨hn, hd, h.slots, h.mem, h.inj, fun κ b g c h1 h2 => .inr ⟨κ, b, c, h1, h2⟩, fun _ x => x, fun _ x => .inl x, h.bound, Kept.refl _ _⟩
def runY {σ β Y : Type} (f : σ → Y → β ⊕ σ) : List Y → σ → β ⊕ σ
 | [], s => .inr s
 | y :: r, s => match f s y with
  | .inl b => .inl b
  | .inr s' => runY f r s'
theorem runY_take {σ β Y : Type} {f : σ → Y → β ⊕ σ} : ∀ {l : List Y} {i : Nat} {s s1 : σ} (h : i < l.length), runY f (l.take i) s = .inr s1 → runY f (l.take (i + 1)) s = f s1 l[i] ∧ (∀ b, f s1 l[i] = .inl b → runY f l s = .inl b)
 | [], i, s, s1, h, _ => absurd h (by simp)
 | y :: r, 0, s, s1, _, e => by
  simp only [List.take_zero, runY, Sum.inr.injEq] at e
  subst e
  refine ⟨?_, fun b hb => ?_⟩
  ·simp only [List.take_succ_cons, List.take_zero, runY, List.getElem_cons_zero]
   cases f s y <;> rfl
  ·simp only [List.getElem_cons_zero] at hb
   simp only [runY, hb]
 | y :: r, i + 1, s, s1, h, e => by
  simp only [List.take_succ_cons, runY] at e ⊢
  cases hf : f s y with
  | inl b => rw [hf] at e; cases e
  | inr s' =>
   rw [hf] at e
   simp only at e ⊢
   have := runY_take (l := r) (by simpa using h) e
   simpa using this
theorem runY_postI {σ β Y : Type} {f : σ → Y → β ⊕ σ} {I : Nat → σ → Prop} {B : β → Prop} : ∀ (l : List Y) (k : Nat), (∀ i s y, I (k + i) s → l[i]? = some y → match f s y with | .inl b => B b | .inr s' => I (k + i + 1) s') → ∀ s, I k s → match runY f l s with | .inl b => B b | .inr s' => I (k + l.length) s'
 | [], k, _, s, h => h
 | y :: r, k, hf, s, h => by
  have h1 := hf 0 s y h (by simp)
  simp only [runY]
  cases e : f s y with
  | inl b => rw [e] at h1; exact h1
  | inr s' =>
   rw [e] at h1
   have := runY_postI (I := I) (B := B) r (k + 1) (fun i s y hs hy => by
    have := hf (i + 1) s y (by rw [show k + (i + 1) = k + 1 + i by omega]; exact hs) (by simpa using hy)
    rw [show k + (i + 1) + 1 = k + 1 + i + 1 by omega] at this
    exact this) s' h1
   rw [show k + (y :: r).length = k + 1 + r.length by simp; omega]
   exact this
structure Reb (C C' : Cx) : Prop where
 sub : ∀ b, C.S0 b → C'.S0 b
 new : ∀ b, C'.S0 b → C.S0 b ∨ C.w0.heap.size ≤ b ∨ C.T0 b
 kept : Kept C.w0 C'.w0 C.T0
 tk : ∀ q, C'.TD q → C.TD q ∨ C.w0.heap.size ≤ q
theorem Post.reb {C C' : Cx} (h : Reb C C') {res : AV} {lbs : List (Nat × Blk)} {e : Ending} {w : World} (hp : Post C' res lbs e w) : Post C res lbs e w := by
 obtain ⟨v, S', μ', rfl, B⟩ := hp
 refine ⟨v, S', μ', rfl, B.res, B.mem, B.inj, fun κ b g c h1 h2 => ?_, fun b hb => B.sub b (h.sub b hb), fun b hb => ?_, B.bound, (h.kept.mono' fun _ x => .inl x).trans B.kept fun b hb ht => ?_⟩
 ·rcases B.own κ b g c h1 h2 with q | q
  ·exact .inl (Nat.le_trans h.kept.size q)
  ·exact (h.tk g q).symm
 ·rcases B.new b hb with q | q | q
  ·exact (h.new b q).imp id (Or.imp id .inl)
  ·exact .inr (.inl (Nat.le_trans h.kept.size q))
  ·exact .inr ((h.tk b q).symm)
 ·exact (h.tk b ht).resolve_right (by omega)
theorem ZN.reb {P : Program} {f : FuncId} {res : AV} {lbs : List (Nat × Blk)} {C C' : Cx} {b : Frame} {cs : List Frame} {m : Machine} (h : Reb C C') (hz : ZN P f res lbs C' b cs m) : ZN P f res lbs C b cs m :=
 let ⟨e, w', fr, q1, q2⟩ := hz
 ⟨e, w', fr, q1.reb h, q2⟩
def zipSl : List Nat → List AV → List (Nat × AV)
 | p :: ps, x :: xs => (p, x) :: zipSl ps xs
 | _, _ => []
def psOK (nt : Nat) (prl : List Nat) : List Nat → Bool
 | [] => true
 | p :: ps => Nat.ble (p + 1) nt && !prl.any (fun q => Nat.beq q p) && !ps.any (fun q => Nat.beq q p) && psOK nt prl ps
theorem any_beq {l : List Nat} {p : Nat} (h : (!l.any fun q => Nat.beq q p) = true) : p ∉ l := fun hp => by
 have : (l.any fun q => Nat.beq q p) = true := List.any_eq_true.2 ⟨p, hp, Nat.beq_refl p⟩
 rw [this] at h
 cases h
theorem setP_spec {w : World} {S : Nat → Prop} {μ : Mu} {ν : Nat → Bool} {nt : Nat} {prl : List Nat} : ∀ (ps : List Nat) (xs : List AV) (vs : List Value) (t : Array Value), psOK nt prl ps = true → ps.length = xs.length → t.size = nt → RelL w S μ ν xs vs →
  ((ps.zip vs).foldl (fun t (p : Nat × Value) => t.setIfInBounds p.1 p.2) t).size = nt ∧ (∀ u, u ∉ ps → ((ps.zip vs).foldl (fun t (p : Nat × Value) => t.setIfInBounds p.1 p.2) t).getD u undef = t.getD u undef) ∧
   ∀ u x, look (zipSl ps xs) u = some x → Rel w S μ ν x (((ps.zip vs).foldl (fun t (p : Nat × Value) => t.setIfInBounds p.1 p.2) t).getD u undef)
 | [], xs, vs, t, _, _, ht, _ => ⟨by simpa using ht, fun u _ => by simp, fun u x h => by simp [zipSl, look] at h⟩
 | p :: ps, [], vs, t, _, h, _, _ => absurd h (by simp)
 | p :: ps, x :: xs, [], t, _, _, _, hr => absurd hr.1 (by simp)
 | p :: ps, x :: xs, v :: vs, t, hp, hl, ht, hr => by
  simp only [psOK, Bool.and_eq_true] at hp
  obtain ⟨⟨⟨h1, h2⟩, h3⟩, h4⟩ := hp
  have h1 := Nat.le_of_ble_eq_true h1
  have h3 := any_beq h3
  have hr' : RelL w S μ ν xs vs := ⟨by simpa using hr.1, fun i hi => by simpa using hr.2 (i + 1) (by simpa using hi)⟩
  obtain ⟨q1, q2, q3⟩ := setP_spec ps xs vs (t.setIfInBounds p v) h4 (by simpa using hl) (by simpa using ht) hr'
  simp only [List.zip_cons_cons, List.foldl_cons]
  refine ⟨q1, fun u hu => ?_, fun u y hy => ?_⟩
  ·rw [q2 u (fun h => hu (by simp [h]))]
   exact getD_set_other _ _ _ _ (fun e => hu (by simp [e]))
  ·simp only [zipSl, look_cons] at hy
   split at hy
   ·rename_i e
    subst e
    simp only [Option.some.injEq] at hy
    subst hy
    rw [q2 p h3, getD_set_self _ _ _ (by omega)]
    simpa using hr.2 0 (by simp)
   ·exact q3 u y hy
structure RfInv (w : World) (S Own0 S1 : Nat → Prop) (A : M) (μ1 : Mu) (r : Loop) (F : Nat → Prop) (W : World) : Prop where
 glob : GlobOK W S1
 sub : ∀ b, S b → S1 b
 new : ∀ b, S1 b → S b ∨ w.heap.size ≤ b ∨ Own0 b
 own : ∀ q, OwnB A μ1 q → Own0 q ∨ w.heap.size ≤ q
 kept : Kept w W Own0
 dD : W.heap[w.heap.size]? = some (.deferred (some []))
 dl : W.heap[w.heap.size + 1]? = some (.loop r)
 nD : ¬ S1 w.heap.size
 nl : ¬ S1 (w.heap.size + 1)
 F : ∀ q, F q ↔ (OwnB A μ1 q ∨ (S1 q ∧ ¬ S q) ∨ q = w.heap.size + 1 ∨ q = w.heap.size)
theorem RfInv.keep {w : World} {S Own0 S1 : Nat → Prop} {A : M} {μ1 : Mu} {r : Loop} {F : Nat → Prop} {W W' : World} {n : Nat} {tm : Array Value} (h : RfInv w S Own0 S1 A μ1 r F W) (hc : ∀ ν, Core A tm W S1 μ1 ν) (hn : w.heap.size + 2 ≤ n) (hk : Kept W W' (fun b => n ≤ b ∧ ¬ F b ∧ ¬ S b)) :
  RfInv w S Own0 S1 A μ1 r F W' ∧ ∀ ν, Core A tm W' S1 μ1 ν := by
 have hc0 := hc fun _ => false
 have hS : ∀ b, S1 b → W'.heap[b]? = W.heap[b]? := fun b hb => hk.block b (hc0.bound b hb) (fun ⟨_, h2, h3⟩ => h2 ((h.F b).2 (.inr (.inl ⟨hb, h3⟩))))
 have hO : ∀ q, OwnB A μ1 q → W'.heap[q]? = W.heap[q]? := fun q hq => hk.block q (by obtain ⟨_, _, hb⟩ := hc0.ownAt hq; exact hb.lt) (fun ⟨_, h2, _⟩ => h2 ((h.F q).2 (.inl hq)))
 have lt : ∀ {q o}, W.heap[q]? = some o → q < W.heap.size := fun e => (Array.getElem?_eq_some_iff.1 e).1
 exact ⟨⟨h.glob.mono (fun _ x => x) hS, h.sub, h.new, h.own, h.kept.trans hk (fun b hb ⟨h1, _⟩ => by omega), (hk.block _ (lt h.dD) (fun ⟨h1, _⟩ => by omega)).trans h.dD, (hk.block _ (lt h.dl) (fun ⟨h1, _⟩ => by omega)).trans h.dl, h.nD, h.nl, h.F⟩,
  fun ν => (hc ν).keep (fun t => .inr rfl) hS hO hk.size⟩
def Goal.round (g : Goal) (prl : List Nat) (tm : Array Value) (Z : Cx → Frame → List Frame → Machine → Prop) (zs : ∀ C b cs m m', Steps g.P m m' → Z C b cs m' → Z C b cs m) : Goal := { g with md := 1, pr := prl, tm := tm, Z := Z, zs := zs }
theorem kept_put {w : World} {q : Nat} {o : Obj} : Kept w (w.putObj q o) (fun b => b = q) := ⟨rfl, rfl, rfl, by simp [World.putObj], fun b _ hb => World.putObj_heap_other hb⟩
end Go.Av
