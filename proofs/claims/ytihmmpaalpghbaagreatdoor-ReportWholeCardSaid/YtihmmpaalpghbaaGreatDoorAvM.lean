/- Calls by contract. -/
import Derived.Test.YtihmmpaalpghbaaGreatDoorLa
set_option linter.unusedSimpArgs false
set_option linter.unusedVariables false
namespace Go.Av
open Go
set_option linter.unusedSectionVars false
variable [Globs]
def callable (P : Program) (f : FuncId) : Bool :=
 match P.funcs[f]? with
 | some fn => fn.name != "runtime.NumGoroutine" && fn.body.isSome
 | none => false
def Handed (lbs : List (Nat × Blk)) (μ : Mu) (g : Nat) : Prop := ∃ κ b c, look lbs κ = some b ∧ μ κ = some (some (g, c))
def InjOn (lbs : List (Nat × Blk)) (μ : Mu) : Prop := ∀ κ κ' b b' g c c', look lbs κ = some b → look lbs κ' = some b' → μ κ = some (some (g, c)) → μ κ' = some (some (g, c')) → κ = κ'
structure Back (w : World) (S : Nat → Prop) (T : Nat → Prop) (res : AV) (lbs : List (Nat × Blk)) (v : Value) (S' : Nat → Prop) (μ' : Mu) (w' : World) : Prop where
 res : ∀ ν, Rel w' S' μ' ν res v
 mem : ∀ κ b, look lbs κ = some b → BlkOK w' S' μ' b (μ' κ)
 inj : InjOn lbs μ'
 own : ∀ κ b g c, look lbs κ = some b → μ' κ = some (some (g, c)) → w.heap.size ≤ g ∨ T g
 sub : ∀ b, S b → S' b
 new : ∀ b, S' b → S b ∨ w.heap.size ≤ b ∨ T b
 bound : ∀ b, S' b → b < w'.heap.size
 kept : Kept w w' T
theorem Back.monoT {w w' : World} {S T T' S' : Nat → Prop} {res : AV} {lbs : List (Nat × Blk)} {v : Value} {μ' : Mu} (h : Back w S T res lbs v S' μ' w') (hT : ∀ b, T b → T' b) : Back w S T' res lbs v S' μ' w' :=
 ⟨h.res, h.mem, h.inj, fun κ b g c h1 h2 => (h.own κ b g c h1 h2).imp id (hT g), h.sub, fun b hb => (h.new b hb).imp id (Or.imp id (hT b)), h.bound, h.kept.mono' hT⟩
def FnA (P : Program) (f : FuncId) (args : List AV) (lbs : List (Nat × Blk)) (res : AV) (lbs' : List (Nat × Blk)) : Prop :=
 callable P f = true ∧ ∀ (w : World) (S : Nat → Prop) (μ : Mu) (vs : Array Value), (∀ b, S b → b < w.heap.size) → GlobOK w S → (∀ ν, RelL w S μ ν args vs.toList) → (∀ κ b, look lbs κ = some b → BlkOK w S μ b (μ κ)) → InjOn lbs μ →
  Calls P f vs w fun e w' => ∃ v S' μ', e = .returned v ∧ Back w S (Handed lbs μ) res lbs' v S' μ' w'
theorem callable_run {P : Program} {w : World} {f : FuncId} (h : callable P f = true) (args : Array Value) : (callFunc f args).run P w = .ok (.enter f args) w := by
 unfold callable at h
 cases hf : P.funcs[f]? with
 | none => rw [hf] at h; cases h
 | some fn =>
  rw [hf] at h
  simp only [Bool.and_eq_true, bne_iff_ne, ne_eq] at h
  have h2 : ¬ fn.body = none := by cases hb : fn.body <;> simp_all
  simp [callFunc, hf, h.1, h2]
section
variable {C : Cx} {A : M} {a : Act} {w : World} {S : Nat → Prop} {μ : Mu} {ν : Nat → Bool}
def flat : D → Bool
 | .v _ => true
 | .agg cs => flatL cs
 | .sl _ _ => false
 | .mp _ _ _ => false
where flatL : List D → Bool
 | [] => true
 | .v _ :: r => flatL r
 | _ :: _ => false
theorem flatL_getD : ∀ (l : List D) (i : Nat), flat.flatL l = true → i < l.length → ∃ x, l.getD i default = .v x
 | [], i, _, hi => absurd hi (by simp)
 | .v x :: r, 0, _, _ => ⟨x, rfl⟩
 | .v x :: r, i + 1, h, hi => by simpa using flatL_getD r i (by simpa [flat.flatL] using h) (by simpa using hi)
 | .agg _ :: r, _, h, _ => by simp [flat.flatL] at h
 | .sl _ _ :: r, _, h, _ => by simp [flat.flatL] at h
 | .mp _ _ _ :: r, _, h, _ => by simp [flat.flatL] at h
theorem flat_rd {d : D} (h : flat d = true) {w' : World} {S' : Nat → Prop} {x : Value} (hr : Rd w S d x) : Rd w' S' d x := by
 cases hr with
 | v _ hs => exact .v _ hs
 | agg cs vs hl hh =>
  refine .agg cs vs hl (fun i hi => ?_)
  obtain ⟨y, hy⟩ := flatL_getD cs i (by simpa [flat] using h) hi
  have := hh i hi
  rw [hy] at this ⊢
  cases this with
  | v _ hs => exact .v _ hs
 | nil => simp [flat] at h
 | sl => simp [flat] at h
 | mp => simp [flat] at h
def flatA : AV → Bool
 | .d x => flat x
 | .tup l => flatAL l
 | _ => false
where flatAL : List AV → Bool
 | [] => true
 | .d x :: r => flat x && flatAL r
 | _ :: _ => false
theorem flatAL_getD : ∀ (l : List AV) (i : Nat), flatA.flatAL l = true → i < l.length → ∃ x, l.getD i default = .d x ∧ flat x = true
 | [], i, _, hi => absurd hi (by simp)
 | .d x :: r, 0, h, _ => ⟨x, rfl, by simp only [flatA.flatAL, Bool.and_eq_true] at h; exact h.1⟩
 | .d x :: r, i + 1, h, hi => by
  simp only [flatA.flatAL, Bool.and_eq_true] at h
  simpa using flatAL_getD r i h.2 (by simpa using hi)
 | .any :: r, _, h, _ => by simp [flatA.flatAL] at h
 | .own _ _ :: r, _, h, _ => by simp [flatA.flatAL] at h
 | .ptr _ _ :: r, _, h, _ => by simp [flatA.flatAL] at h
 | .elt _ _ _ _ :: r, _, h, _ => by simp [flatA.flatAL] at h
 | .ref _ :: r, _, h, _ => by simp [flatA.flatAL] at h
 | .nns _ _ :: r, _, h, _ => by simp [flatA.flatAL] at h
 | .mpv _ :: r, _, h, _ => by simp [flatA.flatAL] at h
 | .pmp _ _ :: r, _, h, _ => by simp [flatA.flatAL] at h
 | .fn _ _ :: r, _, h, _ => by simp [flatA.flatAL] at h
 | .tup _ :: r, _, h, _ => by simp [flatA.flatAL] at h
 | .ag _ :: r, _, h, _ => by simp [flatA.flatAL] at h
 | .g _ _ :: r, _, h, _ => by simp [flatA.flatAL] at h
theorem flatA_rel {x : AV} (h : flatA x = true) {w' : World} {S' : Nat → Prop} {μ' : Mu} {ν' : Nat → Bool} {v : Value} (hr : Rel w S μ ν x v) : Rel w' S' μ' ν' x v := by
 cases hr with
 | d hd => exact .d (flat_rd (by simpa [flatA] using h) hd)
 | tup hl hh =>
  refine .tup hl (fun i hi => ?_)
  obtain ⟨y, hy, hf⟩ := flatAL_getD _ i (by simpa [flatA] using h) hi
  have := hh i hi
  rw [hy] at this ⊢
  exact .d (flat_rd hf (rel_d.1 this))
 | any => simp [flatA] at h
 | ownNil => simp [flatA] at h
 | own => simp [flatA] at h
 | ptr => simp [flatA] at h
 | elt => simp [flatA] at h
 | ref => simp [flatA] at h
 | nns => simp [flatA] at h
 | mpv => simp [flatA] at h
 | pmp => simp [flatA] at h
 | fn => simp [flatA] at h
 | ag => simp [flatA] at h
 | g => simp [flatA] at h
abbrev BR (α : Type) := Option (α × List (Nat × Blk) × Ob)
def bor1 (lb : List (Nat × Blk)) : AV → BR D
 | .d x => some (x, [], .tt)
 | .nns n f => some (.sl n f, [], .tt)
 | .own κ n => (match look lb κ with | some (.row e k m f) => some (.sl n f, [(κ, .row e k m f)], .ne n m) | _ => none)
 | .mpv κ => (match look lb κ with | some (.mp n f) => some (.mp n (fun i => (f i).1) (fun i => (f i).2), [(κ, .mp n f)], .tt) | _ => none)
 | _ => none
def borL1 (lb : List (Nat × Blk)) : List AV → BR (List D)
 | [] => some ([], [], .tt)
 | x :: r => (match bor1 lb x, borL1 lb r with | some (y, ro, ob), some (l, ro', ob') => some (y :: l, ro ++ ro', ob.and ob') | _, _ => none)
def borA1 (lb : List (Nat × Blk)) : AV → BR AV
 | .ref cs => some (.ref cs, [], .tt)
 | .ptr κ off => (match look lb κ with
  | some (.box cs) => (match borL1 lb cs with | some (ds, ro, ob) => some (.ref (ds.drop off), (κ, .box cs) :: ro, ob) | none => none)
  | _ => none)
 | .ag l => (match borL1 lb l with | some (ds, ro, ob) => some (.d (.agg ds), ro, ob) | none => none)
 | .mpv κ => (match look lb κ with | some (.mp n f) => some (.pmp n f, [(κ, .mp n f)], .tt) | some (.mx _) => some (.any, [], .tt) | some (.tx _) => some (.any, [], .tt) | _ => none)
 | .pmp n f => some (.pmp n f, [], .tt)
 | x => (match bor1 lb x with | some (y, ro, ob) => some (.d y, ro, ob) | none => none)
def borAL1 (lb : List (Nat × Blk)) : List AV → BR (List AV)
 | [] => some ([], [], .tt)
 | x :: r => (match borA1 lb x, borAL1 lb r with | some (y, ro, ob), some (l, ro', ob') => some (y :: l, ro ++ ro', ob.and ob') | _, _ => none)
def borA (lb : List (Nat × Blk)) : AV → BR AV
 | .fn f caps => (match borAL1 lb caps with | some (l, ro, ob) => some (.fn f l, ro, ob) | none => none)
 | x => borA1 lb x
def borAL (lb : List (Nat × Blk)) : List AV → BR (List AV)
 | [] => some ([], [], .tt)
 | x :: r => (match borA lb x, borAL lb r with | some (y, ro, ob), some (l, ro', ob') => some (y :: l, ro ++ ro', ob.and ob') | _, _ => none)
theorem bor1_rd (hs : Sim C A a w S μ ν) {S' : Nat → Prop} (hS : ∀ b, S b → S' b) (hO : ∀ κ b g c, A.lb κ = some b → μ κ = some (some (g, c)) → S' g) {lb : List (Nat × Blk)} {x : AV} {y : D} {ro : List (Nat × Blk)} {ob : Ob} (h : bor1 lb x = some (y, ro, ob)) (hro : ∀ p, p ∈ ro → A.lb p.1 = some p.2) (hob : ob.den) {v : Value} (hr : Rel w S μ ν x v) : Rd w S' y v := by
 unfold bor1 at h
 split at h
 ·simp only [Option.some.injEq, Prod.mk.injEq] at h
  obtain ⟨rfl, -, -⟩ := h
  exact (rel_d.1 hr).mono hS (fun _ _ => rfl)
 ·simp only [Option.some.injEq, Prod.mk.injEq] at h
  obtain ⟨rfl, -, -⟩ := h
  cases hr with
  | nns hd => exact hd.mono hS (fun _ _ => rfl)
 ·rename_i κ n
  split at h
  ·rename_i e k m f hl
   simp only [Option.some.injEq, Prod.mk.injEq] at h
   obtain ⟨rfl, rfl, rfl⟩ := h
   simp only [Ob.den] at hob
   have hm := hs.mem κ _ (hro (κ, .row e k m f) (by simp))
   cases hr with
   | @ownNil _ ad =>
    cases ad with
    | none => exact .nil f
    | some ad => exact .sl 0 f ad 0 0 (fun _ _ => undef) (Nat.le_refl _) (by simp [maxLen]) (.inl rfl) (fun i hi => absurd hi (by omega)) (fun i j hi => absurd hi (by omega)) (fun i j hi => absurd hi (by omega))
   | @own _ _ g cap hμ =>
    rw [hμ] at hm
    have hlt := hO κ _ g cap (hro (κ, .row e k m f) (by simp)) hμ
    obtain ⟨cur, hg, _, hsz, hn, hc, hrow⟩ := hm.at
    refine .sl n f ⟨g, 0, none⟩ cap k (fun i j => (cur[i * k + j]?).getD undef) (by omega) hc (.inr rfl) (fun i hi => (hrow i (by omega)).1) (fun i j hi hj => ⟨hlt, ?_⟩) (fun i j hi hj => ?_)
    ·obtain ⟨u, hu, _⟩ := (hrow i (by omega)).2 j hj
     rw [Nat.zero_add, cell_row w g _ cur e _ hg, hu]
     rfl
    ·obtain ⟨u, hu, hru⟩ := (hrow i (by omega)).2 j hj
     rw [hu]
     exact hru.mono hS (fun _ _ => rfl)
  ·cases h
 ·rename_i κ
  split at h
  ·rename_i n f hl
   simp only [Option.some.injEq, Prod.mk.injEq] at h
   obtain ⟨rfl, rfl, rfl⟩ := h
   have hm := hs.mem κ _ (hro (κ, .mp n f) (by simp))
   cases hr with
   | @mpv _ g cap hμ =>
    rw [hμ] at hm
    have hlt := hO κ _ g cap (hro (κ, .mp n f) (by simp)) hμ
    obtain ⟨cur, hg, _, hsz, hcell⟩ := hm.at
    refine .mp n _ _ g cur (fun i => ((cur[i]?).map (·.val)).getD undef) hlt hg hsz (fun i hi => ?_) (fun i hi => ?_)
    ·obtain ⟨e, q1, q2, q3, q4, q5⟩ := hcell i hi
     exact ⟨e, q1, q2, q3, q4, by rw [q1]; rfl⟩
    ·obtain ⟨e, q1, q2, q3, q4, q5⟩ := hcell i hi
     rw [q1]
     exact q5.mono hS (fun _ _ => rfl)
  ·cases h
 ·cases h
theorem borL1_rd (hs : Sim C A a w S μ ν) {S' : Nat → Prop} (hS : ∀ b, S b → S' b) (hO : ∀ κ b g c, A.lb κ = some b → μ κ = some (some (g, c)) → S' g) {lb : List (Nat × Blk)} : ∀ {xs : List AV} {ys : List D} {ro : List (Nat × Blk)} {ob : Ob}, borL1 lb xs = some (ys, ro, ob) → (∀ p, p ∈ ro → A.lb p.1 = some p.2) → ob.den → ∀ {vs : List Value}, RelL w S μ ν xs vs →
  ys.length = xs.length ∧ ∀ i, i < ys.length → Rd w S' (ys.getD i default) (vs.getD i undef)
 | [], ys, ro, ob, h, _, _, vs, _ => by
  simp only [borL1, Option.some.injEq, Prod.mk.injEq] at h
  obtain ⟨rfl, -, -⟩ := h
  exact ⟨rfl, fun i hi => absurd hi (by simp)⟩
 | x :: r, ys, ro, ob, h, hro, hob, vs, hr => by
  simp only [borL1] at h
  cases h1 : bor1 lb x with
  | none => rw [h1] at h; cases h
  | some p =>
   obtain ⟨y, ro1, ob1⟩ := p
   cases h2 : borL1 lb r with
   | none => rw [h1, h2] at h; cases h
   | some q =>
    obtain ⟨l, ro2, ob2⟩ := q
    rw [h1, h2] at h
    simp only [Option.some.injEq, Prod.mk.injEq] at h
    obtain ⟨rfl, rfl, rfl⟩ := h
    have hr0 := hr.2 0 (by simp)
    match vs, hr with
    | [], hr => have := hr.1; simp at this
    | v :: vs, hr =>
     have ht : RelL w S μ ν r vs := ⟨by simpa using hr.1, fun i hi => by simpa using hr.2 (i + 1) (by simpa using hi)⟩
     obtain ⟨i1, i2⟩ := borL1_rd hs hS hO h2 (fun p hp => hro p (List.mem_append.2 (.inr hp))) (Ob.and_den hob).2 ht
     refine ⟨by simp [i1], fun i hi => ?_⟩
     cases i with
     | zero => simpa using bor1_rd hs hS hO h1 (fun p hp => hro p (List.mem_append.2 (.inl hp))) (Ob.and_den hob).1 (by simpa using hr.2 0 (by simp))
     | succ i => simpa using i2 i (by simpa using hi)
theorem borA1_rel (hs : Sim C A a w S μ ν) {S' : Nat → Prop} (hS : ∀ b, S b → S' b) (hO : ∀ κ b g c, A.lb κ = some b → μ κ = some (some (g, c)) → S' g) {lb : List (Nat × Blk)} {x y : AV} {ro : List (Nat × Blk)} {ob : Ob} (h : borA1 lb x = some (y, ro, ob)) (hro : ∀ p, p ∈ ro → A.lb p.1 = some p.2) (hob : ob.den) {v : Value} (hr : Rel w S μ ν x v) (μ' : Mu) (ν' : Nat → Bool) : Rel w S' μ' ν' y v := by
 have other : (match bor1 lb x with | some (y, ro, ob) => some (AV.d y, ro, ob) | none => none) = some (y, ro, ob) → Rel w S' μ' ν' y v := fun h => by
  cases h1 : bor1 lb x with
  | none => rw [h1] at h; cases h
  | some p =>
   obtain ⟨y', ro1, ob1⟩ := p
   rw [h1] at h
   simp only [Option.some.injEq, Prod.mk.injEq] at h
   obtain ⟨rfl, rfl, rfl⟩ := h
   exact .d (bor1_rd hs hS hO h1 hro hob hr)
 cases x with
 | ref cs =>
  simp only [borA1, Option.some.injEq, Prod.mk.injEq] at h
  obtain ⟨rfl, -, -⟩ := h
  cases hr with
  | ref vals hcell h => exact .ref vals (fun j hj => ⟨hS _ (hcell j hj).1, (hcell j hj).2⟩) (fun j hj => (h j hj).mono hS (fun _ _ => rfl))
 | ptr κ off =>
  simp only [borA1] at h
  split at h
  ·rename_i cs hl
   split at h
   ·rename_i ds ro' ob' hb
    simp only [Option.some.injEq, Prod.mk.injEq] at h
    obtain ⟨rfl, rfl, rfl⟩ := h
    cases hr with
    | @ptr _ _ g cap hμ =>
     have hm := hs.mem κ _ (hro (κ, .box cs) (by simp))
     rw [hμ] at hm
     have hlt := hO κ _ g cap (hro (κ, .box cs) (by simp)) hμ
     obtain ⟨cur, e, hg, _, hsz, hrow⟩ := hm.at
     have hrl : RelL w S μ ν cs cur.toList := ⟨by simpa using hsz, fun i hi => by
      obtain ⟨u, hu, hru⟩ := hrow i hi
      rw [show cur.toList.getD i undef = u from by simp [List.getD, hu]]
      exact hru ν⟩
     obtain ⟨i1, i2⟩ := borL1_rd hs hS hO hb (fun p hp => hro p (List.mem_cons_of_mem _ hp)) hob hrl
     refine .ref (fun j => cur.toList.getD (off + j) undef) (fun j hj => ⟨hlt, ?_⟩) (fun j hj => ?_)
     ·simp only [List.length_drop] at hj
      rw [cell_row w g _ cur e _ hg]
      have : off + j < cur.size := by omega
      simp [List.getD, this]
     ·simp only [List.length_drop] at hj
      rw [show (ds.drop off).getD j default = ds.getD (off + j) default from by simp [List.getD]]
      exact i2 (off + j) (by omega)
   ·cases h
  ·cases h
 | ag l =>
  simp only [borA1] at h
  split at h
  ·rename_i ds ro' ob' hb
   simp only [Option.some.injEq, Prod.mk.injEq] at h
   obtain ⟨rfl, rfl, rfl⟩ := h
   cases hr with
   | @ag _ vs hl hh =>
    obtain ⟨i1, i2⟩ := borL1_rd hs hS hO hb hro hob (vs := vs.toList) ⟨by rw [Array.length_toList]; exact hl, fun i hi => by rw [← getD_toList]; exact hh i hi⟩
    exact .d (.agg ds vs (by omega) (fun i hi => by rw [getD_toList]; exact i2 i hi))
  ·cases h
 | any => exact other h
 | d => exact other h
 | own => exact other h
 | elt => exact other h
 | nns => exact other h
 | pmp n f =>
  simp only [borA1, Option.some.injEq, Prod.mk.injEq] at h
  obtain ⟨rfl, -, -⟩ := h
  cases hr with
  | pmp h => exact .pmp (h.mono hS (fun _ _ => rfl))
 | mpv κ =>
  simp only [borA1] at h
  split at h
  ·rename_i n f hl
   simp only [Option.some.injEq, Prod.mk.injEq] at h
   obtain ⟨rfl, rfl, rfl⟩ := h
   have hκ := hro (κ, .mp n f) (by simp)
   cases hr with
   | @mpv _ g cap hμ =>
    have hm := hs.mem κ _ hκ
    rw [hμ] at hm
    obtain ⟨cur, h1, _, h2, h3⟩ := hm.at
    refine .pmp ⟨hO κ _ g cap hκ hμ, cur, h1, h2, fun i hi => ?_⟩
    obtain ⟨e, q1, q2, q3, q4, q5⟩ := h3 i hi
    exact ⟨e, q1, q2, q3, q4, q5.mono hS (fun _ _ => rfl)⟩
  ·simp only [Option.some.injEq, Prod.mk.injEq] at h
   obtain ⟨rfl, -, -⟩ := h
   exact .any _
  ·simp only [Option.some.injEq, Prod.mk.injEq] at h
   obtain ⟨rfl, -, -⟩ := h
   exact .any _
  ·cases h
 | fn => exact other h
 | tup => exact other h
 | g => exact other h
theorem borAL1_rel (hs : Sim C A a w S μ ν) {S' : Nat → Prop} (hS : ∀ b, S b → S' b) (hO : ∀ κ b g c, A.lb κ = some b → μ κ = some (some (g, c)) → S' g) {lb : List (Nat × Blk)} (μ' : Mu) (ν' : Nat → Bool) : ∀ {xs ys : List AV} {ro : List (Nat × Blk)} {ob : Ob}, borAL1 lb xs = some (ys, ro, ob) → (∀ p, p ∈ ro → A.lb p.1 = some p.2) → ob.den → ∀ {vs : List Value}, RelL w S μ ν xs vs →
  RelL w S' μ' ν' ys vs
 | [], ys, ro, ob, h, _, _, vs, hr => by
  simp only [borAL1, Option.some.injEq, Prod.mk.injEq] at h
  obtain ⟨rfl, -, -⟩ := h
  exact ⟨hr.1, fun i hi => absurd hi (by simp)⟩
 | x :: r, ys, ro, ob, h, hro, hob, vs, hr => by
  simp only [borAL1] at h
  cases h1 : borA1 lb x with
  | none => rw [h1] at h; cases h
  | some p =>
   obtain ⟨y, ro1, ob1⟩ := p
   cases h2 : borAL1 lb r with
   | none => rw [h1, h2] at h; cases h
   | some q =>
    obtain ⟨l, ro2, ob2⟩ := q
    rw [h1, h2] at h
    simp only [Option.some.injEq, Prod.mk.injEq] at h
    obtain ⟨rfl, rfl, rfl⟩ := h
    match vs, hr with
    | [], hr => have := hr.1; simp at this
    | v :: vs, hr =>
     have ht : RelL w S μ ν r vs := ⟨by simpa using hr.1, fun i hi => by simpa using hr.2 (i + 1) (by simpa using hi)⟩
     have ih := borAL1_rel hs hS hO μ' ν' h2 (fun p hp => hro p (List.mem_append.2 (.inr hp))) (Ob.and_den hob).2 ht
     refine ⟨by simpa using ih.1, fun i hi => ?_⟩
     cases i with
     | zero => simpa using borA1_rel hs hS hO h1 (fun p hp => hro p (List.mem_append.2 (.inl hp))) (Ob.and_den hob).1 (by simpa using hr.2 0 (by simp)) μ' ν'
     | succ i => simpa using ih.2 i (by simpa using hi)
theorem borA_rel (hs : Sim C A a w S μ ν) {S' : Nat → Prop} (hS : ∀ b, S b → S' b) (hO : ∀ κ b g c, A.lb κ = some b → μ κ = some (some (g, c)) → S' g) {lb : List (Nat × Blk)} {x y : AV} {ro : List (Nat × Blk)} {ob : Ob} (h : borA lb x = some (y, ro, ob)) (hro : ∀ p, p ∈ ro → A.lb p.1 = some p.2) (hob : ob.den) {v : Value} (hr : Rel w S μ ν x v) (μ' : Mu) (ν' : Nat → Bool) : Rel w S' μ' ν' y v := by
 cases x with
 | fn f caps =>
  simp only [borA] at h
  split at h
  ·rename_i l ro' ob' hb
   simp only [Option.some.injEq, Prod.mk.injEq] at h
   obtain ⟨rfl, rfl, rfl⟩ := h
   cases hr with
   | @fn _ _ vs hl hh =>
    obtain ⟨i1, i2⟩ := borAL1_rel hs hS hO μ' ν' hb hro hob (vs := vs.toList) ⟨by simpa using hl, fun i hi => by rw [← getD_toList]; exact hh i hi⟩
    exact .fn (by simpa using i1) (fun i hi => by rw [getD_toList]; exact i2 i hi)
  ·cases h
 | any => exact borA1_rel hs hS hO (lb := lb) (by simpa only [borA] using h) hro hob hr μ' ν'
 | d => exact borA1_rel hs hS hO (lb := lb) (by simpa only [borA] using h) hro hob hr μ' ν'
 | own => exact borA1_rel hs hS hO (lb := lb) (by simpa only [borA] using h) hro hob hr μ' ν'
 | ptr => exact borA1_rel hs hS hO (lb := lb) (by simpa only [borA] using h) hro hob hr μ' ν'
 | elt => exact borA1_rel hs hS hO (lb := lb) (by simpa only [borA] using h) hro hob hr μ' ν'
 | ref => exact borA1_rel hs hS hO (lb := lb) (by simpa only [borA] using h) hro hob hr μ' ν'
 | nns => exact borA1_rel hs hS hO (lb := lb) (by simpa only [borA] using h) hro hob hr μ' ν'
 | mpv => exact borA1_rel hs hS hO (lb := lb) (by simpa only [borA] using h) hro hob hr μ' ν'
 | pmp => exact borA1_rel hs hS hO (lb := lb) (by simpa only [borA] using h) hro hob hr μ' ν'
 | tup => exact borA1_rel hs hS hO (lb := lb) (by simpa only [borA] using h) hro hob hr μ' ν'
 | ag => exact borA1_rel hs hS hO (lb := lb) (by simpa only [borA] using h) hro hob hr μ' ν'
 | g => exact borA1_rel hs hS hO (lb := lb) (by simpa only [borA] using h) hro hob hr μ' ν'
theorem borAL_rel (hs : Sim C A a w S μ ν) {S' : Nat → Prop} (hS : ∀ b, S b → S' b) (hO : ∀ κ b g c, A.lb κ = some b → μ κ = some (some (g, c)) → S' g) {lb : List (Nat × Blk)} (μ' : Mu) (ν' : Nat → Bool) : ∀ {xs ys : List AV} {ro : List (Nat × Blk)} {ob : Ob}, borAL lb xs = some (ys, ro, ob) → (∀ p, p ∈ ro → A.lb p.1 = some p.2) → ob.den → ∀ {vs : List Value}, RelL w S μ ν xs vs →
  RelL w S' μ' ν' ys vs
 | [], ys, ro, ob, h, _, _, vs, hr => by
  simp only [borAL, Option.some.injEq, Prod.mk.injEq] at h
  obtain ⟨rfl, -, -⟩ := h
  exact ⟨hr.1, fun i hi => absurd hi (by simp)⟩
 | x :: r, ys, ro, ob, h, hro, hob, vs, hr => by
  simp only [borAL] at h
  cases h1 : borA lb x with
  | none => rw [h1] at h; cases h
  | some p =>
   obtain ⟨y, ro1, ob1⟩ := p
   cases h2 : borAL lb r with
   | none => rw [h1, h2] at h; cases h
   | some q =>
    obtain ⟨l, ro2, ob2⟩ := q
    rw [h1, h2] at h
    simp only [Option.some.injEq, Prod.mk.injEq] at h
    obtain ⟨rfl, rfl, rfl⟩ := h
    match vs, hr with
    | [], hr => have := hr.1; simp at this
    | v :: vs, hr =>
     have ht : RelL w S μ ν r vs := ⟨by simpa using hr.1, fun i hi => by simpa using hr.2 (i + 1) (by simpa using hi)⟩
     have ih := borAL_rel hs hS hO μ' ν' h2 (fun p hp => hro p (List.mem_append.2 (.inr hp))) (Ob.and_den hob).2 ht
     refine ⟨by simpa using ih.1, fun i hi => ?_⟩
     cases i with
     | zero => simpa using borA_rel hs hS hO h1 (fun p hp => hro p (List.mem_append.2 (.inl hp))) (Ob.and_den hob).1 (by simpa using hr.2 0 (by simp)) μ' ν'
     | succ i => simpa using ih.2 i (by simpa using hi)
theorem run_callOp {P : Program} {o : Oper} {cf : Operand} {xs : Array Operand} {ts : Array TypeId} (ho : o.op = .call { callee := .value cf, args := xs, argTypes := ts }) {f : FuncId} {cvs : Array Value} (hcf : a.eval cf = .func (.func f) #[] cvs) (hc : callable P f = true) :
  (execOp a.eval o).run P w = .ok (.enter f (xs.map a.eval ++ cvs)) w := by
 simp only [execOp, ho, resolve, hcf, Deferred.ofValue, Sem.run_bind, Sem.run_pure, Result.andThen_ok, invoke, Array.empty_append]
 exact callable_run hc _
theorem core_call_flat {o : Oper} {cf : Operand} {xs : Array Operand} {ts : Array TypeId} {f : FuncId} {args caps args' : List AV} {res : AV} {ro : List (Nat × Blk)} {ob : Ob} {lb : List (Nat × Blk)} {τ : Tr}
  (hs : Sim C A a w S μ ν) (hd : ∀ t, o.dst = some t → t < C.nt) (ho : o.op = .call { callee := .value cf, args := xs, argTypes := ts }) (hcf : Rel w S μ ν (.fn f caps) (a.eval cf)) (hargs : RelL w S μ ν args (xs.toList.map a.eval))
  (hb : borAL lb (args ++ caps) = some (args', ro, ob)) (hro : ∀ p, p ∈ ro → A.lb p.1 = some p.2) (hob : ob.den) (hfn : FnA C.P f args' [] res []) (hfl : flatA res = true)
  (h0 : τ.v = res) (h1 : τ.dst = o.dst) (h2 : τ.mem = []) (h3 : τ.mem' = []) :
  o.wp C.P a w (fun a' w' => ∃ S' μ', Sim C (τ.apply A) a' w' S' μ' ν) (fun _ _ _ => False) := by
 generalize hcv : a.eval cf = cv at hcf
 cases hcf with
 | @fn _ _ cvs hl hh =>
  unfold Oper.wp
  rw [run_callOp ho hcv hfn.1]
  have hall : RelL w S μ ν (args ++ caps) (xs.map a.eval ++ cvs).toList := by
   rw [Array.toList_append, Array.toList_map]
   exact hargs.append ⟨by simpa using hl, fun i hi => by rw [← getD_toList]; exact hh i hi⟩
  refine (hfn.2 w (fun b => b < w.heap.size) (fun _ => none) (xs.map a.eval ++ cvs) (fun b hb => hb) (hs.glob.mono hs.bound (fun _ _ => rfl)) (fun ν' => borAL_rel hs hs.bound (fun κ b g c h1 h2 => by have := hs.mem κ b h1; rw [h2] at this; exact this.at.lt) _ ν' hb hro hob hall) (fun κ b hk => by simp [look] at hk) (fun κ κ' b b' g c c' hk => by simp [look] at hk)).mono ?_
  rintro e w' ⟨v, S', μ', rfl, B⟩
  have hk : Kept w w' (fun _ => False) := ⟨B.kept.os, B.kept.tape, B.kept.output, B.kept.size, fun b hb _ => B.kept.block b hb (fun ⟨κ, b', c, hx, _⟩ => by simp [look] at hx)⟩
  have h4 := hs.world (S' := S) (fun _ x => x) (fun _ x => .inl x) hk
  have h5 := h4.put (dst := o.dst) (x := res) (v := v) hd (flatA_rel hfl (B.res ν))
  refine ⟨S, μ, ?_⟩
  have e : τ.apply A = A.putO o.dst res := by
   unfold Tr.apply M.putO M.put
   rw [h0, h1, h2, h3]
   cases ho : o.dst with
   | none => simp [look]
   | some d =>
    simp only [look, List.map_nil, List.not_mem_nil, if_false, Option.some.injEq]
    congr 1
    funext t
    by_cases c : d = t
    ·simp [c]
    ·have : ¬ t = d := fun e => c e.symm
     simp [c, this]
  rw [e]
  exact h5
end
end Go.Av
