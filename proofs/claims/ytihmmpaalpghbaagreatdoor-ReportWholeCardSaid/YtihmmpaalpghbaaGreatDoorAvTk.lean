/- Maps whose keys are structs, as lists of pairs. -/
import Derived.Test.YtihmmpaalpghbaaGreatDoorAvT
set_option linter.unusedSimpArgs false
set_option linter.unusedVariables false
namespace Go.Av
open Go
set_option linter.unusedSectionVars false
variable [Globs]
theorem eqCs_rfl : ∀ {a : List D}, allI a = true → eqCs a a = true
 | [], _ => rfl
 | .v (.int .i64 x) :: r, h => by
  show ((x == x) && eqCs r r) = true
  simp [eqCs_rfl (a := r) h]
def isI64 : Obj → Bool
 | .cells cs _ _ => (match (cs[0]? : Option Value) with | some (.int .i64 _) => true | _ => false)
 | _ => false
def isIfc : Obj → Bool
 | .cells cs _ _ => (match (cs[0]? : Option Value) with | some .nilIface => true | some (.iface _ _) => true | _ => false)
 | _ => false
def isCells (n : Nat) : Obj → Bool
 | .cells cs _ _ => Nat.beq cs.size n
 | _ => false
theorem isI64_cell {w : World} {g : Nat} {o : Obj} (h : w.heap[g]? = some o) (ho : isI64 o = true) : ∃ n, w.cell? ⟨g, 0, none⟩ = some (.int .i64 n) := by
 unfold isI64 at ho
 split at ho
 ·split at ho
  ·rename_i n hn
   exact ⟨n, by simp [World.cell?, h, hn]⟩
  ·cases ho
 ·cases ho
theorem isIfc_cell {w : World} {g : Nat} {o : Obj} (h : w.heap[g]? = some o) (ho : isIfc o = true) : ∃ v, w.cell? ⟨g, 0, none⟩ = some v ∧ (v = .nilIface ∨ ∃ te pe, v = .iface te pe) := by
 unfold isIfc at ho
 split at ho
 ·split at ho
  ·rename_i hn
   exact ⟨_, by simp [World.cell?, h, hn], .inl rfl⟩
  ·rename_i te pe hn
   exact ⟨.iface te pe, by simp [World.cell?, h, hn], .inr ⟨_, _, rfl⟩⟩
  ·cases ho
 ·cases ho
theorem isCells_at {w : World} {g n : Nat} {o : Obj} (h : w.heap[g]? = some o) (ho : isCells n o = true) : ∃ cs t fz, w.heap[g]? = some (.cells cs t fz) ∧ cs.size = n ∧ ∀ j, w.cell? ⟨g, j, none⟩ = cs[j]? := by
 unfold isCells at ho
 split at ho
 ·rename_i cs t fz
  exact ⟨cs, t, fz, h, Nat.eq_of_beq_eq_true ho, fun j => by simp [World.cell?, h]⟩
 ·cases ho
theorem FnA.pure {P : Program} {f : FuncId} {args : List AV} {res : AV} (hc : callable P f = true)
  (h : ∀ (w : World) (S : Nat → Prop) (μ : Mu) (vs : Array Value), (∀ b, S b → b < w.heap.size) → GlobOK w S → (∀ ν, RelL w S μ ν args vs.toList) → ∃ v, Calls P f vs w (fun e w' => e = .returned v ∧ Go.RowKit.Below w.heap.size w w') ∧ ∀ (w' : World) (S' : Nat → Prop) (μ' : Mu) (ν : Nat → Bool), Rel w' S' μ' ν res v) : FnA P f args [] res [] := by
 refine ⟨hc, fun w S μ vs hS hg hr _ _ => ?_⟩
 obtain ⟨v, h1, h2⟩ := h w S μ vs hS hg hr
 refine h1.mono ?_
 rintro e w' ⟨rfl, hb⟩
 exact ⟨v, S, fun _ => none, rfl, ⟨fun ν => h2 _ _ _ _, fun κ b hb => by simp [look] at hb, fun κ κ' b b' g c c' hb => by simp [look] at hb, fun κ b g c hb => by simp [look] at hb, fun _ h => h, fun _ h => .inl h, fun b hb' => Nat.lt_of_lt_of_le (hS b hb') hb.size, ⟨hb.os, hb.tape, hb.output, hb.size, fun b h _ => hb.block b h⟩⟩⟩
abbrev aggD {α : Type} (cells : α → List D) (x : α) : D := .agg (cells x)
abbrev rowE {α : Type} [Inhabited α] (cells : α → List D) (l : List α) : Nat → List D := fun i => cells (l.getD i default)
abbrev mpD {α : Type} [Inhabited α] (enc : α → D) (m : List (Int × α)) : D := .mp m.length (fun i => (mpf enc m i).1) (fun i => (mpf enc m i).2)
structure KE (κ : Type) where
 C : κ → List D
 c : Nat
 ok : ∀ k, allI (C k) = true ∧ (C k).length = c
def mk0C {α : Type} [Inhabited α] (E : Enc α) (zs : List D) : NormC := ⟨0, ([] : List α).length, fun _ => zs, fun i => E.cells (([] : List α).getD i default), rfl, fun i hi => absurd hi (by omega)⟩
section
variable {κ α : Type} [Inhabited κ] [Inhabited α] (K : KE κ) (enc : α → D)
abbrev kpf (m : List (κ × α)) : Nat → Value × D := fun i => (keyV (K.C (m.getD i default).1), enc (m.getD i default).2)
abbrev kpM (m : List (κ × α)) : Blk := .mp m.length (kpf K enc m)
abbrev kmM (m : List (κ × α)) : AV := .pmp m.length (kpf K enc m)
omit [Inhabited κ] [Inhabited α] in
abbrev keqb (a b : κ) : Bool := eqCs (K.C a) (K.C b)
def kupd {α : Type} : List (κ × α) → κ → α → List (κ × α)
 | [], k, v => [(k, v)]
 | p :: r, k, v => bif eqCs (K.C k) (K.C p.1) then (p.1, v) :: r else p :: kupd r k v
def kfind {α : Type} : List (κ × α) → κ → Option α
 | [], _ => none
 | p :: r, k => bif eqCs (K.C k) (K.C p.1) then some p.2 else kfind r k
def kget {α : Type} (m : List (κ × α)) (k : κ) (z : α) : α := (kfind K m k).getD z
def khas {α : Type} (m : List (κ × α)) (k : κ) : Bool := (kfind K m k).isSome
abbrev kmD (m : List (κ × α)) : D := .mp m.length (fun i => (kpf K enc m i).1) (fun i => (kpf K enc m i).2)
theorem keysK (m : List (κ × α)) : keysOK m.length K.c (kpf K enc m) := fun i _ => ⟨_, rfl, K.ok _⟩
theorem kpIdx_map (k : κ) : ∀ (m : List (κ × α)), match mpIdx (keyV (K.C k)) m.length (kpf K enc m) with
  | some p => p < m.length ∧ (kpf K enc m p).1 = keyV (K.C k) ∧ kfind K m k = some (m.getD p default).2 ∧ ∀ v, kupd K m k v = m.set p ((m.getD p default).1, v)
  | none => kfind K m k = none ∧ ∀ v, kupd K m k v = m ++ [(k, v)]
 | [] => ⟨rfl, fun _ => rfl⟩
 | p :: r => by
  have ih := kpIdx_map k r
  have e : (fun i => kpf K enc (p :: r) (i + 1)) = kpf K enc r := by funext i; simp [kpf]
  have e0 : (kpf K enc (p :: r) 0).1 = keyV (K.C p.1) := rfl
  simp only [List.length_cons, mpIdx, e, e0, keyEqB_v (K.ok k).1 (K.ok p.1).1, List.getD_cons_zero]
  cases hk : eqCs (K.C k) (K.C p.1) with
  | true =>
   have hk' := eqCs_eq (K.ok k).1 (K.ok p.1).1 hk
   simp only [cond_true]
   refine ⟨by omega, by rw [hk']; rfl, by simp [kfind, hk], fun v => by simp [kupd, hk]⟩
  | false =>
   simp only [cond_false]
   cases hq : mpIdx (keyV (K.C k)) r.length (kpf K enc r) with
   | none =>
    rw [hq] at ih
    simp only [Option.map_none]
    exact ⟨by simp only [kfind, hk, cond_false]; exact ih.1, fun v => by simp only [kupd, hk, cond_false, ih.2 v, List.cons_append]⟩
   | some q =>
    rw [hq] at ih
    obtain ⟨i1, i2, i3, i4⟩ := ih
    simp only [Option.map_some]
    refine ⟨by simpa using i1, ?_, ?_, fun v => ?_⟩
    ·rw [← i2]; rfl
    ·simp only [kfind, hk, cond_false]; rw [i3]; simp
    ·simp only [kupd, hk, cond_false, i4 v]; simp
def mkK : NormM := ⟨0, ([] : List (κ × α)).length, fun _ => (.bool false, default), kpf K enc ([] : List (κ × α)), rfl, fun i hi => absurd hi (by omega)⟩
theorem kupd_norm (m : List (κ × α)) (k : κ) (v : α) : mpN (keyV (K.C k)) m.length (kpf K enc m) = (kupd K m k v).length ∧ ∀ i, i < mpN (keyV (K.C k)) m.length (kpf K enc m) → mpF (keyV (K.C k)) (enc v) m.length (kpf K enc m) i = kpf K enc (kupd K m k v) i := by
 have h := kpIdx_map K enc k m
 unfold mpN mpF
 cases hq : mpIdx (keyV (K.C k)) m.length (kpf K enc m) with
 | none =>
  rw [hq] at h
  simp only
  rw [h.2 v]
  refine ⟨by simp, fun i hi => ?_⟩
  by_cases c : i < m.length
  ·simp [kpf, c, List.getD, List.getElem?_append_left c]
  ·obtain rfl : i = m.length := by omega
   simp [kpf, List.getD]
 | some p =>
  rw [hq] at h
  obtain ⟨h1, h2, h3, h4⟩ := h
  simp only
  rw [h4 v]
  refine ⟨by simp, fun i hi => ?_⟩
  by_cases c : i = p
  ·subst c
   simp [kpf, List.getD, h1]
  ·simp [kpf, c, List.getD, List.getElem?_set_ne (fun e => c e.symm)]
def kdel {α : Type} : List (κ × α) → κ → List (κ × α)
 | [], _ => []
 | p :: r, k => bif eqCs (K.C k) (K.C p.1) then r else p :: kdel r k
abbrev klM (m : List (κ × α)) : Blk := .ml m.length (kpf K enc m)
theorem kdel_norm (k : κ) : ∀ (m : List (κ × α)), dlN (keyV (K.C k)) m.length (kpf K enc m) = (kdel K m k).length ∧ ∀ i, i < dlN (keyV (K.C k)) m.length (kpf K enc m) → dlF (keyV (K.C k)) m.length (kpf K enc m) i = kpf K enc (kdel K m k) i
 | [] => ⟨rfl, fun i hi => absurd hi (by simp [dlN, mpIdx])⟩
 | p :: r => by
  have ih := kdel_norm k r
  have hI : mpIdx (keyV (K.C k)) (p :: r).length (kpf K enc (p :: r)) = bif eqCs (K.C k) (K.C p.1) then some 0 else (mpIdx (keyV (K.C k)) r.length (kpf K enc r)).map (· + 1) := by
   have e : (fun i => kpf K enc (p :: r) (i + 1)) = kpf K enc r := by funext i; simp [kpf]
   simp only [List.length_cons, mpIdx, e]
   rw [show keyEqB (keyV (K.C k)) (keyV (K.C ((p :: r).getD 0 default).fst)) = eqCs (K.C k) (K.C p.1) from keyEqB_v (K.ok k).1 (K.ok p.1).1]
  unfold dlN dlF at ih ⊢
  rw [hI]
  cases hk : eqCs (K.C k) (K.C p.1) with
  | true =>
   simp only [cond_true, kdel, hk]
   exact ⟨by simp, fun i hi => by simp [kpf]⟩
  | false =>
   simp only [cond_false, kdel, hk]
   cases hq : mpIdx (keyV (K.C k)) r.length (kpf K enc r) with
   | none =>
    rw [hq] at ih
    simp only [Option.map_none]
    simp only at ih
    refine ⟨by simp only [List.length_cons]; omega, fun i hi => ?_⟩
    cases i with
    | zero => simp [kpf]
    | succ i =>
     have := ih.2 i (by simp at hi; omega)
     simp only [kpf, List.getD_cons_succ] at this ⊢
     exact this
   | some q =>
    rw [hq] at ih
    simp only [Option.map_some]
    have hql := (mpIdx_spec.1 q hq).1
    simp only at ih
    refine ⟨by simp only [List.length_cons]; omega, fun i hi => ?_⟩
    simp only [List.length_cons] at hi
    cases i with
    | zero => simp [kpf]
    | succ i =>
     have := ih.2 i (by omega)
     simp only [kpf, List.getD_cons_succ] at this ⊢
     rw [← this]
     by_cases c : i < q
     ·simp [c]
     ·simp [c]
def delK (m : List (κ × α)) (k : κ) : NormM := ⟨dlN (keyV (K.C k)) m.length (kpf K enc m), (kdel K m k).length, dlF (keyV (K.C k)) m.length (kpf K enc m), kpf K enc (kdel K m k), kdel_norm K enc k m⟩
def updK (m : List (κ × α)) (k : κ) (v : α) : NormM := ⟨mpN (keyV (K.C k)) m.length (kpf K enc m), (kupd K m k v).length, mpF (keyV (K.C k)) (enc v) m.length (kpf K enc m), kpf K enc (kupd K m k v), kupd_norm K enc m k v⟩
theorem mpGet_kmap (m : List (κ × α)) (k : κ) (z : α) : mpGet (keyV (K.C k)) m.length (kpf K enc m) (enc z) = enc (kget K m k z) := by
 have h := kpIdx_map K enc k m
 unfold mpGet kget
 cases hq : mpIdx (keyV (K.C k)) m.length (kpf K enc m) with
 | none => rw [hq] at h; simp only [h.1]; rfl
 | some p => rw [hq] at h; simp only [h.2.2.1]; rfl
theorem mpHas_kmap (m : List (κ × α)) (k : κ) : mpHas (keyV (K.C k)) m.length (kpf K enc m) = khas K m k := by
 have h := kpIdx_map K enc k m
 unfold mpHas khas
 cases hq : mpIdx (keyV (K.C k)) m.length (kpf K enc m) with
 | none => rw [hq] at h; rw [h.1]; rfl
 | some p => rw [hq] at h; rw [h.2.2.1]; rfl
def entK (m : List (κ × α)) (k : κ) (z : α) : NormM := ⟨mpN (keyV (K.C k)) m.length (kpf K enc m), (kupd K m k (kget K m k z)).length, mpF (keyV (K.C k)) (mpGet (keyV (K.C k)) m.length (kpf K enc m) (enc z)) m.length (kpf K enc m), kpf K enc (kupd K m k (kget K m k z)), by rw [mpGet_kmap]; exact kupd_norm K enc m k _⟩
def stK (m : List (κ × α)) (k : κ) (z x : α) : NormM := ⟨(kupd K m k z).length, (kupd K m k x).length, fun i => bif decide ((i : Int) = ((mpAt (keyV (K.C k)) m.length (kpf K enc m) : Nat) : Int)) then ((kpf K enc (kupd K m k z) i).1, enc x) else kpf K enc (kupd K m k z) i, kpf K enc (kupd K m k x), by
 have h := kpIdx_map K enc k m
 unfold mpAt
 cases hq : mpIdx (keyV (K.C k)) m.length (kpf K enc m) with
 | none =>
  rw [hq] at h
  simp only
  rw [h.2 z, h.2 x]
  refine ⟨by simp, fun i hi => ?_⟩
  by_cases c : i = m.length
  ·subst c
   simp [kpf, List.getD]
  ·have c2 : ¬ (i : Int) = (m.length : Int) := by omega
   have c3 : i < m.length := by simp at hi; omega
   simp [kpf, c2, List.getD, List.getElem?_append_left c3]
 | some p =>
  rw [hq] at h
  obtain ⟨h1, h2, h3, h4⟩ := h
  simp only
  rw [h4 z, h4 x]
  refine ⟨by simp, fun i hi => ?_⟩
  by_cases c : i = p
  ·subst c
   simp [kpf, List.getD, h1]
  ·have c2 : ¬ (i : Int) = (p : Int) := by omega
   simp [kpf, c2, List.getD, List.getElem?_set_ne (fun e => c e.symm)]⟩
theorem mpAt_lt (m : List (κ × α)) (k : κ) (v : α) : (0 : Int) ≤ (mpAt (keyV (K.C k)) m.length (kpf K enc m) : Nat) ∧ ((mpAt (keyV (K.C k)) m.length (kpf K enc m) : Nat) : Int) < ((kupd K m k v).length : Nat) := by
 have h := kpIdx_map K enc k m
 unfold mpAt
 cases hq : mpIdx (keyV (K.C k)) m.length (kpf K enc m) with
 | none => rw [hq] at h; rw [h.2 v]; simp; omega
 | some p => rw [hq] at h; rw [h.2.2.2 v]; simp; have := h.1; omega
theorem kfind_upd (k : κ) (v : α) : ∀ (m : List (κ × α)), kfind K (kupd K m k v) k = some v
 | [] => by
  have : eqCs (K.C k) (K.C k) = true := eqCs_rfl (K.ok k).1
  simp [kupd, kfind, this]
 | p :: r => by
  cases hk : eqCs (K.C k) (K.C p.1) with
  | true => simp [kupd, kfind, hk]
  | false => simp [kupd, kfind, hk, kfind_upd k v r]
def altK (m : List (κ × α)) (k : κ) (z : α) : CastC := ⟨.d (mpGet (keyV (K.C k)) (kupd K m k (kget K m k z)).length (kpf K enc (kupd K m k (kget K m k z))) (enc z)), .d (enc (kget K m k z)), fun _ _ _ _ _ h => by
 have e : kget K (kupd K m k (kget K m k z)) k z = kget K m k z := by
  show (kfind K (kupd K m k (kget K m k z)) k).getD z = _
  rw [kfind_upd]
  rfl
 have h2 := mpGet_kmap K enc (kupd K m k (kget K m k z)) k z
 rw [e] at h2
 rw [← h2]
 exact h⟩
def getK (m : List (κ × α)) (k : κ) (z : α) : CastC := ⟨.d (mpGet (keyV (K.C k)) m.length (kpf K enc m) (enc z)), .d (enc (kget K m k z)), fun _ _ _ _ _ h => by rw [← mpGet_kmap K enc m k z]; exact h⟩
def getK2 (m : List (κ × α)) (k : κ) (z : α) : CastC := ⟨.tup [.d (mpGet (keyV (K.C k)) m.length (kpf K enc m) (enc z)), .d (.v (.bool (mpHas (keyV (K.C k)) m.length (kpf K enc m))))], .tup [.d (enc (kget K m k z)), .d (.v (.bool (khas K m k)))], fun _ _ _ _ _ h => by rw [← mpGet_kmap K enc m k z, ← mpHas_kmap K enc m k]; exact h⟩
end
end Go.Av
