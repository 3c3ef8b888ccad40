/- What printed sketches are made of. -/
import Derived.Test.YtihmmpaalpghbaaGreatDoorAvZ
set_option linter.unusedSimpArgs false
set_option linter.unusedVariables false
namespace Go.Av
open Go
set_option linter.unusedSectionVars false
variable [Globs]
instance {α β : Type} [Inhabited α] : Inhabited (Sum α β) := ⟨.inl default⟩
abbrev iv (n : Int) : AV := .d (.v (.int .i64 n))
abbrev bv (b : Bool) : AV := .d (.v (.bool b))
abbrev sv (s : ByteArray) : AV := .d (.v (.string s))
abbrev av (cs : List D) : AV := .d (.agg cs)
abbrev lv {α : Type} [Inhabited α] (cells : α → List D) (l : List α) : AV := .d (slD cells l)
abbrev nv : AV := .d (.v (.slice none 0 0))
abbrev ow {α : Type} (κ : Nat) (l : List α) : AV := .own κ l.length
abbrev rowB {α : Type} [Inhabited α] (e k : Nat) (cells : α → List D) (l : List α) : Blk := .row e k l.length fun i => cells (l.getD i default)
abbrev dI (n : Int) : D := .v (.int .i64 n)
abbrev dB (b : Bool) : D := .v (.bool b)
def w64 (n : Int) : Int := IntKind.i64.wrap n
def andK (k : IntKind) (a b : Int) : Int := k.wrap (BitVec.ofInt k.bits a &&& BitVec.ofInt k.bits b).toNat
def orK (k : IntKind) (a b : Int) : Int := k.wrap (BitVec.ofInt k.bits a ||| BitVec.ofInt k.bits b).toNat
def shlK (k : IntKind) (a b : Int) : Int := k.wrap (a * 2 ^ (min b.toNat k.bits))
theorem w64_id {n : Int} (h1 : -9223372036854775808 ≤ n) (h2 : n ≤ 9223372036854775807) : w64 n = n := wrap64_id h1 h2
structure Enc (α : Type) where
 cells : α → List D
 k : Nat
 len : ∀ x, (cells x).length = k
 one : ∀ x, (cells x).all oneD = true
def intE : Enc Int := ⟨intC, 1, fun _ => rfl, fun _ => rfl⟩
def strE : Enc ByteArray := ⟨strC, 1, fun _ => rfl, fun _ => rfl⟩
def u8C (n : Int) : List D := [.v (.int .u8 n)]
def bytesL (s : ByteArray) : List Int := s.data.toList.map fun b => (b.toNat : Int)
def bytesC (s : ByteArray) : NormC := ⟨s.size, (bytesL s).length, fun i => [.v (.int .u8 (s.data.toList.getD i 0).toNat)], fun i => u8C ((bytesL s).getD i default), by
 refine ⟨by simp [bytesL], fun i hi => ?_⟩
 have hi' : i < s.data.size := hi
 have e : (bytesL s).getD i default = ((s.data.toList.getD i 0).toNat : Int) := by
  simp only [bytesL, List.getD, List.getElem?_map, Array.getElem?_toList, Array.getElem?_eq_getElem hi', Option.map_some, Option.getD_some]
 rw [e]
 exact CsLe.rfl'⟩
abbrev mpB {α : Type} [Inhabited α] (enc : α → D) (ks : List Int) (vs : List α) : Blk := .mp ks.length fun i => (.int .i64 (ks.getD i 0), enc (vs.getD i default))
abbrev mpf {α : Type} [Inhabited α] (enc : α → D) (m : List (Int × α)) : Nat → Value × D := fun i => (.int .i64 (m.getD i default).1, enc (m.getD i default).2)
abbrev mpM {α : Type} [Inhabited α] (enc : α → D) (m : List (Int × α)) : Blk := .mp m.length (mpf enc m)
abbrev pmM {α : Type} [Inhabited α] (enc : α → D) (m : List (Int × α)) : AV := .pmp m.length (mpf enc m)
def mupd {α : Type} : List (Int × α) → Int → α → List (Int × α)
 | [], k, v => [(k, v)]
 | p :: r, k, v => bif k == p.1 then (p.1, v) :: r else p :: mupd r k v
def mfind {α : Type} : List (Int × α) → Int → Option α
 | [], _ => none
 | p :: r, k => bif k == p.1 then some p.2 else mfind r k
def mget {α : Type} (m : List (Int × α)) (k : Int) (z : α) : α := (mfind m k).getD z
theorem keysM {α : Type} [Inhabited α] (enc : α → D) (m : List (Int × α)) : ∀ i, i < m.length → ∃ b, (mpf enc m i).1 = .int .i64 b := fun i _ => ⟨_, rfl⟩
theorem mpIdx_map {α : Type} [Inhabited α] (enc : α → D) (k : Int) : ∀ (m : List (Int × α)), match mpIdx (.int .i64 k) m.length (mpf enc m) with
  | some p => p < m.length ∧ (mpf enc m p).1 = .int .i64 k ∧ mfind m k = some (m.getD p default).2 ∧ ∀ v, mupd m k v = m.set p ((m.getD p default).1, v)
  | none => mfind m k = none ∧ ∀ v, mupd m k v = m ++ [(k, v)]
 | [] => ⟨rfl, fun _ => rfl⟩
 | p :: r => by
  have ih := mpIdx_map enc k r
  have e : (fun i => mpf enc (p :: r) (i + 1)) = mpf enc r := by funext i; simp [mpf]
  have e0 : (mpf enc (p :: r) 0).1 = .int .i64 p.1 := rfl
  simp only [List.length_cons, mpIdx, e, e0, keyEqB, decide_true, Bool.true_and, List.getD_cons_zero]
  cases hk : (k == p.1) with
  | true =>
   have hk' : k = p.1 := by simpa using hk
   simp only [cond_true]
   refine ⟨by omega, by rw [hk']; rfl, by simp [mfind, hk], fun v => by simp [mupd, hk]⟩
  | false =>
   simp only [cond_false]
   cases hq : mpIdx (.int .i64 k) r.length (mpf enc r) with
   | none =>
    rw [hq] at ih
    simp only [Option.map_none]
    exact ⟨by simp only [mfind, hk, cond_false]; exact ih.1, fun v => by simp only [mupd, hk, cond_false, ih.2 v, List.cons_append]⟩
   | some q =>
    rw [hq] at ih
    obtain ⟨i1, i2, i3, i4⟩ := ih
    simp only [Option.map_some]
    refine ⟨by simpa using i1, ?_, ?_, fun v => ?_⟩
    ·rw [← i2]; rfl
    ·simp only [mfind, hk, cond_false]; rw [i3]; simp
    ·simp only [mupd, hk, cond_false, i4 v]; simp
def mkM {α : Type} [Inhabited α] (enc : α → D) : NormM := ⟨0, ([] : List (Int × α)).length, fun _ => (.bool false, default), mpf enc ([] : List (Int × α)), rfl, fun i hi => absurd hi (by omega)⟩
def updM {α : Type} [Inhabited α] (enc : α → D) (m : List (Int × α)) (k : Int) (v : α) : NormM := ⟨mpN (.int .i64 k) m.length (mpf enc m), (mupd m k v).length, mpF (.int .i64 k) (enc v) m.length (mpf enc m), mpf enc (mupd m k v), by
 have h := mpIdx_map enc k m
 unfold mpN mpF
 cases hq : mpIdx (.int .i64 k) m.length (mpf enc m) with
 | none =>
  rw [hq] at h
  simp only
  rw [h.2 v]
  refine ⟨by simp, fun i hi => ?_⟩
  by_cases c : i < m.length
  ·simp [mpf, c, List.getD, List.getElem?_append_left c]
  ·obtain rfl : i = m.length := by omega
   simp [mpf, List.getD]
 | some p =>
  rw [hq] at h
  obtain ⟨h1, h2, h3, h4⟩ := h
  simp only
  rw [h4 v]
  refine ⟨by simp, fun i hi => ?_⟩
  by_cases c : i = p
  ·subst c
   simp [mpf, List.getD, h1]
  ·simp [mpf, c, List.getD, List.getElem?_set_ne (fun e => c e.symm)]⟩
theorem mpGet_map {α : Type} [Inhabited α] (enc : α → D) (m : List (Int × α)) (k : Int) (z : α) : mpGet (.int .i64 k) m.length (mpf enc m) (enc z) = enc (mget m k z) := by
 have h := mpIdx_map enc k m
 unfold mpGet mget
 cases hq : mpIdx (.int .i64 k) m.length (mpf enc m) with
 | none => rw [hq] at h; simp only [h.1]; rfl
 | some p => rw [hq] at h; simp only [h.2.2.1]; rfl
def getM {α : Type} [Inhabited α] (enc : α → D) (m : List (Int × α)) (k : Int) (z : α) : CastC := ⟨.d (mpGet (.int .i64 k) m.length (mpf enc m) (enc z)), .d (enc (mget m k z)), fun _ _ _ _ _ h => by rw [← mpGet_map enc m k z]; exact h⟩
theorem nrm_eq {n n' : Nat} {f f' : Nat → List D} (h : n = n' ∧ ∀ i, i < n → f i = f' i) : n = n' ∧ ∀ i, i < n → CsLe (f i) (f' i) := ⟨h.1, fun i hi => CsLe.of_eq (h.2 i hi)⟩
section
variable {α : Type} [Inhabited α] (E : Enc α)
theorem Enc.src (M : List α) : (∀ i, i < M.length → (E.cells (M.getD i default)).length = E.k) ∧ ∀ i, i < M.length → (E.cells (M.getD i default)).all oneD = true := ⟨fun _ _ => E.len _, fun _ _ => E.one _⟩
theorem Enc.ones (M : List α) : ∀ i, i < M.length → (E.cells (M.getD i default)).all oneD = true := fun _ _ => E.one _
theorem Enc.lens (M : List α) : ∀ i, i < M.length → (E.cells (M.getD i default)).length = E.k := fun _ _ => E.len _
def catC (L M : List α) : NormC := ⟨L.length + M.length, (L ++ M).length, fun q => if q < L.length then E.cells (L.getD q default) else E.cells (M.getD (q - L.length) default), fun i => E.cells ((L ++ M).getD i default), nrm_eq (row_cat E.cells L M)⟩
def setC (L : List α) (p : Nat) (y : α) : NormC := ⟨L.length, (L.set p y).length, fun q => if q = p then E.cells y else E.cells (L.getD q default), fun i => E.cells ((L.set p y).getD i default), nrm_eq <| by
 refine ⟨by simp, fun i hi => ?_⟩
 split
 ·rename_i h
  subst h
  simp [List.getD, hi]
 ·rename_i h
  simp [List.getD, List.getElem?_set_ne (fun e => h e.symm)]⟩
def subL (L : List α) (lo n : Nat) : List α := (List.range n).map fun i => L.getD (lo + i) default
def subC (L : List α) (lo n : Nat) : NormC := ⟨n, (subL L lo n).length, fun i => E.cells (L.getD (lo + i) default), fun i => E.cells ((subL L lo n).getD i default), nrm_eq <| by
 refine ⟨by simp [subL], fun i hi => ?_⟩
 have : (subL L lo n).getD i default = L.getD (lo + i) default := by simp [subL, List.getD, hi]
 rw [this]⟩
def cutC (L : List α) (h : Nat) : NormC := ⟨h, (subL L 0 h).length, fun i => E.cells (L.getD i default), fun i => E.cells ((subL L 0 h).getD i default), nrm_eq <| by
 refine ⟨by simp [subL], fun i hi => ?_⟩
 have : (subL L 0 h).getD i default = L.getD i default := by simp [subL, List.getD, hi]
 rw [this]⟩
theorem flat_get (k : Nat) (hk : ∀ x, (E.cells x).length = k) : ∀ (xs : List α) (i j : Nat), i < xs.length → j < k → (xs.flatMap E.cells).getD (i * k + j) default = (E.cells (xs.getD i default)).getD j default
 | [], i, j, hi, _ => absurd hi (by simp)
 | x :: r, 0, j, _, hj => by
  simp only [List.flatMap_cons, Nat.zero_mul, Nat.zero_add, List.getD_cons_zero]
  rw [List.getD, List.getElem?_append_left (by rw [hk]; exact hj)]
  rfl
 | x :: r, i + 1, j, hi, hj => by
  have ih := flat_get k hk r i j (by simpa using hi) hj
  simp only [List.flatMap_cons, List.getD_cons_succ]
  rw [List.getD, List.getElem?_append_right (by rw [hk, Nat.add_mul, Nat.one_mul]; omega), hk, show (i + 1) * k + j - k = i * k + j by rw [Nat.add_mul, Nat.one_mul]; omega]
  exact ih
theorem flat_len (k : Nat) (hk : ∀ x, (E.cells x).length = k) : ∀ (xs : List α), (xs.flatMap E.cells).length = xs.length * k
 | [] => by simp
 | x :: r => by simp [List.flatMap_cons, hk, flat_len k hk r, Nat.add_mul, Nat.add_comm]
def litC (xs : List α) : NormC := ⟨xs.length, xs.length, rowF E.k xs.length (xs.flatMap E.cells), fun i => E.cells (xs.getD i default), nrm_eq <| by
 refine ⟨rfl, fun i hi => ?_⟩
 obtain ⟨h1, h2⟩ := rowF_get (k := E.k) (len := xs.length) (ds := xs.flatMap E.cells) (flat_len E E.k E.len xs) hi
 apply List.ext_getElem?
 intro j
 by_cases hj : j < E.k
 ·have h3 := h2 j hj
  rw [flat_get E E.k E.len xs i j hi hj] at h3
  have l1 : j < (rowF E.k xs.length (xs.flatMap E.cells) i).length := by omega
  have l2 : j < (E.cells (xs.getD i default)).length := by rw [E.len]; exact hj
  rw [List.getD, List.getD, List.getElem?_eq_getElem l1, List.getElem?_eq_getElem l2] at h3
  rw [List.getElem?_eq_getElem l1, List.getElem?_eq_getElem l2]
  simpa using h3
 ·rw [List.getElem?_eq_none (by omega), List.getElem?_eq_none (by rw [E.len]; omega)]⟩
def clrL (L : List α) (x : Nat) (z : α) : List α := L.take x ++ List.replicate (L.length - x) z
theorem clrL_length (L : List α) (x : Nat) (z : α) : (clrL L x z).length = L.length := by
 simp [clrL]
 omega
def clrN (L : List α) (x : Nat) (z : α) (ds : List D) (h : dsEq ds (E.cells z) = (dsEq ds (E.cells z)).diag) : NormC := ⟨L.length, (clrL L x z).length, clrF x (fun i => E.cells (L.getD i default)) ds, fun i => E.cells ((clrL L x z).getD i default), by
 refine ⟨(clrL_length L x z).symm, fun i hi => ?_⟩
 unfold clrF
 split
 ·rename_i h
  have e : (clrL L x z).getD i default = L.getD i default := by
   simp only [clrL, List.getD]
   rw [List.getElem?_append_left (by simp; omega), List.getElem?_take, if_pos h]
  rw [e]
  exact CsLe.rfl'
 ·rename_i h'
  have e : (clrL L x z).getD i default = z := by
   simp only [clrL, List.getD]
   have h1 : (L.take x).length = x := by simp; omega
   have h2 : i - x < L.length - x := by omega
   rw [List.getElem?_append_right (by omega), h1, List.getElem?_replicate, if_pos h2]
   rfl
  rw [e]
  exact dsEq_le (CT.ok_of h)⟩
end
abbrev ixP (i : Int) (n : Nat) : Prop := 0 ≤ i ∧ i < (n : Int)
abbrev szP (n m bytes : Nat) : Prop := n + m ≤ maxLen ∧ (n + m) * bytes ≤ 140737488355328
abbrev mkP (n : Int) (bytes : Nat) : Prop := 0 ≤ n ∧ n.toNat ≤ maxLen ∧ n.toNat * bytes ≤ 140737488355328
def Cal.z : Cal Unit := ⟨(), fun _ => [], fun _ => none, True, fun _ _ h => (by cases h), fun _ => True, trivial⟩
abbrev Sk.nx {α ι : Type} (id t n : Nat) (a : ι) : Sk (α ⊕ ι) := .r id .z fun _ => .wi t (w64 ((n : Int) + 1)) ((n + 1 : Nat) : Int) (.fin (.inr a))
def Cal.p (p : Prop) : Cal Unit := ⟨(), fun _ => [], fun _ => some p, p, fun h _ e => by cases e; exact h, fun _ => True, trivial⟩
def Cal.t {p : Prop} (h : p) : Cal Unit := ⟨(), fun _ => [], fun _ => some p, True, fun _ _ e => by cases e; exact h, fun _ => True, trivial⟩
def Cal.pt (p : Prop) {q : Prop} (h : q) : Cal Unit := ⟨(), fun _ => [], fun _ => some (p ∧ q), p, fun hp _ e => by cases e; exact ⟨hp, h⟩, fun _ => True, trivial⟩
def Cal.o (l : List Orc) : Cal Unit := ⟨(), fun _ => l, fun _ => none, True, fun _ _ h => (by cases h), fun _ => True, trivial⟩
theorem andO_mk {x y : Option Prop} (h1 : ∀ p, x = some p → p) (h2 : ∀ p, y = some p → p) (p : Prop) (e : andO x y = some p) : p := by
 cases x with
 | none => exact h2 p (by simpa [andO] using e)
 | some a =>
  cases y with
  | none => exact h1 p (by simpa [andO] using e)
  | some b =>
   simp only [andO, Option.some.injEq] at e
   subst e
   exact ⟨h1 a rfl, h2 b rfl⟩
def impO (e w : Bool) : Option Prop → Option Prop
 | none => none
 | some p => some (e = w → p)
theorem impO_mk {x : Option Prop} {e w : Bool} (h : e = w → ∀ p, x = some p → p) (p : Prop) (hp : impO e w x = some p) : p := by
 cases x with
 | none => cases hp
 | some a =>
  simp only [impO, Option.some.injEq] at hp
  subst hp
  exact fun he => h he a rfl
def Cal.and {α β : Type} (a : Cal α) (b : Cal β) : Cal (α × β) := ⟨(a.v, b.v), fun x => a.orc x.1 ++ b.orc x.2, fun x => andO (a.claim x.1) (b.claim x.2), a.pre ∧ b.pre, fun h => andO_mk (a.pf h.1) (b.pf h.2), fun x => a.post x.1 ∧ b.post x.2, ⟨a.hp, b.hp⟩⟩
def Cal.andl {β : Type} (a : Cal Unit) (b : Cal β) : Cal β := ⟨b.v, fun x => a.orc () ++ b.orc x, fun x => andO (a.claim ()) (b.claim x), a.pre ∧ b.pre, fun h => andO_mk (a.pf h.1) (b.pf h.2), b.post, b.hp⟩
def Cal.andr {α : Type} (a : Cal α) (b : Cal Unit) : Cal α := ⟨a.v, fun x => a.orc x ++ b.orc (), fun x => andO (a.claim x) (b.claim ()), a.pre ∧ b.pre, fun h => andO_mk (a.pf h.1) (b.pf h.2), a.post, a.hp⟩
def Cal.wh {β : Type} (e w : Bool) (a : Cal β) : Cal β := ⟨a.v, a.orc, fun x => impO e w (a.claim x), e = w → a.pre, fun h => impO_mk fun he => a.pf (h he), a.post, a.hp⟩
def Cal.dep {α β : Type} (a : Cal α) (b : α → Cal β) : Cal (α × β) := ⟨(a.v, (b a.v).v), fun x => a.orc x.1 ++ (b x.1).orc x.2, fun x => andO (a.claim x.1) ((b x.1).claim x.2), a.pre ∧ ∀ x, x = a.v → a.post x → (b x).pre, fun h => andO_mk (a.pf h.1) ((b a.v).pf (h.2 _ rfl a.hp)), fun x => a.post x.1 ∧ (b x.1).post x.2, ⟨a.hp, (b a.v).hp⟩⟩
def Cal.depr {α : Type} (a : Cal α) (b : α → Cal Unit) : Cal α := ⟨a.v, fun x => a.orc x ++ (b x).orc (), fun x => andO (a.claim x) ((b x).claim ()), a.pre ∧ ∀ x, x = a.v → a.post x → (b x).pre, fun h => andO_mk (a.pf h.1) ((b a.v).pf (h.2 _ rfl a.hp)), a.post, a.hp⟩
structure Ctr (β : Type) where
 P : Program
 f : FuncId
 args : List AV
 enc : β → AV
 fl : Bool
 v : β
 pre : Prop
 pf : pre → FnA P f args [] (enc v) []
 post : β → Prop := fun _ => True
 hp : post v := by trivial
def Ctr.c {β : Type} (c : Ctr β) : Cal β := ⟨c.v, fun x => [bif c.fl then .flat (c.enc x) else .gen [] (c.enc x) []], fun x => some (FnA c.P c.f c.args [] (c.enc x) []), c.pre, fun hp _ e => by cases e; exact c.pf hp, c.post, c.hp⟩
theorem AvLeL.refl : ∀ (l : List AV), AvLeL l l
 | [] => trivial
 | _ :: r => ⟨AvLe.rfl', AvLeL.refl r⟩
theorem AvLeL.set : ∀ (l : List AV) (i : Nat) (x y : AV), l[i]? = some y → AvLe x y → AvLeL (l.set i x) l
 | [], i, _, _, h, _ => by simp at h
 | z :: r, 0, x, y, h, hle => by
  simp only [List.getElem?_cons_zero, Option.some.injEq] at h
  subst h
  exact ⟨hle, AvLeL.refl r⟩
 | z :: r, i + 1, x, y, h, hle => ⟨AvLe.rfl', AvLeL.set r i x y (by simpa using h) hle⟩
def Ctr.nil {β : Type} (c : Ctr β) (i : Nat) (h : ∃ g, c.args[i]? = some (.d (.sl 0 g))) : Ctr β :=
 { c with args := c.args.set i nv, pf := fun hp => (c.pf hp).argLe (let ⟨g, hg⟩ := h; AvLeL.set c.args i _ _ hg (AvLe.d (DLe.nil g))) }
def Ctr.nilc {β : Type} (c : Ctr β) (i j : Nat) (cs : List D) (h : c.args[i]? = some (.d (.agg cs))) (h2 : ∃ g, cs[j]? = some (.sl 0 g)) : Ctr β :=
 {c with args := c.args.set i (.d (.agg (cs.set j (.v (.slice none 0 0))))), pf := fun hp => (c.pf hp).argLe (AvLeL.set c.args i _ _ h (AvLe.d (DLe.agg (by simp) (fun q hq => by
   obtain ⟨g, hg⟩ := h2
   by_cases e : j = q
   ·subst e
    have hj : j < cs.length := by simpa using hq
    have e1 : (cs.set j (.v (.slice none 0 0))).getD j default = .v (.slice none 0 0) := by simp [List.getD, hj]
    have e2 : cs.getD j default = .sl 0 g := by simp [List.getD, hg]
    rw [e1, e2]
    exact DLe.nil g
   ·have e1 : (cs.set j (.v (.slice none 0 0))).getD q default = cs.getD q default := by simp [List.getD, List.getElem?_set_ne e]
    rw [e1]
    exact DLe.rfl')))) }
@[simp] theorem Cal.z_post (x : Unit) : Cal.z.post x = True := rfl
@[simp] theorem Cal.p_post (p : Prop) (x : Unit) : (Cal.p p).post x = True := rfl
@[simp] theorem Cal.t_post {p : Prop} (h : p) (x : Unit) : (Cal.t h).post x = True := rfl
@[simp] theorem Cal.pt_post (p : Prop) {q : Prop} (h : q) (x : Unit) : (Cal.pt p h).post x = True := rfl
@[simp] theorem Cal.o_post (l : List Orc) (x : Unit) : (Cal.o l).post x = True := rfl
@[simp] theorem Cal.and_post {α β : Type} (a : Cal α) (b : Cal β) (x : α × β) : (a.and b).post x = (a.post x.1 ∧ b.post x.2) := rfl
@[simp] theorem Cal.andl_post {β : Type} (a : Cal Unit) (b : Cal β) (x : β) : (a.andl b).post x = b.post x := rfl
@[simp] theorem Cal.andr_post {β : Type} (a : Cal β) (b : Cal Unit) (x : β) : (a.andr b).post x = a.post x := rfl
@[simp] theorem Cal.wh_post {β : Type} (e w : Bool) (a : Cal β) (x : β) : (a.wh e w).post x = a.post x := rfl
@[simp] theorem Cal.dep_post {α β : Type} (a : Cal α) (b : α → Cal β) (x : α × β) : (a.dep b).post x = (a.post x.1 ∧ (b x.1).post x.2) := rfl
@[simp] theorem Cal.depr_post {α : Type} (a : Cal α) (b : α → Cal Unit) (x : α) : (a.depr b).post x = a.post x := rfl
@[simp] theorem Ctr.c_post {β : Type} (c : Ctr β) (x : β) : c.c.post x = c.post x := rfl
@[simp] theorem Ctr.nil_post {β : Type} (c : Ctr β) (i : Nat) (h : ∃ g, c.args[i]? = some (.d (.sl 0 g))) (x : β) : (c.nil i h).post x = c.post x := rfl
@[simp] theorem Ctr.nilc_post {β : Type} (c : Ctr β) (i j : Nat) (cs : List D) (h : c.args[i]? = some (.d (.agg cs))) (h2 : ∃ g, cs[j]? = some (.sl 0 g)) (x : β) : (c.nilc i j cs h h2).post x = c.post x := rfl
@[simp] theorem Cal.z_pre : Cal.z.pre = True := rfl
@[simp] theorem Cal.p_pre (p : Prop) : (Cal.p p).pre = p := rfl
@[simp] theorem Cal.t_pre {p : Prop} (h : p) : (Cal.t h).pre = True := rfl
@[simp] theorem Cal.pt_pre (p : Prop) {q : Prop} (h : q) : (Cal.pt p h).pre = p := rfl
@[simp] theorem Cal.o_pre (l : List Orc) : (Cal.o l).pre = True := rfl
@[simp] theorem Cal.and_pre {α β : Type} (a : Cal α) (b : Cal β) : (a.and b).pre = (a.pre ∧ b.pre) := rfl
@[simp] theorem Cal.andl_pre {β : Type} (a : Cal Unit) (b : Cal β) : (a.andl b).pre = (a.pre ∧ b.pre) := rfl
@[simp] theorem Cal.andr_pre {β : Type} (a : Cal β) (b : Cal Unit) : (a.andr b).pre = (a.pre ∧ b.pre) := rfl
@[simp] theorem Cal.wh_pre {β : Type} (e w : Bool) (a : Cal β) : (a.wh e w).pre = (e = w → a.pre) := rfl
@[simp] theorem Cal.dep_pre {α β : Type} (a : Cal α) (b : α → Cal β) : (a.dep b).pre = (a.pre ∧ ∀ x, x = a.v → a.post x → (b x).pre) := rfl
@[simp] theorem Cal.depr_pre {α : Type} (a : Cal α) (b : α → Cal Unit) : (a.depr b).pre = (a.pre ∧ ∀ x, x = a.v → a.post x → (b x).pre) := rfl
@[simp] theorem Cal.dep_v {α β : Type} (a : Cal α) (b : α → Cal β) : (a.dep b).v = (a.v, (b a.v).v) := rfl
@[simp] theorem Cal.depr_v {α : Type} (a : Cal α) (b : α → Cal Unit) : (a.depr b).v = a.v := rfl
@[simp] theorem Ctr.c_pre {β : Type} (c : Ctr β) : c.c.pre = c.pre := rfl
@[simp] theorem Ctr.c_v {β : Type} (c : Ctr β) : c.c.v = c.v := rfl
@[simp] theorem Ctr.nil_pre {β : Type} (c : Ctr β) (i : Nat) (h : ∃ g, c.args[i]? = some (.d (.sl 0 g))) : (c.nil i h).pre = c.pre := rfl
@[simp] theorem Ctr.nil_v {β : Type} (c : Ctr β) (i : Nat) (h : ∃ g, c.args[i]? = some (.d (.sl 0 g))) : (c.nil i h).v = c.v := rfl
@[simp] theorem Ctr.nilc_pre {β : Type} (c : Ctr β) (i j : Nat) (cs : List D) (h : c.args[i]? = some (.d (.agg cs))) (h2 : ∃ g, cs[j]? = some (.sl 0 g)) : (c.nilc i j cs h h2).pre = c.pre := rfl
@[simp] theorem Ctr.nilc_v {β : Type} (c : Ctr β) (i j : Nat) (cs : List D) (h : c.args[i]? = some (.d (.agg cs))) (h2 : ∃ g, cs[j]? = some (.sl 0 g)) : (c.nilc i j cs h h2).v = c.v := rfl
@[simp] theorem Cal.and_v {α β : Type} (a : Cal α) (b : Cal β) : (a.and b).v = (a.v, b.v) := rfl
@[simp] theorem Cal.andl_v {β : Type} (a : Cal Unit) (b : Cal β) : (a.andl b).v = b.v := rfl
@[simp] theorem Cal.andr_v {β : Type} (a : Cal β) (b : Cal Unit) : (a.andr b).v = a.v := rfl
@[simp] theorem Cal.wh_v {β : Type} (e w : Bool) (a : Cal β) : (a.wh e w).v = a.v := rfl
structure CtrO (β : Type) where
 P : Program
 f : FuncId
 args : List AV
 enc : β → AV
 encB : β → List (Nat × Blk)
 v : β
 pre : Prop
 pf : pre → FnA P f args [] (enc v) (encB v)
 post : β → Prop := fun _ => True
 hp : post v := by trivial
def CtrO.c {β : Type} (c : CtrO β) : Cal β := ⟨c.v, fun x => [.gen [] (c.enc x) (c.encB x)], fun x => some (FnA c.P c.f c.args [] (c.enc x) (c.encB x)), c.pre, fun hp _ e => by cases e; exact c.pf hp, c.post, c.hp⟩
@[simp] theorem CtrO.c_pre {β : Type} (c : CtrO β) : c.c.pre = c.pre := rfl
@[simp] theorem CtrO.c_v {β : Type} (c : CtrO β) : c.c.v = c.v := rfl
def CtrO.nil {β : Type} (c : CtrO β) (i : Nat) (h : ∃ g, c.args[i]? = some (.d (.sl 0 g))) : CtrO β :=
 { c with args := c.args.set i nv, pf := fun hp => (c.pf hp).argLe (let ⟨g, hg⟩ := h; AvLeL.set c.args i _ _ hg (AvLe.d (DLe.nil g))) }
@[simp] theorem CtrO.nil_pre {β : Type} (c : CtrO β) (i : Nat) (h : ∃ g, c.args[i]? = some (.d (.sl 0 g))) : (c.nil i h).pre = c.pre := rfl
@[simp] theorem CtrO.nil_v {β : Type} (c : CtrO β) (i : Nat) (h : ∃ g, c.args[i]? = some (.d (.sl 0 g))) : (c.nil i h).v = c.v := rfl
@[simp] theorem CtrO.c_post {β : Type} (c : CtrO β) (x : β) : c.c.post x = c.post x := rfl
@[simp] theorem CtrO.nil_post {β : Type} (c : CtrO β) (i : Nat) (h : ∃ g, c.args[i]? = some (.d (.sl 0 g))) (x : β) : (c.nil i h).post x = c.post x := rfl
structure CtrB (β : Type) where
 P : Program
 f : FuncId
 args : List AV
 lbs : List (Nat × Blk)
 anc : List (Nat × Nat)
 enc : β → AV
 encB : β → List (Nat × Blk)
 v : β
 pre : Prop
 pf : pre → FnB P f args lbs (enc v) (encB v) anc
 post : β → Prop := fun _ => True
 hp : post v := by trivial
def CtrB.c {β : Type} (c : CtrB β) : Cal β := ⟨c.v, fun x => [.bx (c.lbs.map (·.1)) c.anc (c.enc x) (c.encB x)], fun x => some (FnB c.P c.f c.args c.lbs (c.enc x) (c.encB x) c.anc), c.pre, fun hp _ e => by cases e; exact c.pf hp, c.post, c.hp⟩
@[simp] theorem CtrB.c_pre {β : Type} (c : CtrB β) : c.c.pre = c.pre := rfl
@[simp] theorem CtrB.c_v {β : Type} (c : CtrB β) : c.c.v = c.v := rfl
@[simp] theorem CtrB.c_post {β : Type} (c : CtrB β) (x : β) : c.c.post x = c.post x := rfl
theorem FnA.rekey {P : Program} {f : FuncId} {args : List AV} {K n e k m : Nat} {r : Nat → List D} (κ : Nat) (h : FnA P f args [] (.own K n) [(K, .row e k m r)]) : FnA P f args [] (.own κ n) [(κ, .row e k m r)] := by
 refine ⟨h.1, fun w S μ vs h1 h2 h3 h4 h5 => (h.2 w S μ vs h1 h2 h3 h4 h5).mono ?_⟩
 rintro e0 w' ⟨v, S', μ', rfl, B⟩
 have lk : ∀ q b, look [(κ, Blk.row e k m r)] q = some b → q = κ ∧ b = .row e k m r := fun q b hq => by
  rw [look_cons] at hq
  split at hq
  ·rename_i e; simp only [Option.some.injEq] at hq; exact ⟨e.symm, hq.symm⟩
  ·simp [look] at hq
 have lK : look [(K, Blk.row e k m r)] K = some (.row e k m r) := by rw [look_cons, if_pos rfl]
 refine ⟨v, S', fun _ => μ' K, rfl, ⟨fun ν => ?_, fun q b hq => ?_, fun q1 q2 b1 b2 g c c' x1 x2 _ _ => by rw [(lk q1 b1 x1).1, (lk q2 b2 x2).1], fun q b g c x1 x2 => B.own K _ g c lK x2, B.sub, B.new, B.bound, B.kept⟩⟩
 ·cases B.res ν with
  | ownNil hμ => exact .ownNil hμ
  | own hμ => exact .own hμ
 ·obtain ⟨rfl, rfl⟩ := lk q b hq
  exact (B.mem K _ lK).agree (fun k hk => by simp [Blk.keys] at hk)
structure CtrS (β : Type) where
 P : Program
 f : FuncId
 args : List AV
 κ : Nat
 b : Blk
 enc : β → Blk
 v : β
 pre : Prop
 pf : pre → FnS P f args κ b (enc v)
 post : β → Prop := fun _ => True
 hp : post v := by trivial
def CtrS.c {β : Type} (c : CtrS β) : Cal β := ⟨c.v, fun x => [.same c.κ (c.enc x)], fun x => some (FnS c.P c.f c.args c.κ c.b (c.enc x)), c.pre, fun hp _ e => by cases e; exact c.pf hp, c.post, c.hp⟩
@[simp] theorem CtrS.c_pre {β : Type} (c : CtrS β) : c.c.pre = c.pre := rfl
@[simp] theorem CtrS.c_v {β : Type} (c : CtrS β) : c.c.v = c.v := rfl
@[simp] theorem CtrS.c_post {β : Type} (c : CtrS β) (x : β) : c.c.post x = c.post x := rfl
structure CtrH (β : Type) where
 P : Program
 f : FuncId
 args : List AV
 lbs : List (Nat × Blk)
 enc : β → AV
 encB : β → List (Nat × Blk)
 v : β
 pre : Prop
 pf : pre → FnA P f args lbs (enc v) (encB v)
 post : β → Prop := fun _ => True
 hp : post v := by trivial
def CtrH.c {β : Type} (c : CtrH β) : Cal β := ⟨c.v, fun x => [.gen (c.lbs.map (·.1)) (c.enc x) (c.encB x)], fun x => some (FnA c.P c.f c.args c.lbs (c.enc x) (c.encB x)), c.pre, fun hp _ e => by cases e; exact c.pf hp, c.post, c.hp⟩
@[simp] theorem CtrH.c_pre {β : Type} (c : CtrH β) : c.c.pre = c.pre := rfl
@[simp] theorem CtrH.c_v {β : Type} (c : CtrH β) : c.c.v = c.v := rfl
@[simp] theorem CtrH.c_post {β : Type} (c : CtrH β) (x : β) : c.c.post x = c.post x := rfl
theorem look_one {K q : Nat} {b0 b : Blk} (h : look [(K, b0)] q = some b) : q = K ∧ b = b0 := by
 rw [look_cons] at h
 split at h
 ·rename_i e; simp only [Option.some.injEq] at h; exact ⟨e.symm, h.symm⟩
 ·simp [look] at h
theorem FnA.rekeyR {P : Program} {f : FuncId} {args : List AV} {lbs : List (Nat × Blk)} {K n e k m : Nat} {r : Nat → List D} (κ : Nat) (h : FnA P f args lbs (.own K n) [(K, .row e k m r)]) : FnA P f args lbs (.own κ n) [(κ, .row e k m r)] := by
 refine ⟨h.1, fun w S μ vs h1 h2 h3 h4 h5 => (h.2 w S μ vs h1 h2 h3 h4 h5).mono ?_⟩
 rintro e0 w' ⟨v, S', μ', rfl, B⟩
 have lK : look [(K, Blk.row e k m r)] K = some (.row e k m r) := by rw [look_cons, if_pos rfl]
 refine ⟨v, S', fun _ => μ' K, rfl, ⟨fun ν => ?_, fun q b hq => ?_, fun q1 q2 b1 b2 g c c' x1 x2 _ _ => by rw [(look_one x1).1, (look_one x2).1], fun q b g c x1 x2 => B.own K _ g c lK x2, B.sub, B.new, B.bound, B.kept⟩⟩
 ·cases B.res ν with
  | ownNil hμ => exact .ownNil hμ
  | own hμ => exact .own hμ
 ·obtain ⟨rfl, rfl⟩ := look_one hq
  exact (B.mem K _ lK).agree (fun k hk => by simp [Blk.keys] at hk)
theorem FnA.rekeyA {P : Program} {f : FuncId} {asg : List AV} {K n e k m : Nat} {r : Nat → List D} {res : AV} {lbs' : List (Nat × Blk)} (κ : Nat) (hk : AV.keysL asg = []) (h : FnA P f (.own K n :: asg) [(K, .row e k m r)] res lbs') : FnA P f (.own κ n :: asg) [(κ, .row e k m r)] res lbs' := by
 refine ⟨h.1, fun w S μ vs h1 h2 h3 h4 h5 => ?_⟩
 have lK : ∀ K', look [(K', Blk.row e k m r)] K' = some (.row e k m r) := fun K' => by rw [look_cons, if_pos rfl]
 refine (h.2 w S (fun _ => μ κ) vs h1 h2 (fun ν => ?_) (fun q b hq => ?_) (fun q1 q2 b1 b2 g c c' x1 x2 _ _ => by rw [(look_one x1).1, (look_one x2).1])).mono ?_
 ·obtain ⟨hl, hi⟩ := h3 ν
  refine ⟨by simpa using hl, fun i hi' => ?_⟩
  have hq := hi i (by simpa using hi')
  cases i with
  | zero =>
   simp only [List.getD_cons_zero] at hq ⊢
   generalize vs.toList.getD 0 undef = v at hq ⊢
   cases hq with
   | ownNil hμ => exact .ownNil hμ
   | own hμ => exact .own hμ
  | succ i =>
   simp only [List.getD_cons_succ] at hq ⊢
   refine hq.agree (fun k' hk' => absurd hk' (AV.keysL_of asg i (by rw [hk]; simp) (by simpa using hi')))
 ·obtain ⟨rfl, rfl⟩ := look_one hq
  exact (h4 κ _ (lK κ)).agree (fun k hk => by simp [Blk.keys] at hk)
 ·rintro e' w' ⟨v, S', μ', rfl, B⟩
  exact ⟨v, S', μ', rfl, B.monoT (fun b ⟨q, bk, c, x1, x2⟩ => ⟨κ, _, c, lK κ, x2⟩)⟩
section
variable {α β ι : Type}
@[simp] theorem Sk.val_fin (a : α) : (Sk.fin a).val = a := rfl
@[simp] theorem Sk.val_br (e : Bool) (x y : Sk α) : (Sk.br e x y).val = bif e then x.val else y.val := rfl
@[simp] theorem Sk.val_r (id : Nat) (c : Cal β) (k : β → Sk α) : (Sk.r id c k).val = (k c.v).val := rfl
@[simp] theorem Sk.val_wi (t : Nat) (m n : Int) (k : Sk α) : (Sk.wi t m n k).val = k.val := rfl
@[simp] theorem Sk.val_bnd (t j n : Nat) (k : Sk α) : (Sk.bnd t j n k).val = k.val := rfl
@[simp] theorem Sk.val_wn (κ n n' : Nat) (k : Sk α) : (Sk.wn κ n n' k).val = k.val := rfl
@[simp] theorem Sk.val_wr (κ n n' : Nat) (k : Sk α) : (Sk.wr κ n n' k).val = k.val := rfl
@[simp] theorem Sk.val_brt (k : Sk α) : (Sk.brt k).val = k.val := rfl
@[simp] theorem Sk.val_brf (k : Sk α) : (Sk.brf k).val = k.val := rfl
@[simp] theorem Sk.val_dead (a : α) : (Sk.dead a).val = a := rfl
@[simp] theorem Sk.val_cas (t : Nat) (c : Bool) (x y : AV) (k1 k2 : Sk α) : (Sk.cas t c x y k1 k2).val = bif c then k1.val else k2.val := rfl
@[simp] theorem Sk.val_nsp (t n : Nat) (k1 k2 : Sk α) : (Sk.nsp t n k1 k2).val = k2.val := rfl
@[simp] theorem Sk.val_op (κ : Nat) (k : List (Int × Int) → Sk α) : (Sk.op κ k).val = (k []).val := rfl
@[simp] theorem Sk.val_cl (κ : Nat) (m : List (Int × Int)) (k : Sk α) : (Sk.cl κ m k).val = k.val := rfl
@[simp] theorem Sk.val_oq (κ : Nat) (q : List (Int × Int) → Prop) (k : List (Int × Int) → Sk α) : (Sk.oq κ q k).val = (k (canon q)).val := rfl
@[simp] theorem Sk.val_nr (t κ e q : Nat) (f : Nat → List D) (k : Sk α) : (Sk.nr t κ e q f k).val = k.val := rfl
@[simp] theorem Sk.val_fm (κ : Nat) (k : Sk α) : (Sk.fm κ k).val = k.val := rfl
@[simp] theorem Sk.val_fb (κ : Nat) (k : Sk α) : (Sk.fb κ k).val = k.val := rfl
@[simp] theorem Sk.val_up (u : Upd) (k : Sk α) : (Sk.up u k).val = k.val := rfl
@[simp] theorem Sk.val_ot {Y : Type} (κ : Nat) (Q : Y → Prop) (ln : Y → Nat) (en : Y → Nat → Value × D) (d : Y) (k : Y → Sk α) : (Sk.ot κ Q ln en d k).val = (k (canonY Q d)).val := rfl
@[simp] theorem Sk.val_ct {Y : Type} (κ : Nat) (Q : Y → Prop) (ln : Y → Nat) (en : Y → Nat → Value × D) (y : Y) (k : Sk α) : (Sk.ct κ Q ln en y k).val = k.val := rfl
@[simp] theorem Sk.val_orr {Y : Type} (κ : Nat) (Q : Y → Prop) (en : Y → Nat → List D) (d : Y) (k : Y → Sk α) : (Sk.orr κ Q en d k).val = (k (canonY Q d)).val := rfl
@[simp] theorem Sk.val_cr {Y : Type} (κ n : Nat) (Q : Y → Prop) (en : Y → Nat → List D) (y : Y) (k : Sk α) : (Sk.cr κ n Q en y k).val = k.val := rfl
@[simp] theorem Sk.val_cq (κ : Nat) (m : List (Int × Int)) (q : List (Int × Int) → Prop) (k : Sk α) : (Sk.cq κ m q k).val = k.val := rfl
@[simp] theorem Sk.val_clr (id : Nat) (x : Int) (c : NormC) (k : Sk α) : (Sk.clr id x c k).val = k.val := rfl
@[simp] theorem Sk.val_fz (κ : Nat) (k : Sk α) : (Sk.fz κ k).val = k.val := rfl
@[simp] theorem Sk.val_bind (b : Bool) (J : β → Prop) (s : Sk (α ⊕ β)) (u : β → Upd) (k : β → Sk α) : (Sk.bind b J s u k).val = pickS s.val fun b => (k b).val := rfl
@[simp] theorem Sk.val_rf {σ β Y : Type} (it : ItC Y) (I : Nat → σ → Prop) (B : β → Prop) (id : Nat) (s0 : σ) (u : σ → List (Nat × Blk)) (v : β → List (Nat × Blk)) (b : σ → Y → Sk (β ⊕ σ)) (k : β ⊕ σ → Sk α) : (Sk.rf it I B id s0 u v b k).val = (k (runY (fun s y => (b s y).val) it.ys s0)).val := rfl
@[simp] theorem Sk.val_loop (d : α) (I : ι → Prop) (m : ι → Nat) (i0 : ι) (u : ι → Upd) (b : ι → Sk (α ⊕ ι)) : (Sk.loop d I m i0 u b).val = iter (fun i => (b i).val) d (m i0 + 1) i0 := rfl
variable (L : α → Prop)
@[simp] theorem Sk.obs_fin (a : α) : (Sk.fin a).obs L = L a := rfl
@[simp] theorem Sk.obs_br (e : Bool) (x y : Sk α) : (Sk.br e x y).obs L = ((e = true → x.obs L) ∧ (e = false → y.obs L)) := rfl
@[simp] theorem Sk.obs_r (id : Nat) (c : Cal β) (k : β → Sk α) : (Sk.r id c k).obs L = (c.pre ∧ ∀ x, x = c.v → c.post x → (k x).obs L) := rfl
@[simp] theorem Sk.obs_wi (t : Nat) (m n : Int) (k : Sk α) : (Sk.wi t m n k).obs L = (m = n ∧ k.obs L) := rfl
@[simp] theorem Sk.obs_bnd (t j n : Nat) (k : Sk α) : (Sk.bnd t j n k).obs L = (n ≤ maxLen → k.obs L) := rfl
@[simp] theorem Sk.obs_wn (κ n n' : Nat) (k : Sk α) : (Sk.wn κ n n' k).obs L = (n = n' ∧ k.obs L) := rfl
@[simp] theorem Sk.obs_wr (κ n n' : Nat) (k : Sk α) : (Sk.wr κ n n' k).obs L = (n = n' ∧ k.obs L) := rfl
@[simp] theorem Sk.obs_brt (k : Sk α) : (Sk.brt k).obs L = k.obs L := rfl
@[simp] theorem Sk.obs_brf (k : Sk α) : (Sk.brf k).obs L = k.obs L := rfl
@[simp] theorem Sk.obs_dead (a : α) : (Sk.dead a).obs L = False := rfl
@[simp] theorem Sk.obs_cas (t : Nat) (c : Bool) (x y : AV) (k1 k2 : Sk α) : (Sk.cas t c x y k1 k2).obs L = ((c = true → k1.obs L) ∧ (c = false → k2.obs L)) := rfl
@[simp] theorem Sk.obs_nsp (t n : Nat) (k1 k2 : Sk α) : (Sk.nsp t n k1 k2).obs L = ((n = 0 → k1.obs L ∧ k1.val = k2.val) ∧ k2.obs L) := rfl
@[simp] theorem Sk.obs_clr (id : Nat) (x : Int) (c : NormC) (k : Sk α) : (Sk.clr id x c k).obs L = ((0 ≤ x ∧ x ≤ (c.n : Int)) ∧ k.obs L) := rfl
@[simp] theorem Sk.obs_fz (κ : Nat) (k : Sk α) : (Sk.fz κ k).obs L = k.obs L := rfl
@[simp] theorem Sk.obs_bind (b : Bool) (J : β → Prop) (s : Sk (α ⊕ β)) (u : β → Upd) (k : β → Sk α) : (Sk.bind b J s u k).obs L = (s.obs (leafB L J) ∧ ∀ b, s.val = .inr b → J b → (k b).obs L) := rfl
@[simp] theorem Sk.obs_loop (d : α) (I : ι → Prop) (m : ι → Nat) (i0 : ι) (u : ι → Upd) (b : ι → Sk (α ⊕ ι)) : (Sk.loop d I m i0 u b).obs L = (I i0 ∧ ∀ i, I i → (b i).obs (leafJ L fun j => I j ∧ m j < m i)) := rfl
end
section
variable {α β ι : Type} (L : α → Prop)
@[simp] theorem Sk.pst_fin (a : α) : (Sk.fin a).pst L = L a := rfl
@[simp] theorem Sk.pst_br (e : Bool) (x y : Sk α) : (Sk.br e x y).pst L = ((e = true → x.pst L) ∧ (e = false → y.pst L)) := rfl
@[simp] theorem Sk.pst_r (id : Nat) (c : Cal β) (k : β → Sk α) : (Sk.r id c k).pst L = (∀ x, x = c.v → c.post x → (k x).pst L) := rfl
@[simp] theorem Sk.pst_wi (t : Nat) (m n : Int) (k : Sk α) : (Sk.wi t m n k).pst L = k.pst L := rfl
@[simp] theorem Sk.pst_bnd (t j n : Nat) (k : Sk α) : (Sk.bnd t j n k).pst L = k.pst L := rfl
@[simp] theorem Sk.pst_wn (κ n n' : Nat) (k : Sk α) : (Sk.wn κ n n' k).pst L = k.pst L := rfl
@[simp] theorem Sk.pst_wr (κ n n' : Nat) (k : Sk α) : (Sk.wr κ n n' k).pst L = k.pst L := rfl
@[simp] theorem Sk.pst_brt (k : Sk α) : (Sk.brt k).pst L = k.pst L := rfl
@[simp] theorem Sk.pst_brf (k : Sk α) : (Sk.brf k).pst L = k.pst L := rfl
@[simp] theorem Sk.pst_dead (a : α) : (Sk.dead a).pst L = L a := rfl
@[simp] theorem Sk.pst_cas (t : Nat) (c : Bool) (x y : AV) (k1 k2 : Sk α) : (Sk.cas t c x y k1 k2).pst L = ((c = true → k1.pst L) ∧ (c = false → k2.pst L)) := rfl
@[simp] theorem Sk.pst_nsp (t n : Nat) (k1 k2 : Sk α) : (Sk.nsp t n k1 k2).pst L = k2.pst L := rfl
@[simp] theorem Sk.pst_clr (id : Nat) (x : Int) (c : NormC) (k : Sk α) : (Sk.clr id x c k).pst L = k.pst L := rfl
@[simp] theorem Sk.pst_fz (κ : Nat) (k : Sk α) : (Sk.fz κ k).pst L = k.pst L := rfl
@[simp] theorem Sk.pst_bind (b : Bool) (J : β → Prop) (s : Sk (α ⊕ β)) (u : β → Upd) (k : β → Sk α) : (Sk.bind b J s u k).pst L = (s.pst (leafB L J) ∧ ∀ b, s.val = .inr b → J b → (k b).pst L) := rfl
@[simp] theorem Sk.pst_loop (d : α) (I : ι → Prop) (m : ι → Nat) (i0 : ι) (u : ι → Upd) (b : ι → Sk (α ⊕ ι)) : (Sk.loop d I m i0 u b).pst L = (I i0 ∧ ∀ i, I i → (b i).pst (leafJ L fun j => I j ∧ m j < m i)) := rfl
end
@[simp] theorem leafB_inl {α β : Type} (L : α → Prop) (J : β → Prop) (a : α) : leafB L J (.inl a) = L a := rfl
@[simp] theorem leafB_inr {α β : Type} (L : α → Prop) (J : β → Prop) (b : β) : leafB L J (.inr b) = J b := rfl
@[simp] theorem leafJ_inl {α β : Type} (L : α → Prop) (J : β → Prop) (a : α) : leafJ L J (.inl a) = L a := rfl
@[simp] theorem leafJ_inr {α β : Type} (L : α → Prop) (J : β → Prop) (b : β) : leafJ L J (.inr b) = J b := rfl
@[simp] theorem pickS_inl {α β : Type} (a : α) (f : β → α) : pickS (.inl a) f = a := rfl
@[simp] theorem pickS_inr {α β : Type} (b : β) (f : β → α) : pickS (.inr b) f = f b := rfl
end Go.Av
