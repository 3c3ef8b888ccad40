/- What a reading of an argument says of its value: pure data of the argument's type. -/
import Derived.Test.YtihmmpaalpghbaaGreatDoorAvW
import Derived.ProofKit
set_option linter.unusedSimpArgs false
set_option linter.unusedVariables false
namespace Go.Av
open Go
set_option linter.unusedSectionVars false
variable [Globs]
mutual
inductive HasT (T : List (Nat × TI)) : Nat → List D → Prop
 | int {t : Nat} {i : TI} {k : IntKind} (hi : look T t = some i) (hk : i.kind = .int k) (n : Int) (h : (Lit.int k n).wf = true) : HasT T t [.v (.int k n)]
 | bool {t : Nat} {i : TI} (hi : look T t = some i) (hk : i.kind = .bool) (b : Bool) : HasT T t [.v (.bool b)]
 | str {t : Nat} {i : TI} (hi : look T t = some i) (hk : i.kind = .str) (s : ByteArray) (h : s.size ≤ maxLen) : HasT T t [.v (.string s)]
 | slice {t e : Nat} {i : TI} (hi : look T t = some i) (hk : i.kind = .slice e) (n : Nat) (f : Nat → List D) (h : ∀ j, j < n → HasT T e (f j)) : HasT T t [.sl n f]
 | struct {t : Nat} {i : TI} {fs : List (Nat × Nat)} (hi : look T t = some i) (hk : i.kind = .struct fs) (ds : List D) (h : HasFs T (fs.map (·.2)) ds) : HasT T t ds
inductive HasFs (T : List (Nat × TI)) : List Nat → List D → Prop
 | nil : HasFs T [] []
 | cons {t : Nat} {ts : List Nat} (p ds : List D) (h : HasT T t p) (hs : HasFs T ts ds) : HasFs T (t :: ts) (p ++ ds)
end
def covers (T : List (Nat × TI)) : Nat → List (Nat × Nat) → Option Nat
 | off, [] => some off
 | off, (o, t) :: r => match look T t with | some i => bif Nat.beq o off then covers T (off + i.size) r else none | none => none
def plain1 (T : List (Nat × TI)) (ts : List Nat) (t : Nat) : Bool := match look T t with
  | some i => (match i.kind with
   | .int _ | .bool | .str => true
   | .slice e => (ts.any fun q => Nat.beq q e) && (match look T e with | some j => !Nat.beq j.size 0 | none => false)
   | .struct fs => (match covers T 0 fs with | some n => Nat.beq n i.size | none => false) && fs.all (fun f => ts.any fun q => Nat.beq q f.2)
   | _ => false)
  | none => false
def closedTs (T : List (Nat × TI)) (ts : List Nat) : Bool := ts.all (plain1 T ts)
theorem any_mem {ts : List Nat} {t : Nat} (h : (ts.any fun q => Nat.beq q t) = true) : t ∈ ts := by
 obtain ⟨q, hq, e⟩ := List.any_eq_true.1 h
 have := Nat.eq_of_beq_eq_true e
 subst this
 exact hq
section
variable {H : Type} {enc : TypeId × Value → H} {P : Program} {w : World} {base : Nat} {spare : Nat → Bool} {held : Bool} {T : List (Nat × TI)}
def RdAll (w : World) (ds : List D) (cs : List Value) : Prop := ds.length = cs.length ∧ ∀ j, j < ds.length → Rd w (fun b => b < w.heap.size) (ds.getD j default) (cs.getD j undef)
theorem RdAll.one {d : D} {v : Value} (h : Rd w (fun b => b < w.heap.size) d v) : RdAll w [d] [v] := ⟨rfl, fun j hj => by
 have : j = 0 := by simpa using hj
 subst this
 simpa using h⟩
theorem RdAll.append {d1 d2 : List D} {c1 c2 : List Value} (h1 : RdAll w d1 c1) (h2 : RdAll w d2 c2) : RdAll w (d1 ++ d2) (c1 ++ c2) := by
 refine ⟨by simp [h1.1, h2.1], fun j hj => ?_⟩
 by_cases h : j < d1.length
 ·have := h1.2 j h
  have hc : j < c1.length := by rw [← h1.1]; exact h
  simpa [List.getD, List.getElem?_append_left h, List.getElem?_append_left hc] using this
 ·have h' : d1.length ≤ j := Nat.le_of_not_lt h
  have hc : c1.length ≤ j := by rw [← h1.1]; exact h'
  have := h2.2 (j - d1.length) (by simp at hj; omega)
  rw [h1.1] at this
  simpa [List.getD, List.getElem?_append_right h', List.getElem?_append_right hc, h1.1] using this
theorem cellsOf_look (hT : TOk P T) {t : Nat} {i : TI} (hi : look T t = some i) : P.cellsOf t = i.size := by
 obtain ⟨j, z, F⟩ := tiOK_facts (hT _ _ hi)
 simp [Program.cellsOf, F.info, F.size]
theorem fields_has (hT : TOk P T) (cs : List Value) : ∀ (fs : List (Nat × Nat)) (off n : Nat), covers T off fs = some n → cs.length = n →
  (∀ f, f ∈ fs → ∃ ds, HasT T f.2 ds ∧ RdAll w ds ((cs.drop f.1).take (P.cellsOf f.2))) → ∃ ds, HasFs T (fs.map (·.2)) ds ∧ RdAll w ds (cs.drop off)
 | [], off, n, hc, hl, _ => by
  simp only [covers, Option.some.injEq] at hc
  refine ⟨[], .nil, ?_⟩
  rw [List.drop_of_length_le (by omega)]
  exact ⟨rfl, fun j hj => absurd hj (by simp)⟩
 | (o, t) :: r, off, n, hc, hl, hf => by
  simp only [covers] at hc
  split at hc
  ·rename_i i hi
   cases hb : Nat.beq o off with
   | false => rw [hb] at hc; cases hc
   | true =>
    rw [hb] at hc
    have ho := Nat.eq_of_beq_eq_true hb
    subst ho
    obtain ⟨d1, t1, r1⟩ := hf (o, t) List.mem_cons_self
    obtain ⟨d2, t2, r2⟩ := fields_has hT cs r (o + i.size) n hc hl (fun f hm => hf f (List.mem_cons_of_mem _ hm))
    refine ⟨d1 ++ d2, .cons d1 d2 t1 t2, ?_⟩
    have hsz := cellsOf_look hT hi
    have e : cs.drop o = (cs.drop o).take (P.cellsOf t) ++ cs.drop (o + i.size) := by
     rw [← hsz, ← List.drop_drop, List.take_append_drop]
    rw [e]
    exact r1.append r2
  ·cases hc
theorem trod_has (hT : TOk P T) {ts : List Nat} (hcl : closedTs T ts = true) : ∀ (n t : Nat) (cs : List Value) (x : DataW H × List MemPlace), t ∈ ts → DataW.trod enc P w base spare held n t cs = some x → ∃ ds, HasT T t ds ∧ RdAll w ds cs
 | n, t, cs, x, hm, h => by
  have hp := List.all_eq_true.1 hcl t hm
  simp only [plain1] at hp
  split at hp
  ·rename_i i hi
   obtain ⟨tj, z, F⟩ := tiOK_facts (hT _ _ hi)
   have hk := F.kind
   split at hp
   ·rename_i k hkind
    rw [hkind] at hk
    simp only [kindOK] at hk
    split at hk
    ·rename_i k' hu
     have := of_decide_eq_true hk
     subst this
     obtain ⟨v, rfl, _, hw⟩ := DataW.trod_int hu h
     exact ⟨_, .int hi hkind v hw, .one (.v _ rfl)⟩
    ·cases hk
   ·rename_i hkind
    rw [hkind] at hk
    simp only [kindOK] at hk
    split at hk
    ·rename_i hu
     obtain ⟨v, rfl, _⟩ := DataW.trod_bool hu h
     exact ⟨_, .bool hi hkind v, .one (.v _ rfl)⟩
    ·cases hk
   ·rename_i hkind
    rw [hkind] at hk
    simp only [kindOK] at hk
    split at hk
    ·rename_i hu
     obtain ⟨v, rfl, _, hw⟩ := DataW.trod_string hu h
     exact ⟨_, .str hi hkind v hw, .one (.v _ rfl)⟩
    ·cases hk
   ·rename_i e hkind
    rw [hkind] at hk
    simp only [kindOK] at hk
    split at hk
    ·rename_i e' hu
     have := beq_iff_eq.1 hk
     subst this
     simp only [Bool.and_eq_true] at hp
     obtain ⟨hpe, hsz⟩ := hp
     split at hsz
     ·rename_i je hje
      have hce := cellsOf_look hT hje
      have hpos : 0 < je.size := by
       rcases Nat.eq_zero_or_pos je.size with h0 | h0
       ·rw [h0] at hsz; cases hsz
       ·exact h0
      rcases DataW.trod_slice hu h with ⟨rfl, _⟩ | ⟨a, len, cap, elems, rest, n', rfl, rfl, _, hb, hlc, hcm, hel, helem, _⟩
      ·exact ⟨[.sl 0 fun _ => []], .slice hi hkind 0 _ (fun j hj => absurd hj (Nat.not_lt_zero _)), .one (.nil _)⟩
      ·have each : ∀ q, q < len → ∃ cs', w.cells? base (a.add (q * P.cellsOf e)) (P.cellsOf e) = some cs' ∧ ∃ ds, HasT T e ds ∧ RdAll w ds cs' := by
        intro q hq
        have hx := helem q hq
        have hs : elems[q]? = some elems[q] := List.getElem?_eq_getElem (by omega)
        rw [hs] at hx
        cases hc : w.cells? base (a.add (q * P.cellsOf e)) (P.cellsOf e) with
        | none => rw [hc] at hx; cases hx
        | some cs' =>
         rw [hc] at hx
         exact ⟨cs', rfl, trod_has hT hcl n' e cs' _ (any_mem hpe) hx⟩
       classical
       let g : Nat → List D := fun q => if hq : q < len then (each q hq).choose_spec.2.choose else []
       let vv : Nat → List Value := fun q => if hq : q < len then (each q hq).choose else []
       have g1 : ∀ q, q < len → HasT T e (g q) ∧ RdAll w (g q) (vv q) ∧ w.cells? base (a.add (q * P.cellsOf e)) (P.cellsOf e) = some (vv q) := fun q hq => by
        simp only [g, vv, hq, dif_pos]
        exact ⟨(each q hq).choose_spec.2.choose_spec.1, (each q hq).choose_spec.2.choose_spec.2, (each q hq).choose_spec.1⟩
       have hlen : ∀ q, q < len → (g q).length = je.size := fun q hq => by
        obtain ⟨_, r1, c1⟩ := g1 q hq
        rw [r1.1, (World.cells?_some c1).2.1, hce]
       have hspot : len = 0 ∨ a.spot = none := by
        rcases Nat.eq_zero_or_pos len with h0 | h0
        ·exact .inl h0
        ·right
         obtain ⟨_, _, c1⟩ := g1 0 h0
         have := (World.cells?_some c1).2.2 0 (by omega)
         have hl := (World.cells?_some c1).2.1
         simp only [Nat.zero_mul, Addr.add, if_true] at this
         rw [List.getElem?_eq_getElem (by omega)] at this
         unfold World.cell? at this
         cases hsp : a.spot with
         | none => rfl
         | some s =>
          rw [hsp] at this
          split at this <;> simp at this
       refine ⟨[.sl len g], .slice hi hkind len g (fun q hq => (g1 q hq).1), .one (.sl len g a cap je.size (fun q j => (vv q).getD j undef) hlc hcm hspot hlen (fun q j hq hj => ?_) (fun q j hq hj => (g1 q hq).2.1.2 j (by rw [hlen q hq]; exact hj)))⟩
       obtain ⟨_, r1, c1⟩ := g1 q hq
       have hsp : a.spot = none := hspot.resolve_left (by omega)
       obtain ⟨ab, ao, as⟩ := a
       simp only at hsp
       subst hsp
       have hcc := (World.cells?_some c1).2.2 j (by omega)
       have hl := (World.cells?_some c1).2.1
       rw [addr_add, addr_add, hce, Nat.add_assoc, List.getElem?_eq_getElem (by omega)] at hcc
       refine ⟨?_, ?_⟩
       ·unfold World.cell? at hcc
        split at hcc
        ·rename_i hh
         exact (Array.getElem?_eq_some_iff.1 hh).1
        ·cases hcc
       ·rw [hcc]
        simp [List.getD, List.getElem?_eq_getElem (show j < (vv q).length by omega)]
     ·cases hsz
    ·cases hk
   ·rename_i fs hkind
    rw [hkind] at hk
    simp only [kindOK] at hk
    split at hk
    ·rename_i gs hu
     have hgs := beq_iff_eq.1 hk
     simp only [Bool.and_eq_true, List.all_eq_true] at hp
     obtain ⟨hcov, hall⟩ := hp
     split at hcov
     ·rename_i tot htot
      have htt := Nat.eq_of_beq_eq_true hcov
      subst htt
      obtain ⟨xs, n', rfl, _, hl, hxl, hfl⟩ := DataW.trod_struct hu h
      have hfs : ∀ f, f ∈ fs → ∃ ds, HasT T f.2 ds ∧ RdAll w ds ((cs.drop f.1).take (P.cellsOf f.2)) := fun f hm => by
       have hm0 := hm
       rw [← hgs] at hm
       simp only [List.mem_map] at hm
       obtain ⟨fd, hfd, rfl⟩ := hm
       obtain ⟨ix, hix, hge⟩ := List.getElem_of_mem hfd
       have hg : gs[ix]? = some fd := by
        rw [← hge]
        simp only [Array.length_toList] at hix
        simp [hix]
       have hx := hfl ix fd hg
       have hixx : ix < xs.length := by rw [hxl]; simpa using hix
       rw [List.getElem?_eq_getElem hixx] at hx
       exact trod_has hT hcl n' fd.type _ _ (any_mem (hall _ hm0)) hx
      obtain ⟨ds, q1, q2⟩ := fields_has (w := w) hT cs fs 0 i.size htot (by rw [hl, cellsOf_look hT hi]) hfs
      exact ⟨ds, .struct hi hkind ds q1, by simpa using q2⟩
     ·cases hcov
    ·cases hk
   ·cases hp
  ·cases hp
termination_by n => n
theorem HasT.int_inv {t : Nat} {i : TI} {k : IntKind} {ds : List D} (hi : look T t = some i) (hk : i.kind = .int k) (h : HasT T t ds) : ∃ n, ds = [.v (.int k n)] ∧ (Lit.int k n).wf = true := by
 cases h with
 | int hi' hk' n h => rw [hi] at hi'; cases hi'; rw [hk] at hk'; cases hk'; exact ⟨n, rfl, h⟩
 | bool hi' hk' => rw [hi] at hi'; cases hi'; rw [hk] at hk'; cases hk'
 | str hi' hk' => rw [hi] at hi'; cases hi'; rw [hk] at hk'; cases hk'
 | slice hi' hk' => rw [hi] at hi'; cases hi'; rw [hk] at hk'; cases hk'
 | struct hi' hk' => rw [hi] at hi'; cases hi'; rw [hk] at hk'; cases hk'
theorem HasT.bool_inv {t : Nat} {i : TI} {ds : List D} (hi : look T t = some i) (hk : i.kind = .bool) (h : HasT T t ds) : ∃ b, ds = [.v (.bool b)] := by
 cases h with
 | int hi' hk' => rw [hi] at hi'; cases hi'; rw [hk] at hk'; cases hk'
 | bool hi' hk' b => exact ⟨b, rfl⟩
 | str hi' hk' => rw [hi] at hi'; cases hi'; rw [hk] at hk'; cases hk'
 | slice hi' hk' => rw [hi] at hi'; cases hi'; rw [hk] at hk'; cases hk'
 | struct hi' hk' => rw [hi] at hi'; cases hi'; rw [hk] at hk'; cases hk'
theorem HasT.str_inv {t : Nat} {i : TI} {ds : List D} (hi : look T t = some i) (hk : i.kind = .str) (h : HasT T t ds) : ∃ s, ds = [.v (.string s)] ∧ s.size ≤ maxLen := by
 cases h with
 | int hi' hk' => rw [hi] at hi'; cases hi'; rw [hk] at hk'; cases hk'
 | bool hi' hk' => rw [hi] at hi'; cases hi'; rw [hk] at hk'; cases hk'
 | str hi' hk' s h => exact ⟨s, rfl, h⟩
 | slice hi' hk' => rw [hi] at hi'; cases hi'; rw [hk] at hk'; cases hk'
 | struct hi' hk' => rw [hi] at hi'; cases hi'; rw [hk] at hk'; cases hk'
theorem HasT.slice_inv {t e : Nat} {i : TI} {ds : List D} (hi : look T t = some i) (hk : i.kind = .slice e) (h : HasT T t ds) : ∃ n f, ds = [.sl n f] ∧ ∀ j, j < n → HasT T e (f j) := by
 cases h with
 | int hi' hk' => rw [hi] at hi'; cases hi'; rw [hk] at hk'; cases hk'
 | bool hi' hk' => rw [hi] at hi'; cases hi'; rw [hk] at hk'; cases hk'
 | str hi' hk' => rw [hi] at hi'; cases hi'; rw [hk] at hk'; cases hk'
 | slice hi' hk' n f h => rw [hi] at hi'; cases hi'; rw [hk] at hk'; cases hk'; exact ⟨n, f, rfl, h⟩
 | struct hi' hk' => rw [hi] at hi'; cases hi'; rw [hk] at hk'; cases hk'
theorem HasT.struct_inv {t : Nat} {i : TI} {fs : List (Nat × Nat)} {ds : List D} (hi : look T t = some i) (hk : i.kind = .struct fs) (h : HasT T t ds) : HasFs T (fs.map (·.2)) ds := by
 cases h with
 | int hi' hk' => rw [hi] at hi'; cases hi'; rw [hk] at hk'; cases hk'
 | bool hi' hk' => rw [hi] at hi'; cases hi'; rw [hk] at hk'; cases hk'
 | str hi' hk' => rw [hi] at hi'; cases hi'; rw [hk] at hk'; cases hk'
 | slice hi' hk' => rw [hi] at hi'; cases hi'; rw [hk] at hk'; cases hk'
 | struct hi' hk' ds h => rw [hi] at hi'; cases hi'; rw [hk] at hk'; cases hk'; exact h
theorem HasFs.cons_inv {t : Nat} {ts : List Nat} {ds : List D} (h : HasFs T (t :: ts) ds) : ∃ p r, ds = p ++ r ∧ HasT T t p ∧ HasFs T ts r := by
 cases h with
 | cons p r h hs => exact ⟨p, r, rfl, h, hs⟩
theorem HasFs.nil_inv {ds : List D} (h : HasFs T [] ds) : ds = [] := by cases h; rfl
end
end Go.Av
