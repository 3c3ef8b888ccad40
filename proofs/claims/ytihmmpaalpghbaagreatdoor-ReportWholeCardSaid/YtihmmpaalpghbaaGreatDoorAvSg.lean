/- slices.SortFunc of an own row of structs, its comparison by a contract of its own (it may lay blocks, and read package variables). -/
import Derived.Test.YtihmmpaalpghbaaGreatDoorAvSf
import Derived.Test.YtihmmpaalpghbaaGreatDoorAvDr
import Derived.Test.YtihmmpaalpghbaaGreatDoorAvTk
import Derived.Lib.Bytealg
set_option linter.unusedSimpArgs false
set_option linter.unusedVariables false
namespace Go.Av
open Go Go.Sort Go.Proofs
set_option linter.unusedSectionVars false
variable [Globs]

theorem heap_sortW {α : Type} [Inhabited α] {cells : α → List D} {k : Nat} {w : World} {g n : Nat} {os : Array Obj} (d : Array α) {q : Nat} (hq : q < w.heap.size) (hne : g ≠ q) : (sortWorldK (encS cells) k w g 0 n d os).heap[q]? = w.heap[q]? :=
  (grownBy_sortK (cells := cells) (k := k) (w := w) (g := g) (n := n) (os := os) d).block q hq (fun e => hne (Option.some.inj e).symm)

theorem size_sortW {α : Type} [Inhabited α] {cells : α → List D} {k : Nat} {w : World} {g n : Nat} {os : Array Obj} (d : Array α) : w.heap.size ≤ (sortWorldK (encS cells) k w g 0 n d os).heap.size :=
  (grownBy_sortK (cells := cells) (k := k) (w := w) (g := g) (n := n) (os := os) d).size

theorem cmpLays_of {P : Program} {gf : FuncId} {α : Type} [Inhabited α] {cells : α → List D} {k : Nat} (hone : ∀ x, (cells x).all oneS = true) {cf : α → α → Int} (hc : ∀ x y, FnA P gf [av (cells x), av (cells y)] [] (iv (cf x y)) [])
    {w : World} {S : Nat → Prop} {g n : Nat} (hS : ∀ b, S b → b < w.heap.size) (hg : GlobOK w S) (hns : ¬ S g) : CmpLays P gf #[] (encS cells) k cf g 0 n w := by
  intro m os dk hdk x y
  have hkeep : ∀ b, S b → (sortWorldK (encS cells) k w g 0 m dk os).heap[b]? = w.heap[b]? := fun b hb => heap_sortW dk (hS b hb) (fun e => hns (e ▸ hb))
  have hsz := size_sortW (cells := cells) (k := k) (w := w) (g := g) (n := m) (os := os) dk
  generalize sortWorldK (encS cells) k w g 0 m dk os = W at hkeep hsz ⊢
  have hagg : ∀ z : α, Rd W S (.agg (cells z)) (.agg (encS cells z).toArray) := fun z => by
    refine .agg _ _ (by simp [encS]) (fun i hi => ?_)
    have ho := hone z
    simp only [List.all_eq_true] at ho
    have hd := ho _ (lget_mem hi default)
    have e : (encS cells z).toArray.getD i undef = dvS ((cells z).getD i default) := by
      simp [encS, Array.getD, List.getD, hi]
    rw [e]
    exact dvS_rd hd
  have h := (hc x y).2 W S (fun _ => none) #[.agg (encS cells x).toArray, .agg (encS cells y).toArray] (fun b hb => Nat.lt_of_lt_of_le (hS b hb) hsz) (hg.mono (fun _ h => h) hkeep)
    (fun ν => ⟨rfl, fun i hi => by
      have : i = 0 ∨ i = 1 := by simp at hi; omega
      rcases this with rfl | rfl
      · exact .d (hagg x)
      · exact .d (hagg y)⟩) (fun κ b hb => by simp [look] at hb) (fun κ κ' b b' g c c' hb => by simp [look] at hb)
  show Calls P gf #[.agg (encS cells x).toArray, .agg (encS cells y).toArray] W _
  refine (Calls.drawn h (fun w' hw => by obtain ⟨v, S', μ', e, -⟩ := hw; cases e)).mono ?_
  rintro e w' ⟨⟨v, S', μ', rfl, hb⟩, hd⟩
  have hv : v = .int .i64 (cf x y) := rel_scalar rfl (hb.res fun _ => false)
  subst hv
  have hbel : Go.RowKit.Below W.heap.size W w' := ⟨hb.kept.os, hb.kept.tape, hb.kept.output, hb.kept.size, fun q hq => hb.kept.block q hq (by rintro ⟨c, hc⟩; simp_all [Handed, look])⟩
  exact ⟨rfl, below_grow hbel hd⟩

theorem sortf_fnS2 {P : Program} {f gf : FuncId} (hc : callable P f = true) {α : Type} [Inhabited α] (cells : α → List D) (k : Nat) (hk : ∀ x, (cells x).length = k) (hone : ∀ x, (cells x).all oneS = true) (cf : α → α → Int) (hO : SWO (ltOf cf))
    (hcmp : ∀ x y, FnA P gf [av (cells x), av (cells y)] [] (iv (cf x y)) [])
    (h1 : ∀ (blk off cap : Nat) (d : Array α) (w : World), CmpLays P gf #[] (encS cells) k cf blk off d.size w → HoldsK (encS cells) k w blk off d → blk < w.heap.size → d.size < 4611686018427387904 →
      Calls P f #[.slice (some ⟨blk, off, none⟩) d.size cap, .func (.func gf) #[] #[]] w fun e w' => e = .returned (.tuple #[]) ∧ ∃ n os, w' = sortWorldK (encS cells) k w blk off n (pdq (ltOf cf) d 0 d.size (Lib.bitLen d.size) true true) os)
    (h0 : ∀ (p : Option Addr) (cap : Nat) (w : World), Calls P f #[.slice p 0 cap, .func (.func gf) #[] #[]] w fun e w' => e = .returned (.tuple #[]) ∧ w' = w) (κ e : Nat) (L : List α) (hL : L.length < 4611686018427387904) :
    FnS P f [ow κ L, .fn gf []] κ (rowB e k cells L) (rowB e k cells (sortF cf L)) := by
  refine ⟨hc, fun w S μ vs hS hg hr hb => ?_⟩
  have hr0 := hr fun _ => false
  obtain ⟨v, u, rfl⟩ : ∃ v u, vs = #[v, u] := by
    have := hr0.1
    match vs, this with
    | ⟨[v, u]⟩, _ => exact ⟨v, u, rfl⟩
  have hv : Rel w S μ (fun _ => false) (.own κ L.length) v := by simpa using hr0.2 0 (by simp)
  have hu : Rel w S μ (fun _ => false) (.fn gf []) u := by simpa using hr0.2 1 (by simp)
  obtain rfl : u = .func (.func gf) #[] #[] := by
    cases hu with
    | @fn _ _ cvs hl hh =>
      have : cvs = #[] := Array.eq_empty_of_size_eq_zero (hl.trans rfl)
      subst this
      rfl
  have hsl : (sortF cf L).length = L.length := by have := sortF_size cf hO L; simpa [sortF] using this
  generalize hn : L.length = n at hv
  cases hv with
  | ownNil hm =>
    refine (h0 _ _ w).mono ?_
    rintro e' w' ⟨rfl, rfl⟩
    refine ⟨⟨_, rfl⟩, ?_, Kept.refl _ _⟩
    rw [hm]
    show (sortF cf L).length = 0
    omega
  | @own _ _ g cap hm =>
    rw [hm] at hb
    have hat : BlkAt w S μ (rowB e k cells L) g cap := hb
    have hH := row_holdsK hk hone hat
    obtain ⟨cur, q2, hns, q5, q3, q4, hrow⟩ := id hat
    have hlt : g < w.heap.size := (Array.getElem?_eq_some_iff.1 q2).1
    subst hn
    refine (h1 g 0 cap L.toArray w (cmpLays_of hone hcmp hS hg hns) hH hlt (by simpa using hL)).mono ?_
    rintro e' w' ⟨rfl, m, os, rfl⟩
    refine ⟨⟨_, rfl⟩, ?_, (kept_sortK _).mono' (fun q hq => ⟨cap, by rw [hq]; exact hm⟩)⟩
    rw [hm]
    exact row_putK hk hone hat (sortF_size cf hO L)

/-- the order of strings -/
theorem cmpB_lt : ∀ (a b : List UInt8), Lib.compareBytes a b < 0 ↔ a < b
  | [], [] => by simp [Lib.compareBytes]
  | [], _ :: _ => by simp [Lib.compareBytes]
  | _ :: _, [] => by simp [Lib.compareBytes]
  | a :: xs, b :: bs => by
    have ih := cmpB_lt xs bs
    unfold Lib.compareBytes
    rw [List.cons_lt_cons_iff]
    by_cases h1 : a < b
    · simp [h1]
    · by_cases h2 : b < a
      · have : a ≠ b := fun e => by subst e; exact h1 h2
        simp [h1, h2, this]
      · have : a = b := UInt8.le_antisymm (UInt8.not_lt.1 h2) (UInt8.not_lt.1 h1)
        subst this
        simp [ih]
theorem cmpB_swo {α : Type} (t : α → List UInt8) : SWO (ltOf fun x y => Lib.compareBytes (t x) (t y)) where
  irrefl x := by
    unfold ltOf
    rw [decide_eq_false_iff_not, cmpB_lt]
    exact List.lt_irrefl _
  trans x y z h1 h2 := by
    simp only [ltOf, decide_eq_true_eq] at *
    rw [cmpB_lt] at *
    exact List.lt_trans h1 h2
  ntrans x y z h1 h2 := by
    simp only [ltOf, decide_eq_false_iff_not] at *
    rw [cmpB_lt] at *
    rw [List.not_lt] at *
    exact List.le_trans h2 h1
end Go.Av

