/- slices.Sort and slices.Compact of a call's own row of ints, by the contracts of the kit's shelf. -/
import Derived.Test.YtihmmpaalpghbaaGreatDoorAvT
import Derived.Sort.OwnSortedInts
set_option linter.unusedSimpArgs false
set_option linter.unusedVariables false
namespace Go.Av
open Go Go.Sort
set_option linter.unusedSectionVars false
variable [Globs]
def sortI (l : List Int) : List Int := l.mergeSort fun x y => decide (x ≤ y)
variable {w : World} {S : Nat → Prop} {μ : Mu} {e g c : Nat} {L : List Int}
theorem row_holds (h : BlkAt w S μ (rowB e 1 intC L) g c) : Holds (Value.int .i64) w g 0 L.toArray ∧ ∃ cur, w.heap[g]? = some (.cells cur e (0, 0)) ∧ L.length ≤ c ∧ c ≤ maxLen ∧ cur.size = c := by
 obtain ⟨cur, hg, hns, hcs, hnc, hcm, hrow⟩ := h
 refine ⟨fun j hj => ?_, cur, hg, hnc, hcm, by omega⟩
 have hj' : j < L.length := by simpa using hj
 refine ⟨?_, by simp [World.frozen?, hg]⟩
 obtain ⟨x, hx, hr⟩ := (hrow j hj').2 0 (by omega)
 have hx : cur[j]? = some x := by simpa using hx
 have hr : Rd w S (.v (.int .i64 (L.getD j default))) x := by simpa [intC, dI] using hr
 cases hr
 simp only [World.cell?, hg, Nat.zero_add]
 simp only [Option.isSome_none, Bool.false_eq_true, if_false, hx]
 simp [List.getD, hj']
theorem row_put {k : Nat} {os : Array Obj} {d L' : List Int} (h : BlkAt w S μ (rowB e 1 intC L) g c) (hd : d.length ≤ c) (hl : L'.length ≤ d.length) (he : ∀ i, i < L'.length → d.getD i default = L'.getD i default) :
  BlkAt (grow (putRow (Value.int .i64) (Sort.ahead w k) g 0 d.toArray) os) S μ (rowB e 1 intC L') g c := by
 obtain ⟨cur, hg, hns, hcs, hnc, hcm, hrow⟩ := h
 refine ⟨_, heap_sortedI d.toArray hg, hns, by simpa [putCells] using hcs, by omega, hcm, fun i hi => ⟨rfl, fun j hj => ?_⟩⟩
 have hj0 : j = 0 := by omega
 subst hj0
 have hid : i < d.length := by omega
 have hic : i < cur.size := by omega
 refine ⟨.int .i64 (L'.getD i default), ?_, Rd.v _ rfl⟩
 have := he i hi
 simp only [putCells, Nat.mul_one, Nat.add_zero, Nat.zero_le, Nat.zero_add, Nat.sub_zero, true_and, Array.getElem?_mapIdx, List.size_toArray, hid, if_true]
 rw [Array.getElem?_eq_getElem hic]
 simp only [Option.map_some, Option.some.injEq, Value.int.injEq, true_and]
 rw [← this]
 simp [List.getD, hid]
theorem kept_sorted {k : Nat} {os : Array Obj} {d : Array Int} {κ : Nat} (h : μ κ = some (some (g, c))) : Kept w (grow (putRow (Value.int .i64) (Sort.ahead w k) g 0 d) os) (fun q => ∃ c, μ κ = some (some (q, c))) := by
 have hb := grownBy_sortedI (w := w) (g := g) (n := k) (os := os) d
 exact ⟨hb.os, hb.tape, hb.output, hb.size, fun b hlt hb' => hb.block b hlt (fun e => by cases e; exact hb' ⟨c, h⟩)⟩
theorem sort_fnS {P : Program} {f : FuncId} (hc : callable P f = true)
  (h1 : ∀ (blk off cap : Nat) (zs : List Int) (w : World), Holds (Value.int .i64) w blk off zs.toArray → blk < w.heap.size → zs.length < 4611686018427387904 →
   Calls P f #[.slice (some ⟨blk, off, none⟩) zs.length cap] w fun e w' => e = .returned (.tuple #[]) ∧ ∃ n os, w' = grow (putRow (Value.int .i64) (Sort.ahead w n) blk off (zs.mergeSort fun x y => decide (x ≤ y)).toArray) os)
  (h0 : ∀ (p : Option Addr) (cap : Nat) (w : World), Calls P f #[.slice p 0 cap] w fun e w' => e = .returned (.tuple #[]) ∧ w' = w) (κ e : Nat) (L : List Int) (hL : L.length < 4611686018427387904) :
  FnS P f [ow κ L] κ (rowB e 1 intC L) (rowB e 1 intC (sortI L)) := by
 refine ⟨hc, fun w S μ vs hS hg hr hb => ?_⟩
 obtain ⟨v, rfl⟩ : ∃ v, vs = #[v] := by
  have := (hr fun _ => false).1
  match vs, this with
  | ⟨[v]⟩, _ => exact ⟨v, rfl⟩
 have hv : Rel w S μ (fun _ => false) (.own κ L.length) v := by simpa using (hr fun _ => false).2 0 (by simp)
 have hsl : (sortI L).length = L.length := by simp [sortI]
 generalize hn : L.length = n at hv
 cases hv with
 | ownNil hm =>
  refine (h0 _ _ w).mono ?_
  rintro e' w' ⟨rfl, rfl⟩
  refine ⟨⟨_, rfl⟩, ?_, Kept.refl _ _⟩
  rw [hm]
  show (sortI L).length = 0
  omega
 | @own _ _ g cap hm =>
  rw [hm] at hb
  have hat : BlkAt w S μ (rowB e 1 intC L) g cap := hb
  obtain ⟨q1, cur, q2, q3, q4, q5⟩ := row_holds hat
  subst hn
  refine (h1 g 0 cap L w q1 (Array.getElem?_eq_some_iff.1 q2).1 hL).mono ?_
  rintro e' w' ⟨rfl, k, os, rfl⟩
  refine ⟨⟨_, rfl⟩, ?_, kept_sorted hm⟩
  rw [hm]
  exact row_put (d := sortI L) (L' := sortI L) hat (by omega) (Nat.le_refl _) (fun _ _ => rfl)
end Go.Av
