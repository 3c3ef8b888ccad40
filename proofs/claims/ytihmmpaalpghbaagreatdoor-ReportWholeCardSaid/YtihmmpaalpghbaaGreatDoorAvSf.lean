/- slices.SortFunc of a call's own row of structs of scalars, by the contract of the kit's shelf. -/
import Derived.Test.YtihmmpaalpghbaaGreatDoorAvYm
import Derived.Test.YtihmmpaalpghbaaGreatDoorAvLa
import Derived.Shelf.SlSortCmp.WholeK
set_option linter.unusedSimpArgs false
set_option linter.unusedVariables false
namespace Go.Av
open Go Go.Sort Go.Proofs
set_option linter.unusedSectionVars false
variable [Globs]
def oneS : D → Bool
 | .v x => scalar x
 | _ => false
def dvS : D → Value
 | .v x => x
 | _ => undef
theorem rd_dvS {w : World} {S : Nat → Prop} {d : D} (h : oneS d = true) {x : Value} (hr : Rd w S d x) : x = dvS d := by
 cases d with
 | v y => cases hr; rfl
 | agg => cases h
 | sl => cases h
 | mp => cases h
theorem dvS_rd {w : World} {S : Nat → Prop} {d : D} (h : oneS d = true) : Rd w S d (dvS d) := by
 cases d with
 | v y => exact .v _ h
 | agg => cases h
 | sl => cases h
 | mp => cases h
def encS {α : Type} (cells : α → List D) (x : α) : List Value := (cells x).map dvS
theorem encS_at {α : Type} {cells : α → List D} {x : α} {j : Nat} (h : j < (cells x).length) : (encS cells x)[j]! = dvS ((cells x).getD j default) := by
 generalize hc : cells x = cs at h
 simp [encS, hc, List.getD, h]
noncomputable def sortF {α : Type} [Inhabited α] (cf : α → α → Int) (L : List α) : List α := (pdq (ltOf cf) L.toArray 0 L.toArray.size (Lib.bitLen L.toArray.size) true true).toList
section
variable {α : Type} [Inhabited α] {cells : α → List D} {k : Nat}
theorem heap_sortK {w : World} {g n : Nat} {os : Array Obj} {cur : Array Value} {e : TypeId} {fr : Nat × Nat} (d : Array α) (hb : w.heap[g]? = some (.cells cur e fr)) :
  (sortWorldK (encS cells) k w g 0 n d os).heap[g]? = some (.cells (putCells id 0 (flatK (encS cells) k d) cur) e fr) := by
 have hg : g < w.heap.size := (Array.getElem?_eq_some_iff.1 hb).1
 unfold sortWorldK putRowK
 rw [heap_grow_old _ _ (by simpa using hg)]
 simp [putRow, mapBlock, Sort.ahead, Array.getElem?_modify, hb, onCells]
theorem grownBy_sortK {w : World} {g n : Nat} {os : Array Obj} (d : Array α) : w.grownBy (sortWorldK (encS cells) k w g 0 n d os) (some g) := by
 unfold sortWorldK putRowK
 refine ⟨rfl, rfl, rfl, by simp, fun q hq hne => ?_⟩
 rw [heap_grow_old _ _ (by simpa using hq)]
 have : g ≠ q := fun e => hne (by rw [e])
 simp [putRow, mapBlock, Sort.ahead, Array.getElem?_modify, this]
theorem kept_sortK {w : World} {g n : Nat} {os : Array Obj} (d : Array α) : Kept w (sortWorldK (encS cells) k w g 0 n d os) (fun q => q = g) := by
 have hb := grownBy_sortK (cells := cells) (k := k) (w := w) (g := g) (n := n) (os := os) d
 exact ⟨hb.os, hb.tape, hb.output, hb.size, fun b hlt hb' => hb.block b hlt (fun e => by cases e; exact hb' rfl)⟩
variable {w : World} {S : Nat → Prop} {μ : Mu} {e g c : Nat} {L : List α}
theorem row_holdsK (hk : ∀ x, (cells x).length = k) (hone : ∀ x, (cells x).all oneS = true) (h : BlkAt w S μ (rowB e k cells L) g c) : HoldsK (encS cells) k w g 0 L.toArray := by
 obtain ⟨cur, hg, hns, hcs, hnc, hcm, hrow⟩ := h
 intro t ht
 have ht' : t < L.length * k := by simpa using ht
 have k0 : 0 < k := by
  rcases Nat.eq_zero_or_pos k with h | h
  ·subst h; simp at ht'
  ·exact h
 have hi : t / k < L.length := Nat.div_lt_of_lt_mul (by rw [Nat.mul_comm]; exact ht')
 have hj : t % k < k := Nat.mod_lt _ k0
 refine ⟨?_, by simp [World.frozen?, hg]⟩
 obtain ⟨x, hx, hr⟩ := (hrow (t / k) hi).2 (t % k) hj
 have e0 : t / k * k + t % k = t := by rw [Nat.mul_comm]; exact Nat.div_add_mod t k
 rw [e0] at hx
 have ho := hone (L.getD (t / k) default)
 simp only [List.all_eq_true] at ho
 have hlen : t % k < (cells (L.getD (t / k) default)).length := by rw [hk]; exact hj
 have hd : oneS ((cells (L.getD (t / k) default)).getD (t % k) default) = true := ho _ (lget_mem hlen _)
 have hv := rd_dvS hd hr
 rw [get_flatK _ _ _ _ (by simpa using ht')]
 simp only [World.cell?, hg, Nat.zero_add, Option.isSome_none, Bool.false_eq_true, if_false, hx]
 rw [hv]
 simp only [id, Option.some.injEq]
 have e1 : L.toArray[t / k]! = L.getD (t / k) default := by simp [List.getD, hi]
 rw [e1]
 exact (encS_at hlen).symm
theorem row_putK {n : Nat} {os : Array Obj} {d : Array α} (hk : ∀ x, (cells x).length = k) (hone : ∀ x, (cells x).all oneS = true) (h : BlkAt w S μ (rowB e k cells L) g c) (hd : d.size = L.length) :
  BlkAt (sortWorldK (encS cells) k w g 0 n d os) S μ (rowB e k cells d.toList) g c := by
 obtain ⟨cur, hg, hns, hcs, hnc, hcm, hrow⟩ := h
 refine ⟨_, heap_sortK d hg, hns, by simpa [putCells] using hcs, by simp; omega, hcm, fun i hi => ⟨hk _, fun j hj => ?_⟩⟩
 have hid : i < d.size := by simpa using hi
 have hlt : i * k + j < d.size * k := by
  have := Nat.mul_le_mul_right k (show i + 1 ≤ d.size from hid)
  rw [Nat.add_mul, Nat.one_mul] at this
  omega
 have hic : i * k + j < cur.size := by
  have : d.size * k ≤ c * k := Nat.mul_le_mul_right k (by omega)
  omega
 have e1 : (i * k + j) / k = i := (blk_iff k i _ (by omega)).1 ⟨by omega, by omega⟩
 have e2 : (i * k + j) % k = j := by rw [Nat.mod_eq_sub_div_mul, e1]; omega
 have e3 : d[i]! = d.toList.getD i default := by simp [List.getD, hid]
 have hlen : j < (cells (d.toList.getD i default)).length := by rw [hk]; exact hj
 have ho := hone (d.toList.getD i default)
 simp only [List.all_eq_true] at ho
 have hds : oneS ((cells (d.toList.getD i default)).getD j default) = true := ho _ (lget_mem hlen _)
 refine ⟨dvS ((cells (d.toList.getD i default)).getD j default), ?_, dvS_rd hds⟩
 simp only [putCells, Nat.zero_le, Nat.zero_add, Nat.sub_zero, true_and, Array.getElem?_mapIdx, size_flatK, hlt, if_true]
 rw [Array.getElem?_eq_getElem hic]
 simp only [Option.map_some, Option.some.injEq, id]
 rw [get_flatK _ _ _ _ hlt, e1, e2, e3]
 exact encS_at hlen
theorem sortF_size (cf : α → α → Int) (hO : SWO (ltOf cf)) (L : List α) : (pdq (ltOf cf) L.toArray 0 L.toArray.size (Lib.bitLen L.toArray.size) true true).size = L.length := by
 have h := (pdq_sorts (ltOf cf) hO L.toArray 0 L.toArray.size (Lib.bitLen L.toArray.size) true true (Nat.zero_le _) (Nat.le_refl _) (Or.inl rfl)).1.1
 simpa using h
theorem sortF_perm (cf : α → α → Int) (hO : SWO (ltOf cf)) (L : List α) : (sortF cf L).Perm L := by
 have h := (pdq_sorts (ltOf cf) hO L.toArray 0 L.toArray.size (Lib.bitLen L.toArray.size) true true (Nat.zero_le _) (Nat.le_refl _) (Or.inl rfl)).1
 have h2 := h.2.2
 have hs := h.1
 unfold sortF
 generalize pdq (ltOf cf) L.toArray 0 L.toArray.size (Lib.bitLen L.toArray.size) true true = d at *
 have e1 : d.extract 0 L.toArray.size = d := by rw [← hs]; simp
 rw [e1] at h2
 simpa using h2
theorem sortF_sorted (cf : α → α → Int) (hO : SWO (ltOf cf)) (L : List α) : ∀ i j, i < j → j < (sortF cf L).length → ltOf cf ((sortF cf L).getD j default) ((sortF cf L).getD i default) = false := by
 have h := pdq_sorts (ltOf cf) hO L.toArray 0 L.toArray.size (Lib.bitLen L.toArray.size) true true (Nat.zero_le _) (Nat.le_refl _) (Or.inl rfl)
 have hs := h.1.1
 have h2 := h.2
 intro i j hij hj
 unfold sortF at *
 generalize pdq (ltOf cf) L.toArray 0 L.toArray.size (Lib.bitLen L.toArray.size) true true = d at *
 have hj' : j < d.size := by simpa using hj
 have := h2 i j (Nat.zero_le _) hij (by omega)
 have e1 : d[i]! = d.toList.getD i default := by simp [List.getD, show i < d.size by omega]
 have e2 : d[j]! = d.toList.getD j default := by simp [List.getD, hj']
 rw [e1, e2] at this
 exact this
end
theorem ti_agg {P : Program} {T : List (Nat × TI)} (hT : TOk P T) {t : Nat} {i : TI} (h : look T t = some i) (w : World) : (isAgg t).run P w = .ok (isAggK i.kind) w ∧ (sizeOf t).run P w = .ok i.size w := by
 obtain ⟨j, z, F⟩ := tiOK_facts (hT _ _ h)
 exact ⟨kind_isAgg F.kind w, by simp [sizeOf, typeInfo, F.info, F.size]⟩
theorem rowB_map {α β : Type} [Inhabited α] [Inhabited β] (e k : Nat) (c : β → List D) (g : α → β) (hd : g default = default) (L : List α) : rowB e k (fun s => c (g s)) L = rowB e k c (L.map g) := by
 have h1 : (L.map g).length = L.length := List.length_map _
 have h2 : (fun i => c (g (L.getD i default))) = fun i => c ((L.map g).getD i default) := by
  funext i
  by_cases hi : i < L.length
  ·simp [List.getD, hi]
  ·simp [List.getD, hi, hd]
 show Blk.row e k L.length _ = Blk.row e k (L.map g).length _
 rw [h1, h2]
end Go.Av
