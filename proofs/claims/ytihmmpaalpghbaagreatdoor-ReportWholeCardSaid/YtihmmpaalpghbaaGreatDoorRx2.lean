/- A function by hand. -/
import Derived.Test.YtihmmpaalpghbaaGreatDoorRx1
import Derived.WalkKit
import Derived.Shelf.Strconv.Itoa3
import Derived.Shelf.Strings.BuilderK
import Derived.Shelf.Lay
import Derived.Ground.NamesProg
import Derived.Test.YtihmmpaalpghbaaGreatDoorProg
namespace Go.Proofs.YtihmmpaalpghbaaGreatDoor
open Go Go.Av Go.Shelf Go.RowKit
set_option linter.unusedSimpArgs false
set_option linter.unusedVariables false
set_option maxHeartbeats 1000000
set_option maxRecDepth 100000
def Tryz.itoaLays_ren : Go.Shelf.Ren := ⟨fun | 171 => 78 | 243 => 111 | 246 => 165 | 283 => 192 | 284 => 193 | 285 => 194 | 286 => 195 | 129 => 137 | 317 => 205 | 318 => 206 | 319 => 207 | 320 => 208 | 337 => 210 | 338 => 211 | n => n, fun | 3 => 3 | 9 => 9 | 2 => 2 | 4 => 4 | 171 => 247 | 0 => 0 | 53 => 200 | 37 => 89 | 5 => 5 | 173 => 249 | 212 => 263 | 51 => 198 | 20 => 20 | 213 => 264 | 46 => 159 | 232 => 266 | 233 => 267 | n => n, fun | 17 => 3 | 18 => 4 | 19 => 5 | n => n⟩
theorem Tryz.itoaLays : Go.Proofs.LaysM.n171 Tryz.prog Tryz.itoaLays_ren := {
  mixed := by kernel_rfl
  f129 := Tryz.func137.trans (congrArg some (by kernel_rfl))
  f171 := Tryz.func78.trans (congrArg some (by kernel_rfl))
  f243 := Tryz.func111.trans (congrArg some (by kernel_rfl))
  f246 := Tryz.func165.trans (congrArg some (by kernel_rfl))
  f283 := Tryz.func192.trans (congrArg some (by kernel_rfl))
  f284 := Tryz.func193.trans (congrArg some (by kernel_rfl))
  f285 := Tryz.func194.trans (congrArg some (by kernel_rfl))
  f286 := Tryz.func195.trans (congrArg some (by kernel_rfl))
  f317 := Tryz.func205.trans (congrArg some (by kernel_rfl))
  f318 := Tryz.func206.trans (congrArg some (by kernel_rfl))
  f319 := Tryz.func207.trans (congrArg some (by kernel_rfl))
  f320 := Tryz.func208.trans (congrArg some (by kernel_rfl))
  f337 := Tryz.func210.trans (congrArg some (by kernel_rfl))
  f338 := Tryz.func211.trans (congrArg some (by kernel_rfl))
  t0 := Tryz.underlying0
  a0 := Tryz.isAgg0
  z0 := Tryz.sizeOf0
  v0 := Tryz.zeroValue0
  t2 := Tryz.underlying2
  a2 := Tryz.isAgg2
  z2 := Tryz.sizeOf2
  v2 := Tryz.zeroValue2
  t3 := Tryz.underlying3
  a3 := Tryz.isAgg3
  z3 := Tryz.sizeOf3
  v3 := Tryz.zeroValue3
  t4 := Tryz.underlying4
  a4 := Tryz.isAgg4
  z4 := Tryz.sizeOf4
  v4 := Tryz.zeroValue4
  t5 := Tryz.underlying5
  a5 := Tryz.isAgg5
  z5 := Tryz.sizeOf5
  v5 := Tryz.zeroValue5
  t9 := Tryz.underlying9
  a9 := Tryz.isAgg9
  z9 := Tryz.sizeOf9
  v9 := Tryz.zeroValue9
  t20 := Tryz.underlying20
  a20 := Tryz.isAgg20
  z20 := Tryz.sizeOf20
  v20 := Tryz.zeroValue20
  t37 := Tryz.underlying89
  a37 := Tryz.isAgg89
  z37 := Tryz.sizeOf89
  v37 := Tryz.zeroValue89
  t46 := Tryz.underlying159
  a46 := Tryz.isAgg159
  z46 := Tryz.sizeOf159
  v46 := Tryz.zeroValue159
  t51 := Tryz.underlying198
  a51 := Tryz.isAgg198
  z51 := Tryz.sizeOf198
  v51 := Tryz.zeroValue198
  t53 := Tryz.underlying200
  a53 := Tryz.isAgg200
  z53 := Tryz.sizeOf200
  v53 := Tryz.zeroValue200
  t171 := Tryz.underlying247
  a171 := Tryz.isAgg247
  z171 := Tryz.sizeOf247
  v171 := Tryz.zeroValue247
  t173 := Tryz.underlying249
  a173 := Tryz.isAgg249
  z173 := Tryz.sizeOf249
  v173 := Tryz.zeroValue249
  t212 := Tryz.underlying263
  a212 := Tryz.isAgg263
  z212 := Tryz.sizeOf263
  v212 := Tryz.zeroValue263
  t213 := Tryz.underlying264
  a213 := Tryz.isAgg264
  z213 := Tryz.sizeOf264
  t232 := Tryz.underlying266
  a232 := Tryz.isAgg266
  z232 := Tryz.sizeOf266
  v232 := Tryz.zeroValue266
  t233 := Tryz.underlying267
  a233 := Tryz.isAgg267
  z233 := Tryz.sizeOf267
  v233 := Tryz.zeroValue267
  g17 := by kernel_rfl
  g18 := by kernel_rfl
  g19 := by kernel_rfl
  i0 := by kernel_rfl
  i2 := by kernel_rfl
  i3 := by kernel_rfl
  i4 := by kernel_rfl
  i5 := by kernel_rfl
  i9 := by kernel_rfl
  i20 := by kernel_rfl
  i37 := by kernel_rfl
  i46 := by kernel_rfl
  i51 := by kernel_rfl
  i53 := by kernel_rfl
  i171 := by kernel_rfl
  i173 := by kernel_rfl
  i212 := by kernel_rfl
  i232 := by kernel_rfl
  i233 := by kernel_rfl
  m17 := by kernel_rfl
  m18 := by kernel_rfl
  m19 := by kernel_rfl }
def Tryz.wsLays_ren : Go.Shelf.Ren := ⟨fun | 166 => 106 | 240 => 158 | 276 => 184 | n => n, fun | 0 => 0 | 3 => 3 | 4 => 4 | 9 => 9 | 20 => 20 | 37 => 89 | 70 => 176 | 72 => 178 | 75 => 138 | 80 => 179 | 164 => 237 | 5 => 5 | n => n, fun | n => n⟩
theorem Tryz.wsLays : Go.Proofs.Lays.n166 Tryz.prog Tryz.wsLays_ren := {
  mixed := by kernel_rfl
  f166 := Tryz.func106.trans (congrArg some (by kernel_rfl))
  f240 := Tryz.func158.trans (congrArg some (by kernel_rfl))
  f276 := Tryz.func184.trans (congrArg some (by kernel_rfl))
  t0 := Tryz.underlying0
  a0 := Tryz.isAgg0
  z0 := Tryz.sizeOf0
  v0 := Tryz.zeroValue0
  t3 := Tryz.underlying3
  a3 := Tryz.isAgg3
  z3 := Tryz.sizeOf3
  v3 := Tryz.zeroValue3
  t4 := Tryz.underlying4
  a4 := Tryz.isAgg4
  z4 := Tryz.sizeOf4
  v4 := Tryz.zeroValue4
  t9 := Tryz.underlying9
  a9 := Tryz.isAgg9
  z9 := Tryz.sizeOf9
  v9 := Tryz.zeroValue9
  t20 := Tryz.underlying20
  a20 := Tryz.isAgg20
  z20 := Tryz.sizeOf20
  v20 := Tryz.zeroValue20
  t37 := Tryz.underlying89
  a37 := Tryz.isAgg89
  z37 := Tryz.sizeOf89
  v37 := Tryz.zeroValue89
  t70 := Tryz.underlying176
  a70 := Tryz.isAgg176
  z70 := Tryz.sizeOf176
  v70 := Tryz.zeroValue176
  t72 := Tryz.underlying178
  a72 := Tryz.isAgg178
  z72 := Tryz.sizeOf178
  v72 := Tryz.zeroValue178
  t75 := Tryz.underlying138
  a75 := Tryz.isAgg138
  z75 := Tryz.sizeOf138
  v75 := Tryz.zeroValue138
  t164 := Tryz.underlying237
  a164 := Tryz.isAgg237
  z164 := Tryz.sizeOf237
  v164 := Tryz.zeroValue237 }
theorem Tryz.wsX : Builder.Extra Tryz.prog Tryz.wsLays_ren where
  sizeBuilder := by kernel_rfl
  liesBuilder := by kernel_rfl
  t5 := Tryz.underlying5
  a5 := Tryz.isAgg5
  z5 := Tryz.sizeOf5
  v5 := Tryz.zeroValue5
  infoByte := by kernel_rfl
  cellsByte := by kernel_rfl
  sizeByte := by kernel_rfl
  neB5 := by decide
def Tryz.bsLays_ren : Go.Shelf.Ren := ⟨fun | 169 => 107 | n => n, fun | 70 => 176 | 9 => 9 | 0 => 0 | 72 => 178 | 37 => 89 | 127 => 215 | 3 => 3 | 5 => 5 | n => n, fun | n => n⟩
theorem Tryz.bsLays : Go.Proofs.Lays.n169 Tryz.prog Tryz.bsLays_ren := {
  mixed := by kernel_rfl
  f169 := Tryz.func107.trans (congrArg some (by kernel_rfl))
  t0 := Tryz.underlying0
  a0 := Tryz.isAgg0
  z0 := Tryz.sizeOf0
  v0 := Tryz.zeroValue0
  t3 := Tryz.underlying3
  a3 := Tryz.isAgg3
  z3 := Tryz.sizeOf3
  v3 := Tryz.zeroValue3
  t9 := Tryz.underlying9
  a9 := Tryz.isAgg9
  z9 := Tryz.sizeOf9
  v9 := Tryz.zeroValue9
  t37 := Tryz.underlying89
  a37 := Tryz.isAgg89
  z37 := Tryz.sizeOf89
  v37 := Tryz.zeroValue89
  t70 := Tryz.underlying176
  a70 := Tryz.isAgg176
  z70 := Tryz.sizeOf176
  v70 := Tryz.zeroValue176
  t72 := Tryz.underlying178
  a72 := Tryz.isAgg178
  z72 := Tryz.sizeOf178
  v72 := Tryz.zeroValue178
  t127 := Tryz.underlying215
  a127 := Tryz.isAgg215
  z127 := Tryz.sizeOf215
  v127 := Tryz.zeroValue215 }
theorem Tryz.bsX : Builder.Extra Tryz.prog Tryz.bsLays_ren where
  sizeBuilder := by kernel_rfl
  liesBuilder := by kernel_rfl
  t5 := Tryz.underlying5
  a5 := Tryz.isAgg5
  z5 := Tryz.sizeOf5
  v5 := Tryz.zeroValue5
  infoByte := by kernel_rfl
  cellsByte := by kernel_rfl
  sizeByte := by kernel_rfl
  neB5 := by decide
def intL (n : Int) : List UInt8 := Lib.itoa n ++ [59]
def intsL (l : List Int) : List UInt8 := intL l.length ++ l.flatMap intL

theorem nDig_le : ∀ (k u : Nat), u < 10 ^ (k + 1) → Lib.nDigits u ≤ k + 1
  | 0, u, h => by rw [Lib.nDigits_small (by simpa using h)]; omega
  | k + 1, u, h => by
    by_cases hu : u < 10
    · rw [Lib.nDigits_small hu]; omega
    · rw [Lib.nDigits_big hu]
      have := nDig_le k (u / 10) (Nat.div_lt_of_lt_mul (by rw [Nat.pow_succ] at h; omega))
      omega
theorem itoa_len (n : Int) (h0 : -9223372036854775808 ≤ n) (h1 : n ≤ 9223372036854775807) : (Lib.itoa n).length ≤ 20 := by
  unfold Lib.itoa
  split
  · have := nDig_le 18 n.natAbs (by omega)
    simp only [List.length_cons, Lib.decDigits_length]
    omega
  · have := nDig_le 18 n.toNat (by omega)
    simp only [Lib.decDigits_length]
    omega
theorem itoa_c (n : Int) (h0 : -9223372036854775808 ≤ n) (h1 : n ≤ 9223372036854775807) (w : World) (htab : Lib.TabIs Tryz.prog w "internal/strconv.uint64pow10" .u64 Lib.pow10Tab) :
    Calls Tryz.prog 78 #[.int .i64 n] w fun e w' => e = .returned (.string ⟨(Lib.itoa n).toArray⟩) ∧ ∃ k os, w' = Go.Sort.grow (w.drewN k) os := Any.strconv_Itoa Tryz.itoaLays n h0 h1 w htab
theorem int_c (n : Int) (h0 : -9223372036854775808 ≤ n) (h1 : n ≤ 9223372036854775807) (w : World) (htab : Lib.TabIs Tryz.prog w "internal/strconv.uint64pow10" .u64 Lib.pow10Tab) :
    Calls Tryz.prog 75 #[.int .i64 n] w fun e w' => e = .returned (.string ⟨(intL n).toArray⟩) ∧ ∃ k os, w' = Go.Sort.grow (w.drewN k) os := by
  have hlen := itoa_len n h0 h1
  go_enter Tryz.func75, Tryz.ntmps75
  go_wp2_with (go_at_call 78; refine (itoa_c n h0 h1 _ htab).mono ?_; rintro e w' ⟨rfl, k, os, rfl⟩)
  go_ret
  refine ⟨?_, k, os, rfl⟩
  simp only [intL]
  congr 2
theorem intL_len (n : Int) (h0 : -9223372036854775808 ≤ n) (h1 : n ≤ 9223372036854775807) : (intL n).length ≤ 21 := by
  have := itoa_len n h0 h1
  simp [intL]
  omega
theorem strCells_mk (l : List UInt8) : Lib.strCells ⟨l.toArray⟩ = Lib.byteCells l := rfl
theorem ws_c (B b : Nat) (l : List UInt8) (s : List UInt8) (w : World) (h : Lib.IsBuilderF 178 5 B b (Lib.byteCells l) w) (hlen : l.length + s.length ≤ 140737488355328) (hBw : B ≤ w.heap.size) :
    Calls Tryz.prog 106 #[.pointer (some ⟨b, 0, none⟩), .string ⟨s.toArray⟩] w fun e w' => (∃ v, e = .returned v) ∧ Lib.IsBuilderF 178 5 B b (Lib.byteCells (l ++ s)) w' ∧ Below B w w' := by
  refine (Any.Builder_WriteString_k Tryz.wsLays Tryz.wsX B b (Lib.byteCells l) ⟨s.toArray⟩ w h ?_ hBw).mono ?_
  · simp [Lib.byteCells_length, ByteArray.size]
    exact hlen
  · rintro e w' ⟨rfl, h1, h2, _⟩
    rw [strCells_mk, ← Lib.byteCells_append] at h1
    exact ⟨⟨_, rfl⟩, .inr h1, h2⟩
theorem tab_below {w w' : World} {B : Nat} (hb : Below B w w') (hB : 3 < B) (h : Lib.TabIs Tryz.prog w "internal/strconv.uint64pow10" .u64 Lib.pow10Tab) : Lib.TabIs Tryz.prog w' "internal/strconv.uint64pow10" .u64 Lib.pow10Tab := by
  have hg : Tryz.prog.globalNamed "internal/strconv.uint64pow10" = some 3 := by kernel_rfl
  unfold Lib.TabIs World.var? at *
  rw [hg] at *
  simp only [Option.bind_some] at *
  rw [hb.block 3 hB]
  exact h
theorem isB_grow {T e : TypeId} {B b : Nat} {bs : List Value} : ∀ (l : List Obj) (w : World), Lib.IsBuilderF T e B b bs w → Lib.IsBuilderF T e B b bs (Go.Sort.grow w l.toArray)
  | [], w, h => by simpa [Go.Sort.grow] using h
  | o :: r, w, h => by
    have := isB_grow r (w.alloc o) (h.alloc o)
    rw [Go.Sort.alloc_eq_grow, Go.Sort.grow_grow] at this
    simpa using this
theorem isB_grown {T e : TypeId} {B b : Nat} {bs : List Value} {w : World} (h : Lib.IsBuilderF T e B b bs w) (k : Nat) (os : Array Obj) : Lib.IsBuilderF T e B b bs (Go.Sort.grow (w.drewN k) os) := by
  have := isB_grow os.toList (w.drewN k) h
  simpa using this
theorem below_grown {B : Nat} {w w' : World} (h : Below B w w') (hB : B ≤ w'.heap.size) (k : Nat) (os : Array Obj) : Below B w (Go.Sort.grow (w'.drewN k) os) :=
  h.trans ⟨rfl, rfl, rfl, by simp [Go.Sort.grow, World.drewN], fun q hq => by
    have : q < w'.heap.size := by omega
    show (w'.heap ++ os)[q]? = _
    rw [Array.getElem?_append_left this]⟩
set_option maxHeartbeats 2000000 in
theorem write_c (ad : Option Addr) (blk off cap : Nat) (l : List Int) (w : World) (hl : l.length ≤ 1000000) (h64 : ∀ n ∈ l, -9223372036854775808 ≤ n ∧ n ≤ 9223372036854775807) (h3 : 3 < w.heap.size) (htab : Lib.TabIs Tryz.prog w "internal/strconv.uint64pow10" .u64 Lib.pow10Tab)
    (hc : ∀ j, (h : j < l.length) → w.cell? ⟨blk, off + j, none⟩ = some (.int .i64 l[j])) (hblk : 0 < l.length → ad = some ⟨blk, off, none⟩ ∧ blk < w.heap.size) :
    Calls Tryz.prog 74 #[.slice ad l.length cap, .func (.func 75) #[] #[]] w fun e w' => e = .returned (.string ⟨(intsL l).toArray⟩) ∧ Below w.heap.size w w' := by
  have hL := intL_len l.length (by omega) (by omega)
  have hI0 : Lib.IsBuilderF 178 5 w.heap.size w.heap.size (Lib.byteCells []) (w.alloc (.cells #[.pointer none, .slice none 0 0] 178)) := .of (Lib.fresh_isBuilder 178 5 w)
  have hb0 : Below w.heap.size w (w.alloc (.cells #[.pointer none, .slice none 0 0] 178)) := (Below.refl _ w).alloc (Nat.le_refl _) _
  have ht0 := tab_below hb0 h3 htab
  go_enter Tryz.func74, Tryz.ntmps74
  go_wp2_with (go_at_call 75; refine (int_c _ (by omega) (by omega) _ ht0).mono ?_; rintro e w1 ⟨rfl, k, os, rfl⟩)
  have hI1 := isB_grown hI0 k os
  have hb1 := below_grown hb0 (by simp) k os
  clear hI0 hb0 ht0
  go_wp2_with (go_at_call 106; refine (ws_c w.heap.size w.heap.size [] _ _ hI1 (by simp; omega) (by have := hb1.size; omega)).mono ?_; rintro e w2 ⟨⟨v, rfl⟩, hI2, hb2⟩)
  have hb3 := hb1.trans hb2
  clear hI1 hb1 hb2
  go_wp2
  have hfl : ∀ k, k ≤ l.length → (intL l.length ++ (l.take k).flatMap intL).length ≤ 21 + k * 21 := by
    intro k hk
    rw [List.length_append]
    have : ∀ (m : List Int), (∀ n ∈ m, (intL n).length ≤ 21) → (m.flatMap intL).length ≤ m.length * 21 := by
      intro m
      induction m with
      | nil => intro _; simp
      | cons x r ih =>
        intro h
        have h1 := h x (by simp)
        have h2 := ih (fun n hn => h n (by simp [hn]))
        simp only [List.flatMap_cons, List.length_append, List.length_cons]
        omega
    have h1 := this (l.take k) (fun n hn => intL_len n (h64 n (List.mem_of_mem_take hn)).1 (h64 n (List.mem_of_mem_take hn)).2)
    rw [List.length_take] at h1
    omega
  have hstart : intL l.length ++ (l.take 0).flatMap intL = [] ++ intL l.length := by simp
  go_loopw [7, 14] (fun _ i wr => ∃ k : Nat, k ≤ l.length ∧ i = .int .i64 k ∧ Lib.IsBuilderF 178 5 w.heap.size w.heap.size (Lib.byteCells (intL l.length ++ (l.take k).flatMap intL)) wr ∧ Below w.heap.size w wr)
    (fun _ i _ => l.length - (intOf i).toNat)
  case atStart => exact ⟨0, Nat.zero_le _, rfl, by rw [hstart]; exact hI2, hb3⟩
  case round =>
    obtain ⟨k, hk, rfl, hI, hb⟩ := hrel
    clear hI2 hb3
    have hcell : k < l.length → wr.cell? ⟨blk, off + k, none⟩ = some (.int .i64 (l.getD k 0)) := fun h => by
      rw [hb.cell (show (⟨blk, off + k, none⟩ : Addr).block < w.heap.size from (hblk (by omega)).2), hc k h]
      simp [List.getD, h]
    have ht := tab_below hb h3 htab
    have hsz := hb.size
    by_cases hlt : k < l.length
    · have hc1 := hcell hlt
      obtain ⟨rfl, -⟩ := hblk (by omega)
      have hn : -9223372036854775808 ≤ l.getD k 0 ∧ l.getD k 0 ≤ 9223372036854775807 := by
        have : l.getD k 0 ∈ l := by simp [List.getD, hlt]
        exact h64 _ this
      have hnl := intL_len _ hn.1 hn.2
      have hkl := hfl k hk
      have e1 : intL l.length ++ (l.take (k + 1)).flatMap intL = (intL l.length ++ (l.take k).flatMap intL) ++ intL (l.getD k 0) := by
        have : l.take (k + 1) = l.take k ++ [l[k]] := by rw [List.take_add_one, List.getElem?_eq_getElem hlt]; rfl
        rw [this, List.flatMap_append, List.append_assoc]
        simp [List.getD, hlt]
      generalize hn0 : l.getD k 0 = n0 at *
      clear hcell
      go_wp2_with (go_at_call 75; refine (int_c n0 hn.1 hn.2 _ ht).mono ?_; rintro e w3 ⟨rfl, k1, os1, rfl⟩)
      have hI3 := isB_grown hI k1 os1
      have hb3 := below_grown hb hb.size k1 os1
      clear hI hb
      go_wp2_with (go_at_call 106; refine (ws_c w.heap.size w.heap.size _ _ _ hI3 (by omega) (by have := hb3.size; omega)).mono ?_; rintro e w4 ⟨⟨v4, rfl⟩, hI4, hb4⟩)
      have hb5 := hb3.trans hb4
      clear hI3 hb3 hb4
      go_wp2
      go_roundw
      case rel => exact ⟨k + 1, by omega, by simp, by rw [e1]; exact hI4, hb5⟩
      case measure => simp [intOf]; omega
    · obtain rfl : k = l.length := by omega
      rw [List.take_length] at hI
      have hne : intL l.length ++ l.flatMap intL ≠ [] := by simp [intL]
      go_wp2_with (go_at_call 107; refine (Any.Builder_String_k Tryz.bsLays Tryz.bsX w.heap.size w.heap.size _ wr hI hne).mono ?_; rintro e w3 ⟨rfl, h1, h2, -⟩)
      go_wp2
      go_ret
      exact ⟨rfl, hb.trans h2⟩
set_option maxHeartbeats 1000000 in
theorem ints_c (ad : Option Addr) (blk off cap : Nat) (l : List Int) (w : World) (hl : l.length ≤ 1000000) (h64 : ∀ n ∈ l, -9223372036854775808 ≤ n ∧ n ≤ 9223372036854775807) (h3 : 3 < w.heap.size) (htab : Lib.TabIs Tryz.prog w "internal/strconv.uint64pow10" .u64 Lib.pow10Tab)
    (hc : ∀ j, (h : j < l.length) → w.cell? ⟨blk, off + j, none⟩ = some (.int .i64 l[j])) (hblk : 0 < l.length → ad = some ⟨blk, off, none⟩ ∧ blk < w.heap.size) :
    Calls Tryz.prog 43 #[.slice ad l.length cap] w fun e w' => e = .returned (.string ⟨(intsL l).toArray⟩) ∧ Below w.heap.size w w' := by
  go_enter Tryz.func43, Tryz.ntmps43
  go_wp2_with (go_at_call 74; refine (write_c ad blk off cap l _ hl h64 h3 htab hc hblk).mono ?_; rintro e w1 ⟨rfl, hb⟩)
  go_wp2
  go_ret
  exact ⟨rfl, hb⟩
/-- the text of a list of numbers -/
def wire_Ints (l : List Int) : ByteArray := ⟨(intsL l).toArray⟩
theorem tab_glob {w : World} {S : Nat → Prop} (hg : GlobOK w S) (hS : ∀ b, S b → b < w.heap.size) : 3 < w.heap.size ∧ Lib.TabIs Tryz.prog w "internal/strconv.uint64pow10" .u64 Lib.pow10Tab := by
  have hn : Tryz.prog.globalNamed "internal/strconv.uint64pow10" = some 3 := by kernel_rfl
  obtain ⟨h1, o, h2, h3⟩ := hg.1 (3, isCells 20) (by simp [Globs.op])
  obtain ⟨cs, t, fz, h4, h5, h6⟩ := isCells_at h2 h3
  refine ⟨hS _ h1, ?_⟩
  unfold Lib.TabIs World.var?
  rw [hn]
  simp only [Option.bind_some, h4, Option.some.injEq]
  have hgl := hg.2 _ (show (3, _) ∈ Globs.gl from List.mem_singleton.2 rfl)
  obtain ⟨vals, v1, v2⟩ := hgl
  apply Array.ext
  · rw [h5]; rfl
  · intro j hj1 hj2
    rw [h5] at hj1
    have e1 := (v1 j hj1).2
    rw [Nat.zero_add, h6 j, Array.getElem?_eq_getElem (by omega)] at e1
    have e2 := v2 j hj1
    have hj : j = 0 ∨ j = 1 ∨ j = 2 ∨ j = 3 ∨ j = 4 ∨ j = 5 ∨ j = 6 ∨ j = 7 ∨ j = 8 ∨ j = 9 ∨ j = 10 ∨ j = 11 ∨ j = 12 ∨ j = 13 ∨ j = 14 ∨ j = 15 ∨ j = 16 ∨ j = 17 ∨ j = 18 ∨ j = 19 := by omega
    rcases hj with rfl | rfl | rfl | rfl | rfl | rfl | rfl | rfl | rfl | rfl | rfl | rfl | rfl | rfl | rfl | rfl | rfl | rfl | rfl | rfl <;>
      (have e3 : vals _ = _ := rel_scalar (w := w) (S := S) (μ := fun _ => none) (ν := fun _ => false) rfl (.d e2)
       rw [Option.some.inj e1, e3]
       rfl)
theorem wire_Ints_fn (l : List Int) (h : l.length ≤ 1000000 ∧ ∀ n ∈ l, in64w n) : FnA Tryz.prog 43 [lv intC l] [] (sv (wire_Ints l)) [] := by
  refine FnA.pure (by kernel_rfl) (fun w S μ vs hS hg hr => ?_)
  obtain ⟨v, rfl⟩ : ∃ v, vs = #[v] := by
    have := (hr fun _ => false).1
    match vs, this with
    | ⟨[v]⟩, _ => exact ⟨v, rfl⟩
  obtain ⟨h3, ht⟩ := tab_glob hg hS
  have hv : Rel w S μ (fun _ => false) (lv intC l) v := by simpa using (hr fun _ => false).2 0 (by simp)
  refine ⟨.string (wire_Ints l), ?_, fun _ _ _ _ => rel_v rfl⟩
  have hrd : Rd w S (slD intC l) v := rel_d.1 hv
  unfold slD at hrd
  generalize hf : (fun i => intC (l.getD i default)) = f at hrd
  generalize hn : l.length = n at hrd
  cases hrd with
  | nil =>
    have := ints_c none 0 0 0 l w h.1 h.2 h3 ht (fun j hj => by omega) (fun hj => by omega)
    rw [hn] at this
    exact this
  | sl _ _ a cap k vals hcp hm hs hk hcell hh =>
    have hk1 : 0 < n → k = 1 := fun h0 => by rw [← hk 0 h0, ← hf]; rfl
    have := ints_c (some a) a.block a.off cap l w h.1 h.2 h3 ht (fun j hj => by
      have h0 : 0 < n := by omega
      have hk2 := hk1 h0
      subst hk2
      have q1 := (hcell j 0 (by omega) (by omega)).2
      have q2 : Rd w S (.v (.int .i64 (l.getD j default))) (vals j 0) := by
        have := hh j 0 (by omega) (by omega)
        rw [← hf] at this
        exact this
      have q3 : vals j 0 = .int .i64 l[j] := by
        have e : (.int .i64 (l.getD j default) : Value) = .int .i64 l[j] := by simp [List.getD, hj]
        rw [e] at q2
        exact rel_scalar (w := w) (S := S) (μ := fun _ => none) (ν := fun _ => false) rfl (.d q2)
      rw [q3] at q1
      rw [← q1]
      congr 2
      omega) (fun hj => by
      have h0 : 0 < n := by omega
      have hk2 := hk1 h0
      subst hk2
      rcases hs with hs | hs
      · omega
      · refine ⟨?_, hS _ (hcell 0 0 h0 (by omega)).1⟩
        cases a
        simp_all)
    rw [hn] at this
    exact this
noncomputable def wire_Ints_k (l : List Int) : Ctr ByteArray := ⟨Tryz.prog, 43, [lv intC l], fun x => sv x, true, wire_Ints l, l.length ≤ 1000000 ∧ ∀ n ∈ l, in64w n, fun h => wire_Ints_fn l h, fun _ => True, trivial⟩
end Go.Proofs.YtihmmpaalpghbaaGreatDoor

