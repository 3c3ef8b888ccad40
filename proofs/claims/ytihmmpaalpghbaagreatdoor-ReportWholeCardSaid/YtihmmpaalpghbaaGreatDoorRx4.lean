/- A function by hand. -/
import Derived.Test.YtihmmpaalpghbaaGreatDoorRx3
import Derived.WalkKit
import Derived.Shelf.Strconv.AtoiAll
import Derived.Shelf.Strings.Cut
import Derived.Lib.AtoiErrMem
import Derived.BigCall
namespace Go.Proofs.YtihmmpaalpghbaaGreatDoor
open Go Go.Av Go.Shelf Go.RowKit
set_option linter.unusedSimpArgs false
set_option linter.unusedVariables false
set_option maxHeartbeats 1000000
set_option maxRecDepth 100000
def Tryz.atoiLays_ren : Go.Shelf.Ren := ⟨fun | 172 => 77 | 244 => 109 | 245 => 110 | 247 => 160 | 279 => 161 | 280 => 162 | 281 => 163 | 282 => 164 | 287 => 189 | 316 => 190 | 171 => 78 | 205 => 191 | 321 => 203 | 322 => 204 | 243 => 111 | 246 => 165 | 283 => 192 | 284 => 193 | 285 => 194 | 286 => 195 | 129 => 137 | 317 => 205 | 318 => 206 | 319 => 207 | 320 => 208 | 337 => 210 | 338 => 211 | n => n, fun | 9 => 9 | 3 => 3 | 75 => 138 | 76 => 139 | 4 => 4 | 5 => 5 | 167 => 216 | 37 => 89 | 0 => 0 | 85 => 217 | 2 => 2 | 168 => 219 | 53 => 200 | 175 => 241 | 46 => 159 | 210 => 245 | 127 => 215 | 145 => 261 | 143 => 259 | 21 => 21 | 171 => 247 | 173 => 249 | 212 => 263 | 51 => 198 | 20 => 20 | 213 => 264 | 232 => 266 | 233 => 267 | 80 => 179 | n => n, fun | 15 => 1 | 16 => 2 | 17 => 3 | 18 => 4 | 19 => 5 | n => n⟩
theorem Tryz.atoiLays : Go.Proofs.LaysC.n172 Tryz.prog Tryz.atoiLays_ren := {
  mixed := by kernel_rfl
  f129 := Tryz.func137.trans (congrArg some (by kernel_rfl))
  f171 := Tryz.func78.trans (congrArg some (by kernel_rfl))
  f172 := Tryz.func77.trans (congrArg some (by kernel_rfl))
  f205 := Tryz.func191.trans (congrArg some (by kernel_rfl))
  f243 := Tryz.func111.trans (congrArg some (by kernel_rfl))
  f244 := Tryz.func109.trans (congrArg some (by kernel_rfl))
  f245 := Tryz.func110.trans (congrArg some (by kernel_rfl))
  f246 := Tryz.func165.trans (congrArg some (by kernel_rfl))
  f247 := Tryz.func160.trans (congrArg some (by kernel_rfl))
  f279 := Tryz.func161.trans (congrArg some (by kernel_rfl))
  f280 := Tryz.func162.trans (congrArg some (by kernel_rfl))
  f281 := Tryz.func163.trans (congrArg some (by kernel_rfl))
  f282 := Tryz.func164.trans (congrArg some (by kernel_rfl))
  f283 := Tryz.func192.trans (congrArg some (by kernel_rfl))
  f284 := Tryz.func193.trans (congrArg some (by kernel_rfl))
  f285 := Tryz.func194.trans (congrArg some (by kernel_rfl))
  f286 := Tryz.func195.trans (congrArg some (by kernel_rfl))
  f287 := Tryz.func189.trans (congrArg some (by kernel_rfl))
  f316 := Tryz.func190.trans (congrArg some (by kernel_rfl))
  f317 := Tryz.func205.trans (congrArg some (by kernel_rfl))
  f318 := Tryz.func206.trans (congrArg some (by kernel_rfl))
  f319 := Tryz.func207.trans (congrArg some (by kernel_rfl))
  f320 := Tryz.func208.trans (congrArg some (by kernel_rfl))
  f321 := Tryz.func203.trans (congrArg some (by kernel_rfl))
  f322 := Tryz.func204.trans (congrArg some (by kernel_rfl))
  f337 := Tryz.func210.trans (congrArg some (by kernel_rfl))
  f338 := Tryz.func211.trans (congrArg some (by kernel_rfl))
  t0 := Tryz.underlying0
  a0 := Tryz.isAgg0
  z0 := Tryz.sizeOf0
  v0 := Tryz.zeroValue0
  t2 := Tryz.underlying2
  a2 := Tryz.isAgg2
  z2 := Tryz.sizeOf2
  v2 := Tryz.zeroValue2
  t3 := Tryz.underlying3
  a3 := Tryz.isAgg3
  z3 := Tryz.sizeOf3
  v3 := Tryz.zeroValue3
  t4 := Tryz.underlying4
  a4 := Tryz.isAgg4
  z4 := Tryz.sizeOf4
  v4 := Tryz.zeroValue4
  t5 := Tryz.underlying5
  a5 := Tryz.isAgg5
  z5 := Tryz.sizeOf5
  v5 := Tryz.zeroValue5
  t9 := Tryz.underlying9
  a9 := Tryz.isAgg9
  z9 := Tryz.sizeOf9
  v9 := Tryz.zeroValue9
  t20 := Tryz.underlying20
  a20 := Tryz.isAgg20
  z20 := Tryz.sizeOf20
  v20 := Tryz.zeroValue20
  t21 := Tryz.underlying21
  a21 := Tryz.isAgg21
  z21 := Tryz.sizeOf21
  v21 := Tryz.zeroValue21
  t37 := Tryz.underlying89
  a37 := Tryz.isAgg89
  z37 := Tryz.sizeOf89
  v37 := Tryz.zeroValue89
  t46 := Tryz.underlying159
  a46 := Tryz.isAgg159
  z46 := Tryz.sizeOf159
  v46 := Tryz.zeroValue159
  t51 := Tryz.underlying198
  a51 := Tryz.isAgg198
  z51 := Tryz.sizeOf198
  v51 := Tryz.zeroValue198
  t53 := Tryz.underlying200
  a53 := Tryz.isAgg200
  z53 := Tryz.sizeOf200
  v53 := Tryz.zeroValue200
  t75 := Tryz.underlying138
  a75 := Tryz.isAgg138
  z75 := Tryz.sizeOf138
  v75 := Tryz.zeroValue138
  t76 := Tryz.underlying139
  a76 := Tryz.isAgg139
  z76 := Tryz.sizeOf139
  v76 := Tryz.zeroValue139
  t85 := Tryz.underlying217
  a85 := Tryz.isAgg217
  z85 := Tryz.sizeOf217
  v85 := Tryz.zeroValue217
  t127 := Tryz.underlying215
  a127 := Tryz.isAgg215
  z127 := Tryz.sizeOf215
  v127 := Tryz.zeroValue215
  t143 := Tryz.underlying259
  a143 := Tryz.isAgg259
  z143 := Tryz.sizeOf259
  v143 := Tryz.zeroValue259
  t145 := Tryz.underlying261
  a145 := Tryz.isAgg261
  z145 := Tryz.sizeOf261
  v145 := Tryz.zeroValue261
  t167 := Tryz.underlying216
  a167 := Tryz.isAgg216
  z167 := Tryz.sizeOf216
  v167 := Tryz.zeroValue216
  t168 := Tryz.underlying219
  a168 := Tryz.isAgg219
  z168 := Tryz.sizeOf219
  v168 := Tryz.zeroValue219
  t171 := Tryz.underlying247
  a171 := Tryz.isAgg247
  z171 := Tryz.sizeOf247
  v171 := Tryz.zeroValue247
  t173 := Tryz.underlying249
  a173 := Tryz.isAgg249
  z173 := Tryz.sizeOf249
  v173 := Tryz.zeroValue249
  t175 := Tryz.underlying241
  a175 := Tryz.isAgg241
  z175 := Tryz.sizeOf241
  v175 := Tryz.zeroValue241
  t210 := Tryz.underlying245
  a210 := Tryz.isAgg245
  z210 := Tryz.sizeOf245
  v210 := Tryz.zeroValue245
  t212 := Tryz.underlying263
  a212 := Tryz.isAgg263
  z212 := Tryz.sizeOf263
  v212 := Tryz.zeroValue263
  t213 := Tryz.underlying264
  a213 := Tryz.isAgg264
  z213 := Tryz.sizeOf264
  t232 := Tryz.underlying266
  a232 := Tryz.isAgg266
  z232 := Tryz.sizeOf266
  v232 := Tryz.zeroValue266
  t233 := Tryz.underlying267
  a233 := Tryz.isAgg267
  z233 := Tryz.sizeOf267
  v233 := Tryz.zeroValue267
  g15 := by kernel_rfl
  g16 := by kernel_rfl
  g17 := by kernel_rfl
  g18 := by kernel_rfl
  g19 := by kernel_rfl
  t80 := Tryz.underlying179
  a80 := Tryz.isAgg179
  z80 := Tryz.sizeOf179
  v80 := Tryz.zeroValue179
  i0 := by kernel_rfl
  i2 := by kernel_rfl
  i3 := by kernel_rfl
  i4 := by kernel_rfl
  i5 := by kernel_rfl
  i9 := by kernel_rfl
  i20 := by kernel_rfl
  i21 := by kernel_rfl
  i37 := by kernel_rfl
  i46 := by kernel_rfl
  i51 := by kernel_rfl
  i53 := by kernel_rfl
  i75 := by kernel_rfl
  i76 := by kernel_rfl
  i80 := by kernel_rfl
  i85 := by kernel_rfl
  i127 := by kernel_rfl
  i143 := by kernel_rfl
  i145 := by kernel_rfl
  i167 := by kernel_rfl
  i168 := by kernel_rfl
  i171 := by kernel_rfl
  i173 := by kernel_rfl
  i175 := by kernel_rfl
  i210 := by kernel_rfl
  i212 := by kernel_rfl
  i232 := by kernel_rfl
  i233 := by kernel_rfl
  m15 := by kernel_rfl
  m16 := by kernel_rfl
  m17 := by kernel_rfl
  m18 := by kernel_rfl
  m19 := by kernel_rfl
  c0 := by kernel_rfl
  c2 := by kernel_rfl
  c3 := by kernel_rfl
  c4 := by kernel_rfl
  c5 := by kernel_rfl
  c9 := by kernel_rfl
  c20 := by kernel_rfl
  c21 := by kernel_rfl
  c37 := by kernel_rfl
  c46 := by kernel_rfl
  c51 := by kernel_rfl
  c53 := by kernel_rfl
  c75 := by kernel_rfl
  c76 := by kernel_rfl
  c80 := by kernel_rfl
  c85 := by kernel_rfl
  c127 := by kernel_rfl
  c143 := by kernel_rfl
  c145 := by kernel_rfl
  c167 := by kernel_rfl
  c168 := by kernel_rfl
  c171 := by kernel_rfl
  c173 := by kernel_rfl
  c175 := by kernel_rfl
  c210 := by kernel_rfl
  c212 := by kernel_rfl
  c213 := by kernel_rfl
  c232 := by kernel_rfl
  c233 := by kernel_rfl }
def Tryz.cutLays_ren : Go.Shelf.Ren := ⟨fun | 145 => 76 | 220 => 108 | 219 => 159 | 217 => 185 | 225 => 186 | 224 => 187 | 267 => 188 | 266 => 201 | 314 => 202 | n => n, fun | 9 => 9 | 4 => 4 | 59 => 135 | 3 => 3 | 5 => 5 | 46 => 159 | 146 => 256 | 51 => 198 | n => n, fun | 1 => 0 | n => n⟩
theorem Tryz.cutLays : Go.Proofs.Lays.n145 Tryz.prog Tryz.cutLays_ren := {
  mixed := by kernel_rfl
  f145 := Tryz.func76.trans (congrArg some (by kernel_rfl))
  f217 := Tryz.func185.trans (congrArg some (by kernel_rfl))
  f219 := Tryz.func159.trans (congrArg some (by kernel_rfl))
  f220 := Tryz.func108.trans (congrArg some (by kernel_rfl))
  f224 := Tryz.func187.trans (congrArg some (by kernel_rfl))
  f225 := Tryz.func186.trans (congrArg some (by kernel_rfl))
  f266 := Tryz.func201.trans (congrArg some (by kernel_rfl))
  f267 := Tryz.func188.trans (congrArg some (by kernel_rfl))
  f314 := Tryz.func202.trans (congrArg some (by kernel_rfl))
  t3 := Tryz.underlying3
  a3 := Tryz.isAgg3
  z3 := Tryz.sizeOf3
  v3 := Tryz.zeroValue3
  t4 := Tryz.underlying4
  a4 := Tryz.isAgg4
  z4 := Tryz.sizeOf4
  v4 := Tryz.zeroValue4
  t5 := Tryz.underlying5
  a5 := Tryz.isAgg5
  z5 := Tryz.sizeOf5
  v5 := Tryz.zeroValue5
  t9 := Tryz.underlying9
  a9 := Tryz.isAgg9
  z9 := Tryz.sizeOf9
  v9 := Tryz.zeroValue9
  t46 := Tryz.underlying159
  a46 := Tryz.isAgg159
  z46 := Tryz.sizeOf159
  v46 := Tryz.zeroValue159
  t51 := Tryz.underlying198
  a51 := Tryz.isAgg198
  z51 := Tryz.sizeOf198
  v51 := Tryz.zeroValue198
  t59 := Tryz.underlying135
  a59 := Tryz.isAgg135
  z59 := Tryz.sizeOf135
  v59 := Tryz.zeroValue135
  t146 := Tryz.underlying256
  a146 := Tryz.isAgg256
  z146 := Tryz.sizeOf256
  v146 := Tryz.zeroValue256
  g1 := by kernel_rfl }
def readIntL (l : List UInt8) : Int × List UInt8 × Bool :=
  bif (Lib.cut (l.take 21) [59]).2.2 then (match Lib.atoiAll (Lib.cut (l.take 21) [59]).1 with
    | .ok n => bif Lib.itoa n == (Lib.cut (l.take 21) [59]).1 then (n, l.drop ((Lib.cut (l.take 21) [59]).1.length + 1), true) else (0, [], false)
    | _ => (0, [], false)) else (0, [], false)

theorem cut59 : ∀ (l : List UInt8), (Lib.cut l [59] = (l, [], false) ∧ 59 ∉ l) ∨ ∃ a b, Lib.cut l [59] = (a, b, true) ∧ l = a ++ 59 :: b ∧ 59 ∉ a
  | [] => .inl (by decide)
  | c :: r => by
    by_cases hc : c = 59
    · subst hc
      exact .inr ⟨[], r, by simp [Lib.cut, Lib.index, List.isPrefixOf], rfl, by simp⟩
    · have hpre : List.isPrefixOf [59] (c :: r) = false := by
        simp [List.isPrefixOf]
        exact fun e => hc e.symm
      rcases cut59 r with ⟨h1, h2⟩ | ⟨a, b, h1, h2, h3⟩
      · refine .inl ⟨?_, by simp; exact ⟨fun e => hc e.symm, h2⟩⟩
        unfold Lib.cut at h1 ⊢
        have h0 : ¬ 0 ≤ Lib.index r [59] := by
          intro h0
          rw [if_pos h0] at h1
          simp at h1
        have h4 := Lib.index_ge r [59]
        have h5 : Lib.index r [59] = -1 := by omega
        simp [Lib.index, hpre, h5]
      · refine .inr ⟨c :: a, b, ?_, by rw [h2]; rfl, by simp; exact ⟨fun e => hc e.symm, h3⟩⟩
        unfold Lib.cut at h1 ⊢
        by_cases h0 : 0 ≤ Lib.index r [59]
        · rw [if_pos h0] at h1
          simp only [Prod.mk.injEq, and_true] at h1
          obtain ⟨q1, q2⟩ := h1
          have h5 : ¬ Lib.index r [59] = -1 := by omega
          have e1 : Lib.index (c :: r) [59] = Lib.index r [59] + 1 := by simp [Lib.index, hpre, h5]
          have e2 : (Lib.index r [59] + 1).toNat = (Lib.index r [59]).toNat + 1 := by omega
          rw [e1, if_pos (by omega), e2]
          simp only [List.take_succ_cons, Prod.mk.injEq, and_true]
          refine ⟨by rw [q1], ?_⟩
          simp only [List.length_cons, List.length_nil, Nat.zero_add] at q2 ⊢
          rw [← q2, List.drop_succ_cons]
        · rw [if_neg h0] at h1
          simp at h1
theorem ext0 (s : ByteArray) (a : Nat) : (s.extract 0 a).data.toList = s.data.toList.take a := by
  rw [Lib.extract_data]
  simp only [List.drop_zero, Nat.sub_zero]
theorem ext_take (s : ByteArray) : (s.extract 0 (min (s.size : Int) 21).toNat).data.toList = s.data.toList.take 21 := by
  have e : (min (s.size : Int) 21).toNat = min s.size 21 := by omega
  rw [e]
  have h := ext0 s (min s.size 21)
  rw [h]
  have hl : s.data.toList.length = s.size := (Lib.size_eq s).symm
  rcases Nat.le_total s.size 21 with h | h
  · rw [Nat.min_eq_left h, List.take_of_length_le (by omega), List.take_of_length_le (by omega)]
  · rw [Nat.min_eq_right h]
theorem ext_drop (s : ByteArray) (n : Nat) : s.extract n s.size = ⟨(s.data.toList.drop n).toArray⟩ := by
  have h := Lib.extract_to_end s n
  apply ByteArray.ext
  apply Array.ext'
  exact h
theorem cut_c (s : ByteArray) (hd tl : List UInt8) (f : Bool) (hc : Lib.cut (s.data.toList.take 21) [59] = (hd, tl, f)) (m : Int) (w : World) (hm : w.cell? ⟨0, 0, none⟩ = some (.int .i64 m)) :
    Calls Tryz.prog 76 #[.string (s.extract 0 (min (s.size : Int) 21).toNat), .string ⟨#[59]⟩] w fun e w' => e = .returned (.tuple #[.string ⟨hd.toArray⟩, .string ⟨tl.toArray⟩, .bool f]) ∧ ∃ n, w' = w.drewN n := by
  refine (Any.strings_Cut Tryz.cutLays _ ⟨#[59]⟩ m w ?_ hm).mono ?_
  · have h1 := congrArg List.length (ext_take s)
    simp only [Array.length_toList, List.length_take] at h1
    show (s.extract 0 (min (s.size : Int) 21).toNat).data.size < _
    omega
  · rintro e w' ⟨rfl, h⟩
    have e59 : (⟨#[59]⟩ : ByteArray).data.toList = [59] := rfl
    rw [ext_take, e59, hc]
    exact ⟨rfl, h⟩
theorem atoi_c (l : List UInt8) (hl : l.length ≤ 1000) (w : World) (ev1 ev2 : Value) (hv1 : w.cell? ⟨1, 0, none⟩ = some ev1) (he1 : ev1 = .nilIface ∨ ∃ te pe, ev1 = .iface te pe) (hv2 : w.cell? ⟨2, 0, none⟩ = some ev2) (he2 : ev2 = .nilIface ∨ ∃ te pe, ev2 = .iface te pe) :
    Calls Tryz.prog 77 #[.string ⟨l.toArray⟩] w fun e w' => (match Lib.atoiAll l with | .ok v => e = .returned (.tuple #[.int .i64 v, .nilIface]) | _ => ∃ v t p, e = .returned (.tuple #[.int .i64 v, .iface t p])) ∧ Below w.heap.size w w' := by
  have hs : (⟨l.toArray⟩ : ByteArray).size = l.length := by simp [ByteArray.size]
  have hd : (⟨l.toArray⟩ : ByteArray).data.toList = l := by simp
  cases h : Lib.atoiAll l
  · rename_i v
    refine (Any.strconv_Atoi_ok Tryz.atoiLays ⟨l.toArray⟩ (by omega) v (by rw [hd]; exact h) w).mono ?_
    rintro e w' ⟨rfl, hw⟩
    refine ⟨rfl, ?_⟩
    rcases hw with rfl | ⟨t, rfl⟩
    · exact Below.refl _ _
    · exact Lib.bytesWorld_below _ _ _
  · skip
    refine (Any.strconv_Atoi_syntax Tryz.atoiLays ⟨l.toArray⟩ (by omega) (by rw [hd]; exact h) ev1 w hv1 he1).mono ?_
    rintro e w' ⟨N, rfl, -, -, hb⟩
    exact ⟨⟨_, _, _, rfl⟩, hb⟩
  · skip
    refine (Any.strconv_Atoi_range Tryz.atoiLays ⟨l.toArray⟩ (by omega) (by rw [hd]; exact h) ev2 w hv2 he2).mono ?_
    rintro e w' ⟨N, rfl, -, -, hb⟩
    exact ⟨⟨_, _, _, rfl⟩, hb⟩
set_option maxHeartbeats 2000000 in
theorem readInt_c (s : ByteArray) (w : World) (m : Int) (ev1 ev2 : Value) (hs : s.size ≤ 1000000) (h3 : 3 < w.heap.size) (hm : w.cell? ⟨0, 0, none⟩ = some (.int .i64 m)) (hv1 : w.cell? ⟨1, 0, none⟩ = some ev1) (he1 : ev1 = .nilIface ∨ ∃ te pe, ev1 = .iface te pe) (hv2 : w.cell? ⟨2, 0, none⟩ = some ev2) (he2 : ev2 = .nilIface ∨ ∃ te pe, ev2 = .iface te pe) (htab : Lib.TabIs Tryz.prog w "internal/strconv.uint64pow10" .u64 Lib.pow10Tab) :
    Calls Tryz.prog 45 #[.string s] w fun e w' => e = .returned (.tuple #[.int .i64 (readIntL s.data.toList).1, .string ⟨(readIntL s.data.toList).2.1.toArray⟩, .bool (readIntL s.data.toList).2.2]) ∧ Below w.heap.size w w' := by
  have hbn : ∀ n, Below w.heap.size w (w.drewN n) := fun n => ⟨rfl, rfl, rfl, Nat.le_refl _, fun _ _ => rfl⟩
  rcases cut59 (s.data.toList.take 21) with ⟨hc, -⟩ | ⟨hd, tl, hc, hst, h59⟩
  · have er : readIntL s.data.toList = (0, [], false) := by simp [readIntL, hc]
    rw [er]
    have hcut := cut_c s _ _ _ hc m w hm
    clear hc
    go_enter Tryz.func45, Tryz.ntmps45
    go_wp2_with (go_at_call 76; refine hcut.mono ?_; rintro e w1 ⟨rfl, n, rfl⟩)
    go_wp2
    go_ret3
    exact ⟨rfl, hbn n⟩
  · have hs21 : hd.length + 1 ≤ s.size := by
      have h1 := congrArg List.length hst
      simp only [List.length_take, List.length_append, List.length_cons, Array.length_toList] at h1
      have : s.data.size = s.size := rfl
      omega
    have hdl : hd.length ≤ 21 := by
      have h1 := congrArg List.length hst
      simp only [List.length_take, List.length_append, List.length_cons] at h1
      omega
    have hcut := cut_c s _ _ _ hc m w hm
    have hat := fun w' (hb : Below w.heap.size w w') => atoi_c hd (by omega) w' ev1 ev2 (by rw [hb.cell (show (⟨1, 0, none⟩ : Addr).block < w.heap.size by show 1 < _; omega)]; exact hv1) he1 (by rw [hb.cell (show (⟨2, 0, none⟩ : Addr).block < w.heap.size by show 2 < _; omega)]; exact hv2) he2
    cases ha : Lib.atoiAll hd
    · rename_i v
      have hvb := Lib.atoiAll_bounds ha
      rw [ha] at hat
      go_enter Tryz.func45, Tryz.ntmps45
      go_wp2_with (go_at_call 76; refine hcut.mono ?_; rintro e w1 ⟨rfl, n, rfl⟩)
      have hat1 := hat (w.drewN n) (hbn n)
      clear hat
      go_wp2_with (go_at_call 77; refine hat1.mono ?_; rintro e w2 ⟨rfl, hb2⟩)
      have hb3 := (hbn n).trans hb2
      have ht3 := tab_below hb3 h3 htab
      clear hat1 hb2
      go_wp2_with (go_at_call 78; refine (itoa_c v hvb.1 hvb.2 _ ht3).mono ?_; rintro e w3 ⟨rfl, k, os, rfl⟩)
      · have hi : (Lib.itoa v == hd) = false := by
          have : (!Lib.itoa v == hd) = true := by assumption
          simpa using this
        have er : readIntL s.data.toList = (0, [], false) := by simp [readIntL, hc, ha, hi]
        have hb4 := below_grown hb3 hb3.size k os
        go_ret3
        rw [er]
        exact ⟨rfl, hb4⟩
      · have hi : (Lib.itoa v == hd) = true := by
          have : (!Lib.itoa v == hd) = false := by assumption
          simpa using this
        have er : readIntL s.data.toList = (v, s.data.toList.drop (hd.length + 1), true) := by simp [readIntL, hc, ha, hi]
        have c1 : (0 : Int) ≤ ↑hd.length + 1 := by omega
        have c2 : (↑hd.length + 1 : Int) ≤ ↑s.size := by omega
        have c3 : ((hd.length : Int) + 1).toNat = hd.length + 1 := by omega
        have hb4 := below_grown hb3 hb3.size k os
        go_region
        go_wp2
        go_ret3
        rw [er, ext_drop]
        exact ⟨rfl, hb4.trans ⟨rfl, rfl, rfl, Nat.le_refl _, fun _ _ => rfl⟩⟩
    · skip
      rw [ha] at hat
      have er : readIntL s.data.toList = (0, [], false) := by simp [readIntL, hc, ha]
      rw [er]
      go_enter Tryz.func45, Tryz.ntmps45
      go_wp2_with (go_at_call 76; refine hcut.mono ?_; rintro e w1 ⟨rfl, n, rfl⟩)
      have hat1 := hat (w.drewN n) (hbn n)
      clear hat
      go_wp2_with (go_at_call 77; refine hat1.mono ?_; rintro e w2 ⟨⟨v, t, p, rfl⟩, hb2⟩)
      have hb3 := (hbn n).trans hb2
      clear hat1 hb2
      go_wp2
      go_ret3
      exact ⟨rfl, hb3⟩
    · skip
      rw [ha] at hat
      have er : readIntL s.data.toList = (0, [], false) := by simp [readIntL, hc, ha]
      rw [er]
      go_enter Tryz.func45, Tryz.ntmps45
      go_wp2_with (go_at_call 76; refine hcut.mono ?_; rintro e w1 ⟨rfl, n, rfl⟩)
      have hat1 := hat (w.drewN n) (hbn n)
      clear hat
      go_wp2_with (go_at_call 77; refine hat1.mono ?_; rintro e w2 ⟨⟨v, t, p, rfl⟩, hb2⟩)
      have hb3 := (hbn n).trans hb2
      clear hat1 hb2
      go_wp2
      go_ret3
      exact ⟨rfl, hb3⟩
/-- one number and the rest -/
def wire_ReadInt (s : ByteArray) : Int × ByteArray × Bool := ((readIntL s.data.toList).1, ⟨(readIntL s.data.toList).2.1.toArray⟩, (readIntL s.data.toList).2.2)
theorem wire_ReadInt_fn (s : ByteArray) (h : s.size ≤ 1000000) : FnA Tryz.prog 45 [sv s] [] (.tup [iv (wire_ReadInt s).1, sv (wire_ReadInt s).2.1, bv (wire_ReadInt s).2.2]) [] := by
  refine FnA.pure (by kernel_rfl) (fun w S μ vs hS hg hr => ?_)
  obtain ⟨v, rfl⟩ : ∃ v, vs = #[v] := by
    have := (hr fun _ => false).1
    match vs, this with
    | ⟨[v]⟩, _ => exact ⟨v, rfl⟩
  obtain ⟨h3, ht⟩ := tab_glob hg hS
  have hv : Rel w S μ (fun _ => false) (sv s) v := by simpa using (hr fun _ => false).2 0 (by simp)
  have hv' : v = .string s := rel_scalar rfl hv
  subst hv'
  obtain ⟨-, o0, g0, g0'⟩ := hg.1 (0, isI64) (by simp [Globs.op])
  obtain ⟨-, o1, g1, g1'⟩ := hg.1 (1, isIfc) (by simp [Globs.op])
  obtain ⟨-, o2, g2, g2'⟩ := hg.1 (2, isIfc) (by simp [Globs.op])
  obtain ⟨m, hm⟩ := isI64_cell g0 g0'
  obtain ⟨e1, he1, he1'⟩ := isIfc_cell g1 g1'
  obtain ⟨e2, he2, he2'⟩ := isIfc_cell g2 g2'
  refine ⟨.tuple #[.int .i64 (wire_ReadInt s).1, .string (wire_ReadInt s).2.1, .bool (wire_ReadInt s).2.2], (readInt_c s w m e1 e2 h h3 hm he1 he1' he2 he2' ht).mono ?_, fun _ _ _ _ => .tup rfl (fun i hi => ?_)⟩
  · rintro e w' ⟨rfl, hb⟩
    exact ⟨rfl, hb⟩
  · have : i = 0 ∨ i = 1 ∨ i = 2 := by simp at hi; omega
    rcases this with rfl | rfl | rfl <;> exact rel_v rfl
noncomputable def wire_ReadInt_k (s : ByteArray) : Ctr (Int × ByteArray × Bool) := ⟨Tryz.prog, 45, [sv s], fun x => .tup [iv x.1, sv x.2.1, bv x.2.2], true, wire_ReadInt s, s.size ≤ 1000000, fun h => wire_ReadInt_fn s h, fun _ => True, trivial⟩
end Go.Proofs.YtihmmpaalpghbaaGreatDoor

