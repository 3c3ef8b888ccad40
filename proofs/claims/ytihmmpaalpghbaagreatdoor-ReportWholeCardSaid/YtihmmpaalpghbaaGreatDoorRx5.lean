/- Functions, as sketches. -/
import Derived.Test.YtihmmpaalpghbaaGreatDoorRx4
namespace Go.Proofs.YtihmmpaalpghbaaGreatDoor
open Go Go.Av
set_option linter.unusedSimpArgs false
set_option linter.unusedVariables false
set_option maxHeartbeats 1000000
set_option maxRecDepth 100000
theorem dig_nat (d : Nat) (hd : d < 10) : (UInt8.ofNat (48 + d)).toNat = 48 + d := by
  have : d = 0 ∨ d = 1 ∨ d = 2 ∨ d = 3 ∨ d = 4 ∨ d = 5 ∨ d = 6 ∨ d = 7 ∨ d = 8 ∨ d = 9 := by omega
  rcases this with rfl | rfl | rfl | rfl | rfl | rfl | rfl | rfl | rfl | rfl <;> rfl
theorem parse_one (d : Nat) (hd : d < 10) (acc : Nat) (hu : acc * 10 + d < 18446744073709551616) : Lib.parseUint10 acc [UInt8.ofNat (48 + d)] = .ok (acc * 10 + d) := by
  have e := dig_nat d hd
  simp only [Lib.parseUint10, e]
  have e2 : 48 + d - 48 = d := by omega
  rw [if_pos ⟨by omega, by omega⟩, if_neg (by omega), e2, if_neg (by omega)]
/-- the digits of a number, read -/
theorem parse_snoc (d : Nat) (hd : d < 10) : ∀ (l : List UInt8) (acc u : Nat), Lib.parseUint10 acc l = .ok u → u * 10 + d < 18446744073709551616 → Lib.parseUint10 acc (l ++ [UInt8.ofNat (48 + d)]) = .ok (u * 10 + d)
  | [], acc, u, h, hu => by
    simp only [Lib.parseUint10, Lib.NumEnd.ok.injEq] at h
    subst h
    exact parse_one d hd acc hu
  | c :: r, acc, u, h, hu => by
    simp only [Lib.parseUint10] at h
    rw [List.cons_append]
    simp only [Lib.parseUint10]
    split at h
    · rename_i h1
      rw [if_pos h1]
      split at h
      · cases h
      · rename_i h2
        rw [if_neg h2]
        split at h
        · cases h
        · rename_i h3
          rw [if_neg h3]
          exact parse_snoc d hd r _ u h hu
    · cases h
theorem parse_dec : ∀ (n u : Nat), u ≤ n → u < 18446744073709551616 → Lib.parseUint10 0 (Lib.decDigits u) = .ok u
  | n, u, hn, hu => by
    rw [Lib.decDigits]
    by_cases h : u < 10
    · rw [dif_pos h]
      have := parse_one u h 0 (by omega)
      simpa using this
    · rw [dif_neg h]
      match n with
      | 0 => omega
      | n + 1 =>
        have ih := parse_dec n (u / 10) (by omega) (by omega)
        have := parse_snoc (u % 10) (by omega) _ 0 (u / 10) ih (by omega)
        rw [this]
        congr 1
        omega
theorem dec_digits : ∀ (n u : Nat), u ≤ n → Lib.decDigits u ≠ [] ∧ ∀ c, c ∈ Lib.decDigits u → 48 ≤ c.toNat ∧ c.toNat ≤ 57
  | n, u, hn => by
    rw [Lib.decDigits]
    by_cases h : u < 10
    · rw [dif_pos h]
      refine ⟨by simp, fun c hc => ?_⟩
      simp only [List.mem_singleton] at hc
      rw [hc, dig_nat u h]
      omega
    · rw [dif_neg h]
      match n with
      | 0 => omega
      | n + 1 =>
        have ih := dec_digits n (u / 10) (by omega)
        refine ⟨by simp, fun c hc => ?_⟩
        rcases List.mem_append.1 hc with hc | hc
        · exact ih.2 c hc
        · simp only [List.mem_singleton] at hc
          rw [hc, dig_nat _ (by omega)]
          omega
theorem dec_ne (u : Nat) : Lib.decDigits u ≠ [] := (dec_digits u u (Nat.le_refl _)).1
theorem itoa_no59 (n : Int) : (59 : UInt8) ∉ Lib.itoa n := by
  have h : ∀ u, (59 : UInt8) ∉ Lib.decDigits u := fun u hm => by
    have := (dec_digits u u (Nat.le_refl _)).2 _ hm
    simp at this
  unfold Lib.itoa
  split
  · intro hm
    rcases List.mem_cons.1 hm with hm | hm
    · cases hm
    · exact h _ hm
  · exact h _
theorem itoa_ne (n : Int) : Lib.itoa n ≠ [] := by
  unfold Lib.itoa
  split
  · simp
  · exact dec_ne _
theorem atoi_itoa (n : Int) (h : in64w n) : Lib.atoiAll (Lib.itoa n) = .ok n := by
  unfold in64w at h
  unfold Lib.itoa
  split
  · rename_i hn
    have hp : Lib.parseMag (Lib.decDigits n.natAbs) = .ok n.natAbs := by
      unfold Lib.parseMag
      rw [if_neg (dec_ne _)]
      exact parse_dec _ _ (Nat.le_refl _) (by omega)
    unfold Lib.atoiAll
    have h45 : (45 : UInt8).toNat = 45 := rfl
    simp only [h45, or_true, if_true, hp, not_true, false_and, if_false, true_and]
    rw [if_neg (by omega)]
    congr 1
    omega
  · rename_i hn
    have hp : Lib.parseMag (Lib.decDigits n.toNat) = .ok n.toNat := by
      unfold Lib.parseMag
      rw [if_neg (dec_ne _)]
      exact parse_dec _ _ (Nat.le_refl _) (by omega)
    have hd := dec_digits n.toNat n.toNat (Nat.le_refl _)
    generalize Lib.decDigits n.toNat = l at hp hd
    cases l with
    | nil => exact absurd rfl hd.1
    | cons c r =>
      have hc := hd.2 c List.mem_cons_self
      unfold Lib.atoiAll
      have c1 : ¬ (c.toNat = 43 ∨ c.toNat = 45) := by omega
      have c2 : ¬ c.toNat = 45 := by omega
      have c3 : ¬ 9223372036854775808 ≤ n.toNat := by omega
      have c4 : ¬ c.toNat = 43 := by omega
      simp only [c4, or_self, hp, c2, c3, not_false_eq_true, true_and, false_and, if_false]
      exact congrArg Lib.NumEnd.ok (by omega)
/-- what is found behind a text without the mark -/
theorem cut_app (a b : List UInt8) (h : (59 : UInt8) ∉ a) : Lib.cut (a ++ 59 :: b) [59] = (a, b, true) := by
  rcases cut59 (a ++ 59 :: b) with ⟨-, h1⟩ | ⟨a', b', h1, h2, h3⟩
  · exact absurd (by simp) h1
  · rw [h1]
    have key : ∀ (a a' : List UInt8), (59 : UInt8) ∉ a → (59 : UInt8) ∉ a' → a ++ 59 :: b = a' ++ 59 :: b' → a = a' ∧ b = b' := by
      intro a
      induction a with
      | nil =>
        intro a' _ h' e
        cases a' with
        | nil => simp at e; exact ⟨rfl, e⟩
        | cons c r => simp at e; exact absurd (by rw [← e.1]; simp) h'
      | cons c r ih =>
        intro a' h0 h' e
        cases a' with
        | nil => simp at e; exact absurd (by rw [e.1]; simp) h0
        | cons c' r' =>
          simp only [List.cons_append, List.cons.injEq] at e
          obtain ⟨e1, e2⟩ := ih r' (fun hm => h0 (List.mem_cons_of_mem _ hm)) (fun hm => h' (List.mem_cons_of_mem _ hm)) e.2
          exact ⟨by rw [e.1, e1], e2⟩
    obtain ⟨e1, e2⟩ := key a a' h h3 h2
    rw [e1, e2]
/-- a number that was written is read -/
theorem readIntL_of (n : Int) (h : in64w n) (t : List UInt8) : readIntL (intL n ++ t) = (n, t, true) := by
  have hlen := itoa_len n h.1 h.2
  have e : intL n ++ t = Lib.itoa n ++ 59 :: t := by simp [intL]
  have ht : (Lib.itoa n ++ 59 :: t).take 21 = Lib.itoa n ++ 59 :: t.take (20 - (Lib.itoa n).length) := by
    rw [List.take_append, List.take_of_length_le (by omega)]
    congr 1
    rw [show 21 - (Lib.itoa n).length = (20 - (Lib.itoa n).length) + 1 by omega, List.take_succ_cons]
  rw [e]
  unfold readIntL
  rw [ht, cut_app _ _ (itoa_no59 n)]
  simp only [atoi_itoa n h, beq_self_eq_true, cond_true]
  refine Prod.ext rfl (Prod.ext ?_ rfl)
  show (Lib.itoa n ++ 59 :: t).drop ((Lib.itoa n).length + 1) = t
  rw [List.drop_append]
  simp
/-- what is read was written -/
theorem readIntL_ok {l t : List UInt8} {n : Int} (h : readIntL l = (n, t, true)) : l = intL n ++ t ∧ in64w n := by
  unfold readIntL at h
  rcases cut59 (l.take 21) with ⟨hc, -⟩ | ⟨hd, tl, hc, hst, h59⟩
  · rw [hc] at h
    simp at h
  · rw [hc] at h
    simp only [cond_true] at h
    cases ha : Lib.atoiAll hd
    · rename_i v
      rw [ha] at h
      simp only at h
      cases hi : (Lib.itoa v == hd) with
      | false => rw [hi] at h; simp at h
      | true =>
        rw [hi] at h
        simp only [cond_true, Prod.mk.injEq, and_true] at h
        obtain ⟨rfl, rfl⟩ := h
        have hb := Lib.atoiAll_bounds ha
        have hi : Lib.itoa v = hd := by simpa using hi
        refine ⟨?_, hb⟩
        have e1 : l = l.take 21 ++ l.drop 21 := (List.take_append_drop 21 l).symm
        rw [hst] at e1
        have e2 : l = hd ++ 59 :: (tl ++ l.drop 21) := by simpa using e1
        rw [e2]
        simp only [intL, hi, List.append_assoc]
        congr 1
        rw [List.drop_append]
        simp
    · rw [ha] at h; simp at h
    · rw [ha] at h; simp at h
theorem intL_inj {n m : Int} (hn : in64w n) (hm : in64w m) {t u : List UInt8} (h : intL n ++ t = intL m ++ u) : n = m ∧ t = u := by
  have h1 := readIntL_of n hn t
  rw [h, readIntL_of m hm u] at h1
  simp only [Prod.mk.injEq, and_true] at h1
  exact ⟨h1.1.symm, h1.2.symm⟩
/-- lists of as many numbers that were written alike are the same -/
theorem flat_inj : ∀ (a b : List Int) (t u : List UInt8), a.length = b.length → (∀ n ∈ a, in64w n) → (∀ n ∈ b, in64w n) → a.flatMap intL ++ t = b.flatMap intL ++ u → a = b ∧ t = u
  | [], [], t, u, _, _, _, h => ⟨rfl, by simpa using h⟩
  | [], _ :: _, _, _, h, _, _, _ => by simp at h
  | _ :: _, [], _, _, h, _, _, _ => by simp at h
  | n :: a, m :: b, t, u, hl, ha, hb, h => by
    simp only [List.flatMap_cons, List.append_assoc] at h
    obtain ⟨e1, e2⟩ := intL_inj (ha n List.mem_cons_self) (hb m List.mem_cons_self) h
    obtain ⟨e3, e4⟩ := flat_inj a b t u (by simpa using hl) (fun n hn => ha n (List.mem_cons_of_mem _ hn)) (fun n hn => hb n (List.mem_cons_of_mem _ hn)) e2
    exact ⟨by rw [e1, e3], e4⟩
theorem intsL_inj {a b : List Int} {t u : List UInt8} (la : a.length ≤ 1000000) (lb : b.length ≤ 1000000) (ha : ∀ n ∈ a, in64w n) (hb : ∀ n ∈ b, in64w n) (h : intsL a ++ t = intsL b ++ u) : a = b ∧ t = u := by
  simp only [intsL, List.append_assoc] at h
  obtain ⟨e1, e2⟩ := intL_inj (n := a.length) (m := b.length) ⟨by omega, by omega⟩ ⟨by omega, by omega⟩ h
  exact flat_inj a b t u (by omega) ha hb e2
theorem intL_two (n : Int) : 2 ≤ (intL n).length := by
  have := List.length_pos_iff.2 (itoa_ne n)
  simp only [intL, List.length_append, List.length_singleton]
  omega
theorem flat_len : ∀ (a : List Int), 2 * a.length ≤ (a.flatMap intL).length
  | [] => by simp
  | n :: a => by
    have h1 := intL_two n
    have h2 := flat_len a
    simp only [List.flatMap_cons, List.length_append, List.length_cons]
    omega
/-- the numbers read so far, and what is left -/
def RdI (x1 : Int × ByteArray × Bool) (r : ByteArray) (l : List Int) (i : Int) : Prop :=
  0 ≤ i ∧ i = (l.length : Int) ∧ i ≤ x1.1 ∧ x1.2.1.data.toList = l.flatMap intL ++ r.data.toList ∧ (∀ n ∈ l, in64w n)
def RdE (x1 : Int × ByteArray × Bool) (r : ByteArray) (l : List Int) : Prop :=
  (l.length : Int) = x1.1 ∧ x1.2.1.data.toList = l.flatMap intL ++ r.data.toList ∧ (∀ n ∈ l, in64w n)
/-- what reading a list of numbers answers -/
def RdP (t : List UInt8) (x : List Int × ByteArray × Bool) : Prop :=
  (x.2.2 = true → t = intsL x.1 ++ x.2.1.data.toList ∧ x.1.length ≤ 1000000 ∧ ∀ n ∈ x.1, in64w n) ∧
  ∀ (l : List Int) (r : List UInt8), l.length ≤ 1000000 → (∀ n ∈ l, in64w n) → t = intsL l ++ r → x.2.2 = true
theorem RdP.eq {t : List UInt8} {x : List Int × ByteArray × Bool} (h : RdP t x) {l : List Int} {r : List UInt8} (hl : l.length ≤ 1000000) (hi : ∀ n ∈ l, in64w n) (ht : t = intsL l ++ r) : x = (l, ⟨r.toArray⟩, true) := by
  have h1 := h.2 l r hl hi ht
  obtain ⟨e, e1, e2⟩ := h.1 h1
  rw [ht] at e
  obtain ⟨q1, q2⟩ := intsL_inj hl e1 hi e2 e
  obtain ⟨x1, x2, x3⟩ := x
  simp only at h1 q1 q2
  rw [q1, h1]
  congr 2
  apply ByteArray.ext
  apply Array.ext'
  simpa using q2.symm
theorem readInt_yes {s : ByteArray} (h : (wire_ReadInt s).2.2 = true) : s.data.toList = intL (wire_ReadInt s).1 ++ (wire_ReadInt s).2.1.data.toList ∧ in64w (wire_ReadInt s).1 := by
  have h0 : (readIntL s.data.toList).2.2 = true := h
  have := readIntL_ok (l := s.data.toList) (n := (readIntL s.data.toList).1) (t := (readIntL s.data.toList).2.1) (by rw [← h0])
  simpa [wire_ReadInt] using this
theorem readInt_of {s : ByteArray} {n : Int} (hn : in64w n) {t : List UInt8} (h : s.data.toList = intL n ++ t) : wire_ReadInt s = (n, ⟨t.toArray⟩, true) := by
  unfold wire_ReadInt
  rw [h, readIntL_of n hn t]
theorem RdI.size {s : ByteArray} {x1 : Int × ByteArray × Bool} {r : ByteArray} {l : List Int} {i : Int} (hs : s.size ≤ 1000000) (h1 : x1 = wire_ReadInt s) (hx : x1.2.2 = true) (h : RdI x1 r l i) : r.size ≤ 1000000 ∧ l.length ≤ 1000000 := by
  have h2 := (readInt_yes (s := s) (h1 ▸ hx)).1
  rw [← h1, h.2.2.2.1] at h2
  have h3 := congrArg List.length h2
  have h4 := flat_len l
  have e1 : s.data.toList.length = s.size := (Lib.size_eq s).symm
  have e2 : r.data.toList.length = r.size := (Lib.size_eq r).symm
  simp only [List.length_append] at h3
  omega
theorem RdI.next {s : ByteArray} {x1 x4 : Int × ByteArray × Bool} {r : ByteArray} {l : List Int} {i : Int} (hs : s.size ≤ 1000000) (h1 : x1 = wire_ReadInt s) (hx : x1.2.2 = true) (h : RdI x1 r l i) (hi : i < x1.1) (h4 : x4 = wire_ReadInt r) (hy : x4.2.2 = true) : RdI x1 x4.2.1 (l ++ [x4.1]) (w64 (i + 1)) ∧ (x1.1 - w64 (i + 1)).toNat < (x1.1 - i).toNat := by
  have hz := h.size hs h1 hx
  obtain ⟨a1, a2, a3, a4, a5⟩ := h
  have hw : w64 (i + 1) = i + 1 := w64_id (by omega) (by omega)
  obtain ⟨b1, b2⟩ := readInt_yes (s := r) (h4 ▸ hy)
  rw [hw]
  refine ⟨⟨by omega, by simp; omega, by omega, ?_, fun n hn => ?_⟩, by omega⟩
  · rw [a4, b1, ← h4]
    simp
  · rcases List.mem_append.1 hn with hn | hn
    · exact a5 n hn
    · simp only [List.mem_singleton] at hn
      rw [hn, h4]
      exact b2
/-- what was written ends no reading early -/
theorem RdI.goes {s : ByteArray} {x1 : Int × ByteArray × Bool} {r : ByteArray} {l : List Int} {i : Int} (h1 : x1 = wire_ReadInt s) (hx : x1.2.2 = true) (h : RdI x1 r l i) (hi : i < x1.1) {m : List Int} {t : List UInt8} (hm : m.length ≤ 1000000) (h6 : ∀ n ∈ m, in64w n) (ht : s.data.toList = intsL m ++ t) : (wire_ReadInt r).2.2 = true := by
  obtain ⟨a1, a2, a3, a4, a5⟩ := h
  have e0 := readInt_of (s := s) (n := m.length) ⟨by omega, by omega⟩ (t := m.flatMap intL ++ t) (by rw [ht, intsL, List.append_assoc])
  rw [← h1] at e0
  have e1 : x1.1 = (m.length : Int) := by rw [e0]
  have e2 : x1.2.1.data.toList = m.flatMap intL ++ t := by rw [e0]
  rw [a4] at e2
  have hlm : l.length < m.length := by omega
  have e3 : m.flatMap intL = (m.take l.length).flatMap intL ++ (m.drop l.length).flatMap intL := by
    rw [← List.flatMap_append, List.take_append_drop]
  rw [e3, List.append_assoc] at e2
  obtain ⟨-, e4⟩ := flat_inj l (m.take l.length) _ _ (by simp; omega) a5 (fun n hn => h6 n (List.mem_of_mem_take hn)) e2
  have e5 : m.drop l.length = m[l.length] :: m.drop (l.length + 1) := List.drop_eq_getElem_cons hlm
  rw [e5, List.flatMap_cons, List.append_assoc] at e4
  rw [readInt_of (h6 _ (List.getElem_mem hlm)) e4]
/-- and begins with how many there are -/
theorem RdP.head {s : ByteArray} {x1 : Int × ByteArray × Bool} (h1 : x1 = wire_ReadInt s) {m : List Int} {t : List UInt8} (hs : s.size ≤ 1000000) (hm : m.length ≤ 1000000) (ht : s.data.toList = intsL m ++ t) : ((!x1.2.2 || decide (x1.1 < 0)) || decide (x1.1 > w64 (((x1.2.1.size : Nat) : Int).tdiv 2))) = false := by
  have e0 := readInt_of (s := s) (n := m.length) ⟨by omega, by omega⟩ (t := m.flatMap intL ++ t) (by rw [ht, intsL, List.append_assoc])
  rw [← h1] at e0
  have h2 := flat_len m
  have e1 : s.data.toList.length = s.size := (Lib.size_eq s).symm
  have h3 := congrArg List.length ht
  simp only [intsL, List.length_append] at h3
  have hsz : x1.2.1.size = (m.flatMap intL).length + t.length := by rw [e0]; simp [ByteArray.size]
  have hd : (((x1.2.1.size : Nat) : Int).tdiv 2) = ((x1.2.1.size / 2 : Nat) : Int) := rfl
  have hw : w64 (((x1.2.1.size : Nat) : Int).tdiv 2) = ((x1.2.1.size / 2 : Nat) : Int) := by rw [hd]; exact w64_id (by omega) (by omega)
  have c1 : x1.2.2 = true := by rw [e0]
  have c2 : x1.1 = (m.length : Int) := by rw [e0]
  rw [hw, c1, c2]
  simp only [Bool.not_true, Bool.false_or, Bool.or_eq_false_iff, decide_eq_false_iff_not]
  omega

noncomputable def wire_read_45_sk (s : ByteArray) : Sk ((List Int) × ByteArray × Bool) :=
 .r 1 ((wire_ReadInt_k s).c) fun x1 =>
 .r 2 (.wh ((!x1.2.2) || (decide (x1.1 < 0))) false (.p ((2 : Int) ≠ 0))) fun _ =>
 .br (((!x1.2.2) || (decide (x1.1 < 0))) || (decide (x1.1 > (w64 (((x1.2.1.size : Nat) : Int).tdiv 2)))))
 (.fin ([], (⟨#[]⟩ : ByteArray), false))
 (.r 4 (.andl (.o [.nrm (mk0C intE [dI 0])]) (.p (mkP x1.1 8))) fun _ =>
 .bind true (fun b2 => RdE x1 b2.1 b2.2)
 (.loop (default : Sum ((List Int) × ByteArray × Bool) (ByteArray × (List Int))) (fun i3 => RdI x1 i3.1 i3.2.1 i3.2.2) (fun i3 => (x1.1 - i3.2.2).toNat) ((x1.2.1, ([] : List Int), 0) : ByteArray × (List Int) × Int)
 (fun (i3 : ByteArray × (List Int) × Int) => ⟨[(8, sv i3.1), (10, ow 100002 i3.2.1), (36, iv i3.2.2)], [(100002, rowB 3 1 intC i3.2.1)]⟩) fun i3 =>
 .br (decide (i3.2.2 < x1.1))
 (.r 7 ((wire_ReadInt_k i3.1).c) fun x4 =>
 .br (!x4.2.2)
 (.fin (.inl (.inl ([], (⟨#[]⟩ : ByteArray), false))))
 (.r 10 (.andl (.o [.nrm (litC intE [x4.1])]) (.andl (.o [.nrm (catC intE i3.2.1 [x4.1])]) (.andl (.t (intE.ones [x4.1])) (.p (szP i3.2.1.length [x4.1].length 8))))) fun _ =>
 .fin (.inr (x4.2.1, i3.2.1 ++ [x4.1], w64 (i3.2.2 + 1)))))
 (.fin (.inl (.inr (i3.1, i3.2.1)))))
 (fun (b2 : ByteArray × (List Int)) => ⟨[(8, sv b2.1), (10, ow 100001 b2.2)], [(100001, rowB 3 1 intC b2.2)]⟩) fun b2 =>
 .fin (b2.2, b2.1, true))
noncomputable def wire_read_45 s := (wire_read_45_sk s).val
theorem wire_read_45_pst (s : ByteArray) (hP : s.size ≤ 1000000) : (wire_read_45_sk s).pst (fun (x : (List Int) × ByteArray × Bool) => RdP s.data.toList x) := by
  unfold wire_read_45_sk
  refine fun x1 hx1 _ _ _ _ => ⟨fun hc => ?_, fun hc => ?_⟩
  · refine ⟨fun h => by simp at h, fun m t hm hi ht => ?_⟩
    rw [RdP.head hx1 hP hm ht] at hc
    cases hc
  have hx1 : x1 = wire_ReadInt s := hx1
  simp only [Bool.or_eq_false_iff, Bool.not_eq_false', decide_eq_false_iff_not] at hc
  obtain ⟨⟨c1, c2⟩, c3⟩ := hc
  have hb := readInt_yes (s := s) (hx1 ▸ c1)
  rw [← hx1] at hb
  have e1 : s.data.toList.length = s.size := (Lib.size_eq s).symm
  have e2 : x1.2.1.data.toList.length = x1.2.1.size := (Lib.size_eq x1.2.1).symm
  refine fun _ _ _ => ⟨⟨⟨Int.le_refl 0, rfl, by show (0 : Int) ≤ x1.1; omega, rfl, fun n hn => by cases hn⟩, fun i hI => ⟨fun hlt => ?_, fun hge => ?_⟩⟩, fun b _ hE => ?_⟩
  · have hlt : i.2.2 < x1.1 := by simpa using hlt
    refine fun x4 hx4 _ => ⟨fun hy => ?_, fun hy _ _ _ => hI.next hP hx1 c1 hlt hx4 (by simpa using hy)⟩
    refine ⟨fun h => by simp at h, fun m t hm hi ht => ?_⟩
    have := hI.goes hx1 c1 hlt hm hi ht
    have hx4 : x4 = wire_ReadInt i.1 := hx4
    rw [hx4, this] at hy
    cases hy
  · have hge : ¬ i.2.2 < x1.1 := by simpa using hge
    obtain ⟨a1, a2, a3, a4, a5⟩ := hI
    exact ⟨by show ((i.2.1.length : Nat) : Int) = x1.1; omega, a4, a5⟩
  · obtain ⟨a1, a2, a3⟩ := hE
    refine ⟨fun _ => ⟨?_, ?_, a3⟩, fun _ _ _ _ _ => rfl⟩
    · show s.data.toList = intsL b.2 ++ b.1.data.toList
      rw [hb.1, a2, ← a1]
      simp [intsL]
    · show b.2.length ≤ 1000000
      have h3 := congrArg List.length hb.1
      have h4 := congrArg List.length a2
      have h5 := flat_len b.2
      simp only [List.length_append] at h3 h4
      omega

theorem wire_read_45_post (s : ByteArray) : (fun (x : (List Int) × ByteArray × Bool) => (s.size ≤ 1000000) → (RdP s.data.toList x)) (wire_read_45 s) := fun hP => have h := Sk.pval _ (wire_read_45_pst s hP); h
theorem wire_read_45_ok (s : ByteArray) (hs : s.size ≤ 1000000) : (wire_read_45_sk s).obs (fun _ => True) := by
  unfold wire_read_45_sk
  refine ⟨hs, fun x1 hx1 _ => ⟨fun _ => (show (2 : Int) ≠ 0 by decide), fun _ _ _ => ⟨fun _ => trivial, fun hc => ?_⟩⟩⟩
  have hx1 : x1 = wire_ReadInt s := hx1
  simp only [Bool.or_eq_false_iff, Bool.not_eq_false', decide_eq_false_iff_not] at hc
  obtain ⟨⟨c1, c2⟩, c3⟩ := hc
  have hb := (readInt_yes (s := s) (hx1 ▸ c1)).1
  rw [← hx1] at hb
  have e1 : s.data.toList.length = s.size := (Lib.size_eq s).symm
  have e2 : x1.2.1.data.toList.length = x1.2.1.size := (Lib.size_eq x1.2.1).symm
  have e3 := congrArg List.length hb
  simp only [List.length_append] at e3
  have hd : (((x1.2.1.size : Nat) : Int).tdiv 2) = ((x1.2.1.size / 2 : Nat) : Int) := rfl
  have hw : w64 (((x1.2.1.size : Nat) : Int).tdiv 2) = ((x1.2.1.size / 2 : Nat) : Int) := by rw [hd]; exact w64_id (by omega) (by omega)
  rw [hw] at c3
  have hmk : mkP x1.1 8 := by simp only [mkP, maxLen]; omega
  refine ⟨⟨trivial, hmk⟩, fun _ _ _ => ⟨⟨⟨Int.le_refl 0, rfl, by show (0 : Int) ≤ x1.1; omega, rfl, fun n hn => by cases hn⟩, fun i hI => ⟨fun hlt => ?_, fun hge => ?_⟩⟩, fun b _ _ => trivial⟩⟩
  · have hlt : i.2.2 < x1.1 := by simpa using hlt
    have hz := hI.size hs hx1 c1
    refine ⟨hz.1, fun x4 hx4 _ => ⟨fun _ => trivial, fun hy => ⟨⟨trivial, trivial, trivial, ?_⟩, fun _ _ _ => hI.next hs hx1 c1 hlt hx4 (by simpa using hy)⟩⟩⟩
    show szP i.2.1.length [x4.1].length 8
    have := hz.2
    simp only [szP, maxLen, List.length_cons, List.length_nil]
    omega
  · have hge : ¬ i.2.2 < x1.1 := by simpa using hge
    obtain ⟨a1, a2, a3, a4, a5⟩ := hI
    exact ⟨by show ((i.2.1.length : Nat) : Int) = x1.1; omega, a4, a5⟩

noncomputable def wire_read_45_k s := kk tok mixed Tryz.func44 [sv s, .fn 45 []] (fun x => .tup [lv intC x.1, sv x.2.1, bv x.2.2]) false (wire_read_45_sk s) (wire_read_45 s) (wire_read_45_ok s) (fun (x : (List Int) × ByteArray × Bool) => (s.size ≤ 1000000) → (RdP s.data.toList x)) (wire_read_45_post s)
noncomputable def wire_ReadInts_sk (s : ByteArray) : Sk ((List Int) × ByteArray × Bool) :=
 .r 1 ((wire_read_45_k s).c) fun x1 =>
 .fin (x1.1, x1.2.1, x1.2.2)
noncomputable def wire_ReadInts s := (wire_ReadInts_sk s).val
theorem wire_ReadInts_pst (s : ByteArray) (hP : s.size ≤ 1000000) : (wire_ReadInts_sk s).pst (fun (x : (List Int) × ByteArray × Bool) => RdP s.data.toList x) := by
  unfold wire_ReadInts_sk
  exact fun x1 hx hp => hp hP

theorem wire_ReadInts_post (s : ByteArray) : (fun (x : (List Int) × ByteArray × Bool) => (s.size ≤ 1000000) → (RdP s.data.toList x)) (wire_ReadInts s) := fun hP => have h := Sk.pval _ (wire_ReadInts_pst s hP); h
theorem wire_ReadInts_ok (s : ByteArray) (hs : s.size ≤ 1000000) : (wire_ReadInts_sk s).obs (fun _ => True) := by
  unfold wire_ReadInts_sk
  try simp only [wire_read_45_k]
  exact okD

noncomputable def wire_ReadInts_k s := kk tok mixed Tryz.func12 [sv s] (fun x => .tup [lv intC x.1, sv x.2.1, bv x.2.2]) false (wire_ReadInts_sk s) (wire_ReadInts s) (wire_ReadInts_ok s) (fun (x : (List Int) × ByteArray × Bool) => (s.size ≤ 1000000) → (RdP s.data.toList x)) (wire_ReadInts_post s)
noncomputable def report_Read_sk (s : ByteArray) : Sk (Report × Bool) :=
 .r 1 ((wire_ReadInts_k s).c) fun x1 =>
 .br (((!x1.2.2) || (!(x1.2.1.toList == (⟨#[]⟩ : ByteArray).toList))) || (decide (((x1.1.length : Nat) : Int) < 6)))
 (.fin (({ reporter := 0, no := 0, day := 0, body := ({ kind := 0, bill := 0, index := 0, paper := ({ drawer := 0, drawee := 0, payee := 0, sum := 0, currency := 0, tenor := ({ kind := 0, n := 0, unit := 0 } : Tenor), day := 0, city := 0, pay := 0, need := 0, rate := 0, flags := 0, parts := 0 } : Bill), sign := ({ kind := 0, part := 0, who := 0, for_ := 0, to_ := 0, sum := 0, day := 0, city := 0, flags := 0 } : Sign), act := ({ kind := 0, who := 0, to_ := 0, part := 0, at_ := 0, sum := 0, day := 0, city := 0, form := 0 } : ActX), alter := ({ at_ := 0, sum := 0 } : Alter), fact := ({ kind := 0, at_ := 0, n := 0 } : Fact) } : Body) } : Report), false))
 (.r 4 (.andl (.p (ixP (3 : Int) x1.1.length)) (.andl (.p (ixP (4 : Int) x1.1.length)) (.andl (.p (ixP (5 : Int) x1.1.length)) (.andl (.andl (.o [.nrm (subC intE x1.1 6 (x1.1.length - 6))]) (.pt (0 ≤ (6 : Int) ∧ 6 ≤ ((x1.1.length : Nat) : Int)) (intE.lens x1.1))) ((report_body_k (x1.1.getD 3 default) (x1.1.getD 4 default) (x1.1.getD 5 default) (subL x1.1 6 (x1.1.length - 6))).c))))) fun x2 =>
 .r 5 (.andl (.p (ixP (0 : Int) x1.1.length)) (.andl (.p (ixP (1 : Int) x1.1.length)) (.p (ixP (2 : Int) x1.1.length)))) fun _ =>
 .r 6 (.wh (!x2.2) false ((report_Right_k ({ reporter := x1.1.getD 0 default, no := x1.1.getD 1 default, day := x1.1.getD 2 default, body := x2.1 } : Report)).c)) fun x3 =>
 .br ((!x2.2) || (!x3))
 (.fin (({ reporter := 0, no := 0, day := 0, body := ({ kind := 0, bill := 0, index := 0, paper := ({ drawer := 0, drawee := 0, payee := 0, sum := 0, currency := 0, tenor := ({ kind := 0, n := 0, unit := 0 } : Tenor), day := 0, city := 0, pay := 0, need := 0, rate := 0, flags := 0, parts := 0 } : Bill), sign := ({ kind := 0, part := 0, who := 0, for_ := 0, to_ := 0, sum := 0, day := 0, city := 0, flags := 0 } : Sign), act := ({ kind := 0, who := 0, to_ := 0, part := 0, at_ := 0, sum := 0, day := 0, city := 0, form := 0 } : ActX), alter := ({ at_ := 0, sum := 0 } : Alter), fact := ({ kind := 0, at_ := 0, n := 0 } : Fact) } : Body) } : Report), false))
 (.fin (({ reporter := x1.1.getD 0 default, no := x1.1.getD 1 default, day := x1.1.getD 2 default, body := x2.1 } : Report), true)))
noncomputable def report_Read s := (report_Read_sk s).val
theorem report_Read_ok (s : ByteArray) (hs : s.size ≤ 1000000) : (report_Read_sk s).obs (fun _ => True) := by
  unfold report_Read_sk
  try simp only [report_Right_k, report_body_k, wire_ReadInts_k]
  exact okD

noncomputable def report_Read_k s := kk tok mixed Tryz.func9 [sv s] (fun x => .tup [av x.1.cells, bv x.2]) true (report_Read_sk s) (report_Read s) (report_Read_ok s)
end Go.Proofs.YtihmmpaalpghbaaGreatDoor

