/- Functions, as sketches. -/
import Derived.Test.YtihmmpaalpghbaaGreatDoorRx6
namespace Go.Proofs.YtihmmpaalpghbaaGreatDoor
open Go Go.Av
set_option linter.unusedSimpArgs false
set_option linter.unusedVariables false
set_option maxHeartbeats 1000000
set_option maxRecDepth 100000
noncomputable def report_Known_c1_sk (x_ : Report) (v : List (Int × Bool)) : Sk (Bool) :=
 .r 1 (.andl (.t (keysM dB v)) (.o [.cast 7 (getM dB v x_.reporter false)])) fun _ =>
 .fin (mget v x_.reporter false)
noncomputable def report_Known_c1 x_ v := (report_Known_c1_sk x_ v).val
theorem report_Known_c1_ok (x_ : Report) (v : List (Int × Bool)) : (report_Known_c1_sk x_ v).obs (fun _ => True) := by
  unfold report_Known_c1_sk
  exact okE

noncomputable def report_Known_c1_k x_ v := kk tok mixed Tryz.func54 [av x_.cells, .ref [mpD dB v]] (fun x => bv x) true (report_Known_c1_sk x_ v) (report_Known_c1 x_ v) (u0 (report_Known_c1_ok x_ v))
noncomputable def slices_IndexFunc_54_sk (s : List Report) (v : List (Int × Bool)) : Sk (Int) :=
 .bind true (fun b1 => ∀ q, q < s.length → report_Known_c1 (s.getD q default) v = false)
 (.loop (default : Sum (Int) (Unit)) (fun i2 => ∀ q, q < i2 → report_Known_c1 (s.getD q default) v = false) (fun i2 => s.length - i2) (0 : Nat)
 (fun (i2 : Nat) => ⟨[(8, iv ((i2 : Nat) : Int))], []⟩) fun i2 =>
 .lt 0 0 i2 s.length
 (.r 4 (.andl (.p (ixP ((i2 : Nat) : Int) s.length)) ((report_Known_c1_k (s.getD i2 default) v).c)) fun x3 =>
 .br x3
 (.fin (.inl (.inl ((i2 : Nat) : Int))))
 (.nx 6 8 i2 (i2 + 1)))
 (.fin (.inl (.inr ()))))
 (fun (_ : Unit) => ⟨[], []⟩) fun _ =>
 .fin (-1)
noncomputable def slices_IndexFunc_54 s v := (slices_IndexFunc_54_sk s v).val
theorem slices_IndexFunc_54_pst (s : List Report) (v : List (Int × Bool)) : (slices_IndexFunc_54_sk s v).pst (fun (x : Int) => (x = -1 ∧ ∀ q, q < s.length → report_Known_c1 (s.getD q default) v = false) ∨ (0 ≤ x ∧ x < s.length ∧ report_Known_c1 (s.getD x.toNat default) v = true ∧ ∀ q, (q : Nat) < x.toNat → report_Known_c1 (s.getD q default) v = false)) := by
  unfold slices_IndexFunc_54_sk
  try simp only [report_Known_c1_k]
  exact okP

theorem slices_IndexFunc_54_ok (s : List Report) (v : List (Int × Bool)) : (slices_IndexFunc_54_sk s v).obs (fun _ => True) := by
  unfold slices_IndexFunc_54_sk
  try simp only [report_Known_c1_k]
  exact okD

noncomputable def slices_IndexFunc_54_k s v := kp tok mixed Tryz.func89 [lv Report.cells s, .fn 54 [.ref [mpD dB v]]] (fun x => iv x) true (slices_IndexFunc_54 s v) (u0 (slices_IndexFunc_54_ok s v)) (slices_IndexFunc_54_pst s v)
/-- deleting: what holds before the j-th element is looked at -/
structure DelI {α : Type} [Inhabited α] (del : α → Bool) (s l : List α) (i j : Int) : Prop where
  len : l.length = s.length
  i0 : 0 ≤ i
  ij : i < j
  jn : j ≤ (s.length : Int)
  kept : l.take i.toNat = (s.take j.toNat).filter fun c => !del c
  rest : ∀ q : Nat, j ≤ (q : Int) → q < s.length → l.getD q default = s.getD q default
theorem take_succ_getD {α : Type} [Inhabited α] {l : List α} {n : Nat} (h : n < l.length) : l.take (n + 1) = l.take n ++ [l.getD n default] := by
  rw [List.take_add_one]
  simp [List.getD, h]
theorem filter_all {α : Type} [Inhabited α] {p : α → Bool} {l : List α} {n : Nat} (hn : n ≤ l.length) (h : ∀ q, q < n → p (l.getD q default) = true) : (l.take n).filter p = l.take n := by
  refine List.filter_eq_self.2 (fun x hx => ?_)
  obtain ⟨q, hq, rfl⟩ := List.getElem_of_mem hx
  have hq' : q < n := by simp at hq; omega
  have := h q hq'
  rw [show l.getD q default = (l.take n)[q] by simp [List.getD, List.getElem?_eq_getElem (show q < l.length by omega)]] at this
  exact this
theorem DelI.init {α : Type} [Inhabited α] {del : α → Bool} {s : List α} {x : Int} (h0 : 0 ≤ x) (h1 : x < (s.length : Int)) (hd : del (s.getD x.toNat default) = true) (hk : ∀ q, q < x.toNat → del (s.getD q default) = false) : DelI del s s x (x + 1) := by
  refine ⟨rfl, h0, by omega, by omega, ?_, fun _ _ _ => rfl⟩
  rw [show (x + 1).toNat = x.toNat + 1 by omega, take_succ_getD (by omega), List.filter_append, filter_all (by omega) (fun q hq => by rw [hk q hq]; rfl)]
  simp only [List.filter_cons, hd, Bool.not_true, Bool.false_eq_true, if_false, List.filter_nil, List.append_nil]
theorem DelI.keep {α : Type} [Inhabited α] {del : α → Bool} {s l : List α} {i j : Int} (h : DelI del s l i j) (hj : j < (l.length : Int)) (hd : del (l.getD j.toNat default) = false) : DelI del s (l.set i.toNat (l.getD j.toNat default)) (i + 1) (j + 1) := by
  have hl := h.len
  have h0 := h.i0
  have h1 := h.ij
  have hr := h.rest j.toNat (by omega) (by omega)
  refine ⟨by simpa using hl, by omega, by omega, by omega, ?_, fun q hq hq2 => ?_⟩
  · rw [show (i + 1).toNat = i.toNat + 1 by omega, show (j + 1).toNat = j.toNat + 1 by omega, take_succ_getD (by simp; omega), take_succ_getD (l := s) (by omega), List.filter_append, ← h.kept, List.take_set_of_le (Nat.le_refl _)]
    congr 1
    rw [hr] at hd ⊢
    simp only [List.filter_cons, hd, Bool.not_false, if_true, List.filter_nil]
    simp [List.getD, show i.toNat < l.length by omega]
  · rw [← h.rest q (by omega) hq2]
    simp only [List.getD]
    rw [List.getElem?_set_ne (by omega)]
theorem DelI.drop {α : Type} [Inhabited α] {del : α → Bool} {s l : List α} {i j : Int} (h : DelI del s l i j) (hj : j < (l.length : Int)) (hd : del (l.getD j.toNat default) = true) : DelI del s l i (j + 1) := by
  have hl := h.len
  have h0 := h.i0
  have h1 := h.ij
  have hr := h.rest j.toNat (by omega) (by omega)
  refine ⟨hl, by omega, by omega, by omega, ?_, fun q hq hq2 => h.rest q (by omega) hq2⟩
  rw [show (j + 1).toNat = j.toNat + 1 by omega, take_succ_getD (l := s) (by omega), List.filter_append, ← h.kept]
  rw [hr] at hd
  simp only [List.filter_cons, hd, Bool.not_true, Bool.false_eq_true, if_false, List.filter_nil, List.append_nil]
/-- what is left behind the loop -/
def DelE {α : Type} (del : α → Bool) (s l : List α) (i : Int) : Prop := l.length = s.length ∧ 0 ≤ i ∧ i ≤ (s.length : Int) ∧ l.take i.toNat = s.filter fun c => !del c
theorem DelI.done {α : Type} [Inhabited α] {del : α → Bool} {s l : List α} {i j : Int} (h : DelI del s l i j) (hj : ¬ j < (l.length : Int)) : DelE del s l i := by
  have hl := h.len
  have h1 := h.ij
  have h2 := h.jn
  refine ⟨hl, h.i0, by omega, ?_⟩
  rw [h.kept, List.take_of_length_le (by omega)]
theorem subL_take {α : Type} [Inhabited α] {l : List α} {n : Nat} (h : n ≤ l.length) : subL l 0 n = l.take n := by
  refine List.ext_getElem (by simp [subL, h]) (fun q h1 h2 => ?_)
  have hq : q < l.length := by simp at h2; omega
  simp [subL, List.getD, hq]
theorem DelE.res {α : Type} [Inhabited α] {del : α → Bool} {s l : List α} {i : Int} {z : α} (h : DelE del s l i) : subL (clrL l i.toNat z) 0 i.toNat = s.filter fun c => !del c := by
  have h2 := h.1
  have h3 := h.2.2.1
  rw [← h.2.2.2, subL_take (by rw [clrL_length]; omega)]
  simp only [clrL]
  rw [List.take_append_of_le_length (by simp; omega), List.take_take, Nat.min_self]
theorem filter_none {α : Type} [Inhabited α] {del : α → Bool} {s : List α} (h : ∀ q, q < s.length → del (s.getD q default) = false) : s = s.filter fun c => !del c := by
  have := filter_all (p := fun c => !del c) (l := s) (n := s.length) (Nat.le_refl _) (fun q hq => by rw [h q hq]; rfl)
  rw [List.take_length] at this
  exact this.symm
noncomputable def slices_DeleteFunc_54_sk (s : List Report) (v : List (Int × Bool)) : Sk ((List Report)) :=
 .r 1 ((slices_IndexFunc_54_k s v).c) fun x1 =>
 .br (x1 == (-1))
 (.fin s)
 (.bind true (fun b2 => DelE (fun c_ => report_Known_c1 c_ v) s b2.1 b2.2)
 (.loop (default : Sum ((List Report)) ((List Report) × Int)) (fun i3 => DelI (fun c_ => report_Known_c1 c_ v) s i3.1 i3.2.1 i3.2.2) (fun i3 => ((s.length : Int) - i3.2.2).toNat) ((s, x1, w64 (x1 + 1)) : (List Report) × Int × Int)
 (fun (i3 : (List Report) × Int × Int) => ⟨[(0, ow 100002 i3.1), (5, iv i3.2.1), (6, iv i3.2.2)], [(100002, rowB 37 44 Report.cells i3.1)]⟩) fun i3 =>
 .br (decide (i3.2.2 < ((i3.1.length : Nat) : Int)))
 (.r 7 (.andl (.p (ixP i3.2.2 i3.1.length)) (.p (i3.2.2.toNat < i3.1.length))) fun _ =>
 .r 8 ((report_Known_c1_k (i3.1.getD i3.2.2.toNat default) v).c) fun x4 =>
 .br (!x4)
 (.r 9 (.andl (.p (ixP i3.2.1 i3.1.length)) (.andl (.o [.nrm (setC Report.E i3.1 i3.2.1.toNat (i3.1.getD i3.2.2.toNat default))]) (.p (i3.2.1.toNat < i3.1.length)))) fun _ =>
 .wn 100002 i3.1.length (i3.1.set i3.2.1.toNat (i3.1.getD i3.2.2.toNat default)).length <|
 .fin (.inr (i3.1.set i3.2.1.toNat (i3.1.getD i3.2.2.toNat default), w64 (i3.2.1 + 1), w64 (i3.2.2 + 1))))
 (.fin (.inr (i3.1, i3.2.1, w64 (i3.2.2 + 1)))))
 (.fin (.inl (.inr (i3.1, i3.2.1)))))
 (fun (b2 : (List Report) × Int) => ⟨[(0, ow 100001 b2.1), (5, iv b2.2)], [(100001, rowB 37 44 Report.cells b2.1)]⟩) fun b2 =>
 .clr 11 b2.2 (clrN Report.E b2.1 b2.2.toNat ({ reporter := 0, no := 0, day := 0, body := ({ kind := 0, bill := 0, index := 0, paper := ({ drawer := 0, drawee := 0, payee := 0, sum := 0, currency := 0, tenor := ({ kind := 0, n := 0, unit := 0 } : Tenor), day := 0, city := 0, pay := 0, need := 0, rate := 0, flags := 0, parts := 0 } : Bill), sign := ({ kind := 0, part := 0, who := 0, for_ := 0, to_ := 0, sum := 0, day := 0, city := 0, flags := 0 } : Sign), act := ({ kind := 0, who := 0, to_ := 0, part := 0, at_ := 0, sum := 0, day := 0, city := 0, form := 0 } : ActX), alter := ({ at_ := 0, sum := 0 } : Alter), fact := ({ kind := 0, at_ := 0, n := 0 } : Fact) } : Body) } : Report) [dI 0, dI 0, dI 0, dI 0, dI 0, dI 0, dI 0, dI 0, dI 0, dI 0, dI 0, dI 0, dI 0, dI 0, dI 0, dI 0, dI 0, dI 0, dI 0, dI 0, dI 0, dI 0, dI 0, dI 0, dI 0, dI 0, dI 0, dI 0, dI 0, dI 0, dI 0, dI 0, dI 0, dI 0, dI 0, dI 0, dI 0, dI 0, dI 0, dI 0, dI 0, dI 0, dI 0, dI 0] (by kernel_rfl)) <|
 .r 12 (.andl (.o [.nrm (cutC Report.E (clrL b2.1 b2.2.toNat ({ reporter := 0, no := 0, day := 0, body := ({ kind := 0, bill := 0, index := 0, paper := ({ drawer := 0, drawee := 0, payee := 0, sum := 0, currency := 0, tenor := ({ kind := 0, n := 0, unit := 0 } : Tenor), day := 0, city := 0, pay := 0, need := 0, rate := 0, flags := 0, parts := 0 } : Bill), sign := ({ kind := 0, part := 0, who := 0, for_ := 0, to_ := 0, sum := 0, day := 0, city := 0, flags := 0 } : Sign), act := ({ kind := 0, who := 0, to_ := 0, part := 0, at_ := 0, sum := 0, day := 0, city := 0, form := 0 } : ActX), alter := ({ at_ := 0, sum := 0 } : Alter), fact := ({ kind := 0, at_ := 0, n := 0 } : Fact) } : Body) } : Report)) b2.2.toNat)]) (.p (0 ≤ b2.2 ∧ b2.2 ≤ (((clrL b2.1 b2.2.toNat ({ reporter := 0, no := 0, day := 0, body := ({ kind := 0, bill := 0, index := 0, paper := ({ drawer := 0, drawee := 0, payee := 0, sum := 0, currency := 0, tenor := ({ kind := 0, n := 0, unit := 0 } : Tenor), day := 0, city := 0, pay := 0, need := 0, rate := 0, flags := 0, parts := 0 } : Bill), sign := ({ kind := 0, part := 0, who := 0, for_ := 0, to_ := 0, sum := 0, day := 0, city := 0, flags := 0 } : Sign), act := ({ kind := 0, who := 0, to_ := 0, part := 0, at_ := 0, sum := 0, day := 0, city := 0, form := 0 } : ActX), alter := ({ at_ := 0, sum := 0 } : Alter), fact := ({ kind := 0, at_ := 0, n := 0 } : Fact) } : Body) } : Report)).length : Nat) : Int)))) fun _ =>
 .fin (subL (clrL b2.1 b2.2.toNat ({ reporter := 0, no := 0, day := 0, body := ({ kind := 0, bill := 0, index := 0, paper := ({ drawer := 0, drawee := 0, payee := 0, sum := 0, currency := 0, tenor := ({ kind := 0, n := 0, unit := 0 } : Tenor), day := 0, city := 0, pay := 0, need := 0, rate := 0, flags := 0, parts := 0 } : Bill), sign := ({ kind := 0, part := 0, who := 0, for_ := 0, to_ := 0, sum := 0, day := 0, city := 0, flags := 0 } : Sign), act := ({ kind := 0, who := 0, to_ := 0, part := 0, at_ := 0, sum := 0, day := 0, city := 0, form := 0 } : ActX), alter := ({ at_ := 0, sum := 0 } : Alter), fact := ({ kind := 0, at_ := 0, n := 0 } : Fact) } : Body) } : Report)) 0 b2.2.toNat))
noncomputable def slices_DeleteFunc_54 s v := (slices_DeleteFunc_54_sk s v).val
theorem slices_DeleteFunc_54_pst (s : List Report) (v : List (Int × Bool)) (hP : s.length ≤ 1000000000) : (slices_DeleteFunc_54_sk s v).pst (fun (x : (List Report)) => x = s.filter fun c_ => !report_Known_c1 c_ v) := by
  refine Sk.pst_of _ ?_
  unfold slices_DeleteFunc_54_sk
  simp only [Sk.pstq, Sk.isLoop, reduceCtorEq, ON, kk, kp, report_Known_c1_k, slices_IndexFunc_54_k, maxLen]
  intro x _ hx
  refine ⟨fun hc => filter_none (del := (fun c_ => report_Known_c1 c_ v)) (hx.elim (fun h => h.2) (fun h => absurd (beq_iff_eq.1 hc) (by omega))), fun hc => ⟨⟨?_, fun i hi => ⟨fun hj _ y hy => ⟨fun hn _ => ?_, fun hn => ?_⟩, fun hj => ?_⟩⟩, fun b hb _ => DelE.res (del := (fun c_ => report_Known_c1 c_ v)) hb⟩⟩
  all_goals simp only [LN] at hc
  · have hx := hx.resolve_left (fun e => hc e.1)
    rw [w64_id (by omega) (by omega)]
    exact DelI.init (del := (fun c_ => report_Known_c1 c_ v)) hx.1 hx.2.1 hx.2.2.1 hx.2.2.2
  all_goals have hj2 := hi.len
  all_goals have hj3 := hi.i0
  all_goals have hj4 := hi.ij
  all_goals have hj5 := hi.jn
  all_goals simp only [LN] at hj
  · rw [w64_id (n := i.2.1 + 1) (by omega) (by omega), w64_id (n := i.2.2 + 1) (by omega) (by omega)]
    exact ⟨hi.keep (by omega) (by subst hy; simpa using hn), by omega⟩
  · rw [w64_id (by omega) (by omega)]
    exact ⟨hi.drop (by omega) (by subst hy; simpa using hn), by omega⟩
  · exact hi.done (by omega)

theorem slices_DeleteFunc_54_post (s : List Report) (v : List (Int × Bool)) : (fun (x : (List Report)) => (s.length ≤ 1000000000) → (x = s.filter fun c_ => !report_Known_c1 c_ v)) (slices_DeleteFunc_54 s v) := fun hP => have h := Sk.pval _ (slices_DeleteFunc_54_pst s v hP); h
theorem slices_DeleteFunc_54_ok (s : List Report) (v : List (Int × Bool)) (hs : s.length ≤ 1000000000) : (slices_DeleteFunc_54_sk s v).obs (fun _ => True) := by
  refine Sk.obs_of _ ?_
  unfold slices_DeleteFunc_54_sk
  simp only [Sk.obq, Sk.isLoop, reduceCtorEq, ON, kk, kp, report_Known_c1_k, slices_IndexFunc_54_k, maxLen]
  first
    | refine ⟨by (repeat' first | assumption | trivial | apply And.intro), fun x _ hx hc => ⟨⟨?_, fun i hi => ⟨fun hj => ⟨?_, fun _ => ⟨by (repeat' first | assumption | trivial | apply And.intro), fun y hy => ⟨fun hn => ⟨?_, fun _ => ⟨?_, ?_⟩⟩, fun hn => ?_⟩⟩⟩, fun hj => ?_⟩⟩, fun b hb => ?_⟩⟩
    | refine fun x _ hx hc => ⟨⟨?_, fun i hi => ⟨fun hj => ⟨?_, fun _ y hy => ⟨fun hn => ⟨?_, fun _ => ⟨?_, ?_⟩⟩, fun hn => ?_⟩⟩, fun hj => ?_⟩⟩, fun b hb => ?_⟩
  all_goals simp only [LN] at hc
  · have hx := hx.resolve_left (fun e => hc e.1)
    rw [w64_id (by omega) (by omega)]
    exact DelI.init (del := (fun c_ => report_Known_c1 c_ v)) hx.1 hx.2.1 hx.2.2.1 hx.2.2.2
  rotate_right 1
  · have h1 := hb.1
    have h2 := hb.2.1
    have h3 := hb.2.2.1
    refine ⟨⟨h2, ?_⟩, h2, by rw [clrL_length]; omega⟩
    show b.2 ≤ ((b.1.length : Nat) : Int)
    omega
  all_goals have hj2 := hi.len
  all_goals have hj3 := hi.i0
  all_goals have hj4 := hi.ij
  all_goals have hj5 := hi.jn
  all_goals simp only [LN] at hj
  · omega
  · omega
  · rw [List.length_set]
  · rw [w64_id (n := i.2.1 + 1) (by omega) (by omega), w64_id (n := i.2.2 + 1) (by omega) (by omega)]
    exact ⟨hi.keep (by omega) (by subst hy; simpa using hn), by omega⟩
  · rw [w64_id (by omega) (by omega)]
    exact ⟨hi.drop (by omega) (by subst hy; simpa using hn), by omega⟩
  · exact hi.done (by omega)

theorem slices_DeleteFunc_54_fnH (s : List Report) (v : List (Int × Bool)) (hs : s.length ≤ 1000000000) : FnA Tryz.prog 53 [ow 777776 s, .fn 54 [.ref [mpD dB v]]] [(777776, rowB 37 44 Report.cells s)] (ow 777777 (slices_DeleteFunc_54 s v)) [(777777, rowB 37 44 Report.cells (slices_DeleteFunc_54 s v))] :=
  FnA.sk tok mixed (fun x => ow 777777 x) (fun x => [(777777, rowB 37 44 Report.cells x)]) Tryz.func53 rfl (by kernel_rfl) 3000 (slices_DeleteFunc_54_sk s v) (by kernel_rfl) (slices_DeleteFunc_54_ok s v hs)
noncomputable def slices_DeleteFunc_54_kh (κ κ' : Nat) (s : List Report) (v : List (Int × Bool)) : CtrH ((List Report)) := ⟨Tryz.prog, 53, [ow κ s, .fn 54 [.ref [mpD dB v]]], [(κ, rowB 37 44 Report.cells s)], fun x => ow κ' x, fun x => [(κ', rowB 37 44 Report.cells x)], slices_DeleteFunc_54 s v, (s.length ≤ 1000000000), fun h => FnA.rekeyA κ rfl (FnA.rekeyR κ' (slices_DeleteFunc_54_fnH s v h)), fun (x : (List Report)) => (s.length ≤ 1000000000) → (x = s.filter fun c_ => !report_Known_c1 c_ v), slices_DeleteFunc_54_post s v⟩
end Go.Proofs.YtihmmpaalpghbaaGreatDoor

