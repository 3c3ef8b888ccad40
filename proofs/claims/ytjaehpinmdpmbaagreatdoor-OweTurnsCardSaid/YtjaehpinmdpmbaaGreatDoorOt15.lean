/- Functions, as sketches. -/
import Derived.Test.YtjaehpinmdpmbaaGreatDoorOt14
namespace Go.Proofs.YtjaehpinmdpmbaaGreatDoor
open Go Go.Av
set_option linter.unusedSimpArgs false
set_option linter.unusedVariables false
set_option maxHeartbeats 1000000
set_option maxRecDepth 100000
theorem tw_len_eq {α : Type} [Inhabited α] (p : α → Bool) : ∀ (l : List α) (i : Nat), i ≤ l.length → (∀ q, q < i → p (l.getD q default) = true) → (i = l.length ∨ p (l.getD i default) = false) → i = (l.takeWhile p).length
  | [], i, h, _, _ => by simpa using h
  | x :: r, 0, _, _, h => by
    have h : p x = false := by
      rcases h with h | h
      · simp at h
      · exact h
    rw [List.takeWhile_cons, h]; rfl
  | x :: r, i + 1, h, hp, he => by
    have h0 : p x = true := hp 0 (by omega)
    rw [List.takeWhile_cons, h0, if_pos rfl, List.length_cons]
    have := tw_len_eq p r i (by simpa using h) (fun q hq => hp (q + 1) (by omega)) (by simpa using he)
    omega
theorem subL_take {α : Type} [Inhabited α] (l : List α) (n : Nat) (h : n ≤ l.length) : subL l 0 n = l.take n := by
  refine List.ext_getElem (by simp [subL]; omega) (fun i h1 h2 => ?_)
  have hi : i < l.length := by rw [subL_length] at h1; omega
  simp [subL, List.getD, hi]
theorem subL_tw {α : Type} [Inhabited α] (p : α → Bool) (l : List α) : subL l 0 (l.takeWhile p).length = l.takeWhile p := by
  rw [subL_take _ _ (List.takeWhile_sublist _).length_le]
  exact (List.prefix_iff_eq_take.1 (List.takeWhile_prefix p)).symm
theorem filter_take {α : Type} [Inhabited α] (p : α → Bool) (l : List α) (i : Nat) (h : i < l.length) : (l.take (i + 1)).filter p = (l.take i).filter p ++ (bif p (l.getD i default) then [l.getD i default] else []) := by
  rw [List.take_succ_eq_append_getElem h, List.filter_append, show l.getD i default = l[i] by simp [List.getD, h]]
  cases hc : p l[i] <;> simp [hc]
theorem dayExt {P : Nat → Prop} {i : Nat} (h : ∀ q, q < i → P q) (h2 : P i) (q : Nat) (hq : q < i + 1) : P q := (Nat.lt_succ_iff_lt_or_eq.1 hq).elim (h q) (fun e => e ▸ h2)
theorem filter_take_le {α : Type} (p : α → Bool) (l : List α) (i : Nat) : ((l.take i).filter p).length ≤ i := Nat.le_trans (List.length_filter_le _ _) (by rw [List.length_take]; exact Nat.min_le_left _ _)
noncomputable def allongeref14_At_sk (f : File) (day : Int) : Sk (File) :=
 .bind true (fun b1 => b1 = ((f.signs.takeWhile (fun s => decide (s.day ≤ day))).length : Int))
 (.loop (default : Sum (File) (Int)) (fun i2 => i2 ≤ f.signs.length ∧ ∀ q, q < i2 → (f.signs.getD q default).day ≤ day) (fun i2 => f.signs.length - i2) (0 : Nat)
 (fun (i2 : Nat) => ⟨[(5, iv ((i2 : Nat) : Int))], []⟩) fun i2 =>
 .bnd 2 15 f.signs.length <|
 .r 2 (.wh (decide (((i2 : Nat) : Int) < ((f.signs.length : Nat) : Int))) true (.p (ixP ((i2 : Nat) : Int) f.signs.length))) fun _ =>
 .br ((decide (((i2 : Nat) : Int) < ((f.signs.length : Nat) : Int))) && (decide (((f.signs.getD i2 default).day) ≤ day)))
 (.r 3 .z fun _ =>
 .wi 5 (w64 (((i2 : Nat) : Int) + 1)) ((i2 + 1 : Nat) : Int) <|
 .fin (.inr (i2 + 1)))
 (.fin (.inl (.inr ((i2 : Nat) : Int)))))
 (fun (b1 : Int) => ⟨[(5, iv b1)], []⟩) fun b1 =>
 .bind true (fun b3 => b3 = ((f.acts.takeWhile (fun s => decide (s.day ≤ day))).length : Int))
 (.loop (default : Sum (File) (Int)) (fun i4 => i4 ≤ f.acts.length ∧ ∀ q, q < i4 → (f.acts.getD q default).day ≤ day) (fun i4 => f.acts.length - i4) (0 : Nat)
 (fun (i4 : Nat) => ⟨[(6, iv ((i4 : Nat) : Int))], []⟩) fun i4 =>
 .bnd 2 17 f.acts.length <|
 .r 5 (.wh (decide (((i4 : Nat) : Int) < ((f.acts.length : Nat) : Int))) true (.p (ixP ((i4 : Nat) : Int) f.acts.length))) fun _ =>
 .br ((decide (((i4 : Nat) : Int) < ((f.acts.length : Nat) : Int))) && (decide (((f.acts.getD i4 default).day) ≤ day)))
 (.r 6 .z fun _ =>
 .wi 6 (w64 (((i4 : Nat) : Int) + 1)) ((i4 + 1 : Nat) : Int) <|
 .fin (.inr (i4 + 1)))
 (.fin (.inl (.inr ((i4 : Nat) : Int)))))
 (fun (b3 : Int) => ⟨[(6, iv b3)], []⟩) fun b3 =>
 .r 7 (.andl (.o [.nrm (litC Sign.E ([] : List Sign))]) (.andl (.andl (.o [.nrm (subC Sign.E f.signs 0 b1.toNat)]) (.pt (0 ≤ b1 ∧ b1 ≤ ((f.signs.length : Nat) : Int)) (Sign.E.lens f.signs))) (.andl (.andl (.o [.nrm (catC Sign.E ([] : List Sign) (subL f.signs 0 b1.toNat))]) (.andl (.t (Sign.E.src (subL f.signs 0 b1.toNat))) (.p (szP (([] : List Sign).length) (subL f.signs 0 b1.toNat).length 72)))) (.andl (.o [.nrm (litC ActX.E ([] : List ActX))]) (.andl (.andl (.o [.nrm (subC ActX.E f.acts 0 b3.toNat)]) (.pt (0 ≤ b3 ∧ b3 ≤ ((f.acts.length : Nat) : Int)) (ActX.E.lens f.acts))) (.andl (.o [.nrm (catC ActX.E ([] : List ActX) (subL f.acts 0 b3.toNat))]) (.andl (.t (ActX.E.src (subL f.acts 0 b3.toNat))) (.p (szP (([] : List ActX).length) (subL f.acts 0 b3.toNat).length 72))))))))) fun _ =>
 .bind true (fun b5 => b5 = f.alters.filter (fun a => decide (a.at_ ≤ b1)))
 (.loop (default : Sum (File) ((List Alter))) (fun i6 => i6.1 ≤ f.alters.length ∧ i6.2 = (f.alters.take i6.1).filter (fun a => decide (a.at_ ≤ b1))) (fun i6 => f.alters.length - i6.1) ((0, []) : Nat × (List Alter))
 (fun (i6 : Nat × (List Alter)) => ⟨[(8, iv ((i6.1 : Nat) : Int))], [(100002, rowB 111 2 Alter.cells i6.2), (7, .box (f.bill.cells.map .d ++ [ow 51 (([] : List Sign) ++ (subL f.signs 0 b1.toNat)), ow 100002 i6.2, ow 57 (([] : List ActX) ++ (subL f.acts 0 b3.toNat))] ++ [nv]))]⟩) fun i6 =>
 .bnd 2 16 f.alters.length <|
 .br (decide (((i6.1 : Nat) : Int) < ((f.alters.length : Nat) : Int)))
 (.r 11 (.p (ixP ((i6.1 : Nat) : Int) f.alters.length)) fun _ =>
 .br (decide (((f.alters.getD i6.1 default).at_) ≤ b1))
 (.r 12 (.andl (.p (ixP ((i6.1 : Nat) : Int) f.alters.length)) (.andl (.o [.nrm (litC Alter.E [f.alters.getD i6.1 default])]) (.andl (.o [.nrm (catC Alter.E i6.2 [f.alters.getD i6.1 default])]) (.andl (.t (Alter.E.ones [f.alters.getD i6.1 default])) (.p (szP i6.2.length [f.alters.getD i6.1 default].length 16)))))) fun _ =>
 .r 10 .z fun _ =>
 .wi 8 (w64 (((i6.1 : Nat) : Int) + 1)) ((i6.1 + 1 : Nat) : Int) <|
 .fin (.inr (i6.1 + 1, i6.2 ++ [f.alters.getD i6.1 default])))
 (.r 10 .z fun _ =>
 .wi 8 (w64 (((i6.1 : Nat) : Int) + 1)) ((i6.1 + 1 : Nat) : Int) <|
 .fin (.inr (i6.1 + 1, i6.2))))
 (.fin (.inl (.inr i6.2))))
 (fun (b5 : (List Alter)) => ⟨[], [(100001, rowB 111 2 Alter.cells b5), (7, .box (f.bill.cells.map .d ++ [ow 51 (([] : List Sign) ++ (subL f.signs 0 b1.toNat)), ow 100001 b5, ow 57 (([] : List ActX) ++ (subL f.acts 0 b3.toNat))] ++ [nv]))]⟩) fun b5 =>
 .bind true (fun b7 => b7 = f.facts.filter (fun x => decide (x.at_ ≥ 0) && decide (x.at_ < b1)))
 (.loop (default : Sum (File) ((List Fact))) (fun i8 => i8.1 ≤ f.facts.length ∧ i8.2 = (f.facts.take i8.1).filter (fun x => decide (x.at_ ≥ 0) && decide (x.at_ < b1))) (fun i8 => f.facts.length - i8.1) ((0, []) : Nat × (List Fact))
 (fun (i8 : Nat × (List Fact)) => ⟨[(9, iv ((i8.1 : Nat) : Int))], [(100005, rowB 113 3 Fact.cells i8.2), (7, .box (f.bill.cells.map .d ++ [ow 51 (([] : List Sign) ++ (subL f.signs 0 b1.toNat)), ow 100001 b5, ow 57 (([] : List ActX) ++ (subL f.acts 0 b3.toNat)), ow 100005 i8.2]))]⟩) fun i8 =>
 .bnd 2 18 f.facts.length <|
 .br (decide (((i8.1 : Nat) : Int) < ((f.facts.length : Nat) : Int)))
 (.r 16 (.andl (.p (ixP ((i8.1 : Nat) : Int) f.facts.length)) (.wh (decide (((f.facts.getD i8.1 default).at_) ≥ 0)) true (.p (ixP ((i8.1 : Nat) : Int) f.facts.length)))) fun _ =>
 .br ((decide (((f.facts.getD i8.1 default).at_) ≥ 0)) && (decide (((f.facts.getD i8.1 default).at_) < b1)))
 (.r 17 (.andl (.p (ixP ((i8.1 : Nat) : Int) f.facts.length)) (.andl (.o [.nrm (litC Fact.E [f.facts.getD i8.1 default])]) (.andl (.o [.nrm (catC Fact.E i8.2 [f.facts.getD i8.1 default])]) (.andl (.t (Fact.E.ones [f.facts.getD i8.1 default])) (.p (szP i8.2.length [f.facts.getD i8.1 default].length 24)))))) fun _ =>
 .r 15 .z fun _ =>
 .wi 9 (w64 (((i8.1 : Nat) : Int) + 1)) ((i8.1 + 1 : Nat) : Int) <|
 .fin (.inr (i8.1 + 1, i8.2 ++ [f.facts.getD i8.1 default])))
 (.r 15 .z fun _ =>
 .wi 9 (w64 (((i8.1 : Nat) : Int) + 1)) ((i8.1 + 1 : Nat) : Int) <|
 .fin (.inr (i8.1 + 1, i8.2))))
 (.fin (.inl (.inr i8.2))))
 (fun (b7 : (List Fact)) => ⟨[], [(100004, rowB 113 3 Fact.cells b7), (7, .box (f.bill.cells.map .d ++ [ow 51 (([] : List Sign) ++ (subL f.signs 0 b1.toNat)), ow 100001 b5, ow 57 (([] : List ActX) ++ (subL f.acts 0 b3.toNat)), ow 100004 b7]))]⟩) fun b7 =>
 .fin ({ f with signs := ([] : List Sign) ++ (subL f.signs 0 b1.toNat), alters := b5, acts := ([] : List ActX) ++ (subL f.acts 0 b3.toNat), facts := b7 })
noncomputable def allongeref14_At (f : File) (day : Int) : File := (allongeref14_At_sk f day).val
theorem allongeref14_At_pst (f : File) (day : Int) : (allongeref14_At_sk f day).pst (fun (x : File) => x = record_At f day) := by
  refine Sk.pst_of _ ?_
  unfold allongeref14_At_sk
  simp only [Sk.pstq, Sk.isLoop, reduceCtorEq, ON, kk, File.Small, Realm.Small, maxLen]
  refine ⟨⟨⟨Nat.zero_le _, fun q hq => absurd hq (by omega)⟩, fun i hi _ => ⟨fun hc _ => ?_, fun hc => ?_⟩⟩, fun b1 hb1 => ⟨⟨⟨Nat.zero_le _, fun q hq => absurd hq (by omega)⟩, fun i hi _ => ⟨fun hc _ => ?_, fun hc => ?_⟩⟩, fun b3 hb3 _ => ⟨⟨⟨Nat.zero_le _, rfl⟩, fun i hi => ⟨fun hc _ => ⟨fun h _ _ => ?_, fun h _ => ?_⟩, fun hc => ?_⟩⟩, fun b5 hb5 => ⟨⟨⟨Nat.zero_le _, rfl⟩, fun i hi => ⟨fun hc _ => ⟨fun h _ _ => ?_, fun h _ => ?_⟩, fun hc => ?_⟩⟩, fun b7 hb7 => ?_⟩⟩⟩⟩
  · simp only [LN] at hc
    exact ⟨⟨by omega, dayExt hi.2 hc.2⟩, by omega⟩
  · simp only [LN] at hc
    have := tw_len_eq (fun s : Sign => decide (s.day ≤ day)) f.signs i hi.1 (fun q hq => decide_eq_true (hi.2 q hq)) (by rw [decide_eq_false_iff_not]; omega)
    omega
  · simp only [LN] at hc
    exact ⟨⟨by omega, dayExt hi.2 hc.2⟩, by omega⟩
  · simp only [LN] at hc
    have := tw_len_eq (fun s : ActX => decide (s.day ≤ day)) f.acts i hi.1 (fun q hq => decide_eq_true (hi.2 q hq)) (by rw [decide_eq_false_iff_not]; omega)
    omega
  · simp only [LN] at hc
    refine ⟨⟨by omega, ?_⟩, by omega⟩
    rw [filter_take _ _ _ (by omega), ← hi.2]; simp only [h, cond_true]
  · simp only [LN] at hc
    refine ⟨⟨by omega, ?_⟩, by omega⟩
    rw [filter_take _ _ _ (by omega), ← hi.2]; simp only [h, cond_false, List.append_nil]
  · simp only [LN] at hc
    have e : i.1 = f.alters.length := by omega
    rw [hi.2, e, List.take_length]
  · simp only [LN] at hc
    refine ⟨⟨by omega, ?_⟩, by omega⟩
    rw [filter_take _ _ _ (by omega), ← hi.2]; simp only [h, cond_true]
  · simp only [LN] at hc
    refine ⟨⟨by omega, ?_⟩, by omega⟩
    rw [filter_take _ _ _ (by omega), ← hi.2]; simp only [h, cond_false, List.append_nil]
  · simp only [LN] at hc
    have e : i.1 = f.facts.length := by omega
    rw [hi.2, e, List.take_length]
  · subst hb1 hb3 hb5 hb7
    rw [Int.toNat_natCast, Int.toNat_natCast, subL_tw, subL_tw, List.nil_append, List.nil_append, record_At_eq]

theorem allongeref14_At_post (f : File) (day : Int) : (fun (x : File) => x = record_At f day) (allongeref14_At f day) := have h := Sk.pval _ (allongeref14_At_pst f day); h
theorem allongeref14_At_ok (f : File) (day : Int) (hf : f.Small) : (allongeref14_At_sk f day).obs (fun _ => True) := by
  simp only [File.Small, Realm.Small] at hf
  refine Sk.obs_of _ ?_
  unfold allongeref14_At_sk
  simp only [Sk.obq, Sk.isLoop, reduceCtorEq, ON, kk, File.Small, Realm.Small, maxLen]
  have w1 : ∀ i n : Nat, i < n → n ≤ 1000000 → w64 ((i : Int) + 1) = ((i + 1 : Nat) : Int) := fun i n h h2 => (w64_id (by omega) (by omega)).trans (by omega)
  obtain ⟨n1, n2, n3, n4⟩ := hf
  have s1 := (List.takeWhile_sublist (l := f.signs) fun s => decide (s.day ≤ day)).length_le
  have s2 := (List.takeWhile_sublist (l := f.acts) fun s => decide (s.day ≤ day)).length_le
  refine ⟨⟨⟨Nat.zero_le _, fun q hq => absurd hq (by omega)⟩, fun i hi _ => ⟨fun hc => ?_, fun _ => ⟨fun hc _ => ?_, fun hc => ?_⟩⟩⟩, fun b1 hb1 => ⟨⟨⟨Nat.zero_le _, fun q hq => absurd hq (by omega)⟩, fun i hi _ => ⟨fun hc => ?_, fun _ => ⟨fun hc _ => ?_, fun hc => ?_⟩⟩⟩, fun b3 hb3 => ⟨?_, fun _ => ⟨⟨⟨Nat.zero_le _, rfl⟩, fun i hi _ => ⟨fun hc => ⟨?_, fun _ => ⟨fun h => ⟨?_, fun _ _ => ⟨?_, ?_⟩⟩, fun h _ => ⟨?_, ?_⟩⟩⟩, fun hc => ?_⟩⟩, fun b5 hb5 => ⟨⟨Nat.zero_le _, rfl⟩, fun i hi _ => ⟨fun hc => ⟨?_, fun _ => ⟨fun h => ⟨?_, fun _ _ => ⟨?_, ?_⟩⟩, fun h _ => ⟨?_, ?_⟩⟩⟩, fun hc => ?_⟩⟩⟩⟩⟩⟩
  · simp only [LN] at hc
    exact ⟨by omega, by omega⟩
  · simp only [LN] at hc
    exact ⟨w1 _ _ (by omega) n1, ⟨by omega, dayExt hi.2 hc.2⟩, by omega⟩
  · simp only [LN] at hc
    have := tw_len_eq (fun s : Sign => decide (s.day ≤ day)) f.signs i hi.1 (fun q hq => decide_eq_true (hi.2 q hq)) (by rw [decide_eq_false_iff_not]; omega)
    omega
  · simp only [LN] at hc
    exact ⟨by omega, by omega⟩
  · simp only [LN] at hc
    exact ⟨w1 _ _ (by omega) n3, ⟨by omega, dayExt hi.2 hc.2⟩, by omega⟩
  · simp only [LN] at hc
    have := tw_len_eq (fun s : ActX => decide (s.day ≤ day)) f.acts i hi.1 (fun q hq => decide_eq_true (hi.2 q hq)) (by rw [decide_eq_false_iff_not]; omega)
    omega
  · simp only [LN]
    omega
  · simp only [LN] at hc
    exact ⟨by omega, by omega⟩
  · simp only [LN] at hc ⊢
    have := filter_take_le (fun a : Alter => decide (a.at_ ≤ b1)) f.alters i.1
    rw [← hi.2] at this
    omega
  · simp only [LN] at hc
    exact w1 _ _ (by omega) n2
  · simp only [LN] at hc
    refine ⟨⟨by omega, ?_⟩, by omega⟩
    rw [filter_take _ _ _ (by omega), ← hi.2]; simp only [h, cond_true]
  · simp only [LN] at hc
    exact w1 _ _ (by omega) n2
  · simp only [LN] at hc
    refine ⟨⟨by omega, ?_⟩, by omega⟩
    rw [filter_take _ _ _ (by omega), ← hi.2]; simp only [h, cond_false, List.append_nil]
  · simp only [LN] at hc
    have e : i.1 = f.alters.length := by omega
    rw [hi.2, e, List.take_length]
  · simp only [LN] at hc
    exact ⟨⟨by omega, by omega⟩, fun _ => ⟨by omega, by omega⟩⟩
  · simp only [LN] at hc ⊢
    have := filter_take_le (fun x : Fact => decide (x.at_ ≥ 0) && decide (x.at_ < b1)) f.facts i.1
    rw [← hi.2] at this
    omega
  · simp only [LN] at hc
    exact w1 _ _ (by omega) n4
  · simp only [LN] at hc
    refine ⟨⟨by omega, ?_⟩, by omega⟩
    rw [filter_take _ _ _ (by omega), ← hi.2]; simp only [h, cond_true]
  · simp only [LN] at hc
    exact w1 _ _ (by omega) n4
  · simp only [LN] at hc
    refine ⟨⟨by omega, ?_⟩, by omega⟩
    rw [filter_take _ _ _ (by omega), ← hi.2]; simp only [h, cond_false, List.append_nil]
  · simp only [LN] at hc
    have e : i.1 = f.facts.length := by omega
    rw [hi.2, e, List.take_length]

noncomputable def allongeref14_At_k (f : File) (day : Int) : Ctr (File) := kk tok mixed Tryz.func16 [av f.cells, iv day] (fun x => av x.cells) false (allongeref14_At_sk f day) (allongeref14_At f day) (fun (h : (f.Small)) => allongeref14_At_ok f day h) (fun (x : File) => x = record_At f day) (allongeref14_At_post f day)
theorem base_eqn (v : View) (fu : Nat) (s : Int) : owe_view_base_n (fu + 1) v s = bif (((v.now.signs.getD s.toNat default).kind) == 3) || (((v.now.signs.getD s.toNat default).kind) == 4) then owe_view_base_n fu v ((v.now.signs.getD s.toNat default).for_) else s := by kernel_rfl
theorem base_fuel (v : View) (h : v.BaseOK) : ∀ (fu fu' : Nat) (s : Int), 0 ≤ s → s < (v.now.signs.length : Int) → s.toNat < fu → s.toNat < fu' → owe_view_base_n fu v s = owe_view_base_n fu' v s
  | 0, _, _, _, _, h3, _ => absurd h3 (by omega)
  | _ + 1, 0, _, _, _, _, h4 => absurd h4 (by omega)
  | fu + 1, fu' + 1, s, h1, h2, h3, h4 => by
    rw [base_eqn, base_eqn]
    cases hk : (((v.now.signs.getD s.toNat default).kind) == 3) || (((v.now.signs.getD s.toNat default).kind) == 4) with
    | false => rfl
    | true =>
      have hb := h s.toNat (by omega) (by simpa using hk)
      rw [cond_true, cond_true]
      exact base_fuel v h fu fu' _ hb.1 (by omega) (by omega) (by omega)
theorem base_step (v : View) (h : v.BaseOK) {s : Int} (h1 : 0 ≤ s) (h2 : s < (v.now.signs.length : Int)) (hk : (v.now.signs.getD s.toNat default).kind = 3 ∨ (v.now.signs.getD s.toNat default).kind = 4) : owe_view_base v ((v.now.signs.getD s.toNat default).for_) = owe_view_base v s := by
  have hb := h s.toNat (by omega) hk
  show owe_view_base_n _ v _ = owe_view_base_n (s.toNat + 1) v s
  rw [base_eqn v s.toNat s, show ((((v.now.signs.getD s.toNat default).kind) == 3) || (((v.now.signs.getD s.toNat default).kind) == 4)) = true by simpa using hk, cond_true]
  exact base_fuel v h _ _ _ hb.1 (by omega) (by omega) (by omega)
theorem base_end (v : View) {s : Int} (hk : ¬ ((v.now.signs.getD s.toNat default).kind = 3 ∨ (v.now.signs.getD s.toNat default).kind = 4)) : owe_view_base v s = s := by
  show owe_view_base_n (s.toNat + 1) v s = s
  rw [base_eqn v s.toNat s, show ((((v.now.signs.getD s.toNat default).kind) == 3) || (((v.now.signs.getD s.toNat default).kind) == 4)) = false by simpa using hk, cond_false]
noncomputable def allongeref26_Base_sk (now : File) (sign : Int) : Sk (Int) :=
 .bind true (fun b1 => (0 ≤ b1 ∧ b1 < (now.signs.length : Int)) ∧ ∀ v : View, v.now = now → b1 = owe_view_base v sign)
 (.loop (default : Sum (Int) (Int)) (fun i2 => 0 ≤ i2 ∧ i2 < (now.signs.length : Int) ∧ ∀ v : View, v.now = now → owe_view_base v i2 = owe_view_base v sign) (fun i2 => i2.toNat) (sign : Int)
 (fun (i2 : Int) => ⟨[(1, iv i2)], []⟩) fun i2 =>
 .r 1 (.andl (.p (ixP i2 now.signs.length)) (.wh (((now.signs.getD i2.toNat default).kind) == 3) false (.p (ixP i2 now.signs.length)))) fun _ =>
 .br ((((now.signs.getD i2.toNat default).kind) == 3) || (((now.signs.getD i2.toNat default).kind) == 4))
 (.r 2 (.p (ixP i2 now.signs.length)) fun _ =>
 .fin (.inr ((now.signs.getD i2.toNat default).for_)))
 (.fin (.inl (.inr i2))))
 (fun (b1 : Int) => ⟨[(1, iv b1)], []⟩) fun b1 =>
 .fin b1
noncomputable def allongeref26_Base (now : File) (sign : Int) : Int := (allongeref26_Base_sk now sign).val
theorem allongeref26_Base_pst (now : File) (sign : Int) (hP : (∀ i : Nat, i < now.signs.length → ((now.signs.getD i default).kind = 3 ∨ (now.signs.getD i default).kind = 4) → 0 ≤ (now.signs.getD i default).for_ ∧ (now.signs.getD i default).for_ < (i : Int)) ∧ (0 ≤ sign ∧ sign < (now.signs.length : Int))) : (allongeref26_Base_sk now sign).pst (fun (x : Int) => (0 ≤ x ∧ x < (now.signs.length : Int)) ∧ ∀ v : View, v.now = now → x = owe_view_base v sign) := by
  refine Sk.pst_of _ ?_
  unfold allongeref26_Base_sk
  simp only [Sk.pstq, Sk.isLoop, reduceCtorEq, ON, kk, maxLen]
  obtain ⟨hB, hs⟩ := hP
  refine ⟨⟨hs, fun i hi _ => ⟨fun hc _ => ?_, fun hc => ?_⟩⟩, fun b hb => hb⟩
  · have hk : (now.signs.getD i.toNat default).kind = 3 ∨ (now.signs.getD i.toNat default).kind = 4 := by simpa only [LN] using hc
    have hn := hB i.toNat (by omega) hk
    exact ⟨⟨hn.1, by omega, fun v hv => by subst hv; exact (base_step v hB hi.1 hi.2.1 hk).trans (hi.2.2 v rfl)⟩, by omega⟩
  · have hk : ¬ ((now.signs.getD i.toNat default).kind = 3 ∨ (now.signs.getD i.toNat default).kind = 4) := by simp only [LN] at hc; omega
    exact ⟨⟨hi.1, hi.2.1⟩, fun v hv => by subst hv; exact (base_end v hk).symm.trans (hi.2.2 v rfl)⟩

theorem allongeref26_Base_post (now : File) (sign : Int) : (fun (x : Int) => ((∀ i : Nat, i < now.signs.length → ((now.signs.getD i default).kind = 3 ∨ (now.signs.getD i default).kind = 4) → 0 ≤ (now.signs.getD i default).for_ ∧ (now.signs.getD i default).for_ < (i : Int)) ∧ (0 ≤ sign ∧ sign < (now.signs.length : Int))) → ((0 ≤ x ∧ x < (now.signs.length : Int)) ∧ ∀ v : View, v.now = now → x = owe_view_base v sign)) (allongeref26_Base now sign) := fun hP => Sk.pval _ (allongeref26_Base_pst now sign hP)
theorem allongeref26_Base_ok (now : File) (sign : Int) (hb : ∀ i : Nat, i < now.signs.length → ((now.signs.getD i default).kind = 3 ∨ (now.signs.getD i default).kind = 4) → 0 ≤ (now.signs.getD i default).for_ ∧ (now.signs.getD i default).for_ < (i : Int)) (hs : 0 ≤ sign ∧ sign < (now.signs.length : Int)) : (allongeref26_Base_sk now sign).obs (fun _ => True) := by
  refine Sk.obs_of _ ?_
  unfold allongeref26_Base_sk
  simp only [Sk.obq, Sk.isLoop, reduceCtorEq, ON, kk, maxLen]
  refine ⟨hs, fun i hi => ⟨⟨⟨hi.1, hi.2.1⟩, fun _ => ⟨hi.1, hi.2.1⟩⟩, fun _ => ⟨fun hc => ⟨⟨hi.1, hi.2.1⟩, fun _ => ?_⟩, fun hc => ?_⟩⟩⟩
  · have hk : (now.signs.getD i.toNat default).kind = 3 ∨ (now.signs.getD i.toNat default).kind = 4 := by simpa only [LN] using hc
    have hn := hb i.toNat (by omega) hk
    exact ⟨⟨hn.1, by omega, fun v hv => by subst hv; exact (base_step v hb hi.1 hi.2.1 hk).trans (hi.2.2 v rfl)⟩, by omega⟩
  · have hk : ¬ ((now.signs.getD i.toNat default).kind = 3 ∨ (now.signs.getD i.toNat default).kind = 4) := by simp only [LN] at hc; omega
    exact ⟨⟨hi.1, hi.2.1⟩, fun v hv => by subst hv; exact (base_end v hk).symm.trans (hi.2.2 v rfl)⟩

noncomputable def allongeref26_Base_k (now : File) (sign : Int) : Ctr (Int) := kk tok mixed Tryz.func17 [av now.cells, iv sign] (fun x => iv x) true (allongeref26_Base_sk now sign) (allongeref26_Base now sign) (fun (h : (∀ i : Nat, i < now.signs.length → ((now.signs.getD i default).kind = 3 ∨ (now.signs.getD i default).kind = 4) → 0 ≤ (now.signs.getD i default).for_ ∧ (now.signs.getD i default).for_ < (i : Int)) ∧ (0 ≤ sign ∧ sign < (now.signs.length : Int))) => allongeref26_Base_ok now sign h.1 h.2) (fun (x : Int) => ((∀ i : Nat, i < now.signs.length → ((now.signs.getD i default).kind = 3 ∨ (now.signs.getD i default).kind = 4) → 0 ≤ (now.signs.getD i default).for_ ∧ (now.signs.getD i default).for_ < (i : Int)) ∧ (0 ≤ sign ∧ sign < (now.signs.length : Int))) → ((0 ≤ x ∧ x < (now.signs.length : Int)) ∧ ∀ v : View, v.now = now → x = owe_view_base v sign)) (allongeref26_Base_post now sign)
/-- how many links lie from one signature to another -/
noncomputable def cntL (links : List Int) (lo hi : Int) : Nat := (links.filter fun l => decide (l ≤ hi) && decide (l ≥ lo)).length
noncomputable def allL (links : List Int) (hi : Int) : Nat := (links.filter fun l => decide (l ≤ hi)).length
theorem cntL_take (links : List Int) (lo hi : Int) {i : Nat} (h : i < links.length) : cntL (links.take (i + 1)) lo hi = cntL (links.take i) lo hi + (bif decide (links.getD i default ≤ hi) && decide (links.getD i default ≥ lo) then 1 else 0) := by
  unfold cntL
  rw [List.take_succ_eq_append_getElem h, List.filter_append, List.length_append, show links.getD i default = links[i] by simp [List.getD, h]]
  congr 1
  cases hc : decide (links[i] ≤ hi) && decide (links[i] ≥ lo) with
  | true => rw [List.filter_cons_of_pos (by simpa using hc)]; rfl
  | false => rw [List.filter_cons_of_neg (by simpa using hc)]; rfl
theorem allL_take (links : List Int) (hi : Int) {i : Nat} (h : i < links.length) : allL (links.take (i + 1)) hi = allL (links.take i) hi + (bif decide (links.getD i default ≤ hi) then 1 else 0) := by
  unfold allL
  rw [List.take_succ_eq_append_getElem h, List.filter_append, List.length_append, show links.getD i default = links[i] by simp [List.getD, h]]
  congr 1
  cases hc : decide (links[i] ≤ hi) with
  | true => rw [List.filter_cons_of_pos (by simpa using hc)]; rfl
  | false => rw [List.filter_cons_of_neg (by simpa using hc)]; rfl
theorem cntL_le (links : List Int) (lo hi : Int) : cntL links lo hi ≤ links.length := List.length_filter_le ..
theorem allL_le (links : List Int) (hi : Int) : allL links hi ≤ links.length := List.length_filter_le ..
noncomputable def payableC (c : Court) : Bool := (c.due != (-1)) && decide (c.view.day ≥ c.due)
theorem state_eq (c : Court) (o : Owner) (sign : Int) (links : List Int) (eff : List Effect) (hl : links.length ≤ 1000000) : owe_court_state c o sign links eff =
    bif (c.view.now.signs.getD (owe_view_base c.view sign).toNat default).kind == 1 then (bif !(payableC c) then (0, 0) else (owe_both o.state (eff.getD sign.toNat default).binds, 0)) else
    bif ((!(payableC c)) && (!(slices_ContainsFunc_73 c.view.now.acts))) || (!((eff.getD (owe_view_base c.view sign).toNat default).recourse)) then (0, 0) else
    (owe_both (owe_both o.state (eff.getD sign.toNat default).binds) (diligence_Kept c.r c.forum c.view.all (owe_view_base c.view sign) c.view.day).all,
      bif !(slices_Contains links (owe_view_base c.view sign)) then (1 + (allL links o.sign : Int)) else (cntL links (owe_view_base c.view sign) o.sign : Int)) := by
  unfold owe_court_state owe_court_state_sk
  dsimp +instances only [Sk.val_bind, Sk.val_loop, Sk.val_bnd, Sk.val_br, Sk.val_r, Sk.val_wi, Sk.val_fin, Ctr.c_v, kk, Cal.andl_v, Cal.wh_v, Cal.dep_v, owe_view_base_k, owe_both_k, slices_ContainsFunc_73_k, slices_Contains_k, diligence_Kept_k]
  have hloop : ∀ d : (Int × Int) ⊕ (Int × Int), iter (fun i5 : Int × Int × Nat => bif decide (((i5.2.2 : Nat) : Int) < ((links.length : Nat) : Int)) then
      (pickS (bif decide ((links.getD i5.2.2 default) ≤ o.sign) then (Sum.inr (w64 (i5.2.1 + 1)) : (((Int × Int) ⊕ (Int × Int)) ⊕ (Int × Int × Nat)) ⊕ Int) else Sum.inr i5.2.1) fun b6 => bif (decide ((links.getD i5.2.2 default) ≤ o.sign)) && (decide ((links.getD i5.2.2 default) ≥ owe_view_base c.view sign)) then Sum.inr (w64 (i5.1 + 1), b6, i5.2.2 + 1) else Sum.inr (i5.1, b6, i5.2.2 + 1))
      else Sum.inl (Sum.inr (i5.1, i5.2.1))) d (links.length - 0 + 1) (0, 1, 0) = Sum.inr ((cntL links (owe_view_base c.view sign) o.sign : Int), 1 + (allL links o.sign : Int)) := by
    intro d
    refine (iter_to links.length (fun n => ((cntL (links.take n) (owe_view_base c.view sign) o.sign : Int), 1 + (allL (links.take n) o.sign : Int))) (fun s i => (s.1, s.2, i)) (fun s => Sum.inr s) (fun i hi => ?_) ?_ (m := links.length - 0 + 1) (by omega)).trans ?_
    · dsimp only
      rw [decide_eq_true (by omega), cond_true, cntL_take links _ _ hi, allL_take links _ hi]
      have h1 := cntL_le (links.take i) (owe_view_base c.view sign) o.sign
      have h2 := allL_le (links.take i) o.sign
      have h3 : (links.take i).length ≤ links.length := by rw [List.length_take]; exact Nat.min_le_right _ _
      rw [w64_id (n := (cntL (links.take i) (owe_view_base c.view sign) o.sign : Int) + 1) (by omega) (by omega), w64_id (n := 1 + (allL (links.take i) o.sign : Int) + 1) (by omega) (by omega)]
      cases decide (links.getD i default ≤ o.sign) with
      | false => simp [pickS]
      | true =>
        cases decide (links.getD i default ≥ owe_view_base c.view sign) with
        | false => simp [pickS]; omega
        | true => simp [pickS]; omega
    · dsimp only
      rw [decide_eq_false (by omega), cond_false]
    · rw [List.take_length]
  cases (c.view.now.signs.getD (owe_view_base c.view sign).toNat default).kind == 1 with
  | true => rfl
  | false =>
    simp only [cond_false]
    show (bif ((!(payableC c)) && (!(slices_ContainsFunc_73 c.view.now.acts))) || (!((eff.getD (owe_view_base c.view sign).toNat default).recourse)) then (0, 0) else _) = _
    cases ((!(payableC c)) && (!(slices_ContainsFunc_73 c.view.now.acts))) || (!((eff.getD (owe_view_base c.view sign).toNat default).recourse)) with
    | true => rfl
    | false =>
      simp only [cond_false]
      refine (congrArg (fun q => pickS q _) (hloop _)).trans ?_
      show pickS (bif !(slices_Contains links (owe_view_base c.view sign)) then Sum.inr (1 + (allL links o.sign : Int)) else Sum.inr (cntL links (owe_view_base c.view sign) o.sign : Int)) _ = _
      cases slices_Contains links (owe_view_base c.view sign) <;> rfl
theorem both_rng (a b : Int) : owe_both a b = 0 ∨ owe_both a b = 1 ∨ owe_both a b = 2 := by
  have e : owe_both a b = bif (a == 0) || (b == 0) then 0 else bif (a == 2) || (b == 2) then 2 else 1 := by kernel_rfl
  rw [e]
  cases (a == 0) || (b == 0) <;> cases (a == 2) || (b == 2) <;> simp
theorem state_rng (c : Court) (o : Owner) (sign : Int) (links : List Int) (eff : List Effect) (hl : links.length ≤ 1000000) : (owe_court_state c o sign links eff).1 = 0 ∨ (owe_court_state c o sign links eff).1 = 1 ∨ (owe_court_state c o sign links eff).1 = 2 := by
  rw [state_eq c o sign links eff hl]
  cases (c.view.now.signs.getD (owe_view_base c.view sign).toNat default).kind == 1 with
  | true =>
    cases payableC c with
    | false => exact .inl rfl
    | true => exact both_rng _ _
  | false =>
    rw [cond_false]
    cases ((!(payableC c)) && (!(slices_ContainsFunc_73 c.view.now.acts))) || (!((eff.getD (owe_view_base c.view sign).toNat default).recourse)) with
    | true => exact .inl rfl
    | false => exact both_rng _ _
theorem try_eq {r : Realm} {forum : Int} {f : File} {day : Int} (h : (owe_try r forum f day).2 = true) : (owe_try r forum f day).1 = ⟨owe_open f day, r, forum, ask_Maturity r forum f day⟩ := (owe_try_post r forum f day h).1
theorem Liable_eq (f : File) (part by_ day : Int) : owe_Liable f part by_ day = bif !(slices_Contains (owe_open f day).lead part) then [] else owe_view_liable (owe_open f day) part by_ (owe_view_links (owe_open f day) part) := by kernel_rfl
theorem open_all (f : File) (day : Int) : (owe_open f day).all = f := by rw [open_eq]
theorem open_now (f : File) (day : Int) : (owe_open f day).now = record_At f day := by rw [open_eq]
theorem open_day (f : File) (day : Int) : (owe_open f day).day = day := by rw [open_eq]
/-- where a claim comes from -/
structure From (r : Realm) (forum : Int) (f : File) (day : Int) (c : Claim) (part : Int) (o : Owner) (sign : Int) : Prop where
  lead : part ∈ (owe_open f day).lead
  own : o ∈ owe_court_owners_c1 (owe_try r forum f day).1 (owe_view_links (owe_open f day) part)
  li : sign ∈ owe_view_liable (owe_open f day) part o.sign (owe_view_links (owe_open f day) part)
  st : (owe_court_state (owe_try r forum f day).1 o sign (owe_view_links (owe_open f day) part) (bind_Effects r forum f day)).1 ≠ 0
  ne : ((record_At f day).signs.getD sign.toNat default).who ≠ o.firm
  eq : c = { debtor := ((record_At f day).signs.getD sign.toNat default).who, creditor := o.firm, part := part, sign := sign, by_ := o.sign, turn := (owe_court_state (owe_try r forum f day).1 o sign (owe_view_links (owe_open f day) part) (bind_Effects r forum f day)).2, sum := (amount_Owed r forum f sign day).rest, currency := f.bill.currency, state := (owe_court_state (owe_try r forum f day).1 o sign (owe_view_links (owe_open f day) part) (bind_Effects r forum f day)).1 }
theorem claims_from {r : Realm} {forum : Int} {f : File} {day : Int} {c : Claim} (h : c ∈ owe_Claims r forum f day) : ((owe_try r forum f day).1 = ⟨owe_open f day, r, forum, ask_Maturity r forum f day⟩) ∧ ∃ part o sign, From r forum f day c part o sign := by
  rw [Claims_eq] at h
  cases ht : (owe_try r forum f day).2 with
  | false => rw [ht] at h; cases h
  | true =>
    rw [ht, Bool.not_true, cond_false] at h
    have he := try_eq ht
    refine ⟨he, ?_⟩
    unfold claimsOf at h
    have hv : (owe_try r forum f day).1.view = owe_open f day := by rw [he]
    rw [hv] at h
    obtain ⟨part, hp, h⟩ := List.mem_flatMap.1 h
    obtain ⟨o, ho, h⟩ := List.mem_flatMap.1 h
    obtain ⟨sign, hs, h⟩ := List.mem_flatMap.1 h
    unfold claimOf at h
    rw [hv, open_now] at h
    cases hc : (owe_court_state (owe_try r forum f day).1 o sign (owe_view_links (owe_open f day) part) (bind_Effects r forum f day)).1 == 0 || ((record_At f day).signs.getD sign.toNat default).who == o.firm with
    | true => rw [hc] at h; cases h
    | false =>
      rw [hc, cond_false, List.mem_singleton] at h
      simp only [Bool.or_eq_false_iff, beq_eq_false_iff_ne, ne_eq] at hc
      exact ⟨part, o, sign, hp, ho, hs, hc.1, hc.2, h⟩
theorem links_len {f : File} {day part : Int} : (owe_view_links (owe_open f day) part).length ≤ f.signs.length := by
  have := (owe_view_links_post (owe_open f day) part).1
  rwa [open_all] at this
theorem claim_facts {r : Realm} {forum : Int} {f : File} {day : Int} {c : Claim} (hF : RightF r f) (hR : r.RateOK) (h : c ∈ owe_Claims r forum f day) :
    (0 ≤ c.sign ∧ c.sign < f.signs.length) ∧ (-1 ≤ c.by_ ∧ c.by_ < f.signs.length) ∧ c.debtor = (f.signs.getD c.sign.toNat default).who ∧ c.creditor = (if 0 ≤ c.by_ then (f.signs.getD c.by_.toNat default).to_ else f.bill.payee) ∧
      c.debtor ≠ c.creditor ∧ (c.state = 1 ∨ c.state = 2) ∧ SumP c.sum ∧ c.currency = f.bill.currency ∧ c.sign ∈ owe_Liable f c.part c.by_ day := by
  obtain ⟨he, part, o, sign, k⟩ := claims_from h
  have hlen := signs_At_leR f day
  have hl := liable_mem k.li
  have hm := liTo_mem hl.2
  rw [open_now] at hm
  have hll : (owe_view_links (owe_open f day) part).length ≤ 1000000 := by have := links_len (f := f) (day := day) (part := part); have := hF.2.1.1; omega
  have hs := state_rng (owe_try r forum f day).1 o sign (owe_view_links (owe_open f day) part) (bind_Effects r forum f day) hll
  have hst := k.st
  have ho := (owners_mem k.own).1
  have hvn : (owe_try r forum f day).1.view.now = record_At f day := by rw [he]; exact open_now f day
  rw [hvn, bill_AtR] at ho
  have hby : (o.sign = -1 ∧ o.firm = f.bill.payee) ∨ (0 ≤ o.sign ∧ o.sign < f.signs.length ∧ o.firm = (f.signs.getD o.sign.toNat default).to_) := by
    rcases ho with ho | ⟨h1, h2⟩
    · exact .inl ho
    · have hk := links_mem h1
      rw [open_all, open_day] at hk
      have hin := hF.at_in hk.1 hk.2.1 hk.2.2.2.2.1
      rw [sign_AtR f day _ (by omega)] at h2
      exact .inr ⟨hk.1, hk.2.1, h2⟩
  have hown : amount_Owed r forum f sign day = amount_Owed r forum f sign day := rfl
  have hsum := amount_Owed_post r forum f sign day ⟨hF, hR⟩
  obtain rfl := k.eq
  refine ⟨⟨hm.1, by have := hm.2.1; show sign < _; omega⟩, ?_, ?_, ?_, k.ne, ?_, hsum, rfl, ?_⟩
  · show -1 ≤ o.sign ∧ o.sign < _
    rcases hby with hby | hby <;> omega
  · show ((record_At f day).signs.getD sign.toNat default).who = _
    rw [sign_AtR f day _ (by omega)]
  · show o.firm = if 0 ≤ o.sign then (f.signs.getD o.sign.toNat default).to_ else f.bill.payee
    rcases hby with hby | hby
    · rw [if_neg (by omega)]; exact hby.2
    · rw [if_pos hby.1]; exact hby.2.2
  · show (owe_court_state _ _ _ _ _).1 = 1 ∨ _
    rcases hs with hs | hs | hs
    · exact absurd hs hst
    · exact .inl hs
    · exact .inr hs
  · show sign ∈ owe_Liable f part o.sign day
    rw [Liable_eq, (contains_iff _ _).2 k.lead]
    exact k.li
/-- bases -/
theorem base_ind (v : View) (h : v.BaseOK) (P : Int → Prop) (hP : ∀ s, 0 ≤ s → s < (v.now.signs.length : Int) → P s → ((v.now.signs.getD s.toNat default).kind = 3 ∨ (v.now.signs.getD s.toNat default).kind = 4) → P ((v.now.signs.getD s.toNat default).for_)) : ∀ (fu : Nat) (sign : Int), 0 ≤ sign → sign < (v.now.signs.length : Int) → sign.toNat < fu → P sign → P (owe_view_base_n fu v sign) ∧ ¬ ((v.now.signs.getD (owe_view_base_n fu v sign).toNat default).kind = 3 ∨ (v.now.signs.getD (owe_view_base_n fu v sign).toNat default).kind = 4)
  | 0, _, _, _, h3, _ => absurd h3 (by omega)
  | fu + 1, s, h1, h2, h3, h4 => by
    have e : owe_view_base_n (fu + 1) v s = bif (((v.now.signs.getD s.toNat default).kind) == 3) || (((v.now.signs.getD s.toNat default).kind) == 4) then owe_view_base_n fu v ((v.now.signs.getD s.toNat default).for_) else s := by kernel_rfl
    rw [e]
    cases hk : (((v.now.signs.getD s.toNat default).kind) == 3) || (((v.now.signs.getD s.toNat default).kind) == 4) with
    | false =>
      refine ⟨h4, fun h => ?_⟩
      rw [cond_false] at h
      rw [Bool.or_eq_false_iff, beq_eq_false_iff_ne, beq_eq_false_iff_ne] at hk
      exact h.elim hk.1 hk.2
    | true =>
      rw [cond_true]
      have hk : (v.now.signs.getD s.toNat default).kind = 3 ∨ (v.now.signs.getD s.toNat default).kind = 4 := by simpa using hk
      have hb := h s.toNat (by omega) hk
      exact base_ind v h P hP fu _ hb.1 (by omega) (by omega) (hP s h1 h2 h4 hk)
theorem base_li {v : View} (h : v.BaseOK) {part by_ : Int} {links : List Int} {s : Int} (hs : s ∈ liTo v part by_ links v.now.signs.length) : owe_view_base v s ∈ liTo v part by_ links v.now.signs.length ∧ ¬ ((v.now.signs.getD (owe_view_base v s).toNat default).kind = 3 ∨ (v.now.signs.getD (owe_view_base v s).toNat default).kind = 4) := by
  have hm := liTo_mem hs
  refine base_ind v h (· ∈ liTo v part by_ links v.now.signs.length) (fun s h0 h1 hs hk => ?_) (s.toNat + 1) s hm.1 hm.2.1 (by omega) hs
  have hm := liTo_mem hs
  have hl := hm.2.2.2.1
  unfold liIs at hl
  have e0 : ((v.now.signs.getD s.toNat default).kind == 0) = false := by rw [beq_eq_false_iff_ne]; omega
  have e1 : ((v.now.signs.getD s.toNat default).kind == 1) = false := by rw [beq_eq_false_iff_ne]; omega
  have e2 : ((v.now.signs.getD s.toNat default).kind == 2) = false := by rw [beq_eq_false_iff_ne]; omega
  rw [e0, e1, e2, Bool.or_false, cond_false, cond_false] at hl
  exact hm.2.2.2.2 _ ((contains_iff _ _).1 hl)
theorem cntL_pos {links : List Int} {lo hi : Int} (h : lo ∈ links) (h2 : lo ≤ hi) : 1 ≤ cntL links lo hi := by
  unfold cntL
  exact List.length_pos_of_mem (a := lo) (List.mem_filter.2 ⟨h, by simp [h2]⟩)
theorem cntL_all (links : List Int) (lo hi : Int) : cntL links lo hi ≤ allL links hi := by
  unfold cntL allL
  have e : (links.filter fun l => decide (l ≤ hi) && decide (l ≥ lo)) = (links.filter fun l => decide (l ≤ hi)).filter fun l => decide (l ≥ lo) := by rw [List.filter_filter]; congr 1; funext l; rw [Bool.and_comm]
  rw [e]
  exact List.length_filter_le ..
theorem cntL_lt {links : List Int} {x y hi : Int} (hx : x ∈ links) (h1 : x ≤ hi) (h2 : x < y) : cntL links y hi < cntL links x hi := by
  unfold cntL
  have e : (links.filter fun l => decide (l ≤ hi) && decide (l ≥ y)) = (links.filter fun l => decide (l ≤ hi) && decide (l ≥ x)).filter fun l => decide (l ≥ y) := by
    rw [List.filter_filter]; congr 1; funext l
    by_cases c1 : l ≤ hi <;> by_cases c2 : l ≥ y
    · have : l ≥ x := by omega
      simp [c1, c2, this]
    · simp [c1, c2]
    · simp [c1]
    · simp [c1]
  rw [e, List.length_filter_lt_length_iff_exists]
  exact ⟨x, List.mem_filter.2 ⟨hx, by simp [h1]⟩, by simpa using h2⟩
/-- the turn of a claim hangs on its base -/
theorem claim_turn {r : Realm} {forum : Int} {f : File} {day : Int} {c : Claim} (hF : RightF r f) (h : c ∈ owe_Claims r forum f day) :
    ∃ b, b = owe_view_base (owe_open f day) c.sign ∧ (0 ≤ b ∧ b < ((record_At f day).signs.length : Int)) ∧ (0 ≤ c.sign ∧ c.sign < ((record_At f day).signs.length : Int)) ∧
      (((record_At f day).signs.getD b.toNat default).kind = 1 ∧ c.turn = 0 ∨ ((record_At f day).signs.getD b.toNat default).kind = 0 ∧ b = 0 ∧ c.turn = 1 + (allL (owe_view_links (owe_open f day) c.part) c.by_ : Int) ∨
       ((record_At f day).signs.getD b.toNat default).kind = 2 ∧ b ≤ c.by_ ∧ b ∈ owe_view_links (owe_open f day) c.part ∧ c.turn = (cntL (owe_view_links (owe_open f day) c.part) b c.by_ : Int)) := by
  obtain ⟨he, part, o, sign, k⟩ := claims_from h
  have hlen := signs_At_leR f day
  have hl := liable_mem k.li
  have hm := liTo_mem hl.2
  have hB : (owe_open f day).BaseOK := by unfold View.BaseOK; rw [open_now]; exact hF.at_base day
  have hb := base_li hB hl.2
  have hbm := liTo_mem hb.1
  rw [open_now] at hm hb hbm
  have hll : (owe_view_links (owe_open f day) part).length ≤ 1000000 := by have := links_len (f := f) (day := day) (part := part); have := hF.2.1.1; omega
  have hst := k.st
  obtain rfl := k.eq
  refine ⟨owe_view_base (owe_open f day) sign, rfl, ⟨hbm.1, hbm.2.1⟩, ⟨hm.1, hm.2.1⟩, ?_⟩
  have hv : (owe_try r forum f day).1.view = owe_open f day := by rw [he]
  have hk := (hF.2.2.1 (owe_view_base (owe_open f day) sign).toNat (by omega)).2.2.2.2.2
  unfold FitOK at hk
  rw [← sign_AtR f day (owe_view_base (owe_open f day) sign).toNat (by omega)] at hk
  have hli := hbm.2.2.2.1
  have hnk := hb.2
  dsimp only
  rw [state_eq _ _ _ _ _ hll, hv, open_now] at hst ⊢
  generalize owe_view_base (owe_open f day) sign = b at *
  generalize hs : (record_At f day).signs.getD b.toNat default = s at *
  by_cases h1 : s.kind = 1
  · refine .inl ⟨h1, ?_⟩
    rw [show (s.kind == 1) = true by simpa using h1, cond_true]
    cases payableC (owe_try r forum f day).1 <;> rfl
  · rw [show (s.kind == 1) = false by simpa using h1, cond_false] at hst ⊢
    cases hc : ((!(payableC (owe_try r forum f day).1)) && (!(slices_ContainsFunc_73 (record_At f day).acts))) || (!(((bind_Effects r forum f day).getD b.toNat default).recourse)) with
    | true => rw [hc, cond_true] at hst; exact absurd rfl hst
    | false =>
      rw [cond_false]
      by_cases h2 : s.kind = 2
      · unfold liIs at hli
        rw [open_now, hs, show (s.kind == 0) = false by rw [h2]; rfl, show (s.kind == 1) = false by rw [h2]; rfl, show (s.kind == 2) = true by rw [h2]; rfl, Bool.or_false, cond_false, cond_true, Bool.and_eq_true, Bool.and_eq_true, decide_eq_true_eq] at hli
        have e : ((b.toNat : Nat) : Int) = b := by omega
        rw [e] at hli
        have hin := (contains_iff _ _).1 hli.2
        refine .inr (.inr ⟨h2, hli.1.1, hin, ?_⟩)
        rw [hli.2]; rfl
      · have h0 : s.kind = 0 := by omega
        have hb0 : b = 0 := by have := hk.2.2.1.1 h0; omega
        refine .inr (.inl ⟨h0, hb0, ?_⟩)
        have hn : slices_Contains (owe_view_links (owe_open f day) part) b = false := by
          cases hcb : slices_Contains (owe_view_links (owe_open f day) part) b with
          | false => rfl
          | true =>
            have hm2 := links_mem ((contains_iff _ _).1 hcb)
            rw [open_all] at hm2
            rw [sign_AtR f day b.toNat (by omega)] at hs
            rw [hs] at hm2
            omega
        rw [hn]; rfl
theorem claim_turns {r : Realm} {forum : Int} {f : File} {day : Int} (hF : RightF r f) {c : Claim} (h : c ∈ owe_Claims r forum f day) : ∃ b, b = owe_view_base (owe_open f day) c.sign ∧ (0 ≤ b ∧ b < ((record_At f day).signs.length : Int)) ∧ (0 ≤ c.sign ∧ c.sign < ((record_At f day).signs.length : Int)) ∧ (c.turn = 0 ↔ ((record_At f day).signs.getD b.toNat default).kind = 1) ∧ 0 ≤ c.turn ∧
    ∀ d, d ∈ owe_Claims r forum f day → c.part = d.part → c.by_ = d.by_ → c.turn ≠ 0 → d.turn ≠ 0 → ∀ y, y = owe_view_base (owe_open f day) d.sign → (b = y → c.turn = d.turn) ∧ (b < y → d.turn < c.turn) ∧ (y < b → c.turn < d.turn) := by
  obtain ⟨b, e, h1, h2, h3⟩ := claim_turn hF h
  refine ⟨b, e, h1, h2, ?_, ?_, fun d hd e1 e2 t1 t2 y ey => ?_⟩
  · rcases h3 with h3 | h3 | h3
    · exact ⟨fun _ => h3.1, fun _ => h3.2⟩
    · rw [h3.1, h3.2.2]; exact ⟨fun h => absurd h (by omega), fun h => absurd h (by decide)⟩
    · rw [h3.1]
      have := cntL_pos h3.2.2.1 h3.2.1
      exact ⟨fun h => absurd h (by omega), fun h => absurd h (by decide)⟩
  · omega
  · obtain ⟨b', e', h1', h2', h3'⟩ := claim_turn hF hd
    have hby : b' = y := by rw [e', ey]
    subst hby
    rw [← e1, ← e2] at h3'
    rcases h3 with h3 | h3 | h3
    · exact absurd h3.2 t1
    · rcases h3' with h3' | h3' | h3'
      · exact absurd h3'.2 t2
      · exact ⟨fun _ => by omega, fun h => by omega, fun h => by omega⟩
      · have := cntL_all (owe_view_links (owe_open f day) c.part) b' c.by_
        refine ⟨fun h => ?_, fun _ => by omega, fun h => by omega⟩
        subst h
        rw [h3.1] at h3'
        omega
    · rcases h3' with h3' | h3' | h3'
      · exact absurd h3'.2 t2
      · have := cntL_all (owe_view_links (owe_open f day) c.part) b c.by_
        refine ⟨fun h => ?_, fun h => by omega, fun _ => by omega⟩
        subst h
        rw [h3.1] at h3'
        omega
      · refine ⟨fun h => by subst h; omega, fun h => ?_, fun h => ?_⟩
        · have := cntL_lt (hi := c.by_) h3.2.2.1 h3.2.1 h; omega
        · have := cntL_lt (hi := c.by_) h3'.2.2.1 h3'.2.1 h; omega
noncomputable def allongelaw26_OweTurns_sk (r : Realm) (forum : Int) (f : File) (day : Int) : Sk (Bool) :=
 .r 1 allongelaw26_sane_k.c fun x1 =>
 .r 2 ((allongelaw26_few_k r f).c) fun x2 =>
 .br (!x2)
 (.fin x1)
 (.r 4 ((owe_Claims_k r forum f day).c) fun x3 =>
 .r 5 ((allongeref14_At_k f day).c) fun x4 =>
 .bind true (fun _ => True)
 (.loop (default : Sum (Bool) (Unit)) (fun i6 => i6 ≤ x3.length) (fun i6 => x3.length - i6) (0 : Nat)
 (fun (i6 : Nat) => ⟨[(12, iv ((i6 : Nat) : Int))], []⟩) fun i6 =>
 .bnd 10 0 x3.length <|
 .br (decide (((i6 : Nat) : Int) < ((x3.length : Nat) : Int)))
 (.bind true (fun _ => True)
 (.r 9 (.andl (.p (ixP ((i6 : Nat) : Int) x3.length)) (.wh (decide (((x3.getD i6 default).sign) < 0)) false (.p (ixP ((i6 : Nat) : Int) x3.length)))) fun _ =>
 .br ((decide (((x3.getD i6 default).sign) < 0)) || (decide (((x3.getD i6 default).sign) ≥ ((x4.signs.length : Nat) : Int))))
 (.fin (.inl (.inl (.inl false))))
 (.r 11 (.andl (.p (ixP ((i6 : Nat) : Int) x3.length)) ((allongeref26_Base_k x4 ((x3.getD i6 default).sign)).c)) fun x8 =>
 .r 12 (.andl (.p (ixP ((i6 : Nat) : Int) x3.length)) (.andl (.p (ixP x8 x4.signs.length)) (.wh (!((((x3.getD i6 default).turn) == 0) == (((x4.signs.getD x8.toNat default).kind) == 1))) false (.p (ixP ((i6 : Nat) : Int) x3.length))))) fun _ =>
 .br ((!((((x3.getD i6 default).turn) == 0) == (((x4.signs.getD x8.toNat default).kind) == 1))) || (decide (((x3.getD i6 default).turn) < 0)))
 (.fin (.inl (.inl (.inl false))))
 (.bind true (fun _ => True)
 (.loop (default : Sum (Sum (Sum (Sum (Bool) (Unit)) (Nat)) (Unit)) (Int)) (fun i10 => i10 ≤ i6) (fun i10 => i6 - i10) (0 : Nat)
 (fun (i10 : Nat) => ⟨[(14, iv ((i10 : Nat) : Int))], []⟩) fun i10 =>
 .br (decide (((i10 : Nat) : Int) < ((i6 : Nat) : Int)))
 (.r 17 (.andl (.p (ixP ((i10 : Nat) : Int) x3.length)) ((allongeref26_Base_k x4 ((x3.getD i10 default).sign)).c)) fun x11 =>
 .r 18 (.andl (.p (ixP ((i6 : Nat) : Int) x3.length)) (.andl (.p (ixP ((i10 : Nat) : Int) x3.length)) (.andl (.wh (((x3.getD i6 default).part) != ((x3.getD i10 default).part)) false (.p (ixP ((i6 : Nat) : Int) x3.length))) (.andl (.wh (((x3.getD i6 default).part) != ((x3.getD i10 default).part)) false (.p (ixP ((i10 : Nat) : Int) x3.length))) (.andl (.wh ((((x3.getD i6 default).part) != ((x3.getD i10 default).part)) || (((x3.getD i6 default).by_) != ((x3.getD i10 default).by_))) false (.p (ixP ((i6 : Nat) : Int) x3.length))) (.wh (((((x3.getD i6 default).part) != ((x3.getD i10 default).part)) || (((x3.getD i6 default).by_) != ((x3.getD i10 default).by_))) || (((x3.getD i6 default).turn) == 0)) false (.p (ixP ((i10 : Nat) : Int) x3.length)))))))) fun _ =>
 .br ((((((x3.getD i6 default).part) != ((x3.getD i10 default).part)) || (((x3.getD i6 default).by_) != ((x3.getD i10 default).by_))) || (((x3.getD i6 default).turn) == 0)) || (((x3.getD i10 default).turn) == 0))
 (.r 16 .z fun _ =>
 .wi 14 (w64 (((i10 : Nat) : Int) + 1)) ((i10 + 1 : Nat) : Int) <|
 .fin (.inr (i10 + 1)))
 (.r 19 (.andl (.wh (x8 == x11) true (.p (ixP ((i6 : Nat) : Int) x3.length))) (.andl (.wh (x8 == x11) true (.p (ixP ((i10 : Nat) : Int) x3.length))) (.andl (.wh ((x8 == x11) && (((x3.getD i6 default).turn) != ((x3.getD i10 default).turn))) false (.wh (decide (x8 < x11)) true (.p (ixP ((i6 : Nat) : Int) x3.length)))) (.andl (.wh ((x8 == x11) && (((x3.getD i6 default).turn) != ((x3.getD i10 default).turn))) false (.wh (decide (x8 < x11)) true (.p (ixP ((i10 : Nat) : Int) x3.length)))) (.andl (.wh (((x8 == x11) && (((x3.getD i6 default).turn) != ((x3.getD i10 default).turn))) || ((decide (x8 < x11)) && (decide (((x3.getD i6 default).turn) ≤ ((x3.getD i10 default).turn))))) false (.wh (decide (x11 < x8)) true (.p (ixP ((i10 : Nat) : Int) x3.length)))) (.wh (((x8 == x11) && (((x3.getD i6 default).turn) != ((x3.getD i10 default).turn))) || ((decide (x8 < x11)) && (decide (((x3.getD i6 default).turn) ≤ ((x3.getD i10 default).turn))))) false (.wh (decide (x11 < x8)) true (.p (ixP ((i6 : Nat) : Int) x3.length))))))))) fun _ =>
 .br ((((x8 == x11) && (((x3.getD i6 default).turn) != ((x3.getD i10 default).turn))) || ((decide (x8 < x11)) && (decide (((x3.getD i6 default).turn) ≤ ((x3.getD i10 default).turn))))) || ((decide (x11 < x8)) && (decide (((x3.getD i10 default).turn) ≤ ((x3.getD i6 default).turn)))))
 (.fin (.inl (.inl (.inl (.inl (.inl false))))))
 (.r 16 .z fun _ =>
 .wi 14 (w64 (((i10 : Nat) : Int) + 1)) ((i10 + 1 : Nat) : Int) <|
 .fin (.inr (i10 + 1)))))
 (.fin (.inl (.inr ((i10 : Nat) : Int)))))
 (fun (b9 : Int) => ⟨[(14, iv b9)], []⟩) fun _ =>
 .fin (.inr ()))))
 (fun (_ : Unit) => ⟨[], []⟩) fun _ =>
 .r 8 .z fun _ =>
 .wi 12 (w64 (((i6 : Nat) : Int) + 1)) ((i6 + 1 : Nat) : Int) <|
 .fin (.inr (i6 + 1)))
 (.fin (.inl (.inr ()))))
 (fun (_ : Unit) => ⟨[], []⟩) fun _ =>
 .fin x1)
noncomputable def allongelaw26_OweTurns (r : Realm) (forum : Int) (f : File) (day : Int) : Bool := (allongelaw26_OweTurns_sk r forum f day).val
theorem allongelaw26_OweTurns_pst (r : Realm) (forum : Int) (f : File) (day : Int) : (allongelaw26_OweTurns_sk r forum f day).pst (fun (x : Bool) => x = true) := by
  refine Sk.pst_of _ ?_
  unfold allongelaw26_OweTurns_sk
  simp only [Sk.pstq, Sk.isLoop, reduceCtorEq, ON, kk, allongelaw26_few_k, allongelaw26_sane_k, allongeref14_At_k, allongeref26_Base_k, owe_Claims_k, maxLen]
  intro x hx hs y hy hF
  refine ⟨fun _ => hs, fun h0 l hl now _ hnow => ⟨⟨Nat.zero_le _, fun i hi hc => ?_⟩, fun _ => hs⟩⟩
  have hR := (hF (by simpa using h0)).2.2.2.2.2
  subst hnow
  simp only [LN] at hc
  have hil : i < l.length := by omega
  have hBa := hR.at_base day
  have key : ∀ i, i < l.length → ∃ b, b = owe_view_base (owe_open f day) (l.getD i default).sign ∧ (0 ≤ b ∧ b < ((record_At f day).signs.length : Int)) ∧ (0 ≤ (l.getD i default).sign ∧ (l.getD i default).sign < ((record_At f day).signs.length : Int)) ∧ ((l.getD i default).turn = 0 ↔ ((record_At f day).signs.getD b.toNat default).kind = 1) ∧ 0 ≤ (l.getD i default).turn ∧
    ∀ d, d ∈ owe_Claims r forum f day → (l.getD i default).part = d.part → (l.getD i default).by_ = d.by_ → (l.getD i default).turn ≠ 0 → d.turn ≠ 0 → ∀ y, y = owe_view_base (owe_open f day) d.sign → (b = y → (l.getD i default).turn = d.turn) ∧ (b < y → d.turn < (l.getD i default).turn) ∧ (y < b → (l.getD i default).turn < d.turn) := fun i hil => claim_turns hR (show l.getD i default ∈ owe_Claims r forum f day from hl ▸ lget_mem hil _)
  obtain ⟨b, eb, hb, hsn, ht, ht0, hT⟩ := key i hil
  refine ⟨fun _ => ⟨fun h => ?_, fun _ z _ hz _ => ?_⟩, fun _ => ?_⟩
  · simp only [LN] at h
    omega
  · have ez : z = b := ((hz ⟨hBa, hsn⟩).2 (owe_open f day) (open_now f day)).trans eb.symm
    refine ⟨fun h => ?_, fun _ => ⟨Nat.zero_le _, fun j hj hcj w _ hw _ => ?_⟩⟩
    · have e : ((l.getD i default).turn == 0) = (((record_At f day).signs.getD b.toNat default).kind == 1) := by rw [Bool.eq_iff_iff, beq_iff_eq, beq_iff_eq]; exact ht
      rw [ez, e, beq_self_eq_true, Bool.not_true, Bool.false_or, decide_eq_true_eq] at h
      omega
    · simp only [LN] at hcj
      refine ⟨fun _ _ => ⟨by omega, by omega⟩, fun hd _ => ⟨fun h => ?_, fun _ _ => ⟨by omega, by omega⟩⟩⟩
      obtain ⟨b', eb', hb', hsn', -⟩ := key j (by omega)
      have ew : w = owe_view_base (owe_open f day) (l.getD j default).sign := (hw ⟨hBa, hsn'⟩).2 (owe_open f day) (open_now f day)
      simp only [LN] at hd h
      have q := hT _ (show l.getD j default ∈ owe_Claims r forum f day from hl ▸ lget_mem (show j < l.length by omega) _) (by omega) (by omega) (by omega) (by omega) w ew
      rw [ez] at h
      omega
  · intros
    exact ⟨by omega, by omega⟩

theorem allongelaw26_OweTurns_post (r : Realm) (forum : Int) (f : File) (day : Int) : (fun (x : Bool) => x = true) (allongelaw26_OweTurns r forum f day) := have h := Sk.pval _ (allongelaw26_OweTurns_pst r forum f day); h
theorem allongelaw26_OweTurns_ok (r : Realm) (forum : Int) (f : File) (day : Int) : (allongelaw26_OweTurns_sk r forum f day).obs (fun _ => True) := by
  refine Sk.obs_of _ ?_
  unfold allongelaw26_OweTurns_sk
  simp only [Sk.obq, Sk.isLoop, reduceCtorEq, ON, kk, allongelaw26_few_k, allongelaw26_sane_k, allongeref14_At_k, allongeref26_Base_k, owe_Claims_k, maxLen]
  intro x hx hs y hy hF h0
  have hF := hF (by simpa using h0)
  have hR := hF.2.2.2.2.2
  have hBa := hR.at_base day
  refine ⟨⟨hR, hR.small, hF.2.1, hF.1, hF.2.2.2.1, hF.2.2.2.2.1⟩, fun l hl => ⟨hR.small, fun now _ hnow => ⟨Nat.zero_le _, fun i hi hm hc => ?_⟩⟩⟩
  subst hnow
  simp only [LN] at hc
  have hil : i < l.length := by omega
  have w1 : ∀ (i : Nat) n, i < n → n ≤ 9223372036854775807 → w64 ((i : Int) + 1) = ((i + 1 : Nat) : Int) := fun i n h h2 => (w64_id (by omega) (by omega)).trans (by omega)
  have ix : ∀ k : Nat, k < l.length → 0 ≤ (k : Int) ∧ (k : Int) < (l.length : Int) := fun k hk => ⟨by omega, by omega⟩
  have hsn : ∀ k, k < l.length → 0 ≤ (l.getD k default).sign ∧ (l.getD k default).sign < ((record_At f day).signs.length : Int) := fun k hk => by
    obtain ⟨b, eb, hb, h, -⟩ := claim_turns hR (show l.getD k default ∈ owe_Claims r forum f day from hl ▸ lget_mem hk _)
    exact h
  have hi0 := ix i hil
  refine ⟨⟨⟨hi0, fun _ => hi0⟩, fun _ _ => ⟨⟨hi0, hBa, hsn i hil⟩, fun z _ hz => ⟨⟨hi0, (hz ⟨hBa, hsn i hil⟩).1, fun _ => hi0⟩, fun _ _ => ⟨Nat.zero_le _, fun j hj hcj => ?_⟩⟩⟩⟩, fun _ _ _ => ⟨w1 _ _ hil hm, by omega, by omega⟩⟩
  simp only [LN] at hcj
  have hjl : j < l.length := by omega
  have hj0 := ix j hjl
  refine ⟨⟨hj0, hBa, hsn j hjl⟩, fun w _ hw => ⟨⟨hi0, hj0, fun _ => hi0, fun _ => hj0, fun _ => hi0, fun _ => hj0⟩, fun _ => ⟨fun _ _ => ⟨w1 _ l.length hjl hm, by omega, by omega⟩, fun _ => ⟨⟨fun _ => hi0, fun _ => hj0, fun _ _ => hi0, fun _ _ => hj0, fun _ _ => hj0, fun _ _ => hi0⟩, fun _ _ _ => ⟨w1 _ l.length hjl hm, by omega, by omega⟩⟩⟩⟩⟩

noncomputable def allongelaw26_OweTurns_k (r : Realm) (forum : Int) (f : File) (day : Int) : Ctr (Bool) := kk tok mixed Tryz.func5 [av r.cells, iv forum, av f.cells, iv day] (fun x => bv x) true (allongelaw26_OweTurns_sk r forum f day) (allongelaw26_OweTurns r forum f day) (fun (_ : True) => allongelaw26_OweTurns_ok r forum f day) (fun (x : Bool) => x = true) (allongelaw26_OweTurns_post r forum f day)
theorem allongelaw26_OweTurns_fn (r : Realm) (forum : Int) (f : File) (day : Int) : FnA Tryz.prog 5 [av r.cells, iv forum, av f.cells, iv day] [] (bv (allongelaw26_OweTurns r forum f day)) [] := (allongelaw26_OweTurns_k r forum f day).pf trivial
end Go.Proofs.YtjaehpinmdpmbaaGreatDoor

