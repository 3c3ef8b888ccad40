/- Functions, as sketches. -/
import Derived.Test.YtjaehpinmdpmbaaGreatDoorOl14
namespace Go.Proofs.YtjaehpinmdpmbaaGreatDoor
open Go Go.Av
set_option linter.unusedSimpArgs false
set_option linter.unusedVariables false
set_option maxHeartbeats 1000000
set_option maxRecDepth 100000
theorem tw_len_eq {α : Type} [Inhabited α] (p : α → Bool) : ∀ (l : List α) (i : Nat), i ≤ l.length → (∀ q, q < i → p (l.getD q default) = true) → (i = l.length ∨ p (l.getD i default) = false) → i = (l.takeWhile p).length
  | [], i, h, _, _ => by simpa using h
  | x :: r, 0, _, _, h => by
    have h : p x = false := by
      rcases h with h | h
      · simp at h
      · exact h
    rw [List.takeWhile_cons, h]; rfl
  | x :: r, i + 1, h, hp, he => by
    have h0 : p x = true := hp 0 (by omega)
    rw [List.takeWhile_cons, h0, if_pos rfl, List.length_cons]
    have := tw_len_eq p r i (by simpa using h) (fun q hq => hp (q + 1) (by omega)) (by simpa using he)
    omega
theorem subL_take {α : Type} [Inhabited α] (l : List α) (n : Nat) (h : n ≤ l.length) : subL l 0 n = l.take n := by
  refine List.ext_getElem (by simp [subL]; omega) (fun i h1 h2 => ?_)
  have hi : i < l.length := by rw [subL_length] at h1; omega
  simp [subL, List.getD, hi]
theorem subL_tw {α : Type} [Inhabited α] (p : α → Bool) (l : List α) : subL l 0 (l.takeWhile p).length = l.takeWhile p := by
  rw [subL_take _ _ (List.takeWhile_sublist _).length_le]
  exact (List.prefix_iff_eq_take.1 (List.takeWhile_prefix p)).symm
theorem filter_take {α : Type} [Inhabited α] (p : α → Bool) (l : List α) (i : Nat) (h : i < l.length) : (l.take (i + 1)).filter p = (l.take i).filter p ++ (bif p (l.getD i default) then [l.getD i default] else []) := by
  rw [List.take_succ_eq_append_getElem h, List.filter_append, show l.getD i default = l[i] by simp [List.getD, h]]
  cases hc : p l[i] <;> simp [hc]
theorem dayExt {P : Nat → Prop} {i : Nat} (h : ∀ q, q < i → P q) (h2 : P i) (q : Nat) (hq : q < i + 1) : P q := (Nat.lt_succ_iff_lt_or_eq.1 hq).elim (h q) (fun e => e ▸ h2)
theorem filter_take_le {α : Type} (p : α → Bool) (l : List α) (i : Nat) : ((l.take i).filter p).length ≤ i := Nat.le_trans (List.length_filter_le _ _) (by rw [List.length_take]; exact Nat.min_le_left _ _)
noncomputable def allongeref14_At_sk (f : File) (day : Int) : Sk (File) :=
 .bind true (fun b1 => b1 = ((f.signs.takeWhile (fun s => decide (s.day ≤ day))).length : Int))
 (.loop (default : Sum (File) (Int)) (fun i2 => i2 ≤ f.signs.length ∧ ∀ q, q < i2 → (f.signs.getD q default).day ≤ day) (fun i2 => f.signs.length - i2) (0 : Nat)
 (fun (i2 : Nat) => ⟨[(5, iv ((i2 : Nat) : Int))], []⟩) fun i2 =>
 .bnd 2 15 f.signs.length <|
 .r 2 (.wh (decide (((i2 : Nat) : Int) < ((f.signs.length : Nat) : Int))) true (.p (ixP ((i2 : Nat) : Int) f.signs.length))) fun _ =>
 .br ((decide (((i2 : Nat) : Int) < ((f.signs.length : Nat) : Int))) && (decide (((f.signs.getD i2 default).day) ≤ day)))
 (.r 3 .z fun _ =>
 .wi 5 (w64 (((i2 : Nat) : Int) + 1)) ((i2 + 1 : Nat) : Int) <|
 .fin (.inr (i2 + 1)))
 (.fin (.inl (.inr ((i2 : Nat) : Int)))))
 (fun (b1 : Int) => ⟨[(5, iv b1)], []⟩) fun b1 =>
 .bind true (fun b3 => b3 = ((f.acts.takeWhile (fun s => decide (s.day ≤ day))).length : Int))
 (.loop (default : Sum (File) (Int)) (fun i4 => i4 ≤ f.acts.length ∧ ∀ q, q < i4 → (f.acts.getD q default).day ≤ day) (fun i4 => f.acts.length - i4) (0 : Nat)
 (fun (i4 : Nat) => ⟨[(6, iv ((i4 : Nat) : Int))], []⟩) fun i4 =>
 .bnd 2 17 f.acts.length <|
 .r 5 (.wh (decide (((i4 : Nat) : Int) < ((f.acts.length : Nat) : Int))) true (.p (ixP ((i4 : Nat) : Int) f.acts.length))) fun _ =>
 .br ((decide (((i4 : Nat) : Int) < ((f.acts.length : Nat) : Int))) && (decide (((f.acts.getD i4 default).day) ≤ day)))
 (.r 6 .z fun _ =>
 .wi 6 (w64 (((i4 : Nat) : Int) + 1)) ((i4 + 1 : Nat) : Int) <|
 .fin (.inr (i4 + 1)))
 (.fin (.inl (.inr ((i4 : Nat) : Int)))))
 (fun (b3 : Int) => ⟨[(6, iv b3)], []⟩) fun b3 =>
 .r 7 (.andl (.o [.nrm (litC Sign.E ([] : List Sign))]) (.andl (.andl (.o [.nrm (subC Sign.E f.signs 0 b1.toNat)]) (.pt (0 ≤ b1 ∧ b1 ≤ ((f.signs.length : Nat) : Int)) (Sign.E.lens f.signs))) (.andl (.andl (.o [.nrm (catC Sign.E ([] : List Sign) (subL f.signs 0 b1.toNat))]) (.andl (.t (Sign.E.src (subL f.signs 0 b1.toNat))) (.p (szP (([] : List Sign).length) (subL f.signs 0 b1.toNat).length 72)))) (.andl (.o [.nrm (litC ActX.E ([] : List ActX))]) (.andl (.andl (.o [.nrm (subC ActX.E f.acts 0 b3.toNat)]) (.pt (0 ≤ b3 ∧ b3 ≤ ((f.acts.length : Nat) : Int)) (ActX.E.lens f.acts))) (.andl (.o [.nrm (catC ActX.E ([] : List ActX) (subL f.acts 0 b3.toNat))]) (.andl (.t (ActX.E.src (subL f.acts 0 b3.toNat))) (.p (szP (([] : List ActX).length) (subL f.acts 0 b3.toNat).length 72))))))))) fun _ =>
 .bind true (fun b5 => b5 = f.alters.filter (fun a => decide (a.at_ ≤ b1)))
 (.loop (default : Sum (File) ((List Alter))) (fun i6 => i6.1 ≤ f.alters.length ∧ i6.2 = (f.alters.take i6.1).filter (fun a => decide (a.at_ ≤ b1))) (fun i6 => f.alters.length - i6.1) ((0, []) : Nat × (List Alter))
 (fun (i6 : Nat × (List Alter)) => ⟨[(8, iv ((i6.1 : Nat) : Int))], [(100002, rowB 111 2 Alter.cells i6.2), (7, .box (f.bill.cells.map .d ++ [ow 51 (([] : List Sign) ++ (subL f.signs 0 b1.toNat)), ow 100002 i6.2, ow 57 (([] : List ActX) ++ (subL f.acts 0 b3.toNat))] ++ [nv]))]⟩) fun i6 =>
 .bnd 2 16 f.alters.length <|
 .br (decide (((i6.1 : Nat) : Int) < ((f.alters.length : Nat) : Int)))
 (.r 11 (.p (ixP ((i6.1 : Nat) : Int) f.alters.length)) fun _ =>
 .br (decide (((f.alters.getD i6.1 default).at_) ≤ b1))
 (.r 12 (.andl (.p (ixP ((i6.1 : Nat) : Int) f.alters.length)) (.andl (.o [.nrm (litC Alter.E [f.alters.getD i6.1 default])]) (.andl (.o [.nrm (catC Alter.E i6.2 [f.alters.getD i6.1 default])]) (.andl (.t (Alter.E.ones [f.alters.getD i6.1 default])) (.p (szP i6.2.length [f.alters.getD i6.1 default].length 16)))))) fun _ =>
 .r 10 .z fun _ =>
 .wi 8 (w64 (((i6.1 : Nat) : Int) + 1)) ((i6.1 + 1 : Nat) : Int) <|
 .fin (.inr (i6.1 + 1, i6.2 ++ [f.alters.getD i6.1 default])))
 (.r 10 .z fun _ =>
 .wi 8 (w64 (((i6.1 : Nat) : Int) + 1)) ((i6.1 + 1 : Nat) : Int) <|
 .fin (.inr (i6.1 + 1, i6.2))))
 (.fin (.inl (.inr i6.2))))
 (fun (b5 : (List Alter)) => ⟨[], [(100001, rowB 111 2 Alter.cells b5), (7, .box (f.bill.cells.map .d ++ [ow 51 (([] : List Sign) ++ (subL f.signs 0 b1.toNat)), ow 100001 b5, ow 57 (([] : List ActX) ++ (subL f.acts 0 b3.toNat))] ++ [nv]))]⟩) fun b5 =>
 .bind true (fun b7 => b7 = f.facts.filter (fun x => decide (x.at_ ≥ 0) && decide (x.at_ < b1)))
 (.loop (default : Sum (File) ((List Fact))) (fun i8 => i8.1 ≤ f.facts.length ∧ i8.2 = (f.facts.take i8.1).filter (fun x => decide (x.at_ ≥ 0) && decide (x.at_ < b1))) (fun i8 => f.facts.length - i8.1) ((0, []) : Nat × (List Fact))
 (fun (i8 : Nat × (List Fact)) => ⟨[(9, iv ((i8.1 : Nat) : Int))], [(100005, rowB 113 3 Fact.cells i8.2), (7, .box (f.bill.cells.map .d ++ [ow 51 (([] : List Sign) ++ (subL f.signs 0 b1.toNat)), ow 100001 b5, ow 57 (([] : List ActX) ++ (subL f.acts 0 b3.toNat)), ow 100005 i8.2]))]⟩) fun i8 =>
 .bnd 2 18 f.facts.length <|
 .br (decide (((i8.1 : Nat) : Int) < ((f.facts.length : Nat) : Int)))
 (.r 16 (.andl (.p (ixP ((i8.1 : Nat) : Int) f.facts.length)) (.wh (decide (((f.facts.getD i8.1 default).at_) ≥ 0)) true (.p (ixP ((i8.1 : Nat) : Int) f.facts.length)))) fun _ =>
 .br ((decide (((f.facts.getD i8.1 default).at_) ≥ 0)) && (decide (((f.facts.getD i8.1 default).at_) < b1)))
 (.r 17 (.andl (.p (ixP ((i8.1 : Nat) : Int) f.facts.length)) (.andl (.o [.nrm (litC Fact.E [f.facts.getD i8.1 default])]) (.andl (.o [.nrm (catC Fact.E i8.2 [f.facts.getD i8.1 default])]) (.andl (.t (Fact.E.ones [f.facts.getD i8.1 default])) (.p (szP i8.2.length [f.facts.getD i8.1 default].length 24)))))) fun _ =>
 .r 15 .z fun _ =>
 .wi 9 (w64 (((i8.1 : Nat) : Int) + 1)) ((i8.1 + 1 : Nat) : Int) <|
 .fin (.inr (i8.1 + 1, i8.2 ++ [f.facts.getD i8.1 default])))
 (.r 15 .z fun _ =>
 .wi 9 (w64 (((i8.1 : Nat) : Int) + 1)) ((i8.1 + 1 : Nat) : Int) <|
 .fin (.inr (i8.1 + 1, i8.2))))
 (.fin (.inl (.inr i8.2))))
 (fun (b7 : (List Fact)) => ⟨[], [(100004, rowB 113 3 Fact.cells b7), (7, .box (f.bill.cells.map .d ++ [ow 51 (([] : List Sign) ++ (subL f.signs 0 b1.toNat)), ow 100001 b5, ow 57 (([] : List ActX) ++ (subL f.acts 0 b3.toNat)), ow 100004 b7]))]⟩) fun b7 =>
 .fin ({ f with signs := ([] : List Sign) ++ (subL f.signs 0 b1.toNat), alters := b5, acts := ([] : List ActX) ++ (subL f.acts 0 b3.toNat), facts := b7 })
noncomputable def allongeref14_At (f : File) (day : Int) : File := (allongeref14_At_sk f day).val
theorem allongeref14_At_pst (f : File) (day : Int) : (allongeref14_At_sk f day).pst (fun (x : File) => x = record_At f day) := by
  refine Sk.pst_of _ ?_
  unfold allongeref14_At_sk
  simp only [Sk.pstq, Sk.isLoop, reduceCtorEq, ON, kk, File.Small, Realm.Small, maxLen]
  refine ⟨⟨⟨Nat.zero_le _, fun q hq => absurd hq (by omega)⟩, fun i hi _ => ⟨fun hc _ => ?_, fun hc => ?_⟩⟩, fun b1 hb1 => ⟨⟨⟨Nat.zero_le _, fun q hq => absurd hq (by omega)⟩, fun i hi _ => ⟨fun hc _ => ?_, fun hc => ?_⟩⟩, fun b3 hb3 _ => ⟨⟨⟨Nat.zero_le _, rfl⟩, fun i hi => ⟨fun hc _ => ⟨fun h _ _ => ?_, fun h _ => ?_⟩, fun hc => ?_⟩⟩, fun b5 hb5 => ⟨⟨⟨Nat.zero_le _, rfl⟩, fun i hi => ⟨fun hc _ => ⟨fun h _ _ => ?_, fun h _ => ?_⟩, fun hc => ?_⟩⟩, fun b7 hb7 => ?_⟩⟩⟩⟩
  · simp only [LN] at hc
    exact ⟨⟨by omega, dayExt hi.2 hc.2⟩, by omega⟩
  · simp only [LN] at hc
    have := tw_len_eq (fun s : Sign => decide (s.day ≤ day)) f.signs i hi.1 (fun q hq => decide_eq_true (hi.2 q hq)) (by rw [decide_eq_false_iff_not]; omega)
    omega
  · simp only [LN] at hc
    exact ⟨⟨by omega, dayExt hi.2 hc.2⟩, by omega⟩
  · simp only [LN] at hc
    have := tw_len_eq (fun s : ActX => decide (s.day ≤ day)) f.acts i hi.1 (fun q hq => decide_eq_true (hi.2 q hq)) (by rw [decide_eq_false_iff_not]; omega)
    omega
  · simp only [LN] at hc
    refine ⟨⟨by omega, ?_⟩, by omega⟩
    rw [filter_take _ _ _ (by omega), ← hi.2]; simp only [h, cond_true]
  · simp only [LN] at hc
    refine ⟨⟨by omega, ?_⟩, by omega⟩
    rw [filter_take _ _ _ (by omega), ← hi.2]; simp only [h, cond_false, List.append_nil]
  · simp only [LN] at hc
    have e : i.1 = f.alters.length := by omega
    rw [hi.2, e, List.take_length]
  · simp only [LN] at hc
    refine ⟨⟨by omega, ?_⟩, by omega⟩
    rw [filter_take _ _ _ (by omega), ← hi.2]; simp only [h, cond_true]
  · simp only [LN] at hc
    refine ⟨⟨by omega, ?_⟩, by omega⟩
    rw [filter_take _ _ _ (by omega), ← hi.2]; simp only [h, cond_false, List.append_nil]
  · simp only [LN] at hc
    have e : i.1 = f.facts.length := by omega
    rw [hi.2, e, List.take_length]
  · subst hb1 hb3 hb5 hb7
    rw [Int.toNat_natCast, Int.toNat_natCast, subL_tw, subL_tw, List.nil_append, List.nil_append, record_At_eq]

theorem allongeref14_At_post (f : File) (day : Int) : (fun (x : File) => x = record_At f day) (allongeref14_At f day) := have h := Sk.pval _ (allongeref14_At_pst f day); h
theorem allongeref14_At_ok (f : File) (day : Int) (hf : f.Small) : (allongeref14_At_sk f day).obs (fun _ => True) := by
  simp only [File.Small, Realm.Small] at hf
  refine Sk.obs_of _ ?_
  unfold allongeref14_At_sk
  simp only [Sk.obq, Sk.isLoop, reduceCtorEq, ON, kk, File.Small, Realm.Small, maxLen]
  have w1 : ∀ i n : Nat, i < n → n ≤ 1000000 → w64 ((i : Int) + 1) = ((i + 1 : Nat) : Int) := fun i n h h2 => (w64_id (by omega) (by omega)).trans (by omega)
  obtain ⟨n1, n2, n3, n4⟩ := hf
  have s1 := (List.takeWhile_sublist (l := f.signs) fun s => decide (s.day ≤ day)).length_le
  have s2 := (List.takeWhile_sublist (l := f.acts) fun s => decide (s.day ≤ day)).length_le
  refine ⟨⟨⟨Nat.zero_le _, fun q hq => absurd hq (by omega)⟩, fun i hi _ => ⟨fun hc => ?_, fun _ => ⟨fun hc _ => ?_, fun hc => ?_⟩⟩⟩, fun b1 hb1 => ⟨⟨⟨Nat.zero_le _, fun q hq => absurd hq (by omega)⟩, fun i hi _ => ⟨fun hc => ?_, fun _ => ⟨fun hc _ => ?_, fun hc => ?_⟩⟩⟩, fun b3 hb3 => ⟨?_, fun _ => ⟨⟨⟨Nat.zero_le _, rfl⟩, fun i hi _ => ⟨fun hc => ⟨?_, fun _ => ⟨fun h => ⟨?_, fun _ _ => ⟨?_, ?_⟩⟩, fun h _ => ⟨?_, ?_⟩⟩⟩, fun hc => ?_⟩⟩, fun b5 hb5 => ⟨⟨Nat.zero_le _, rfl⟩, fun i hi _ => ⟨fun hc => ⟨?_, fun _ => ⟨fun h => ⟨?_, fun _ _ => ⟨?_, ?_⟩⟩, fun h _ => ⟨?_, ?_⟩⟩⟩, fun hc => ?_⟩⟩⟩⟩⟩⟩
  · simp only [LN] at hc
    exact ⟨by omega, by omega⟩
  · simp only [LN] at hc
    exact ⟨w1 _ _ (by omega) n1, ⟨by omega, dayExt hi.2 hc.2⟩, by omega⟩
  · simp only [LN] at hc
    have := tw_len_eq (fun s : Sign => decide (s.day ≤ day)) f.signs i hi.1 (fun q hq => decide_eq_true (hi.2 q hq)) (by rw [decide_eq_false_iff_not]; omega)
    omega
  · simp only [LN] at hc
    exact ⟨by omega, by omega⟩
  · simp only [LN] at hc
    exact ⟨w1 _ _ (by omega) n3, ⟨by omega, dayExt hi.2 hc.2⟩, by omega⟩
  · simp only [LN] at hc
    have := tw_len_eq (fun s : ActX => decide (s.day ≤ day)) f.acts i hi.1 (fun q hq => decide_eq_true (hi.2 q hq)) (by rw [decide_eq_false_iff_not]; omega)
    omega
  · simp only [LN]
    omega
  · simp only [LN] at hc
    exact ⟨by omega, by omega⟩
  · simp only [LN] at hc ⊢
    have := filter_take_le (fun a : Alter => decide (a.at_ ≤ b1)) f.alters i.1
    rw [← hi.2] at this
    omega
  · simp only [LN] at hc
    exact w1 _ _ (by omega) n2
  · simp only [LN] at hc
    refine ⟨⟨by omega, ?_⟩, by omega⟩
    rw [filter_take _ _ _ (by omega), ← hi.2]; simp only [h, cond_true]
  · simp only [LN] at hc
    exact w1 _ _ (by omega) n2
  · simp only [LN] at hc
    refine ⟨⟨by omega, ?_⟩, by omega⟩
    rw [filter_take _ _ _ (by omega), ← hi.2]; simp only [h, cond_false, List.append_nil]
  · simp only [LN] at hc
    have e : i.1 = f.alters.length := by omega
    rw [hi.2, e, List.take_length]
  · simp only [LN] at hc
    exact ⟨⟨by omega, by omega⟩, fun _ => ⟨by omega, by omega⟩⟩
  · simp only [LN] at hc ⊢
    have := filter_take_le (fun x : Fact => decide (x.at_ ≥ 0) && decide (x.at_ < b1)) f.facts i.1
    rw [← hi.2] at this
    omega
  · simp only [LN] at hc
    exact w1 _ _ (by omega) n4
  · simp only [LN] at hc
    refine ⟨⟨by omega, ?_⟩, by omega⟩
    rw [filter_take _ _ _ (by omega), ← hi.2]; simp only [h, cond_true]
  · simp only [LN] at hc
    exact w1 _ _ (by omega) n4
  · simp only [LN] at hc
    refine ⟨⟨by omega, ?_⟩, by omega⟩
    rw [filter_take _ _ _ (by omega), ← hi.2]; simp only [h, cond_false, List.append_nil]
  · simp only [LN] at hc
    have e : i.1 = f.facts.length := by omega
    rw [hi.2, e, List.take_length]

noncomputable def allongeref14_At_k (f : File) (day : Int) : Ctr (File) := kk tok mixed Tryz.func16 [av f.cells, iv day] (fun x => av x.cells) false (allongeref14_At_sk f day) (allongeref14_At f day) (fun (h : (f.Small)) => allongeref14_At_ok f day h) (fun (x : File) => x = record_At f day) (allongeref14_At_post f day)
theorem Liable_eq (f : File) (part by_ day : Int) : owe_Liable f part by_ day = bif !(slices_Contains (owe_open f day).lead part) then [] else owe_view_liable (owe_open f day) part by_ (owe_view_links (owe_open f day) part) := by kernel_rfl
theorem open_all (f : File) (day : Int) : (owe_open f day).all = f := by rw [open_eq]
theorem open_now (f : File) (day : Int) : (owe_open f day).now = record_At f day := by rw [open_eq]
theorem open_day (f : File) (day : Int) : (owe_open f day).day = day := by rw [open_eq]
/-- where a claim comes from -/
structure From (r : Realm) (forum : Int) (f : File) (day : Int) (c : Claim) (part : Int) (o : Owner) (sign : Int) : Prop where
  lead : part ∈ (owe_open f day).lead
  own : o ∈ owe_court_owners_c1 (owe_try r forum f day).1 (owe_view_links (owe_open f day) part)
  li : sign ∈ owe_view_liable (owe_open f day) part o.sign (owe_view_links (owe_open f day) part)
  st : (owe_court_state (owe_try r forum f day).1 o sign (owe_view_links (owe_open f day) part) (bind_Effects r forum f day)).1 ≠ 0
  ne : ((record_At f day).signs.getD sign.toNat default).who ≠ o.firm
  eq : c = { debtor := ((record_At f day).signs.getD sign.toNat default).who, creditor := o.firm, part := part, sign := sign, by_ := o.sign, turn := (owe_court_state (owe_try r forum f day).1 o sign (owe_view_links (owe_open f day) part) (bind_Effects r forum f day)).2, sum := (amount_Owed r forum f sign day).rest, currency := f.bill.currency, state := (owe_court_state (owe_try r forum f day).1 o sign (owe_view_links (owe_open f day) part) (bind_Effects r forum f day)).1 }
theorem any_take {α : Type} [Inhabited α] (p : α → Bool) (l : List α) (i : Nat) (h : i < l.length) : (l.take (i + 1)).any p = ((l.take i).any p || p (l.getD i default)) := by
  rw [List.take_succ_eq_append_getElem h, List.any_append, show l.getD i default = l[i] by simp [List.getD, h]]
  simp
theorem sorted_ext : ∀ (l m : List Int), l.Pairwise (· < ·) → m.Pairwise (· < ·) → (∀ x, x ∈ l ↔ x ∈ m) → l = m
  | [], [], _, _, _ => rfl
  | [], y :: m, _, _, h => absurd ((h y).2 (by simp)) (by simp)
  | x :: l, [], _, _, h => absurd ((h x).1 (by simp)) (by simp)
  | x :: l, y :: m, h1, h2, h => by
    rw [List.pairwise_cons] at h1 h2
    have e : x = y := by
      rcases List.mem_cons.1 ((h x).1 (by simp)) with hx | hx
      · exact hx
      · rcases List.mem_cons.1 ((h y).2 (by simp)) with hy | hy
        · exact hy.symm
        · have := h1.1 y hy; have := h2.1 x hx; omega
    subst e
    rw [sorted_ext l m h1.2 h2.2 (fun z => ⟨fun hz => ?_, fun hz => ?_⟩)]
    · rcases List.mem_cons.1 ((h z).1 (by simp [hz])) with e | e
      · subst e; exact absurd (h1.1 _ hz) (by omega)
      · exact e
    · rcases List.mem_cons.1 ((h z).2 (by simp [hz])) with e | e
      · subst e; exact absurd (h2.1 _ hz) (by omega)
      · exact e
theorem struck_get (f : File) (day k : Int) : mget (title_struck f day) k false = f.acts.any (fun a => ((a.kind == 7) && decide (a.day ≤ day)) && (a.at_ == k)) := by
  unfold title_struck title_struck_sk
  dsimp +instances only [Sk.val_bind, Sk.val_loop, Sk.val_bnd, Sk.val_br, Sk.val_r, Sk.val_wi, Sk.val_wn, Sk.val_fin]
  rw [iter_walk0 f.acts (fun s i => (i, s)) (fun x (s : List (Int × Bool)) => Sum.inr (bif (x.kind == 7) && decide (x.day ≤ day) then mupd s x.at_ true else s)) (fun s => Sum.inr s) (fun s i hi => ?_) (fun s => ?_) (by omega) []]
  · rw [walk_fold (fun (x : ActX) s => bif (x.kind == 7) && decide (x.day ≤ day) then mupd s x.at_ true else s)]
    simp only [pickS_inr]
    rw [gone_loop f.acts (fun a => (a.kind == 7) && decide (a.day ≤ day)) k []]
    show (_ || false) = _
    rw [Bool.or_false]
  · rw [decide_eq_true (by omega), cond_true]
    cases ((f.acts.getD i default).kind == 7) && decide ((f.acts.getD i default).day ≤ day) <;> rfl
  · rw [decide_eq_false (by omega), cond_false]
theorem ends_fst (f : File) (day part : Int) : (title_endorsements_c1 f day part).map (·.1) = ((List.range f.signs.length).filter (endOk f day part)).map fun i => ((i : Nat) : Int) := by
  unfold title_endorsements_c1
  rw [List.map_map]; rfl
/-- the endorsements that follow from a holder on -/
noncomputable def chainL (f : File) : List Int → Int → List Int
  | [], _ => []
  | y :: r, h => bif (h != (-1)) && ((f.signs.getD y.toNat default).who != h) then [] else y :: chainL f r ((f.signs.getD y.toNat default).to_)
theorem Chain_signs (f : File) (part day : Int) : (title_Chain f part day).signs = chainL f ((title_endorsements_c1 f day part).map (·.1)) f.bill.payee := by
  unfold title_Chain title_Chain_sk
  dsimp +instances only [Sk.val_bind, Sk.val_loop, Sk.val_bnd, Sk.val_br, Sk.val_r, Sk.val_wi, Sk.val_fin, Sk.val_rf, Ctr.c_v, kk, Cal.andl_v, title_dishonoured_k, title_endorsements_k, title_endorsements_c1_it, title_right_k]
  have key : ∀ (l : List (Int × Sign)) (s : List Int × Int × Bool × Int × List Int), (∀ y, y ∈ l → y.2 = f.signs.getD y.1.toNat default) → s.2.2.1 = (s.2.1 == (-1)) →
      (match runY (fun (s : List Int × Int × Bool × Int × List Int) (y : Int × Sign) => bif (!s.2.2.1) && (y.2.who != s.2.1) then (Sum.inl (s.1, s.2.1, y.1, s.2.2.1, s.2.2.2.1, s.2.2.2.2) : (List Int × Int × Int × Bool × Int × List Int) ⊕ (List Int × Int × Bool × Int × List Int)) else bif (title_dishonoured f day).2 && decide (y.2.day > (title_dishonoured f day).1) then Sum.inr (s.1 ++ [y.1], y.2.to_, y.2.to_ == (-1), title_right s.2.2.2.1 y.2.flags, s.2.2.2.2 ++ [y.1]) else Sum.inr (s.1 ++ [y.1], y.2.to_, y.2.to_ == (-1), title_right s.2.2.2.1 y.2.flags, s.2.2.2.2)) l s with | .inl e => e.1 | .inr s' => s'.1) = s.1 ++ chainL f (l.map (·.1)) s.2.1 := by
    intro l
    induction l with
    | nil => intro s _ _; simp [runY, chainL]
    | cons y r ih =>
      intro s hy hs
      have h2 := hy y (by simp)
      simp only [runY, List.map_cons, chainL, hs, h2]
      rw [show (!(s.2.1 == (-1))) = (s.2.1 != (-1)) from rfl]
      cases (s.2.1 != (-1)) && ((f.signs.getD y.1.toNat default).who != s.2.1) with
      | true => simp
      | false =>
        simp only [cond_false]
        cases (title_dishonoured f day).2 && decide ((f.signs.getD y.1.toNat default).day > (title_dishonoured f day).1) with
        | true =>
          simp only [cond_true]
          rw [ih _ (fun z hz => hy z (by simp [hz])) rfl]
          simp
        | false =>
          simp only [cond_false]
          rw [ih _ (fun z hz => hy z (by simp [hz])) rfl]
          simp
  have k := key (title_endorsements_c1 f day part) ([], f.bill.payee, f.bill.payee == (-1), 0, []) (fun y hy => by
    obtain ⟨i, hi⟩ := List.getElem?_of_mem hy
    exact (ends_mem hi).2.2.2.1) rfl
  rw [List.nil_append] at k
  rw [← k]
  generalize hr : runY _ _ _ = r
  cases r <;> rfl
theorem leadL_mem (now : File) (x : Int) : x ∈ leadL now ↔ ∃ q, q < now.signs.length ∧ (now.signs.getD q default).kind = 2 ∧ struckIn now ((q : Nat) : Int) = false ∧ (now.signs.getD q default).part = x := by
  unfold leadL
  rw [List.mem_map]
  constructor
  · rintro ⟨q, hq, rfl⟩
    rw [List.mem_filter, List.mem_range, Bool.and_eq_true, beq_iff_eq, Bool.not_eq_true'] at hq
    exact ⟨q, hq.1, hq.2.1, hq.2.2, rfl⟩
  · rintro ⟨q, h1, h2, h3, rfl⟩
    exact ⟨q, by rw [List.mem_filter, List.mem_range, Bool.and_eq_true, beq_iff_eq, Bool.not_eq_true']; exact ⟨h1, h2, h3⟩, rfl⟩
open Classical in
/-- the leading parts below a number -/
noncomputable def leadTo (now : File) (n : Nat) : List Int := ((List.range n).filter fun p => decide (((p : Nat) : Int) ∈ leadL now)).map fun p => ((p : Nat) : Int)
theorem leadTo_succ (now : File) (n : Nat) (b : Bool) (h : b = true ↔ ((n : Nat) : Int) ∈ leadL now) : leadTo now (n + 1) = bif b then leadTo now n ++ [((n : Nat) : Int)] else leadTo now n := by
  unfold leadTo
  rw [List.range_succ, List.filter_append, List.map_append]
  cases b with
  | true => simp [h.1 rfl]
  | false =>
    have : ¬ ((n : Nat) : Int) ∈ leadL now := fun hx => by have := h.2 hx; exact absurd this (by decide)
    simp [this]
theorem leadTo_eq (now : File) (n : Nat) (h : ∀ q, q < now.signs.length → 0 ≤ (now.signs.getD q default).part ∧ (now.signs.getD q default).part < (n : Int)) : leadTo now n = Lib.compact (sortI (leadL now)) := by
  obtain ⟨h1, h2⟩ := compact_sort (leadL now)
  refine sorted_ext _ _ ?_ h1 (fun x => ?_)
  · unfold leadTo
    rw [List.pairwise_map]
    exact (List.pairwise_lt_range.sublist List.filter_sublist).imp (fun h => by simp; omega)
  · rw [h2]
    unfold leadTo
    rw [List.mem_map]
    constructor
    · rintro ⟨p, hp, rfl⟩
      simpa using (List.mem_filter.1 hp).2
    · intro hx
      obtain ⟨q, hq, -, -, e⟩ := (leadL_mem now x).1 hx
      have := h q hq
      refine ⟨x.toNat, List.mem_filter.2 ⟨List.mem_range.2 (by omega), ?_⟩, by omega⟩
      rw [decide_eq_true_eq, show ((x.toNat : Nat) : Int) = x by omega]
      exact hx
theorem Leading_eq (f : File) (day : Int) : owe_Leading f day = bif (((Lib.compact (sortI (leadL (record_At f day)))).length : Nat) : Int) == 0 then [0] else Lib.compact (sortI (leadL (record_At f day))) := by
  have e : owe_Leading f day = (owe_open f day).lead := by kernel_rfl
  rw [e, open_eq]
theorem part_eq (v : View) (s : Int) : owe_view_part v s = bif (s == 0) || !(slices_Contains v.lead ((v.now.signs.getD s.toNat default).part)) then v.lead.getD 0 default else (v.now.signs.getD s.toNat default).part := by
  unfold owe_view_part owe_view_part_sk
  dsimp +instances only [Sk.val_bind, Sk.val_br, Sk.val_r, Sk.val_fin, Ctr.c_v, kk, Cal.andl_v, Cal.wh_v, Cal.dep_v, slices_Contains_k]
  all_goals (cases (s == 0) || !(slices_Contains v.lead ((v.now.signs.getD s.toNat default).part)) <;> rfl)
theorem leadTo_len (now : File) (n : Nat) : (leadTo now n).length ≤ n := by
  unfold leadTo
  rw [List.length_map]
  exact Nat.le_trans (List.length_filter_le _ _) (by simp)
theorem seaExt {P : Nat → Prop} {i : Nat} (h : ∀ q, q < i → P q) (h2 : P i) (q : Nat) (hq : q < i + 1) : P q := (Nat.lt_succ_iff_lt_or_eq.1 hq).elim (h q) (fun e => e ▸ h2)
theorem seaEnd {l : List Int} {k : Int} (h : ∀ q, q < l.length → l.getD q default ≠ k) : ¬ k ∈ l := fun hk => by
  obtain ⟨i, hi, e⟩ := List.getElem_of_mem hk
  exact h i hi (by simp [List.getD, hi, e])
theorem chainL_drop (f : File) (x : List Int) (i : Nat) (h : Int) (hi : i < x.length) : chainL f (x.drop i) h = bif (h != (-1)) && ((f.signs.getD (x.getD i default).toNat default).who != h) then [] else x.getD i default :: chainL f (x.drop (i + 1)) ((f.signs.getD (x.getD i default).toNat default).to_) := by
  rw [List.drop_eq_getElem_cons hi, show x.getD i default = x[i] by simp [List.getD, hi]]
  rfl
theorem ends_rng {f : File} {day part : Int} {x : List Int} (hx : x = (title_endorsements_c1 f day part).map (·.1)) (i : Nat) (hi : i < x.length) : 0 ≤ x.getD i default ∧ x.getD i default < (f.signs.length : Int) := by
  have hm : x.getD i default ∈ (title_endorsements_c1 f day part).map (·.1) := hx ▸ lget_mem hi _
  obtain ⟨z, hz, e⟩ := List.mem_map.1 hm
  obtain ⟨q, hq⟩ := List.getElem?_of_mem hz
  have := ends_mem hq
  rw [← e]
  exact ⟨this.2.1, this.2.2.1⟩
theorem lead_last {f : File} {day : Int} (h : ∀ q, q < (record_At f day).signs.length → 0 ≤ ((record_At f day).signs.getD q default).part ∧ ((record_At f day).signs.getD q default).part < 4) {b : List Int} (hb : b = leadTo (record_At f day) 4) : owe_Leading f day = bif ((b.length : Nat) : Int) == 0 then b ++ [0] else b := by
  rw [Leading_eq, ← leadTo_eq (record_At f day) 4 (fun q hq => h q hq), ← hb]
  cases hc : ((b.length : Nat) : Int) == 0 with
  | true =>
    have : b = [] := by rw [beq_iff_eq] at hc; exact List.length_eq_zero_iff.1 (by omega)
    rw [this]; rfl
  | false => rfl
theorem links_open (f : File) (part day : Int) : owe_view_links (owe_open f day) part = (title_Chain f part day).signs := by
  have e : owe_view_links (owe_open f day) part = (title_Chain (owe_open f day).all part (owe_open f day).day).signs := rfl
  rw [e, open_all, open_day]
theorem Leading_open (f : File) (day : Int) : owe_Leading f day = (owe_open f day).lead := by kernel_rfl
/-- signatures of the five kinds, on the four parts -/
def FivesOK (f : File) (day : Int) : Prop := ∀ q, q < (record_At f day).signs.length → (0 ≤ ((record_At f day).signs.getD q default).part ∧ ((record_At f day).signs.getD q default).part < 4) ∧ 0 ≤ ((record_At f day).signs.getD q default).kind ∧ ((record_At f day).signs.getD q default).kind ≤ 4
theorem liable_step {f : File} {day part by_ : Int} (H : FivesOK f day) {sg l : List Int} {n : Nat} (hn : n < (record_At f day).signs.length) (hs : sg = (title_Chain f part day).signs) (hl : l = liTo (owe_open f day) part by_ (owe_view_links (owe_open f day) part) n) {x : Bool} (hx : x = (owe_view_part (owe_open f day) ((n : Nat) : Int) == part)) {b b1 : Bool}
    (hb : b = bif ((record_At f day).signs.getD n default).kind == 2 then (slices_Contains sg ((n : Nat) : Int) && decide (((n : Nat) : Int) ≤ by_)) && ((andK .i64 ((record_At f day).signs.getD n default).flags 2) == 0) else (((record_At f day).signs.getD n default).kind == 0) || (((record_At f day).signs.getD n default).kind == 1))
    (hb1 : b1 = bif (((record_At f day).signs.getD n default).kind == 3) || (((record_At f day).signs.getD n default).kind == 4) then slices_Contains l (((record_At f day).signs.getD n default).for_) else b) :
    liTo (owe_open f day) part by_ (owe_view_links (owe_open f day) part) (n + 1) = bif !x then l else bif b1 then l ++ [((n : Nat) : Int)] else l := by
  show liStep (owe_open f day) part by_ (owe_view_links (owe_open f day) part) n (liTo (owe_open f day) part by_ (owe_view_links (owe_open f day) part) n) = _
  rw [← hl]
  have e : b1 = liIs (owe_open f day) by_ (owe_view_links (owe_open f day) part) l n := by
    unfold liIs
    rw [links_open, ← hs, open_now, hb1, hb]
    have hk := (H n hn).2
    generalize (record_At f day).signs.getD n default = s at *
    have hk : s.kind = 0 ∨ s.kind = 1 ∨ s.kind = 2 ∨ s.kind = 3 ∨ s.kind = 4 := by omega
    rcases hk with h | h | h | h | h <;> rw [h]
    · rfl
    · rfl
    · show ((slices_Contains sg ((n : Nat) : Int) && decide (((n : Nat) : Int) ≤ by_)) && _) = ((decide (((n : Nat) : Int) ≤ by_) && _) && slices_Contains sg ((n : Nat) : Int))
      cases slices_Contains sg ((n : Nat) : Int) <;> simp
    · rfl
    · rfl
  unfold liStep
  rw [← e, show (owe_view_part (owe_open f day) ((n : Nat) : Int) != part) = !x by rw [hx]; rfl]
theorem liable_none {f : File} {day part by_ : Int} {lead : List Int} (hlead : lead = owe_Leading f day) {x : Bool} (hx : x = true ↔ part ∈ lead) (h : (!x) = true) : ([] : List Int) = owe_Liable f part by_ day := by
  rw [Liable_eq, ← Leading_open, ← hlead, show slices_Contains lead part = x by rw [Bool.eq_iff_iff, contains_iff]; exact hx.symm, h]; rfl
theorem liable_some {f : File} {day part by_ : Int} {lead sg : List Int} (hlead : lead = owe_Leading f day) {x y : Bool} (hx : x = true ↔ part ∈ lead) (h : (!x) = false) (hs : sg = (title_Chain f part day).signs) (hy : y = true ↔ by_ ∈ sg) :
    owe_Liable f part by_ day = bif (by_ != (-1)) && !y then [] else liTo (owe_open f day) part by_ (owe_view_links (owe_open f day) part) (record_At f day).signs.length := by
  rw [Liable_eq, ← Leading_open, ← hlead, show slices_Contains lead part = x by rw [Bool.eq_iff_iff, contains_iff]; exact hx.symm, h, cond_false, liable_eq, open_now]
  rw [show slices_Contains (owe_view_links (owe_open f day) part) by_ = y by rw [Bool.eq_iff_iff, contains_iff, links_open, ← hs]; exact hy.symm]
noncomputable def allongeref26_struck_sk (f : File) (sign : Int) : Sk (Bool) :=
 .bind true (fun b1 => f.acts.any (fun a : ActX => (a.kind == 7) && (a.at_ == sign)) = false)
 (.loop (default : Sum (Bool) (Unit)) (fun i2 => i2 ≤ f.acts.length ∧ (f.acts.take i2).any (fun a : ActX => (a.kind == 7) && (a.at_ == sign)) = false) (fun i2 => f.acts.length - i2) (0 : Nat)
 (fun (i2 : Nat) => ⟨[(5, iv ((i2 : Nat) : Int))], []⟩) fun i2 =>
 .bnd 2 17 f.acts.length <|
 .br (decide (((i2 : Nat) : Int) < ((f.acts.length : Nat) : Int)))
 (.r 4 (.andl (.p (ixP ((i2 : Nat) : Int) f.acts.length)) (.wh (((f.acts.getD i2 default).kind) == 7) true (.p (ixP ((i2 : Nat) : Int) f.acts.length)))) fun _ =>
 .br ((((f.acts.getD i2 default).kind) == 7) && (((f.acts.getD i2 default).at_) == sign))
 (.fin (.inl (.inl true)))
 (.r 3 .z fun _ =>
 .wi 5 (w64 (((i2 : Nat) : Int) + 1)) ((i2 + 1 : Nat) : Int) <|
 .fin (.inr (i2 + 1))))
 (.fin (.inl (.inr ()))))
 (fun (_ : Unit) => ⟨[], []⟩) fun _ =>
 .fin false
noncomputable def allongeref26_struck (f : File) (sign : Int) : Bool := (allongeref26_struck_sk f sign).val
theorem allongeref26_struck_pst (f : File) (sign : Int) : (allongeref26_struck_sk f sign).pst (fun (x : Bool) => x = struckIn f sign) := by
  refine Sk.pst_of _ ?_
  unfold allongeref26_struck_sk
  simp only [Sk.pstq, Sk.isLoop, reduceCtorEq, ON, kk, maxLen]
  refine ⟨⟨⟨Nat.zero_le _, rfl⟩, fun i hi => ⟨fun hc _ => ⟨fun h => ?_, fun h _ => ?_⟩, fun hc => ?_⟩⟩, fun _ hb => hb.symm⟩
  all_goals simp only [LN] at hc
  · exact (List.any_eq_true.2 ⟨f.acts.getD i default, lget_mem (by omega) _, h⟩).symm
  · refine ⟨⟨by omega, ?_⟩, by omega⟩
    rw [any_take _ _ _ (by omega), hi.2, Bool.false_or]; exact h
  · have e : i = f.acts.length := by omega
    have h2 := hi.2
    rw [e, List.take_length] at h2
    exact h2

theorem allongeref26_struck_post (f : File) (sign : Int) : (fun (x : Bool) => x = struckIn f sign) (allongeref26_struck f sign) := have h := Sk.pval _ (allongeref26_struck_pst f sign); h
theorem allongeref26_struck_ok (f : File) (sign : Int) : (allongeref26_struck_sk f sign).obs (fun _ => True) := by
  refine Sk.obs_of _ ?_
  unfold allongeref26_struck_sk
  simp only [Sk.obq, Sk.isLoop, reduceCtorEq, ON, kk, maxLen]
  refine ⟨⟨Nat.zero_le _, rfl⟩, fun i hi hm => ⟨fun hc => ⟨?_, fun _ h _ => ⟨?_, ⟨?_, ?_⟩, ?_⟩⟩, fun hc => ?_⟩⟩
  all_goals simp only [LN] at hc
  · exact ⟨⟨by omega, by omega⟩, fun _ => ⟨by omega, by omega⟩⟩
  · exact (w64_id (by omega) (by omega)).trans (by omega)
  · omega
  · rw [any_take _ _ _ (by omega), hi.2, Bool.false_or]; exact h
  · omega
  · have e : i = f.acts.length := by omega
    have h2 := hi.2
    rw [e, List.take_length] at h2
    exact h2

noncomputable def allongeref26_struck_k (f : File) (sign : Int) : Ctr (Bool) := kk tok mixed Tryz.func29 [av f.cells, iv sign] (fun x => bv x) true (allongeref26_struck_sk f sign) (allongeref26_struck f sign) (fun (_ : True) => allongeref26_struck_ok f sign) (fun (x : Bool) => x = struckIn f sign) (allongeref26_struck_post f sign)
noncomputable def allongeref26_Leading_sk (f : File) (day : Int) : Sk ((List Int)) :=
 .r 1 ((allongeref14_At_k f day).c) fun x1 =>
 .r 2 (.o [.nrm (litC intE ([] : List Int))]) fun _ =>
 .bind true (fun b2 => b2 = leadTo (record_At f day) 4)
 (.loop (default : Sum ((List Int)) ((List Int))) (fun i3 => i3.2 ≤ 4 ∧ i3.1 = leadTo (record_At f day) i3.2) (fun i3 => 4 - i3.2) ((([] : List Int), 0) : (List Int) × Nat)
 (fun (i3 : (List Int) × Nat) => ⟨[(6, ow 100006 i3.1), (7, iv ((i3.2 : Nat) : Int))], [(100006, rowB 3 1 intC i3.1)]⟩) fun i3 =>
 .br (decide (((i3.2 : Nat) : Int) < 4))
 (.bind true (fun b4 => b4 = leadTo (record_At f day) (i3.2 + 1))
 (.bind true (fun b5 => b5.1 = true ↔ ((i3.2 : Nat) : Int) ∈ leadL x1)
 (.loop (default : Sum (Sum (Sum (Sum ((List Int)) ((List Int))) ((List Int) × Nat)) ((List Int))) (Bool × Int)) (fun i6 => i6.2 ≤ x1.signs.length ∧ (i6.1 = true ↔ ∃ q, q < i6.2 ∧ (x1.signs.getD q default).kind = 2 ∧ struckIn x1 ((q : Nat) : Int) = false ∧ (x1.signs.getD q default).part = ((i3.2 : Nat) : Int))) (fun i6 => x1.signs.length - i6.2) ((false, 0) : Bool × Nat)
 (fun (i6 : Bool × Nat) => ⟨[(8, bv i6.1), (9, iv ((i6.2 : Nat) : Int))], []⟩) fun i6 =>
 .bnd 5 15 x1.signs.length <|
 .br (decide (((i6.2 : Nat) : Int) < ((x1.signs.length : Nat) : Int)))
 (.r 10 (.andl (.p (ixP ((i6.2 : Nat) : Int) x1.signs.length)) (.andl (.wh (((x1.signs.getD i6.2 default).kind) == 2) true (.p (ixP ((i6.2 : Nat) : Int) x1.signs.length))) (.wh ((((x1.signs.getD i6.2 default).kind) == 2) && (((x1.signs.getD i6.2 default).part) == ((i3.2 : Nat) : Int))) true ((allongeref26_struck_k x1 ((i6.2 : Nat) : Int)).c)))) fun x7 =>
 .br (((((x1.signs.getD i6.2 default).kind) == 2) && (((x1.signs.getD i6.2 default).part) == ((i3.2 : Nat) : Int))) && (!x7))
 (.r 9 .z fun _ =>
 .wi 9 (w64 (((i6.2 : Nat) : Int) + 1)) ((i6.2 + 1 : Nat) : Int) <|
 .fin (.inr (true, i6.2 + 1)))
 (.r 9 .z fun _ =>
 .wi 9 (w64 (((i6.2 : Nat) : Int) + 1)) ((i6.2 + 1 : Nat) : Int) <|
 .fin (.inr (i6.1, i6.2 + 1))))
 (.fin (.inl (.inr (i6.1, ((i6.2 : Nat) : Int))))))
 (fun (b5 : Bool × Int) => ⟨[(8, bv b5.1), (9, iv b5.2)], []⟩) fun b5 =>
 .br b5.1
 (.r 13 (.andl (.o [.nrm (litC intE [((i3.2 : Nat) : Int)])]) (.andl (.o [.nrm (catC intE i3.1 [((i3.2 : Nat) : Int)])]) (.andl (.t (intE.ones [((i3.2 : Nat) : Int)])) (.p (szP i3.1.length [((i3.2 : Nat) : Int)].length 8))))) fun _ =>
 .fin (.inr (i3.1 ++ [((i3.2 : Nat) : Int)])))
 (.fin (.inr i3.1)))
 (fun (b4 : (List Int)) => ⟨[(6, ow 100008 b4)], [(100008, rowB 3 1 intC b4)]⟩) fun b4 =>
 .r 5 .z fun _ =>
 .wi 7 (w64 (((i3.2 : Nat) : Int) + 1)) ((i3.2 + 1 : Nat) : Int) <|
 .fin (.inr (b4, i3.2 + 1)))
 (.fin (.inl (.inr i3.1))))
 (fun (b2 : (List Int)) => ⟨[(6, ow 100004 b2)], [(100004, rowB 3 1 intC b2)]⟩) fun b2 =>
 .br (((b2.length : Nat) : Int) == 0)
 (.r 15 (.andl (.o [.nrm (litC intE [0])]) (.andl (.o [.nrm (catC intE b2 [0])]) (.andl (.t (intE.ones [0])) (.p (szP b2.length [0].length 8))))) fun _ =>
 .fin (b2 ++ [0]))
 (.fin b2)
noncomputable def allongeref26_Leading (f : File) (day : Int) : (List Int) := (allongeref26_Leading_sk f day).val
theorem allongeref26_Leading_pst (f : File) (day : Int) : (allongeref26_Leading_sk f day).pst (fun (x : (List Int)) => x.length ≠ 0 ∧ ((∀ q, q < (record_At f day).signs.length → 0 ≤ ((record_At f day).signs.getD q default).part ∧ ((record_At f day).signs.getD q default).part < 4) → x = owe_Leading f day)) := by
  refine Sk.pst_of _ ?_
  unfold allongeref26_Leading_sk
  simp only [Sk.pstq, Sk.isLoop, reduceCtorEq, ON, kk, allongeref14_At_k, allongeref26_struck_k, File.Small, Realm.Small, maxLen]
  intro x _ hx _
  subst hx
  refine ⟨⟨⟨by omega, rfl⟩, fun i hi => ⟨fun hc => ⟨⟨⟨⟨Nat.zero_le _, ⟨False.elim, fun ⟨q, hq, _⟩ => absurd hq (by omega)⟩⟩, fun j hj => ⟨fun hcj y _ hy => ⟨fun h _ => ?_, fun h _ => ?_⟩, fun hcj => ?_⟩⟩, fun b hb => ⟨fun h _ => ?_, fun h => ?_⟩⟩, fun b _ hb _ => ?_⟩, fun hc => ?_⟩⟩, fun b hb => ⟨fun h _ => ⟨?_, fun hP => ?_⟩, fun h => ⟨?_, fun hP => ?_⟩⟩⟩
  · simp only [LN] at hcj h
    exact ⟨⟨by omega, ⟨fun _ => ⟨j.2, by omega, h.1.1, hy.symm.trans h.2, h.1.2⟩, fun _ => trivial⟩⟩, by omega⟩
  · simp only [LN] at hcj
    refine ⟨⟨by omega, ⟨fun h1 => ?_, fun ⟨q, hq, h1, h2, h3⟩ => ?_⟩⟩, by omega⟩
    · obtain ⟨q, hq, h1⟩ := hj.2.1 h1
      exact ⟨q, by omega, h1⟩
    · by_cases e : q = j.2
      · subst e
        rw [h1, h3, hy, h2] at h
        simp at h
      · exact hj.2.2 ⟨q, by omega, h1, h2, h3⟩
  · simp only [LN] at hcj
    have e : j.2 = (record_At f day).signs.length := by omega
    rw [leadL_mem, ← e]; exact hj.2
  · rw [leadTo_succ _ _ b.1 hb, h, cond_true, ← hi.2]
  · rw [leadTo_succ _ _ b.1 hb, h, cond_false, ← hi.2]
  · simp only [LN] at hc
    exact ⟨⟨by omega, hb⟩, by omega⟩
  · simp only [LN] at hc
    rw [hi.2, show i.2 = 4 by omega]
  · simp
  · rw [lead_last hP hb, h]; rfl
  · simp only [LN] at h
    omega
  · rw [lead_last hP hb, h]; rfl

theorem allongeref26_Leading_post (f : File) (day : Int) : (fun (x : (List Int)) => x.length ≠ 0 ∧ ((∀ q, q < (record_At f day).signs.length → 0 ≤ ((record_At f day).signs.getD q default).part ∧ ((record_At f day).signs.getD q default).part < 4) → x = owe_Leading f day)) (allongeref26_Leading f day) := have h := Sk.pval _ (allongeref26_Leading_pst f day); h
theorem allongeref26_Leading_ok (f : File) (day : Int) (h_f_Small : f.Small) : (allongeref26_Leading_sk f day).obs (fun _ => True) := by
  simp only [File.Small, Realm.Small] at h_f_Small
  refine Sk.obs_of _ ?_
  unfold allongeref26_Leading_sk
  simp only [Sk.obq, Sk.isLoop, reduceCtorEq, ON, kk, allongeref14_At_k, allongeref26_struck_k, File.Small, Realm.Small, maxLen]
  have n1 := h_f_Small.1
  refine ⟨h_f_Small, fun x _ hx _ => ?_⟩
  subst hx
  have n2 := (record_At_post f day).1
  refine ⟨⟨⟨by omega, rfl⟩, fun i hi => ⟨fun hc => ⟨⟨⟨⟨Nat.zero_le _, ⟨False.elim, fun ⟨q, hq, _⟩ => absurd hq (by omega)⟩⟩, fun j hj hm => ⟨fun hcj => ⟨?_, fun y _ hy => ⟨fun h _ => ⟨?_, ?_⟩, fun h _ => ⟨?_, ?_⟩⟩⟩, fun hcj => ?_⟩⟩, fun b hb => ⟨fun h => ⟨?_, fun _ => ?_⟩, fun h => ?_⟩⟩, fun b _ hb _ => ⟨?_, ?_⟩⟩, fun hc => ?_⟩⟩, fun b hb h => ?_⟩
  · simp only [LN] at hcj
    exact ⟨⟨by omega, by omega⟩, fun _ => ⟨by omega, by omega⟩⟩
  · simp only [LN] at hcj
    exact (w64_id (by omega) (by omega)).trans (by omega)
  · simp only [LN] at hcj h
    exact ⟨⟨by omega, ⟨fun _ => ⟨j.2, by omega, h.1.1, hy.symm.trans h.2, h.1.2⟩, fun _ => trivial⟩⟩, by omega⟩
  · simp only [LN] at hcj
    exact (w64_id (by omega) (by omega)).trans (by omega)
  · simp only [LN] at hcj
    refine ⟨⟨by omega, ⟨fun h1 => ?_, fun ⟨q, hq, h1, h2, h3⟩ => ?_⟩⟩, by omega⟩
    · obtain ⟨q, hq, h1⟩ := hj.2.1 h1
      exact ⟨q, by omega, h1⟩
    · by_cases e : q = j.2
      · subst e
        rw [h1, h3, hy, h2] at h
        simp at h
      · exact hj.2.2 ⟨q, by omega, h1, h2, h3⟩
  · simp only [LN] at hcj
    have e : j.2 = (record_At f day).signs.length := by omega
    rw [leadL_mem, ← e]; exact hj.2
  · have := leadTo_len (record_At f day) i.2
    rw [← hi.2] at this
    simp only [LN]
    omega
  · rw [leadTo_succ _ _ b.1 hb, h, cond_true, ← hi.2]
  · rw [leadTo_succ _ _ b.1 hb, h, cond_false, ← hi.2]
  · simp only [LN] at hc
    exact (w64_id (by omega) (by omega)).trans (by omega)
  · simp only [LN] at hc
    exact ⟨⟨by omega, hb⟩, by omega⟩
  · simp only [LN] at hc
    rw [hi.2, show i.2 = 4 by omega]
  · simp only [LN] at h ⊢
    omega

noncomputable def allongeref26_Leading_k (f : File) (day : Int) : Ctr ((List Int)) := kk tok mixed Tryz.func11 [av f.cells, iv day] (fun x => lv intC x) false (allongeref26_Leading_sk f day) (allongeref26_Leading f day) (fun (h : (f.Small)) => allongeref26_Leading_ok f day h) (fun (x : (List Int)) => x.length ≠ 0 ∧ ((∀ q, q < (record_At f day).signs.length → 0 ≤ ((record_At f day).signs.getD q default).part ∧ ((record_At f day).signs.getD q default).part < 4) → x = owe_Leading f day)) (allongeref26_Leading_post f day)
noncomputable def allongeref26_has_sk (l : List Int) (k_ : Int) : Sk (Bool) :=
 .bind true (fun b1 => k_ ∉ l)
 (.loop (default : Sum (Bool) (Unit)) (fun i2 => i2 ≤ l.length ∧ ∀ q, q < i2 → l.getD q default ≠ k_) (fun i2 => l.length - i2) (0 : Nat)
 (fun (i2 : Nat) => ⟨[(5, iv ((i2 : Nat) : Int))], []⟩) fun i2 =>
 .bnd 0 0 l.length <|
 .br (decide (((i2 : Nat) : Int) < ((l.length : Nat) : Int)))
 (.r 4 (.p (ixP ((i2 : Nat) : Int) l.length)) fun _ =>
 .br ((l.getD i2 default) == k_)
 (.fin (.inl (.inl true)))
 (.r 3 .z fun _ =>
 .wi 5 (w64 (((i2 : Nat) : Int) + 1)) ((i2 + 1 : Nat) : Int) <|
 .fin (.inr (i2 + 1))))
 (.fin (.inl (.inr ()))))
 (fun (_ : Unit) => ⟨[], []⟩) fun _ =>
 .fin false
noncomputable def allongeref26_has (l : List Int) (k_ : Int) : Bool := (allongeref26_has_sk l k_).val
theorem allongeref26_has_pst (l : List Int) (k_ : Int) : (allongeref26_has_sk l k_).pst (fun (x : Bool) => x = true ↔ k_ ∈ l) := by
  refine Sk.pst_of _ ?_
  unfold allongeref26_has_sk
  simp only [Sk.pstq, Sk.isLoop, reduceCtorEq, ON, kk, maxLen]
  refine ⟨⟨⟨Nat.zero_le _, fun q hq => absurd hq (by omega)⟩, fun i hi => ⟨fun hc _ => ⟨fun h => ?_, fun h _ => ?_⟩, fun hc => ?_⟩⟩, fun _ hb => ⟨False.elim, hb⟩⟩
  all_goals simp only [LN] at hc
  · refine ⟨fun _ => ?_, fun _ => trivial⟩
    simp only [LN] at h
    rw [← h]; exact lget_mem (by omega) _
  · simp only [LN] at h
    exact ⟨⟨by omega, seaExt hi.2 h⟩, by omega⟩
  · exact seaEnd (fun q hq => hi.2 q (by omega))

theorem allongeref26_has_post (l : List Int) (k_ : Int) : (fun (x : Bool) => x = true ↔ k_ ∈ l) (allongeref26_has l k_) := have h := Sk.pval _ (allongeref26_has_pst l k_); h
theorem allongeref26_has_ok (l : List Int) (k_ : Int) : (allongeref26_has_sk l k_).obs (fun _ => True) := by
  refine Sk.obs_of _ ?_
  unfold allongeref26_has_sk
  simp only [Sk.obq, Sk.isLoop, reduceCtorEq, ON, kk, maxLen]
  refine ⟨⟨Nat.zero_le _, fun q hq => absurd hq (by omega)⟩, fun i hi hm => ⟨fun hc => ⟨?_, fun _ h _ => ⟨?_, ⟨?_, ?_⟩, ?_⟩⟩, fun hc => ?_⟩⟩
  all_goals simp only [LN] at hc
  · exact ⟨by omega, by omega⟩
  · exact (w64_id (by omega) (by omega)).trans (by omega)
  · omega
  · simp only [LN] at h
    exact seaExt hi.2 h
  · omega
  · exact seaEnd (fun q hq => hi.2 q (by omega))

noncomputable def allongeref26_has_k (l : List Int) (k_ : Int) : Ctr (Bool) := kk tok mixed Tryz.func33 [lv intC l, iv k_] (fun x => bv x) true (allongeref26_has_sk l k_) (allongeref26_has l k_) (fun (_ : True) => allongeref26_has_ok l k_) (fun (x : Bool) => x = true ↔ k_ ∈ l) (allongeref26_has_post l k_)
noncomputable def allongeref13_Struck_sk (f : File) (sign : Int) (day : Int) : Sk (Bool) :=
 .br ((decide (sign < 0)) || (decide (sign ≥ ((f.signs.length : Nat) : Int))))
 (.fin false)
 (.bind true (fun b1 => f.acts.any (fun a : ActX => ((a.kind == 7) && decide (a.day ≤ day)) && (a.at_ == sign)) = false)
 (.loop (default : Sum (Bool) (Unit)) (fun i2 => i2 ≤ f.acts.length ∧ (f.acts.take i2).any (fun a : ActX => ((a.kind == 7) && decide (a.day ≤ day)) && (a.at_ == sign)) = false) (fun i2 => f.acts.length - i2) (0 : Nat)
 (fun (i2 : Nat) => ⟨[(7, iv ((i2 : Nat) : Int))], []⟩) fun i2 =>
 .bnd 3 17 f.acts.length <|
 .br (decide (((i2 : Nat) : Int) < ((f.acts.length : Nat) : Int)))
 (.r 6 (.andl (.p (ixP ((i2 : Nat) : Int) f.acts.length)) (.andl (.wh (((f.acts.getD i2 default).kind) == 7) true (.p (ixP ((i2 : Nat) : Int) f.acts.length))) (.wh ((((f.acts.getD i2 default).kind) == 7) && (((f.acts.getD i2 default).at_) == sign)) true (.p (ixP ((i2 : Nat) : Int) f.acts.length))))) fun _ =>
 .br (((((f.acts.getD i2 default).kind) == 7) && (((f.acts.getD i2 default).at_) == sign)) && (decide (((f.acts.getD i2 default).day) ≤ day)))
 (.fin (.inl (.inl true)))
 (.r 5 .z fun _ =>
 .wi 7 (w64 (((i2 : Nat) : Int) + 1)) ((i2 + 1 : Nat) : Int) <|
 .fin (.inr (i2 + 1))))
 (.fin (.inl (.inr ()))))
 (fun (_ : Unit) => ⟨[], []⟩) fun _ =>
 .fin false)
noncomputable def allongeref13_Struck (f : File) (sign : Int) (day : Int) : Bool := (allongeref13_Struck_sk f sign day).val
theorem allongeref13_Struck_pst (f : File) (sign : Int) (day : Int) : (allongeref13_Struck_sk f sign day).pst (fun (x : Bool) => 0 ≤ sign ∧ sign < (f.signs.length : Int) → x = mget (title_struck f day) sign false) := by
  refine Sk.pst_of _ ?_
  unfold allongeref13_Struck_sk
  simp only [Sk.pstq, Sk.isLoop, reduceCtorEq, ON, kk, maxLen]
  refine ⟨fun hr hs => ?_, fun hr => ⟨⟨⟨Nat.zero_le _, rfl⟩, fun i hi => ⟨fun hc _ => ⟨fun h _ => ?_, fun h _ => ?_⟩, fun hc => ?_⟩⟩, fun _ hb _ => ?_⟩⟩
  · simp only [LN] at hr
    omega
  · simp only [LN] at hc
    rw [struck_get]
    refine (List.any_eq_true.2 ⟨f.acts.getD i default, lget_mem (by omega) _, ?_⟩).symm
    rw [← h]; exact Bool.and_right_comm _ _ _
  · simp only [LN] at hc
    refine ⟨⟨by omega, ?_⟩, by omega⟩
    rw [any_take _ _ _ (by omega), hi.2, Bool.false_or, ← h]; exact Bool.and_right_comm _ _ _
  · simp only [LN] at hc
    have e : i = f.acts.length := by omega
    have h2 := hi.2
    rw [e, List.take_length] at h2
    exact h2
  · rw [struck_get]; exact hb.symm

theorem allongeref13_Struck_post (f : File) (sign : Int) (day : Int) : (fun (x : Bool) => 0 ≤ sign ∧ sign < (f.signs.length : Int) → x = mget (title_struck f day) sign false) (allongeref13_Struck f sign day) := have h := Sk.pval _ (allongeref13_Struck_pst f sign day); h
theorem allongeref13_Struck_ok (f : File) (sign : Int) (day : Int) : (allongeref13_Struck_sk f sign day).obs (fun _ => True) := by
  refine Sk.obs_of _ ?_
  unfold allongeref13_Struck_sk
  simp only [Sk.obq, Sk.isLoop, reduceCtorEq, ON, kk, maxLen]
  refine fun _ => ⟨⟨Nat.zero_le _, rfl⟩, fun i hi hm => ⟨fun hc => ⟨?_, fun _ h _ => ⟨?_, ⟨?_, ?_⟩, ?_⟩⟩, fun hc => ?_⟩⟩
  all_goals simp only [LN] at hc
  · exact ⟨⟨by omega, by omega⟩, fun _ => ⟨by omega, by omega⟩, fun _ => ⟨by omega, by omega⟩⟩
  · exact (w64_id (by omega) (by omega)).trans (by omega)
  · omega
  · rw [any_take _ _ _ (by omega), hi.2, Bool.false_or, ← h]; exact Bool.and_right_comm _ _ _
  · omega
  · have e : i = f.acts.length := by omega
    have h2 := hi.2
    rw [e, List.take_length] at h2
    exact h2

noncomputable def allongeref13_Struck_k (f : File) (sign : Int) (day : Int) : Ctr (Bool) := kk tok mixed Tryz.func107 [av f.cells, iv sign, iv day] (fun x => bv x) true (allongeref13_Struck_sk f sign day) (allongeref13_Struck f sign day) (fun (_ : True) => allongeref13_Struck_ok f sign day) (fun (x : Bool) => 0 ≤ sign ∧ sign < (f.signs.length : Int) → x = mget (title_struck f day) sign false) (allongeref13_Struck_post f sign day)
noncomputable def allongeref13_Endorsements_sk (f : File) (part : Int) (day : Int) : Sk ((List Int)) :=
 .r 1 (.o [.nrm (litC intE ([] : List Int))]) fun _ =>
 .bind true (fun b1 => b1 = ((List.range f.signs.length).filter (endOk f day part)).map fun i => ((i : Nat) : Int))
 (.loop (default : Sum ((List Int)) ((List Int))) (fun i2 => i2.2 ≤ f.signs.length ∧ i2.1 = ((List.range i2.2).filter (endOk f day part)).map fun i => ((i : Nat) : Int)) (fun i2 => f.signs.length - i2.2) ((([] : List Int), 0) : (List Int) × Nat)
 (fun (i2 : (List Int) × Nat) => ⟨[(7, ow 100002 i2.1), (8, iv ((i2.2 : Nat) : Int))], [(100002, rowB 3 1 intC i2.1)]⟩) fun i2 =>
 .bnd 3 15 f.signs.length <|
 .br (decide (((i2.2 : Nat) : Int) < ((f.signs.length : Nat) : Int)))
 (.r 5 (.p (ixP ((i2.2 : Nat) : Int) f.signs.length)) fun _ =>
 .r 6 (.wh (((((f.signs.getD i2.2 default).kind) == 2) && (((f.signs.getD i2.2 default).part) == part)) && (decide (((f.signs.getD i2.2 default).day) ≤ day))) true ((allongeref13_Struck_k f ((i2.2 : Nat) : Int) day).c)) fun x3 =>
 .br ((((((f.signs.getD i2.2 default).kind) == 2) && (((f.signs.getD i2.2 default).part) == part)) && (decide (((f.signs.getD i2.2 default).day) ≤ day))) && (!x3))
 (.r 7 (.andl (.o [.nrm (litC intE [((i2.2 : Nat) : Int)])]) (.andl (.o [.nrm (catC intE i2.1 [((i2.2 : Nat) : Int)])]) (.andl (.t (intE.ones [((i2.2 : Nat) : Int)])) (.p (szP i2.1.length [((i2.2 : Nat) : Int)].length 8))))) fun _ =>
 .r 4 .z fun _ =>
 .wi 8 (w64 (((i2.2 : Nat) : Int) + 1)) ((i2.2 + 1 : Nat) : Int) <|
 .fin (.inr (i2.1 ++ [((i2.2 : Nat) : Int)], i2.2 + 1)))
 (.r 4 .z fun _ =>
 .wi 8 (w64 (((i2.2 : Nat) : Int) + 1)) ((i2.2 + 1 : Nat) : Int) <|
 .fin (.inr (i2.1, i2.2 + 1))))
 (.fin (.inl (.inr i2.1))))
 (fun (b1 : (List Int)) => ⟨[(7, ow 100001 b1)], [(100001, rowB 3 1 intC b1)]⟩) fun b1 =>
 .fin b1
noncomputable def allongeref13_Endorsements (f : File) (part : Int) (day : Int) : (List Int) := (allongeref13_Endorsements_sk f part day).val
theorem allongeref13_Endorsements_pst (f : File) (part : Int) (day : Int) : (allongeref13_Endorsements_sk f part day).pst (fun (x : (List Int)) => x = (title_endorsements_c1 f day part).map (·.1)) := by
  refine Sk.pst_of _ ?_
  unfold allongeref13_Endorsements_sk
  simp only [Sk.pstq, Sk.isLoop, reduceCtorEq, ON, kk, allongeref13_Struck_k, File.Small, Realm.Small, maxLen]
  intro _
  refine ⟨⟨⟨Nat.zero_le _, rfl⟩, fun i hi => ⟨fun hc _ x _ hx => ⟨fun h _ _ => ?_, fun h _ => ?_⟩, fun hc => ?_⟩⟩, fun b hb => hb.trans (ends_fst f day part).symm⟩
  all_goals simp only [LN] at hc
  · have hx := hx ⟨by omega, by omega⟩
    have h : endOk f day part i.2 = true := by unfold endOk; rw [← hx]; exact h
    refine ⟨⟨by omega, ?_⟩, by omega⟩
    rw [List.range_succ, List.filter_append, List.map_append, ← hi.2, List.filter_cons_of_pos h]; rfl
  · have hx := hx ⟨by omega, by omega⟩
    have h : endOk f day part i.2 = false := by unfold endOk; rw [← hx]; exact h
    refine ⟨⟨by omega, ?_⟩, by omega⟩
    rw [List.range_succ, List.filter_append, List.map_append, ← hi.2, List.filter_cons_of_neg (by simp [h])]; simp
  · have e : i.2 = f.signs.length := by omega
    rw [← e]; exact hi.2

theorem allongeref13_Endorsements_post (f : File) (part : Int) (day : Int) : (fun (x : (List Int)) => x = (title_endorsements_c1 f day part).map (·.1)) (allongeref13_Endorsements f part day) := have h := Sk.pval _ (allongeref13_Endorsements_pst f part day); h
theorem allongeref13_Endorsements_ok (f : File) (part : Int) (day : Int) (hf : f.Small) : (allongeref13_Endorsements_sk f part day).obs (fun _ => True) := by
  simp only [File.Small, Realm.Small] at hf
  refine Sk.obs_of _ ?_
  unfold allongeref13_Endorsements_sk
  simp only [Sk.obq, Sk.isLoop, reduceCtorEq, ON, kk, allongeref13_Struck_k, File.Small, Realm.Small, maxLen]
  intro _
  have n1 := hf.1
  refine ⟨⟨Nat.zero_le _, rfl⟩, fun i hi hm => ⟨fun hc => ⟨?_, fun _ x _ hx => ⟨fun h => ⟨?_, fun _ _ => ⟨?_, ?_⟩⟩, fun h _ => ⟨?_, ?_⟩⟩⟩, fun hc => ?_⟩⟩
  all_goals simp only [LN] at hc
  · exact ⟨by omega, by omega⟩
  · simp only [LN]
    have := List.length_filter_le (endOk f day part) (List.range i.2)
    have h2 := congrArg List.length hi.2
    rw [List.length_map] at h2
    rw [List.length_range] at this
    omega
  · exact (w64_id (by omega) (by omega)).trans (by omega)
  · have hx := hx ⟨by omega, by omega⟩
    have h : endOk f day part i.2 = true := by unfold endOk; rw [← hx]; exact h
    refine ⟨⟨by omega, ?_⟩, by omega⟩
    rw [List.range_succ, List.filter_append, List.map_append, ← hi.2, List.filter_cons_of_pos h]; rfl
  · exact (w64_id (by omega) (by omega)).trans (by omega)
  · have hx := hx ⟨by omega, by omega⟩
    have h : endOk f day part i.2 = false := by unfold endOk; rw [← hx]; exact h
    refine ⟨⟨by omega, ?_⟩, by omega⟩
    rw [List.range_succ, List.filter_append, List.map_append, ← hi.2, List.filter_cons_of_neg (by simp [h])]; simp
  · have e : i.2 = f.signs.length := by omega
    rw [← e]; exact hi.2

noncomputable def allongeref13_Endorsements_k (f : File) (part : Int) (day : Int) : Ctr ((List Int)) := kk tok mixed Tryz.func62 [av f.cells, iv part, iv day] (fun x => lv intC x) false (allongeref13_Endorsements_sk f part day) (allongeref13_Endorsements f part day) (fun (h : (f.Small)) => allongeref13_Endorsements_ok f part day h) (fun (x : (List Int)) => x = (title_endorsements_c1 f day part).map (·.1)) (allongeref13_Endorsements_post f part day)
noncomputable def allongeref13_right_sk (before : Int) (flags : Int) : Sk (Int) :=
 .br (((andK .i64 flags 2) != 0) || (before != 0))
 (.fin 1)
 (.br ((andK .i64 flags 4) != 0)
 (.fin 2)
 (.fin 0))
noncomputable def allongeref13_right (before : Int) (flags : Int) : Int := (allongeref13_right_sk before flags).val
theorem allongeref13_right_ok (before : Int) (flags : Int) : (allongeref13_right_sk before flags).obs (fun _ => True) := by
  unfold allongeref13_right_sk
  exact okE

noncomputable def allongeref13_right_k (before : Int) (flags : Int) : Ctr (Int) := kk tok mixed Tryz.func63 [iv before, iv flags] (fun x => iv x) true (allongeref13_right_sk before flags) (allongeref13_right before flags) (fun (_ : True) => allongeref13_right_ok before flags)
noncomputable def allongeref13_late_sk (f : File) (at_ : Int) (day : Int) : Sk (Bool) :=
 .bind true (fun _ => True)
 (.loop (default : Sum (Bool) (Unit)) (fun i2 => i2 ≤ f.acts.length) (fun i2 => f.acts.length - i2) (0 : Nat)
 (fun (i2 : Nat) => ⟨[(7, iv ((i2 : Nat) : Int))], []⟩) fun i2 =>
 .bnd 3 17 f.acts.length <|
 .br (decide (((i2 : Nat) : Int) < ((f.acts.length : Nat) : Int)))
 (.r 4 (.p (ixP ((i2 : Nat) : Int) f.acts.length)) fun _ =>
 .br (((((((f.acts.getD i2 default).kind) == 1) || (((f.acts.getD i2 default).kind) == 3)) || (((f.acts.getD i2 default).kind) == 4)) && (decide (((f.acts.getD i2 default).day) ≤ day))) && (decide (((f.acts.getD i2 default).day) < at_)))
 (.fin (.inl (.inl true)))
 (.r 3 .z fun _ =>
 .wi 7 (w64 (((i2 : Nat) : Int) + 1)) ((i2 + 1 : Nat) : Int) <|
 .fin (.inr (i2 + 1))))
 (.fin (.inl (.inr ()))))
 (fun (_ : Unit) => ⟨[], []⟩) fun _ =>
 .fin false
noncomputable def allongeref13_late (f : File) (at_ : Int) (day : Int) : Bool := (allongeref13_late_sk f at_ day).val
theorem allongeref13_late_ok (f : File) (at_ : Int) (day : Int) : (allongeref13_late_sk f at_ day).obs (fun _ => True) := by
  unfold allongeref13_late_sk
  exact okD

noncomputable def allongeref13_late_k (f : File) (at_ : Int) (day : Int) : Ctr (Bool) := kk tok mixed Tryz.func64 [av f.cells, iv at_, iv day] (fun x => bv x) true (allongeref13_late_sk f at_ day) (allongeref13_late f at_ day) (fun (_ : True) => allongeref13_late_ok f at_ day)
noncomputable def allongeref13_Chain_sk (f : File) (part : Int) (day : Int) : Sk (Chain) :=
 .r 2 ((allongeref13_Endorsements_k f part day).c) fun x1 =>
 .bind true (fun b2 => b2.1 = chainL f x1 f.bill.payee)
 (.loop (default : Sum (Chain) ((List Int) × Int × Int × Int × (List Int))) (fun i3 => i3.1 ≤ x1.length ∧ (i3.2.2.2.1 = -1 → i3.2.1 ++ chainL f (x1.drop i3.1) i3.2.2.1 = chainL f x1 f.bill.payee) ∧ (i3.2.2.2.1 ≠ -1 → i3.2.1 = chainL f x1 f.bill.payee) ∧ i3.2.1.length ≤ i3.1 ∧ i3.2.2.2.2.2.length ≤ i3.1) (fun i3 => x1.length - i3.1) ((0, [], f.bill.payee, (-1), 0, []) : Nat × (List Int) × Int × Int × Int × (List Int))
 (fun (i3 : Nat × (List Int) × Int × Int × Int × (List Int)) => ⟨[(9, iv ((i3.1 : Nat) : Int))], [(100004, rowB 3 1 intC i3.2.1), (100005, rowB 3 1 intC i3.2.2.2.2.2), (7, .box ([ow 100004 i3.2.1] ++ [iv i3.2.2.1, iv i3.2.2.2.1, bv false, iv i3.2.2.2.2.1, ow 100005 i3.2.2.2.2.2]))]⟩) fun i3 =>
 .bnd 8 0 x1.length <|
 .br ((decide (((i3.1 : Nat) : Int) < ((x1.length : Nat) : Int))) && (i3.2.2.2.1 == (-1)))
 (.r 6 (.andl (.p (ixP ((i3.1 : Nat) : Int) x1.length)) (.p (ixP (x1.getD i3.1 default) f.signs.length))) fun _ =>
 .br ((i3.2.2.1 != (-1)) && (((f.signs.getD ((x1.getD i3.1 default).toNat) default).who) != i3.2.2.1))
 (.r 8 (.p (ixP ((i3.1 : Nat) : Int) x1.length)) fun _ =>
 .r 5 .z fun _ =>
 .wi 9 (w64 (((i3.1 : Nat) : Int) + 1)) ((i3.1 + 1 : Nat) : Int) <|
 .fin (.inr (i3.1 + 1, i3.2.1, i3.2.2.1, x1.getD i3.1 default, i3.2.2.2.2.1, i3.2.2.2.2.2)))
 (.r 9 (.andl (.p (ixP ((i3.1 : Nat) : Int) x1.length)) (.andl (.o [.nrm (litC intE [x1.getD i3.1 default])]) (.andl (.o [.nrm (catC intE i3.2.1 [x1.getD i3.1 default])]) (.andl (.t (intE.ones [x1.getD i3.1 default])) (.p (szP i3.2.1.length [x1.getD i3.1 default].length 8)))))) fun _ =>
 .r 11 ((allongeref13_right_k i3.2.2.2.2.1 ((f.signs.getD ((x1.getD i3.1 default).toNat) default).flags)).c) fun x4 =>
 .r 12 ((allongeref13_late_k f ((f.signs.getD ((x1.getD i3.1 default).toNat) default).day) day).c) fun x5 =>
 .br x5
 (.r 13 (.andl (.p (ixP ((i3.1 : Nat) : Int) x1.length)) (.andl (.o [.nrm (litC intE [x1.getD i3.1 default])]) (.andl (.o [.nrm (catC intE i3.2.2.2.2.2 [x1.getD i3.1 default])]) (.andl (.t (intE.ones [x1.getD i3.1 default])) (.p (szP i3.2.2.2.2.2.length [x1.getD i3.1 default].length 8)))))) fun _ =>
 .r 5 .z fun _ =>
 .wi 9 (w64 (((i3.1 : Nat) : Int) + 1)) ((i3.1 + 1 : Nat) : Int) <|
 .fin (.inr (i3.1 + 1, i3.2.1 ++ [x1.getD i3.1 default], (f.signs.getD ((x1.getD i3.1 default).toNat) default).to_, i3.2.2.2.1, x4, i3.2.2.2.2.2 ++ [x1.getD i3.1 default])))
 (.r 5 .z fun _ =>
 .wi 9 (w64 (((i3.1 : Nat) : Int) + 1)) ((i3.1 + 1 : Nat) : Int) <|
 .fin (.inr (i3.1 + 1, i3.2.1 ++ [x1.getD i3.1 default], (f.signs.getD ((x1.getD i3.1 default).toNat) default).to_, i3.2.2.2.1, x4, i3.2.2.2.2.2)))))
 (.fin (.inl (.inr (i3.2.1, i3.2.2.1, i3.2.2.2.1, i3.2.2.2.2.1, i3.2.2.2.2.2)))))
 (fun (b2 : (List Int) × Int × Int × Int × (List Int)) => ⟨[], [(100002, rowB 3 1 intC b2.1), (100003, rowB 3 1 intC b2.2.2.2.2), (7, .box ([ow 100002 b2.1] ++ [iv b2.2.1, iv b2.2.2.1, bv false, iv b2.2.2.2.1, ow 100003 b2.2.2.2.2]))]⟩) fun b2 =>
 .fin ({ signs := b2.1, holder := b2.2.1, broken := b2.2.2.1, bearer := b2.2.1 == (-1), agent := b2.2.2.2.1, late := b2.2.2.2.2 } : Chain)
noncomputable def allongeref13_Chain (f : File) (part : Int) (day : Int) : Chain := (allongeref13_Chain_sk f part day).val
theorem allongeref13_Chain_pst (f : File) (part : Int) (day : Int) : (allongeref13_Chain_sk f part day).pst (fun (x : Chain) => x.signs = (title_Chain f part day).signs) := by
  refine Sk.pst_of _ ?_
  unfold allongeref13_Chain_sk
  simp only [Sk.pstq, Sk.isLoop, reduceCtorEq, ON, kk, allongeref13_Endorsements_k, allongeref13_late_k, allongeref13_right_k, File.Small, Realm.Small, maxLen]
  intro x _ hx
  have hm := fun i hi => ends_rng hx i hi
  refine ⟨⟨⟨Nat.zero_le _, rfl, fun h => absurd rfl h, Nat.le_refl _⟩, fun i hi => ⟨fun hc _ => ?_, fun hc => ?_⟩⟩, fun b hb => ?_⟩
  · simp only [LN] at hc
    have hi1 : i.1 < x.length := by omega
    have h2 := hi.2.1 hc.2
    rw [chainL_drop f x i.1 _ hi1] at h2
    have hr := hm i.1 hi1
    refine ⟨fun hb _ _ => ?_, fun hb _ a _ l _ => ⟨fun _ _ _ => ?_, fun _ _ => ?_⟩⟩
    · rw [hb, cond_true, List.append_nil] at h2
      exact ⟨⟨by omega, fun e => absurd e (by omega), fun _ => h2, by omega, by omega⟩, by omega⟩
    · rw [hb, cond_false] at h2
      simp only [LN]
      exact ⟨⟨by omega, fun _ => by rw [List.append_assoc]; exact h2, fun e => absurd hc.2 e, by omega, by omega⟩, by omega⟩
    · rw [hb, cond_false] at h2
      simp only [LN]
      exact ⟨⟨by omega, fun _ => by rw [List.append_assoc]; exact h2, fun e => absurd hc.2 e, by omega, by omega⟩, by omega⟩
  · simp only [LN] at hc
    by_cases e : i.2.2.2.1 = -1
    · have h2 := hi.2.1 e
      rw [show i.1 = x.length by omega, List.drop_length] at h2
      rw [← h2]; simp [chainL]
    · exact hi.2.2.1 e
  · rw [hb, Chain_signs, ← hx]

theorem allongeref13_Chain_post (f : File) (part : Int) (day : Int) : (fun (x : Chain) => x.signs = (title_Chain f part day).signs) (allongeref13_Chain f part day) := have h := Sk.pval _ (allongeref13_Chain_pst f part day); h
theorem allongeref13_Chain_ok (f : File) (part : Int) (day : Int) (hf : f.Small) : (allongeref13_Chain_sk f part day).obs (fun _ => True) := by
  simp only [File.Small, Realm.Small] at hf
  refine Sk.obs_of _ ?_
  unfold allongeref13_Chain_sk
  simp only [Sk.obq, Sk.isLoop, reduceCtorEq, ON, kk, allongeref13_Endorsements_k, allongeref13_late_k, allongeref13_right_k, File.Small, Realm.Small, maxLen]
  refine ⟨hf, fun x _ hx => ?_⟩
  have n1 := hf.1
  have hl : x.length ≤ f.signs.length := by rw [hx, List.length_map]; exact ends_len f day part
  have hm := fun i hi => ends_rng hx i hi
  refine ⟨⟨Nat.zero_le _, rfl, fun h => absurd rfl h, Nat.le_refl _⟩, fun i hi hm2 => ⟨fun hc => ?_, fun hc => ?_⟩⟩
  · simp only [LN] at hc
    have hi1 : i.1 < x.length := by omega
    have h2 := hi.2.1 hc.2
    rw [chainL_drop f x i.1 _ hi1] at h2
    have hr := hm i.1 hi1
    have w1 : w64 ((i.1 : Int) + 1) = ((i.1 + 1 : Nat) : Int) := (w64_id (by omega) (by omega)).trans (by omega)
    have ix : 0 ≤ (i.1 : Int) ∧ (i.1 : Int) < (x.length : Int) := ⟨by omega, by omega⟩
    refine ⟨⟨ix, hr⟩, fun _ => ⟨fun hb => ⟨ix, fun _ _ => ⟨w1, ?_⟩⟩, fun hb => ⟨⟨ix, ?_⟩, fun _ a _ l _ => ⟨fun _ => ⟨⟨ix, ?_⟩, fun _ _ => ⟨w1, ?_⟩⟩, fun _ _ => ⟨w1, ?_⟩⟩⟩⟩⟩
    · rw [hb, cond_true, List.append_nil] at h2
      exact ⟨⟨by omega, fun e => absurd e (by omega), fun _ => h2, by omega, by omega⟩, by omega⟩
    · simp only [LN]
      omega
    · simp only [LN]
      omega
    · rw [hb, cond_false] at h2
      simp only [LN]
      exact ⟨⟨by omega, fun _ => by rw [List.append_assoc]; exact h2, fun e => absurd hc.2 e, by omega, by omega⟩, by omega⟩
    · rw [hb, cond_false] at h2
      simp only [LN]
      exact ⟨⟨by omega, fun _ => by rw [List.append_assoc]; exact h2, fun e => absurd hc.2 e, by omega, by omega⟩, by omega⟩
  · simp only [LN] at hc
    by_cases e : i.2.2.2.1 = -1
    · have h2 := hi.2.1 e
      rw [show i.1 = x.length by omega, List.drop_length] at h2
      rw [← h2]; simp [chainL]
    · exact hi.2.2.1 e

noncomputable def allongeref13_Chain_k (f : File) (part : Int) (day : Int) : Ctr (Chain) := kk tok mixed Tryz.func34 [av f.cells, iv part, iv day] (fun x => av x.cells) false (allongeref13_Chain_sk f part day) (allongeref13_Chain f part day) (fun (h : (f.Small)) => allongeref13_Chain_ok f part day h) (fun (x : Chain) => x.signs = (title_Chain f part day).signs) (allongeref13_Chain_post f part day)
noncomputable def allongeref26_counts_sk (now : File) (leading : List Int) (part : Int) (sign : Int) : Sk (Bool) :=
 .r 1 (.p (ixP sign now.signs.length)) fun _ =>
 .r 2 (.wh (sign == 0) false ((allongeref26_has_k leading ((now.signs.getD sign.toNat default).part)).c)) fun x1 =>
 .br ((sign == 0) || (!x1))
 (.r 3 (.p (ixP (0 : Int) leading.length)) fun _ =>
 .fin ((leading.getD 0 default) == part))
 (.fin (((now.signs.getD sign.toNat default).part) == part))
noncomputable def allongeref26_counts (now : File) (leading : List Int) (part : Int) (sign : Int) : Bool := (allongeref26_counts_sk now leading part sign).val
theorem allongeref26_counts_pst (now : File) (leading : List Int) (part : Int) (sign : Int) : (allongeref26_counts_sk now leading part sign).pst (fun (x : Bool) => ∀ v : View, v.now = now → v.lead = leading → x = (owe_view_part v sign == part)) := by
  refine Sk.pst_of _ ?_
  unfold allongeref26_counts_sk
  simp only [Sk.pstq, Sk.isLoop, reduceCtorEq, ON, kk, allongeref26_has_k, maxLen]
  intro _ x _ hx
  have e : x = slices_Contains leading ((now.signs.getD sign.toNat default).part) := by rw [Bool.eq_iff_iff, contains_iff]; exact hx
  refine ⟨fun h _ v hv hl => ?_, fun h v hv hl => ?_⟩
  · subst hv hl
    rw [part_eq, ← e, h]; rfl
  · subst hv hl
    rw [part_eq, ← e, h]; rfl

theorem allongeref26_counts_post (now : File) (leading : List Int) (part : Int) (sign : Int) : (fun (x : Bool) => ∀ v : View, v.now = now → v.lead = leading → x = (owe_view_part v sign == part)) (allongeref26_counts now leading part sign) := have h := Sk.pval _ (allongeref26_counts_pst now leading part sign); h
theorem allongeref26_counts_ok (now : File) (leading : List Int) (part : Int) (sign : Int) (hs : 0 ≤ sign ∧ sign < (now.signs.length : Int)) (hl : leading.length ≠ 0) : (allongeref26_counts_sk now leading part sign).obs (fun _ => True) := by
  unfold allongeref26_counts_sk
  try simp only [allongeref26_has_k]
  exact okD

noncomputable def allongeref26_counts_k (now : File) (leading : List Int) (part : Int) (sign : Int) : Ctr (Bool) := kk tok mixed Tryz.func35 [av now.cells, lv intC leading, iv part, iv sign] (fun x => bv x) true (allongeref26_counts_sk now leading part sign) (allongeref26_counts now leading part sign) (fun (h : (0 ≤ sign ∧ sign < (now.signs.length : Int)) ∧ (leading.length ≠ 0)) => allongeref26_counts_ok now leading part sign h.1 h.2) (fun (x : Bool) => ∀ v : View, v.now = now → v.lead = leading → x = (owe_view_part v sign == part)) (allongeref26_counts_post now leading part sign)
noncomputable def allongeref26_Liable_sk (f : File) (part : Int) (by_ : Int) (day : Int) : Sk ((List Int)) :=
 .r 1 ((allongeref14_At_k f day).c) fun x1 =>
 .r 2 ((allongeref26_Leading_k f day).c) fun x2 =>
 .r 3 (.o [.nrm (litC intE ([] : List Int))]) fun _ =>
 .r 4 ((allongeref26_has_k x2 part).c) fun x3 =>
 .br (!x3)
 (.fin ([] : List Int))
 (.r 6 ((allongeref13_Chain_k f part day).c) fun x4 =>
 .r 7 (.wh (by_ != (-1)) true ((allongeref26_has_k x4.signs by_).c)) fun x5 =>
 .br ((by_ != (-1)) && (!x5))
 (.fin ([] : List Int))
 (.bind true (fun b6 => (∀ q, q < (record_At f day).signs.length → (0 ≤ ((record_At f day).signs.getD q default).part ∧ ((record_At f day).signs.getD q default).part < 4) ∧ 0 ≤ ((record_At f day).signs.getD q default).kind ∧ ((record_At f day).signs.getD q default).kind ≤ 4) → b6 = liTo (owe_open f day) part by_ (owe_view_links (owe_open f day) part) x1.signs.length)
 (.loop (default : Sum ((List Int)) ((List Int))) (fun i7 => i7.2 ≤ x1.signs.length ∧ i7.1.length ≤ i7.2 ∧ ((∀ q, q < (record_At f day).signs.length → (0 ≤ ((record_At f day).signs.getD q default).part ∧ ((record_At f day).signs.getD q default).part < 4) ∧ 0 ≤ ((record_At f day).signs.getD q default).kind ∧ ((record_At f day).signs.getD q default).kind ≤ 4) → i7.1 = liTo (owe_open f day) part by_ (owe_view_links (owe_open f day) part) i7.2)) (fun i7 => x1.signs.length - i7.2) ((([] : List Int), 0) : (List Int) × Nat)
 (fun (i7 : (List Int) × Nat) => ⟨[(11, ow 100002 i7.1), (13, iv ((i7.2 : Nat) : Int))], [(100002, rowB 3 1 intC i7.1)]⟩) fun i7 =>
 .bnd 9 15 x1.signs.length <|
 .br (decide (((i7.2 : Nat) : Int) < ((x1.signs.length : Nat) : Int)))
 (.r 12 (.p (ixP ((i7.2 : Nat) : Int) x1.signs.length)) fun _ =>
 .r 13 ((allongeref26_counts_k x1 x2 part ((i7.2 : Nat) : Int)).c) fun x8 =>
 .br (!x8)
 (.r 11 .z fun _ =>
 .wi 13 (w64 (((i7.2 : Nat) : Int) + 1)) ((i7.2 + 1 : Nat) : Int) <|
 .fin (.inr (i7.1, i7.2 + 1)))
 (.bind false (fun b9 => b9 = bif (x1.signs.getD i7.2 default).kind == 2 then (slices_Contains x4.signs ((i7.2 : Nat) : Int) && decide (((i7.2 : Nat) : Int) ≤ by_)) && ((andK .i64 (x1.signs.getD i7.2 default).flags 2) == 0) else ((x1.signs.getD i7.2 default).kind == 0) || ((x1.signs.getD i7.2 default).kind == 1))
 (.br (((x1.signs.getD i7.2 default).kind) == 2)
 (.r 16 ((allongeref26_has_k x4.signs ((i7.2 : Nat) : Int)).c) fun x10 =>
 .fin (.inr ((x10 && (decide (((i7.2 : Nat) : Int) ≤ by_))) && ((andK .i64 ((x1.signs.getD i7.2 default).flags) 2) == 0))))
 (.fin (.inr ((((x1.signs.getD i7.2 default).kind) == 0) || (((x1.signs.getD i7.2 default).kind) == 1)))))
 (fun (b9 : Bool) => ⟨[(15, bv b9)], []⟩) fun b9 =>
 .bind false (fun b11 => b11 = bif ((x1.signs.getD i7.2 default).kind == 3) || ((x1.signs.getD i7.2 default).kind == 4) then slices_Contains i7.1 (x1.signs.getD i7.2 default).for_ else b9)
 (.br ((((x1.signs.getD i7.2 default).kind) == 3) || (((x1.signs.getD i7.2 default).kind) == 4))
 (.r 18 ((allongeref26_has_k i7.1 ((x1.signs.getD i7.2 default).for_)).c) fun x12 =>
 .fin (.inr x12))
 (.fin (.inr b9)))
 (fun (b11 : Bool) => ⟨[(15, bv b11)], []⟩) fun b11 =>
 .br b11
 (.r 20 (.andl (.o [.nrm (litC intE [((i7.2 : Nat) : Int)])]) (.andl (.o [.nrm (catC intE i7.1 [((i7.2 : Nat) : Int)])]) (.andl (.t (intE.ones [((i7.2 : Nat) : Int)])) (.p (szP i7.1.length [((i7.2 : Nat) : Int)].length 8))))) fun _ =>
 .r 11 .z fun _ =>
 .wi 13 (w64 (((i7.2 : Nat) : Int) + 1)) ((i7.2 + 1 : Nat) : Int) <|
 .fin (.inr (i7.1 ++ [((i7.2 : Nat) : Int)], i7.2 + 1)))
 (.r 11 .z fun _ =>
 .wi 13 (w64 (((i7.2 : Nat) : Int) + 1)) ((i7.2 + 1 : Nat) : Int) <|
 .fin (.inr (i7.1, i7.2 + 1)))))
 (.fin (.inl (.inr i7.1))))
 (fun (b6 : (List Int)) => ⟨[(11, ow 100001 b6)], [(100001, rowB 3 1 intC b6)]⟩) fun b6 =>
 .fin b6))
noncomputable def allongeref26_Liable (f : File) (part : Int) (by_ : Int) (day : Int) : (List Int) := (allongeref26_Liable_sk f part by_ day).val
theorem allongeref26_Liable_pst (f : File) (part : Int) (by_ : Int) (day : Int) : (allongeref26_Liable_sk f part by_ day).pst (fun (x : (List Int)) => (∀ q, q < (record_At f day).signs.length → (0 ≤ ((record_At f day).signs.getD q default).part ∧ ((record_At f day).signs.getD q default).part < 4) ∧ 0 ≤ ((record_At f day).signs.getD q default).kind ∧ ((record_At f day).signs.getD q default).kind ≤ 4) → x = owe_Liable f part by_ day) := by
  refine Sk.pst_of _ ?_
  unfold allongeref26_Liable_sk
  simp only [Sk.pstq, Sk.isLoop, reduceCtorEq, ON, kk, allongeref13_Chain_k, allongeref14_At_k, allongeref26_Leading_k, allongeref26_counts_k, allongeref26_has_k, File.Small, Realm.Small, maxLen]
  intro x _ hx lead _ hlead _ x3 _ h3
  subst hx
  refine ⟨fun hn H => liable_none (hlead.2 fun q hq => (H q hq).1) h3 hn, fun hn ch _ hs x5 _ h5 => ⟨fun hy H => ?_, fun hy => ⟨⟨⟨Nat.zero_le _, Nat.le_refl _, fun _ => rfl⟩, fun i hi => ⟨fun hc _ x7 _ h7 => ?_, fun hc H => ?_⟩⟩, fun b hb H => ?_⟩⟩⟩
  · rw [liable_some (hlead.2 fun q hq => (H q hq).1) h3 hn hs h5, hy]; rfl
  · simp only [LN] at hc
    have step : ∀ {b b1 : Bool}, _ → _ → FivesOK f day → _ := fun {b b1} hb hb1 H => liable_step (b := b) (b1 := b1) H (show i.2 < (record_At f day).signs.length by omega) hs (hi.2.2 H) (h7 (owe_open f day) (open_now f day) ((Leading_open f day).symm.trans (hlead.2 fun q hq => (H q hq).1).symm)) hb hb1
    refine ⟨fun h _ => ⟨⟨by omega, by omega, fun H => ?_⟩, by omega⟩, fun h => ⟨⟨fun hk y _ hy => ?_, fun hk => ?_⟩, fun b _ hb => ⟨⟨fun hk y _ hy => ?_, fun hk => ?_⟩, fun b1 _ hb1 => ⟨fun h1 _ _ => ⟨⟨by omega, ?_, fun H => ?_⟩, by omega⟩, fun h1 _ => ⟨⟨by omega, by omega, fun H => ?_⟩, by omega⟩⟩⟩⟩⟩
    · rw [step rfl rfl H, h, cond_true]
    · rw [hk, cond_true, show y = slices_Contains ch.signs ((i.2 : Nat) : Int) by rw [Bool.eq_iff_iff, contains_iff]; exact hy]
    · rw [hk, cond_false]
    · rw [hk, cond_true, Bool.eq_iff_iff, contains_iff]; exact hy
    · rw [hk, cond_false]
    · simp only [LN]; omega
    · rw [step hb hb1 H, h, cond_false, h1, cond_true]
    · rw [step hb hb1 H, h, cond_false, h1, cond_false]
  · simp only [LN] at hc
    rw [hi.2.2 H, show i.2 = (record_At f day).signs.length by omega]
  · rw [liable_some (hlead.2 fun q hq => (H q hq).1) h3 hn hs h5, hy, cond_false]; exact hb H

theorem allongeref26_Liable_post (f : File) (part : Int) (by_ : Int) (day : Int) : (fun (x : (List Int)) => (∀ q, q < (record_At f day).signs.length → (0 ≤ ((record_At f day).signs.getD q default).part ∧ ((record_At f day).signs.getD q default).part < 4) ∧ 0 ≤ ((record_At f day).signs.getD q default).kind ∧ ((record_At f day).signs.getD q default).kind ≤ 4) → x = owe_Liable f part by_ day) (allongeref26_Liable f part by_ day) := have h := Sk.pval _ (allongeref26_Liable_pst f part by_ day); h
theorem allongeref26_Liable_ok (f : File) (part : Int) (by_ : Int) (day : Int) (hf : f.Small) : (allongeref26_Liable_sk f part by_ day).obs (fun _ => True) := by
  simp only [File.Small, Realm.Small] at hf
  refine Sk.obs_of _ ?_
  unfold allongeref26_Liable_sk
  simp only [Sk.obq, Sk.isLoop, reduceCtorEq, ON, kk, allongeref13_Chain_k, allongeref14_At_k, allongeref26_Leading_k, allongeref26_counts_k, allongeref26_has_k, File.Small, Realm.Small, maxLen]
  refine ⟨hf, fun x _ hx => ⟨hf, fun lead _ hlead _ x3 _ h3 hn => ⟨hf, fun ch _ hs x5 _ h5 hy => ?_⟩⟩⟩
  subst hx
  have n1 := hf.1
  have n2 := (record_At_post f day).1
  refine ⟨⟨Nat.zero_le _, Nat.le_refl _, fun _ => rfl⟩, fun i hi hm => ⟨fun hc => ?_, fun hc H => ?_⟩⟩
  · simp only [LN] at hc
    have ix : 0 ≤ (i.2 : Int) ∧ (i.2 : Int) < ((record_At f day).signs.length : Int) := ⟨by omega, by omega⟩
    have w1 : w64 ((i.2 : Int) + 1) = ((i.2 + 1 : Nat) : Int) := (w64_id (by omega) (by omega)).trans (by omega)
    refine ⟨ix, fun _ => ⟨⟨ix, hlead.1⟩, fun x7 _ h7 => ?_⟩⟩
    have step : ∀ {b b1 : Bool}, _ → _ → FivesOK f day → _ := fun {b b1} hb hb1 H => liable_step (b := b) (b1 := b1) H (show i.2 < (record_At f day).signs.length by omega) hs (hi.2.2 H) (h7 (owe_open f day) (open_now f day) ((Leading_open f day).symm.trans (hlead.2 fun q hq => (H q hq).1).symm)) hb hb1
    refine ⟨fun h _ => ⟨w1, ⟨by omega, by omega, fun H => ?_⟩, by omega⟩, fun h => ⟨⟨fun hk y _ hy => ?_, fun hk => ?_⟩, fun b _ hb => ⟨⟨fun hk y _ hy => ?_, fun hk => ?_⟩, fun b1 _ hb1 => ⟨fun h1 => ⟨?_, fun _ _ => ⟨w1, ⟨by omega, ?_, fun H => ?_⟩, by omega⟩⟩, fun h1 _ => ⟨w1, ⟨by omega, by omega, fun H => ?_⟩, by omega⟩⟩⟩⟩⟩
    · rw [step rfl rfl H, h, cond_true]
    · rw [hk, cond_true, show y = slices_Contains ch.signs ((i.2 : Nat) : Int) by rw [Bool.eq_iff_iff, contains_iff]; exact hy]
    · rw [hk, cond_false]
    · rw [hk, cond_true, Bool.eq_iff_iff, contains_iff]; exact hy
    · rw [hk, cond_false]
    · simp only [LN]; omega
    · simp only [LN]; omega
    · rw [step hb hb1 H, h, cond_false, h1, cond_true]
    · rw [step hb hb1 H, h, cond_false, h1, cond_false]
  · simp only [LN] at hc
    rw [hi.2.2 H, show i.2 = (record_At f day).signs.length by omega]

noncomputable def allongeref26_Liable_k (f : File) (part : Int) (by_ : Int) (day : Int) : Ctr ((List Int)) := kk tok mixed Tryz.func13 [av f.cells, iv part, iv by_, iv day] (fun x => lv intC x) false (allongeref26_Liable_sk f part by_ day) (allongeref26_Liable f part by_ day) (fun (h : (f.Small)) => allongeref26_Liable_ok f part by_ day h) (fun (x : (List Int)) => (∀ q, q < (record_At f day).signs.length → (0 ≤ ((record_At f day).signs.getD q default).part ∧ ((record_At f day).signs.getD q default).part < 4) ∧ 0 ≤ ((record_At f day).signs.getD q default).kind ∧ ((record_At f day).signs.getD q default).kind ≤ 4) → x = owe_Liable f part by_ day) (allongeref26_Liable_post f part by_ day)
noncomputable def allongelaw26_OweLeads_sk (r : Realm) (f : File) (part : Int) (by_ : Int) (day : Int) : Sk (Bool) :=
 .r 1 allongelaw26_sane_k.c fun x1 =>
 .r 2 ((allongelaw26_few_k r f).c) fun x2 =>
 .br (!x2)
 (.fin x1)
 (.r 4 (.dep (.wh x1 true ((owe_Leading_k f day).c)) fun x3 => .dep (.wh x1 true ((allongeref26_Leading_k f day).c)) fun x4 => .dep (.wh x1 true ((allongeref15_Same_k x3 x4).c)) fun x5 => .dep (.wh (x1 && x5) true ((owe_Liable_k f part by_ day).c)) fun x6 => .dep (.wh (x1 && x5) true ((allongeref26_Liable_k f part by_ day).c)) fun x7 => .wh (x1 && x5) true ((allongeref15_Same_k x6 x7).c)) fun p9 =>
 .fin ((x1 && p9.2.2.1) && p9.2.2.2.2.2))
noncomputable def allongelaw26_OweLeads (r : Realm) (f : File) (part : Int) (by_ : Int) (day : Int) : Bool := (allongelaw26_OweLeads_sk r f part by_ day).val
theorem allongelaw26_OweLeads_pst (r : Realm) (f : File) (part : Int) (by_ : Int) (day : Int) : (allongelaw26_OweLeads_sk r f part by_ day).pst (fun (x : Bool) => x = true) := by
  refine Sk.pst_of _ ?_
  unfold allongelaw26_OweLeads_sk
  simp only [Sk.pstq, Sk.isLoop, reduceCtorEq, ON, kk, allongelaw26_few_k, allongelaw26_sane_k, allongeref15_Same_k, allongeref26_Leading_k, allongeref26_Liable_k, owe_Leading_k, owe_Liable_k, maxLen]
  intro x hx hs y hy hF
  refine ⟨fun _ => hs, fun h0 p hp hq => ?_⟩
  have hR := (hF (by simpa using h0)).2.2.2.2.2
  have hall : ∀ q, q < (record_At f day).signs.length → (0 ≤ ((record_At f day).signs.getD q default).part ∧ ((record_At f day).signs.getD q default).part < 4) ∧ 0 ≤ ((record_At f day).signs.getD q default).kind ∧ ((record_At f day).signs.getD q default).kind ≤ 4 := fun q hq => by
    have h1 := signs_At_leR f day
    have h2 := hR.2.2.1 q (by omega)
    rw [sign_AtR f day q hq]
    have h3 := h2.2.2.2.2.1
    have h4 := h2.2.2.2.2.2.2.1
    have h5 := hR.1.2.2.2.1
    exact ⟨⟨h3.1, by omega⟩, h4⟩
  obtain ⟨⟨-, q1⟩, q2, q3, q4⟩ := hq
  have e1 : p.1 = p.2.1 := by rw [q1 (fun q hq => (hall q hq).1), hp]
  have e2 : p.2.2.2.1 = p.2.2.2.2.1 := by rw [q3 hall, hp]
  rw [hs, q2 e1, q4 e2]; rfl

theorem allongelaw26_OweLeads_post (r : Realm) (f : File) (part : Int) (by_ : Int) (day : Int) : (fun (x : Bool) => x = true) (allongelaw26_OweLeads r f part by_ day) := have h := Sk.pval _ (allongelaw26_OweLeads_pst r f part by_ day); h
theorem allongelaw26_OweLeads_ok (r : Realm) (f : File) (part : Int) (by_ : Int) (day : Int) : (allongelaw26_OweLeads_sk r f part by_ day).obs (fun _ => True) := by
  refine Sk.obs_of _ ?_
  unfold allongelaw26_OweLeads_sk
  simp only [Sk.obq, Sk.isLoop, reduceCtorEq, ON, kk, allongelaw26_few_k, allongelaw26_sane_k, allongeref15_Same_k, allongeref26_Leading_k, allongeref26_Liable_k, owe_Leading_k, owe_Liable_k, maxLen]
  intro x hx hs y hy hF h0
  have hS := (hF (by simpa using h0)).2.2.2.2.2.small
  exact ⟨fun _ => hS, fun _ _ => ⟨fun _ => hS, fun _ _ _ _ _ _ => ⟨fun _ => hS, fun _ _ _ => hS⟩⟩⟩

noncomputable def allongelaw26_OweLeads_k (r : Realm) (f : File) (part : Int) (by_ : Int) (day : Int) : Ctr (Bool) := kk tok mixed Tryz.func3 [av r.cells, av f.cells, iv part, iv by_, iv day] (fun x => bv x) true (allongelaw26_OweLeads_sk r f part by_ day) (allongelaw26_OweLeads r f part by_ day) (fun (_ : True) => allongelaw26_OweLeads_ok r f part by_ day) (fun (x : Bool) => x = true) (allongelaw26_OweLeads_post r f part by_ day)
theorem allongelaw26_OweLeads_fn (r : Realm) (f : File) (part : Int) (by_ : Int) (day : Int) : FnA Tryz.prog 3 [av r.cells, av f.cells, iv part, iv by_, iv day] [] (bv (allongelaw26_OweLeads r f part by_ day)) [] := (allongelaw26_OweLeads_k r f part by_ day).pf trivial
end Go.Proofs.YtjaehpinmdpmbaaGreatDoor

