/- Functions, as sketches. -/
import Derived.Test.YtihmmpaalpghbaaGreatDoorRv16
namespace Go.Proofs.YtihmmpaalpghbaaGreatDoor
open Go Go.Av
set_option linter.unusedSimpArgs false
set_option linter.unusedVariables false
set_option maxHeartbeats 1000000
set_option maxRecDepth 100000
/-! the law of later days -/
abbrev dayLe (d : Int) (x : Arrival) : Bool := decide (x.day ≤ d)
theorem bytesLess_iff : ∀ (a b : List UInt8), Op.bytesLess a b = true ↔ a < b
  | a, [] => by cases a <;> simp [Op.bytesLess]
  | [], _ :: _ => by simp [Op.bytesLess]
  | a :: x, b :: y => by
    rw [List.cons_lt_cons_iff, ← bytesLess_iff x y]
    simp [Op.bytesLess]
theorem strLt_iff (a b : ByteArray) : strLt a b = true ↔ a.data.toList < b.data.toList := by
  unfold strLt
  rw [bytesLess_iff, Lib.toList_data, Lib.toList_data]
theorem early_agreed (l : List Arrival) (d : Int) : (agreedL l d).Perm (agreedL (l.filter (dayLe d)) d) := by
  refine agreedL_congr fun x => ?_
  rw [agreedL_iff, agreedL_iff]
  have key : ∀ a, a ∈ l → agC d a = true → a ∈ l.filter (dayLe d) := fun a h1 h2 => by
    refine List.mem_filter.2 ⟨h1, ?_⟩
    unfold agC at h2
    simp only [Bool.and_eq_true, decide_eq_true_eq] at h2
    exact decide_eq_true h2.1.1.2
  constructor
  · rintro ⟨a, b, ha, hb, ca, cb, r⟩
    exact ⟨a, b, key a ha ca, key b hb cb, ca, cb, r⟩
  · rintro ⟨a, b, ha, hb, r⟩
    exact ⟨a, b, (List.mem_filter.1 ha).1, (List.mem_filter.1 hb).1, r⟩
theorem agC_mono {d e : Int} (h : d ≤ e) {x : Arrival} (hx : agC d x = true) : agC e x = true := by
  unfold agC at hx ⊢
  simp only [Bool.and_eq_true, decide_eq_true_eq] at hx ⊢
  exact ⟨⟨⟨hx.1.1.1, by omega⟩, hx.1.2⟩, hx.2⟩
theorem agreed_mono {l : List Arrival} {d e : Int} (h : d ≤ e) {x : Report} (hx : x ∈ agreedL l d) : x ∈ agreedL l e := by
  rw [agreedL_iff] at hx ⊢
  obtain ⟨a, b, ha, hb, ca, cb, r⟩ := hx
  exact ⟨a, b, ha, hb, agC_mono h ca, agC_mono h cb, r⟩
theorem countP_sub {α : Type} {L L' : List α} (p : α → Bool) (h : L.Nodup) (hs : ∀ x, x ∈ L → x ∈ L') : L.countP p ≤ L'.countP p := by
  rw [List.countP_eq_length_filter, List.countP_eq_length_filter]
  exact List.Nodup.length_le_of_subset (h.filter p) (fun x hx => by
    rw [List.mem_filter] at hx ⊢
    exact ⟨hs x hx.1, hx.2⟩)
theorem cnt_mono {l : List Arrival} {d e : Int} (h : d ≤ e) (r c : Int) : cnt (agreedL l d) r c ≤ cnt (agreedL l e) r c :=
  countP_sub _ (agreedL_nodup l d) (fun _ hx => agreed_mono h hx)
/-- who has lied, as a list -/
theorem Liars_mem {l : List Arrival} {d : Int} (hl : l.length ≤ 1200) (r : Int) : r ∈ report_Liars l d ↔ lied (agreedL l d) r = true := by
  obtain ⟨m, hm⟩ := liarQ_ex (agreedL l d)
  rw [report_Liars_of hl hm, liarQ_sort hm]
  unfold lied
  exact (@decide_eq_true_iff _ (Classical.propDecidable _)).symm
theorem lied_mono {l : List Arrival} {d e : Int} (h : d ≤ e) {r : Int} (hr : lied (agreedL l d) r = true) : lied (agreedL l e) r = true := by
  unfold lied at hr ⊢
  obtain ⟨c, hc⟩ := (@decide_eq_true_iff _ (Classical.propDecidable _)).1 hr
  exact (@decide_eq_true_iff _ (Classical.propDecidable _)).2 ⟨c, Nat.le_trans hc (cnt_mono h r c)⟩
theorem Known_mem {l : List Arrival} {d : Int} (hl : l.length ≤ 1200) (hi : ∀ a, a ∈ l → a.report.I64) (x : Report) : x ∈ report_Known l d ↔ x ∈ agreedL l d ∧ lied (agreedL l d) x.reporter = false := by
  rw [report_Known_of hl hi]
  unfold knownL
  have hs : ∀ s, s ∈ (agreedL l d).filter (fun c => !lied (agreedL l d) c.reporter) → s.I64 := fun s hs => by
    obtain ⟨h1, a, h2, h3⟩ := agreedL_mem (List.mem_filter.1 hs).1
    exact h3 ▸ hi a h2
  rw [(sortRp_perm hs).mem_iff, List.mem_filter, Bool.not_eq_true']
theorem Known_nodup {l : List Arrival} {d : Int} (hl : l.length ≤ 1200) (hi : ∀ a, a ∈ l → a.report.I64) : (report_Known l d).Nodup := by
  rw [report_Known_of hl hi]
  unfold knownL
  have hs : ∀ s, s ∈ (agreedL l d).filter (fun c => !lied (agreedL l d) c.reporter) → s.I64 := fun s hs => by
    obtain ⟨h1, a, h2, h3⟩ := agreedL_mem (List.mem_filter.1 hs).1
    exact h3 ▸ hi a h2
  exact (sortRp_perm hs).nodup_iff.2 ((agreedL_nodup l d).filter _)
/-- in the order of the texts -/
theorem Known_sorted {l : List Arrival} {d : Int} (hl : l.length ≤ 1200) (hi : ∀ a, a ∈ l → a.report.I64) {i : Nat} (h0 : 0 < i) (hn : i < (report_Known l d).length) : strLt (report_Text ((report_Known l d).getD (i - 1) default)) (report_Text ((report_Known l d).getD i default)) = true := by
  have hk := known_post (day := d) hi
  have hnd := Known_nodup (d := d) hl hi
  rw [strLt_iff]
  have h1 : ¬ rpT ((report_Known l d).getD i default) < rpT ((report_Known l d).getD (i - 1) default) := by
    have e := report_Known_of (day := d) hl hi
    rw [e] at hn ⊢
    exact sortRp_sorted _ (i - 1) i (by omega) hn
  have a1 := hk.2 _ (lget_mem hn default)
  have a2 := hk.2 _ (lget_mem (by omega : i - 1 < (report_Known l d).length) default)
  have hne : (report_Known l d).getD (i - 1) default ≠ (report_Known l d).getD i default := fun e => by
    rw [show (report_Known l d).getD (i - 1) default = (report_Known l d)[i - 1] by simp [List.getD, (by omega : i - 1 < (report_Known l d).length)], show (report_Known l d).getD i default = (report_Known l d)[i] by simp [List.getD, hn]] at e
    exact List.pairwise_iff_getElem.1 hnd (i - 1) i (by omega) hn (by omega) e
  have hle : rpT ((report_Known l d).getD (i - 1) default) ≤ rpT ((report_Known l d).getD i default) := List.not_lt.1 h1
  rcases List.le_iff_lt_or_eq.1 hle with h | h
  · exact h
  · exact absurd (text_inj a2.1 a1.1 a2.2 a1.2 h) hne
theorem Convicts_eq (a b : Report) : report_Convicts a b = ((((report_Right a && report_Right b) && (a.reporter == b.reporter)) && (a.no == b.no)) && (!(eqCs (Report.cells a) (Report.cells b)))) := rfl
/-- no two that are known convict -/
theorem Known_fine {l : List Arrival} {d : Int} (hl : l.length ≤ 1200) (hi : ∀ a, a ∈ l → a.report.I64) {a b : Report} (ha : a ∈ report_Known l d) (hb : b ∈ report_Known l d) : report_Convicts a b = false := by
  rw [Bool.eq_false_iff]
  intro h
  rw [Convicts_eq] at h
  simp only [Bool.and_eq_true, beq_iff_eq, Bool.not_eq_true'] at h
  obtain ⟨⟨⟨⟨-, -⟩, h1⟩, h2⟩, h3⟩ := h
  have hne : a ≠ b := fun e => by
    subst e
    rw [eqCs_rep] at h3
    cases h3
  obtain ⟨ga, la⟩ := (Known_mem hl hi a).1 ha
  obtain ⟨gb, -⟩ := (Known_mem hl hi b).1 hb
  have hc : 2 ≤ cnt (agreedL l d) a.reporter a.no := by
    unfold cnt
    have := countP_sub (L := [a, b]) (L' := agreedL l d) (fun x => x.reporter == a.reporter && x.no == a.no) (by simp [hne]) (fun x hx => by
      simp only [List.mem_cons, List.not_mem_nil, or_false] at hx
      rcases hx with rfl | rfl
      · exact ga
      · exact gb)
    simpa [h1, h2] using this
  unfold lied at la
  exact (@decide_eq_false_iff_not _ (Classical.propDecidable _)).1 la ⟨_, hc⟩

noncomputable def allongelaw50_ReportLater_sk (r : Realm) (l : List Arrival) (bill : Int) (x_ : Int) (y : Int) : Sk (Bool) :=
 .r 1 allongelaw50_sane_k.c fun x1 =>
 .r 2 (.dep ((allongelaw50_few_k l).c) fun x2 => .dep (.wh (!x2) false ((allongeref09_Few_k r).c)) fun x3 => .wh ((!x2) || (!x3)) false ((allongeref09_Check_k r).c)) fun p28 =>
 .br (((!p28.1) || (!p28.2.1)) || (p28.2.2 != 0))
 (.fin x1)
 (.bind true (fun b5 => b5 = l.filter (dayLe (minI x_ y)))
 (.loop (default : Sum (Bool) ((List Arrival))) (fun i6 => i6.2 ≤ l.length ∧ i6.1 = (l.take i6.2).filter (dayLe (minI x_ y))) (fun i6 => l.length - i6.2) (([], 0) : (List Arrival) × Nat)
 (fun (i6 : (List Arrival) × Nat) => ⟨[(14, ow 100002 i6.1), (15, iv ((i6.2 : Nat) : Int))], [(100002, rowB 70 46 Arrival.cells i6.1)]⟩) fun i6 =>
 .lt 1 0 i6.2 l.length
 (.r 10 (.p (ixP ((i6.2 : Nat) : Int) l.length)) fun _ =>
 .br (decide (((l.getD i6.2 default).day) ≤ (minI x_ y)))
 (.r 11 (.andl (.p (ixP ((i6.2 : Nat) : Int) l.length)) (.andl (.o [.nrm (litC Arrival.E [l.getD i6.2 default])]) (.andl (.o [.nrm (catC Arrival.E i6.1 [l.getD i6.2 default])]) (.andl (.t (Arrival.E.ones [l.getD i6.2 default])) (.p (szP i6.1.length [l.getD i6.2 default].length 368)))))) fun _ =>
 .nx 9 15 i6.2 (i6.1 ++ [l.getD i6.2 default], i6.2 + 1))
 (.nx 9 15 i6.2 (i6.1, i6.2 + 1)))
 (.fin (.inl (.inr i6.1))))
 (fun (b5 : (List Arrival)) => ⟨[(14, ow 100001 b5)], [(100001, rowB 70 46 Arrival.cells b5)]⟩) fun b5 =>
 .r 12 ((allongelaw50_same_k r l b5 bill (minI x_ y)).c) fun x7 =>
 .br (!x7)
 (.fin false)
 (.r 14 ((report_Known_k l (minI x_ y)).c) fun x8 =>
 .r 15 ((report_Known_k l (maxI x_ y)).c) fun x9 =>
 .r 16 ((report_Liars_k l (minI x_ y)).c) fun x10 =>
 .r 17 ((report_Liars_k l (maxI x_ y)).c) fun x11 =>
 .bt
 (.loop (default : Sum (Bool) (Unit)) (fun i13 => i13 ≤ x10.length) (fun i13 => x10.length - i13) (0 : Nat)
 (fun (i13 : Nat) => ⟨[(20, iv ((i13 : Nat) : Int))], []⟩) fun i13 =>
 .lt 18 0 i13 x10.length
 (.r 21 (.andl (.p (ixP ((i13 : Nat) : Int) x10.length)) ((allongelaw50_has_k x11 (x10.getD i13 default)).c)) fun x14 =>
 .br (!x14)
 (.fin (.inl (.inl false)))
 (.nx 20 20 i13 (i13 + 1)))
 (.fin (.inl (.inr ()))))
 (fun (_ : Unit) => ⟨[], []⟩) fun _ =>
 .bt
 (.loop (default : Sum (Bool) (Unit)) (fun i16 => i16 ≤ x8.length) (fun i16 => x8.length - i16) (0 : Nat)
 (fun (i16 : Nat) => ⟨[(21, iv ((i16 : Nat) : Int))], []⟩) fun i16 =>
 .lt 16 0 i16 x8.length
 (.bt
 (.r 26 (.andl (.p (ixP ((i16 : Nat) : Int) x8.length)) (.dep ((allongelaw50_has_k x10 ((x8.getD i16 default).reporter)).c) fun x18 => .andl (.wh x18 false (.p (ixP ((i16 : Nat) : Int) x8.length))) (.dep (.wh x18 false ((allongeref50_Has_k x9 (x8.getD i16 default)).c)) fun x19 => .andl (.wh x18 false (.wh (!x19) true (.p (ixP ((i16 : Nat) : Int) x8.length)))) (.dep (.wh x18 false (.wh (!x19) true ((allongelaw50_has_k x11 ((x8.getD i16 default).reporter)).c))) fun x20 => .andl (.wh (x18 || ((!x19) && (!x20))) false (.p (ixP ((i16 : Nat) : Int) x8.length))) (.dep (.wh (x18 || ((!x19) && (!x20))) false ((report_Right_k (x8.getD i16 default)).c)) fun x21 => .andl (.wh ((x18 || ((!x19) && (!x20))) || (!x21)) false (.wh (decide (((i16 : Nat) : Int) > 0)) true (.p (ixP (w64 (((i16 : Nat) : Int) - 1)) x8.length)))) (.dep (.wh ((x18 || ((!x19) && (!x20))) || (!x21)) false (.wh (decide (((i16 : Nat) : Int) > 0)) true ((report_Text_k (x8.getD ((w64 (((i16 : Nat) : Int) - 1)).toNat) default)).c))) fun _ => .andl (.wh ((x18 || ((!x19) && (!x20))) || (!x21)) false (.wh (decide (((i16 : Nat) : Int) > 0)) true (.p (ixP ((i16 : Nat) : Int) x8.length)))) (.wh ((x18 || ((!x19) && (!x20))) || (!x21)) false (.wh (decide (((i16 : Nat) : Int) > 0)) true ((report_Text_k (x8.getD i16 default)).c))))))))) fun p27 =>
 .br (((p27.1 || ((!p27.2.1) && (!p27.2.2.1))) || (!p27.2.2.2.1)) || ((decide (((i16 : Nat) : Int) > 0)) && (!(strLt p27.2.2.2.2.1 p27.2.2.2.2.2))))
 (.fin (.inl (.inl (.inl false))))
 (.bt
 (.loop (default : Sum (Sum (Sum (Sum (Bool) (Unit)) (Nat)) (Unit)) (Int)) (fun i25 => i25 ≤ i16) (fun i25 => i16 - i25) (0 : Nat)
 (fun (i25 : Nat) => ⟨[(22, iv ((i25 : Nat) : Int))], []⟩) fun i25 =>
 .br (decide (((i25 : Nat) : Int) < ((i16 : Nat) : Int)))
 (.r 31 (.andl (.p (ixP ((i16 : Nat) : Int) x8.length)) (.andl (.p (ixP ((i25 : Nat) : Int) x8.length)) ((report_Convicts_k (x8.getD i16 default) (x8.getD i25 default)).c))) fun x26 =>
 .br x26
 (.fin (.inl (.inl (.inl (.inl (.inl false))))))
 (.nx 30 22 i25 (i25 + 1)))
 (.fin (.inl (.inr ((i25 : Nat) : Int)))))
 (fun (b24 : Int) => ⟨[(22, iv b24)], []⟩) fun _ =>
 .fin (.inr ())))
 (fun (_ : Unit) => ⟨[], []⟩) fun _ =>
 .nx 25 21 i16 (i16 + 1))
 (.fin (.inl (.inr ()))))
 (fun (_ : Unit) => ⟨[], []⟩) fun _ =>
 .fin x1))
noncomputable def allongelaw50_ReportLater r l bill x_ y := (allongelaw50_ReportLater_sk r l bill x_ y).val
theorem allongelaw50_ReportLater_pst (r : Realm) (l : List Arrival) (bill : Int) (x_ : Int) (y : Int) (hP : ∀ a, a ∈ l → a.report.I64) : (allongelaw50_ReportLater_sk r l bill x_ y).pst (fun (x : Bool) => x = true) := by
  unfold allongelaw50_ReportLater_sk
  have hi := hP
  have st : ∀ {i n : Nat}, decide ((i : Int) < (n : Int)) = true → i < n := fun h => by have h := of_decide_eq_true h; omega
  have sf : ∀ {i n : Nat}, decide ((i : Int) < (n : Int)) = false → n ≤ i := fun h => by have h := of_decide_eq_false h; omega
  refine fun x1 e1 _ => ?_
  have e1 : x1 = true := (show x1 = allongelaw50_sane from e1).trans sane_true
  refine fun p28 hp _ => ⟨fun _ => e1, fun hc => ?_⟩
  have hp : p28 = (allongelaw50_few l, allongeref09_Few r, allongeref09_Check r) := hp
  subst hp
  simp only [Bool.or_eq_false_iff, Bool.not_eq_false', allongelaw50_few_eq, decide_eq_true_eq] at hc
  obtain ⟨⟨hl1, hf⟩, -⟩ := hc
  have l1 : l.length ≤ 120 := by omega
  have l2 : l.length ≤ 1200 := by omega
  have hde : minI x_ y ≤ maxI x_ y := by unfold minI maxI; split <;> split <;> omega
  refine ⟨⟨⟨Nat.zero_le _, rfl⟩, fun i9 h9 => ⟨fun hc => ?_, fun hc => ?_⟩⟩, fun b5 _ h5 => ?_⟩
  · have hc := st hc
    have et := take_snoc hc
    refine fun _ _ _ => ⟨fun hd => fun _ _ _ => fun _ _ _ => ⟨⟨by show i9.2 + 1 ≤ l.length; omega, ?_⟩, by show l.length - (i9.2 + 1) < l.length - i9.2; omega⟩, fun hd => fun _ _ _ => ⟨⟨by show i9.2 + 1 ≤ l.length; omega, ?_⟩, by show l.length - (i9.2 + 1) < l.length - i9.2; omega⟩⟩
    · show i9.1 ++ [l.getD i9.2 default] = (l.take (i9.2 + 1)).filter _
      rw [et, List.filter_append, ← h9.2, List.filter_cons, if_pos hd]
      rfl
    · show i9.1 = (l.take (i9.2 + 1)).filter _
      rw [et, List.filter_append, ← h9.2, List.filter_cons, if_neg (by rw [show dayLe (minI x_ y) (l.getD i9.2 default) = false from hd]; decide)]
      simp
  · have hc := sf hc
    have h9' := h9.2
    rw [List.take_of_length_le hc] at h9'
    exact h9'
  have h5 : b5 = l.filter (dayLe (minI x_ y)) := h5
  have i5 : ∀ x, x ∈ b5 → x.report.I64 := fun x hx => by rw [h5] at hx; exact hi x (List.mem_filter.1 hx).1
  have l5 : b5.length ≤ 120 := by rw [h5]; have := List.length_filter_le (dayLe (minI x_ y)) l; omega
  refine fun x7 e7 _ => ⟨fun h7 => ?_, fun _ => fun x8 e8 _ => fun x9 e9 _ => fun x10 e10 _ => fun x11 e11 _ => ?_⟩
  · have e7 : x7 = allongelaw50_same r l b5 bill (minI x_ y) := e7
    rw [same_true l2 (by omega) hi i5 (by rw [h5]; exact early_agreed l _)] at e7
    rw [e7] at h7
    cases h7
  have e8 : x8 = report_Known l (minI x_ y) := e8
  have e9 : x9 = report_Known l (maxI x_ y) := e9
  have e10 : x10 = report_Liars l (minI x_ y) := e10
  have e11 : x11 = report_Liars l (maxI x_ y) := e11
  refine ⟨⟨Nat.zero_le _, fun i13 h13 => ⟨fun hc => ?_, fun _ => trivial⟩⟩, fun _ _ _ => ⟨⟨Nat.zero_le _, fun i16 h16 => ⟨fun hc => ?_, fun _ => trivial⟩⟩, fun _ _ _ => e1⟩⟩
  · have hc := st hc
    refine fun x14 _ k14 => ⟨fun h14 => ?_, fun _ => fun _ _ _ => ⟨by show i13 + 1 ≤ x10.length; omega, by show x10.length - (i13 + 1) < x10.length - i13; omega⟩⟩
    have k14 : (x14 = true ↔ x10.getD i13 default ∈ x11) := k14
    have hm := lget_mem hc (default : Int)
    rw [k14.2 (by rw [e11, Liars_mem l2]; rw [e10, Liars_mem l2] at hm; rw [e10]; exact lied_mono hde hm)] at h14
    cases h14
  · have hc := st hc
    have ha : x8.getD i16 default ∈ x8 := lget_mem hc default
    refine ⟨fun p27 q27 k27 => ⟨fun h27 => ?_, fun _ => ⟨⟨Nat.zero_le _, fun i25 h25 => ⟨fun hd => ?_, fun _ => trivial⟩⟩, fun _ _ _ => trivial⟩⟩, fun _ _ _ => fun _ _ _ => ⟨by show i16 + 1 ≤ x8.length; omega, by show x8.length - (i16 + 1) < x8.length - i16; omega⟩⟩
    · have q27 : p27 = (allongelaw50_has x10 (x8.getD i16 default).reporter, allongeref50_Has x9 (x8.getD i16 default), allongelaw50_has x11 (x8.getD i16 default).reporter, report_Right (x8.getD i16 default), report_Text (x8.getD ((w64 ((i16 : Int) - 1)).toNat) default), report_Text (x8.getD i16 default)) := q27
      have a1 := ha
      rw [e8, Known_mem l2 hi, ← e8] at a1
      have c1 : allongelaw50_has x10 (x8.getD i16 default).reporter = false := by
        rw [Bool.eq_false_iff]
        intro h
        have h := (allongelaw50_has_post x10 (x8.getD i16 default).reporter).1 h
        rw [e10, Liars_mem l2, a1.2] at h
        cases h
      have c2 : ((!allongeref50_Has x9 (x8.getD i16 default)) && (!allongelaw50_has x11 (x8.getD i16 default).reporter)) = false := by
        cases h : allongelaw50_has x11 (x8.getD i16 default).reporter with
        | true => simp
        | false =>
          have h2 : lied (agreedL l (maxI x_ y)) (x8.getD i16 default).reporter = false := by
            rw [Bool.eq_false_iff]
            intro h3
            have := (allongelaw50_has_post x11 (x8.getD i16 default).reporter).2 (by rw [e11, Liars_mem l2]; exact h3)
            rw [this] at h
            cases h
          rw [(allongeref50_Has_post x9 (x8.getD i16 default)).2 (by rw [e9, Known_mem l2 hi]; exact ⟨agreed_mono hde a1.1, h2⟩)]
          rfl
      have c3 : report_Right (x8.getD i16 default) = true := ((known_post (day := minI x_ y) hi).2 _ (by rw [← e8]; exact ha)).2
      have c4 : (decide ((i16 : Int) > 0) && (!strLt (report_Text (x8.getD ((w64 ((i16 : Int) - 1)).toNat) default)) (report_Text (x8.getD i16 default)))) = false := by
        cases h : decide ((i16 : Int) > 0) with
        | false => rfl
        | true =>
          have h := of_decide_eq_true h
          have l8 := (known_post (day := minI x_ y) hi).1
          rw [← e8] at l8
          have e : (w64 ((i16 : Int) - 1)).toNat = i16 - 1 := by rw [w64_id (by omega) (by omega)]; omega
          have := Known_sorted (d := minI x_ y) l2 hi (i := i16) (by omega) (by rw [← e8]; exact hc)
          rw [← e8] at this
          rw [e, this]
          rfl
      rw [q27] at h27
      have h27 : (((allongelaw50_has x10 (x8.getD i16 default).reporter || ((!allongeref50_Has x9 (x8.getD i16 default)) && (!allongelaw50_has x11 (x8.getD i16 default).reporter))) || (!report_Right (x8.getD i16 default))) || (decide ((i16 : Int) > 0) && (!strLt (report_Text (x8.getD ((w64 ((i16 : Int) - 1)).toNat) default)) (report_Text (x8.getD i16 default))))) = true := h27
      rw [c1, c2, c3, c4] at h27
      cases h27
    · have hd := st hd
      refine fun x26 q26 _ => ⟨fun h26 => ?_, fun _ => fun _ _ _ => ⟨by show i25 + 1 ≤ i16; omega, by show i16 - (i25 + 1) < i16 - i25; omega⟩⟩
      have q26 : x26 = report_Convicts (x8.getD i16 default) (x8.getD i25 default) := q26
      have hb : x8.getD i25 default ∈ x8 := lget_mem (by omega) default
      rw [Known_fine l2 hi (by rw [← e8]; exact ha) (by rw [← e8]; exact hb)] at q26
      rw [q26] at h26
      cases h26

theorem allongelaw50_ReportLater_post (r : Realm) (l : List Arrival) (bill : Int) (x_ : Int) (y : Int) : (fun (x : Bool) => (∀ a, a ∈ l → a.report.I64) → (x = true)) (allongelaw50_ReportLater r l bill x_ y) := fun hP => have h := Sk.pval _ (allongelaw50_ReportLater_pst r l bill x_ y hP); h
theorem allongelaw50_ReportLater_ok (r : Realm) (l : List Arrival) (bill : Int) (x_ : Int) (y : Int) (hi : ∀ a, a ∈ l → a.report.I64) : (allongelaw50_ReportLater_sk r l bill x_ y).obs (fun _ => True) := by
  unfold allongelaw50_ReportLater_sk
  have st : ∀ {i n : Nat}, decide ((i : Int) < (n : Int)) = true → i < n := fun h => by have h := of_decide_eq_true h; omega
  have sf : ∀ {i n : Nat}, decide ((i : Int) < (n : Int)) = false → n ≤ i := fun h => by have h := of_decide_eq_false h; omega
  have w : ∀ {i n : Nat}, i < n → n ≤ 9223372036854775807 → w64 ((i : Int) + 1) = ((i + 1 : Nat) : Int) := fun h h' => by rw [w64_id (by omega) (by omega)]; omega
  have sz : ∀ {n m : Nat}, n + m ≤ 1000 → szP n m 368 := fun h => by simp only [szP, maxLen]; omega
  refine ⟨trivial, fun x1 _ _ => ⟨⟨trivial, fun _ _ _ => ⟨fun _ => trivial, fun _ _ _ => fun _ => trivial⟩⟩, fun p28 hp _ => ⟨fun _ => trivial, fun hc => ?_⟩⟩⟩
  have hp : p28 = (allongelaw50_few l, allongeref09_Few r, allongeref09_Check r) := hp
  subst hp
  simp only [Bool.or_eq_false_iff, Bool.not_eq_false', allongelaw50_few_eq, decide_eq_true_eq] at hc
  obtain ⟨⟨hl1, hf⟩, -⟩ := hc
  have hr : r.Small := allongeref09_Few_post r hf
  have l1 : l.length ≤ 120 := by omega
  refine ⟨⟨⟨Nat.zero_le _, rfl⟩, fun i9 h9 _ => ⟨fun hc => ?_, fun hc => ?_⟩⟩, fun b5 _ h5 => ?_⟩
  · have hc := st hc
    have e9 : i9.1.length ≤ 120 := by rw [h9.2]; have := List.length_filter_le (dayLe (minI x_ y)) (l.take i9.2); simp at this; omega
    have ix : ixP (i9.2 : Int) l.length := ⟨by omega, by omega⟩
    have et := take_snoc hc
    refine ⟨ix, fun _ _ _ => ⟨fun hd => ⟨⟨ix, trivial, trivial, trivial, sz (by simp; omega)⟩, fun _ _ _ => ⟨trivial, fun _ _ _ => ⟨w hc (by omega), ⟨by show i9.2 + 1 ≤ l.length; omega, ?_⟩, by show l.length - (i9.2 + 1) < l.length - i9.2; omega⟩⟩⟩, fun hd => ⟨trivial, fun _ _ _ => ⟨w hc (by omega), ⟨by show i9.2 + 1 ≤ l.length; omega, ?_⟩, by show l.length - (i9.2 + 1) < l.length - i9.2; omega⟩⟩⟩⟩
    · show i9.1 ++ [l.getD i9.2 default] = (l.take (i9.2 + 1)).filter _
      rw [et, List.filter_append, ← h9.2, List.filter_cons, if_pos hd]
      rfl
    · show i9.1 = (l.take (i9.2 + 1)).filter _
      rw [et, List.filter_append, ← h9.2, List.filter_cons, if_neg (by rw [show dayLe (minI x_ y) (l.getD i9.2 default) = false from hd]; decide)]
      simp
  · have hc := sf hc
    have h9' := h9.2
    rw [List.take_of_length_le hc] at h9'
    exact h9'
  have h5 : b5 = l.filter (dayLe (minI x_ y)) := h5
  have i5 : ∀ x, x ∈ b5 → x.report.I64 := fun x hx => by rw [h5] at hx; exact hi x (List.mem_filter.1 hx).1
  refine ⟨⟨hr, hi, i5⟩, fun x7 _ _ => ⟨fun _ => trivial, fun _ => ⟨hi, fun x8 _ k8 => ⟨hi, fun x9 _ _ => ⟨trivial, fun x10 _ _ => ⟨trivial, fun x11 _ _ => ?_⟩⟩⟩⟩⟩⟩
  have k8 := k8 hi
  refine ⟨⟨Nat.zero_le _, fun i13 h13 hb => ⟨fun hc => ?_, fun _ => trivial⟩⟩, fun _ _ _ => ⟨⟨Nat.zero_le _, fun i16 h16 _ => ⟨fun hc => ?_, fun _ => trivial⟩⟩, fun _ _ _ => trivial⟩⟩
  · have hc := st hc
    exact ⟨⟨⟨by omega, by omega⟩, trivial⟩, fun _ _ _ => ⟨fun _ => trivial, fun _ => ⟨trivial, fun _ _ _ => ⟨w hc hb, ⟨by show i13 + 1 ≤ x10.length; omega, by show x10.length - (i13 + 1) < x10.length - i13; omega⟩⟩⟩⟩⟩
  · have hc := st hc
    have l8 := k8.1
    have ix : ixP (i16 : Int) x8.length := ⟨by omega, by omega⟩
    have hm : decide ((i16 : Int) > 0) = true → w64 ((i16 : Int) - 1) = ((i16 - 1 : Nat) : Int) ∧ i16 - 1 < x8.length := fun h => by
      have h := of_decide_eq_true h
      rw [w64_id (by omega) (by omega)]
      exact ⟨by omega, by omega⟩
    refine ⟨⟨⟨ix, trivial, fun x18 _ _ => ⟨fun _ => ix, fun _ => trivial, fun x19 _ _ => ⟨fun _ _ => ix, fun _ _ => trivial, fun x20 _ _ => ⟨fun _ => ix, fun _ => trivial, fun x21 _ _ => ⟨fun _ hd => ?_, fun _ hd => ?_, fun _ _ _ => ⟨fun _ _ => ix, fun _ _ => (k8.2 _ (lget_mem hc _)).1⟩⟩⟩⟩⟩⟩, fun p27 _ _ => ⟨fun _ => trivial, fun _ => ⟨⟨Nat.zero_le _, fun i25 h25 => ⟨fun hd => ?_, fun _ => trivial⟩⟩, fun _ _ _ => trivial⟩⟩⟩, fun _ _ _ => ⟨trivial, fun _ _ _ => ⟨w hc (by omega), ⟨by show i16 + 1 ≤ x8.length; omega, by show x8.length - (i16 + 1) < x8.length - i16; omega⟩⟩⟩⟩
    · have hd := hm hd
      show ixP (w64 ((i16 : Int) - 1)) x8.length
      rw [hd.1]
      exact ⟨by omega, by have := hd.2; omega⟩
    · have hd := hm hd
      show (x8.getD ((w64 ((i16 : Int) - 1)).toNat) default).I64
      rw [hd.1]
      exact (k8.2 _ (lget_mem hd.2 _)).1
    · have hd := st hd
      exact ⟨⟨ix, ⟨by omega, by omega⟩, trivial⟩, fun _ _ _ => ⟨fun _ => trivial, fun _ => ⟨trivial, fun _ _ _ => ⟨w hd (by omega), ⟨by show i25 + 1 ≤ i16; omega, by show i16 - (i25 + 1) < i16 - i25; omega⟩⟩⟩⟩⟩

noncomputable def allongelaw50_ReportLater_k r l bill x_ y := kk tok mixed Tryz.func7 [av r.cells, lv Arrival.cells l, iv bill, iv x_, iv y] (fun x => bv x) true (allongelaw50_ReportLater_sk r l bill x_ y) (allongelaw50_ReportLater r l bill x_ y) (allongelaw50_ReportLater_ok r l bill x_ y) (fun (x : Bool) => (∀ a, a ∈ l → a.report.I64) → (x = true)) (allongelaw50_ReportLater_post r l bill x_ y)
theorem allongelaw50_ReportLater_fn (r : Realm) (l : List Arrival) (bill : Int) (x_ : Int) (y : Int) (hi : ∀ a, a ∈ l → a.report.I64) : FnA Tryz.prog 7 [av r.cells, lv Arrival.cells l, iv bill, iv x_, iv y] [] (bv (allongelaw50_ReportLater r l bill x_ y)) [] := (allongelaw50_ReportLater_k r l bill x_ y).pf hi
end Go.Proofs.YtihmmpaalpghbaaGreatDoor

