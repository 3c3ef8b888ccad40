/- Functions, as sketches. -/
import Derived.Test.YtihmmpaalpghbaaGreatDoorRx10
namespace Go.Proofs.YtihmmpaalpghbaaGreatDoor
open Go Go.Av
set_option linter.unusedSimpArgs false
set_option linter.unusedVariables false
set_option maxHeartbeats 1000000
set_option maxRecDepth 100000
theorem Body.cells_inj {a b : Body} (h : a.cells = b.cells) : a = b := by
  obtain ⟨k, bi, ix, ⟨p1, p2, p3, p4, p5, ⟨t1, t2, t3⟩, p6, p7, p8, p9, p10, p11, p12⟩, ⟨s1, s2, s3, s4, s5, s6, s7, s8, s9⟩, ⟨a1, a2, a3, a4, a5, a6, a7, a8, a9⟩, ⟨l1, l2⟩, ⟨f1, f2, f3⟩⟩ := a
  obtain ⟨k', bi', ix', ⟨p1', p2', p3', p4', p5', ⟨t1', t2', t3'⟩, p6', p7', p8', p9', p10', p11', p12'⟩, ⟨s1', s2', s3', s4', s5', s6', s7', s8', s9'⟩, ⟨a1', a2', a3', a4', a5', a6', a7', a8', a9'⟩, ⟨l1', l2'⟩, ⟨f1', f2', f3'⟩⟩ := b
  simp only [Body.cells, Bill.cells, Tenor.cells, Sign.cells, ActX.cells, Alter.cells, Fact.cells, List.cons_append, List.nil_append, List.append_assoc, List.append_nil, List.cons.injEq, dI, D.v.injEq, Value.int.injEq, true_and, and_true] at h
  obtain ⟨rfl, rfl, rfl, rfl, rfl, rfl, rfl, rfl, rfl, rfl, rfl, rfl, rfl, rfl, rfl, rfl, rfl, rfl, rfl, rfl, rfl, rfl, rfl, rfl, rfl, rfl, rfl, rfl, rfl, rfl, rfl, rfl, rfl, rfl, rfl, rfl, rfl, rfl, rfl, rfl, rfl⟩ := h
  rfl
theorem right_body {x : Report} (h : report_Right x = true) : x.body = (report_body x.body.kind x.body.bill x.body.index (numL x.body)).1 := by
  have hn := report_numbers_post x.body
  dsimp only at hn
  cases hb : eqCs (Body.cells (report_body x.body.kind x.body.bill x.body.index (report_numbers x.body)).1) (Body.cells x.body) with
  | true =>
    rw [hn] at hb
    exact (Body.cells_inj (eqCs_eq rfl rfl hb)).symm
  | false =>
    have e : report_Right x = bif (((((!report_within x.reporter 200) || (!report_within x.no 10000)) || (!report_within x.day 100001)) || (!report_within x.body.kind 5)) || (!report_within x.body.bill 50)) then false else bif !(eqCs (Body.cells (report_body x.body.kind x.body.bill x.body.index (report_numbers x.body)).1) (Body.cells x.body)) then false else (bif x.body.kind == 0 then (x.body.index == 0) && (x.body.paper.day == x.day) else bif x.body.kind == 1 then ((decide (x.body.index > 0)) && (decide (x.body.index < 40))) && (x.body.sign.day == x.day) else bif x.body.kind == 2 then report_within x.body.index 100 && (x.body.act.day == x.day) else bif x.body.kind == 3 then report_within x.body.index 4 else x.body.index == 0) := rfl
    rw [e, hb] at h
    simp at h
/-- the numbers of a report's text -/
def repL (x : Report) : List Int := [x.reporter, x.no, x.day, x.body.kind, x.body.bill, x.body.index] ++ numL x.body
theorem repL_len (x : Report) : (repL x).length ≤ 22 := by
  have := numL_len x.body
  simp only [repL, List.length_append, List.length_cons, List.length_nil]
  omega
theorem repL_I64 {x : Report} (h : x.I64) : ∀ n ∈ repL x, in64w n := by
  obtain ⟨p1, p2, p3, p4⟩ := h.parts
  obtain ⟨q1, q2, q3, -⟩ := p4.parts
  have h2 := numL_I64 p4
  intro n hn
  simp only [repL, List.cons_append, List.nil_append, List.mem_cons] at hn
  rcases hn with rfl | rfl | rfl | rfl | rfl | rfl | hn
  · exact p1
  · exact p2
  · exact p3
  · exact q1
  · exact q2
  · exact q3
  · exact h2 n hn
theorem text_right {x : Report} (h : report_Right x = true) : report_Text x = wire_Ints (repL x) := by
  have hn := report_numbers_post x.body
  dsimp only at hn
  have e : report_Text x = bif !report_Right x then (⟨#[]⟩ : ByteArray) else wire_Ints ([x.reporter, x.no, x.day, x.body.kind, x.body.bill, x.body.index] ++ report_numbers x.body) := rfl
  rw [e, h, hn]
  rfl
theorem text_wrong {x : Report} (h : report_Right x = false) : report_Text x = ⟨#[]⟩ := by
  have e : report_Text x = bif !report_Right x then (⟨#[]⟩ : ByteArray) else wire_Ints ([x.reporter, x.no, x.day, x.body.kind, x.body.bill, x.body.index] ++ report_numbers x.body) := rfl
  rw [e, h]
  rfl
theorem rpT_right {x : Report} (h : report_Right x = true) : rpT x = intsL (repL x) := by
  unfold rpT
  rw [text_right h]
  simp [wire_Ints]
/-- right reports with the same numbers are the same -/
theorem repL_inj {a b : Report} (ha : report_Right a = true) (hb : report_Right b = true) (h : repL a = repL b) : a = b := by
  simp only [repL, List.cons_append, List.nil_append, List.cons.injEq] at h
  obtain ⟨h1, h2, h3, h4, h5, h6, h7⟩ := h
  have e1 := right_body ha
  have e2 := right_body hb
  rw [h4, h5, h6, h7, ← e2] at e1
  obtain ⟨r, n, d, bo⟩ := a
  obtain ⟨r', n', d', bo'⟩ := b
  simp only at h1 h2 h3 e1
  rw [h1, h2, h3, e1]
theorem text_inj {a b : Report} (ia : a.I64) (ib : b.I64) (ha : report_Right a = true) (hb : report_Right b = true) (h : rpT a = rpT b) : a = b := by
  rw [rpT_right ha, rpT_right hb] at h
  have h1 := repL_len a
  have h2 := repL_len b
  exact repL_inj ha hb (intsL_inj (t := []) (u := []) (by omega) (by omega) (repL_I64 ia) (repL_I64 ib) (by rw [h])).1
theorem kupd_mem {κ α : Type} (K : KE κ) (k : κ) (v : α) : ∀ (m : List (κ × α)) (e : κ × α), e ∈ kupd K m k v → (∃ e', e' ∈ m ∧ e'.1 = e.1) ∨ e.1 = k
  | [], e, h => by simp [kupd] at h; exact .inr (by rw [h])
  | p :: r, e, h => by
    simp only [kupd] at h
    cases hk : eqCs (K.C k) (K.C p.1) with
    | true =>
      rw [hk] at h
      simp only [cond_true, List.mem_cons] at h
      rcases h with rfl | h
      · exact .inl ⟨p, List.mem_cons_self, rfl⟩
      · exact .inl ⟨e, List.mem_cons_of_mem _ h, rfl⟩
    | false =>
      rw [hk] at h
      simp only [cond_false, List.mem_cons] at h
      rcases h with rfl | h
      · exact .inl ⟨e, List.mem_cons_self, rfl⟩
      · rcases kupd_mem K k v r e h with ⟨e', h1, h2⟩ | h1
        · exact .inl ⟨e', List.mem_cons_of_mem _ h1, h2⟩
        · exact .inr h1
/-- whatever is gathered has arrived, and counts -/
theorem agMap_mem (day : Int) : ∀ (l : List Arrival) (m : List (Report × Int)) (e : Report × Int), e ∈ l.foldl (agStep day) m → (∃ e', e' ∈ m ∧ e'.1 = e.1) ∨ ∃ x, x ∈ l ∧ x.report = e.1 ∧ agC day x = true
  | [], m, e, h => .inl ⟨e, h, rfl⟩
  | x :: l, m, e, h => by
    rcases agMap_mem day l _ e h with ⟨e', h1, h2⟩ | ⟨y, h1, h2⟩
    · unfold agStep at h1
      cases hc : agC day x with
      | false =>
        rw [hc] at h1
        exact .inl ⟨e', h1, h2⟩
      | true =>
        rw [hc] at h1
        rcases kupd_mem _ _ _ _ _ h1 with ⟨e'', h3, h4⟩ | h3
        · exact .inl ⟨e'', h3, h4.trans h2⟩
        · exact .inr ⟨x, List.mem_cons_self, by rw [← h2, h3], hc⟩
    · exact .inr ⟨y, List.mem_cons_of_mem _ h1, h2⟩
theorem agreedL_mem {l : List Arrival} {day : Int} {x : Report} (h : x ∈ agreedL l day) : report_Right x = true ∧ ∃ a, a ∈ l ∧ a.report = x := by
  unfold agreedL agAll at h
  obtain ⟨e, he, rfl⟩ := List.mem_map.1 h
  rcases agMap_mem day l [] e (List.mem_filter.1 he).1 with ⟨e', h1, -⟩ | ⟨a, h1, h2, h3⟩
  · cases h1
  · refine ⟨?_, a, h1, h2⟩
    unfold agC at h3
    simp only [Bool.and_eq_true] at h3
    rw [← h2]
    exact h3.2
theorem mfind_key {α : Type} (k : Int) : ∀ (m : List (Int × α)), (∃ v, mfind m k = some v ∧ ∃ e, e ∈ m ∧ e.2 = v) ∧ k ∈ m.map Prod.fst ∨ mfind m k = none ∧ k ∉ m.map Prod.fst
  | [] => .inr ⟨rfl, by simp⟩
  | p :: r => by
    simp only [mfind]
    cases h : (k == p.1) with
    | true =>
      have h : k = p.1 := by simpa using h
      exact .inl ⟨⟨p.2, rfl, p, List.mem_cons_self, rfl⟩, by simp [h]⟩
    | false =>
      have h : k ≠ p.1 := by simpa using h
      rcases mfind_key k r with ⟨⟨v, h1, e, h2, h3⟩, h4⟩ | ⟨h1, h2⟩
      · exact .inl ⟨⟨v, h1, e, List.mem_cons_of_mem _ h2, h3⟩, by simp at h4 ⊢; exact .inr h4⟩
      · exact .inr ⟨h1, by simp at h2 ⊢; exact ⟨h, h2⟩⟩
theorem liar_get {L : List Report} {m : List (Int × Bool)} (h : liarQ L m) (r : Int) : mget m r false = true ↔ ∃ c, 2 ≤ cnt L r c := by
  rw [← h.2.2 r]
  unfold mget
  rcases mfind_key r m with ⟨⟨v, h1, e, h2, h3⟩, h4⟩ | ⟨h1, h2⟩
  · rw [h1]
    have := h.2.1 e h2
    rw [h3] at this
    simp only [Option.getD_some, this, true_iff]
    exact h4
  · rw [h1]
    simp only [Option.getD_none, Bool.false_eq_true, false_iff]
    exact h2
/-- has a reporter lied? -/
noncomputable def lied (L : List Report) (r : Int) : Bool := open Classical in decide (∃ c, 2 ≤ cnt L r c)
theorem lied_get {L : List Report} {m : List (Int × Bool)} (h : liarQ L m) (r : Int) : mget m r false = lied L r := by
  have := liar_get h r
  unfold lied
  cases hm : mget m r false with
  | true => rw [hm] at this; exact (@decide_eq_true _ (Classical.propDecidable _) (this.1 rfl)).symm
  | false => rw [hm] at this; exact (@decide_eq_false _ (Classical.propDecidable _) (fun h => by have := this.2 h; cases this)).symm
noncomputable def knownL (l : List Arrival) (day : Int) : List Report := sortRp ((agreedL l day).filter fun c => !lied (agreedL l day) c.reporter)
theorem sortRp_congr {a b : List Report} (h : a.Perm b) (hi : ∀ s, s ∈ a → s.I64) (hr : ∀ s, s ∈ a → report_Right s = true) : sortRp a = sortRp b := by
  have hib : ∀ s, s ∈ b → s.I64 := fun s hs => hi s (h.mem_iff.2 hs)
  have pa := sortRp_perm hi
  have pb := sortRp_perm hib
  have hp : ∀ l : List Report, (sortRp l).Pairwise (fun x y : Report => ¬ rpT y < rpT x) := fun l => by
    rw [List.pairwise_iff_getElem]
    intro i j hi hj hij
    have := sortRp_sorted l i j hij hj
    rwa [show (sortRp l).getD j default = (sortRp l)[j] by simp [List.getD, hj], show (sortRp l).getD i default = (sortRp l)[i] by simp [List.getD, hi]] at this
  refine List.Perm.eq_of_pairwise (fun x y hx hy h1 h2 => ?_) (hp a) (hp b) ((pa.trans h).trans pb.symm)
  have hxa := pa.mem_iff.1 hx
  have hya := h.mem_iff.2 (pb.mem_iff.1 hy)
  exact text_inj (hi x hxa) (hi y hya) (hr x hxa) (hr y hya) (List.le_antisymm (List.not_lt.1 h1) (List.not_lt.1 h2))
theorem known_of {l : List Arrival} {day : Int} (hl : l.length ≤ 1200) (hi : ∀ a, a ∈ l → a.report.I64) {y : List Report} {m : List (Int × Bool)} (hy : rowQ (agreedL l day) y) (hm : liarQ (agreedL l day) m) :
    y.length ≤ 1200 ∧ (∀ s, s ∈ slices_DeleteFunc_54 y m → s.I64) ∧ (slices_DeleteFunc_54 y m).length ≤ 1200 ∧ sortRp (slices_DeleteFunc_54 y m) = knownL l day := by
  have h1 : y.length ≤ 1200 := by
    have := hy.length_eq
    have h2 := agreedL_len l day
    omega
  have hd := slices_DeleteFunc_54_post y m (by omega)
  have hf : (fun c_ : Report => !report_Known_c1 c_ m) = fun c => !lied (agreedL l day) c.reporter := by
    funext c
    rw [show report_Known_c1 c m = mget m c.reporter false from rfl, lied_get hm]
  rw [hf] at hd
  have hI : ∀ s, s ∈ slices_DeleteFunc_54 y m → s.I64 ∧ report_Right s = true := fun s hs => by
    rw [hd] at hs
    obtain ⟨h3, a, h4, h5⟩ := agreedL_mem (hy.mem_iff.1 (List.mem_filter.1 hs).1)
    exact ⟨h5 ▸ hi a h4, h3⟩
  refine ⟨h1, fun s hs => (hI s hs).1, ?_, ?_⟩
  · rw [hd]
    have := List.length_filter_le (fun c : Report => !lied (agreedL l day) c.reporter) y
    omega
  · refine sortRp_congr ?_ (fun s hs => (hI s hs).1) (fun s hs => (hI s hs).2)
    rw [hd]
    exact hy.filter _

noncomputable def report_Known_sk (l : List Arrival) (day : Int) : Sk ((List Report)) :=
 .br (decide (((l.length : Nat) : Int) > 1200))
 (.fin [])
 (.r 3 ((report_agreed_km l day).c) fun _ =>
 .orr 777777 (report_agreed_Q l day) (rowE Report.cells) [] fun y1 =>
 .wr 777777 (report_agreed_N l day) y1.length <|
 .ot 777778 (report_agreed_M l day) List.length (mpf dB) [] fun m2 =>
 .fm 777778 <|
 .fb 6 <|
 .r 4 ((slices_DeleteFunc_54_kh 777777 19 y1 m2).c) fun x3 =>
 .r 5 ((slices_SortFunc_s 19 x3).c) fun x4 =>
 .wn 19 x3.length x4.length <|
 .fin x4)
noncomputable def report_Known l day := (report_Known_sk l day).val
theorem report_Known_of {l : List Arrival} {day : Int} (hl : l.length ≤ 1200) (hi : ∀ a, a ∈ l → a.report.I64) : report_Known l day = knownL l day := by
  have hd : decide (((l.length : Nat) : Int) > 1200) = false := by rw [decide_eq_false_iff_not]; omega
  have hm0 : liarQ (agreedL l day) (canonY (report_agreed_M l day) []) := canonY_spec (liarQ_ex _)
  have hy0 : rowQ (agreedL l day) (canonY (report_agreed_Q l day) []) := canonY_spec ⟨_, List.Perm.refl _⟩
  have e0 : report_Known l day = bif decide (((l.length : Nat) : Int) > 1200) then [] else sortRp (slices_DeleteFunc_54 (canonY (report_agreed_Q l day) []) (canonY (report_agreed_M l day) [])) := rfl
  rw [e0, hd]
  exact (known_of hl hi hy0 hm0).2.2.2
theorem known_post {l : List Arrival} {day : Int} (hi : ∀ a, a ∈ l → a.report.I64) : (report_Known l day).length ≤ 1200 ∧ ∀ s, s ∈ report_Known l day → s.I64 ∧ report_Right s = true := by
  by_cases hl : l.length ≤ 1200
  · rw [report_Known_of hl hi]
    have hs : ∀ s, s ∈ (agreedL l day).filter (fun c => !lied (agreedL l day) c.reporter) → s.I64 ∧ report_Right s = true := fun s hs => by
      obtain ⟨h1, a, h2, h3⟩ := agreedL_mem (List.mem_filter.1 hs).1
      exact ⟨h3 ▸ hi a h2, h1⟩
    have hp := sortRp_perm (fun s h => (hs s h).1)
    unfold knownL
    refine ⟨?_, fun s h => hs s (hp.mem_iff.1 h)⟩
    have h1 := hp.length_eq
    have h2 := List.length_filter_le (fun c : Report => !lied (agreedL l day) c.reporter) (agreedL l day)
    have h3 := agreedL_len l day
    omega
  · have hd : decide (((l.length : Nat) : Int) > 1200) = true := by rw [decide_eq_true_eq]; omega
    have e0 : report_Known l day = bif decide (((l.length : Nat) : Int) > 1200) then [] else sortRp (slices_DeleteFunc_54 (canonY (report_agreed_Q l day) []) (canonY (report_agreed_M l day) [])) := rfl
    rw [e0, hd]
    exact ⟨by simp, fun s h => by cases h⟩

theorem report_Known_post (l : List Arrival) (day : Int) : (fun (x : (List Report)) => (∀ a, a ∈ l → a.report.I64) → x.length ≤ 1200 ∧ ∀ s, s ∈ x → s.I64 ∧ report_Right s = true) (report_Known l day) := fun hi => known_post hi
theorem report_Known_ok (l : List Arrival) (day : Int) (hi : ∀ a, a ∈ l → a.report.I64) : (report_Known_sk l day).obs (fun _ => True) := by
  unfold report_Known_sk
  refine ⟨fun _ => trivial, fun hl => ?_⟩
  have hl : l.length ≤ 1200 := by simp only [decide_eq_false_iff_not] at hl; omega
  refine ⟨hl, fun _ _ _ y1 hy1 => ⟨?_, hy1.length_eq.symm, fun m2 hm2 => ⟨?_, ?_, fun x3 hx3 _ => ⟨?_, fun x4 hx4 _ => ⟨?_, trivial⟩⟩⟩⟩⟩
  · have hm0 : liarQ (agreedL l day) (canonY (report_agreed_M l day) []) := canonY_spec (liarQ_ex _)
    have hy0 : rowQ (agreedL l day) (canonY (report_agreed_Q l day) []) := canonY_spec ⟨y1, hy1⟩
    exact (known_of hl hi hy1 hm0).2.2.2.trans (known_of hl hi hy0 hm0).2.2.2.symm
  · have hm0 : liarQ (agreedL l day) (canonY (report_agreed_M l day) []) := canonY_spec (liarQ_ex _)
    exact (known_of hl hi hy1 hm2).2.2.2.trans (known_of hl hi hy1 hm0).2.2.2.symm
  · have := (known_of hl hi hy1 hm2).1
    show y1.length ≤ 1000000000
    omega
  · have hx3 : x3 = slices_DeleteFunc_54 y1 m2 := hx3
    rw [hx3]
    have h1 := (known_of hl hi hy1 hm2).2.2.1
    exact ⟨by omega, (known_of hl hi hy1 hm2).2.1⟩
  · have hx3 : x3 = slices_DeleteFunc_54 y1 m2 := hx3
    have hx4 : x4 = sortRp x3 := hx4
    rw [hx4]
    exact (sortRp_perm (by rw [hx3]; exact (known_of hl hi hy1 hm2).2.1)).length_eq.symm

noncomputable def report_Known_k l day := kk tok mixed Tryz.func19 [lv Arrival.cells l, iv day] (fun x => lv Report.cells x) false (report_Known_sk l day) (report_Known l day) (report_Known_ok l day) (fun (x : (List Report)) => (∀ a, a ∈ l → a.report.I64) → x.length ≤ 1200 ∧ ∀ s, s ∈ x → s.I64 ∧ report_Right s = true) (report_Known_post l day)
noncomputable def allongeref50_SameReports_sk (a : List Report) (b : List Report) : Sk (Bool) :=
 .br (((a.length : Nat) : Int) != ((b.length : Nat) : Int))
 (.fin false)
 (.bt
 (.loop (default : Sum (Bool) (Unit)) (fun i2 => i2 ≤ a.length) (fun i2 => a.length - i2) (0 : Nat)
 (fun (i2 : Nat) => ⟨[(5, iv ((i2 : Nat) : Int))], []⟩) fun i2 =>
 .lt 0 0 i2 a.length
 (.r 6 (.andl (.p (ixP ((i2 : Nat) : Int) a.length)) (.p (ixP ((i2 : Nat) : Int) b.length))) fun _ =>
 .br (!(eqCs (Report.cells (a.getD i2 default)) (Report.cells (b.getD i2 default))))
 (.fin (.inl (.inl false)))
 (.nx 5 5 i2 (i2 + 1)))
 (.fin (.inl (.inr ()))))
 (fun (_ : Unit) => ⟨[], []⟩) fun _ =>
 .fin true)
noncomputable def allongeref50_SameReports a b := (allongeref50_SameReports_sk a b).val
theorem allongeref50_SameReports_ok (a : List Report) (b : List Report) : (allongeref50_SameReports_sk a b).obs (fun _ => True) := by
  unfold allongeref50_SameReports_sk
  exact okD

noncomputable def allongeref50_SameReports_k a b := kk tok mixed Tryz.func31 [lv Report.cells a, lv Report.cells b] (fun x => bv x) true (allongeref50_SameReports_sk a b) (allongeref50_SameReports a b) (u0 (allongeref50_SameReports_ok a b))
end Go.Proofs.YtihmmpaalpghbaaGreatDoor

