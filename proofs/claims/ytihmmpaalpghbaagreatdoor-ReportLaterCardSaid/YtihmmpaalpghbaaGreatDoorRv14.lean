/- Functions, as sketches. -/
import Derived.Test.YtihmmpaalpghbaaGreatDoorRv13
namespace Go.Proofs.YtihmmpaalpghbaaGreatDoor
open Go Go.Av
set_option linter.unusedSimpArgs false
set_option linter.unusedVariables false
set_option maxHeartbeats 1000000
set_option maxRecDepth 100000
noncomputable def allongeref15_Same_sk (a : List Int) (b : List Int) : Sk (Bool) :=
 .br (((a.length : Nat) : Int) != ((b.length : Nat) : Int))
 (.fin false)
 (.bt
 (.loop (default : Sum (Bool) (Unit)) (fun i2 => i2 ≤ a.length) (fun i2 => a.length - i2) (0 : Nat)
 (fun (i2 : Nat) => ⟨[(5, iv ((i2 : Nat) : Int))], []⟩) fun i2 =>
 .lt 0 0 i2 a.length
 (.r 6 (.andl (.p (ixP ((i2 : Nat) : Int) a.length)) (.p (ixP ((i2 : Nat) : Int) b.length))) fun _ =>
 .br ((a.getD i2 default) != (b.getD i2 default))
 (.fin (.inl (.inl false)))
 (.nx 5 5 i2 (i2 + 1)))
 (.fin (.inl (.inr ()))))
 (fun (_ : Unit) => ⟨[], []⟩) fun _ =>
 .fin true)
noncomputable def allongeref15_Same a b := (allongeref15_Same_sk a b).val
theorem allongeref15_Same_pst (a : List Int) (b : List Int) : (allongeref15_Same_sk a b).pst (fun (x : Bool) => a = b → x = true) := by
  unfold allongeref15_Same_sk
  exact okP

theorem allongeref15_Same_post (a : List Int) (b : List Int) : (fun (x : Bool) => a = b → x = true) (allongeref15_Same a b) := have h := Sk.pval _ (allongeref15_Same_pst a b); h
theorem allongeref15_Same_ok (a : List Int) (b : List Int) : (allongeref15_Same_sk a b).obs (fun _ => True) := by
  unfold allongeref15_Same_sk
  exact okD

noncomputable def allongeref15_Same_k a b := kp tok mixed Tryz.func28 [lv intC a, lv intC b] (fun x => bv x) true (allongeref15_Same a b) (u0 (allongeref15_Same_ok a b)) (allongeref15_Same_pst a b)
noncomputable def report_Convicts_sk (a : Report) (b : Report) : Sk (Bool) :=
 .r 1 (.dep ((report_Right_k a).c) fun x1 => .wh x1 true ((report_Right_k b).c)) fun p3 =>
 .fin ((((p3.1 && p3.2) && (a.reporter == b.reporter)) && (a.no == b.no)) && (!(eqCs (Report.cells a) (Report.cells b))))
noncomputable def report_Convicts a b := (report_Convicts_sk a b).val
theorem report_Convicts_ok (a : Report) (b : Report) : (report_Convicts_sk a b).obs (fun _ => True) := by
  unfold report_Convicts_sk
  try simp only [report_Right_k]
  exact okE

noncomputable def report_Convicts_k a b := kk tok mixed Tryz.func25 [av a.cells, av b.cells] (fun x => bv x) true (report_Convicts_sk a b) (report_Convicts a b) (u0 (report_Convicts_ok a b))
theorem fact_I64 (r n k : Int) (hr : in64w r) (hn : in64w n) (hk : in64w k) : (allongelaw50_fact r n k).I64 := by
  rw [allongelaw50_fact_eq]
  simp [Report.I64, Report.cells, Body.cells, Bill.cells, Tenor.cells, Sign.cells, ActX.cells, Alter.cells, Fact.cells, okI_dI, hr, hn, hk, in64w]
theorem fact_I64' (r n k : Int) (h : (decide (-1000 ≤ r) && decide (r ≤ 1000) && decide (-1000 ≤ n) && decide (n ≤ 1000) && decide (-1000 ≤ k) && decide (k ≤ 1000)) = true) : (allongelaw50_fact r n k).I64 := by
  simp only [Bool.and_eq_true, decide_eq_true_eq] at h
  exact fact_I64 r n k ⟨by omega, by omega⟩ ⟨by omega, by omega⟩ ⟨by omega, by omega⟩
theorem fact_text : report_Text (allongelaw50_fact 0 1 1) = ⟨#[57, 59, 48, 59, 49, 59, 53, 59, 52, 59, 51, 59, 48, 59, 48, 59, 49, 59, 49, 59]⟩ := by
  rw [text_right rfl]
  unfold wire_Ints
  have e : intsL (repL (allongelaw50_fact 0 1 1)) = [57, 59, 48, 59, 49, 59, 53, 59, 52, 59, 51, 59, 48, 59, 48, 59, 49, 59, 49, 59] := by
    show intsL [0, 1, 5, 4, 3, 0, 0, 1, 1] = _
    simp [intsL, intL, Lib.itoa, Lib.decDigits]
  rw [e]
noncomputable abbrev sL : List Arrival := [allongelaw50_at 0 5 (allongelaw50_fact 0 1 1), allongelaw50_at 2 9 (allongelaw50_fact 0 1 1), allongelaw50_at 1 6 (allongelaw50_fact 1 1 1), allongelaw50_at 1 7 (allongelaw50_fact 1 1 1), allongelaw50_at 0 5 (allongelaw50_fact 2 1 1), allongelaw50_at 1 10 (allongelaw50_fact 2 1 1)]
noncomputable abbrev sT : List Arrival := [allongelaw50_at 0 5 (allongelaw50_fact 0 1 1), allongelaw50_at 1 5 (allongelaw50_fact 0 1 1), allongelaw50_at 0 5 (allongelaw50_fact 0 1 0), allongelaw50_at 1 5 (allongelaw50_fact 0 1 0)]
theorem sL_I64 : ∀ a, a ∈ sL → a.report.I64 := by
  intro a ha
  simp only [sL, List.mem_cons, List.not_mem_nil, or_false] at ha
  rcases ha with rfl | rfl | rfl | rfl | rfl | rfl <;> exact fact_I64' _ _ _ rfl
theorem sT_I64 : ∀ a, a ∈ sT → a.report.I64 := by
  intro a ha
  simp only [sT, List.mem_cons, List.not_mem_nil, or_false] at ha
  rcases ha with rfl | rfl | rfl | rfl <;> exact fact_I64' _ _ _ rfl

noncomputable def allongelaw50_sane_sk : Sk (Bool) :=
 .r 1 ((allongelaw50_fact_k 0 1 1).c) fun x1 =>
 .r 2 ((allongelaw50_fact_k 1 1 1).c) fun x2 =>
 .r 3 ((allongelaw50_fact_k 2 1 1).c) fun x3 =>
 .r 4 (.dep ((allongelaw50_at_k 0 5 x1).c) fun x4 => .dep ((allongelaw50_at_k 2 9 x1).c) fun x5 => .dep ((allongelaw50_at_k 1 6 x2).c) fun x6 => .dep ((allongelaw50_at_k 1 7 x2).c) fun x7 => .dep ((allongelaw50_at_k 0 5 x3).c) fun x8 => .depr ((allongelaw50_at_k 1 10 x3).c) fun x9 => .o [.nrm (litC Arrival.E [x4, x5, x6, x7, x8, x9])]) fun p39 =>
 .r 5 (.dep ((allongelaw50_at_k 0 5 x1).c) fun x10 => .dep ((allongelaw50_at_k 1 5 x1).c) fun x11 => .dep ((allongelaw50_fact_k 0 1 0).c) fun x12 => .dep ((allongelaw50_at_k 0 5 x12).c) fun x13 => .dep ((allongelaw50_fact_k 0 1 0).c) fun x14 => .depr ((allongelaw50_at_k 1 5 x14).c) fun x15 => .o [.nrm (litC Arrival.E [x10, x11, x13, x15])]) fun p38 =>
 .r 6 (.dep ((report_Text_k x1).c) fun x16 => (report_Read_k x16).c) fun p37 =>
 .r 7 (.dep ((report_Text_k x1).c) fun x18 => .andl (.p (((x18.size + (⟨#[48, 59]⟩ : ByteArray).size : Nat) : Int) ≤ IntKind.i64.max)) ((report_Read_k (x18 ++ (⟨#[48, 59]⟩ : ByteArray))).c)) fun p36 =>
 .fz 27 <|
 .r 8 (.dep ((report_Known_k [p39.1, p39.2.1, p39.2.2.1, p39.2.2.2.1, p39.2.2.2.2.1, p39.2.2.2.2.2] 9).c) fun x20 => .andl (.o [.nrm (litC Report.E [x1])]) (.dep ((allongeref50_SameReports_k x20 [x1]).c) fun x21 => .dep (.wh x21 true ((report_Known_k [p39.1, p39.2.1, p39.2.2.1, p39.2.2.2.1, p39.2.2.2.2.1, p39.2.2.2.2.2] 10).c)) fun x22 => .wh (x21 && (((x22.length : Nat) : Int) == 2)) true ((report_Known_k [p39.1, p39.2.1, p39.2.2.1, p39.2.2.2.1, p39.2.2.2.2.1, p39.2.2.2.2.2] 8).c))) fun p35 =>
 .fz 36 <|
 .r 9 (.dep ((report_Known_k [p38.1, p38.2.1, p38.2.2.2.1, p38.2.2.2.2.2] 9).c) fun x24 => .dep (.wh (((x24.length : Nat) : Int) == 0) true ((report_Liars_k [p38.1, p38.2.1, p38.2.2.2.1, p38.2.2.2.2.2] 9).c)) fun x25 => .andl (.wh (((x24.length : Nat) : Int) == 0) true (.o [.nrm (litC intE [0])])) (.dep (.wh (((x24.length : Nat) : Int) == 0) true ((allongeref15_Same_k x25 [0]).c)) fun x26 => .wh ((((x24.length : Nat) : Int) == 0) && x26) true ((report_Liars_k [p39.1, p39.2.1, p39.2.2.1, p39.2.2.2.1, p39.2.2.2.2.1, p39.2.2.2.2.2] 9).c))) fun p34 =>
 .r 10 (.dep (.wh ((((((p35.2.1 && (((p35.2.2.1.length : Nat) : Int) == 2)) && (((p35.2.2.2.length : Nat) : Int) == 0)) && (((((p34.1.length : Nat) : Int) == 0) && p34.2.2.1) && (((p34.2.2.2.length : Nat) : Int) == 0))) && p37.2.2) && (eqCs (Report.cells p37.2.1) (Report.cells x1))) && (!p36.2.2)) true ((report_Right_k x1).c)) fun x28 => .dep (.wh (((((((p35.2.1 && (((p35.2.2.1.length : Nat) : Int) == 2)) && (((p35.2.2.2.length : Nat) : Int) == 0)) && (((((p34.1.length : Nat) : Int) == 0) && p34.2.2.1) && (((p34.2.2.2.length : Nat) : Int) == 0))) && p37.2.2) && (eqCs (Report.cells p37.2.1) (Report.cells x1))) && (!p36.2.2)) && x28) true ((report_Text_k x1).c)) fun x29 => .dep (.wh ((((((((p35.2.1 && (((p35.2.2.1.length : Nat) : Int) == 2)) && (((p35.2.2.2.length : Nat) : Int) == 0)) && (((((p34.1.length : Nat) : Int) == 0) && p34.2.2.1) && (((p34.2.2.2.length : Nat) : Int) == 0))) && p37.2.2) && (eqCs (Report.cells p37.2.1) (Report.cells x1))) && (!p36.2.2)) && x28) && (x29.toList == (⟨#[57, 59, 48, 59, 49, 59, 53, 59, 52, 59, 51, 59, 48, 59, 48, 59, 49, 59, 49, 59]⟩ : ByteArray).toList)) true ((allongelaw50_fact_k 0 1 0).c)) fun x30 => .dep (.wh ((((((((p35.2.1 && (((p35.2.2.1.length : Nat) : Int) == 2)) && (((p35.2.2.2.length : Nat) : Int) == 0)) && (((((p34.1.length : Nat) : Int) == 0) && p34.2.2.1) && (((p34.2.2.2.length : Nat) : Int) == 0))) && p37.2.2) && (eqCs (Report.cells p37.2.1) (Report.cells x1))) && (!p36.2.2)) && x28) && (x29.toList == (⟨#[57, 59, 48, 59, 49, 59, 53, 59, 52, 59, 51, 59, 48, 59, 48, 59, 49, 59, 49, 59]⟩ : ByteArray).toList)) true ((report_Convicts_k x1 x30).c)) fun x31 => .wh (((((((((p35.2.1 && (((p35.2.2.1.length : Nat) : Int) == 2)) && (((p35.2.2.2.length : Nat) : Int) == 0)) && (((((p34.1.length : Nat) : Int) == 0) && p34.2.2.1) && (((p34.2.2.2.length : Nat) : Int) == 0))) && p37.2.2) && (eqCs (Report.cells p37.2.1) (Report.cells x1))) && (!p36.2.2)) && x28) && (x29.toList == (⟨#[57, 59, 48, 59, 49, 59, 53, 59, 52, 59, 51, 59, 48, 59, 48, 59, 49, 59, 49, 59]⟩ : ByteArray).toList)) && x31) true ((report_Convicts_k x1 x2).c)) fun p33 =>
 .fin ((((((((((p35.2.1 && (((p35.2.2.1.length : Nat) : Int) == 2)) && (((p35.2.2.2.length : Nat) : Int) == 0)) && (((((p34.1.length : Nat) : Int) == 0) && p34.2.2.1) && (((p34.2.2.2.length : Nat) : Int) == 0))) && p37.2.2) && (eqCs (Report.cells p37.2.1) (Report.cells x1))) && (!p36.2.2)) && p33.1) && (p33.2.1.toList == (⟨#[57, 59, 48, 59, 49, 59, 53, 59, 52, 59, 51, 59, 48, 59, 48, 59, 49, 59, 49, 59]⟩ : ByteArray).toList)) && p33.2.2.2.1) && (!p33.2.2.2.2))
noncomputable def allongelaw50_sane : Bool := (allongelaw50_sane_sk).val
theorem allongelaw50_sane_ok : (allongelaw50_sane_sk).obs (fun _ => True) := by
  have hA : (allongelaw50_fact 0 1 1).I64 := fact_I64' _ _ _ rfl
  have hZ : (allongelaw50_fact 0 1 0).I64 := fact_I64' _ _ _ rfl
  unfold allongelaw50_sane_sk
  refine ⟨trivial, fun x1 h1 _ => ⟨trivial, fun x2 h2 _ => ⟨trivial, fun x3 h3 _ => ⟨?_, fun p39 h39 _ => ⟨?_, fun p38 h38 _ => ⟨?_, fun p37 h37 _ => ⟨?_, fun p36 h36 _ => ⟨?_, fun p35 h35 _ => ⟨?_, fun p34 h34 _ => ⟨?_, fun p33 h33 _ => trivial⟩⟩⟩⟩⟩⟩⟩⟩⟩⟩
  · exact ⟨trivial, fun _ _ _ => ⟨trivial, fun _ _ _ => ⟨trivial, fun _ _ _ => ⟨trivial, fun _ _ _ => ⟨trivial, fun _ _ _ => ⟨trivial, fun _ _ _ => trivial⟩⟩⟩⟩⟩⟩
  · exact ⟨trivial, fun _ _ _ => ⟨trivial, fun _ _ _ => ⟨trivial, fun _ _ _ => ⟨trivial, fun _ _ _ => ⟨trivial, fun _ _ _ => ⟨trivial, fun _ _ _ => trivial⟩⟩⟩⟩⟩⟩
  · have h1 : x1 = allongelaw50_fact 0 1 1 := h1
    subst h1
    refine ⟨hA, fun x hx _ => ?_⟩
    have hx : x = report_Text (allongelaw50_fact 0 1 1) := hx
    rw [hx, fact_text]
    show (20 : Nat) ≤ 1000000
    decide
  · have h1 : x1 = allongelaw50_fact 0 1 1 := h1
    subst h1
    refine ⟨hA, fun x hx _ => ?_⟩
    have hx : x = report_Text (allongelaw50_fact 0 1 1) := hx
    rw [hx, fact_text]
    exact ⟨(by decide : ((20 + 2 : Nat) : Int) ≤ IntKind.i64.max), (by decide : (22 : Nat) ≤ 1000000)⟩
  · have h1 : x1 = allongelaw50_fact 0 1 1 := h1
    have h2 : x2 = allongelaw50_fact 1 1 1 := h2
    have h3 : x3 = allongelaw50_fact 2 1 1 := h3
    subst h1; subst h2; subst h3; subst h39
    exact ⟨sL_I64, fun _ _ _ => ⟨trivial, trivial, fun _ _ _ => ⟨fun _ => sL_I64, fun _ _ _ => fun _ => sL_I64⟩⟩⟩
  · have h1 : x1 = allongelaw50_fact 0 1 1 := h1
    have h2 : x2 = allongelaw50_fact 1 1 1 := h2
    have h3 : x3 = allongelaw50_fact 2 1 1 := h3
    subst h1; subst h2; subst h3; subst h39; subst h38
    exact ⟨sT_I64, fun _ _ _ => ⟨fun _ => trivial, fun _ _ _ => ⟨fun _ => trivial, fun _ => trivial, fun _ _ _ => fun _ => trivial⟩⟩⟩
  · have h1 : x1 = allongelaw50_fact 0 1 1 := h1
    subst h1
    exact ⟨fun _ => trivial, fun _ _ _ => ⟨fun _ => hA, fun _ _ _ => ⟨fun _ => trivial, fun _ _ _ => ⟨fun _ => trivial, fun _ _ _ => fun _ => trivial⟩⟩⟩⟩

noncomputable def allongelaw50_sane_k : Ctr (Bool) := kk tok mixed Tryz.func8 [] (fun x => bv x) true (allongelaw50_sane_sk) (allongelaw50_sane) (fun (_ : True) => allongelaw50_sane_ok)
noncomputable def allongelaw50_few_sk (l : List Arrival) : Sk (Bool) :=
 .fin (decide (((l.length : Nat) : Int) ≤ 120))
noncomputable def allongelaw50_few l := (allongelaw50_few_sk l).val
theorem allongelaw50_few_eq (l : List Arrival) : allongelaw50_few l = (decide (((l.length : Nat) : Int) ≤ 120)) := rfl
theorem allongelaw50_few_ok (l : List Arrival) : (allongelaw50_few_sk l).obs (fun _ => True) := by
  unfold allongelaw50_few_sk
  exact okE

noncomputable def allongelaw50_few_k l := kk tok mixed Tryz.func20 [lv Arrival.cells l] (fun x => bv x) true (allongelaw50_few_sk l) (allongelaw50_few l) (u0 (allongelaw50_few_ok l))
noncomputable def allongeref09_Few_sk (r : Realm) : Sk (Bool) :=
 .bt
 (.loop (default : Sum (Bool) (Unit)) (fun i2 => i2 ≤ r.cities.length) (fun i2 => r.cities.length - i2) (0 : Nat)
 (fun (i2 : Nat) => ⟨[(3, iv ((i2 : Nat) : Int))], []⟩) fun i2 =>
 .bnd 1 1 r.cities.length <|
 .br ((decide (((i2 : Nat) : Int) < ((r.cities.length : Nat) : Int))) && (decide (((i2 : Nat) : Int) < 50)))
 (.r 4 (.andl (.p (ixP ((i2 : Nat) : Int) r.cities.length)) (.andl (.wh (decide (((((r.cities.getD i2 default).feasts).length : Nat) : Int) > 70)) false (.p (ixP ((i2 : Nat) : Int) r.cities.length))) (.wh ((decide (((((r.cities.getD i2 default).feasts).length : Nat) : Int) > 70)) || (decide (((((r.cities.getD i2 default).shut).length : Nat) : Int) > 210))) false (.p (ixP ((i2 : Nat) : Int) r.cities.length))))) fun _ =>
 .br (((decide (((((r.cities.getD i2 default).feasts).length : Nat) : Int) > 70)) || (decide (((((r.cities.getD i2 default).shut).length : Nat) : Int) > 210))) || (decide (((((r.cities.getD i2 default).rest).length : Nat) : Int) > 8)))
 (.fin (.inl (.inl false)))
 (.nx 3 3 i2 (i2 + 1)))
 (.fin (.inl (.inr ()))))
 (fun (_ : Unit) => ⟨[], []⟩) fun _ =>
 .bind true (fun b3 => ∀ k, k < r.orders.length → k < 50 → (r.orders.getD k default).choices.length ≤ 40 ∧ (r.orders.getD k default).rules.length ≤ 40)
 (.loop (default : Sum (Bool) (Unit)) (fun i4 => (∀ k, k < i4 → (r.orders.getD k default).choices.length ≤ 40 ∧ (r.orders.getD k default).rules.length ≤ 40) ∧ i4 ≤ r.orders.length) (fun i4 => r.orders.length - i4) (0 : Nat)
 (fun (i4 : Nat) => ⟨[(4, iv ((i4 : Nat) : Int))], []⟩) fun i4 =>
 .bnd 1 4 r.orders.length <|
 .br ((decide (((i4 : Nat) : Int) < ((r.orders.length : Nat) : Int))) && (decide (((i4 : Nat) : Int) < 50)))
 (.r 9 (.andl (.p (ixP ((i4 : Nat) : Int) r.orders.length)) (.wh (decide (((((r.orders.getD i4 default).choices).length : Nat) : Int) > 40)) false (.p (ixP ((i4 : Nat) : Int) r.orders.length)))) fun _ =>
 .br ((decide (((((r.orders.getD i4 default).choices).length : Nat) : Int) > 40)) || (decide (((((r.orders.getD i4 default).rules).length : Nat) : Int) > 40)))
 (.fin (.inl (.inl false)))
 (.nx 8 4 i4 (i4 + 1)))
 (.fin (.inl (.inr ()))))
 (fun (_ : Unit) => ⟨[], []⟩) fun _ =>
 .fin ((((((((decide (((r.currencies.length : Nat) : Int) < 50)) && (decide (((r.cities.length : Nat) : Int) < 50))) && (decide (((r.groups.length : Nat) : Int) < 50))) && (decide (((r.firms.length : Nat) : Int) < 210))) && (decide (((r.orders.length : Nat) : Int) < 50))) && (decide (((r.usances.length : Nat) : Int) < 110))) && (decide (((r.rates.length : Nat) : Int) < 110))) && (decide (((r.halts.length : Nat) : Int) < 50)))
noncomputable def allongeref09_Few r := (allongeref09_Few_sk r).val
theorem allongeref09_Few_pst (r : Realm) : (allongeref09_Few_sk r).pst (fun (x : Bool) => x = true → r.Small) := by
  unfold allongeref09_Few_sk
  try simp only [File.Small, Realm.Small]
  exact okP

theorem allongeref09_Few_post (r : Realm) : (fun (x : Bool) => x = true → r.Small) (allongeref09_Few r) := have h := Sk.pval _ (allongeref09_Few_pst r); h
theorem allongeref09_Few_ok (r : Realm) : (allongeref09_Few_sk r).obs (fun _ => True) := by
  unfold allongeref09_Few_sk
  try simp only [File.Small, Realm.Small]
  exact okD

noncomputable def allongeref09_Few_k r := kp tok mixed Tryz.func13 [av r.cells] (fun x => bv x) true (allongeref09_Few r) (u0 (allongeref09_Few_ok r)) (allongeref09_Few_pst r)
noncomputable def allongeref09_Letter_sk (c_ : Int) : Sk (Bool) :=
 .fin (((decide ((97 : Int) ≤ c_)) && (decide (c_ ≤ 122))) || ((decide ((65 : Int) ≤ c_)) && (decide (c_ ≤ 90))))
noncomputable def allongeref09_Letter c_ := (allongeref09_Letter_sk c_).val
theorem allongeref09_Letter_eq (c_ : Int) : allongeref09_Letter c_ = (((decide ((97 : Int) ≤ c_)) && (decide (c_ ≤ 122))) || ((decide ((65 : Int) ≤ c_)) && (decide (c_ ≤ 90)))) := rfl
theorem allongeref09_Letter_ok (c_ : Int) : (allongeref09_Letter_sk c_).obs (fun _ => True) := by
  unfold allongeref09_Letter_sk
  exact okE

noncomputable def allongeref09_Letter_k c_ := kk tok mixed Tryz.func178 [.d (.v (.int .u8 c_))] (fun x => bv x) true (allongeref09_Letter_sk c_) (allongeref09_Letter c_) (u0 (allongeref09_Letter_ok c_))
noncomputable def allongeref09_Name_sk (s : ByteArray) : Sk (Bool) :=
 .br ((decide (((s.size : Nat) : Int) < 1)) || (decide (((s.size : Nat) : Int) > 20)))
 (.fin false)
 (.bt
 (.loop (default : Sum (Bool) (Unit)) (fun i2 => i2 ≤ s.size) (fun i2 => s.size - i2) (0 : Nat)
 (fun (i2 : Nat) => ⟨[(3, iv ((i2 : Nat) : Int))], []⟩) fun i2 =>
 .br (decide (((i2 : Nat) : Int) < ((s.size : Nat) : Int)))
 (.r 6 (.andl (.p (0 ≤ ((i2 : Nat) : Int) ∧ ((i2 : Nat) : Int) < ((s.size : Nat) : Int))) (.andl (.wh (((s.data.toList.getD i2 0).toNat : Int) == 95) false (.p (0 ≤ ((i2 : Nat) : Int) ∧ ((i2 : Nat) : Int) < ((s.size : Nat) : Int)))) (.wh (((s.data.toList.getD i2 0).toNat : Int) == 95) false (.wh (decide ((48 : Int) ≤ ((s.data.toList.getD i2 0).toNat : Int))) true (.p (0 ≤ ((i2 : Nat) : Int) ∧ ((i2 : Nat) : Int) < ((s.size : Nat) : Int))))))) fun _ =>
 .r 7 (.andl (.p (0 ≤ ((i2 : Nat) : Int) ∧ ((i2 : Nat) : Int) < ((s.size : Nat) : Int))) ((allongeref09_Letter_k ((s.data.toList.getD i2 0).toNat : Int)).c)) fun x3 =>
 .br ((!x3) && ((((i2 : Nat) : Int) == 0) || (!((((s.data.toList.getD i2 0).toNat : Int) == 95) || ((decide ((48 : Int) ≤ ((s.data.toList.getD i2 0).toNat : Int))) && (decide (((s.data.toList.getD i2 0).toNat : Int) ≤ 57)))))))
 (.fin (.inl (.inl false)))
 (.nx 5 3 i2 (i2 + 1)))
 (.fin (.inl (.inr ()))))
 (fun (_ : Unit) => ⟨[], []⟩) fun _ =>
 .fin true)
noncomputable def allongeref09_Name s := (allongeref09_Name_sk s).val
theorem allongeref09_Name_ok (s : ByteArray) : (allongeref09_Name_sk s).obs (fun _ => True) := by
  unfold allongeref09_Name_sk
  try simp only [allongeref09_Letter_k, allongeref09_Letter_eq]
  exact okG

noncomputable def allongeref09_Name_k s := kk tok mixed Tryz.func139 [sv s] (fun x => bv x) true (allongeref09_Name_sk s) (allongeref09_Name s) (u0 (allongeref09_Name_ok s))
noncomputable def allongeref09_Before_sk (l : List ByteArray) (n : Int) (s : ByteArray) : Sk (Bool) :=
 .bt
 (.loop (default : Sum (Bool) (Unit)) (fun i2 => i2 ≤ l.length) (fun i2 => l.length - i2) (0 : Nat)
 (fun (i2 : Nat) => ⟨[(7, iv ((i2 : Nat) : Int))], []⟩) fun i2 =>
 .bnd 0 0 l.length <|
 .br ((decide (((i2 : Nat) : Int) < n)) && (decide (((i2 : Nat) : Int) < ((l.length : Nat) : Int))))
 (.r 4 (.p (ixP ((i2 : Nat) : Int) l.length)) fun _ =>
 .br ((l.getD i2 default).toList == s.toList)
 (.fin (.inl (.inl true)))
 (.nx 3 7 i2 (i2 + 1)))
 (.fin (.inl (.inr ()))))
 (fun (_ : Unit) => ⟨[], []⟩) fun _ =>
 .fin false
noncomputable def allongeref09_Before l n s := (allongeref09_Before_sk l n s).val
theorem allongeref09_Before_ok (l : List ByteArray) (n : Int) (s : ByteArray) : (allongeref09_Before_sk l n s).obs (fun _ => True) := by
  unfold allongeref09_Before_sk
  exact okD

noncomputable def allongeref09_Before_k l n s := kk tok mixed Tryz.func140 [lv strC l, iv n, sv s] (fun x => bv x) true (allongeref09_Before_sk l n s) (allongeref09_Before l n s) (u0 (allongeref09_Before_ok l n s))
noncomputable def allongeref09_named_sk (l : List ByteArray) (i : Int) : Sk (Int) :=
 .r 1 (.andl (.p (ixP i l.length)) ((allongeref09_Name_k (l.getD i.toNat default)).c)) fun x1 =>
 .br (!x1)
 (.fin 2)
 (.r 3 (.andl (.p (ixP i l.length)) ((allongeref09_Before_k l i (l.getD i.toNat default)).c)) fun x2 =>
 .br x2
 (.fin 5)
 (.fin 0))
noncomputable def allongeref09_named l i := (allongeref09_named_sk l i).val
theorem allongeref09_named_ok (l : List ByteArray) (i : Int) (hi : 0 ≤ i ∧ i < (l.length : Int)) : (allongeref09_named_sk l i).obs (fun _ => True) := by
  unfold allongeref09_named_sk
  try simp only [allongeref09_Before_k, allongeref09_Name_k]
  exact okD

noncomputable def allongeref09_named_k l i := kk tok mixed Tryz.func93 [lv strC l, iv i] (fun x => iv x) true (allongeref09_named_sk l i) (allongeref09_named l i) (allongeref09_named_ok l i)
noncomputable def allongeref09_Within_sk (n : Int) (low : Int) (high : Int) : Sk (Bool) :=
 .fin ((decide (low ≤ n)) && (decide (n ≤ high)))
noncomputable def allongeref09_Within n low high := (allongeref09_Within_sk n low high).val
theorem allongeref09_Within_eq (n : Int) (low : Int) (high : Int) : allongeref09_Within n low high = ((decide (low ≤ n)) && (decide (n ≤ high))) := rfl
theorem allongeref09_Within_ok (n : Int) (low : Int) (high : Int) : (allongeref09_Within_sk n low high).obs (fun _ => True) := by
  unfold allongeref09_Within_sk
  exact okE

noncomputable def allongeref09_Within_k n low high := kk tok mixed Tryz.func95 [iv n, iv low, iv high] (fun x => bv x) true (allongeref09_Within_sk n low high) (allongeref09_Within n low high) (u0 (allongeref09_Within_ok n low high))
noncomputable def allongeref09_Rising_sk (l : List Int) (low : Int) (high : Int) : Sk (Bool) :=
 .bt
 (.loop (default : Sum (Bool) (Unit)) (fun i2 => i2 ≤ l.length) (fun i2 => l.length - i2) (0 : Nat)
 (fun (i2 : Nat) => ⟨[(7, iv ((i2 : Nat) : Int))], []⟩) fun i2 =>
 .lt 0 0 i2 l.length
 (.r 4 (.andl (.p (ixP ((i2 : Nat) : Int) l.length)) ((allongeref09_Within_k (l.getD i2 default) low high).c)) fun x3 =>
 .br (!x3)
 (.fin (.inl (.inl false)))
 (.r 6 (.andl (.wh (decide (((i2 : Nat) : Int) > 0)) true (.p (ixP (w64 (((i2 : Nat) : Int) - 1)) l.length))) (.wh (decide (((i2 : Nat) : Int) > 0)) true (.p (ixP ((i2 : Nat) : Int) l.length)))) fun _ =>
 .br ((decide (((i2 : Nat) : Int) > 0)) && (decide ((l.getD ((w64 (((i2 : Nat) : Int) - 1)).toNat) default) ≥ (l.getD i2 default))))
 (.fin (.inl (.inl false)))
 (.nx 3 7 i2 (i2 + 1))))
 (.fin (.inl (.inr ()))))
 (fun (_ : Unit) => ⟨[], []⟩) fun _ =>
 .fin true
noncomputable def allongeref09_Rising l low high := (allongeref09_Rising_sk l low high).val
theorem allongeref09_Rising_ok (l : List Int) (low : Int) (high : Int) : (allongeref09_Rising_sk l low high).obs (fun _ => True) := by
  unfold allongeref09_Rising_sk
  try simp only [allongeref09_Within_k, allongeref09_Within_eq]
  exact okG

noncomputable def allongeref09_Rising_k l low high := kk tok mixed Tryz.func141 [lv intC l, iv low, iv high] (fun x => bv x) true (allongeref09_Rising_sk l low high) (allongeref09_Rising l low high) (u0 (allongeref09_Rising_ok l low high))
noncomputable def allongeref09_RightCity_sk (r : Realm) (c_ : City) : Sk (Bool) :=
 .r 1 (.dep ((allongeref09_Within_k c_.order 0 (w64 (((r.orders.length : Nat) : Int) - 1))).c) fun x1 => .wh (!x1) false ((allongeref09_Within_k c_.currency 0 (w64 (((r.currencies.length : Nat) : Int) - 1))).c)) fun p12 =>
 .br ((((!p12.1) || (!p12.2)) || (decide (((c_.feasts.length : Nat) : Int) > 60))) || (decide (((c_.shut.length : Nat) : Int) > 200)))
 (.fin false)
 (.bt
 (.loop (default : Sum (Bool) (Unit)) (fun i4 => i4 ≤ c_.feasts.length) (fun i4 => c_.feasts.length - i4) (0 : Nat)
 (fun (i4 : Nat) => ⟨[(5, iv ((i4 : Nat) : Int))], []⟩) fun i4 =>
 .lt 3 4 i4 c_.feasts.length
 (.r 6 (.andl (.p (ixP ((i4 : Nat) : Int) c_.feasts.length)) (.andl (.p ((100 : Int) ≠ 0)) (.dep ((allongeref09_Within_k (w64 ((c_.feasts.getD i4 default).tdiv 100)) 1 12).c) fun x5 => .andl (.wh (!x5) false (.p (ixP ((i4 : Nat) : Int) c_.feasts.length))) (.andl (.wh (!x5) false (.p ((100 : Int) ≠ 0))) (.wh (!x5) false ((allongeref09_Within_k ((c_.feasts.getD i4 default).tmod 100) 1 31).c)))))) fun p7 =>
 .br ((!p7.1) || (!p7.2))
 (.fin (.inl (.inl false)))
 (.nx 5 5 i4 (i4 + 1)))
 (.fin (.inl (.inr ()))))
 (fun (_ : Unit) => ⟨[], []⟩) fun _ =>
 .r 8 (.dep ((allongeref09_Rising_k c_.rest 0 6).c) fun x8 => .dep (.wh x8 true ((allongeref09_Rising_k c_.feasts 0 2000).c)) fun x9 => .wh (x8 && x9) true ((allongeref09_Rising_k c_.shut 0 100000).c)) fun p11 =>
 .fin ((p11.1 && p11.2.1) && p11.2.2))
noncomputable def allongeref09_RightCity r c_ := (allongeref09_RightCity_sk r c_).val
theorem allongeref09_RightCity_ok (r : Realm) (c_ : City) : (allongeref09_RightCity_sk r c_).obs (fun _ => True) := by
  unfold allongeref09_RightCity_sk
  try simp only [allongeref09_Rising_k, allongeref09_Within_k, allongeref09_Within_eq]
  exact okG

noncomputable def allongeref09_RightCity_k r c_ := kk tok mixed Tryz.func94 [av r.cells, av c_.cells] (fun x => bv x) true (allongeref09_RightCity_sk r c_) (allongeref09_RightCity r c_) (u0 (allongeref09_RightCity_ok r c_))
noncomputable def allongeref09_cities_sk (r : Realm) : Sk (Int) :=
 .br (decide (((r.currencies.length : Nat) : Int) > 8))
 (.fin 6)
 (.bt
 (.loop (default : Sum (Int) (Unit)) (fun i2 => i2 ≤ r.currencies.length) (fun i2 => r.currencies.length - i2) (0 : Nat)
 (fun (i2 : Nat) => ⟨[(3, iv ((i2 : Nat) : Int))], []⟩) fun i2 =>
 .lt 1 0 i2 r.currencies.length
 (.r 6 ((allongeref09_named_k r.currencies ((i2 : Nat) : Int)).c) fun x3 =>
 .br (x3 != 0)
 (.fin (.inl (.inl x3)))
 (.nx 5 3 i2 (i2 + 1)))
 (.fin (.inl (.inr ()))))
 (fun (_ : Unit) => ⟨[], []⟩) fun _ =>
 .br (decide (((r.cities.length : Nat) : Int) > 40))
 (.fin 6)
 (.bt
 (.loop (default : Sum (Int) (Unit)) (fun i5 => i5.1.length = i5.2 ∧ i5.2 ≤ r.cities.length) (fun i5 => r.cities.length - i5.2) (([], 0) : (List ByteArray) × Nat)
 (fun (i5 : (List ByteArray) × Nat) => ⟨[(5, ow 100001 i5.1), (6, iv ((i5.2 : Nat) : Int))], [(100001, rowB 9 1 strC i5.1)]⟩) fun i5 =>
 .lt 1 1 i5.2 r.cities.length
 (.r 15 (.andl (.p (ixP ((i5.2 : Nat) : Int) r.cities.length)) (.andl (.o [.nrm (litC strE [(r.cities.getD i5.2 default).name])]) (.andl (.o [.nrm (catC strE i5.1 [(r.cities.getD i5.2 default).name])]) (.andl (.t (strE.ones [(r.cities.getD i5.2 default).name])) (.p (szP i5.1.length [(r.cities.getD i5.2 default).name].length 16)))))) fun _ =>
 .r 16 ((allongeref09_named_k (i5.1 ++ [(r.cities.getD i5.2 default).name]) ((i5.2 : Nat) : Int)).c) fun x6 =>
 .br (x6 != 0)
 (.fin (.inl (.inl x6)))
 (.r 19 (.andl (.p (ixP ((i5.2 : Nat) : Int) r.cities.length)) ((allongeref09_RightCity_k r (r.cities.getD i5.2 default)).c)) fun x7 =>
 .br (!x7)
 (.fin (.inl (.inl 1)))
 (.nx 14 6 i5.2 (i5.1 ++ [(r.cities.getD i5.2 default).name], i5.2 + 1))))
 (.fin (.inl (.inr ()))))
 (fun (_ : Unit) => ⟨[], []⟩) fun _ =>
 .fin 0))
noncomputable def allongeref09_cities r := (allongeref09_cities_sk r).val
theorem allongeref09_cities_pst (r : Realm) : (allongeref09_cities_sk r).pst (fun (x : Int) => x = 0 → r.currencies.length ≤ 8 ∧ r.cities.length ≤ 40) := by
  unfold allongeref09_cities_sk
  try simp only [allongeref09_RightCity_k, allongeref09_named_k]
  exact okP

theorem allongeref09_cities_ok (r : Realm) : (allongeref09_cities_sk r).obs (fun _ => True) := by
  unfold allongeref09_cities_sk
  try simp only [allongeref09_RightCity_k, allongeref09_named_k]
  exact okD

noncomputable def allongeref09_cities_k r := kp tok mixed Tryz.func58 [av r.cells] (fun x => iv x) true (allongeref09_cities r) (u0 (allongeref09_cities_ok r)) (allongeref09_cities_pst r)
noncomputable def allongeref09_firms_sk (r : Realm) : Sk (Int) :=
 .br (decide (((r.groups.length : Nat) : Int) > 20))
 (.fin 6)
 (.bt
 (.loop (default : Sum (Int) (Unit)) (fun i2 => i2 ≤ r.groups.length) (fun i2 => r.groups.length - i2) (0 : Nat)
 (fun (i2 : Nat) => ⟨[(3, iv ((i2 : Nat) : Int))], []⟩) fun i2 =>
 .lt 1 2 i2 r.groups.length
 (.r 6 (.andl (.p (ixP ((i2 : Nat) : Int) r.groups.length)) ((allongeref09_Within_k ((r.groups.getD i2 default).grade) 0 9).c)) fun x3 =>
 .br (!x3)
 (.fin (.inl (.inl 1)))
 (.nx 5 3 i2 (i2 + 1)))
 (.fin (.inl (.inr ()))))
 (fun (_ : Unit) => ⟨[], []⟩) fun _ =>
 .br (decide (((r.firms.length : Nat) : Int) > 200))
 (.fin 6)
 (.bind true (fun b4 => r.cities.length ≤ 40 → r.FirmOK)
 (.loop (default : Sum (Int) (Unit)) (fun i5 => i5.1.length = i5.2 ∧ i5.2 ≤ r.firms.length ∧ (r.cities.length ≤ 40 → ∀ q, q < i5.2 → 0 ≤ (r.firms.getD q default).city ∧ (r.firms.getD q default).city < (r.cities.length : Int))) (fun i5 => r.firms.length - i5.2) (([], 0) : (List ByteArray) × Nat)
 (fun (i5 : (List ByteArray) × Nat) => ⟨[(4, ow 100001 i5.1), (5, iv ((i5.2 : Nat) : Int))], [(100001, rowB 9 1 strC i5.1)]⟩) fun i5 =>
 .lt 1 3 i5.2 r.firms.length
 (.r 14 (.andl (.p (ixP ((i5.2 : Nat) : Int) r.firms.length)) (.andl (.o [.nrm (litC strE [(r.firms.getD i5.2 default).name])]) (.andl (.o [.nrm (catC strE i5.1 [(r.firms.getD i5.2 default).name])]) (.andl (.t (strE.ones [(r.firms.getD i5.2 default).name])) (.p (szP i5.1.length [(r.firms.getD i5.2 default).name].length 16)))))) fun _ =>
 .r 15 ((allongeref09_named_k (i5.1 ++ [(r.firms.getD i5.2 default).name]) ((i5.2 : Nat) : Int)).c) fun x6 =>
 .br (x6 != 0)
 (.fin (.inl (.inl x6)))
 (.r 18 (.andl (.p (ixP ((i5.2 : Nat) : Int) r.firms.length)) (.dep ((allongeref09_Within_k ((r.firms.getD i5.2 default).city) 0 (w64 (((r.cities.length : Nat) : Int) - 1))).c) fun x7 => .andl (.wh (!x7) false (.p (ixP ((i5.2 : Nat) : Int) r.firms.length))) (.wh (!x7) false ((allongeref09_Within_k ((r.firms.getD i5.2 default).group) 0 (w64 (((r.groups.length : Nat) : Int) - 1))).c)))) fun p9 =>
 .br ((!p9.1) || (!p9.2))
 (.fin (.inl (.inl 1)))
 (.nx 13 5 i5.2 (i5.1 ++ [(r.firms.getD i5.2 default).name], i5.2 + 1))))
 (.fin (.inl (.inr ()))))
 (fun (_ : Unit) => ⟨[], []⟩) fun _ =>
 .fin 0))
noncomputable def allongeref09_firms r := (allongeref09_firms_sk r).val
theorem allongeref09_firms_pst (r : Realm) (hP : r.cities.length ≤ 40) : (allongeref09_firms_sk r).pst (fun (x : Int) => x = 0 → r.groups.length ≤ 20 ∧ r.firms.length ≤ 200 ∧ r.FirmOK) := by
  refine Sk.pst_of _ ?_
  unfold allongeref09_firms_sk
  simp only [Sk.pstq, Sk.isLoop, reduceCtorEq, ON, kk, kp, allongeref09_Within_k, allongeref09_named_k, allongeref09_Within_eq, forall_eq, Realm.FirmOK, maxLen]
  all_goals exact okT2

theorem allongeref09_firms_post (r : Realm) : (fun (x : Int) => (r.cities.length ≤ 40) → (x = 0 → r.groups.length ≤ 20 ∧ r.firms.length ≤ 200 ∧ r.FirmOK)) (allongeref09_firms r) := fun hP => have h := Sk.pval _ (allongeref09_firms_pst r hP); h
theorem allongeref09_firms_ok (r : Realm) : (allongeref09_firms_sk r).obs (fun _ => True) := by
  refine Sk.obs_of _ ?_
  unfold allongeref09_firms_sk
  simp only [Sk.obq, Sk.isLoop, reduceCtorEq, ON, kk, kp, allongeref09_Within_k, allongeref09_named_k, allongeref09_Within_eq, forall_eq, Realm.FirmOK, maxLen]
  all_goals exact okT2

noncomputable def allongeref09_firms_k r := kk tok mixed Tryz.func59 [av r.cells] (fun x => iv x) true (allongeref09_firms_sk r) (allongeref09_firms r) (u0 (allongeref09_firms_ok r)) (fun (x : Int) => (r.cities.length ≤ 40) → (x = 0 → r.groups.length ≤ 20 ∧ r.firms.length ≤ 200 ∧ r.FirmOK)) (allongeref09_firms_post r)
noncomputable def allongeref09_RightOrder_sk (o : Order) : Sk (Bool) :=
 .bind true (fun b1 => ∀ j : Nat, j < o.choices.length → ((j : Int) ≤ (o.choices.getD j default).ask ∧ (o.choices.getD j default).ask ≤ 21) ∧ 0 ≤ (o.choices.getD j default).by_ ∧ (o.choices.getD j default).by_ < 5)
 (.loop (default : Sum (Bool) (Unit)) (fun i2 => (∀ j : Nat, j < i2 → ((j : Int) ≤ (o.choices.getD j default).ask ∧ (o.choices.getD j default).ask ≤ 21) ∧ 0 ≤ (o.choices.getD j default).by_ ∧ (o.choices.getD j default).by_ < 5) ∧ i2 ≤ o.choices.length) (fun i2 => o.choices.length - i2) (0 : Nat)
 (fun (i2 : Nat) => ⟨[(3, iv ((i2 : Nat) : Int))], []⟩) fun i2 =>
 .lt 1 2 i2 o.choices.length
 (.r 4 (.andl (.p (ixP ((i2 : Nat) : Int) o.choices.length)) (.dep ((allongeref09_Within_k ((o.choices.getD i2 default).ask) 0 21).c) fun x3 => .andl (.wh (!x3) false (.p (ixP ((i2 : Nat) : Int) o.choices.length))) (.wh (!x3) false ((allongeref09_Within_k ((o.choices.getD i2 default).by_) 0 4).c)))) fun p5 =>
 .br ((!p5.1) || (!p5.2))
 (.fin (.inl (.inl false)))
 (.r 6 (.andl (.wh (decide (((i2 : Nat) : Int) > 0)) true (.p (ixP (w64 (((i2 : Nat) : Int) - 1)) o.choices.length))) (.wh (decide (((i2 : Nat) : Int) > 0)) true (.p (ixP ((i2 : Nat) : Int) o.choices.length)))) fun _ =>
 .br ((decide (((i2 : Nat) : Int) > 0)) && (decide (((o.choices.getD ((w64 (((i2 : Nat) : Int) - 1)).toNat) default).ask) ≥ ((o.choices.getD i2 default).ask))))
 (.fin (.inl (.inl false)))
 (.nx 3 3 i2 (i2 + 1))))
 (.fin (.inl (.inr ()))))
 (fun (_ : Unit) => ⟨[], []⟩) fun _ =>
 .bind true (fun b6 => ∀ j : Nat, j < o.rules.length → (j : Int) ≤ (o.rules.getD j default).ask ∧ (o.rules.getD j default).ask ≤ 21)
 (.loop (default : Sum (Bool) (Unit)) (fun i7 => (∀ j : Nat, j < i7 → (j : Int) ≤ (o.rules.getD j default).ask ∧ (o.rules.getD j default).ask ≤ 21) ∧ i7 ≤ o.rules.length) (fun i7 => o.rules.length - i7) (0 : Nat)
 (fun (i7 : Nat) => ⟨[(4, iv ((i7 : Nat) : Int))], []⟩) fun i7 =>
 .lt 1 3 i7 o.rules.length
 (.r 11 (.andl (.p (ixP ((i7 : Nat) : Int) o.rules.length)) ((allongeref09_Within_k ((o.rules.getD i7 default).ask) 0 21).c)) fun x8 =>
 .br (!x8)
 (.fin (.inl (.inl false)))
 (.r 13 (.andl (.wh (decide (((i7 : Nat) : Int) > 0)) true (.p (ixP (w64 (((i7 : Nat) : Int) - 1)) o.rules.length))) (.wh (decide (((i7 : Nat) : Int) > 0)) true (.p (ixP ((i7 : Nat) : Int) o.rules.length)))) fun _ =>
 .br ((decide (((i7 : Nat) : Int) > 0)) && (decide (((o.rules.getD ((w64 (((i7 : Nat) : Int) - 1)).toNat) default).ask) ≥ ((o.rules.getD i7 default).ask))))
 (.fin (.inl (.inl false)))
 (.nx 10 4 i7 (i7 + 1))))
 (.fin (.inl (.inr ()))))
 (fun (_ : Unit) => ⟨[], []⟩) fun _ =>
 .fin true
noncomputable def allongeref09_RightOrder o := (allongeref09_RightOrder_sk o).val
theorem allongeref09_RightOrder_pst (o : Order) : (allongeref09_RightOrder_sk o).pst (fun (x : Bool) => x = true → (∀ j, j < o.choices.length → 0 ≤ (o.choices.getD j default).by_ ∧ (o.choices.getD j default).by_ < 5) ∧ o.choices.length ≤ 22 ∧ o.rules.length ≤ 22) := by
  refine Sk.pst_of _ ?_
  unfold allongeref09_RightOrder_sk
  simp only [Sk.pstq, Sk.isLoop, reduceCtorEq, ON, kk, kp, allongeref09_Within_k, allongeref09_Within_eq, forall_eq, maxLen]
  refine ⟨⟨⟨fun j hj => absurd hj (by omega), Nat.zero_le _⟩, fun i hi => ⟨fun hc h1 _ h2 _ => ?_, fun hc j hj => ?_⟩⟩, fun _ hJ => ⟨⟨⟨fun j hj => absurd hj (by omega), Nat.zero_le _⟩, fun i hi => ⟨fun hc h1 _ h2 _ => ?_, fun hc j hj => ?_⟩⟩, fun _ hJ2 => ⟨fun j hj => (hJ j hj).2, ?_, ?_⟩⟩⟩
  rotate_right
  rotate_right
  · rcases Nat.lt_or_ge 22 o.choices.length with h | h
    · have := (hJ 22 h).1; omega
    · exact h
  · rcases Nat.lt_or_ge 22 o.rules.length with h | h
    · have := hJ2 22 h; omega
    · exact h
  all_goals simp only [LN] at hc
  · simp only [LN] at h1 h2
    refine ⟨⟨fun j hj => ?_, by omega⟩, by omega⟩
    by_cases e : j = i
    · subst e
      refine ⟨⟨?_, by omega⟩, by omega, by omega⟩
      by_cases e0 : j = 0
      · subst e0; omega
      · have h3 := hi.1 (j - 1) (by omega)
        have h4 := h2.resolve_left (by omega)
        rw [w64_id (by omega) (by omega), show ((j : Int) - 1).toNat = j - 1 by omega] at h4
        omega
    · exact hi.1 j (by omega)
  · exact hi.1 j (by omega)
  · simp only [LN] at h1 h2
    refine ⟨⟨fun j hj => ?_, by omega⟩, by omega⟩
    by_cases e : j = i
    · subst e
      refine ⟨?_, by omega⟩
      by_cases e0 : j = 0
      · subst e0; omega
      · have h3 := hi.1 (j - 1) (by omega)
        have h4 := h2.resolve_left (by omega)
        rw [w64_id (by omega) (by omega), show ((j : Int) - 1).toNat = j - 1 by omega] at h4
        omega
    · exact hi.1 j (by omega)
  · exact hi.1 j (by omega)

theorem allongeref09_RightOrder_ok (o : Order) : (allongeref09_RightOrder_sk o).obs (fun _ => True) := by
  refine Sk.obs_of _ ?_
  unfold allongeref09_RightOrder_sk
  simp only [Sk.obq, Sk.isLoop, reduceCtorEq, ON, kk, kp, allongeref09_Within_k, allongeref09_Within_eq, forall_eq, maxLen]
  refine ⟨⟨⟨fun j hj => absurd hj (by omega), Nat.zero_le _⟩, fun i hi hm => ⟨fun hc => ⟨⟨?_, fun _ => ?_⟩, fun h1 => ⟨⟨fun h3 => ?_, fun _ => ?_⟩, fun _ h2 _ => ⟨?_, ?_⟩⟩⟩, fun hc j hj => ?_⟩⟩, fun _ hJ => ⟨⟨fun j hj => absurd hj (by omega), Nat.zero_le _⟩, fun i hi hm => ⟨fun hc => ⟨?_, fun h1 => ⟨⟨fun h3 => ?_, fun _ => ?_⟩, fun _ h2 _ => ⟨?_, ?_⟩⟩⟩, fun hc j hj => ?_⟩⟩⟩
  all_goals simp only [LN] at hc
  · exact ⟨by omega, by omega⟩
  · exact ⟨by omega, by omega⟩
  · simp only [LN] at h3
    rw [w64_id (by omega) (by omega)]
    exact ⟨by omega, by omega⟩
  · exact ⟨by omega, by omega⟩
  · exact (w64_id (by omega) (by omega)).trans (by omega)
  · simp only [LN] at h1 h2
    refine ⟨⟨fun j hj => ?_, by omega⟩, by omega⟩
    by_cases e : j = i
    · subst e
      refine ⟨⟨?_, by omega⟩, by omega, by omega⟩
      by_cases e0 : j = 0
      · subst e0; omega
      · have h3 := hi.1 (j - 1) (by omega)
        have h4 := h2.resolve_left (by omega)
        rw [w64_id (by omega) (by omega), show ((j : Int) - 1).toNat = j - 1 by omega] at h4
        omega
    · exact hi.1 j (by omega)
  · exact hi.1 j (by omega)
  · exact ⟨by omega, by omega⟩
  · simp only [LN] at h3
    rw [w64_id (by omega) (by omega)]
    exact ⟨by omega, by omega⟩
  · exact ⟨by omega, by omega⟩
  · exact (w64_id (by omega) (by omega)).trans (by omega)
  · simp only [LN] at h1 h2
    refine ⟨⟨fun j hj => ?_, by omega⟩, by omega⟩
    by_cases e : j = i
    · subst e
      refine ⟨?_, by omega⟩
      by_cases e0 : j = 0
      · subst e0; omega
      · have h3 := hi.1 (j - 1) (by omega)
        have h4 := h2.resolve_left (by omega)
        rw [w64_id (by omega) (by omega), show ((j : Int) - 1).toNat = j - 1 by omega] at h4
        omega
    · exact hi.1 j (by omega)
  · exact hi.1 j (by omega)

noncomputable def allongeref09_RightOrder_k o := kp tok mixed Tryz.func96 [av o.cells] (fun x => bv x) true (allongeref09_RightOrder o) (u0 (allongeref09_RightOrder_ok o)) (allongeref09_RightOrder_pst o)
noncomputable def allongeref09_orders_sk (r : Realm) : Sk (Int) :=
 .br (decide (((r.orders.length : Nat) : Int) > 20))
 (.fin 6)
 (.bind true (fun b1 => r.ByOK ∧ (∀ i, i < r.orders.length → (r.orders.getD i default).choices.length ≤ 22 ∧ (r.orders.getD i default).rules.length ≤ 22))
 (.loop (default : Sum (Int) (Unit)) (fun i2 => i2.1.length = i2.2 ∧ i2.2 ≤ r.orders.length ∧ (∀ i j, i < i2.2 → j < (r.orders.getD i default).choices.length → 0 ≤ ((r.orders.getD i default).choices.getD j default).by_ ∧ ((r.orders.getD i default).choices.getD j default).by_ < 5) ∧ (∀ i, i < i2.2 → (r.orders.getD i default).choices.length ≤ 22 ∧ (r.orders.getD i default).rules.length ≤ 22)) (fun i2 => r.orders.length - i2.2) (([], 0) : (List ByteArray) × Nat)
 (fun (i2 : (List ByteArray) × Nat) => ⟨[(3, ow 100001 i2.1), (4, iv ((i2.2 : Nat) : Int))], [(100001, rowB 9 1 strC i2.1)]⟩) fun i2 =>
 .lt 1 4 i2.2 r.orders.length
 (.r 7 (.andl (.p (ixP ((i2.2 : Nat) : Int) r.orders.length)) (.andl (.o [.nrm (litC strE [(r.orders.getD i2.2 default).name])]) (.andl (.o [.nrm (catC strE i2.1 [(r.orders.getD i2.2 default).name])]) (.andl (.t (strE.ones [(r.orders.getD i2.2 default).name])) (.p (szP i2.1.length [(r.orders.getD i2.2 default).name].length 16)))))) fun _ =>
 .r 8 ((allongeref09_named_k (i2.1 ++ [(r.orders.getD i2.2 default).name]) ((i2.2 : Nat) : Int)).c) fun x3 =>
 .br (x3 != 0)
 (.fin (.inl (.inl x3)))
 (.r 11 (.andl (.p (ixP ((i2.2 : Nat) : Int) r.orders.length)) ((allongeref09_RightOrder_k (r.orders.getD i2.2 default)).c)) fun x4 =>
 .br (!x4)
 (.fin (.inl (.inl 1)))
 (.nx 6 4 i2.2 (i2.1 ++ [(r.orders.getD i2.2 default).name], i2.2 + 1))))
 (.fin (.inl (.inr ()))))
 (fun (_ : Unit) => ⟨[], []⟩) fun _ =>
 .fin 0)
noncomputable def allongeref09_orders r := (allongeref09_orders_sk r).val
theorem allongeref09_orders_pst (r : Realm) : (allongeref09_orders_sk r).pst (fun (x : Int) => x = 0 → r.ByOK ∧ r.orders.length ≤ 20 ∧ (∀ i, i < r.orders.length → (r.orders.getD i default).choices.length ≤ 22 ∧ (r.orders.getD i default).rules.length ≤ 22)) := by
  unfold allongeref09_orders_sk
  try simp only [allongeref09_RightOrder_k, allongeref09_named_k, Realm.ByOK]
  exact okP

theorem allongeref09_orders_ok (r : Realm) : (allongeref09_orders_sk r).obs (fun _ => True) := by
  unfold allongeref09_orders_sk
  try simp only [allongeref09_RightOrder_k, allongeref09_named_k, Realm.ByOK]
  exact okD

noncomputable def allongeref09_orders_k r := kp tok mixed Tryz.func60 [av r.cells] (fun x => iv x) true (allongeref09_orders r) (u0 (allongeref09_orders_ok r)) (allongeref09_orders_pst r)
noncomputable def allongeref09_usances_sk (r : Realm) : Sk (Int) :=
 .br (decide (((r.usances.length : Nat) : Int) > 100))
 (.fin 6)
 (.bt
 (.loop (default : Sum (Int) (Unit)) (fun i2 => i2 ≤ r.usances.length) (fun i2 => r.usances.length - i2) (0 : Nat)
 (fun (i2 : Nat) => ⟨[(3, iv ((i2 : Nat) : Int))], []⟩) fun i2 =>
 .lt 1 5 i2 r.usances.length
 (.bt
 (.r 6 (.p (ixP ((i2 : Nat) : Int) r.usances.length)) fun _ =>
 .r 7 (.dep ((allongeref09_Within_k ((r.usances.getD i2 default).from_) 0 (w64 (((r.cities.length : Nat) : Int) - 1))).c) fun x4 => .dep (.wh (!x4) false ((allongeref09_Within_k ((r.usances.getD i2 default).to_) 0 (w64 (((r.cities.length : Nat) : Int) - 1))).c)) fun x5 => .wh ((!x4) || (!x5)) false ((allongeref09_Within_k ((r.usances.getD i2 default).days) 1 20000).c)) fun p9 =>
 .br (((!p9.1) || (!p9.2.1)) || (!p9.2.2))
 (.fin (.inl (.inl (.inl 1))))
 (.bt
 (.loop (default : Sum (Sum (Sum (Sum (Int) (Unit)) (Nat)) (Int × (List Usance) × Int × Usance × Int × (List City) × Int × Int × Bool × Bool × Bool × Bool × Bool × Bool × Int × Int × Bool)) (Int × Int × Int × Bool)) (fun i8 => i8 ≤ i2) (fun i8 => i2 - i8) (0 : Nat)
 (fun (i8 : Nat) => ⟨[(5, iv ((i8 : Nat) : Int))], []⟩) fun i8 =>
 .br (decide (((i8 : Nat) : Int) < ((i2 : Nat) : Int)))
 (.r 12 (.andl (.p (ixP ((i8 : Nat) : Int) r.usances.length)) (.wh (((r.usances.getD i8 default).from_) == ((r.usances.getD i2 default).from_)) true (.p (ixP ((i8 : Nat) : Int) r.usances.length)))) fun _ =>
 .br ((((r.usances.getD i8 default).from_) == ((r.usances.getD i2 default).from_)) && (((r.usances.getD i8 default).to_) == ((r.usances.getD i2 default).to_)))
 (.fin (.inl (.inl (.inl (.inl (.inl 5))))))
 (.nx 11 5 i8 (i8 + 1)))
 (.fin (.inl (.inr (((i8 : Nat) : Int), ((i8 : Nat) : Int), ((i2 : Nat) : Int), decide (((i8 : Nat) : Int) < ((i2 : Nat) : Int)))))))
 (fun (b7 : Int × Int × Int × Bool) => ⟨[(5, iv b7.1), (46, iv b7.2.1), (47, iv b7.2.2.1), (48, bv b7.2.2.2)], []⟩) fun b7 =>
 .fin (.inr (b7.1, r.usances, ((i2 : Nat) : Int), r.usances.getD i2 default, (r.usances.getD i2 default).from_, r.cities, ((r.cities.length : Nat) : Int), w64 (((r.cities.length : Nat) : Int) - 1), p9.1, !p9.1, !p9.1, (!p9.1) || (!p9.2.1), (!p9.1) || (!p9.2.1), ((!p9.1) || (!p9.2.1)) || (!p9.2.2), b7.2.1, b7.2.2.1, b7.2.2.2))))
 (fun (b3 : Int × (List Usance) × Int × Usance × Int × (List City) × Int × Int × Bool × Bool × Bool × Bool × Bool × Bool × Int × Int × Bool) => ⟨[(5, iv b3.1), (18, lv Usance.cells b3.2.1), (19, iv b3.2.2.1), (21, av b3.2.2.2.1.cells), (23, iv b3.2.2.2.2.1), (25, lv City.cells b3.2.2.2.2.2.1), (26, iv b3.2.2.2.2.2.2.1), (27, iv b3.2.2.2.2.2.2.2.1), (28, bv b3.2.2.2.2.2.2.2.2.1), (29, bv b3.2.2.2.2.2.2.2.2.2.1), (30, bv b3.2.2.2.2.2.2.2.2.2.2.1), (39, bv b3.2.2.2.2.2.2.2.2.2.2.2.1), (40, bv b3.2.2.2.2.2.2.2.2.2.2.2.2.1), (45, bv b3.2.2.2.2.2.2.2.2.2.2.2.2.2.1), (46, iv b3.2.2.2.2.2.2.2.2.2.2.2.2.2.2.1), (47, iv b3.2.2.2.2.2.2.2.2.2.2.2.2.2.2.2.1), (48, bv b3.2.2.2.2.2.2.2.2.2.2.2.2.2.2.2.2)], []⟩) fun _ =>
 .nx 5 3 i2 (i2 + 1))
 (.fin (.inl (.inr ()))))
 (fun (_ : Unit) => ⟨[], []⟩) fun _ =>
 .fin 0)
noncomputable def allongeref09_usances r := (allongeref09_usances_sk r).val
theorem allongeref09_usances_pst (r : Realm) : (allongeref09_usances_sk r).pst (fun (x : Int) => x = 0 → r.usances.length ≤ 100) := by
  unfold allongeref09_usances_sk
  try simp only [allongeref09_Within_k, allongeref09_Within_eq]
  exact okQ

theorem allongeref09_usances_ok (r : Realm) : (allongeref09_usances_sk r).obs (fun _ => True) := by
  unfold allongeref09_usances_sk
  try simp only [allongeref09_Within_k, allongeref09_Within_eq]
  exact okG

noncomputable def allongeref09_usances_k r := kp tok mixed Tryz.func61 [av r.cells] (fun x => iv x) true (allongeref09_usances r) (u0 (allongeref09_usances_ok r)) (allongeref09_usances_pst r)
noncomputable def allongeref09_others_sk (r : Realm) : Sk (Int) :=
 .br (decide (((r.rates.length : Nat) : Int) > 100))
 (.fin 6)
 (.bind true (fun b1 => r.RateOK)
 (.loop (default : Sum (Int) (Unit)) (fun i2 => i2 ≤ r.rates.length ∧ (∀ i, i < i2 → (1 ≤ (r.rates.getD i default).num ∧ (r.rates.getD i default).num ≤ 1073741824) ∧ 1 ≤ (r.rates.getD i default).den ∧ (r.rates.getD i default).den ≤ 1073741824)) (fun i2 => r.rates.length - i2) (0 : Nat)
 (fun (i2 : Nat) => ⟨[(3, iv ((i2 : Nat) : Int))], []⟩) fun i2 =>
 .lt 1 6 i2 r.rates.length
 (.r 6 (.p (ixP ((i2 : Nat) : Int) r.rates.length)) fun _ =>
 .r 7 (.dep ((allongeref09_Within_k ((r.rates.getD i2 default).from_) 0 (w64 (((r.currencies.length : Nat) : Int) - 1))).c) fun x3 => .wh (!x3) false ((allongeref09_Within_k ((r.rates.getD i2 default).to_) 0 (w64 (((r.currencies.length : Nat) : Int) - 1))).c)) fun p9 =>
 .br (((!p9.1) || (!p9.2)) || (((r.rates.getD i2 default).from_) == ((r.rates.getD i2 default).to_)))
 (.fin (.inl (.inl 1)))
 (.r 9 (.dep ((allongeref09_Within_k ((r.rates.getD i2 default).num) 1 1073741824).c) fun x5 => .dep (.wh (!x5) false ((allongeref09_Within_k ((r.rates.getD i2 default).den) 1 1073741824).c)) fun x6 => .wh ((!x5) || (!x6)) false ((allongeref09_Within_k ((r.rates.getD i2 default).since) 0 100000).c)) fun p8 =>
 .br (((!p8.1) || (!p8.2.1)) || (!p8.2.2))
 (.fin (.inl (.inl 1)))
 (.nx 5 3 i2 (i2 + 1))))
 (.fin (.inl (.inr ()))))
 (fun (_ : Unit) => ⟨[], []⟩) fun _ =>
 .br (decide (((r.halts.length : Nat) : Int) > 20))
 (.fin 6)
 (.bind true (fun b10 => r.HaltOK)
 (.loop (default : Sum (Int) (Unit)) (fun i11 => i11 ≤ r.halts.length ∧ (∀ i, i < i11 → (r.halts.getD i default).to_ ≤ 100000)) (fun i11 => r.halts.length - i11) (0 : Nat)
 (fun (i11 : Nat) => ⟨[(5, iv ((i11 : Nat) : Int))], []⟩) fun i11 =>
 .lt 1 7 i11 r.halts.length
 (.r 16 (.p (ixP ((i11 : Nat) : Int) r.halts.length)) fun _ =>
 .r 17 (.dep ((allongeref09_Within_k ((r.halts.getD i11 default).order) 0 (w64 (((r.orders.length : Nat) : Int) - 1))).c) fun x12 => .wh (!x12) false ((allongeref09_Within_k ((r.halts.getD i11 default).from_) 0 ((r.halts.getD i11 default).to_)).c)) fun p14 =>
 .br (((!p14.1) || (!p14.2)) || (decide (((r.halts.getD i11 default).to_) > 100000)))
 (.fin (.inl (.inl 1)))
 (.nx 15 5 i11 (i11 + 1)))
 (.fin (.inl (.inr ()))))
 (fun (_ : Unit) => ⟨[], []⟩) fun _ =>
 .fin 0))
noncomputable def allongeref09_others r := (allongeref09_others_sk r).val
theorem allongeref09_others_pst (r : Realm) : (allongeref09_others_sk r).pst (fun (x : Int) => x = 0 → r.rates.length ≤ 100 ∧ r.halts.length ≤ 20 ∧ r.RateOK ∧ r.HaltOK) := by
  unfold allongeref09_others_sk
  try simp only [allongeref09_Within_k, allongeref09_Within_eq, Realm.HaltOK, Realm.RateOK]
  exact okQ

theorem allongeref09_others_ok (r : Realm) : (allongeref09_others_sk r).obs (fun _ => True) := by
  unfold allongeref09_others_sk
  try simp only [allongeref09_Within_k, allongeref09_Within_eq, Realm.HaltOK, Realm.RateOK]
  exact okG

noncomputable def allongeref09_others_k r := kp tok mixed Tryz.func62 [av r.cells] (fun x => iv x) true (allongeref09_others r) (u0 (allongeref09_others_ok r)) (allongeref09_others_pst r)
noncomputable def allongeref09_Check_sk (r : Realm) : Sk (Int) :=
 .r 1 ((allongeref09_cities_k r).c) fun x1 =>
 .bind false (fun b2 => b2 = 0 → r.currencies.length ≤ 8 ∧ r.cities.length ≤ 40 ∧ r.groups.length ≤ 20 ∧ r.firms.length ≤ 200 ∧ r.FirmOK)
 (.br (x1 == 0)
 (.r 3 ((allongeref09_firms_k r).c) fun x3 =>
 .fin (.inr x3))
 (.fin (.inr x1)))
 (fun (b2 : Int) => ⟨[(3, iv b2)], []⟩) fun b2 =>
 .bind false (fun b4 => b4 = 0 → r.currencies.length ≤ 8 ∧ r.cities.length ≤ 40 ∧ r.groups.length ≤ 20 ∧ r.firms.length ≤ 200 ∧ r.FirmOK ∧ r.ByOK ∧ r.orders.length ≤ 20 ∧ (∀ i, i < r.orders.length → (r.orders.getD i default).choices.length ≤ 22 ∧ (r.orders.getD i default).rules.length ≤ 22))
 (.br (b2 == 0)
 (.r 5 ((allongeref09_orders_k r).c) fun x5 =>
 .fin (.inr x5))
 (.fin (.inr b2)))
 (fun (b4 : Int) => ⟨[(3, iv b4)], []⟩) fun b4 =>
 .bind false (fun b6 => b6 = 0 → r.currencies.length ≤ 8 ∧ r.cities.length ≤ 40 ∧ r.groups.length ≤ 20 ∧ r.firms.length ≤ 200 ∧ r.FirmOK ∧ r.ByOK ∧ r.orders.length ≤ 20 ∧ (∀ i, i < r.orders.length → (r.orders.getD i default).choices.length ≤ 22 ∧ (r.orders.getD i default).rules.length ≤ 22) ∧ r.usances.length ≤ 100)
 (.br (b4 == 0)
 (.r 7 ((allongeref09_usances_k r).c) fun x7 =>
 .fin (.inr x7))
 (.fin (.inr b4)))
 (fun (b6 : Int) => ⟨[(3, iv b6)], []⟩) fun b6 =>
 .br (b6 == 0)
 (.r 9 ((allongeref09_others_k r).c) fun x8 =>
 .fin x8)
 (.fin b6)
noncomputable def allongeref09_Check r := (allongeref09_Check_sk r).val
theorem allongeref09_Check_pst (r : Realm) : (allongeref09_Check_sk r).pst (fun (x : Int) => x = 0 → r.currencies.length ≤ 8 ∧ r.cities.length ≤ 40 ∧ r.groups.length ≤ 20 ∧ r.firms.length ≤ 200 ∧ r.FirmOK ∧ r.ByOK ∧ r.orders.length ≤ 20 ∧ (∀ i, i < r.orders.length → (r.orders.getD i default).choices.length ≤ 22 ∧ (r.orders.getD i default).rules.length ≤ 22) ∧ r.usances.length ≤ 100 ∧ r.rates.length ≤ 100 ∧ r.halts.length ≤ 20 ∧ r.RateOK ∧ r.HaltOK) := by
  refine Sk.pst_of _ ?_
  unfold allongeref09_Check_sk
  simp only [Sk.pstq, Sk.isLoop, reduceCtorEq, ON, kk, kp, allongeref09_cities_k, allongeref09_firms_k, allongeref09_orders_k, allongeref09_others_k, allongeref09_usances_k, maxLen]
  intro x _ hx
  refine ⟨⟨fun h y _ hy h0 => ?_, fun h h0 => ?_⟩, fun b _ hb => ⟨⟨fun h y _ hy h0 => ?_, fun h h0 => ?_⟩, fun b2 _ hb2 => ⟨⟨fun h y _ hy h0 => ?_, fun h h0 => ?_⟩, fun b3 _ hb3 => ⟨fun h y _ hy h0 => ?_, fun h h0 => ?_⟩⟩⟩⟩
  · have hx := hx (by simpa using h); have hy := hy hx.2 h0; exact ⟨hx.1, hx.2, hy⟩
  · rw [h0] at h; exact absurd h (by decide)
  · have hb := hb (by simpa using h); exact ⟨hb.1, hb.2.1, hb.2.2.1, hb.2.2.2.1, hb.2.2.2.2, hy h0⟩
  · rw [h0] at h; exact absurd h (by decide)
  · have hb := hb2 (by simpa using h); exact ⟨hb.1, hb.2.1, hb.2.2.1, hb.2.2.2.1, hb.2.2.2.2.1, hb.2.2.2.2.2.1, hb.2.2.2.2.2.2.1, hb.2.2.2.2.2.2.2, hy h0⟩
  · rw [h0] at h; exact absurd h (by decide)
  · have hb := hb3 (by simpa using h); exact ⟨hb.1, hb.2.1, hb.2.2.1, hb.2.2.2.1, hb.2.2.2.2.1, hb.2.2.2.2.2.1, hb.2.2.2.2.2.2.1, hb.2.2.2.2.2.2.2.1, hb.2.2.2.2.2.2.2.2, hy h0⟩
  · rw [h0] at h; exact absurd h (by decide)

theorem allongeref09_Check_ok (r : Realm) : (allongeref09_Check_sk r).obs (fun _ => True) := by
  refine Sk.obs_of _ ?_
  unfold allongeref09_Check_sk
  simp only [Sk.obq, Sk.isLoop, reduceCtorEq, ON, kk, kp, allongeref09_cities_k, allongeref09_firms_k, allongeref09_orders_k, allongeref09_others_k, allongeref09_usances_k, maxLen]
  intro x _ hx
  refine ⟨⟨fun h y _ hy h0 => ?_, fun h h0 => ?_⟩, fun b _ hb => ⟨⟨fun h y _ hy h0 => ?_, fun h h0 => ?_⟩, fun b2 _ hb2 => ⟨fun h y _ hy h0 => ?_, fun h h0 => ?_⟩⟩⟩
  · have hx := hx (by simpa using h); have hy := hy hx.2 h0; exact ⟨hx.1, hx.2, hy⟩
  · rw [h0] at h; exact absurd h (by decide)
  · have hb := hb (by simpa using h); exact ⟨hb.1, hb.2.1, hb.2.2.1, hb.2.2.2.1, hb.2.2.2.2, hy h0⟩
  · rw [h0] at h; exact absurd h (by decide)
  · have hb := hb2 (by simpa using h); exact ⟨hb.1, hb.2.1, hb.2.2.1, hb.2.2.2.1, hb.2.2.2.2.1, hb.2.2.2.2.2.1, hb.2.2.2.2.2.2.1, hb.2.2.2.2.2.2.2, hy h0⟩
  · rw [h0] at h; exact absurd h (by decide)

noncomputable def allongeref09_Check_k r := kp tok mixed Tryz.func21 [av r.cells] (fun x => iv x) true (allongeref09_Check r) (u0 (allongeref09_Check_ok r)) (allongeref09_Check_pst r)
structure Key where
  kind : Int
  index : Int
  at_ : Int
  fact : Int
  deriving Inhabited
def Key.cells (c : Key) : List D := [dI c.kind, dI c.index, dI c.at_, dI c.fact]
def Key.K : KE Key := ⟨Key.cells, 4, fun _ => ⟨rfl, rfl⟩⟩
structure Maker where
  r : Realm
  all : List (Key × Body)
  file : File
  used : List Body
  deriving Inhabited
noncomputable def report_about_sk (b : Body) : Sk (Key) :=
 .br (b.kind == 4)
 (.fin ({ kind := b.kind, index := 0, at_ := b.fact.at_, fact := b.fact.kind } : Key))
 (.fin ({ kind := b.kind, index := b.index, at_ := 0, fact := 0 } : Key))
noncomputable def report_about b := (report_about_sk b).val
theorem report_about_ok (b : Body) : (report_about_sk b).obs (fun _ => True) := by
  unfold report_about_sk
  exact okE

noncomputable def report_about_k b := kk tok mixed Tryz.func126 [av b.cells] (fun x => av x.cells) true (report_about_sk b) (report_about b) (u0 (report_about_ok b))
def Body.Z : Body := ({ kind := 0, bill := 0, index := 0, paper := ({ drawer := 0, drawee := 0, payee := 0, sum := 0, currency := 0, tenor := ({ kind := 0, n := 0, unit := 0 } : Tenor), day := 0, city := 0, pay := 0, need := 0, rate := 0, flags := 0, parts := 0 } : Bill), sign := ({ kind := 0, part := 0, who := 0, for_ := 0, to_ := 0, sum := 0, day := 0, city := 0, flags := 0 } : Sign), act := ({ kind := 0, who := 0, to_ := 0, part := 0, at_ := 0, sum := 0, day := 0, city := 0, form := 0 } : ActX), alter := ({ at_ := 0, sum := 0 } : Alter), fact := ({ kind := 0, at_ := 0, n := 0 } : Fact) } : Body)
/-! which reports are agreed, as a set -/
theorem Report.cells_inj {a b : Report} (h : a.cells = b.cells) : a = b := by
  obtain ⟨r, n, d, bo⟩ := a
  obtain ⟨r', n', d', bo'⟩ := b
  have e : ([dI r, dI n, dI d] ++ bo.cells : List D) = [dI r', dI n', dI d'] ++ bo'.cells := h
  simp only [List.cons_append, List.nil_append, List.cons.injEq, dI, D.v.injEq, Value.int.injEq, true_and] at e
  obtain ⟨rfl, rfl, rfl, hb⟩ := e
  rw [Body.cells_inj hb]
theorem eqRp {a b : Report} : eqCs (Report.K.C a) (Report.K.C b) = true ↔ a = b :=
  ⟨fun h => Report.cells_inj (eqCs_eq rfl rfl h), fun h => by subst h; exact eqCs_rfl rfl⟩
theorem kupd_keys {κ α : Type} (K : KE κ) (hK : ∀ a b : κ, eqCs (K.C a) (K.C b) = true ↔ a = b) (k : κ) (v : α) : ∀ (m : List (κ × α)), (m.map Prod.fst).Nodup → ((kupd K m k v).map Prod.fst).Nodup ∧ ∀ q, q ∈ (kupd K m k v).map Prod.fst ↔ q = k ∨ q ∈ m.map Prod.fst
  | [], _ => by simp [kupd]
  | p :: r, h => by
    simp only [List.map_cons, List.nodup_cons] at h
    obtain ⟨i1, i2⟩ := kupd_keys K hK k v r h.2
    simp only [kupd]
    cases hk : eqCs (K.C k) (K.C p.1) with
    | true =>
      have e := (hK _ _).1 hk
      simp only [cond_true, List.map_cons, List.nodup_cons, List.mem_cons]
      exact ⟨h, fun q => by rw [e]; constructor <;> intro hq <;> rcases hq with hq | hq <;> simp_all⟩
    | false =>
      have e : p.1 ≠ k := fun e => by rw [(hK k p.1).2 e.symm] at hk; cases hk
      simp only [cond_false, List.map_cons, List.nodup_cons, List.mem_cons]
      refine ⟨⟨fun hq => ?_, i1⟩, fun q => ?_⟩
      · rcases (i2 _).1 hq with hq | hq
        · exact e hq
        · exact h.1 hq
      · rw [i2 q]
        constructor
        · rintro (h | h | h)
          · exact .inr (.inl h)
          · exact .inl h
          · exact .inr (.inr h)
        · rintro (h | h | h)
          · exact .inr (.inl h)
          · exact .inl h
          · exact .inr (.inr h)
theorem kfind_mem {κ α : Type} (K : KE κ) (hK : ∀ a b : κ, eqCs (K.C a) (K.C b) = true ↔ a = b) : ∀ (m : List (κ × α)), (m.map Prod.fst).Nodup → ∀ e, e ∈ m → kfind K m e.1 = some e.2
  | [], _, e, he => by cases he
  | p :: r, h, e, he => by
    simp only [List.map_cons, List.nodup_cons] at h
    simp only [kfind]
    rcases List.mem_cons.1 he with rfl | he
    · rw [(hK _ _).2 rfl]; rfl
    · have : eqCs (K.C e.1) (K.C p.1) = false := by
        cases q : eqCs (K.C e.1) (K.C p.1) with
        | false => rfl
        | true => exact absurd (List.mem_map.2 ⟨e, he, (hK _ _).1 q⟩) h.1
      rw [this]
      exact kfind_mem K hK r h.2 e he
theorem kfind_some {κ α : Type} (K : KE κ) (hK : ∀ a b : κ, eqCs (K.C a) (K.C b) = true ↔ a = b) : ∀ (m : List (κ × α)) (k : κ) (v : α), kfind K m k = some v → (k, v) ∈ m
  | [], _, _, h => by cases h
  | p :: r, k, v, h => by
    simp only [kfind] at h
    cases q : eqCs (K.C k) (K.C p.1) with
    | true =>
      rw [q] at h
      simp only [cond_true, Option.some.injEq] at h
      have e := (hK _ _).1 q
      obtain ⟨p1, p2⟩ := p
      simp only at e h
      subst e; subst h
      exact List.mem_cons_self
    | false =>
      rw [q] at h
      exact List.mem_cons_of_mem _ (kfind_some K hK r k v h)
/-- the registries 0, 1, 2 as bits -/
def bit3 (p q r : Bool) : Int := (bif p then 1 else 0) + (bif q then 2 else 0) + (bif r then 4 else 0)
theorem bit3_0 : ∀ p q r : Bool, orK .i64 (bit3 p q r) (shlK .i64 1 0) = bit3 true q r := by decide
theorem bit3_1 : ∀ p q r : Bool, orK .i64 (bit3 p q r) (shlK .i64 1 1) = bit3 p true r := by decide
theorem bit3_2 : ∀ p q r : Bool, orK .i64 (bit3 p q r) (shlK .i64 1 2) = bit3 p q true := by decide
theorem bit3_ag : ∀ p q r : Bool, agBit (bit3 p q r) = ((p && q) || (p && r) || (q && r)) := by decide
noncomputable def hasR (l : List Arrival) (day : Int) (x : Report) (i : Int) : Bool := l.any fun a => agC day a && (eqCs (Report.K.C x) (Report.K.C a.report) && a.registry == i)
theorem hasR_iff {l : List Arrival} {day : Int} {x : Report} {i : Int} : hasR l day x i = true ↔ ∃ a, a ∈ l ∧ agC day a = true ∧ a.report = x ∧ a.registry = i := by
  unfold hasR
  rw [List.any_eq_true]
  constructor
  · rintro ⟨a, h1, h2⟩
    simp only [Bool.and_eq_true, beq_iff_eq] at h2
    exact ⟨a, h1, h2.1, (eqRp.1 h2.2.1).symm, h2.2.2⟩
  · rintro ⟨a, h1, h2, h3, h4⟩
    refine ⟨a, h1, ?_⟩
    simp only [Bool.and_eq_true, beq_iff_eq]
    exact ⟨h2, eqRp.2 h3.symm, h4⟩
theorem agC_reg {day : Int} {a : Arrival} (h : agC day a = true) : a.registry = 0 ∨ a.registry = 1 ∨ a.registry = 2 := by
  unfold agC at h
  simp only [Bool.and_eq_true, decide_eq_true_eq] at h
  omega
def InvR (day : Int) (m : List (Report × Int)) (l : List Arrival) : Prop := (m.map Prod.fst).Nodup ∧ ∀ x, kfind Report.K m x = bif (hasR l day x 0 || hasR l day x 1 || hasR l day x 2) then some (bit3 (hasR l day x 0) (hasR l day x 1) (hasR l day x 2)) else none
theorem hasR_snoc (l : List Arrival) (day : Int) (x : Report) (i : Int) (a : Arrival) : hasR (l ++ [a]) day x i = (hasR l day x i || (agC day a && (eqCs (Report.K.C x) (Report.K.C a.report) && a.registry == i))) := by
  unfold hasR
  simp [List.any_append]
theorem InvR.step {day : Int} {m : List (Report × Int)} {l : List Arrival} (h : InvR day m l) (a : Arrival) : InvR day (agStep day m a) (l ++ [a]) := by
  unfold agStep
  cases hc : agC day a with
  | false =>
    refine ⟨h.1, fun x => ?_⟩
    simp only [hasR_snoc, hc, Bool.false_and, Bool.or_false, cond_false]
    exact h.2 x
  | true =>
    simp only [cond_true]
    refine ⟨(kupd_keys Report.K (fun _ _ => eqRp) _ _ m h.1).1, fun x => ?_⟩
    have hd : Decidable (x = a.report) := Classical.propDecidable _
    rw [kfind_kupd Report.K (fun _ _ => eqRp) _ _ _ hd]
    by_cases hx : x = a.report
    · subst hx
      rw [if_pos rfl]
      have hg : kget Report.K m a.report (0 : Int) = bit3 (hasR l day a.report 0) (hasR l day a.report 1) (hasR l day a.report 2) := by
        unfold kget
        rw [h.2]
        generalize hasR l day a.report 0 = p
        generalize hasR l day a.report 1 = q
        generalize hasR l day a.report 2 = r
        revert p q r
        decide
      rw [hg]
      simp only [hasR_snoc, hc, eqRp.2 rfl, Bool.true_and]
      rcases agC_reg hc with e | e | e
      · rw [e, bit3_0]; simp
      · rw [e, bit3_1]; simp
      · rw [e, bit3_2]; simp
    · have : eqCs (Report.K.C x) (Report.K.C a.report) = false := by
        cases q : eqCs (Report.K.C x) (Report.K.C a.report) with
        | false => rfl
        | true => exact absurd (eqRp.1 q) hx
      rw [if_neg hx]
      simp only [hasR_snoc, this, Bool.false_and, Bool.and_false, Bool.or_false]
      exact h.2 x
theorem agMap_inv (l : List Arrival) (day : Int) : InvR day (agMap l day) l := by
  have key : ∀ (l : List Arrival) (l0 : List Arrival) (m : List (Report × Int)), InvR day m l0 → InvR day (l.foldl (agStep day) m) (l0 ++ l) := by
    intro l
    induction l with
    | nil => intro l0 m h; simpa using h
    | cons a l ih =>
      intro l0 m h
      have := ih (l0 ++ [a]) _ (h.step a)
      simpa using this
  have := key l [] [] ⟨by simp, fun x => by simp [kfind, hasR]⟩
  simpa [agMap] using this
theorem agreedL_iff {l : List Arrival} {day : Int} {x : Report} : x ∈ agreedL l day ↔ ∃ a b, a ∈ l ∧ b ∈ l ∧ agC day a = true ∧ agC day b = true ∧ a.report = x ∧ b.report = x ∧ a.registry ≠ b.registry := by
  have hI := agMap_inv l day
  have h1 : x ∈ agreedL l day ↔ ((hasR l day x 0 && hasR l day x 1) || (hasR l day x 0 && hasR l day x 2) || (hasR l day x 1 && hasR l day x 2)) = true := by
    rw [← bit3_ag]
    unfold agreedL agAll
    constructor
    · intro h
      obtain ⟨e, he, rfl⟩ := List.mem_map.1 h
      obtain ⟨h1, h2⟩ := List.mem_filter.1 he
      have h3 := kfind_mem Report.K (fun _ _ => eqRp) _ hI.1 e h1
      rw [hI.2] at h3
      cases hb : (hasR l day e.1 0 || hasR l day e.1 1 || hasR l day e.1 2) with
      | false => rw [hb] at h3; cases h3
      | true =>
        rw [hb] at h3
        simp only [cond_true, Option.some.injEq] at h3
        rw [h3]
        exact h2
    · intro h
      have h2 := hI.2 x
      have hb : (hasR l day x 0 || hasR l day x 1 || hasR l day x 2) = true := by
        rw [bit3_ag] at h
        revert h
        generalize hasR l day x 0 = p
        generalize hasR l day x 1 = q
        generalize hasR l day x 2 = r
        revert p q r
        decide
      rw [hb] at h2
      exact List.mem_map.2 ⟨_, List.mem_filter.2 ⟨kfind_some Report.K (fun _ _ => eqRp) _ _ _ h2, h⟩, rfl⟩
  rw [h1]
  simp only [Bool.or_eq_true, Bool.and_eq_true, hasR_iff]
  constructor
  · rintro ((⟨⟨a, a1, a2, a3, a4⟩, b, b1, b2, b3, b4⟩ | ⟨⟨a, a1, a2, a3, a4⟩, b, b1, b2, b3, b4⟩) | ⟨⟨a, a1, a2, a3, a4⟩, b, b1, b2, b3, b4⟩) <;> exact ⟨a, b, a1, b1, a2, b2, a3, b3, by omega⟩
  · rintro ⟨a, b, a1, b1, a2, b2, a3, b3, hab⟩
    rcases agC_reg a2 with e | e | e <;> rcases agC_reg b2 with f | f | f
    · omega
    · exact .inl (.inl ⟨⟨a, a1, a2, a3, e⟩, b, b1, b2, b3, f⟩)
    · exact .inl (.inr ⟨⟨a, a1, a2, a3, e⟩, b, b1, b2, b3, f⟩)
    · exact .inl (.inl ⟨⟨b, b1, b2, b3, f⟩, a, a1, a2, a3, e⟩)
    · omega
    · exact .inr ⟨⟨a, a1, a2, a3, e⟩, b, b1, b2, b3, f⟩
    · exact .inl (.inr ⟨⟨b, b1, b2, b3, f⟩, a, a1, a2, a3, e⟩)
    · exact .inr ⟨⟨b, b1, b2, b3, f⟩, a, a1, a2, a3, e⟩
    · omega
theorem agreedL_nodup (l : List Arrival) (day : Int) : (agreedL l day).Nodup := by
  unfold agreedL agAll
  exact ((List.filter_sublist (l := agMap l day)).map Prod.fst).nodup (agMap_inv l day).1
theorem agreedL_congr {l l' : List Arrival} {day day' : Int} (h : ∀ x, x ∈ agreedL l day ↔ x ∈ agreedL l' day') : (agreedL l day).Perm (agreedL l' day') :=
  (List.perm_ext_iff_of_nodup (agreedL_nodup _ _) (agreedL_nodup _ _)).2 h
theorem lied_perm {L L' : List Report} (h : L.Perm L') (r : Int) : lied L r = lied L' r := by
  unfold lied
  have e : (∃ c, 2 ≤ cnt L r c) ↔ ∃ c, 2 ≤ cnt L' r c := by
    constructor
    · rintro ⟨c, hc⟩; exact ⟨c, by rw [← cnt_perm h]; exact hc⟩
    · rintro ⟨c, hc⟩; exact ⟨c, by rw [cnt_perm h]; exact hc⟩
  exact @decide_eq_decide _ _ (_) (_) |>.2 e
theorem knownL_congr {l l' : List Arrival} {day day' : Int} (h : (agreedL l day).Perm (agreedL l' day')) (hi : ∀ a, a ∈ l → a.report.I64) : knownL l day = knownL l' day' := by
  unfold knownL
  have e : (fun c : Report => !lied (agreedL l day) c.reporter) = fun c => !lied (agreedL l' day') c.reporter := by funext c; rw [lied_perm h]
  rw [e]
  refine sortRp_congr (h.filter _) (fun s hs => ?_) (fun s hs => (agreedL_mem (List.mem_filter.1 hs).1).1)
  obtain ⟨-, a, h1, rfl⟩ := agreedL_mem (List.mem_filter.1 hs).1
  exact hi a h1
theorem liarQ_congr {L L' : List Report} (h : L.Perm L') {m : List (Int × Bool)} (hm : liarQ L m) : liarQ L' m :=
  ⟨hm.1, hm.2.1, fun r => by rw [hm.2.2 r]; simp only [cnt_perm h]⟩
theorem Liars_congr {l l' : List Arrival} {day day' : Int} (hl : l.length ≤ 1200) (hl' : l'.length ≤ 1200) (h : (agreedL l day).Perm (agreedL l' day')) : report_Liars l day = report_Liars l' day' := by
  obtain ⟨m, hm⟩ := liarQ_ex (agreedL l day)
  rw [report_Liars_of hl hm, report_Liars_of hl' (liarQ_congr h hm)]
/-- each body lies under what it is about -/
def MapOK (m : List (Key × Body)) : Prop := ∀ e, e ∈ m → report_about e.2 = e.1
theorem eqKey {a b : Key} : eqCs (Key.K.C a) (Key.K.C b) = true ↔ a = b := by
  constructor
  · intro h
    have h1 := eqCs_eq (a := Key.cells a) (b := Key.cells b) rfl rfl h
    cases a; cases b
    simp [Key.cells, dI] at h1
    simp [h1]
  · rintro rfl
    exact eqCs_rfl rfl
theorem MapOK.upd {m : List (Key × Body)} (h : MapOK m) (b : Body) : MapOK (kupd Key.K m (report_about b) b) := by
  induction m with
  | nil => intro e he; simp [kupd] at he; subst he; rfl
  | cons p r ih =>
    have hr : MapOK r := fun e he => h e (List.mem_cons_of_mem _ he)
    intro e he
    simp only [kupd] at he
    cases hk : eqCs (Key.K.C (report_about b)) (Key.K.C p.1) with
    | true =>
      rw [hk] at he
      simp only [cond_true, List.mem_cons] at he
      rcases he with rfl | he
      · exact eqKey.1 hk
      · exact hr e he
    | false =>
      rw [hk] at he
      simp only [cond_false, List.mem_cons] at he
      rcases he with rfl | he
      · exact h _ List.mem_cons_self
      · exact ih hr e he
theorem kdel_sub {κ α : Type} (K : KE κ) (k : κ) : ∀ (m : List (κ × α)), (kdel K m k).Sublist m
  | [] => .slnil
  | p :: r => by
    simp only [kdel]
    cases eqCs (K.C k) (K.C p.1) with
    | true => exact (List.Sublist.refl r).cons p
    | false => exact (kdel_sub K k r).cons_cons p
theorem MapOK.del {m : List (Key × Body)} (h : MapOK m) (k : Key) : MapOK (kdel Key.K m k) := fun e he => h e ((kdel_sub _ _ _).subset he)
theorem kdel_comm {κ α : Type} (K : KE κ) (hK : ∀ a b : κ, eqCs (K.C a) (K.C b) = true ↔ a = b) (a b : κ) : ∀ (m : List (κ × α)), kdel K (kdel K m a) b = kdel K (kdel K m b) a
  | [] => rfl
  | p :: r => by
    have ih := kdel_comm K hK a b r
    cases ha : eqCs (K.C a) (K.C p.1) with
    | true =>
      cases hb : eqCs (K.C b) (K.C p.1) with
      | true => rw [(hK _ _).1 ha, (hK _ _).1 hb]
      | false => simp only [kdel, ha, hb, cond_true, cond_false]
    | false =>
      cases hb : eqCs (K.C b) (K.C p.1) with
      | true => simp only [kdel, ha, hb, cond_true, cond_false]
      | false => simp only [kdel, ha, hb, cond_false, ih]

noncomputable def report_stated_sk (l : List Arrival) (bill : Int) (day : Int) : Sk ((List (Key × Body))) :=
 .r 1 (.o [.nrmm (mkK Key.K (aggD Body.cells))]) fun _ =>
 .r 2 (.o [.nrmm (mkK Key.K dB)]) fun _ =>
 .r 3 ((report_Known_k l day).c) fun x1 =>
 .bind true (fun b2 => MapOK b2.1)
 (.loop (default : Sum ((List (Key × Body))) ((List (Key × Body)) × (List (Key × Bool)))) (fun i3 => i3.1 ≤ x1.length ∧ MapOK i3.2.1) (fun i3 => x1.length - i3.1) ((0, ([] : List (Key × Body)), ([] : List (Key × Bool))) : Nat × (List (Key × Body)) × (List (Key × Bool)))
 (fun (i3 : Nat × (List (Key × Body)) × (List (Key × Bool))) => ⟨[(21, iv ((i3.1 : Nat) : Int))], [(15, kpM Key.K (aggD Body.cells) i3.2.1), (16, kpM Key.K dB i3.2.2)]⟩) fun i3 =>
 .lt 19 0 i3.1 x1.length
 (.r 5 (.p (ixP ((i3.1 : Nat) : Int) x1.length)) fun _ =>
 .br ((((x1.getD i3.1 default).body).bill) != bill)
 (.nx 12 21 i3.1 (i3.1 + 1, i3.2.1, i3.2.2))
 (.r 7 ((report_about_k ((x1.getD i3.1 default).body)).c) fun x4 =>
 .r 8 (.andl (.t (keysK Key.K (aggD Body.cells) i3.2.1)) (.o [.cast 36 (getK2 Key.K (aggD Body.cells) i3.2.1 x4 Body.Z)])) fun _ =>
 .br ((khas Key.K i3.2.1 x4) && (!(eqCs (Body.cells (kget Key.K i3.2.1 x4 Body.Z)) (Body.cells ((x1.getD i3.1 default).body)))))
 (.r 10 (.andl (.t (keysK Key.K dB i3.2.2)) (.o [.nrmm (updK Key.K dB i3.2.2 x4 true)])) fun _ =>
 .r 11 (.andl (.t (keysK Key.K (aggD Body.cells) i3.2.1)) (.o [.nrmm (updK Key.K (aggD Body.cells) i3.2.1 x4 ((x1.getD i3.1 default).body))])) fun _ =>
 .r 12 .z fun _ =>
 .wi 21 (w64 (((i3.1 : Nat) : Int) + 1)) ((i3.1 + 1 : Nat) : Int) <|
 .fin (.inr (i3.1 + 1, kupd Key.K i3.2.1 x4 ((x1.getD i3.1 default).body), kupd Key.K i3.2.2 x4 true)))
 (.r 11 (.andl (.t (keysK Key.K (aggD Body.cells) i3.2.1)) (.o [.nrmm (updK Key.K (aggD Body.cells) i3.2.1 x4 ((x1.getD i3.1 default).body))])) fun _ =>
 .r 12 .z fun _ =>
 .wi 21 (w64 (((i3.1 : Nat) : Int) + 1)) ((i3.1 + 1 : Nat) : Int) <|
 .fin (.inr (i3.1 + 1, kupd Key.K i3.2.1 x4 ((x1.getD i3.1 default).body), i3.2.2)))))
 (.fin (.inl (.inr (i3.2.1, i3.2.2)))))
 (fun (b2 : (List (Key × Body)) × (List (Key × Bool))) => ⟨[], [(15, kpM Key.K (aggD Body.cells) b2.1), (16, kpM Key.K dB b2.2)]⟩) fun b2 =>
 .bind true (fun b5 => MapOK b5)
 (.mr b2.2.length (fun vs_ g6 => MapOK g6) (b2.1 : (List (Key × Body)))
 (fun g6 s8 => ⟨[], [(15, klM Key.K (aggD Body.cells) g6), (54, .it 16 b2.2.length s8)]⟩)
 (fun g9 => ⟨[], [(15, klM Key.K (aggD Body.cells) g9)]⟩)
 (fun g6 i7 =>
 .brt <|
 .r 15 (.p (i7 < b2.2.length)) fun _ =>
 .r 16 (.andl (.t (keysK Key.K (aggD Body.cells) g6)) (.o [.nrmm (delK Key.K (aggD Body.cells) g6 ((b2.2.getD i7 default).1))])) fun _ =>
 .fin (kdel Key.K g6 ((b2.2.getD i7 default).1))) fun g9 =>
 .brf <|
 .fin (.inr g9))
 (fun (b5 : (List (Key × Body))) => ⟨[(54, .any)], [(15, klM Key.K (aggD Body.cells) b5)]⟩) fun b5 =>
 .fin b5
noncomputable def report_stated l bill day := (report_stated_sk l bill day).val
theorem report_stated_pst (l : List Arrival) (bill : Int) (day : Int) : (report_stated_sk l bill day).pst (fun (x : (List (Key × Body))) => MapOK x) := by
  refine Sk.pst_of _ ?_
  unfold report_stated_sk
  simp only [Sk.pstq, Sk.isLoop, reduceCtorEq, ON, kk, kp, report_Known_k, report_about_k, maxLen]
  intro _ _ K hK _
  have st : ∀ {i n : Nat}, decide ((i : Int) < (n : Int)) = true → i < n := fun h => by have h := of_decide_eq_true h; omega
  refine ⟨⟨⟨Nat.zero_le _, fun e he => by cases he⟩, fun i hi => ⟨fun hc _ => ?_, fun _ => hi.2⟩⟩, fun b hb => ⟨⟨hb, fun s g i hg _ _ _ _ => hg.del _, fun g _ hg => hg⟩, fun _ _ h => h⟩⟩
  have hc := st hc
  have hm : K.length - (i.1 + 1) < K.length - i.1 := by omega
  refine ⟨fun _ _ => ⟨⟨by omega, hi.2⟩, hm⟩, fun _ k hk _ => ?_⟩
  subst hk
  exact ⟨fun _ _ _ _ => ⟨⟨by omega, hi.2.upd _⟩, hm⟩, fun _ _ _ => ⟨⟨by omega, hi.2.upd _⟩, hm⟩⟩

theorem report_stated_post (l : List Arrival) (bill : Int) (day : Int) : (fun (x : (List (Key × Body))) => MapOK x) (report_stated l bill day) := have h := Sk.pval _ (report_stated_pst l bill day); h
theorem report_stated_ok (l : List Arrival) (bill : Int) (day : Int) (hi : ∀ a, a ∈ l → a.report.I64) : (report_stated_sk l bill day).obs (fun _ => True) := by
  refine Sk.obs_of _ ?_
  unfold report_stated_sk
  simp only [Sk.obq, Sk.isLoop, reduceCtorEq, ON, kk, kp, Sk.pst, report_Known_k, report_about_k, maxLen]
  intro _ _
  refine ⟨hi, fun K hK hKp => ?_⟩
  have hl := (hKp hi).1
  have st : ∀ {i n : Nat}, decide ((i : Int) < (n : Int)) = true → i < n := fun h => by have h := of_decide_eq_true h; omega
  refine ⟨⟨⟨Nat.zero_le _, fun e he => by cases he⟩, fun i hi _ => ⟨fun hc => ?_, fun _ => hi.2⟩⟩, fun b hb => ⟨hb, fun s g i hg hi _ => ⟨fun _ _ => hg.del _, hi⟩, fun s g i j hg _ _ _ _ _ => kdel_comm Key.K (fun _ _ => eqKey) _ _ g, fun g _ hg => hg⟩⟩
  have hc := st hc
  have hm : K.length - (i.1 + 1) < K.length - i.1 := by omega
  have hw : w64 ((i.1 : Int) + 1) = ((i.1 + 1 : Nat) : Int) := by rw [w64_id (by omega) (by omega)]; omega
  refine ⟨⟨by omega, by omega⟩, fun _ => ⟨fun _ _ => ⟨hw, ⟨by omega, hi.2⟩, hm⟩, fun _ k hk _ => ?_⟩⟩
  subst hk
  exact ⟨fun _ _ _ _ => ⟨hw, ⟨by omega, hi.2.upd _⟩, hm⟩, fun _ _ _ => ⟨hw, ⟨by omega, hi.2.upd _⟩, hm⟩⟩

theorem report_stated_fnM (l : List Arrival) (bill : Int) (day : Int) (hi : ∀ a, a ∈ l → a.report.I64) : FnA Tryz.prog 87 [lv Arrival.cells l, iv bill, iv day] [] ((fun (_ : (List (Key × Body))) => (.mpv 777790 : AV)) (report_stated l bill day)) ((fun (x : (List (Key × Body))) => [(777790, klM Key.K (aggD Body.cells) x)]) (report_stated l bill day)) :=
  FnA.sk tok mixed (fun x => .mpv 777790) (fun x => [(777790, klM Key.K (aggD Body.cells) x)]) Tryz.func87 rfl (by kernel_rfl) 3000 (report_stated_sk l bill day) (by kernel_rfl) (report_stated_ok l bill day hi)
noncomputable def report_stated_km (l : List Arrival) (bill : Int) (day : Int) : CtrO ((List (Key × Body))) := ⟨Tryz.prog, 87, [lv Arrival.cells l, iv bill, iv day], fun x => .mpv 777790, fun x => [(777790, klM Key.K (aggD Body.cells) x)], report_stated l bill day, (∀ a, a ∈ l → a.report.I64), fun h => report_stated_fnM l bill day h, fun (x : (List (Key × Body))) => MapOK x, report_stated_post l bill day⟩
def Maker.bx (κ ρ : Nat) (m : Maker) : List (Nat × Blk) := [(κ, .box (m.r.cells.map .d ++ [.mpv (ρ + 2)] ++ m.file.cells.map .d ++ [ow (ρ + 4) m.used])), ((ρ + 2), klM Key.K (aggD Body.cells) m.all), ((ρ + 4), rowB 35 41 Body.cells m.used)]
noncomputable def slices_Clone_sk (s : List Sign) : Sk ((List Sign)) :=
 .nsp 0 s.length
 (.brt <|
 .fin [])
 (.brf <|
 .r 3 (.andl (.o [.nrm (litC Sign.E ([] : List Sign))]) (.andl (.o [.nrm (catC Sign.E ([] : List Sign) s)]) (.andl (.t (Sign.E.src s)) (.p (szP (([] : List Sign).length) s.length 72))))) fun _ =>
 .fin (([] : List Sign) ++ s))
noncomputable def slices_Clone s := (slices_Clone_sk s).val
theorem slices_Clone_pst (s : List Sign) : (slices_Clone_sk s).pst (fun (x : (List Sign)) => x.length = s.length ∧ x = s) := by
  unfold slices_Clone_sk
  simp [Sk.pst, litC, catC]
theorem slices_Clone_post (s : List Sign) : (fun (x : (List Sign)) => x.length = s.length ∧ x = s) (slices_Clone s) := have h := Sk.pval _ (slices_Clone_pst s); h
theorem slices_Clone_ok (s : List Sign) (hs : s.length ≤ 1000000000) : (slices_Clone_sk s).obs (fun _ => True) := by
  unfold slices_Clone_sk
  exact okD

theorem slices_Clone_fnO (s : List Sign) (hs : s.length ≤ 1000000000) : FnA Tryz.prog 169 [lv Sign.cells s] [] (ow 777777 (slices_Clone s)) [(777777, rowB 27 9 Sign.cells (slices_Clone s))] :=
  FnA.sk tok mixed (fun x => ow 777777 x) (fun x => [(777777, rowB 27 9 Sign.cells x)]) Tryz.func169 rfl (by kernel_rfl) 3000 (slices_Clone_sk s) (by kernel_rfl) (slices_Clone_ok s hs)
noncomputable def slices_Clone_ko (κ : Nat) (s : List Sign) : CtrO ((List Sign)) := ⟨Tryz.prog, 169, [lv Sign.cells s], fun x => ow κ x, fun x => [(κ, rowB 27 9 Sign.cells x)], slices_Clone s, (s.length ≤ 1000000000), fun h => FnA.rekey κ (slices_Clone_fnO s h), fun (x : (List Sign)) => x.length = s.length ∧ x = s, slices_Clone_post s⟩
noncomputable def slices_Clone_2_sk (s : List Alter) : Sk ((List Alter)) :=
 .nsp 0 s.length
 (.brt <|
 .fin [])
 (.brf <|
 .r 3 (.andl (.o [.nrm (litC Alter.E ([] : List Alter))]) (.andl (.o [.nrm (catC Alter.E ([] : List Alter) s)]) (.andl (.t (Alter.E.src s)) (.p (szP (([] : List Alter).length) s.length 16))))) fun _ =>
 .fin (([] : List Alter) ++ s))
noncomputable def slices_Clone_2 s := (slices_Clone_2_sk s).val
theorem slices_Clone_2_pst (s : List Alter) : (slices_Clone_2_sk s).pst (fun (x : (List Alter)) => x.length = s.length ∧ x = s) := by
  unfold slices_Clone_2_sk
  simp [Sk.pst, litC, catC]
theorem slices_Clone_2_post (s : List Alter) : (fun (x : (List Alter)) => x.length = s.length ∧ x = s) (slices_Clone_2 s) := have h := Sk.pval _ (slices_Clone_2_pst s); h
theorem slices_Clone_2_ok (s : List Alter) (hs : s.length ≤ 1000000000) : (slices_Clone_2_sk s).obs (fun _ => True) := by
  unfold slices_Clone_2_sk
  exact okD

theorem slices_Clone_2_fnO (s : List Alter) (hs : s.length ≤ 1000000000) : FnA Tryz.prog 170 [lv Alter.cells s] [] (ow 777777 (slices_Clone_2 s)) [(777777, rowB 31 2 Alter.cells (slices_Clone_2 s))] :=
  FnA.sk tok mixed (fun x => ow 777777 x) (fun x => [(777777, rowB 31 2 Alter.cells x)]) Tryz.func170 rfl (by kernel_rfl) 3000 (slices_Clone_2_sk s) (by kernel_rfl) (slices_Clone_2_ok s hs)
noncomputable def slices_Clone_2_ko (κ : Nat) (s : List Alter) : CtrO ((List Alter)) := ⟨Tryz.prog, 170, [lv Alter.cells s], fun x => ow κ x, fun x => [(κ, rowB 31 2 Alter.cells x)], slices_Clone_2 s, (s.length ≤ 1000000000), fun h => FnA.rekey κ (slices_Clone_2_fnO s h), fun (x : (List Alter)) => x.length = s.length ∧ x = s, slices_Clone_2_post s⟩
noncomputable def slices_Clone_3_sk (s : List ActX) : Sk ((List ActX)) :=
 .nsp 0 s.length
 (.brt <|
 .fin [])
 (.brf <|
 .r 3 (.andl (.o [.nrm (litC ActX.E ([] : List ActX))]) (.andl (.o [.nrm (catC ActX.E ([] : List ActX) s)]) (.andl (.t (ActX.E.src s)) (.p (szP (([] : List ActX).length) s.length 72))))) fun _ =>
 .fin (([] : List ActX) ++ s))
noncomputable def slices_Clone_3 s := (slices_Clone_3_sk s).val
theorem slices_Clone_3_pst (s : List ActX) : (slices_Clone_3_sk s).pst (fun (x : (List ActX)) => x.length = s.length ∧ x = s) := by
  unfold slices_Clone_3_sk
  simp [Sk.pst, litC, catC]
theorem slices_Clone_3_post (s : List ActX) : (fun (x : (List ActX)) => x.length = s.length ∧ x = s) (slices_Clone_3 s) := have h := Sk.pval _ (slices_Clone_3_pst s); h
theorem slices_Clone_3_ok (s : List ActX) (hs : s.length ≤ 1000000000) : (slices_Clone_3_sk s).obs (fun _ => True) := by
  unfold slices_Clone_3_sk
  exact okD

theorem slices_Clone_3_fnO (s : List ActX) (hs : s.length ≤ 1000000000) : FnA Tryz.prog 171 [lv ActX.cells s] [] (ow 777777 (slices_Clone_3 s)) [(777777, rowB 29 9 ActX.cells (slices_Clone_3 s))] :=
  FnA.sk tok mixed (fun x => ow 777777 x) (fun x => [(777777, rowB 29 9 ActX.cells x)]) Tryz.func171 rfl (by kernel_rfl) 3000 (slices_Clone_3_sk s) (by kernel_rfl) (slices_Clone_3_ok s hs)
noncomputable def slices_Clone_3_ko (κ : Nat) (s : List ActX) : CtrO ((List ActX)) := ⟨Tryz.prog, 171, [lv ActX.cells s], fun x => ow κ x, fun x => [(κ, rowB 29 9 ActX.cells x)], slices_Clone_3 s, (s.length ≤ 1000000000), fun h => FnA.rekey κ (slices_Clone_3_fnO s h), fun (x : (List ActX)) => x.length = s.length ∧ x = s, slices_Clone_3_post s⟩
noncomputable def slices_Clone_4_sk (s : List Fact) : Sk ((List Fact)) :=
 .nsp 0 s.length
 (.brt <|
 .fin [])
 (.brf <|
 .r 3 (.andl (.o [.nrm (litC Fact.E ([] : List Fact))]) (.andl (.o [.nrm (catC Fact.E ([] : List Fact) s)]) (.andl (.t (Fact.E.src s)) (.p (szP (([] : List Fact).length) s.length 24))))) fun _ =>
 .fin (([] : List Fact) ++ s))
noncomputable def slices_Clone_4 s := (slices_Clone_4_sk s).val
theorem slices_Clone_4_pst (s : List Fact) : (slices_Clone_4_sk s).pst (fun (x : (List Fact)) => x.length = s.length ∧ x = s) := by
  unfold slices_Clone_4_sk
  simp [Sk.pst, litC, catC]
theorem slices_Clone_4_post (s : List Fact) : (fun (x : (List Fact)) => x.length = s.length ∧ x = s) (slices_Clone_4 s) := have h := Sk.pval _ (slices_Clone_4_pst s); h
theorem slices_Clone_4_ok (s : List Fact) (hs : s.length ≤ 1000000000) : (slices_Clone_4_sk s).obs (fun _ => True) := by
  unfold slices_Clone_4_sk
  exact okD

theorem slices_Clone_4_fnO (s : List Fact) (hs : s.length ≤ 1000000000) : FnA Tryz.prog 172 [lv Fact.cells s] [] (ow 777777 (slices_Clone_4 s)) [(777777, rowB 33 3 Fact.cells (slices_Clone_4 s))] :=
  FnA.sk tok mixed (fun x => ow 777777 x) (fun x => [(777777, rowB 33 3 Fact.cells x)]) Tryz.func172 rfl (by kernel_rfl) 3000 (slices_Clone_4_sk s) (by kernel_rfl) (slices_Clone_4_ok s hs)
noncomputable def slices_Clone_4_ko (κ : Nat) (s : List Fact) : CtrO ((List Fact)) := ⟨Tryz.prog, 172, [lv Fact.cells s], fun x => ow κ x, fun x => [(κ, rowB 33 3 Fact.cells x)], slices_Clone_4 s, (s.length ≤ 1000000000), fun h => FnA.rekey κ (slices_Clone_4_fnO s h), fun (x : (List Fact)) => x.length = s.length ∧ x = s, slices_Clone_4_post s⟩
noncomputable def report_with_sk (f : File) (b : Body) : Sk (File) :=
 .br (b.kind == 1)
 (.r 3 (.depr ((slices_Clone_ko 11 f.signs).c) fun x1 => .andl (.o [.nrm (litC Sign.E [b.sign])]) (.andl (.o [.nrm (catC Sign.E x1 [b.sign])]) (.andl (.t (Sign.E.ones [b.sign])) (.p (szP x1.length [b.sign].length 72))))) fun x1 =>
 .fin ({ f with signs := x1 ++ [b.sign] }))
 (.br (b.kind == 3)
 (.r 5 (.depr ((slices_Clone_2_ko 21 f.alters).c) fun x2 => .andl (.o [.nrm (litC Alter.E [b.alter])]) (.andl (.o [.nrm (catC Alter.E x2 [b.alter])]) (.andl (.t (Alter.E.ones [b.alter])) (.p (szP x2.length [b.alter].length 16))))) fun x2 =>
 .fin ({ f with alters := x2 ++ [b.alter] }))
 (.br (b.kind == 2)
 (.r 7 (.depr ((slices_Clone_3_ko 31 f.acts).c) fun x3 => .andl (.o [.nrm (litC ActX.E [b.act])]) (.andl (.o [.nrm (catC ActX.E x3 [b.act])]) (.andl (.t (ActX.E.ones [b.act])) (.p (szP x3.length [b.act].length 72))))) fun x3 =>
 .fin ({ f with acts := x3 ++ [b.act] }))
 (.br (b.kind == 4)
 (.r 9 (.depr ((slices_Clone_4_ko 41 f.facts).c) fun x4 => .andl (.o [.nrm (litC Fact.E [b.fact])]) (.andl (.o [.nrm (catC Fact.E x4 [b.fact])]) (.andl (.t (Fact.E.ones [b.fact])) (.p (szP x4.length [b.fact].length 24))))) fun x4 =>
 .fin ({ f with facts := x4 ++ [b.fact] }))
 (.fin f))))
noncomputable def report_with f b := (report_with_sk f b).val
theorem report_with_ok (f : File) (b : Body) (hf : f.Small) : (report_with_sk f b).obs (fun _ => True) := by
  simp only [File.Small, Realm.Small] at hf
  unfold report_with_sk
  try simp only [slices_Clone_2_ko, slices_Clone_3_ko, slices_Clone_4_ko, slices_Clone_ko, File.Small, Realm.Small]
  exact okD

noncomputable def report_with_k f b := kk tok mixed Tryz.func127 [av f.cells, av b.cells] (fun x => av x.cells) false (report_with_sk f b) (report_with f b) (report_with_ok f b)
noncomputable def realm_names_sk (r : Realm) : Sk ((List ByteArray) × (List ByteArray) × (List ByteArray)) :=
 .bind true (fun b1 => b1.length ≤ 0 + r.cities.length)
 (.loop (default : Sum ((List ByteArray) × (List ByteArray) × (List ByteArray)) ((List ByteArray))) (fun i2 => i2.2 ≤ r.cities.length ∧ i2.1.length ≤ 0 + i2.2) (fun i2 => r.cities.length - i2.2) (([], 0) : (List ByteArray) × Nat)
 (fun (i2 : (List ByteArray) × Nat) => ⟨[(2, ow 100002 i2.1), (14, iv ((i2.2 : Nat) : Int))], [(100002, rowB 9 1 strC i2.1)]⟩) fun i2 =>
 .lt 12 0 i2.2 r.cities.length
 (.r 3 (.p (ixP ((i2.2 : Nat) : Int) r.cities.length)) fun _ =>
 .r 4 (.andl (.o [.nrm (litC strE [(r.cities.getD i2.2 default).name])]) (.andl (.o [.nrm (catC strE i2.1 [(r.cities.getD i2.2 default).name])]) (.andl (.t (strE.ones [(r.cities.getD i2.2 default).name])) (.p (szP i2.1.length [(r.cities.getD i2.2 default).name].length 16))))) fun _ =>
 .nx 5 14 i2.2 (i2.1 ++ [(r.cities.getD i2.2 default).name], i2.2 + 1))
 (.fin (.inl (.inr i2.1))))
 (fun (b1 : (List ByteArray)) => ⟨[(2, ow 100001 b1)], [(100001, rowB 9 1 strC b1)]⟩) fun b1 =>
 .bind true (fun b3 => b3.length ≤ 0 + r.firms.length)
 (.loop (default : Sum ((List ByteArray) × (List ByteArray) × (List ByteArray)) ((List ByteArray))) (fun i4 => i4.2 ≤ r.firms.length ∧ i4.1.length ≤ 0 + i4.2) (fun i4 => r.firms.length - i4.2) (([], 0) : (List ByteArray) × Nat)
 (fun (i4 : (List ByteArray) × Nat) => ⟨[(3, ow 100005 i4.1), (27, iv ((i4.2 : Nat) : Int))], [(100005, rowB 9 1 strC i4.1)]⟩) fun i4 =>
 .lt 25 0 i4.2 r.firms.length
 (.r 8 (.p (ixP ((i4.2 : Nat) : Int) r.firms.length)) fun _ =>
 .r 9 (.andl (.o [.nrm (litC strE [(r.firms.getD i4.2 default).name])]) (.andl (.o [.nrm (catC strE i4.1 [(r.firms.getD i4.2 default).name])]) (.andl (.t (strE.ones [(r.firms.getD i4.2 default).name])) (.p (szP i4.1.length [(r.firms.getD i4.2 default).name].length 16))))) fun _ =>
 .nx 10 27 i4.2 (i4.1 ++ [(r.firms.getD i4.2 default).name], i4.2 + 1))
 (.fin (.inl (.inr i4.1))))
 (fun (b3 : (List ByteArray)) => ⟨[(3, ow 100004 b3)], [(100004, rowB 9 1 strC b3)]⟩) fun b3 =>
 .bind true (fun b5 => b5.length ≤ 0 + r.orders.length)
 (.loop (default : Sum ((List ByteArray) × (List ByteArray) × (List ByteArray)) ((List ByteArray))) (fun i6 => i6.2 ≤ r.orders.length ∧ i6.1.length ≤ 0 + i6.2) (fun i6 => r.orders.length - i6.2) (([], 0) : (List ByteArray) × Nat)
 (fun (i6 : (List ByteArray) × Nat) => ⟨[(4, ow 100008 i6.1), (40, iv ((i6.2 : Nat) : Int))], [(100008, rowB 9 1 strC i6.1)]⟩) fun i6 =>
 .lt 38 0 i6.2 r.orders.length
 (.r 13 (.p (ixP ((i6.2 : Nat) : Int) r.orders.length)) fun _ =>
 .r 14 (.andl (.o [.nrm (litC strE [(r.orders.getD i6.2 default).name])]) (.andl (.o [.nrm (catC strE i6.1 [(r.orders.getD i6.2 default).name])]) (.andl (.t (strE.ones [(r.orders.getD i6.2 default).name])) (.p (szP i6.1.length [(r.orders.getD i6.2 default).name].length 16))))) fun _ =>
 .nx 15 40 i6.2 (i6.1 ++ [(r.orders.getD i6.2 default).name], i6.2 + 1))
 (.fin (.inl (.inr i6.1))))
 (fun (b5 : (List ByteArray)) => ⟨[(4, ow 100007 b5)], [(100007, rowB 9 1 strC b5)]⟩) fun b5 =>
 .fin (b1, b3, b5)
noncomputable def realm_names r := (realm_names_sk r).val
theorem realm_names_pst (r : Realm) : (realm_names_sk r).pst (fun (x : (List ByteArray) × (List ByteArray) × (List ByteArray)) => x.1.length ≤ r.cities.length ∧ x.2.1.length ≤ r.firms.length ∧ x.2.2.length ≤ r.orders.length) := by
  unfold realm_names_sk
  try simp only [File.Small, Realm.Small]
  exact okP

theorem realm_names_ok (r : Realm) (hr : r.Small) : (realm_names_sk r).obs (fun _ => True) := by
  simp only [File.Small, Realm.Small] at hr
  unfold realm_names_sk
  try simp only [File.Small, Realm.Small]
  exact okD

noncomputable def realm_names_k r := kp tok mixed Tryz.func112 [av r.cells] (fun x => .tup [lv strC x.1, lv strC x.2.1, lv strC x.2.2]) false (realm_names r) (realm_names_ok r) (realm_names_pst r)
noncomputable def realm_isName_sk (s : ByteArray) : Sk (Bool) :=
 .br ((s.toList == (⟨#[]⟩ : ByteArray).toList) || (decide (((s.size : Nat) : Int) > 20)))
 (.fin false)
 (.r 3 (.andl (.o [.nrm (bytesC s)]) (.p (s.size ≤ maxLen))) fun _ =>
 .bt
 (.loop (default : Sum (Bool) (Unit)) (fun i2 => i2 ≤ (bytesL s).length) (fun i2 => (bytesL s).length - i2) (0 : Nat)
 (fun (i2 : Nat) => ⟨[(16, iv ((i2 : Nat) : Int))], []⟩) fun i2 =>
 .lt 14 0 i2 ((bytesL s).length)
 (.r 5 (.p (ixP ((i2 : Nat) : Int) ((bytesL s).length))) fun _ =>
 .br ((!(((decide (((bytesL s).getD i2 default) ≥ 97)) && (decide (((bytesL s).getD i2 default) ≤ 122))) || ((decide (((bytesL s).getD i2 default) ≥ 65)) && (decide (((bytesL s).getD i2 default) ≤ 90))))) && ((((i2 : Nat) : Int) == 0) || ((((bytesL s).getD i2 default) != 95) && ((decide (((bytesL s).getD i2 default) < 48)) || (decide (((bytesL s).getD i2 default) > 57))))))
 (.fin (.inl (.inl false)))
 (.nx 9 16 i2 (i2 + 1)))
 (.fin (.inl (.inr ()))))
 (fun (_ : Unit) => ⟨[], []⟩) fun _ =>
 .fin true)
noncomputable def realm_isName s := (realm_isName_sk s).val
theorem realm_isName_ok (s : ByteArray) : (realm_isName_sk s).obs (fun _ => True) := by
  unfold realm_isName_sk
  exact okD

noncomputable def realm_isName_k s := kk tok mixed Tryz.func196 [sv s] (fun x => bv x) true (realm_isName_sk s) (realm_isName s) (u0 (realm_isName_ok s))
end Go.Proofs.YtihmmpaalpghbaaGreatDoor

