/- Functions, as sketches. -/
import Derived.Test.YtihmmpaalpghbaaGreatDoorRx13
namespace Go.Proofs.YtihmmpaalpghbaaGreatDoor
open Go Go.Av
set_option linter.unusedSimpArgs false
set_option linter.unusedVariables false
set_option maxHeartbeats 1000000
set_option maxRecDepth 100000
noncomputable def allongeref15_Same_sk (a : List Int) (b : List Int) : Sk (Bool) :=
 .br (((a.length : Nat) : Int) != ((b.length : Nat) : Int))
 (.fin false)
 (.bt
 (.loop (default : Sum (Bool) (Unit)) (fun i2 => i2 ≤ a.length) (fun i2 => a.length - i2) (0 : Nat)
 (fun (i2 : Nat) => ⟨[(5, iv ((i2 : Nat) : Int))], []⟩) fun i2 =>
 .lt 0 0 i2 a.length
 (.r 6 (.andl (.p (ixP ((i2 : Nat) : Int) a.length)) (.p (ixP ((i2 : Nat) : Int) b.length))) fun _ =>
 .br ((a.getD i2 default) != (b.getD i2 default))
 (.fin (.inl (.inl false)))
 (.nx 5 5 i2 (i2 + 1)))
 (.fin (.inl (.inr ()))))
 (fun (_ : Unit) => ⟨[], []⟩) fun _ =>
 .fin true)
noncomputable def allongeref15_Same a b := (allongeref15_Same_sk a b).val
theorem allongeref15_Same_pst (a : List Int) (b : List Int) : (allongeref15_Same_sk a b).pst (fun (x : Bool) => a = b → x = true) := by
  unfold allongeref15_Same_sk
  exact okP

theorem allongeref15_Same_ok (a : List Int) (b : List Int) : (allongeref15_Same_sk a b).obs (fun _ => True) := by
  unfold allongeref15_Same_sk
  exact okD

noncomputable def allongeref15_Same_k a b := kp tok mixed Tryz.func28 [lv intC a, lv intC b] (fun x => bv x) true (allongeref15_Same a b) (u0 (allongeref15_Same_ok a b)) (allongeref15_Same_pst a b)
noncomputable def report_Convicts_sk (a : Report) (b : Report) : Sk (Bool) :=
 .r 1 (.dep ((report_Right_k a).c) fun x1 => .wh x1 true ((report_Right_k b).c)) fun p3 =>
 .fin ((((p3.1 && p3.2) && (a.reporter == b.reporter)) && (a.no == b.no)) && (!(eqCs (Report.cells a) (Report.cells b))))
noncomputable def report_Convicts a b := (report_Convicts_sk a b).val
theorem report_Convicts_ok (a : Report) (b : Report) : (report_Convicts_sk a b).obs (fun _ => True) := by
  unfold report_Convicts_sk
  try simp only [report_Right_k]
  exact okE

noncomputable def report_Convicts_k a b := kk tok mixed Tryz.func25 [av a.cells, av b.cells] (fun x => bv x) true (report_Convicts_sk a b) (report_Convicts a b) (u0 (report_Convicts_ok a b))
theorem fact_I64 (r n k : Int) (hr : in64w r) (hn : in64w n) (hk : in64w k) : (allongelaw50_fact r n k).I64 := by
  rw [allongelaw50_fact_eq]
  simp [Report.I64, Report.cells, Body.cells, Bill.cells, Tenor.cells, Sign.cells, ActX.cells, Alter.cells, Fact.cells, okI_dI, hr, hn, hk, in64w]
theorem fact_I64' (r n k : Int) (h : (decide (-1000 ≤ r) && decide (r ≤ 1000) && decide (-1000 ≤ n) && decide (n ≤ 1000) && decide (-1000 ≤ k) && decide (k ≤ 1000)) = true) : (allongelaw50_fact r n k).I64 := by
  simp only [Bool.and_eq_true, decide_eq_true_eq] at h
  exact fact_I64 r n k ⟨by omega, by omega⟩ ⟨by omega, by omega⟩ ⟨by omega, by omega⟩
theorem fact_text : report_Text (allongelaw50_fact 0 1 1) = ⟨#[57, 59, 48, 59, 49, 59, 53, 59, 52, 59, 51, 59, 48, 59, 48, 59, 49, 59, 49, 59]⟩ := by
  rw [text_right rfl]
  unfold wire_Ints
  have e : intsL (repL (allongelaw50_fact 0 1 1)) = [57, 59, 48, 59, 49, 59, 53, 59, 52, 59, 51, 59, 48, 59, 48, 59, 49, 59, 49, 59] := by
    show intsL [0, 1, 5, 4, 3, 0, 0, 1, 1] = _
    simp [intsL, intL, Lib.itoa, Lib.decDigits]
  rw [e]
noncomputable abbrev sL : List Arrival := [allongelaw50_at 0 5 (allongelaw50_fact 0 1 1), allongelaw50_at 2 9 (allongelaw50_fact 0 1 1), allongelaw50_at 1 6 (allongelaw50_fact 1 1 1), allongelaw50_at 1 7 (allongelaw50_fact 1 1 1), allongelaw50_at 0 5 (allongelaw50_fact 2 1 1), allongelaw50_at 1 10 (allongelaw50_fact 2 1 1)]
noncomputable abbrev sT : List Arrival := [allongelaw50_at 0 5 (allongelaw50_fact 0 1 1), allongelaw50_at 1 5 (allongelaw50_fact 0 1 1), allongelaw50_at 0 5 (allongelaw50_fact 0 1 0), allongelaw50_at 1 5 (allongelaw50_fact 0 1 0)]
theorem sL_I64 : ∀ a, a ∈ sL → a.report.I64 := by
  intro a ha
  simp only [sL, List.mem_cons, List.not_mem_nil, or_false] at ha
  rcases ha with rfl | rfl | rfl | rfl | rfl | rfl <;> exact fact_I64' _ _ _ rfl
theorem sT_I64 : ∀ a, a ∈ sT → a.report.I64 := by
  intro a ha
  simp only [sT, List.mem_cons, List.not_mem_nil, or_false] at ha
  rcases ha with rfl | rfl | rfl | rfl <;> exact fact_I64' _ _ _ rfl

noncomputable def allongelaw50_sane_sk : Sk (Bool) :=
 .r 1 ((allongelaw50_fact_k 0 1 1).c) fun x1 =>
 .r 2 ((allongelaw50_fact_k 1 1 1).c) fun x2 =>
 .r 3 ((allongelaw50_fact_k 2 1 1).c) fun x3 =>
 .r 4 (.dep ((allongelaw50_at_k 0 5 x1).c) fun x4 => .dep ((allongelaw50_at_k 2 9 x1).c) fun x5 => .dep ((allongelaw50_at_k 1 6 x2).c) fun x6 => .dep ((allongelaw50_at_k 1 7 x2).c) fun x7 => .dep ((allongelaw50_at_k 0 5 x3).c) fun x8 => .depr ((allongelaw50_at_k 1 10 x3).c) fun x9 => .o [.nrm (litC Arrival.E [x4, x5, x6, x7, x8, x9])]) fun p39 =>
 .r 5 (.dep ((allongelaw50_at_k 0 5 x1).c) fun x10 => .dep ((allongelaw50_at_k 1 5 x1).c) fun x11 => .dep ((allongelaw50_fact_k 0 1 0).c) fun x12 => .dep ((allongelaw50_at_k 0 5 x12).c) fun x13 => .dep ((allongelaw50_fact_k 0 1 0).c) fun x14 => .depr ((allongelaw50_at_k 1 5 x14).c) fun x15 => .o [.nrm (litC Arrival.E [x10, x11, x13, x15])]) fun p38 =>
 .r 6 (.dep ((report_Text_k x1).c) fun x16 => (report_Read_k x16).c) fun p37 =>
 .r 7 (.dep ((report_Text_k x1).c) fun x18 => .andl (.p (((x18.size + (⟨#[48, 59]⟩ : ByteArray).size : Nat) : Int) ≤ IntKind.i64.max)) ((report_Read_k (x18 ++ (⟨#[48, 59]⟩ : ByteArray))).c)) fun p36 =>
 .fz 27 <|
 .r 8 (.dep ((report_Known_k [p39.1, p39.2.1, p39.2.2.1, p39.2.2.2.1, p39.2.2.2.2.1, p39.2.2.2.2.2] 9).c) fun x20 => .andl (.o [.nrm (litC Report.E [x1])]) (.dep ((allongeref50_SameReports_k x20 [x1]).c) fun x21 => .dep (.wh x21 true ((report_Known_k [p39.1, p39.2.1, p39.2.2.1, p39.2.2.2.1, p39.2.2.2.2.1, p39.2.2.2.2.2] 10).c)) fun x22 => .wh (x21 && (((x22.length : Nat) : Int) == 2)) true ((report_Known_k [p39.1, p39.2.1, p39.2.2.1, p39.2.2.2.1, p39.2.2.2.2.1, p39.2.2.2.2.2] 8).c))) fun p35 =>
 .fz 36 <|
 .r 9 (.dep ((report_Known_k [p38.1, p38.2.1, p38.2.2.2.1, p38.2.2.2.2.2] 9).c) fun x24 => .dep (.wh (((x24.length : Nat) : Int) == 0) true ((report_Liars_k [p38.1, p38.2.1, p38.2.2.2.1, p38.2.2.2.2.2] 9).c)) fun x25 => .andl (.wh (((x24.length : Nat) : Int) == 0) true (.o [.nrm (litC intE [0])])) (.dep (.wh (((x24.length : Nat) : Int) == 0) true ((allongeref15_Same_k x25 [0]).c)) fun x26 => .wh ((((x24.length : Nat) : Int) == 0) && x26) true ((report_Liars_k [p39.1, p39.2.1, p39.2.2.1, p39.2.2.2.1, p39.2.2.2.2.1, p39.2.2.2.2.2] 9).c))) fun p34 =>
 .r 10 (.dep (.wh ((((((p35.2.1 && (((p35.2.2.1.length : Nat) : Int) == 2)) && (((p35.2.2.2.length : Nat) : Int) == 0)) && (((((p34.1.length : Nat) : Int) == 0) && p34.2.2.1) && (((p34.2.2.2.length : Nat) : Int) == 0))) && p37.2.2) && (eqCs (Report.cells p37.2.1) (Report.cells x1))) && (!p36.2.2)) true ((report_Right_k x1).c)) fun x28 => .dep (.wh (((((((p35.2.1 && (((p35.2.2.1.length : Nat) : Int) == 2)) && (((p35.2.2.2.length : Nat) : Int) == 0)) && (((((p34.1.length : Nat) : Int) == 0) && p34.2.2.1) && (((p34.2.2.2.length : Nat) : Int) == 0))) && p37.2.2) && (eqCs (Report.cells p37.2.1) (Report.cells x1))) && (!p36.2.2)) && x28) true ((report_Text_k x1).c)) fun x29 => .dep (.wh ((((((((p35.2.1 && (((p35.2.2.1.length : Nat) : Int) == 2)) && (((p35.2.2.2.length : Nat) : Int) == 0)) && (((((p34.1.length : Nat) : Int) == 0) && p34.2.2.1) && (((p34.2.2.2.length : Nat) : Int) == 0))) && p37.2.2) && (eqCs (Report.cells p37.2.1) (Report.cells x1))) && (!p36.2.2)) && x28) && (x29.toList == (⟨#[57, 59, 48, 59, 49, 59, 53, 59, 52, 59, 51, 59, 48, 59, 48, 59, 49, 59, 49, 59]⟩ : ByteArray).toList)) true ((allongelaw50_fact_k 0 1 0).c)) fun x30 => .dep (.wh ((((((((p35.2.1 && (((p35.2.2.1.length : Nat) : Int) == 2)) && (((p35.2.2.2.length : Nat) : Int) == 0)) && (((((p34.1.length : Nat) : Int) == 0) && p34.2.2.1) && (((p34.2.2.2.length : Nat) : Int) == 0))) && p37.2.2) && (eqCs (Report.cells p37.2.1) (Report.cells x1))) && (!p36.2.2)) && x28) && (x29.toList == (⟨#[57, 59, 48, 59, 49, 59, 53, 59, 52, 59, 51, 59, 48, 59, 48, 59, 49, 59, 49, 59]⟩ : ByteArray).toList)) true ((report_Convicts_k x1 x30).c)) fun x31 => .wh (((((((((p35.2.1 && (((p35.2.2.1.length : Nat) : Int) == 2)) && (((p35.2.2.2.length : Nat) : Int) == 0)) && (((((p34.1.length : Nat) : Int) == 0) && p34.2.2.1) && (((p34.2.2.2.length : Nat) : Int) == 0))) && p37.2.2) && (eqCs (Report.cells p37.2.1) (Report.cells x1))) && (!p36.2.2)) && x28) && (x29.toList == (⟨#[57, 59, 48, 59, 49, 59, 53, 59, 52, 59, 51, 59, 48, 59, 48, 59, 49, 59, 49, 59]⟩ : ByteArray).toList)) && x31) true ((report_Convicts_k x1 x2).c)) fun p33 =>
 .fin ((((((((((p35.2.1 && (((p35.2.2.1.length : Nat) : Int) == 2)) && (((p35.2.2.2.length : Nat) : Int) == 0)) && (((((p34.1.length : Nat) : Int) == 0) && p34.2.2.1) && (((p34.2.2.2.length : Nat) : Int) == 0))) && p37.2.2) && (eqCs (Report.cells p37.2.1) (Report.cells x1))) && (!p36.2.2)) && p33.1) && (p33.2.1.toList == (⟨#[57, 59, 48, 59, 49, 59, 53, 59, 52, 59, 51, 59, 48, 59, 48, 59, 49, 59, 49, 59]⟩ : ByteArray).toList)) && p33.2.2.2.1) && (!p33.2.2.2.2))
noncomputable def allongelaw50_sane : Bool := (allongelaw50_sane_sk).val
theorem allongelaw50_sane_ok : (allongelaw50_sane_sk).obs (fun _ => True) := by
  have hA : (allongelaw50_fact 0 1 1).I64 := fact_I64' _ _ _ rfl
  have hZ : (allongelaw50_fact 0 1 0).I64 := fact_I64' _ _ _ rfl
  unfold allongelaw50_sane_sk
  refine ⟨trivial, fun x1 h1 _ => ⟨trivial, fun x2 h2 _ => ⟨trivial, fun x3 h3 _ => ⟨?_, fun p39 h39 _ => ⟨?_, fun p38 h38 _ => ⟨?_, fun p37 h37 _ => ⟨?_, fun p36 h36 _ => ⟨?_, fun p35 h35 _ => ⟨?_, fun p34 h34 _ => ⟨?_, fun p33 h33 _ => trivial⟩⟩⟩⟩⟩⟩⟩⟩⟩⟩
  · exact ⟨trivial, fun _ _ _ => ⟨trivial, fun _ _ _ => ⟨trivial, fun _ _ _ => ⟨trivial, fun _ _ _ => ⟨trivial, fun _ _ _ => ⟨trivial, fun _ _ _ => trivial⟩⟩⟩⟩⟩⟩
  · exact ⟨trivial, fun _ _ _ => ⟨trivial, fun _ _ _ => ⟨trivial, fun _ _ _ => ⟨trivial, fun _ _ _ => ⟨trivial, fun _ _ _ => ⟨trivial, fun _ _ _ => trivial⟩⟩⟩⟩⟩⟩
  · have h1 : x1 = allongelaw50_fact 0 1 1 := h1
    subst h1
    refine ⟨hA, fun x hx _ => ?_⟩
    have hx : x = report_Text (allongelaw50_fact 0 1 1) := hx
    rw [hx, fact_text]
    show (20 : Nat) ≤ 1000000
    decide
  · have h1 : x1 = allongelaw50_fact 0 1 1 := h1
    subst h1
    refine ⟨hA, fun x hx _ => ?_⟩
    have hx : x = report_Text (allongelaw50_fact 0 1 1) := hx
    rw [hx, fact_text]
    exact ⟨(by decide : ((20 + 2 : Nat) : Int) ≤ IntKind.i64.max), (by decide : (22 : Nat) ≤ 1000000)⟩
  · have h1 : x1 = allongelaw50_fact 0 1 1 := h1
    have h2 : x2 = allongelaw50_fact 1 1 1 := h2
    have h3 : x3 = allongelaw50_fact 2 1 1 := h3
    subst h1; subst h2; subst h3; subst h39
    exact ⟨sL_I64, fun _ _ _ => ⟨trivial, trivial, fun _ _ _ => ⟨fun _ => sL_I64, fun _ _ _ => fun _ => sL_I64⟩⟩⟩
  · have h1 : x1 = allongelaw50_fact 0 1 1 := h1
    have h2 : x2 = allongelaw50_fact 1 1 1 := h2
    have h3 : x3 = allongelaw50_fact 2 1 1 := h3
    subst h1; subst h2; subst h3; subst h39; subst h38
    exact ⟨sT_I64, fun _ _ _ => ⟨fun _ => trivial, fun _ _ _ => ⟨fun _ => trivial, fun _ => trivial, fun _ _ _ => fun _ => trivial⟩⟩⟩
  · have h1 : x1 = allongelaw50_fact 0 1 1 := h1
    subst h1
    exact ⟨fun _ => trivial, fun _ _ _ => ⟨fun _ => hA, fun _ _ _ => ⟨fun _ => trivial, fun _ _ _ => ⟨fun _ => trivial, fun _ _ _ => fun _ => trivial⟩⟩⟩⟩

noncomputable def allongelaw50_sane_k : Ctr (Bool) := kk tok mixed Tryz.func8 [] (fun x => bv x) true (allongelaw50_sane_sk) (allongelaw50_sane) (fun (_ : True) => allongelaw50_sane_ok)
noncomputable def allongeref09_Few_sk (r : Realm) : Sk (Bool) :=
 .bt
 (.loop (default : Sum (Bool) (Unit)) (fun i2 => i2 ≤ r.cities.length) (fun i2 => r.cities.length - i2) (0 : Nat)
 (fun (i2 : Nat) => ⟨[(3, iv ((i2 : Nat) : Int))], []⟩) fun i2 =>
 .bnd 1 1 r.cities.length <|
 .br ((decide (((i2 : Nat) : Int) < ((r.cities.length : Nat) : Int))) && (decide (((i2 : Nat) : Int) < 50)))
 (.r 4 (.andl (.p (ixP ((i2 : Nat) : Int) r.cities.length)) (.andl (.wh (decide (((((r.cities.getD i2 default).feasts).length : Nat) : Int) > 70)) false (.p (ixP ((i2 : Nat) : Int) r.cities.length))) (.wh ((decide (((((r.cities.getD i2 default).feasts).length : Nat) : Int) > 70)) || (decide (((((r.cities.getD i2 default).shut).length : Nat) : Int) > 210))) false (.p (ixP ((i2 : Nat) : Int) r.cities.length))))) fun _ =>
 .br (((decide (((((r.cities.getD i2 default).feasts).length : Nat) : Int) > 70)) || (decide (((((r.cities.getD i2 default).shut).length : Nat) : Int) > 210))) || (decide (((((r.cities.getD i2 default).rest).length : Nat) : Int) > 8)))
 (.fin (.inl (.inl false)))
 (.nx 3 3 i2 (i2 + 1)))
 (.fin (.inl (.inr ()))))
 (fun (_ : Unit) => ⟨[], []⟩) fun _ =>
 .bind true (fun b3 => ∀ k, k < r.orders.length → k < 50 → (r.orders.getD k default).choices.length ≤ 40 ∧ (r.orders.getD k default).rules.length ≤ 40)
 (.loop (default : Sum (Bool) (Unit)) (fun i4 => (∀ k, k < i4 → (r.orders.getD k default).choices.length ≤ 40 ∧ (r.orders.getD k default).rules.length ≤ 40) ∧ i4 ≤ r.orders.length) (fun i4 => r.orders.length - i4) (0 : Nat)
 (fun (i4 : Nat) => ⟨[(4, iv ((i4 : Nat) : Int))], []⟩) fun i4 =>
 .bnd 1 4 r.orders.length <|
 .br ((decide (((i4 : Nat) : Int) < ((r.orders.length : Nat) : Int))) && (decide (((i4 : Nat) : Int) < 50)))
 (.r 9 (.andl (.p (ixP ((i4 : Nat) : Int) r.orders.length)) (.wh (decide (((((r.orders.getD i4 default).choices).length : Nat) : Int) > 40)) false (.p (ixP ((i4 : Nat) : Int) r.orders.length)))) fun _ =>
 .br ((decide (((((r.orders.getD i4 default).choices).length : Nat) : Int) > 40)) || (decide (((((r.orders.getD i4 default).rules).length : Nat) : Int) > 40)))
 (.fin (.inl (.inl false)))
 (.nx 8 4 i4 (i4 + 1)))
 (.fin (.inl (.inr ()))))
 (fun (_ : Unit) => ⟨[], []⟩) fun _ =>
 .fin ((((((((decide (((r.currencies.length : Nat) : Int) < 50)) && (decide (((r.cities.length : Nat) : Int) < 50))) && (decide (((r.groups.length : Nat) : Int) < 50))) && (decide (((r.firms.length : Nat) : Int) < 210))) && (decide (((r.orders.length : Nat) : Int) < 50))) && (decide (((r.usances.length : Nat) : Int) < 110))) && (decide (((r.rates.length : Nat) : Int) < 110))) && (decide (((r.halts.length : Nat) : Int) < 50)))
noncomputable def allongeref09_Few r := (allongeref09_Few_sk r).val
theorem allongeref09_Few_pst (r : Realm) : (allongeref09_Few_sk r).pst (fun (x : Bool) => x = true → r.Small) := by
  unfold allongeref09_Few_sk
  try simp only [File.Small, Realm.Small]
  exact okP

theorem allongeref09_Few_post (r : Realm) : (fun (x : Bool) => x = true → r.Small) (allongeref09_Few r) := have h := Sk.pval _ (allongeref09_Few_pst r); h
theorem allongeref09_Few_ok (r : Realm) : (allongeref09_Few_sk r).obs (fun _ => True) := by
  unfold allongeref09_Few_sk
  try simp only [File.Small, Realm.Small]
  exact okD

noncomputable def allongeref09_Few_k r := kp tok mixed Tryz.func13 [av r.cells] (fun x => bv x) true (allongeref09_Few r) (u0 (allongeref09_Few_ok r)) (allongeref09_Few_pst r)
noncomputable def allongeref12_Few_sk (f : File) : Sk (Bool) :=
 .fin ((((decide (((f.signs.length : Nat) : Int) ≤ 42)) && (decide (((f.alters.length : Nat) : Int) ≤ 6))) && (decide (((f.acts.length : Nat) : Int) ≤ 102))) && (decide (((f.facts.length : Nat) : Int) ≤ 202)))
noncomputable def allongeref12_Few f := (allongeref12_Few_sk f).val
theorem allongeref12_Few_ok (f : File) : (allongeref12_Few_sk f).obs (fun _ => True) := by
  unfold allongeref12_Few_sk
  exact okE

noncomputable def allongeref12_Few_k f := kk tok mixed Tryz.func14 [av f.cells] (fun x => bv x) true (allongeref12_Few_sk f) (allongeref12_Few f) (u0 (allongeref12_Few_ok f))
noncomputable def realm_names_sk (r : Realm) : Sk ((List ByteArray) × (List ByteArray) × (List ByteArray)) :=
 .bind true (fun b1 => b1.length ≤ 0 + r.cities.length)
 (.loop (default : Sum ((List ByteArray) × (List ByteArray) × (List ByteArray)) ((List ByteArray))) (fun i2 => i2.2 ≤ r.cities.length ∧ i2.1.length ≤ 0 + i2.2) (fun i2 => r.cities.length - i2.2) (([], 0) : (List ByteArray) × Nat)
 (fun (i2 : (List ByteArray) × Nat) => ⟨[(2, ow 100002 i2.1), (14, iv ((i2.2 : Nat) : Int))], [(100002, rowB 9 1 strC i2.1)]⟩) fun i2 =>
 .lt 12 0 i2.2 r.cities.length
 (.r 3 (.p (ixP ((i2.2 : Nat) : Int) r.cities.length)) fun _ =>
 .r 4 (.andl (.o [.nrm (litC strE [(r.cities.getD i2.2 default).name])]) (.andl (.o [.nrm (catC strE i2.1 [(r.cities.getD i2.2 default).name])]) (.andl (.t (strE.ones [(r.cities.getD i2.2 default).name])) (.p (szP i2.1.length [(r.cities.getD i2.2 default).name].length 16))))) fun _ =>
 .nx 5 14 i2.2 (i2.1 ++ [(r.cities.getD i2.2 default).name], i2.2 + 1))
 (.fin (.inl (.inr i2.1))))
 (fun (b1 : (List ByteArray)) => ⟨[(2, ow 100001 b1)], [(100001, rowB 9 1 strC b1)]⟩) fun b1 =>
 .bind true (fun b3 => b3.length ≤ 0 + r.firms.length)
 (.loop (default : Sum ((List ByteArray) × (List ByteArray) × (List ByteArray)) ((List ByteArray))) (fun i4 => i4.2 ≤ r.firms.length ∧ i4.1.length ≤ 0 + i4.2) (fun i4 => r.firms.length - i4.2) (([], 0) : (List ByteArray) × Nat)
 (fun (i4 : (List ByteArray) × Nat) => ⟨[(3, ow 100005 i4.1), (27, iv ((i4.2 : Nat) : Int))], [(100005, rowB 9 1 strC i4.1)]⟩) fun i4 =>
 .lt 25 0 i4.2 r.firms.length
 (.r 8 (.p (ixP ((i4.2 : Nat) : Int) r.firms.length)) fun _ =>
 .r 9 (.andl (.o [.nrm (litC strE [(r.firms.getD i4.2 default).name])]) (.andl (.o [.nrm (catC strE i4.1 [(r.firms.getD i4.2 default).name])]) (.andl (.t (strE.ones [(r.firms.getD i4.2 default).name])) (.p (szP i4.1.length [(r.firms.getD i4.2 default).name].length 16))))) fun _ =>
 .nx 10 27 i4.2 (i4.1 ++ [(r.firms.getD i4.2 default).name], i4.2 + 1))
 (.fin (.inl (.inr i4.1))))
 (fun (b3 : (List ByteArray)) => ⟨[(3, ow 100004 b3)], [(100004, rowB 9 1 strC b3)]⟩) fun b3 =>
 .bind true (fun b5 => b5.length ≤ 0 + r.orders.length)
 (.loop (default : Sum ((List ByteArray) × (List ByteArray) × (List ByteArray)) ((List ByteArray))) (fun i6 => i6.2 ≤ r.orders.length ∧ i6.1.length ≤ 0 + i6.2) (fun i6 => r.orders.length - i6.2) (([], 0) : (List ByteArray) × Nat)
 (fun (i6 : (List ByteArray) × Nat) => ⟨[(4, ow 100008 i6.1), (40, iv ((i6.2 : Nat) : Int))], [(100008, rowB 9 1 strC i6.1)]⟩) fun i6 =>
 .lt 38 0 i6.2 r.orders.length
 (.r 13 (.p (ixP ((i6.2 : Nat) : Int) r.orders.length)) fun _ =>
 .r 14 (.andl (.o [.nrm (litC strE [(r.orders.getD i6.2 default).name])]) (.andl (.o [.nrm (catC strE i6.1 [(r.orders.getD i6.2 default).name])]) (.andl (.t (strE.ones [(r.orders.getD i6.2 default).name])) (.p (szP i6.1.length [(r.orders.getD i6.2 default).name].length 16))))) fun _ =>
 .nx 15 40 i6.2 (i6.1 ++ [(r.orders.getD i6.2 default).name], i6.2 + 1))
 (.fin (.inl (.inr i6.1))))
 (fun (b5 : (List ByteArray)) => ⟨[(4, ow 100007 b5)], [(100007, rowB 9 1 strC b5)]⟩) fun b5 =>
 .fin (b1, b3, b5)
noncomputable def realm_names r := (realm_names_sk r).val
theorem realm_names_pst (r : Realm) : (realm_names_sk r).pst (fun (x : (List ByteArray) × (List ByteArray) × (List ByteArray)) => x.1.length ≤ r.cities.length ∧ x.2.1.length ≤ r.firms.length ∧ x.2.2.length ≤ r.orders.length) := by
  unfold realm_names_sk
  try simp only [File.Small, Realm.Small]
  exact okP

theorem realm_names_ok (r : Realm) (hr : r.Small) : (realm_names_sk r).obs (fun _ => True) := by
  simp only [File.Small, Realm.Small] at hr
  unfold realm_names_sk
  try simp only [File.Small, Realm.Small]
  exact okD

noncomputable def realm_names_k r := kp tok mixed Tryz.func112 [av r.cells] (fun x => .tup [lv strC x.1, lv strC x.2.1, lv strC x.2.2]) false (realm_names r) (realm_names_ok r) (realm_names_pst r)
noncomputable def realm_isName_sk (s : ByteArray) : Sk (Bool) :=
 .br ((s.toList == (⟨#[]⟩ : ByteArray).toList) || (decide (((s.size : Nat) : Int) > 20)))
 (.fin false)
 (.r 3 (.andl (.o [.nrm (bytesC s)]) (.p (s.size ≤ maxLen))) fun _ =>
 .bt
 (.loop (default : Sum (Bool) (Unit)) (fun i2 => i2 ≤ (bytesL s).length) (fun i2 => (bytesL s).length - i2) (0 : Nat)
 (fun (i2 : Nat) => ⟨[(16, iv ((i2 : Nat) : Int))], []⟩) fun i2 =>
 .lt 14 0 i2 ((bytesL s).length)
 (.r 5 (.p (ixP ((i2 : Nat) : Int) ((bytesL s).length))) fun _ =>
 .br ((!(((decide (((bytesL s).getD i2 default) ≥ 97)) && (decide (((bytesL s).getD i2 default) ≤ 122))) || ((decide (((bytesL s).getD i2 default) ≥ 65)) && (decide (((bytesL s).getD i2 default) ≤ 90))))) && ((((i2 : Nat) : Int) == 0) || ((((bytesL s).getD i2 default) != 95) && ((decide (((bytesL s).getD i2 default) < 48)) || (decide (((bytesL s).getD i2 default) > 57))))))
 (.fin (.inl (.inl false)))
 (.nx 9 16 i2 (i2 + 1)))
 (.fin (.inl (.inr ()))))
 (fun (_ : Unit) => ⟨[], []⟩) fun _ =>
 .fin true)
noncomputable def realm_isName s := (realm_isName_sk s).val
theorem realm_isName_ok (s : ByteArray) : (realm_isName_sk s).obs (fun _ => True) := by
  unfold realm_isName_sk
  exact okD

noncomputable def realm_isName_k s := kk tok mixed Tryz.func196 [sv s] (fun x => bv x) true (realm_isName_sk s) (realm_isName s) (u0 (realm_isName_ok s))
noncomputable def slices_IndexS_sk (s : List ByteArray) (v : ByteArray) : Sk (Int) :=
 .bind true (fun b1 => ∀ q, q < s.length → ((s.getD q default).toList == v.toList) = false)
 (.loop (default : Sum (Int) (Unit)) (fun i2 => ∀ q, q < i2 → ((s.getD q default).toList == v.toList) = false) (fun i2 => s.length - i2) (0 : Nat)
 (fun (i2 : Nat) => ⟨[(8, iv ((i2 : Nat) : Int))], []⟩) fun i2 =>
 .lt 0 0 i2 s.length
 (.r 4 (.p (ixP ((i2 : Nat) : Int) s.length)) fun _ =>
 .br (v.toList == (s.getD i2 default).toList)
 (.fin (.inl (.inl ((i2 : Nat) : Int))))
 (.nx 6 8 i2 (i2 + 1)))
 (.fin (.inl (.inr ()))))
 (fun (_ : Unit) => ⟨[], []⟩) fun _ =>
 .fin (-1)
noncomputable def slices_IndexS s v := (slices_IndexS_sk s v).val
theorem slices_IndexS_pst (s : List ByteArray) (v : ByteArray) : (slices_IndexS_sk s v).pst (fun (x : Int) => (x = -1 ∧ ∀ q, q < s.length → ((s.getD q default).toList == v.toList) = false) ∨ (0 ≤ x ∧ x < s.length ∧ ((s.getD x.toNat default).toList == v.toList) = true ∧ ∀ q, (q : Nat) < x.toNat → ((s.getD q default).toList == v.toList) = false)) := by
  unfold slices_IndexS_sk
  exact okP

theorem slices_IndexS_ok (s : List ByteArray) (v : ByteArray) : (slices_IndexS_sk s v).obs (fun _ => True) := by
  unfold slices_IndexS_sk
  exact okD

noncomputable def slices_IndexS_k s v := kp tok mixed Tryz.func209 [lv strC s, sv v] (fun x => iv x) true (slices_IndexS s v) (u0 (slices_IndexS_ok s v)) (slices_IndexS_pst s v)
noncomputable def slices_ContainsS_sk (s : List ByteArray) (v : ByteArray) : Sk (Bool) :=
 .r 1 ((slices_IndexS_k s v).c) fun x1 =>
 .fin (decide (x1 ≥ 0))
noncomputable def slices_ContainsS s v := (slices_ContainsS_sk s v).val
theorem slices_ContainsS_pst (s : List ByteArray) (v : ByteArray) : (slices_ContainsS_sk s v).pst (fun (x : Bool) => (x = true ↔ ∃ q, q < s.length ∧ ((s.getD q default).toList == v.toList) = true)) := by
  unfold slices_ContainsS_sk
  try simp only [slices_IndexS_k]
  exact okP

theorem slices_ContainsS_ok (s : List ByteArray) (v : ByteArray) : (slices_ContainsS_sk s v).obs (fun _ => True) := by
  unfold slices_ContainsS_sk
  try simp only [slices_IndexS_k]
  exact okE

noncomputable def slices_ContainsS_k s v := kp tok mixed Tryz.func197 [lv strC s, sv v] (fun x => bv x) true (slices_ContainsS s v) (u0 (slices_ContainsS_ok s v)) (slices_ContainsS_pst s v)
noncomputable def realm_named_sk (names : List ByteArray) (i : Int) : Sk (Int) :=
 .r 1 (.andl (.p (ixP i names.length)) ((realm_isName_k (names.getD i.toNat default)).c)) fun x1 =>
 .br (!x1)
 (.fin 2)
 (.r 3 (.andl (.andl (.o [.nrm (subC strE names 0 i.toNat)]) (.pt (0 ≤ i ∧ i ≤ ((names.length : Nat) : Int)) (strE.lens names))) (.andl (.p (ixP i names.length)) ((slices_ContainsS_k (subL names 0 i.toNat) (names.getD i.toNat default)).c))) fun x2 =>
 .br x2
 (.fin 5)
 (.fin 0))
noncomputable def realm_named names i := (realm_named_sk names i).val
theorem realm_named_ok (names : List ByteArray) (i : Int) (hi : 0 ≤ i ∧ i < (names.length : Int)) : (realm_named_sk names i).obs (fun _ => True) := by
  unfold realm_named_sk
  try simp only [realm_isName_k, slices_ContainsS_k]
  exact okD

noncomputable def realm_named_k names i := kk tok mixed Tryz.func166 [lv strC names, iv i] (fun x => iv x) true (realm_named_sk names i) (realm_named names i) (realm_named_ok names i)
noncomputable def realm_Check_c1_sk (p : Int) : Sk (Bool) :=
 .fin true
noncomputable def realm_Check_c1 p := (realm_Check_c1_sk p).val
theorem realm_Check_c1_eq (p : Int) : realm_Check_c1 p = true := rfl
theorem realm_Check_c1_ok (p : Int) : (realm_Check_c1_sk p).obs (fun _ => True) := by
  unfold realm_Check_c1_sk
  exact okE

noncomputable def realm_Check_c1_k p := kk tok mixed Tryz.func114 [iv p] (fun x => bv x) true (realm_Check_c1_sk p) (realm_Check_c1 p) (u0 (realm_Check_c1_ok p))
noncomputable def realm_fits_114_sk (names : List ByteArray) (most : Int) : Sk (Int) :=
 .br (decide (((names.length : Nat) : Int) > most))
 (.fin 6)
 (.bt
 (.loop (default : Sum (Int) (Unit)) (fun i2 => i2 ≤ names.length) (fun i2 => names.length - i2) (0 : Nat)
 (fun (i2 : Nat) => ⟨[(15, iv ((i2 : Nat) : Int))], []⟩) fun i2 =>
 .lt 0 0 i2 names.length
 (.r 6 ((realm_named_k names ((i2 : Nat) : Int)).c) fun x3 =>
 .br (x3 != 0)
 (.fin (.inl (.inl x3)))
 (.r 9 ((realm_Check_c1_k ((i2 : Nat) : Int)).c) fun x4 =>
 .br (!x4)
 (.fin (.inl (.inl 1)))
 (.nx 11 15 i2 (i2 + 1))))
 (.fin (.inl (.inr ()))))
 (fun (_ : Unit) => ⟨[], []⟩) fun _ =>
 .fin 0)
noncomputable def realm_fits_114 names most := (realm_fits_114_sk names most).val
theorem realm_fits_114_ok (names : List ByteArray) (most : Int) : (realm_fits_114_sk names most).obs (fun _ => True) := by
  unfold realm_fits_114_sk
  try simp only [realm_Check_c1_k, realm_named_k, realm_Check_c1_eq]
  exact okG

noncomputable def realm_fits_114_k names most := kk tok mixed Tryz.func113 [lv strC names, iv most, .fn 114 []] (fun x => iv x) true (realm_fits_114_sk names most) (realm_fits_114 names most) (u0 (realm_fits_114_ok names most))
noncomputable def realm_in_sk (i : Int) (n : Int) : Sk (Bool) :=
 .fin ((decide (i ≥ 0)) && (decide (i < n)))
noncomputable def realm_in i n := (realm_in_sk i n).val
theorem realm_in_eq (i : Int) (n : Int) : realm_in i n = ((decide (i ≥ 0)) && (decide (i < n))) := rfl
theorem realm_in_ok (i : Int) (n : Int) : (realm_in_sk i n).obs (fun _ => True) := by
  unfold realm_in_sk
  exact okE

noncomputable def realm_in_k i n := kk tok mixed Tryz.func117 [iv i, iv n] (fun x => bv x) true (realm_in_sk i n) (realm_in i n) (u0 (realm_in_ok i n))
noncomputable def realm_rising_sk (l : List Int) (low : Int) (high : Int) : Sk (Bool) :=
 .bt
 (.loop (default : Sum (Bool) (Unit)) (fun i2 => i2 ≤ l.length) (fun i2 => l.length - i2) (0 : Nat)
 (fun (i2 : Nat) => ⟨[(11, iv ((i2 : Nat) : Int))], []⟩) fun i2 =>
 .lt 0 0 i2 l.length
 (.r 3 (.p (ixP ((i2 : Nat) : Int) l.length)) fun _ =>
 .r 4 (.wh ((decide ((l.getD i2 default) < low)) || (decide ((l.getD i2 default) > high))) false (.wh (decide (((i2 : Nat) : Int) > 0)) true (.p (ixP (w64 (((i2 : Nat) : Int) - 1)) l.length)))) fun _ =>
 .br (((decide ((l.getD i2 default) < low)) || (decide ((l.getD i2 default) > high))) || ((decide (((i2 : Nat) : Int) > 0)) && (decide ((l.getD i2 default) ≤ (l.getD ((w64 (((i2 : Nat) : Int) - 1)).toNat) default)))))
 (.fin (.inl (.inl false)))
 (.nx 6 11 i2 (i2 + 1)))
 (.fin (.inl (.inr ()))))
 (fun (_ : Unit) => ⟨[], []⟩) fun _ =>
 .fin true
noncomputable def realm_rising l low high := (realm_rising_sk l low high).val
theorem realm_rising_ok (l : List Int) (low : Int) (high : Int) : (realm_rising_sk l low high).obs (fun _ => True) := by
  unfold realm_rising_sk
  exact okD

noncomputable def realm_rising_k l low high := kk tok mixed Tryz.func167 [lv intC l, iv low, iv high] (fun x => bv x) true (realm_rising_sk l low high) (realm_rising l low high) (u0 (realm_rising_ok l low high))
noncomputable def realm_city_sk (r : Realm) (c_ : City) : Sk (Bool) :=
 .bt
 (.loop (default : Sum (Bool) (Unit)) (fun i2 => i2 ≤ c_.feasts.length) (fun i2 => c_.feasts.length - i2) (0 : Nat)
 (fun (i2 : Nat) => ⟨[(10, iv ((i2 : Nat) : Int))], []⟩) fun i2 =>
 .lt 8 0 i2 c_.feasts.length
 (.r 3 (.p (ixP ((i2 : Nat) : Int) c_.feasts.length)) fun _ =>
 .r 4 (.andl (.p ((100 : Int) ≠ 0)) (.wh (decide (((c_.feasts.getD i2 default).tmod 100) < 1)) false (.p ((100 : Int) ≠ 0)))) fun _ =>
 .br ((decide (((c_.feasts.getD i2 default).tmod 100) < 1)) || (decide (((c_.feasts.getD i2 default).tmod 100) > 31)))
 (.fin (.inl (.inl false)))
 (.nx 6 10 i2 (i2 + 1)))
 (.fin (.inl (.inr ()))))
 (fun (_ : Unit) => ⟨[], []⟩) fun _ =>
 .r 7 (.dep (.wh ((decide (((c_.feasts.length : Nat) : Int) > 60)) || (decide (((c_.shut.length : Nat) : Int) > 200))) false ((realm_in_k c_.order ((r.orders.length : Nat) : Int)).c)) fun x3 => .wh (((decide (((c_.feasts.length : Nat) : Int) > 60)) || (decide (((c_.shut.length : Nat) : Int) > 200))) || (!x3)) false ((realm_in_k c_.currency ((r.currencies.length : Nat) : Int)).c)) fun p9 =>
 .br ((((decide (((c_.feasts.length : Nat) : Int) > 60)) || (decide (((c_.shut.length : Nat) : Int) > 200))) || (!p9.1)) || (!p9.2))
 (.fin false)
 (.r 9 (.dep ((realm_rising_k c_.rest 0 6).c) fun x5 => .dep (.wh x5 true ((realm_rising_k c_.feasts 101 1231).c)) fun x6 => .wh (x5 && x6) true ((realm_rising_k c_.shut 0 100000).c)) fun p8 =>
 .fin ((p8.1 && p8.2.1) && p8.2.2))
noncomputable def realm_city r c_ := (realm_city_sk r c_).val
theorem realm_city_ok (r : Realm) (c_ : City) : (realm_city_sk r c_).obs (fun _ => True) := by
  unfold realm_city_sk
  try simp only [realm_in_k, realm_rising_k, realm_in_eq]
  exact okG

noncomputable def realm_city_k r c_ := kk tok mixed Tryz.func116 [av r.cells, av c_.cells] (fun x => bv x) true (realm_city_sk r c_) (realm_city r c_) (u0 (realm_city_ok r c_))
noncomputable def realm_Check_c2_sk (i : Int) (v : Realm) : Sk (Bool) :=
 .r 1 (.andl (.p (ixP i v.cities.length)) ((realm_city_k v (v.cities.getD i.toNat default)).c)) fun x1 =>
 .fin x1
noncomputable def realm_Check_c2 i v := (realm_Check_c2_sk i v).val
theorem realm_Check_c2_ok (i : Int) (v : Realm) (hi : 0 ≤ i ∧ i < (v.cities.length : Int)) : (realm_Check_c2_sk i v).obs (fun _ => True) := by
  unfold realm_Check_c2_sk
  try simp only [realm_city_k]
  exact okD

noncomputable def realm_Check_c2_k i v := kk tok mixed Tryz.func115 [iv i, .ref v.cells] (fun x => bv x) true (realm_Check_c2_sk i v) (realm_Check_c2 i v) (realm_Check_c2_ok i v)
noncomputable def realm_fits_115_sk (names : List ByteArray) (most : Int) (v : Realm) : Sk (Int) :=
 .br (decide (((names.length : Nat) : Int) > most))
 (.fin 6)
 (.bt
 (.loop (default : Sum (Int) (Unit)) (fun i2 => i2 ≤ names.length) (fun i2 => names.length - i2) (0 : Nat)
 (fun (i2 : Nat) => ⟨[(15, iv ((i2 : Nat) : Int))], []⟩) fun i2 =>
 .lt 0 0 i2 names.length
 (.r 6 ((realm_named_k names ((i2 : Nat) : Int)).c) fun x3 =>
 .br (x3 != 0)
 (.fin (.inl (.inl x3)))
 (.r 9 ((realm_Check_c2_k ((i2 : Nat) : Int) v).c) fun x4 =>
 .br (!x4)
 (.fin (.inl (.inl 1)))
 (.nx 11 15 i2 (i2 + 1))))
 (.fin (.inl (.inr ()))))
 (fun (_ : Unit) => ⟨[], []⟩) fun _ =>
 .fin 0)
noncomputable def realm_fits_115 names most v := (realm_fits_115_sk names most v).val
theorem realm_fits_115_ok (names : List ByteArray) (most : Int) (v : Realm) (hv : names.length ≤ v.cities.length) : (realm_fits_115_sk names most v).obs (fun _ => True) := by
  unfold realm_fits_115_sk
  try simp only [realm_Check_c2_k, realm_named_k]
  exact okD

noncomputable def realm_fits_115_k names most v := kk tok mixed Tryz.func113 [lv strC names, iv most, .fn 115 [.ref v.cells]] (fun x => iv x) true (realm_fits_115_sk names most v) (realm_fits_115 names most v) (realm_fits_115_ok names most v)
noncomputable def realm_Check_c3_sk (i : Int) (v : Realm) : Sk (Bool) :=
 .r 1 (.andl (.p (ixP i v.firms.length)) (.dep ((realm_in_k ((v.firms.getD i.toNat default).city) ((v.cities.length : Nat) : Int)).c) fun x1 => .andl (.wh x1 true (.p (ixP i v.firms.length))) (.wh x1 true ((realm_in_k ((v.firms.getD i.toNat default).group) ((v.groups.length : Nat) : Int)).c)))) fun p3 =>
 .fin (p3.1 && p3.2)
noncomputable def realm_Check_c3 i v := (realm_Check_c3_sk i v).val
theorem realm_Check_c3_ok (i : Int) (v : Realm) (hi : 0 ≤ i ∧ i < (v.firms.length : Int)) : (realm_Check_c3_sk i v).obs (fun _ => True) := by
  unfold realm_Check_c3_sk
  try simp only [realm_in_k, realm_in_eq]
  exact okG

noncomputable def realm_Check_c3_k i v := kk tok mixed Tryz.func118 [iv i, .ref v.cells] (fun x => bv x) true (realm_Check_c3_sk i v) (realm_Check_c3 i v) (realm_Check_c3_ok i v)
noncomputable def realm_fits_118_sk (names : List ByteArray) (most : Int) (v : Realm) : Sk (Int) :=
 .br (decide (((names.length : Nat) : Int) > most))
 (.fin 6)
 (.bt
 (.loop (default : Sum (Int) (Unit)) (fun i2 => i2 ≤ names.length) (fun i2 => names.length - i2) (0 : Nat)
 (fun (i2 : Nat) => ⟨[(15, iv ((i2 : Nat) : Int))], []⟩) fun i2 =>
 .lt 0 0 i2 names.length
 (.r 6 ((realm_named_k names ((i2 : Nat) : Int)).c) fun x3 =>
 .br (x3 != 0)
 (.fin (.inl (.inl x3)))
 (.r 9 ((realm_Check_c3_k ((i2 : Nat) : Int) v).c) fun x4 =>
 .br (!x4)
 (.fin (.inl (.inl 1)))
 (.nx 11 15 i2 (i2 + 1))))
 (.fin (.inl (.inr ()))))
 (fun (_ : Unit) => ⟨[], []⟩) fun _ =>
 .fin 0)
noncomputable def realm_fits_118 names most v := (realm_fits_118_sk names most v).val
theorem realm_fits_118_ok (names : List ByteArray) (most : Int) (v : Realm) (hv : names.length ≤ v.firms.length) : (realm_fits_118_sk names most v).obs (fun _ => True) := by
  unfold realm_fits_118_sk
  try simp only [realm_Check_c3_k, realm_named_k]
  exact okD

noncomputable def realm_fits_118_k names most v := kk tok mixed Tryz.func113 [lv strC names, iv most, .fn 118 [.ref v.cells]] (fun x => iv x) true (realm_fits_118_sk names most v) (realm_fits_118 names most v) (realm_fits_118_ok names most v)
noncomputable def realm_order_sk (o : Order) : Sk (Bool) :=
 .bind true (fun b1 => b1.length ≤ 0 + o.choices.length)
 (.loop (default : Sum (Bool) ((List Int))) (fun i2 => i2.2 ≤ o.choices.length ∧ i2.1.length ≤ 0 + i2.2) (fun i2 => o.choices.length - i2.2) (([], 0) : (List Int) × Nat)
 (fun (i2 : (List Int) × Nat) => ⟨[(3, ow 100002 i2.1), (12, iv ((i2.2 : Nat) : Int))], [(100002, rowB 3 1 intC i2.1)]⟩) fun i2 =>
 .lt 10 0 i2.2 o.choices.length
 (.r 4 (.p (ixP ((i2.2 : Nat) : Int) o.choices.length)) fun _ =>
 .r 5 (.andl (.o [.nrm (litC intE [(o.choices.getD i2.2 default).ask])]) (.andl (.o [.nrm (catC intE i2.1 [(o.choices.getD i2.2 default).ask])]) (.andl (.t (intE.ones [(o.choices.getD i2.2 default).ask])) (.p (szP i2.1.length [(o.choices.getD i2.2 default).ask].length 8))))) fun _ =>
 .r 6 ((realm_in_k ((o.choices.getD i2.2 default).by_) 5).c) fun x3 =>
 .br (!x3)
 (.fin (.inl (.inl false)))
 (.nx 8 12 i2.2 (i2.1 ++ [(o.choices.getD i2.2 default).ask], i2.2 + 1)))
 (.fin (.inl (.inr i2.1))))
 (fun (b1 : (List Int)) => ⟨[(3, ow 100001 b1)], [(100001, rowB 3 1 intC b1)]⟩) fun b1 =>
 .bind true (fun b4 => b4.length ≤ 0 + o.rules.length)
 (.loop (default : Sum (Bool) ((List Int))) (fun i5 => i5.2 ≤ o.rules.length ∧ i5.1.length ≤ 0 + i5.2) (fun i5 => o.rules.length - i5.2) (([], 0) : (List Int) × Nat)
 (fun (i5 : (List Int) × Nat) => ⟨[(4, ow 100005 i5.1), (29, iv ((i5.2 : Nat) : Int))], [(100005, rowB 3 1 intC i5.1)]⟩) fun i5 =>
 .lt 27 0 i5.2 o.rules.length
 (.r 11 (.p (ixP ((i5.2 : Nat) : Int) o.rules.length)) fun _ =>
 .r 12 (.andl (.o [.nrm (litC intE [(o.rules.getD i5.2 default).ask])]) (.andl (.o [.nrm (catC intE i5.1 [(o.rules.getD i5.2 default).ask])]) (.andl (.t (intE.ones [(o.rules.getD i5.2 default).ask])) (.p (szP i5.1.length [(o.rules.getD i5.2 default).ask].length 8))))) fun _ =>
 .nx 13 29 i5.2 (i5.1 ++ [(o.rules.getD i5.2 default).ask], i5.2 + 1))
 (.fin (.inl (.inr i5.1))))
 (fun (b4 : (List Int)) => ⟨[(4, ow 100004 b4)], [(100004, rowB 3 1 intC b4)]⟩) fun b4 =>
 .r 14 (.dep ((realm_rising_k b1 0 21).c) fun x6 => .wh x6 true ((realm_rising_k b4 0 21).c)) fun p8 =>
 .fin (p8.1 && p8.2)
noncomputable def realm_order o := (realm_order_sk o).val
theorem realm_order_ok (o : Order) (ho : o.choices.length ≤ 1000000 ∧ o.rules.length ≤ 1000000) : (realm_order_sk o).obs (fun _ => True) := by
  unfold realm_order_sk
  try simp only [realm_in_k, realm_rising_k, realm_in_eq]
  exact okG

noncomputable def realm_order_k o := kk tok mixed Tryz.func120 [av o.cells] (fun x => bv x) true (realm_order_sk o) (realm_order o) (realm_order_ok o)
noncomputable def realm_Check_c4_sk (i : Int) (v : Realm) : Sk (Bool) :=
 .r 1 (.andl (.p (ixP i v.orders.length)) ((realm_order_k (v.orders.getD i.toNat default)).c)) fun x1 =>
 .fin x1
noncomputable def realm_Check_c4 i v := (realm_Check_c4_sk i v).val
theorem realm_Check_c4_ok (i : Int) (v : Realm) (hi : 0 ≤ i ∧ i < (v.orders.length : Int)) (hv : v.Small) : (realm_Check_c4_sk i v).obs (fun _ => True) := by
  simp only [File.Small, Realm.Small] at hv
  unfold realm_Check_c4_sk
  try simp only [realm_order_k, File.Small, Realm.Small]
  exact okD

noncomputable def realm_Check_c4_k i v := kk tok mixed Tryz.func119 [iv i, .ref v.cells] (fun x => bv x) true (realm_Check_c4_sk i v) (realm_Check_c4 i v) (u2 (realm_Check_c4_ok i v))
noncomputable def realm_fits_119_sk (names : List ByteArray) (most : Int) (v : Realm) : Sk (Int) :=
 .br (decide (((names.length : Nat) : Int) > most))
 (.fin 6)
 (.bt
 (.loop (default : Sum (Int) (Unit)) (fun i2 => i2 ≤ names.length) (fun i2 => names.length - i2) (0 : Nat)
 (fun (i2 : Nat) => ⟨[(15, iv ((i2 : Nat) : Int))], []⟩) fun i2 =>
 .lt 0 0 i2 names.length
 (.r 6 ((realm_named_k names ((i2 : Nat) : Int)).c) fun x3 =>
 .br (x3 != 0)
 (.fin (.inl (.inl x3)))
 (.r 9 ((realm_Check_c4_k ((i2 : Nat) : Int) v).c) fun x4 =>
 .br (!x4)
 (.fin (.inl (.inl 1)))
 (.nx 11 15 i2 (i2 + 1))))
 (.fin (.inl (.inr ()))))
 (fun (_ : Unit) => ⟨[], []⟩) fun _ =>
 .fin 0)
noncomputable def realm_fits_119 names most v := (realm_fits_119_sk names most v).val
theorem realm_fits_119_ok (names : List ByteArray) (most : Int) (v : Realm) (hv : names.length ≤ v.orders.length) (hs : v.Small) : (realm_fits_119_sk names most v).obs (fun _ => True) := by
  simp only [File.Small, Realm.Small] at hs
  unfold realm_fits_119_sk
  try simp only [realm_Check_c4_k, realm_named_k, File.Small, Realm.Small]
  exact okD

noncomputable def realm_fits_119_k names most v := kk tok mixed Tryz.func113 [lv strC names, iv most, .fn 119 [.ref v.cells]] (fun x => iv x) true (realm_fits_119_sk names most v) (realm_fits_119 names most v) (u2 (realm_fits_119_ok names most v))
noncomputable def realm_usances_sk (r : Realm) : Sk (Int) :=
 .br (decide (((r.usances.length : Nat) : Int) > 100))
 (.fin 6)
 (.bt
 (.loop (default : Sum (Int) (Unit)) (fun i2 => i2 ≤ r.usances.length) (fun i2 => r.usances.length - i2) (0 : Nat)
 (fun (i2 : Nat) => ⟨[(14, iv ((i2 : Nat) : Int))], []⟩) fun i2 =>
 .lt 12 0 i2 r.usances.length
 (.bt
 (.r 5 (.p (ixP ((i2 : Nat) : Int) r.usances.length)) fun _ =>
 .r 6 (.dep ((realm_in_k ((r.usances.getD i2 default).from_) ((r.cities.length : Nat) : Int)).c) fun x4 => .wh (!x4) false ((realm_in_k ((r.usances.getD i2 default).to_) ((r.cities.length : Nat) : Int)).c)) fun p8 =>
 .br ((((!p8.1) || (!p8.2)) || (decide (((r.usances.getD i2 default).days) < 1))) || (decide (((r.usances.getD i2 default).days) > 20000)))
 (.fin (.inl (.inl (.inl 1))))
 (.r 8 (.andl (.o [.nrm (subC Usance.E r.usances 0 i2)]) (.pt (0 ≤ ((i2 : Nat) : Int) ∧ ((i2 : Nat) : Int) ≤ ((r.usances.length : Nat) : Int)) (Usance.E.lens r.usances))) fun _ =>
 .bt
 (.loop (default : Sum (Sum (Sum (Sum (Int) (Unit)) (Nat)) (Int × Int × Usance × Int × (List City) × Int × Bool × Bool × Bool × Bool × Bool × Bool × Bool × Bool × (List Usance) × Int × (List Usance) × Int × Int × Bool)) (Int × Bool)) (fun i7 => i7 ≤ (subL r.usances 0 i2).length) (fun i7 => (subL r.usances 0 i2).length - i7) (0 : Nat)
 (fun (i7 : Nat) => ⟨[(50, iv ((i7 : Nat) : Int))], []⟩) fun i7 =>
 .lt 48 0 i7 ((subL r.usances 0 i2).length)
 (.r 10 (.p (ixP ((i7 : Nat) : Int) ((subL r.usances 0 i2).length))) fun _ =>
 .br (((((subL r.usances 0 i2).getD i7 default).from_) == ((r.usances.getD i2 default).from_)) && ((((subL r.usances 0 i2).getD i7 default).to_) == ((r.usances.getD i2 default).to_)))
 (.fin (.inl (.inl (.inl (.inl (.inl 5))))))
 (.nx 13 50 i7 (i7 + 1)))
 (.fin (.inl (.inr (((i7 : Nat) : Int), decide (((i7 : Nat) : Int) < (((subL r.usances 0 i2).length : Nat) : Int)))))))
 (fun (b6 : Int × Bool) => ⟨[(50, iv b6.1), (51, bv b6.2)], []⟩) fun b6 =>
 .fin (.inr (((i2 : Nat) : Int), ((i2 : Nat) : Int), r.usances.getD i2 default, (r.usances.getD i2 default).from_, r.cities, ((r.cities.length : Nat) : Int), p8.1, !p8.1, !p8.1, (!p8.1) || (!p8.2), (!p8.1) || (!p8.2), ((!p8.1) || (!p8.2)) || (decide (((r.usances.getD i2 default).days) < 1)), ((!p8.1) || (!p8.2)) || (decide (((r.usances.getD i2 default).days) < 1)), (((!p8.1) || (!p8.2)) || (decide (((r.usances.getD i2 default).days) < 1))) || (decide (((r.usances.getD i2 default).days) > 20000)), r.usances, ((i2 : Nat) : Int), subL r.usances 0 i2, (((subL r.usances 0 i2).length : Nat) : Int), b6.1, b6.2))))
 (fun (b3 : Int × Int × Usance × Int × (List City) × Int × Bool × Bool × Bool × Bool × Bool × Bool × Bool × Bool × (List Usance) × Int × (List Usance) × Int × Int × Bool) => ⟨[(3, iv b3.1), (16, iv b3.2.1), (18, av b3.2.2.1.cells), (20, iv b3.2.2.2.1), (22, lv City.cells b3.2.2.2.2.1), (23, iv b3.2.2.2.2.2.1), (24, bv b3.2.2.2.2.2.2.1), (25, bv b3.2.2.2.2.2.2.2.1), (26, bv b3.2.2.2.2.2.2.2.2.1), (34, bv b3.2.2.2.2.2.2.2.2.2.1), (35, bv b3.2.2.2.2.2.2.2.2.2.2.1), (39, bv b3.2.2.2.2.2.2.2.2.2.2.2.1), (40, bv b3.2.2.2.2.2.2.2.2.2.2.2.2.1), (44, bv b3.2.2.2.2.2.2.2.2.2.2.2.2.2.1), (46, lv Usance.cells b3.2.2.2.2.2.2.2.2.2.2.2.2.2.2.1), (47, iv b3.2.2.2.2.2.2.2.2.2.2.2.2.2.2.2.1), (48, lv Usance.cells b3.2.2.2.2.2.2.2.2.2.2.2.2.2.2.2.2.1), (49, iv b3.2.2.2.2.2.2.2.2.2.2.2.2.2.2.2.2.2.1), (50, iv b3.2.2.2.2.2.2.2.2.2.2.2.2.2.2.2.2.2.2.1), (51, bv b3.2.2.2.2.2.2.2.2.2.2.2.2.2.2.2.2.2.2.2)], []⟩) fun _ =>
 .nx 14 14 i2 (i2 + 1))
 (.fin (.inl (.inr ()))))
 (fun (_ : Unit) => ⟨[], []⟩) fun _ =>
 .fin 0)
noncomputable def realm_usances r := (realm_usances_sk r).val
theorem realm_usances_ok (r : Realm) : (realm_usances_sk r).obs (fun _ => True) := by
  unfold realm_usances_sk
  try simp only [realm_in_k, realm_in_eq]
  exact okG

noncomputable def realm_usances_k r := kk tok mixed Tryz.func121 [av r.cells] (fun x => iv x) true (realm_usances_sk r) (realm_usances r) (u0 (realm_usances_ok r))
noncomputable def realm_rest_sk (r : Realm) : Sk (Int) :=
 .br (decide (((r.rates.length : Nat) : Int) > 100))
 (.fin 6)
 (.bt
 (.loop (default : Sum (Int) (Unit)) (fun i2 => i2 ≤ r.rates.length) (fun i2 => r.rates.length - i2) (0 : Nat)
 (fun (i2 : Nat) => ⟨[(14, iv ((i2 : Nat) : Int))], []⟩) fun i2 =>
 .lt 12 0 i2 r.rates.length
 (.r 5 (.p (ixP ((i2 : Nat) : Int) r.rates.length)) fun _ =>
 .r 6 (.dep ((realm_in_k ((r.rates.getD i2 default).from_) ((r.currencies.length : Nat) : Int)).c) fun x3 => .dep (.wh (!x3) false ((realm_in_k ((r.rates.getD i2 default).to_) ((r.currencies.length : Nat) : Int)).c)) fun x4 => .dep (.wh (((!x3) || (!x4)) || (((r.rates.getD i2 default).from_) == ((r.rates.getD i2 default).to_))) false ((realm_in_k (w64 (((r.rates.getD i2 default).num) - 1)) 1073741824).c)) fun x5 => .dep (.wh ((((!x3) || (!x4)) || (((r.rates.getD i2 default).from_) == ((r.rates.getD i2 default).to_))) || (!x5)) false ((realm_in_k (w64 (((r.rates.getD i2 default).den) - 1)) 1073741824).c)) fun x6 => .wh (((((!x3) || (!x4)) || (((r.rates.getD i2 default).from_) == ((r.rates.getD i2 default).to_))) || (!x5)) || (!x6)) false ((realm_in_k ((r.rates.getD i2 default).since) 100001).c)) fun p8 =>
 .br ((((((!p8.1) || (!p8.2.1)) || (((r.rates.getD i2 default).from_) == ((r.rates.getD i2 default).to_))) || (!p8.2.2.1)) || (!p8.2.2.2.1)) || (!p8.2.2.2.2))
 (.fin (.inl (.inl 1)))
 (.nx 8 14 i2 (i2 + 1)))
 (.fin (.inl (.inr ()))))
 (fun (_ : Unit) => ⟨[], []⟩) fun _ =>
 .br (decide (((r.halts.length : Nat) : Int) > 20))
 (.fin 6)
 (.bind true (fun b9 => r.HaltOK)
 (.loop (default : Sum (Int) (Unit)) (fun i10 => (∀ i, i < i10 → (r.halts.getD i default).to_ ≤ 100000) ∧ i10 ≤ r.halts.length) (fun i10 => r.halts.length - i10) (0 : Nat)
 (fun (i10 : Nat) => ⟨[(69, iv ((i10 : Nat) : Int))], []⟩) fun i10 =>
 .lt 67 0 i10 r.halts.length
 (.r 13 (.p (ixP ((i10 : Nat) : Int) r.halts.length)) fun _ =>
 .r 14 ((realm_in_k ((r.halts.getD i10 default).order) ((r.orders.length : Nat) : Int)).c) fun x11 =>
 .br ((((!x11) || (decide (((r.halts.getD i10 default).from_) < 0))) || (decide (((r.halts.getD i10 default).from_) > ((r.halts.getD i10 default).to_)))) || (decide (((r.halts.getD i10 default).to_) > 100000)))
 (.fin (.inl (.inl 1)))
 (.nx 16 69 i10 (i10 + 1)))
 (.fin (.inl (.inr ()))))
 (fun (_ : Unit) => ⟨[], []⟩) fun _ =>
 .fin 0))
noncomputable def realm_rest r := (realm_rest_sk r).val
theorem realm_rest_pst (r : Realm) : (realm_rest_sk r).pst (fun (x : Int) => x = 0 → r.HaltOK) := by
  unfold realm_rest_sk
  try simp only [realm_in_k, realm_in_eq, Realm.HaltOK]
  exact okQ

theorem realm_rest_ok (r : Realm) : (realm_rest_sk r).obs (fun _ => True) := by
  unfold realm_rest_sk
  try simp only [realm_in_k, realm_in_eq, Realm.HaltOK]
  exact okG

noncomputable def realm_rest_k r := kp tok mixed Tryz.func122 [av r.cells] (fun x => iv x) true (realm_rest r) (u0 (realm_rest_ok r)) (realm_rest_pst r)
noncomputable def realm_Check_sk (r : Realm) : Sk (Int) :=
 .r 1 ((realm_names_k r).c) fun x1 =>
 .r 2 ((realm_fits_114_k r.currencies 8).c) fun x2 =>
 .br (x2 != 0)
 (.fin x2)
 (.r 5 ((realm_fits_115_k x1.1 40 r).c) fun x3 =>
 .br (x3 != 0)
 (.fin x3)
 (.br (decide (((r.groups.length : Nat) : Int) > 20))
 (.fin 6)
 (.bt
 (.loop (default : Sum (Int) (Unit)) (fun i5 => i5 ≤ r.groups.length) (fun i5 => r.groups.length - i5) (0 : Nat)
 (fun (i5 : Nat) => ⟨[(38, iv ((i5 : Nat) : Int))], []⟩) fun i5 =>
 .lt 36 0 i5 r.groups.length
 (.r 12 (.p (ixP ((i5 : Nat) : Int) r.groups.length)) fun _ =>
 .r 13 ((realm_in_k ((r.groups.getD i5 default).grade) 10).c) fun x6 =>
 .br (!x6)
 (.fin (.inl (.inl 1)))
 (.nx 15 38 i5 (i5 + 1)))
 (.fin (.inl (.inr ()))))
 (fun (_ : Unit) => ⟨[], []⟩) fun _ =>
 .r 16 ((realm_fits_118_k x1.2.1 200 r).c) fun x7 =>
 .br (x7 != 0)
 (.fin x7)
 (.r 19 ((realm_fits_119_k x1.2.2 20 r).c) fun x8 =>
 .br (x8 != 0)
 (.fin x8)
 (.r 22 ((realm_usances_k r).c) fun x9 =>
 .br (x9 != 0)
 (.fin x9)
 (.r 25 ((realm_rest_k r).c) fun x10 =>
 .fin x10))))))
noncomputable def realm_Check r := (realm_Check_sk r).val
theorem realm_Check_pst (r : Realm) : (realm_Check_sk r).pst (fun (x : Int) => x = 0 → r.HaltOK) := by
  unfold realm_Check_sk
  try simp only [realm_fits_114_k, realm_fits_115_k, realm_fits_118_k, realm_fits_119_k, realm_in_k, realm_names_k, realm_rest_k, realm_usances_k, realm_in_eq, File.Small, Realm.Small, Realm.HaltOK]
  exact okQ

theorem realm_Check_ok (r : Realm) (hr : r.Small) : (realm_Check_sk r).obs (fun _ => True) := by
  simp only [File.Small, Realm.Small, Realm.HaltOK] at hr
  unfold realm_Check_sk
  try simp only [realm_fits_114_k, realm_fits_115_k, realm_fits_118_k, realm_fits_119_k, realm_in_k, realm_names_k, realm_rest_k, realm_usances_k, realm_in_eq, File.Small, Realm.Small, Realm.HaltOK]
  exact okG

noncomputable def realm_Check_k r := kp tok mixed Tryz.func79 [av r.cells] (fun x => iv x) true (realm_Check r) (realm_Check_ok r) (realm_Check_pst r)
noncomputable def wording_index_sk (n : Int) (length : Int) : Sk (Bool) :=
 .fin ((decide (n ≥ 0)) && (decide (n < length)))
noncomputable def wording_index n length := (wording_index_sk n length).val
theorem wording_index_eq (n : Int) (length : Int) : wording_index n length = ((decide (n ≥ 0)) && (decide (n < length))) := rfl
theorem wording_index_ok (n : Int) (length : Int) : (wording_index_sk n length).obs (fun _ => True) := by
  unfold wording_index_sk
  exact okE

noncomputable def wording_index_k n length := kk tok mixed Tryz.func80 [iv n, iv length] (fun x => bv x) true (wording_index_sk n length) (wording_index n length) (u0 (wording_index_ok n length))
noncomputable def wording_tenor_sk (b : Bill) : Sk (Bool) :=
 .bind false (fun _ => True)
 (.br (b.tenor.kind == 0)
 (.fin (.inr (b.tenor.kind == 0)))
 (.fin (.inr (b.tenor.kind == 4))))
 (fun (b1 : Bool) => ⟨[(8, bv b1)], []⟩) fun b1 =>
 .br b1
 (.fin ((b.tenor.n == 0) && (b.tenor.unit == 0)))
 (.bind false (fun _ => True)
 (.br (b.tenor.kind == 1)
 (.fin (.inr (b.tenor.kind == 1)))
 (.fin (.inr (b.tenor.kind == 2))))
 (fun (b2 : Bool) => ⟨[(19, bv b2)], []⟩) fun b2 =>
 .br b2
 (.fin (((decide (b.tenor.n ≥ 1)) && (decide (b.tenor.n ≤ 400))) && ((b.tenor.unit == 0) || (b.tenor.unit == 1))))
 (.br (b.tenor.kind == 3)
 (.fin (((decide (b.tenor.n ≥ b.day)) && (decide (b.tenor.n ≤ 100000))) && (b.tenor.unit == 0)))
 (.fin false)))
noncomputable def wording_tenor b := (wording_tenor_sk b).val
theorem wording_tenor_ok (b : Bill) : (wording_tenor_sk b).obs (fun _ => True) := by
  unfold wording_tenor_sk
  exact okE

noncomputable def wording_tenor_k b := kk tok mixed Tryz.func81 [av b.cells] (fun x => bv x) true (wording_tenor_sk b) (wording_tenor b) (u0 (wording_tenor_ok b))
noncomputable def realm_Usance_sk (r : Realm) (from_ : Int) (to_ : Int) : Sk (Int × Int) :=
 .bt
 (.loop (default : Sum (Int × Int) (Unit)) (fun i2 => i2 ≤ r.usances.length) (fun i2 => r.usances.length - i2) (0 : Nat)
 (fun (i2 : Nat) => ⟨[(13, iv ((i2 : Nat) : Int))], []⟩) fun i2 =>
 .lt 11 0 i2 r.usances.length
 (.r 3 (.p (ixP ((i2 : Nat) : Int) r.usances.length)) fun _ =>
 .br ((((r.usances.getD i2 default).from_) == from_) && (((r.usances.getD i2 default).to_) == to_))
 (.fin (.inl (.inl ((r.usances.getD i2 default).days, 0))))
 (.nx 6 13 i2 (i2 + 1)))
 (.fin (.inl (.inr ()))))
 (fun (_ : Unit) => ⟨[], []⟩) fun _ =>
 .fin (0, 4)
noncomputable def realm_Usance r from_ to_ := (realm_Usance_sk r from_ to_).val
theorem realm_Usance_ok (r : Realm) (from_ : Int) (to_ : Int) : (realm_Usance_sk r from_ to_).obs (fun _ => True) := by
  unfold realm_Usance_sk
  exact okD

noncomputable def realm_Usance_k r from_ to_ := kk tok mixed Tryz.func82 [av r.cells, iv from_, iv to_] (fun x => .tup [iv x.1, iv x.2]) true (realm_Usance_sk r from_ to_) (realm_Usance r from_ to_) (u0 (realm_Usance_ok r from_ to_))
noncomputable def wording_Check_sk (r : Realm) (b : Bill) : Sk (Int) :=
 .r 1 ((realm_Check_k r).c) fun x1 =>
 .br (x1 != 0)
 (.fin x1)
 (.r 5 (.dep ((wording_index_k b.drawer ((r.firms.length : Nat) : Int)).c) fun x2 => .dep (.wh x2 true ((wording_index_k b.drawee ((r.firms.length : Nat) : Int)).c)) fun x3 => .dep (.wh (x2 && x3) true (.wh (b.payee == (-1)) false ((wording_index_k b.payee ((r.firms.length : Nat) : Int)).c))) fun x4 => .wh ((x2 && x3) && ((b.payee == (-1)) || x4)) true (.wh (b.need == (-1)) false ((wording_index_k b.need ((r.firms.length : Nat) : Int)).c))) fun p12 =>
 .r 6 (.dep (.wh (!(((p12.1 && p12.2.1) && ((b.payee == (-1)) || p12.2.2.1)) && ((b.need == (-1)) || p12.2.2.2))) false ((wording_index_k b.currency ((r.currencies.length : Nat) : Int)).c)) fun x6 => .dep (.wh ((!(((p12.1 && p12.2.1) && ((b.payee == (-1)) || p12.2.2.1)) && ((b.need == (-1)) || p12.2.2.2))) || (!x6)) false ((wording_index_k b.city ((r.cities.length : Nat) : Int)).c)) fun x7 => .wh (((!(((p12.1 && p12.2.1) && ((b.payee == (-1)) || p12.2.2.1)) && ((b.need == (-1)) || p12.2.2.2))) || (!x6)) || (!x7)) false ((wording_index_k b.pay ((r.cities.length : Nat) : Int)).c)) fun p11 =>
 .br ((((!(((p12.1 && p12.2.1) && ((b.payee == (-1)) || p12.2.2.1)) && ((b.need == (-1)) || p12.2.2.2))) || (!p11.1)) || (!p11.2.1)) || (!p11.2.2))
 (.fin 1)
 (.br ((((((decide (b.sum < 1)) || (decide (b.sum > 1099511627776))) || (decide (b.day < 0))) || (decide (b.day > 100000))) || (decide (b.rate < 0))) || (decide (b.rate > 1000)))
 (.fin 3)
 (.br ((decide (b.parts < 1)) || (decide (b.parts > 4)))
 (.fin 15)
 (.r 12 (.wh (((decide (b.flags < 0)) || (decide (b.flags > 7))) || (((andK .i64 b.flags 4) != 0) && (b.payee == (-1)))) false ((wording_tenor_k b).c)) fun x9 =>
 .br ((((decide (b.flags < 0)) || (decide (b.flags > 7))) || (((andK .i64 b.flags 4) != 0) && (b.payee == (-1)))) || (!x9))
 (.fin 2)
 (.br (b.tenor.kind == 4)
 (.r 15 ((realm_Usance_k r b.city b.pay).c) fun x10 =>
 .fin x10.2)
 (.fin 0))))))
noncomputable def wording_Check r b := (wording_Check_sk r b).val
theorem wording_Check_pst (r : Realm) (b : Bill) : (wording_Check_sk r b).pst (fun (x : Int) => x = 0 → BillR r b ∧ (b.payee = -1 ∨ (0 ≤ b.payee ∧ b.payee < r.firms.length))) := by
  unfold wording_Check_sk
  try simp only [realm_Check_k, realm_Usance_k, wording_index_k, wording_tenor_k, wording_index_eq, File.Small, Realm.Small, Realm.HaltOK]
  exact okQ

theorem wording_Check_ok (r : Realm) (b : Bill) (h_r_Small : r.Small) : (wording_Check_sk r b).obs (fun _ => True) := by
  simp only [File.Small, Realm.Small, Realm.HaltOK] at h_r_Small
  unfold wording_Check_sk
  try simp only [realm_Check_k, realm_Usance_k, wording_index_k, wording_tenor_k, wording_index_eq, File.Small, Realm.Small, Realm.HaltOK]
  exact okG

noncomputable def wording_Check_k r b := kp tok mixed Tryz.func46 [av r.cells, av b.cells] (fun x => iv x) true (wording_Check r b) (wording_Check_ok r b) (wording_Check_pst r b)
noncomputable def paper_in_sk (n : Int) (low : Int) (high : Int) : Sk (Bool) :=
 .fin ((decide (n ≥ low)) && (decide (n ≤ high)))
noncomputable def paper_in n low high := (paper_in_sk n low high).val
theorem paper_in_eq (n : Int) (low : Int) (high : Int) : paper_in n low high = ((decide (n ≥ low)) && (decide (n ≤ high))) := rfl
theorem paper_in_ok (n : Int) (low : Int) (high : Int) : (paper_in_sk n low high).obs (fun _ => True) := by
  unfold paper_in_sk
  exact okE

noncomputable def paper_in_k n low high := kk tok mixed Tryz.func48 [iv n, iv low, iv high] (fun x => bv x) true (paper_in_sk n low high) (paper_in n low high) (u0 (paper_in_ok n low high))
noncomputable def paper_stands_sk (f : File) (i : Int) (part : Int) : Sk (Bool) :=
 .r 1 (.wh (i == 0) false (.p (ixP i f.signs.length))) fun _ =>
 .fin ((i == 0) || (((f.signs.getD i.toNat default).part) == part))
noncomputable def paper_stands f i part := (paper_stands_sk f i part).val
theorem paper_stands_ok (f : File) (i : Int) (part : Int) (hi : i = 0 ∨ (0 ≤ i ∧ i < (f.signs.length : Int))) : (paper_stands_sk f i part).obs (fun _ => True) := by
  unfold paper_stands_sk
  exact okD

noncomputable def paper_stands_k f i part := kk tok mixed Tryz.func124 [av f.cells, iv i, iv part] (fun x => bv x) true (paper_stands_sk f i part) (paper_stands f i part) (paper_stands_ok f i part)
noncomputable def slices_Index_sk (s : List Int) (v : Int) : Sk (Int) :=
 .bind true (fun b1 => ∀ q, q < s.length → (s.getD q default == v) = false)
 (.loop (default : Sum (Int) (Unit)) (fun i2 => ∀ q, q < i2 → (s.getD q default == v) = false) (fun i2 => s.length - i2) (0 : Nat)
 (fun (i2 : Nat) => ⟨[(8, iv ((i2 : Nat) : Int))], []⟩) fun i2 =>
 .lt 0 0 i2 s.length
 (.r 4 (.p (ixP ((i2 : Nat) : Int) s.length)) fun _ =>
 .br (v == (s.getD i2 default))
 (.fin (.inl (.inl ((i2 : Nat) : Int))))
 (.nx 6 8 i2 (i2 + 1)))
 (.fin (.inl (.inr ()))))
 (fun (_ : Unit) => ⟨[], []⟩) fun _ =>
 .fin (-1)
noncomputable def slices_Index s v := (slices_Index_sk s v).val
theorem slices_Index_pst (s : List Int) (v : Int) : (slices_Index_sk s v).pst (fun (x : Int) => (x = -1 ∧ ∀ q, q < s.length → (s.getD q default == v) = false) ∨ (0 ≤ x ∧ x < s.length ∧ (s.getD x.toNat default == v) = true ∧ ∀ q, (q : Nat) < x.toNat → (s.getD q default == v) = false)) := by
  unfold slices_Index_sk
  exact okP

theorem slices_Index_ok (s : List Int) (v : Int) : (slices_Index_sk s v).obs (fun _ => True) := by
  unfold slices_Index_sk
  exact okD

noncomputable def slices_Index_k s v := kp tok mixed Tryz.func198 [lv intC s, iv v] (fun x => iv x) true (slices_Index s v) (u0 (slices_Index_ok s v)) (slices_Index_pst s v)
noncomputable def slices_Contains_sk (s : List Int) (v : Int) : Sk (Bool) :=
 .r 1 ((slices_Index_k s v).c) fun x1 =>
 .fin (decide (x1 ≥ 0))
noncomputable def slices_Contains s v := (slices_Contains_sk s v).val
theorem slices_Contains_pst (s : List Int) (v : Int) : (slices_Contains_sk s v).pst (fun (x : Bool) => (x = true ↔ ∃ q, q < s.length ∧ (s.getD q default == v) = true)) := by
  unfold slices_Contains_sk
  try simp only [slices_Index_k]
  exact okP

theorem slices_Contains_ok (s : List Int) (v : Int) : (slices_Contains_sk s v).obs (fun _ => True) := by
  unfold slices_Contains_sk
  try simp only [slices_Index_k]
  exact okE

noncomputable def slices_Contains_k s v := kp tok mixed Tryz.func168 [lv intC s, iv v] (fun x => bv x) true (slices_Contains s v) (u0 (slices_Contains_ok s v)) (slices_Contains_pst s v)
noncomputable def paper_bears_sk (f : File) (i : Int) (kinds : List Int) : Sk (Bool) :=
 .r 1 (.p (ixP i f.signs.length)) fun _ =>
 .r 2 (.dep ((paper_in_k ((f.signs.getD i.toNat default).for_) 0 (w64 (i - 1))).c) fun x1 => .andl (.wh x1 true (.p (ixP i f.signs.length))) (.dep (.wh x1 true ((paper_stands_k f ((f.signs.getD i.toNat default).for_) ((f.signs.getD i.toNat default).part)).c)) fun x2 => .andl (.wh (x1 && x2) true (.p (ixP ((f.signs.getD i.toNat default).for_) f.signs.length))) (.wh (x1 && x2) true ((slices_Contains_k kinds ((f.signs.getD (((f.signs.getD i.toNat default).for_).toNat) default).kind)).c)))) fun p4 =>
 .fin ((p4.1 && p4.2.1) && p4.2.2)
noncomputable def paper_bears f i kinds := (paper_bears_sk f i kinds).val
theorem paper_bears_pst (f : File) (i : Int) (kinds : List Int) (hP : (0 ≤ i ∧ i < (f.signs.length : Int)) ∧ f.signs.length ≤ 40) : (paper_bears_sk f i kinds).pst (fun (x : Bool) => x = true → 0 ≤ (f.signs.getD i.toNat default).for_ ∧ (f.signs.getD i.toNat default).for_ < i) := by
  unfold paper_bears_sk
  try simp only [paper_in_k, paper_stands_k, slices_Contains_k, paper_in_eq]
  exact okQ

theorem paper_bears_post (f : File) (i : Int) (kinds : List Int) : (fun (x : Bool) => ((0 ≤ i ∧ i < (f.signs.length : Int)) ∧ f.signs.length ≤ 40) → (x = true → 0 ≤ (f.signs.getD i.toNat default).for_ ∧ (f.signs.getD i.toNat default).for_ < i)) (paper_bears f i kinds) := fun hP => have h := Sk.pval _ (paper_bears_pst f i kinds hP); h
theorem paper_bears_ok (f : File) (i : Int) (kinds : List Int) (hi : 0 ≤ i ∧ i < (f.signs.length : Int)) (hf : f.signs.length ≤ 1000000) : (paper_bears_sk f i kinds).obs (fun _ => True) := by
  unfold paper_bears_sk
  try simp only [paper_in_k, paper_stands_k, slices_Contains_k, paper_in_eq]
  exact okG

noncomputable def paper_bears_k f i kinds := kk tok mixed Tryz.func123 [av f.cells, iv i, lv intC kinds] (fun x => bv x) true (paper_bears_sk f i kinds) (paper_bears f i kinds) (u2 (paper_bears_ok f i kinds)) (fun (x : Bool) => ((0 ≤ i ∧ i < (f.signs.length : Int)) ∧ f.signs.length ≤ 40) → (x = true → 0 ≤ (f.signs.getD i.toNat default).for_ ∧ (f.signs.getD i.toNat default).for_ < i)) (paper_bears_post f i kinds)
noncomputable def paper_fits_sk (r : Realm) (f : File) (i : Int) : Sk (Bool) :=
 .r 1 (.p (ixP i f.signs.length)) fun _ =>
 .br ((!((i == 0) == (((f.signs.getD i.toNat default).kind) == 0))) || ((((f.signs.getD i.toNat default).kind) != 2) && (((f.signs.getD i.toNat default).to_) != (-1))))
 (.fin false)
 (.br (((((f.signs.getD i.toNat default).kind) != 3) && (((f.signs.getD i.toNat default).kind) != 4)) && (((f.signs.getD i.toNat default).for_) != (-1)))
 (.fin false)
 (.r 7 ((paper_in_k ((f.signs.getD i.toNat default).sum) 1 1099511627776).c) fun x1 =>
 .br (((f.signs.getD i.toNat default).kind) == 0)
 (.fin ((((((((f.signs.getD i.toNat default).who) == f.bill.drawer) && (((f.signs.getD i.toNat default).sum) == 0)) && ((orK .i64 ((f.signs.getD i.toNat default).flags) 1) == 1)) && (((f.signs.getD i.toNat default).part) == 0)) && (((f.signs.getD i.toNat default).day) == f.bill.day)) && (((f.signs.getD i.toNat default).city) == f.bill.city)))
 (.br (((f.signs.getD i.toNat default).kind) == 1)
 (.fin ((((f.signs.getD i.toNat default).who) == f.bill.drawee) && (x1 && (((f.signs.getD i.toNat default).flags) == 0))))
 (.br (((f.signs.getD i.toNat default).kind) == 2)
 (.r 15 (.dep ((paper_in_k ((f.signs.getD i.toNat default).to_) (-1) (w64 (((r.firms.length : Nat) : Int) - 1))).c) fun x2 => .wh (x2 && (((f.signs.getD i.toNat default).sum) == 0)) true ((paper_in_k ((f.signs.getD i.toNat default).flags) 0 7).c)) fun p4 =>
 .fin (((p4.1 && (((f.signs.getD i.toNat default).sum) == 0)) && p4.2) && ((andK .i64 ((f.signs.getD i.toNat default).flags) 6) != 6)))
 (.br (((f.signs.getD i.toNat default).kind) == 3)
 (.r 17 (.andl (.wh ((((f.signs.getD i.toNat default).sum) == 0) && (((f.signs.getD i.toNat default).flags) == 0)) true (.o [.nrm (litC intE [0, 1, 2, 4])])) (.wh ((((f.signs.getD i.toNat default).sum) == 0) && (((f.signs.getD i.toNat default).flags) == 0)) true ((paper_bears_k f i [0, 1, 2, 4]).c))) fun x5 =>
 .fin (((((f.signs.getD i.toNat default).sum) == 0) && (((f.signs.getD i.toNat default).flags) == 0)) && x5))
 (.br (((f.signs.getD i.toNat default).kind) == 4)
 (.r 19 (.andl (.wh ((x1 && (((f.signs.getD i.toNat default).flags) == 0)) && (((f.signs.getD i.toNat default).who) != f.bill.drawee)) true (.o [.nrm (litC intE [0, 2])])) (.wh ((x1 && (((f.signs.getD i.toNat default).flags) == 0)) && (((f.signs.getD i.toNat default).who) != f.bill.drawee)) true ((paper_bears_k f i [0, 2]).c))) fun x6 =>
 .fin (((x1 && (((f.signs.getD i.toNat default).flags) == 0)) && (((f.signs.getD i.toNat default).who) != f.bill.drawee)) && x6))
 (.fin false)))))))
noncomputable def paper_fits r f i := (paper_fits_sk r f i).val
theorem paper_fits_pst (r : Realm) (f : File) (i : Int) (hP : (0 ≤ i ∧ i < (f.signs.length : Int)) ∧ f.signs.length ≤ 40 ∧ r.firms.length ≤ 1000000) : (paper_fits_sk r f i).pst (fun (x : Bool) => x = true → FitOK f i.toNat ∧ ToQ r f i.toNat) := by
  refine Sk.pst_of _ ?_
  unfold paper_fits_sk
  simp only [Sk.pstq, Sk.isLoop, reduceCtorEq, ON, kk, kp, paper_bears_k, paper_in_k, paper_in_eq, forall_eq, maxLen]
  intro _ h1 h2
  obtain ⟨hi, hn, hr⟩ := hP
  have hw : w64 ((r.firms.length : Int) - 1) = (r.firms.length : Int) - 1 := w64_id (by omega) (by omega)
  rw [hw]
  unfold FitOK ToQ SumP
  generalize f.signs.getD i.toNat default = s at *
  have hk0 : (s.kind = 0 ↔ i.toNat = 0) ∧ (s.kind = 2 ∨ s.to_ = -1) := by
    by_cases a : i = 0 <;> by_cases b : s.kind = 0 <;> simp [a, b] at h1 ⊢ <;> omega
  clear h1
  obtain ⟨q1, q2⟩ := hk0
  refine ⟨fun k0 h => ?_, fun k0 => ⟨fun k1 h => ?_, fun k1 => ⟨fun k2 h => ?_, fun k2 => ⟨fun k3 hb h => ?_, fun k3 k4 hb h => ?_⟩⟩⟩⟩
  all_goals simp only [LN] at *
  · exact ⟨⟨by omega, by omega, q1, by omega⟩, by omega⟩
  · exact ⟨⟨by omega, by omega, q1, by omega⟩, by omega⟩
  · exact ⟨⟨by omega, by omega, q1, by omega⟩, by omega⟩
  · have := hb ⟨hi, hn⟩ h.2
    exact ⟨⟨by omega, by omega, q1, fun _ => by omega⟩, by omega⟩
  · have := hb ⟨hi, hn⟩ h.2
    exact ⟨⟨by omega, by omega, q1, fun _ => by omega⟩, by omega⟩

theorem paper_fits_post (r : Realm) (f : File) (i : Int) : (fun (x : Bool) => ((0 ≤ i ∧ i < (f.signs.length : Int)) ∧ f.signs.length ≤ 40 ∧ r.firms.length ≤ 1000000) → (x = true → FitOK f i.toNat ∧ ToQ r f i.toNat)) (paper_fits r f i) := fun hP => have h := Sk.pval _ (paper_fits_pst r f i hP); h
theorem paper_fits_ok (r : Realm) (f : File) (i : Int) (hi : 0 ≤ i ∧ i < (f.signs.length : Int)) (hf : f.signs.length ≤ 1000000) : (paper_fits_sk r f i).obs (fun _ => True) := by
  unfold paper_fits_sk
  try simp only [paper_bears_k, paper_in_k, paper_in_eq]
  exact okG

noncomputable def paper_fits_k r f i := kk tok mixed Tryz.func83 [av r.cells, av f.cells, iv i] (fun x => bv x) true (paper_fits_sk r f i) (paper_fits r f i) (u2 (paper_fits_ok r f i)) (fun (x : Bool) => ((0 ≤ i ∧ i < (f.signs.length : Int)) ∧ f.signs.length ≤ 40 ∧ r.firms.length ≤ 1000000) → (x = true → FitOK f i.toNat ∧ ToQ r f i.toNat)) (paper_fits_post r f i)
theorem subL_getD {α : Type} [Inhabited α] (L : List α) (n i : Nat) (h : i < n) : (subL L 0 n).getD i default = L.getD i default := by
  simp [subL, List.getD, h]
noncomputable def paper_sign_sk (r : Realm) (f : File) (i : Int) : Sk (Int) :=
 .r 1 (.p (ixP i f.signs.length)) fun _ =>
 .r 2 ((paper_in_k ((f.signs.getD i.toNat default).part) 0 (w64 (f.bill.parts - 1))).c) fun x1 =>
 .br (!x1)
 (.fin 15)
 (.r 4 (.dep ((paper_in_k ((f.signs.getD i.toNat default).who) 0 (w64 (((r.firms.length : Nat) : Int) - 1))).c) fun x2 => .wh (!x2) false ((paper_in_k ((f.signs.getD i.toNat default).city) 0 (w64 (((r.cities.length : Nat) : Int) - 1))).c)) fun p8 =>
 .br ((!p8.1) || (!p8.2))
 (.fin 1)
 (.r 7 (.andl (.o [.nrm (subC Sign.E f.signs 0 i.toNat)]) (.pt (0 ≤ i ∧ i ≤ ((f.signs.length : Nat) : Int)) (Sign.E.lens f.signs))) fun _ =>
 .bind true (fun b4 => b4.1 = (if i.toNat = 0 then f.bill.day else (f.signs.getD (i.toNat - 1) default).day))
 (.loop (default : Sum (Int) (Int × Bool)) (fun i5 => i5.2.2 ≤ i.toNat ∧ i5.1 = (if i5.2.2 = 0 then f.bill.day else (f.signs.getD (i5.2.2 - 1) default).day)) (fun i5 => (subL f.signs 0 i.toNat).length - i5.2.2) ((f.bill.day, false, 0) : Int × Bool × Nat)
 (fun (i5 : Int × Bool × Nat) => ⟨[(8, iv i5.1), (9, bv i5.2.1), (51, iv ((i5.2.2 : Nat) : Int))], []⟩) fun i5 =>
 .lt 49 0 i5.2.2 ((subL f.signs 0 i.toNat).length)
 (.r 9 (.p (ixP ((i5.2.2 : Nat) : Int) ((subL f.signs 0 i.toNat).length))) fun _ =>
 .r 12 .z fun _ =>
 .wi 51 (w64 (((i5.2.2 : Nat) : Int) + 1)) ((i5.2.2 + 1 : Nat) : Int) <|
 .fin (.inr (((subL f.signs 0 i.toNat).getD i5.2.2 default).day, i5.2.1 || (((((f.signs.getD i.toNat default).kind) == 1) && ((((subL f.signs 0 i.toNat).getD i5.2.2 default).kind) == 1)) && ((((subL f.signs 0 i.toNat).getD i5.2.2 default).part) == ((f.signs.getD i.toNat default).part))), i5.2.2 + 1)))
 (.fin (.inl (.inr (i5.1, i5.2.1)))))
 (fun (b4 : Int × Bool) => ⟨[(8, iv b4.1), (9, bv b4.2)], []⟩) fun b4 =>
 .r 13 ((paper_in_k ((f.signs.getD i.toNat default).day) b4.1 100000).c) fun x6 =>
 .br ((!x6) || ((i == 0) && (((f.signs.getD i.toNat default).day) != b4.1)))
 (.fin 13)
 (.r 15 ((paper_fits_k r f i).c) fun x7 =>
 .br (!x7)
 (.fin 14)
 (.br b4.2
 (.fin 5)
 (.fin 0)))))
noncomputable def paper_sign r f i := (paper_sign_sk r f i).val
theorem paper_sign_pst (r : Realm) (f : File) (i : Int) (hP : (0 ≤ i ∧ i < (f.signs.length : Int)) ∧ f.signs.length ≤ 40 ∧ r.firms.length ≤ 1000000 ∧ BillR r f.bill) : (paper_sign_sk r f i).pst (fun (x : Int) => x = 0 → SgnOK r f i.toNat ∧ ToQ r f i.toNat) := by
  refine Sk.pst_of _ ?_
  unfold paper_sign_sk
  simp only [Sk.pstq, Sk.isLoop, reduceCtorEq, ON, kk, kp, paper_fits_k, paper_in_k, paper_in_eq, forall_eq, File.Small, Realm.Small, maxLen]
  intro _
  obtain ⟨hi, hn, hr, hB⟩ := hP
  have hB2 := hB.2.2.2.1
  refine ⟨fun _ h => absurd h (by decide), fun hpart => ⟨fun _ h => absurd h (by decide), fun hwho _ => ⟨⟨⟨by omega, by simp⟩, fun k hk => ⟨fun hc _ _ => ⟨⟨?_, ?_⟩, ?_⟩, fun hc => ?_⟩⟩, fun b hb => ⟨fun _ h => absurd h (by decide), fun hd hF => ⟨fun _ h => absurd h (by decide), fun hf => ⟨fun _ h => absurd h (by decide), fun _ => ?_⟩⟩⟩⟩⟩⟩
  all_goals (try simp only [LN] at hc)
  · omega
  · rw [subL_getD _ _ _ (by omega), if_neg (by simp)]; rfl
  · simp only [subL_length] at hc ⊢; omega
  · have e : k.2.2 = i.toNat := by omega
    rw [hk.2, e]
  · have hF := hF ⟨hi, hn, hr⟩ (by simpa using hf)
    simp only [LN] at hpart hwho hd
    obtain ⟨⟨w1, w2⟩, _⟩ := hwho
    obtain ⟨⟨d1, d2⟩, d3⟩ := hd
    rw [w64_id (by omega) (by omega)] at w2 hpart
    refine ⟨⟨⟨w1, by omega⟩, fun h0 => ?_, d2, fun h0 => ?_, hpart, hF.1⟩, hF.2⟩
    · rw [if_neg h0] at hb
      rw [← hb]; exact d1
    · rw [if_pos h0] at hb
      rw [← hb]
      rcases d3 with d3 | d3
      · omega
      · exact d3

theorem paper_sign_post (r : Realm) (f : File) (i : Int) : (fun (x : Int) => ((0 ≤ i ∧ i < (f.signs.length : Int)) ∧ f.signs.length ≤ 40 ∧ r.firms.length ≤ 1000000 ∧ BillR r f.bill) → (x = 0 → SgnOK r f i.toNat ∧ ToQ r f i.toNat)) (paper_sign r f i) := fun hP => have h := Sk.pval _ (paper_sign_pst r f i hP); h
theorem paper_sign_ok (r : Realm) (f : File) (i : Int) (hi : 0 ≤ i ∧ i < (f.signs.length : Int)) (hf : f.signs.length ≤ 1000000) (hr : r.Small) : (paper_sign_sk r f i).obs (fun _ => True) := by
  simp only [File.Small, Realm.Small] at hr
  refine Sk.obs_of _ ?_
  unfold paper_sign_sk
  simp only [Sk.obq, Sk.isLoop, reduceCtorEq, ON, kk, kp, paper_fits_k, paper_in_k, paper_in_eq, forall_eq, File.Small, Realm.Small, maxLen]
  refine ⟨hi, fun _ hp hwho => ⟨⟨hi.1, by omega⟩, fun _ => ⟨⟨⟨by omega, by simp⟩, fun k hk hl => ⟨fun hc => ⟨⟨by omega, of_decide_eq_true hc⟩, fun _ _ => ⟨?_, ⟨⟨?_, ?_⟩, ?_⟩⟩⟩, fun hc => ?_⟩⟩, ?_⟩⟩⟩
  all_goals (try simp only [LN] at hc)
  · exact w64_id (by simp only [subL_length] at hl; omega) (by simp only [subL_length] at hl; omega)
  · omega
  · rw [subL_getD _ _ _ (by omega), if_neg (by simp)]; rfl
  · simp only [subL_length] at hc ⊢; omega
  · have e : k.2.2 = i.toNat := by omega
    rw [hk.2, e]
  · intro b hb hd
    exact ⟨hi, hf⟩

noncomputable def paper_sign_k r f i := kk tok mixed Tryz.func47 [av r.cells, av f.cells, iv i] (fun x => iv x) true (paper_sign_sk r f i) (paper_sign r f i) (u3 (paper_sign_ok r f i)) (fun (x : Int) => ((0 ≤ i ∧ i < (f.signs.length : Int)) ∧ f.signs.length ≤ 40 ∧ r.firms.length ≤ 1000000 ∧ BillR r f.bill) → (x = 0 → SgnOK r f i.toNat ∧ ToQ r f i.toNat)) (paper_sign_post r f i)
noncomputable def paper_act_sk (r : Realm) (f : File) (a : ActX) : Sk (Bool) :=
 .r 1 (.dep ((paper_in_k a.at_ 0 (w64 (((f.signs.length : Nat) : Int) - 1))).c) fun x1 => .wh x1 true ((paper_stands_k f a.at_ a.part).c)) fun p11 =>
 .r 2 (.wh (p11.1 && p11.2) true (.p (ixP a.at_ f.signs.length))) fun _ =>
 .r 3 ((paper_in_k a.to_ 0 (w64 (((r.firms.length : Nat) : Int) - 1))).c) fun x3 =>
 .r 4 ((paper_in_k a.who 0 (w64 (((r.firms.length : Nat) : Int) - 1))).c) fun x4 =>
 .br ((!x4) || ((a.kind != 4) && (a.form != 0)))
 (.fin false)
 (.bind false (fun _ => True)
 (.br (a.kind == 0)
 (.fin (.inr (a.kind == 0)))
 (.br (a.kind == 1)
 (.fin (.inr (a.kind == 1)))
 (.fin (.inr (a.kind == 2)))))
 (fun (b5 : Bool) => ⟨[(65, bv b5)], []⟩) fun b5 =>
 .br b5
 (.fin ((x3 && (a.at_ == (-1))) && (a.sum == 0)))
 (.bind false (fun _ => True)
 (.br (a.kind == 3)
 (.fin (.inr (a.kind == 3)))
 (.br (a.kind == 5)
 (.fin (.inr (a.kind == 5)))
 (.fin (.inr (a.kind == 4)))))
 (fun (b6 : Bool) => ⟨[(80, bv b6)], []⟩) fun b6 =>
 .br b6
 (.r 14 (.dep (.wh (x3 && (a.at_ == (-1))) true ((paper_in_k a.sum 0 1099511627776).c)) fun x7 => .wh ((x3 && (a.at_ == (-1))) && x7) true ((paper_in_k a.form 0 1).c)) fun p9 =>
 .fin (((x3 && (a.at_ == (-1))) && p9.1) && p9.2))
 (.br (a.kind == 6)
 (.r 16 (.wh (x3 && ((p11.1 && p11.2) && (((f.signs.getD a.at_.toNat default).who) == a.who))) true ((paper_in_k a.sum 1 1099511627776).c)) fun x10 =>
 .fin ((x3 && ((p11.1 && p11.2) && (((f.signs.getD a.at_.toNat default).who) == a.who))) && x10))
 (.br (a.kind == 9)
 (.fin (((a.to_ == (-1)) && ((p11.1 && p11.2) && (((f.signs.getD a.at_.toNat default).who) == a.who))) && (a.sum == 0)))
 (.fin (((a.to_ == (-1)) && (p11.1 && p11.2)) && (a.sum == 0)))))))
noncomputable def paper_act r f a := (paper_act_sk r f a).val
theorem paper_act_pst (r : Realm) (f : File) (a : ActX) (hP : f.signs.length ≤ 40) : (paper_act_sk r f a).pst (fun (x : Bool) => x = true → (a.at_ = -1 ∨ (0 ≤ a.at_ ∧ a.at_ < (f.signs.length : Int))) ∧ SumP a.sum ∧ (a.kind = 6 → 0 ≤ a.at_ ∧ (f.signs.getD a.at_.toNat default).who = a.who)) := by
  unfold paper_act_sk
  try simp only [paper_in_k, paper_stands_k, paper_in_eq]
  exact okQ

theorem paper_act_post (r : Realm) (f : File) (a : ActX) : (fun (x : Bool) => (f.signs.length ≤ 40) → (x = true → (a.at_ = -1 ∨ (0 ≤ a.at_ ∧ a.at_ < (f.signs.length : Int))) ∧ SumP a.sum ∧ (a.kind = 6 → 0 ≤ a.at_ ∧ (f.signs.getD a.at_.toNat default).who = a.who))) (paper_act r f a) := fun hP => have h := Sk.pval _ (paper_act_pst r f a hP); h
theorem paper_act_ok (r : Realm) (f : File) (a : ActX) (hf : f.signs.length ≤ 1000000) : (paper_act_sk r f a).obs (fun _ => True) := by
  unfold paper_act_sk
  try simp only [paper_in_k, paper_stands_k, paper_in_eq]
  exact okG

noncomputable def paper_act_k r f a := kk tok mixed Tryz.func84 [av r.cells, av f.cells, av a.cells] (fun x => bv x) true (paper_act_sk r f a) (paper_act r f a) (paper_act_ok r f a) (fun (x : Bool) => (f.signs.length ≤ 40) → (x = true → (a.at_ = -1 ∨ (0 ≤ a.at_ ∧ a.at_ < (f.signs.length : Int))) ∧ SumP a.sum ∧ (a.kind = 6 → 0 ≤ a.at_ ∧ (f.signs.getD a.at_.toNat default).who = a.who))) (paper_act_post r f a)
noncomputable def paper_acts_sk (r : Realm) (f : File) : Sk (Int) :=
 .bind true (fun b1 => ∀ q, q < f.acts.length → DoneOK f q)
 (.loop (default : Sum (Int) (Unit)) (fun i2 => i2 ≤ f.acts.length ∧ ∀ q, q < i2 → DoneOK f q) (fun i2 => f.acts.length - i2) (0 : Nat)
 (fun (i2 : Nat) => ⟨[(11, iv ((i2 : Nat) : Int))], []⟩) fun i2 =>
 .lt 9 0 i2 f.acts.length
 (.r 3 (.p (ixP ((i2 : Nat) : Int) f.acts.length)) fun _ =>
 .r 4 ((paper_in_k ((f.acts.getD i2 default).part) 0 (w64 (f.bill.parts - 1))).c) fun x3 =>
 .br (!x3)
 (.fin (.inl (.inl 15)))
 (.r 6 (.dep ((paper_in_k ((f.acts.getD i2 default).city) 0 (w64 (((r.cities.length : Nat) : Int) - 1))).c) fun x4 => .wh (!x4) false ((paper_in_k ((f.acts.getD i2 default).kind) 0 9).c)) fun p10 =>
 .br ((!p10.1) || (!p10.2))
 (.fin (.inl (.inl 1)))
 (.r 8 ((paper_act_k r f (f.acts.getD i2 default)).c) fun x6 =>
 .br (!x6)
 (.fin (.inl (.inl 14)))
 (.bind false (fun b7 => f.bill.day ≤ b7 ∧ (0 ≤ (f.acts.getD i2 default).at_ → (f.signs.getD (f.acts.getD i2 default).at_.toNat default).day ≤ b7))
 (.br (((f.acts.getD i2 default).at_) != (-1))
 (.r 12 (.p (ixP ((f.acts.getD i2 default).at_) f.signs.length)) fun _ =>
 .fin (.inr (maxI f.bill.day ((f.signs.getD (((f.acts.getD i2 default).at_).toNat) default).day))))
 (.fin (.inr f.bill.day)))
 (fun (b7 : Int) => ⟨[(7, iv b7)], []⟩) fun b7 =>
 .bind false (fun b8 => f.bill.day ≤ b8 ∧ (0 ≤ (f.acts.getD i2 default).at_ → (f.signs.getD (f.acts.getD i2 default).at_.toNat default).day ≤ b8) ∧ (i2 ≠ 0 → (f.acts.getD (i2 - 1) default).day ≤ b8))
 (.br (decide (((i2 : Nat) : Int) > 0))
 (.r 14 (.p (ixP (w64 (((i2 : Nat) : Int) - 1)) f.acts.length)) fun _ =>
 .fin (.inr (maxI b7 ((f.acts.getD ((w64 (((i2 : Nat) : Int) - 1)).toNat) default).day))))
 (.fin (.inr b7)))
 (fun (b8 : Int) => ⟨[(7, iv b8)], []⟩) fun b8 =>
 .r 15 ((paper_in_k ((f.acts.getD i2 default).day) b8 100000).c) fun x9 =>
 .br (!x9)
 (.fin (.inl (.inl 13)))
 (.nx 17 11 i2 (i2 + 1))))))
 (.fin (.inl (.inr ()))))
 (fun (_ : Unit) => ⟨[], []⟩) fun _ =>
 .fin 0
noncomputable def paper_acts r f := (paper_acts_sk r f).val
theorem paper_acts_pst (r : Realm) (f : File) (hP : f.signs.length ≤ 40 ∧ f.acts.length ≤ 100) : (paper_acts_sk r f).pst (fun (x : Int) => x = 0 → ∀ q, q < f.acts.length → DoneOK f q) := by
  refine Sk.pst_of _ ?_
  unfold paper_acts_sk
  simp only [Sk.pstq, Sk.isLoop, reduceCtorEq, ON, kk, kp, paper_act_k, paper_in_k, paper_in_eq, forall_eq, maxLen]
  obtain ⟨hf, ha⟩ := hP
  refine ⟨⟨⟨by omega, fun q hq => absurd hq (by omega)⟩, fun k hk => ⟨fun hc _ => ⟨fun _ h => absurd h (by decide), fun _ => ⟨fun _ h => absurd h (by decide), fun _ hact => ⟨fun _ h => absurd h (by decide), fun ha2 => ⟨⟨fun _ _ => ⟨?_, fun _ => ?_⟩, fun hne => ⟨Int.le_refl _, fun h => ?_⟩⟩, fun b _ hb => ⟨⟨fun hk0 _ => ⟨?_, fun h => ?_, fun _ => ?_⟩, fun hk0 => ⟨hb.1, hb.2, fun h => ?_⟩⟩, fun c _ hcc => ⟨fun _ h => absurd h (by decide), fun hd _ => ⟨⟨?_, fun q hq => ?_⟩, ?_⟩⟩⟩⟩⟩⟩⟩, fun hc q hq => hk.2 q (by simp only [LN] at hc; omega)⟩⟩, ?_⟩
  all_goals (try simp only [LN] at hc)
  · unfold maxI; omega
  · unfold maxI; omega
  · simp only [LN] at hne; omega
  · have := hb.1; unfold maxI; omega
  · have := hb.2 h; unfold maxI; omega
  · simp only [LN] at hk0
    have e : (w64 ((k : Int) - 1)).toNat = k - 1 := by rw [w64_id (by omega) (by omega)]; omega
    rw [e]; unfold maxI; omega
  · simp only [LN] at hk0; omega
  · omega
  · simp only [LN] at hd
    by_cases e : q = k
    · subst e
      have A := hact hf (by simpa using ha2)
      exact ⟨A.2.1, ⟨by omega, hd.2⟩, fun h => by have := hcc.2.2 h; omega, fun h6 => ⟨⟨(A.2.2 h6).1, by have := (A.2.2 h6).1; have := A.1; omega⟩, by have := hcc.2.1 (A.2.2 h6).1; omega, (A.2.2 h6).2⟩⟩
    · exact hk.2 q (by omega)
  · omega
  · first | exact fun _ hb => hb | exact fun _ hb _ => hb | trivial

theorem paper_acts_post (r : Realm) (f : File) : (fun (x : Int) => (f.signs.length ≤ 40 ∧ f.acts.length ≤ 100) → (x = 0 → ∀ q, q < f.acts.length → DoneOK f q)) (paper_acts r f) := fun hP => have h := Sk.pval _ (paper_acts_pst r f hP); h
theorem paper_acts_ok (r : Realm) (f : File) (hf : f.signs.length ≤ 40) (ha : f.acts.length ≤ 1000000) : (paper_acts_sk r f).obs (fun _ => True) := by
  refine Sk.obs_of _ ?_
  unfold paper_acts_sk
  simp only [Sk.obq, Sk.isLoop, reduceCtorEq, ON, kk, kp, paper_act_k, paper_in_k, paper_in_eq, forall_eq, maxLen]
  refine ⟨⟨by omega, fun q hq => absurd hq (by omega)⟩, fun k hk hl => ⟨fun hc => ⟨⟨by omega, of_decide_eq_true hc⟩, fun _ _ _ => ⟨by omega, fun hact ha2 => ⟨⟨fun hne => ⟨?_, fun _ => ⟨?_, fun _ => ?_⟩⟩, fun hne => ⟨Int.le_refl _, fun h => ?_⟩⟩, fun b _ hb => ⟨⟨fun hk0 => ⟨⟨?_, ?_⟩, fun _ => ⟨?_, fun h => ?_, fun _ => ?_⟩⟩, fun hk0 => ⟨hb.1, hb.2, fun h => ?_⟩⟩, fun c _ hcc hd _ => ⟨?_, ⟨?_, fun q hq => ?_⟩, ?_⟩⟩⟩⟩⟩, fun hc q hq => hk.2 q (by simp only [LN] at hc; omega)⟩⟩
  all_goals (try simp only [LN] at hc)
  · simp only [LN] at hne
    have := (hact hf (by simpa using ha2)).1
    omega
  · unfold maxI; omega
  · unfold maxI; omega
  · simp only [LN] at hne; omega
  · simp only [LN] at hk0; rw [w64_id (by omega) (by omega)]; omega
  · simp only [LN] at hk0; rw [w64_id (by omega) (by omega)]; omega
  · have := hb.1; unfold maxI; omega
  · have := hb.2 h; unfold maxI; omega
  · simp only [LN] at hk0
    have e : (w64 ((k : Int) - 1)).toNat = k - 1 := by rw [w64_id (by omega) (by omega)]; omega
    rw [e]; unfold maxI; omega
  · simp only [LN] at hk0; omega
  · exact w64_id (by omega) (by omega)
  · omega
  · simp only [LN] at hd
    by_cases e : q = k
    · subst e
      have A := hact hf (by simpa using ha2)
      exact ⟨A.2.1, ⟨by omega, hd.2⟩, fun h => by have := hcc.2.2 h; omega, fun h6 => ⟨⟨(A.2.2 h6).1, by have := (A.2.2 h6).1; have := A.1; omega⟩, by have := hcc.2.1 (A.2.2 h6).1; omega, (A.2.2 h6).2⟩⟩
    · exact hk.2 q (by omega)
  · omega

noncomputable def paper_acts_k r f := kk tok mixed Tryz.func49 [av r.cells, av f.cells] (fun x => iv x) true (paper_acts_sk r f) (paper_acts r f) (u2 (paper_acts_ok r f)) (fun (x : Int) => (f.signs.length ≤ 40 ∧ f.acts.length ≤ 100) → (x = 0 → ∀ q, q < f.acts.length → DoneOK f q)) (paper_acts_post r f)
noncomputable def cmp_isNaN_sk (x_ : Int) : Sk (Bool) :=
 .fin (x_ != x_)
noncomputable def cmp_isNaN x_ := (cmp_isNaN_sk x_).val
theorem cmp_isNaN_eq (x_ : Int) : cmp_isNaN x_ = (x_ != x_) := rfl
theorem cmp_isNaN_ok (x_ : Int) : (cmp_isNaN_sk x_).obs (fun _ => True) := by
  unfold cmp_isNaN_sk
  exact okE

noncomputable def cmp_isNaN_k x_ := kk tok mixed Tryz.func125 [iv x_] (fun x => bv x) true (cmp_isNaN_sk x_) (cmp_isNaN x_) (u0 (cmp_isNaN_ok x_))
noncomputable def cmp_Compare_sk (x_ : Int) (y : Int) : Sk (Int) :=
 .r 1 ((cmp_isNaN_k x_).c) fun x1 =>
 .r 2 ((cmp_isNaN_k y).c) fun x2 =>
 .br x1
 (.br x2
 (.fin 0)
 (.fin (-1)))
 (.br x2
 (.fin 1)
 (.br (decide (x_ < y))
 (.fin (-1))
 (.br (decide (x_ > y))
 (.fin 1)
 (.fin 0))))
noncomputable def cmp_Compare x_ y := (cmp_Compare_sk x_ y).val
theorem cmp_Compare_ok (x_ : Int) (y : Int) : (cmp_Compare_sk x_ y).obs (fun _ => True) := by
  unfold cmp_Compare_sk
  try simp only [cmp_isNaN_k, cmp_isNaN_eq]
  exact okG

noncomputable def cmp_Compare_k x_ y := kk tok mixed Tryz.func86 [iv x_, iv y] (fun x => iv x) true (cmp_Compare_sk x_ y) (cmp_Compare x_ y) (u0 (cmp_Compare_ok x_ y))
noncomputable def cmp_Or_sk (vals : List Int) : Sk (Int) :=
 .bt
 (.loop (default : Sum (Int) (Unit)) (fun i2 => i2 ≤ vals.length) (fun i2 => vals.length - i2) (0 : Nat)
 (fun (i2 : Nat) => ⟨[(8, iv ((i2 : Nat) : Int))], []⟩) fun i2 =>
 .lt 6 0 i2 vals.length
 (.r 4 (.p (ixP ((i2 : Nat) : Int) vals.length)) fun _ =>
 .br ((vals.getD i2 default) != 0)
 (.fin (.inl (.inl (vals.getD i2 default))))
 (.nx 7 8 i2 (i2 + 1)))
 (.fin (.inl (.inr ()))))
 (fun (_ : Unit) => ⟨[], []⟩) fun _ =>
 .fin 0
noncomputable def cmp_Or vals := (cmp_Or_sk vals).val
theorem cmp_Or_ok (vals : List Int) : (cmp_Or_sk vals).obs (fun _ => True) := by
  unfold cmp_Or_sk
  exact okD

noncomputable def cmp_Or_k vals := kk tok mixed Tryz.func85 [lv intC vals] (fun x => iv x) true (cmp_Or_sk vals) (cmp_Or vals) (u0 (cmp_Or_ok vals))
end Go.Proofs.YtihmmpaalpghbaaGreatDoor

