/- Functions, as sketches. -/
import Derived.Test.YtihmmpaalpghbaaGreatDoorRr13
namespace Go.Proofs.YtihmmpaalpghbaaGreatDoor
open Go Go.Av
set_option linter.unusedSimpArgs false
set_option linter.unusedVariables false
set_option maxHeartbeats 1000000
set_option maxRecDepth 100000
noncomputable def allongeref15_Same_sk (a : List Int) (b : List Int) : Sk (Bool) :=
 .br (((a.length : Nat) : Int) != ((b.length : Nat) : Int))
 (.fin false)
 (.bt
 (.loop (default : Sum (Bool) (Unit)) (fun i2 => i2 ≤ a.length) (fun i2 => a.length - i2) (0 : Nat)
 (fun (i2 : Nat) => ⟨[(5, iv ((i2 : Nat) : Int))], []⟩) fun i2 =>
 .lt 0 0 i2 a.length
 (.r 6 (.andl (.p (ixP ((i2 : Nat) : Int) a.length)) (.p (ixP ((i2 : Nat) : Int) b.length))) fun _ =>
 .br ((a.getD i2 default) != (b.getD i2 default))
 (.fin (.inl (.inl false)))
 (.nx 5 5 i2 (i2 + 1)))
 (.fin (.inl (.inr ()))))
 (fun (_ : Unit) => ⟨[], []⟩) fun _ =>
 .fin true)
noncomputable def allongeref15_Same a b := (allongeref15_Same_sk a b).val
theorem allongeref15_Same_pst (a : List Int) (b : List Int) : (allongeref15_Same_sk a b).pst (fun (x : Bool) => a = b → x = true) := by
  unfold allongeref15_Same_sk
  exact okP

theorem allongeref15_Same_ok (a : List Int) (b : List Int) : (allongeref15_Same_sk a b).obs (fun _ => True) := by
  unfold allongeref15_Same_sk
  exact okD

noncomputable def allongeref15_Same_k a b := kp tok mixed Tryz.func28 [lv intC a, lv intC b] (fun x => bv x) true (allongeref15_Same a b) (u0 (allongeref15_Same_ok a b)) (allongeref15_Same_pst a b)
noncomputable def report_Convicts_sk (a : Report) (b : Report) : Sk (Bool) :=
 .r 1 (.dep ((report_Right_k a).c) fun x1 => .wh x1 true ((report_Right_k b).c)) fun p3 =>
 .fin ((((p3.1 && p3.2) && (a.reporter == b.reporter)) && (a.no == b.no)) && (!(eqCs (Report.cells a) (Report.cells b))))
noncomputable def report_Convicts a b := (report_Convicts_sk a b).val
theorem report_Convicts_ok (a : Report) (b : Report) : (report_Convicts_sk a b).obs (fun _ => True) := by
  unfold report_Convicts_sk
  try simp only [report_Right_k]
  exact okE

noncomputable def report_Convicts_k a b := kk tok mixed Tryz.func25 [av a.cells, av b.cells] (fun x => bv x) true (report_Convicts_sk a b) (report_Convicts a b) (u0 (report_Convicts_ok a b))
theorem fact_I64 (r n k : Int) (hr : in64w r) (hn : in64w n) (hk : in64w k) : (allongelaw50_fact r n k).I64 := by
  rw [allongelaw50_fact_eq]
  simp [Report.I64, Report.cells, Body.cells, Bill.cells, Tenor.cells, Sign.cells, ActX.cells, Alter.cells, Fact.cells, okI_dI, hr, hn, hk, in64w]
theorem fact_I64' (r n k : Int) (h : (decide (-1000 ≤ r) && decide (r ≤ 1000) && decide (-1000 ≤ n) && decide (n ≤ 1000) && decide (-1000 ≤ k) && decide (k ≤ 1000)) = true) : (allongelaw50_fact r n k).I64 := by
  simp only [Bool.and_eq_true, decide_eq_true_eq] at h
  exact fact_I64 r n k ⟨by omega, by omega⟩ ⟨by omega, by omega⟩ ⟨by omega, by omega⟩
theorem fact_text : report_Text (allongelaw50_fact 0 1 1) = ⟨#[57, 59, 48, 59, 49, 59, 53, 59, 52, 59, 51, 59, 48, 59, 48, 59, 49, 59, 49, 59]⟩ := by
  rw [text_right rfl]
  unfold wire_Ints
  have e : intsL (repL (allongelaw50_fact 0 1 1)) = [57, 59, 48, 59, 49, 59, 53, 59, 52, 59, 51, 59, 48, 59, 48, 59, 49, 59, 49, 59] := by
    show intsL [0, 1, 5, 4, 3, 0, 0, 1, 1] = _
    simp [intsL, intL, Lib.itoa, Lib.decDigits]
  rw [e]
noncomputable abbrev sL : List Arrival := [allongelaw50_at 0 5 (allongelaw50_fact 0 1 1), allongelaw50_at 2 9 (allongelaw50_fact 0 1 1), allongelaw50_at 1 6 (allongelaw50_fact 1 1 1), allongelaw50_at 1 7 (allongelaw50_fact 1 1 1), allongelaw50_at 0 5 (allongelaw50_fact 2 1 1), allongelaw50_at 1 10 (allongelaw50_fact 2 1 1)]
noncomputable abbrev sT : List Arrival := [allongelaw50_at 0 5 (allongelaw50_fact 0 1 1), allongelaw50_at 1 5 (allongelaw50_fact 0 1 1), allongelaw50_at 0 5 (allongelaw50_fact 0 1 0), allongelaw50_at 1 5 (allongelaw50_fact 0 1 0)]
theorem sL_I64 : ∀ a, a ∈ sL → a.report.I64 := by
  intro a ha
  simp only [sL, List.mem_cons, List.not_mem_nil, or_false] at ha
  rcases ha with rfl | rfl | rfl | rfl | rfl | rfl <;> exact fact_I64' _ _ _ rfl
theorem sT_I64 : ∀ a, a ∈ sT → a.report.I64 := by
  intro a ha
  simp only [sT, List.mem_cons, List.not_mem_nil, or_false] at ha
  rcases ha with rfl | rfl | rfl | rfl <;> exact fact_I64' _ _ _ rfl

noncomputable def allongelaw50_sane_sk : Sk (Bool) :=
 .r 1 ((allongelaw50_fact_k 0 1 1).c) fun x1 =>
 .r 2 ((allongelaw50_fact_k 1 1 1).c) fun x2 =>
 .r 3 ((allongelaw50_fact_k 2 1 1).c) fun x3 =>
 .r 4 (.dep ((allongelaw50_at_k 0 5 x1).c) fun x4 => .dep ((allongelaw50_at_k 2 9 x1).c) fun x5 => .dep ((allongelaw50_at_k 1 6 x2).c) fun x6 => .dep ((allongelaw50_at_k 1 7 x2).c) fun x7 => .dep ((allongelaw50_at_k 0 5 x3).c) fun x8 => .depr ((allongelaw50_at_k 1 10 x3).c) fun x9 => .o [.nrm (litC Arrival.E [x4, x5, x6, x7, x8, x9])]) fun p39 =>
 .r 5 (.dep ((allongelaw50_at_k 0 5 x1).c) fun x10 => .dep ((allongelaw50_at_k 1 5 x1).c) fun x11 => .dep ((allongelaw50_fact_k 0 1 0).c) fun x12 => .dep ((allongelaw50_at_k 0 5 x12).c) fun x13 => .dep ((allongelaw50_fact_k 0 1 0).c) fun x14 => .depr ((allongelaw50_at_k 1 5 x14).c) fun x15 => .o [.nrm (litC Arrival.E [x10, x11, x13, x15])]) fun p38 =>
 .r 6 (.dep ((report_Text_k x1).c) fun x16 => (report_Read_k x16).c) fun p37 =>
 .r 7 (.dep ((report_Text_k x1).c) fun x18 => .andl (.p (((x18.size + (⟨#[48, 59]⟩ : ByteArray).size : Nat) : Int) ≤ IntKind.i64.max)) ((report_Read_k (x18 ++ (⟨#[48, 59]⟩ : ByteArray))).c)) fun p36 =>
 .fz 27 <|
 .r 8 (.dep ((report_Known_k [p39.1, p39.2.1, p39.2.2.1, p39.2.2.2.1, p39.2.2.2.2.1, p39.2.2.2.2.2] 9).c) fun x20 => .andl (.o [.nrm (litC Report.E [x1])]) (.dep ((allongeref50_SameReports_k x20 [x1]).c) fun x21 => .dep (.wh x21 true ((report_Known_k [p39.1, p39.2.1, p39.2.2.1, p39.2.2.2.1, p39.2.2.2.2.1, p39.2.2.2.2.2] 10).c)) fun x22 => .wh (x21 && (((x22.length : Nat) : Int) == 2)) true ((report_Known_k [p39.1, p39.2.1, p39.2.2.1, p39.2.2.2.1, p39.2.2.2.2.1, p39.2.2.2.2.2] 8).c))) fun p35 =>
 .fz 36 <|
 .r 9 (.dep ((report_Known_k [p38.1, p38.2.1, p38.2.2.2.1, p38.2.2.2.2.2] 9).c) fun x24 => .dep (.wh (((x24.length : Nat) : Int) == 0) true ((report_Liars_k [p38.1, p38.2.1, p38.2.2.2.1, p38.2.2.2.2.2] 9).c)) fun x25 => .andl (.wh (((x24.length : Nat) : Int) == 0) true (.o [.nrm (litC intE [0])])) (.dep (.wh (((x24.length : Nat) : Int) == 0) true ((allongeref15_Same_k x25 [0]).c)) fun x26 => .wh ((((x24.length : Nat) : Int) == 0) && x26) true ((report_Liars_k [p39.1, p39.2.1, p39.2.2.1, p39.2.2.2.1, p39.2.2.2.2.1, p39.2.2.2.2.2] 9).c))) fun p34 =>
 .r 10 (.dep (.wh ((((((p35.2.1 && (((p35.2.2.1.length : Nat) : Int) == 2)) && (((p35.2.2.2.length : Nat) : Int) == 0)) && (((((p34.1.length : Nat) : Int) == 0) && p34.2.2.1) && (((p34.2.2.2.length : Nat) : Int) == 0))) && p37.2.2) && (eqCs (Report.cells p37.2.1) (Report.cells x1))) && (!p36.2.2)) true ((report_Right_k x1).c)) fun x28 => .dep (.wh (((((((p35.2.1 && (((p35.2.2.1.length : Nat) : Int) == 2)) && (((p35.2.2.2.length : Nat) : Int) == 0)) && (((((p34.1.length : Nat) : Int) == 0) && p34.2.2.1) && (((p34.2.2.2.length : Nat) : Int) == 0))) && p37.2.2) && (eqCs (Report.cells p37.2.1) (Report.cells x1))) && (!p36.2.2)) && x28) true ((report_Text_k x1).c)) fun x29 => .dep (.wh ((((((((p35.2.1 && (((p35.2.2.1.length : Nat) : Int) == 2)) && (((p35.2.2.2.length : Nat) : Int) == 0)) && (((((p34.1.length : Nat) : Int) == 0) && p34.2.2.1) && (((p34.2.2.2.length : Nat) : Int) == 0))) && p37.2.2) && (eqCs (Report.cells p37.2.1) (Report.cells x1))) && (!p36.2.2)) && x28) && (x29.toList == (⟨#[57, 59, 48, 59, 49, 59, 53, 59, 52, 59, 51, 59, 48, 59, 48, 59, 49, 59, 49, 59]⟩ : ByteArray).toList)) true ((allongelaw50_fact_k 0 1 0).c)) fun x30 => .dep (.wh ((((((((p35.2.1 && (((p35.2.2.1.length : Nat) : Int) == 2)) && (((p35.2.2.2.length : Nat) : Int) == 0)) && (((((p34.1.length : Nat) : Int) == 0) && p34.2.2.1) && (((p34.2.2.2.length : Nat) : Int) == 0))) && p37.2.2) && (eqCs (Report.cells p37.2.1) (Report.cells x1))) && (!p36.2.2)) && x28) && (x29.toList == (⟨#[57, 59, 48, 59, 49, 59, 53, 59, 52, 59, 51, 59, 48, 59, 48, 59, 49, 59, 49, 59]⟩ : ByteArray).toList)) true ((report_Convicts_k x1 x30).c)) fun x31 => .wh (((((((((p35.2.1 && (((p35.2.2.1.length : Nat) : Int) == 2)) && (((p35.2.2.2.length : Nat) : Int) == 0)) && (((((p34.1.length : Nat) : Int) == 0) && p34.2.2.1) && (((p34.2.2.2.length : Nat) : Int) == 0))) && p37.2.2) && (eqCs (Report.cells p37.2.1) (Report.cells x1))) && (!p36.2.2)) && x28) && (x29.toList == (⟨#[57, 59, 48, 59, 49, 59, 53, 59, 52, 59, 51, 59, 48, 59, 48, 59, 49, 59, 49, 59]⟩ : ByteArray).toList)) && x31) true ((report_Convicts_k x1 x2).c)) fun p33 =>
 .fin ((((((((((p35.2.1 && (((p35.2.2.1.length : Nat) : Int) == 2)) && (((p35.2.2.2.length : Nat) : Int) == 0)) && (((((p34.1.length : Nat) : Int) == 0) && p34.2.2.1) && (((p34.2.2.2.length : Nat) : Int) == 0))) && p37.2.2) && (eqCs (Report.cells p37.2.1) (Report.cells x1))) && (!p36.2.2)) && p33.1) && (p33.2.1.toList == (⟨#[57, 59, 48, 59, 49, 59, 53, 59, 52, 59, 51, 59, 48, 59, 48, 59, 49, 59, 49, 59]⟩ : ByteArray).toList)) && p33.2.2.2.1) && (!p33.2.2.2.2))
noncomputable def allongelaw50_sane : Bool := (allongelaw50_sane_sk).val
theorem allongelaw50_sane_ok : (allongelaw50_sane_sk).obs (fun _ => True) := by
  have hA : (allongelaw50_fact 0 1 1).I64 := fact_I64' _ _ _ rfl
  have hZ : (allongelaw50_fact 0 1 0).I64 := fact_I64' _ _ _ rfl
  unfold allongelaw50_sane_sk
  refine ⟨trivial, fun x1 h1 _ => ⟨trivial, fun x2 h2 _ => ⟨trivial, fun x3 h3 _ => ⟨?_, fun p39 h39 _ => ⟨?_, fun p38 h38 _ => ⟨?_, fun p37 h37 _ => ⟨?_, fun p36 h36 _ => ⟨?_, fun p35 h35 _ => ⟨?_, fun p34 h34 _ => ⟨?_, fun p33 h33 _ => trivial⟩⟩⟩⟩⟩⟩⟩⟩⟩⟩
  · exact ⟨trivial, fun _ _ _ => ⟨trivial, fun _ _ _ => ⟨trivial, fun _ _ _ => ⟨trivial, fun _ _ _ => ⟨trivial, fun _ _ _ => ⟨trivial, fun _ _ _ => trivial⟩⟩⟩⟩⟩⟩
  · exact ⟨trivial, fun _ _ _ => ⟨trivial, fun _ _ _ => ⟨trivial, fun _ _ _ => ⟨trivial, fun _ _ _ => ⟨trivial, fun _ _ _ => ⟨trivial, fun _ _ _ => trivial⟩⟩⟩⟩⟩⟩
  · have h1 : x1 = allongelaw50_fact 0 1 1 := h1
    subst h1
    refine ⟨hA, fun x hx _ => ?_⟩
    have hx : x = report_Text (allongelaw50_fact 0 1 1) := hx
    rw [hx, fact_text]
    show (20 : Nat) ≤ 1000000
    decide
  · have h1 : x1 = allongelaw50_fact 0 1 1 := h1
    subst h1
    refine ⟨hA, fun x hx _ => ?_⟩
    have hx : x = report_Text (allongelaw50_fact 0 1 1) := hx
    rw [hx, fact_text]
    exact ⟨(by decide : ((20 + 2 : Nat) : Int) ≤ IntKind.i64.max), (by decide : (22 : Nat) ≤ 1000000)⟩
  · have h1 : x1 = allongelaw50_fact 0 1 1 := h1
    have h2 : x2 = allongelaw50_fact 1 1 1 := h2
    have h3 : x3 = allongelaw50_fact 2 1 1 := h3
    subst h1; subst h2; subst h3; subst h39
    exact ⟨sL_I64, fun _ _ _ => ⟨trivial, trivial, fun _ _ _ => ⟨fun _ => sL_I64, fun _ _ _ => fun _ => sL_I64⟩⟩⟩
  · have h1 : x1 = allongelaw50_fact 0 1 1 := h1
    have h2 : x2 = allongelaw50_fact 1 1 1 := h2
    have h3 : x3 = allongelaw50_fact 2 1 1 := h3
    subst h1; subst h2; subst h3; subst h39; subst h38
    exact ⟨sT_I64, fun _ _ _ => ⟨fun _ => trivial, fun _ _ _ => ⟨fun _ => trivial, fun _ => trivial, fun _ _ _ => fun _ => trivial⟩⟩⟩
  · have h1 : x1 = allongelaw50_fact 0 1 1 := h1
    subst h1
    exact ⟨fun _ => trivial, fun _ _ _ => ⟨fun _ => hA, fun _ _ _ => ⟨fun _ => trivial, fun _ _ _ => ⟨fun _ => trivial, fun _ _ _ => fun _ => trivial⟩⟩⟩⟩

noncomputable def allongelaw50_sane_k : Ctr (Bool) := kk tok mixed Tryz.func8 [] (fun x => bv x) true (allongelaw50_sane_sk) (allongelaw50_sane) (fun (_ : True) => allongelaw50_sane_ok)
theorem okI_of {n : Int} (h : in64w n) : okI (dI n) = true := decide_eq_true h
theorem list_getD {l : List Int} {n : Nat} (h : l.length = n) : (List.range n).map (fun i => l.getD i default) = l := by
  subst h
  refine List.ext_getElem (by simp) (fun i h1 h2 => by simp [List.getD, h2])
/-- a body from its numbers -/
theorem body_eq (k bi ix : Int) (l : List Int) : report_body k bi ix l = bif ((decide (k < 0)) || (decide (k ≥ 5))) || (((l.length : Nat) : Int) != (((report_numbers { (default : Body) with kind := k, bill := bi, index := ix }).length : Nat) : Int)) then (default, false) else
    bif k == 0 then ({ (default : Body) with kind := k, bill := bi, index := ix, paper := ⟨l.getD 0 default, l.getD 1 default, l.getD 2 default, l.getD 3 default, l.getD 4 default, ⟨l.getD 5 default, l.getD 6 default, l.getD 7 default⟩, l.getD 8 default, l.getD 9 default, l.getD 10 default, l.getD 11 default, l.getD 12 default, l.getD 13 default, l.getD 14 default⟩, sign := { (default : Sign) with flags := l.getD 15 default } }, true)
    else bif k == 1 then ({ (default : Body) with kind := k, bill := bi, index := ix, sign := ⟨l.getD 0 default, l.getD 1 default, l.getD 2 default, l.getD 3 default, l.getD 4 default, l.getD 5 default, l.getD 6 default, l.getD 7 default, l.getD 8 default⟩ }, true)
    else bif k == 2 then ({ (default : Body) with kind := k, bill := bi, index := ix, act := ⟨l.getD 0 default, l.getD 1 default, l.getD 2 default, l.getD 3 default, l.getD 4 default, l.getD 5 default, l.getD 6 default, l.getD 7 default, l.getD 8 default⟩ }, true)
    else bif k == 3 then ({ (default : Body) with kind := k, bill := bi, index := ix, alter := ⟨l.getD 0 default, l.getD 1 default⟩ }, true)
    else ({ (default : Body) with kind := k, bill := bi, index := ix, fact := ⟨l.getD 0 default, l.getD 1 default, l.getD 2 default⟩ }, true) := rfl
def numN (k : Int) : Nat := bif k == 0 then 16 else bif k == 1 then 9 else bif k == 2 then 9 else bif k == 3 then 2 else 3
theorem numL_n (b : Body) : (numL b).length = numN b.kind := by
  unfold numL numN
  cases b.kind == 0 <;> cases b.kind == 1 <;> cases b.kind == 2 <;> cases b.kind == 3 <;> rfl
theorem body_two {k bi ix : Int} {l : List Int} : (report_body k bi ix l).2 = true ↔ (0 ≤ k ∧ k < 5) ∧ l.length = numN k := by
  have hn := report_numbers_post { (default : Body) with kind := k, bill := bi, index := ix }
  dsimp only at hn
  have hl := numL_n { (default : Body) with kind := k, bill := bi, index := ix }
  rw [body_eq, hn, hl]
  cases hc : (((decide (k < 0)) || (decide (k ≥ 5))) || (((l.length : Nat) : Int) != ((numN k : Nat) : Int))) with
  | true =>
    simp only [cond_true, Bool.false_eq_true, false_iff]
    simp only [Bool.or_eq_true, decide_eq_true_eq, bne_iff_ne, ne_eq] at hc
    omega
  | false =>
    simp only [Bool.or_eq_false_iff, decide_eq_false_iff_not, bne_eq_false_iff_eq] at hc
    have : (0 ≤ k ∧ k < 5) ∧ l.length = numN k := by omega
    simp only [this, and_self, iff_true, cond_false]
    cases k == 0 <;> cases k == 1 <;> cases k == 2 <;> cases k == 3 <;> rfl
theorem body_one {k bi ix : Int} {l : List Int} (h : (report_body k bi ix l).2 = true) : (report_body k bi ix l).1.kind = k ∧ (report_body k bi ix l).1.bill = bi ∧ (report_body k bi ix l).1.index = ix ∧ numL (report_body k bi ix l).1 = l ∧ ((∀ n ∈ l, in64w n) → in64w k → in64w bi → in64w ix → (report_body k bi ix l).1.I64) := by
  obtain ⟨hk, hl⟩ := body_two.1 h
  have hn := report_numbers_post { (default : Body) with kind := k, bill := bi, index := ix }
  dsimp only at hn
  have hl2 := numL_n { (default : Body) with kind := k, bill := bi, index := ix }
  have hc : (((decide (k < 0)) || (decide (k ≥ 5))) || (((l.length : Nat) : Int) != ((numN k : Nat) : Int))) = false := by
    simp only [Bool.or_eq_false_iff, decide_eq_false_iff_not, bne_eq_false_iff_eq]
    omega
  rw [body_eq, hn, hl2, hc]
  have hg : (∀ n ∈ l, in64w n) → ∀ j, okI (dI (l.getD j default)) = true := fun hi j => by
    rw [okI_dI, decide_eq_true_eq]
    by_cases hj : j < l.length
    · exact hi _ (lget_mem hj default)
    · have : l.getD j default = 0 := by simp [List.getD, hj]
      rw [this]
      decide
  have h0 : okI (dI 0) = true := by decide
  have hd : okI (dI default) = true := by decide
  unfold numN at hl
  cases h0k : k == 0 with
  | true =>
    rw [h0k] at hl
    refine ⟨rfl, rfl, rfl, ?_, fun hi hk hb hx => ?_⟩
    · have := list_getD (l := l) (n := 16) hl
      show numL _ = l
      unfold numL
      simp only [cond_false, cond_true, h0k]
      exact this
    · simp only [cond_false, cond_true, Body.I64, Body.cells, Bill.cells, Tenor.cells, Sign.cells, ActX.cells, Alter.cells, Fact.cells, List.all_append, List.all_cons, List.all_nil, hg hi, okI_of hk, okI_of hb, okI_of hx, Bool.and_true, Bool.true_and]
      rfl
  | false =>
    cases h1k : k == 1 with
    | true =>
      rw [h0k, h1k] at hl
      refine ⟨rfl, rfl, rfl, ?_, fun hi hk hb hx => ?_⟩
      · have := list_getD (l := l) (n := 9) hl
        show numL _ = l
        unfold numL
        simp only [cond_false, cond_true, h0k, h1k]
        exact this
      · simp only [cond_false, cond_true, Body.I64, Body.cells, Bill.cells, Tenor.cells, Sign.cells, ActX.cells, Alter.cells, Fact.cells, List.all_append, List.all_cons, List.all_nil, hg hi, okI_of hk, okI_of hb, okI_of hx, Bool.and_true, Bool.true_and]
        rfl
    | false =>
      cases h2k : k == 2 with
      | true =>
        rw [h0k, h1k, h2k] at hl
        refine ⟨rfl, rfl, rfl, ?_, fun hi hk hb hx => ?_⟩
        · have := list_getD (l := l) (n := 9) hl
          show numL _ = l
          unfold numL
          simp only [cond_false, cond_true, h0k, h1k, h2k]
          exact this
        · simp only [cond_false, cond_true, Body.I64, Body.cells, Bill.cells, Tenor.cells, Sign.cells, ActX.cells, Alter.cells, Fact.cells, List.all_append, List.all_cons, List.all_nil, hg hi, okI_of hk, okI_of hb, okI_of hx, Bool.and_true, Bool.true_and]
          rfl
      | false =>
        cases h3k : k == 3 with
        | true =>
          rw [h0k, h1k, h2k, h3k] at hl
          refine ⟨rfl, rfl, rfl, ?_, fun hi hk hb hx => ?_⟩
          · have := list_getD (l := l) (n := 2) hl
            show numL _ = l
            unfold numL
            simp only [cond_false, cond_true, h0k, h1k, h2k, h3k]
            exact this
          · simp only [cond_false, cond_true, Body.I64, Body.cells, Bill.cells, Tenor.cells, Sign.cells, ActX.cells, Alter.cells, Fact.cells, List.all_append, List.all_cons, List.all_nil, hg hi, okI_of hk, okI_of hb, okI_of hx, Bool.and_true, Bool.true_and]
            rfl
        | false =>
          rw [h0k, h1k, h2k, h3k] at hl
          refine ⟨rfl, rfl, rfl, ?_, fun hi hk hb hx => ?_⟩
          · have := list_getD (l := l) (n := 3) hl
            show numL _ = l
            unfold numL
            simp only [cond_false, h0k, h1k, h2k, h3k]
            exact this
          · simp only [cond_false, Body.I64, Body.cells, Bill.cells, Tenor.cells, Sign.cells, ActX.cells, Alter.cells, Fact.cells, List.all_append, List.all_cons, List.all_nil, hg hi, okI_of hk, okI_of hb, okI_of hx, Bool.and_true, Bool.true_and]
            rfl
noncomputable abbrev zeroR : Report := default
theorem read_eq (s : ByteArray) : report_Read s = bif (((!(wire_ReadInts s).2.2) || (!((wire_ReadInts s).2.1.toList == (⟨#[]⟩ : ByteArray).toList))) || (decide ((((wire_ReadInts s).1.length : Nat) : Int) < 6))) then (zeroR, false) else
    bif (!(report_body ((wire_ReadInts s).1.getD 3 default) ((wire_ReadInts s).1.getD 4 default) ((wire_ReadInts s).1.getD 5 default) (subL (wire_ReadInts s).1 6 ((wire_ReadInts s).1.length - 6))).2) || (!(report_Right ({ reporter := (wire_ReadInts s).1.getD 0 default, no := (wire_ReadInts s).1.getD 1 default, day := (wire_ReadInts s).1.getD 2 default, body := (report_body ((wire_ReadInts s).1.getD 3 default) ((wire_ReadInts s).1.getD 4 default) ((wire_ReadInts s).1.getD 5 default) (subL (wire_ReadInts s).1 6 ((wire_ReadInts s).1.length - 6))).1 } : Report))) then (zeroR, false) else
    (({ reporter := (wire_ReadInts s).1.getD 0 default, no := (wire_ReadInts s).1.getD 1 default, day := (wire_ReadInts s).1.getD 2 default, body := (report_body ((wire_ReadInts s).1.getD 3 default) ((wire_ReadInts s).1.getD 4 default) ((wire_ReadInts s).1.getD 5 default) (subL (wire_ReadInts s).1 6 ((wire_ReadInts s).1.length - 6))).1 } : Report), true) := by
  unfold report_Read report_Read_sk
  simp only [Sk.val_br, Sk.val_r]
  rfl
theorem sub6 {l : List Int} (h : 6 ≤ l.length) : l = [l.getD 0 default, l.getD 1 default, l.getD 2 default, l.getD 3 default, l.getD 4 default, l.getD 5 default] ++ subL l 6 (l.length - 6) := by
  refine List.ext_getElem (by simp [subL]; omega) (fun i h1 h2 => ?_)
  by_cases c : i < 6
  · have : i = 0 ∨ i = 1 ∨ i = 2 ∨ i = 3 ∨ i = 4 ∨ i = 5 := by omega
    rcases this with rfl | rfl | rfl | rfl | rfl | rfl <;> simp [List.getD, h1]
  · rw [List.getElem_append_right (by simp; omega)]
    simp [subL, List.getD]
    rw [List.getElem?_eq_getElem (by omega)]
    simp
    congr 1
    omega
theorem subL_6 (a b c d e f : Int) (r : List Int) : subL ([a, b, c, d, e, f] ++ r) 6 (([a, b, c, d, e, f] ++ r).length - 6) = r := by
  refine List.ext_getElem (by simp [subL]) (fun i h1 h2 => ?_)
  simp only [subL, List.getElem_map, List.getElem_range]
  rw [Nat.add_comm 6 i]
  simp [List.getD, h2]
theorem right_kind {x : Report} (h : report_Right x = true) : 0 ≤ x.body.kind ∧ x.body.kind < 5 := by
  have e : report_Right x = bif (((((!report_within x.reporter 200) || (!report_within x.no 10000)) || (!report_within x.day 100001)) || (!report_within x.body.kind 5)) || (!report_within x.body.bill 50)) then false else bif !(eqCs (Body.cells (report_body x.body.kind x.body.bill x.body.index (report_numbers x.body)).1) (Body.cells x.body)) then false else (bif x.body.kind == 0 then (x.body.index == 0) && (x.body.paper.day == x.day) else bif x.body.kind == 1 then ((decide (x.body.index > 0)) && (decide (x.body.index < 40))) && (x.body.sign.day == x.day) else bif x.body.kind == 2 then report_within x.body.index 100 && (x.body.act.day == x.day) else bif x.body.kind == 3 then report_within x.body.index 4 else x.body.index == 0) := rfl
  cases hw : report_within x.body.kind 5 with
  | false => rw [e, hw] at h; simp at h
  | true =>
    rw [report_within_eq] at hw
    simp only [Bool.and_eq_true, decide_eq_true_eq] at hw
    omega
theorem rep6 (x : Report) : 6 ≤ (repL x).length ∧ (repL x).getD 0 default = x.reporter ∧ (repL x).getD 1 default = x.no ∧ (repL x).getD 2 default = x.day ∧ (repL x).getD 3 default = x.body.kind ∧ (repL x).getD 4 default = x.body.bill ∧ (repL x).getD 5 default = x.body.index ∧ subL (repL x) 6 ((repL x).length - 6) = numL x.body :=
  ⟨by simp [repL], rfl, rfl, rfl, rfl, rfl, rfl, subL_6 _ _ _ _ _ _ _⟩
theorem text_size {x : Report} (h : x.I64) : (report_Text x).size ≤ 1000 := by
  cases hr : report_Right x with
  | false => rw [text_wrong hr]; exact Nat.zero_le _
  | true =>
    rw [text_right hr]
    have h1 := repL_I64 h
    have h2 := repL_len x
    have hf : ∀ (m : List Int), (∀ n ∈ m, in64w n) → (m.flatMap intL).length ≤ m.length * 21 := by
      intro m
      induction m with
      | nil => intro _; simp
      | cons a r ih =>
        intro h
        have h1 := intL_len a (h a (by simp)).1 (h a (by simp)).2
        have h2 := ih (fun n hn => h n (by simp [hn]))
        simp only [List.flatMap_cons, List.length_append, List.length_cons]
        omega
    have h3 := hf _ h1
    have h4 := intL_len (repL x).length (by omega) (by omega)
    show (intsL (repL x)).toArray.size ≤ 1000
    simp only [intsL, List.size_toArray, List.length_append]
    omega
/-- the text of a right report is read as its numbers -/
theorem ints_text {x : Report} (hx : x.I64) (hr : report_Right x = true) : wire_ReadInts (report_Text x) = (repL x, ⟨#[]⟩, true) := by
  have hs := text_size hx
  have hp := wire_ReadInts_post (report_Text x) (by omega)
  have h2 := repL_len x
  exact RdP.eq hp (r := []) (by omega) (repL_I64 hx) (by rw [List.append_nil]; exact rpT_right hr)
/-- and as this report -/
theorem read_text {x : Report} (hx : x.I64) (hr : report_Right x = true) : report_Read (report_Text x) = (x, true) := by
  obtain ⟨a1, a2, a3, a4, a5, a6, a7, a8⟩ := rep6 x
  have hb2 : (report_body x.body.kind x.body.bill x.body.index (numL x.body)).2 = true := body_two.2 ⟨right_kind hr, numL_n _⟩
  have hb1 := right_body hr
  rw [read_eq, ints_text hx hr]
  dsimp only
  rw [a2, a3, a4, a5, a6, a7, a8, ← hb1, hb2]
  have e : (⟨x.reporter, x.no, x.day, x.body⟩ : Report) = x := rfl
  rw [e, hr]
  have hl : decide ((((repL x).length : Nat) : Int) < 6) = false := by rw [decide_eq_false_iff_not]; omega
  rw [hl]
  simp
/-- what is read is right, and its text is what was read -/
theorem read_back {s : ByteArray} (hs : s.size ≤ 1000000) {a : Report} (h : report_Read s = (a, true)) : report_Right a = true ∧ rpT a = s.data.toList ∧ a.I64 ∧ s.data.toList ≠ [] := by
  have hp := wire_ReadInts_post s hs
  rw [read_eq] at h
  cases hc : (((!(wire_ReadInts s).2.2) || (!((wire_ReadInts s).2.1.toList == (⟨#[]⟩ : ByteArray).toList))) || (decide ((((wire_ReadInts s).1.length : Nat) : Int) < 6))) with
  | true => rw [hc] at h; simp at h
  | false =>
    rw [hc] at h
    simp only [Bool.or_eq_false_iff, Bool.not_eq_false', decide_eq_false_iff_not] at hc
    obtain ⟨⟨c1, c2⟩, c3⟩ := hc
    obtain ⟨q1, q2, q3⟩ := hp.1 c1
    have c2 : (wire_ReadInts s).2.1.data.toList = [] := by
      have := (beq_iff_eq.1 c2)
      simpa [ByteArray.toList_eq] using this
    generalize (wire_ReadInts s).1 = l at *
    have hl6 : 6 ≤ l.length := by omega
    have hl := sub6 hl6
    have hsub : ∀ n ∈ subL l 6 (l.length - 6), in64w n := fun n hn => q3 n (by rw [hl]; exact List.mem_append_right _ hn)
    generalize subL l 6 (l.length - 6) = r at *
    simp only [cond_false] at h
    cases hb : (report_body (l.getD 3 default) (l.getD 4 default) (l.getD 5 default) r).2 with
    | false => rw [hb] at h; simp at h
    | true =>
      rw [hb] at h
      cases hr : report_Right ({ reporter := l.getD 0 default, no := l.getD 1 default, day := l.getD 2 default, body := (report_body (l.getD 3 default) (l.getD 4 default) (l.getD 5 default) r).1 } : Report) with
      | false => rw [hr] at h; simp at h
      | true =>
        rw [hr] at h
        simp only [Bool.not_true, Bool.or_self, cond_false, Prod.mk.injEq, and_true] at h
        subst h
        obtain ⟨b1, b2, b3, b4, b5⟩ := body_one hb
        have hg : ∀ j, j < 6 → in64w (l.getD j default) := fun j hj => q3 _ (lget_mem (by omega) default)
        have hrep : repL ({ reporter := l.getD 0 default, no := l.getD 1 default, day := l.getD 2 default, body := (report_body (l.getD 3 default) (l.getD 4 default) (l.getD 5 default) r).1 } : Report) = l := by
          unfold repL
          dsimp only
          rw [b1, b2, b3, b4]
          exact hl.symm
        refine ⟨hr, ?_, ?_, ?_⟩
        · rw [rpT_right hr, hrep, q1, c2, List.append_nil]
        · have hbI := b5 hsub (hg 3 (by omega)) (hg 4 (by omega)) (hg 5 (by omega))
          unfold Report.I64 Report.cells
          rw [List.all_append, Bool.and_eq_true]
          refine ⟨?_, hbI⟩
          simp only [List.all_cons, List.all_nil, okI_of (hg 0 (by omega)), okI_of (hg 1 (by omega)), okI_of (hg 2 (by omega)), Bool.and_true]
        · rw [q1]
          intro e
          have := congrArg List.length e
          have h2 := intL_two l.length
          simp only [intsL, List.length_append, List.length_nil] at this
          omega
theorem read_no {s : ByteArray} (h : (report_Read s).2 = false) : (report_Read s).1 = zeroR := by
  rw [read_eq] at h ⊢
  cases hc : (((!(wire_ReadInts s).2.2) || (!((wire_ReadInts s).2.1.toList == (⟨#[]⟩ : ByteArray).toList))) || (decide ((((wire_ReadInts s).1.length : Nat) : Int) < 6))) with
  | true => rfl
  | false =>
    rw [hc] at h
    simp only [cond_false] at h ⊢
    generalize (report_body ((wire_ReadInts s).1.getD 3 default) ((wire_ReadInts s).1.getD 4 default) ((wire_ReadInts s).1.getD 5 default) (subL (wire_ReadInts s).1 6 ((wire_ReadInts s).1.length - 6))) = b at *
    cases hd : ((!b.2) || (!(report_Right ({ reporter := (wire_ReadInts s).1.getD 0 default, no := (wire_ReadInts s).1.getD 1 default, day := (wire_ReadInts s).1.getD 2 default, body := b.1 } : Report)))) with
    | true => rfl
    | false => rw [hd] at h; simp at h
theorem zeroR_I64 : zeroR.I64 := by unfold Report.I64; decide
theorem read_I64 {s : ByteArray} (hs : s.size ≤ 1000000) : (report_Read s).1.I64 := by
  cases h : (report_Read s).2 with
  | true => exact (read_back hs (a := (report_Read s).1) (by rw [← h])).2.2.1
  | false => rw [read_no h]; exact zeroR_I64
theorem sortRp_nil : sortRp [] = [] := by
  have := sortRp_perm (l := []) (fun s hs => by cases hs)
  exact List.perm_nil.1 this
theorem sortRp_one {x : Report} (h : x.I64) : sortRp [x] = [x] := by
  have := sortRp_perm (l := [x]) (fun s hs => by rw [List.mem_singleton.1 hs]; exact h)
  exact List.perm_singleton.1 this
theorem lied_no {L : List Report} {r : Int} (h : ∀ c, cnt L r c ≤ 1) : lied L r = false := by
  unfold lied
  exact @decide_eq_false _ (Classical.propDecidable _) (fun ⟨c, hc⟩ => by have := h c; omega)
theorem lied_yes {L : List Report} {r c : Int} (h : 2 ≤ cnt L r c) : lied L r = true := by
  unfold lied
  exact @decide_eq_true _ (Classical.propDecidable _) ⟨c, h⟩
theorem cnt_cons (x : Report) (L : List Report) (a c : Int) : cnt (x :: L) a c = cnt L a c + bif x.reporter == a && x.no == c then 1 else 0 := by
  unfold cnt
  rw [List.countP_cons]
  cases (x.reporter == a && x.no == c) <;> rfl
theorem sane_known9 : report_Known sL 9 = [allongelaw50_fact 0 1 1] := by
  rw [report_Known_of (by decide) sL_I64]
  unfold knownL
  have e : agreedL sL 9 = [allongelaw50_fact 0 1 1] := rfl
  rw [e]
  have h : lied [allongelaw50_fact 0 1 1] (allongelaw50_fact 0 1 1).reporter = false := lied_no fun c => by
    rw [cnt_cons]
    show 0 + _ ≤ 1
    cases ((allongelaw50_fact 0 1 1).reporter == (allongelaw50_fact 0 1 1).reporter && (allongelaw50_fact 0 1 1).no == c) <;> decide
  simp only [List.filter_cons, h, Bool.not_false, if_true, List.filter_nil]
  exact sortRp_one (fact_I64' _ _ _ rfl)
theorem sane_known10 : (report_Known sL 10).length = 2 := by
  rw [report_Known_of (by decide) sL_I64]
  unfold knownL
  have e : agreedL sL 10 = [allongelaw50_fact 0 1 1, allongelaw50_fact 2 1 1] := rfl
  rw [e]
  have h : ∀ r, lied [allongelaw50_fact 0 1 1, allongelaw50_fact 2 1 1] r = false := fun r => lied_no fun c => by
    rw [cnt_cons, cnt_cons]
    show 0 + (bif ((2 : Int) == r) && ((1 : Int) == c) then 1 else 0) + (bif ((0 : Int) == r) && ((1 : Int) == c) then 1 else 0) ≤ 1
    by_cases h0 : (0 : Int) = r
    · have h2 : ((2 : Int) == r) = false := by rw [← h0]; rfl
      rw [h2]
      cases (((0 : Int) == r) && ((1 : Int) == c)) <;> simp
    · have h2 : ((0 : Int) == r) = false := by simpa using h0
      rw [h2]
      cases (((2 : Int) == r) && ((1 : Int) == c)) <;> simp
  simp only [List.filter_cons, h, Bool.not_false, if_true, List.filter_nil]
  have hI : ∀ s, s ∈ [allongelaw50_fact 0 1 1, allongelaw50_fact 2 1 1] → s.I64 := fun s hs => by
    simp only [List.mem_cons, List.not_mem_nil, or_false] at hs
    rcases hs with rfl | rfl <;> exact fact_I64' _ _ _ rfl
  exact (sortRp_perm hI).length_eq
theorem sane_known8 : (report_Known sL 8).length = 0 := by
  rw [report_Known_of (by decide) sL_I64]
  unfold knownL
  have e : agreedL sL 8 = [] := rfl
  rw [e]
  show (sortRp []).length = 0
  rw [sortRp_nil]
  rfl
theorem sane_knownT : (report_Known sT 9).length = 0 := by
  rw [report_Known_of (by decide) sT_I64]
  unfold knownL
  have e : agreedL sT 9 = [allongelaw50_fact 0 1 1, allongelaw50_fact 0 1 0] := rfl
  rw [e]
  have h : lied [allongelaw50_fact 0 1 1, allongelaw50_fact 0 1 0] 0 = true := lied_yes (c := 1) (by decide)
  have h1 : lied [allongelaw50_fact 0 1 1, allongelaw50_fact 0 1 0] (allongelaw50_fact 0 1 1).reporter = true := h
  have h2 : lied [allongelaw50_fact 0 1 1, allongelaw50_fact 0 1 0] (allongelaw50_fact 0 1 0).reporter = true := h
  simp only [List.filter_cons, h1, h2, Bool.not_true, Bool.false_eq_true, if_false, List.filter_nil]
  rw [sortRp_nil]
  rfl
theorem sane_liarsT : report_Liars sT 9 = [0] := by
  have e : agreedL sT 9 = [allongelaw50_fact 0 1 1, allongelaw50_fact 0 1 0] := rfl
  have hq : liarQ (agreedL sT 9) [(0, true)] := by
    rw [e]
    refine ⟨by simp, by simp, fun r => ?_⟩
    constructor
    · intro hr
      simp at hr
      subst hr
      exact ⟨1, by decide⟩
    · rintro ⟨c, hc⟩
      rw [cnt_cons, cnt_cons] at hc
      have hc : 2 ≤ 0 + (bif ((0 : Int) == r) && ((1 : Int) == c) then 1 else 0) + (bif ((0 : Int) == r) && ((1 : Int) == c) then 1 else 0) := hc
      cases h0 : ((0 : Int) == r) with
      | true => simp at h0; simp [h0]
      | false => rw [h0] at hc; simp at hc
  rw [report_Liars_of (by decide) hq]
  simp [sortI]
theorem sane_liarsL : report_Liars sL 9 = [] := by
  have e : agreedL sL 9 = [allongelaw50_fact 0 1 1] := rfl
  have hq : liarQ (agreedL sL 9) [] := by
    rw [e]
    refine ⟨by simp, by simp, fun r => ?_⟩
    constructor
    · intro hr
      cases hr
    · rintro ⟨c, hc⟩
      rw [cnt_cons] at hc
      have hc : 2 ≤ 0 + (bif ((0 : Int) == r) && ((1 : Int) == c) then 1 else 0) := hc
      cases h0 : (((0 : Int) == r) && ((1 : Int) == c)) <;> rw [h0] at hc <;> simp at hc
  rw [report_Liars_of (by decide) hq]
  simp [sortI]
theorem sane_read : report_Read (report_Text (allongelaw50_fact 0 1 1)) = (allongelaw50_fact 0 1 1, true) := read_text (fact_I64' _ _ _ rfl) rfl
theorem sane_bad : (report_Read (report_Text (allongelaw50_fact 0 1 1) ++ (⟨#[48, 59]⟩ : ByteArray))).2 = false := by
  have hA : (allongelaw50_fact 0 1 1).I64 := fact_I64' _ _ _ rfl
  have hr : report_Right (allongelaw50_fact 0 1 1) = true := rfl
  cases h : (report_Read (report_Text (allongelaw50_fact 0 1 1) ++ (⟨#[48, 59]⟩ : ByteArray))).2 with
  | false => rfl
  | true =>
    have hs : (report_Text (allongelaw50_fact 0 1 1) ++ (⟨#[48, 59]⟩ : ByteArray)).size ≤ 1000000 := by rw [fact_text]; exact (by decide : (22 : Nat) ≤ 1000000)
    obtain ⟨h1, h2, h3, -⟩ := read_back hs (a := (report_Read (report_Text (allongelaw50_fact 0 1 1) ++ (⟨#[48, 59]⟩ : ByteArray))).1) (by rw [← h])
    generalize (report_Read (report_Text (allongelaw50_fact 0 1 1) ++ (⟨#[48, 59]⟩ : ByteArray))).1 = a at *
    have e : (report_Text (allongelaw50_fact 0 1 1) ++ (⟨#[48, 59]⟩ : ByteArray)).data.toList = rpT (allongelaw50_fact 0 1 1) ++ [48, 59] := by simp [rpT]
    rw [e, rpT_right h1, rpT_right hr] at h2
    have l1 := repL_len a
    have l2 := repL_len (allongelaw50_fact 0 1 1)
    have := (intsL_inj (t := []) (u := [48, 59]) (by omega) (by omega) (repL_I64 h3) (repL_I64 hA) (by rw [List.append_nil]; exact h2)).2
    cases this
theorem sane_true : allongelaw50_sane = true := by
  have e : allongelaw50_sane = (((((((((((allongeref50_SameReports (report_Known sL 9) [allongelaw50_fact 0 1 1]) && ((((report_Known sL 10).length : Nat) : Int) == 2)) && ((((report_Known sL 8).length : Nat) : Int) == 0)) && ((((((report_Known sT 9).length : Nat) : Int) == 0) && allongeref15_Same (report_Liars sT 9) [0]) && ((((report_Liars sL 9).length : Nat) : Int) == 0))) && (report_Read (report_Text (allongelaw50_fact 0 1 1))).2) && (eqCs (Report.cells (report_Read (report_Text (allongelaw50_fact 0 1 1))).1) (Report.cells (allongelaw50_fact 0 1 1)))) && (!(report_Read (report_Text (allongelaw50_fact 0 1 1) ++ (⟨#[48, 59]⟩ : ByteArray))).2)) && report_Right (allongelaw50_fact 0 1 1)) && ((report_Text (allongelaw50_fact 0 1 1)).toList == (⟨#[57, 59, 48, 59, 49, 59, 53, 59, 52, 59, 51, 59, 48, 59, 48, 59, 49, 59, 49, 59]⟩ : ByteArray).toList)) && report_Convicts (allongelaw50_fact 0 1 1) (allongelaw50_fact 0 1 0)) && (!report_Convicts (allongelaw50_fact 0 1 1) (allongelaw50_fact 1 1 1))) := by
    unfold allongelaw50_sane allongelaw50_sane_sk
    simp only [Sk.val_r, Sk.val_fz]
    rfl
  rw [e, sane_known9, sane_known10, sane_known8, sane_knownT, sane_liarsT, sane_liarsL, sane_bad, sane_read, fact_text]
  have c1 : allongeref50_SameReports [allongelaw50_fact 0 1 1] [allongelaw50_fact 0 1 1] = true := rfl
  have c2 : allongeref15_Same [0] [0] = true := rfl
  have c3 : eqCs (Report.cells (allongelaw50_fact 0 1 1)) (Report.cells (allongelaw50_fact 0 1 1)) = true := rfl
  have c4 : report_Right (allongelaw50_fact 0 1 1) = true := rfl
  have c5 : report_Convicts (allongelaw50_fact 0 1 1) (allongelaw50_fact 0 1 0) = true := rfl
  have c6 : report_Convicts (allongelaw50_fact 0 1 1) (allongelaw50_fact 1 1 1) = false := rfl
  simp only [c1, c2, c3, c4, c5, c6, List.length_nil, Int.cast_ofNat_Int, beq_self_eq_true, Bool.and_self, Bool.not_false]

noncomputable def allongelaw50_ReportReads_sk (x_ : Report) (s : ByteArray) : Sk (Bool) :=
 .r 1 allongelaw50_sane_k.c fun x1 =>
 .br (decide (((s.size : Nat) : Int) > 300))
 (.fin x1)
 (.r 4 ((report_Read_k s).c) fun x2 =>
 .r 5 (.dep ((report_Right_k x2.1).c) fun x3 => .wh x3 true ((report_Text_k x2.1).c)) fun p9 =>
 .br ((!(x2.2 == ((p9.1 && (p9.2.toList == s.toList)) && (!(s.toList == (⟨#[]⟩ : ByteArray).toList))))) || ((!x2.2) && (!(eqCs (Report.cells x2.1) (Report.cells ({ reporter := 0, no := 0, day := 0, body := ({ kind := 0, bill := 0, index := 0, paper := ({ drawer := 0, drawee := 0, payee := 0, sum := 0, currency := 0, tenor := ({ kind := 0, n := 0, unit := 0 } : Tenor), day := 0, city := 0, pay := 0, need := 0, rate := 0, flags := 0, parts := 0 } : Bill), sign := ({ kind := 0, part := 0, who := 0, for_ := 0, to_ := 0, sum := 0, day := 0, city := 0, flags := 0 } : Sign), act := ({ kind := 0, who := 0, to_ := 0, part := 0, at_ := 0, sum := 0, day := 0, city := 0, form := 0 } : ActX), alter := ({ at_ := 0, sum := 0 } : Alter), fact := ({ kind := 0, at_ := 0, n := 0 } : Fact) } : Body) } : Report))))))
 (.fin false)
 (.r 7 ((report_Text_k x_).c) fun x5 =>
 .r 8 ((report_Read_k x5).c) fun x6 =>
 .r 9 ((report_Right_k x_).c) fun x7 =>
 .br (!x7)
 (.fin ((x1 && (x5.toList == (⟨#[]⟩ : ByteArray).toList)) && (!x6.2)))
 (.r 11 ((wire_ReadInts_k x5).c) fun x8 =>
 .r 12 (.andl (.wh (((((x1 && x6.2) && (eqCs (Report.cells x6.1) (Report.cells x_))) && x8.2.2) && (x8.2.1.toList == (⟨#[]⟩ : ByteArray).toList)) && (decide (((x8.1.length : Nat) : Int) > 6))) true (.p (ixP (0 : Int) x8.1.length))) (.andl (.wh ((((((x1 && x6.2) && (eqCs (Report.cells x6.1) (Report.cells x_))) && x8.2.2) && (x8.2.1.toList == (⟨#[]⟩ : ByteArray).toList)) && (decide (((x8.1.length : Nat) : Int) > 6))) && ((x8.1.getD 0 default) == x_.reporter)) true (.p (ixP (1 : Int) x8.1.length))) (.andl (.wh (((((((x1 && x6.2) && (eqCs (Report.cells x6.1) (Report.cells x_))) && x8.2.2) && (x8.2.1.toList == (⟨#[]⟩ : ByteArray).toList)) && (decide (((x8.1.length : Nat) : Int) > 6))) && ((x8.1.getD 0 default) == x_.reporter)) && ((x8.1.getD 1 default) == x_.no)) true (.p (ixP (2 : Int) x8.1.length))) (.wh ((((((((x1 && x6.2) && (eqCs (Report.cells x6.1) (Report.cells x_))) && x8.2.2) && (x8.2.1.toList == (⟨#[]⟩ : ByteArray).toList)) && (decide (((x8.1.length : Nat) : Int) > 6))) && ((x8.1.getD 0 default) == x_.reporter)) && ((x8.1.getD 1 default) == x_.no)) && ((x8.1.getD 2 default) == x_.day)) true (.p (ixP (3 : Int) x8.1.length)))))) fun _ =>
 .fin (((((((((x1 && x6.2) && (eqCs (Report.cells x6.1) (Report.cells x_))) && x8.2.2) && (x8.2.1.toList == (⟨#[]⟩ : ByteArray).toList)) && (decide (((x8.1.length : Nat) : Int) > 6))) && ((x8.1.getD 0 default) == x_.reporter)) && ((x8.1.getD 1 default) == x_.no)) && ((x8.1.getD 2 default) == x_.day)) && ((x8.1.getD 3 default) == x_.body.kind)))))
noncomputable def allongelaw50_ReportReads x_ s := (allongelaw50_ReportReads_sk x_ s).val
theorem allongelaw50_ReportReads_ok (x_ : Report) (s : ByteArray) (hx : x_.I64) : (allongelaw50_ReportReads_sk x_ s).obs (fun _ => True) := by
  unfold allongelaw50_ReportReads_sk
  refine ⟨trivial, fun x1 _ _ => ⟨fun _ => trivial, fun hs => ?_⟩⟩
  have hs : s.size ≤ 300 := by simp only [decide_eq_false_iff_not] at hs; omega
  have ht := text_size hx
  refine ⟨(show s.size ≤ 1000000 by omega), fun x2 h2 _ => ⟨⟨trivial, fun x3 _ _ => fun _ => ?_⟩, fun p9 _ _ => ⟨fun _ => trivial, fun _ => ⟨hx, fun x5 h5 _ => ?_⟩⟩⟩⟩
  · have h2 : x2 = report_Read s := h2
    rw [h2]
    exact read_I64 (by omega)
  · have h5 : x5 = report_Text x_ := h5
    rw [h5]
    refine ⟨(show (report_Text x_).size ≤ 1000000 by omega), fun x6 _ _ => ⟨trivial, fun x7 _ _ => ⟨fun _ => trivial, fun _ => ⟨(show (report_Text x_).size ≤ 1000000 by omega), fun x8 _ _ => ⟨⟨?_, ?_, ?_, ?_⟩, fun _ _ _ => trivial⟩⟩⟩⟩⟩
    all_goals
      intro hc
      simp only [Bool.and_eq_true, decide_eq_true_eq] at hc
    · exact (show (0 : Int) ≤ 0 ∧ (0 : Int) < ((x8.1.length : Nat) : Int) by omega)
    · exact (show (0 : Int) ≤ 1 ∧ (1 : Int) < ((x8.1.length : Nat) : Int) by omega)
    · exact (show (0 : Int) ≤ 2 ∧ (2 : Int) < ((x8.1.length : Nat) : Int) by omega)
    · exact (show (0 : Int) ≤ 3 ∧ (3 : Int) < ((x8.1.length : Nat) : Int) by omega)

noncomputable def allongelaw50_ReportReads_k x_ s := kk tok mixed Tryz.func3 [av x_.cells, sv s] (fun x => bv x) true (allongelaw50_ReportReads_sk x_ s) (allongelaw50_ReportReads x_ s) (allongelaw50_ReportReads_ok x_ s)
theorem allongelaw50_ReportReads_fn (x_ : Report) (s : ByteArray) (hx : x_.I64) : FnA Tryz.prog 3 [av x_.cells, sv s] [] (bv (allongelaw50_ReportReads x_ s)) [] := (allongelaw50_ReportReads_k x_ s).pf hx
end Go.Proofs.YtihmmpaalpghbaaGreatDoor

