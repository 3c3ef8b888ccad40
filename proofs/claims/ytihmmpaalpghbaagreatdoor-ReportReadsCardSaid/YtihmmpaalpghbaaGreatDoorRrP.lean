/- The plain law, no program in sight. -/
import Derived.Test.YtihmmpaalpghbaaGreatDoorRr14
import Derived.Test.YtihmmpaalpghbaaGreatDoorAvLb
set_option linter.unusedSimpArgs false
set_option linter.unusedVariables false
set_option maxRecDepth 100000
namespace Go.Proofs.YtihmmpaalpghbaaGreatDoor
open Go Go.Av
theorem allongelaw50_ReportReads_law (a0 : Report) (a1 : ByteArray) (hx : a0.I64) : allongelaw50_ReportReads a0 a1 = true := by
  have e : allongelaw50_ReportReads a0 a1 = (bif decide (((a1.size : Nat) : Int) > 300) then allongelaw50_sane else bif ((!((report_Read a1).2 == ((report_Right (report_Read a1).1 && ((report_Text (report_Read a1).1).toList == a1.toList)) && (!(a1.toList == (⟨#[]⟩ : ByteArray).toList))))) || ((!(report_Read a1).2) && (!(eqCs (Report.cells (report_Read a1).1) (Report.cells zeroR))))) then false else bif !report_Right a0 then ((allongelaw50_sane && ((report_Text a0).toList == (⟨#[]⟩ : ByteArray).toList)) && (!(report_Read (report_Text a0)).2)) else (((((((((allongelaw50_sane && (report_Read (report_Text a0)).2) && (eqCs (Report.cells (report_Read (report_Text a0)).1) (Report.cells a0))) && (wire_ReadInts (report_Text a0)).2.2) && ((wire_ReadInts (report_Text a0)).2.1.toList == (⟨#[]⟩ : ByteArray).toList)) && (decide ((((wire_ReadInts (report_Text a0)).1.length : Nat) : Int) > 6))) && (((wire_ReadInts (report_Text a0)).1.getD 0 default) == a0.reporter)) && (((wire_ReadInts (report_Text a0)).1.getD 1 default) == a0.no)) && (((wire_ReadInts (report_Text a0)).1.getD 2 default) == a0.day)) && (((wire_ReadInts (report_Text a0)).1.getD 3 default) == a0.body.kind))) := by
    unfold allongelaw50_ReportReads allongelaw50_ReportReads_sk
    simp only [Sk.val_br, Sk.val_r]
    rfl
  rw [e, sane_true]
  cases hs : decide (((a1.size : Nat) : Int) > 300) with
  | true => rfl
  | false =>
    have hs : a1.size ≤ 1000000 := by simp only [decide_eq_false_iff_not] at hs; omega
    have h1 : ((!((report_Read a1).2 == ((report_Right (report_Read a1).1 && ((report_Text (report_Read a1).1).toList == a1.toList)) && (!(a1.toList == (⟨#[]⟩ : ByteArray).toList))))) || ((!(report_Read a1).2) && (!(eqCs (Report.cells (report_Read a1).1) (Report.cells zeroR))))) = false := by
      cases hr : (report_Read a1).2 with
      | true =>
        obtain ⟨b1, b2, b3, b4⟩ := read_back hs (a := (report_Read a1).1) (by rw [← hr])
        have c1 : ((report_Text (report_Read a1).1).toList == a1.toList) = true := by
          rw [beq_iff_eq, Lib.toList_data, Lib.toList_data]
          exact b2
        have c2 : (a1.toList == (⟨#[]⟩ : ByteArray).toList) = false := by
          rw [beq_eq_false_iff_ne, Lib.toList_data, Lib.toList_data]
          exact b4
        rw [b1, c1, c2]
        rfl
      | false =>
        have h0 := read_no hr
        rw [h0]
        have c3 : eqCs (Report.cells zeroR) (Report.cells zeroR) = true := eqCs_rfl rfl
        rw [c3]
        have c4 : ((report_Right zeroR && ((report_Text zeroR).toList == a1.toList)) && (!(a1.toList == (⟨#[]⟩ : ByteArray).toList))) = false := by
          cases c5 : ((report_Right zeroR && ((report_Text zeroR).toList == a1.toList)) && (!(a1.toList == (⟨#[]⟩ : ByteArray).toList))) with
          | false => rfl
          | true =>
            simp only [Bool.and_eq_true] at c5
            have c6 : report_Text zeroR = a1 := by
              have := c5.1.2
              rw [beq_iff_eq, Lib.toList_data, Lib.toList_data] at this
              apply ByteArray.ext
              exact Array.ext' this
            have := read_text zeroR_I64 c5.1.1
            rw [c6] at this
            rw [this] at hr
            cases hr
        rw [c4]
        rfl
    rw [h1]
    cases hr : report_Right a0 with
    | false =>
      rw [text_wrong hr]
      have c1 : (report_Read ⟨#[]⟩).2 = false := by
        cases c2 : (report_Read ⟨#[]⟩).2 with
        | false => rfl
        | true =>
          have := (read_back (s := ⟨#[]⟩) (Nat.zero_le _) (a := (report_Read ⟨#[]⟩).1) (by rw [← c2])).2.2.2
          exact absurd rfl this
      rw [c1]
      simp
    | true =>
      rw [read_text hx hr, ints_text hx hr]
      obtain ⟨a1, a2, a3, a4, a5, a6, a7, a8⟩ := rep6 a0
      have c3 : eqCs (Report.cells a0) (Report.cells a0) = true := eqCs_rfl rfl
      have c4 : decide ((((repL a0).length : Nat) : Int) > 6) = true := by
        have h2 := numL_n a0.body
        have h3 : 0 < numN a0.body.kind := by
          unfold numN
          cases a0.body.kind == 0 <;> cases a0.body.kind == 1 <;> cases a0.body.kind == 2 <;> cases a0.body.kind == 3 <;> decide
        rw [decide_eq_true_eq]
        simp only [repL, List.length_append, List.length_cons, List.length_nil]
        omega
      dsimp only
      rw [c3, c4, a2, a3, a4, a5]
      simp

end Go.Proofs.YtihmmpaalpghbaaGreatDoor

