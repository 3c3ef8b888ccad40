/-
  DERIVED. GIVEN WITH THE SEED: THE CARDS: each row of YtihmmpaalpghbaaGreatDoorRows.lean that lists a variable, with what it lists TIED to the program's text (the seventh form; the later family's looks); each row that meets fmt, with fmt's text TOLD by the authors' own Lean function (tested against real Go, not proved from fmt's source: count such statements apart). THE CARD IS WHAT COUNTS. Prove the row's statement (the work); the ties are given (YtihmmpaalpghbaaGreatDoorTie.lean); close each card by the builder's one call (the guide's Derived/Test/ToyasCard.lean, 'card_holds'). Laid BY PROGRAM, IN A SANDBOX (cutbox-door.mjs). By AI agents, Wed Nov 11 2026. No macro, syntax, notation, axiom, sorry.
-/
import Derived.Test.YtihmmpaalpghbaaGreatDoorRows
import GoSem.ClaimSeven
namespace Go.Proofs.YtihmmpaalpghbaaGreatDoor
namespace Rows

/-- THE TIED CARD OF 'allongelaw50.ReportReads'. -/
def reportReadsCard : Claim7 := { stood := { row := reportReadsRow, standIns := [], harness := (true, "8a97368fef884cfe6d9d70015cf90d04d4d67128f451017c5146ad0d72d5933d"), looks := true }, kinds := [], alts := [], laidByText := true, laidKinds := [.data, .data, .data, .sentinel, .sentinel], laidTests := true, laidLooks := .later }
def ReportReadsCardSaid : Prop := Claim7.holds Tryz.pinned (.plain (OpenSpec.ofChange reportReadsSpec)) reportReadsCard

/-- THE TIED CARD OF 'allongelaw50.ReportWhole'. -/
def reportWholeCard : Claim7 := { stood := { row := reportWholeRow, standIns := [], harness := (true, "8a97368fef884cfe6d9d70015cf90d04d4d67128f451017c5146ad0d72d5933d"), looks := true }, kinds := [], alts := [], laidByText := true, laidKinds := [.data, .data, .data, .sentinel, .sentinel], laidTests := true, laidLooks := .later }
def ReportWholeCardSaid : Prop := Claim7.holds Tryz.pinned (.plain (OpenSpec.ofChange reportWholeSpec)) reportWholeCard

/-- THE TIED CARD OF 'allongelaw50.ReportTells'. -/
def reportTellsCard : Claim7 := { stood := { row := reportTellsRow, standIns := [], harness := (true, "8a97368fef884cfe6d9d70015cf90d04d4d67128f451017c5146ad0d72d5933d"), looks := true }, kinds := [], alts := [], laidByText := true, laidKinds := [.data, .data, .data, .sentinel, .sentinel], laidTests := true, laidLooks := .later }
def ReportTellsCardSaid : Prop := Claim7.holds Tryz.pinned (.plain (OpenSpec.ofChange reportTellsSpec)) reportTellsCard

/-- THE TIED CARD OF 'allongelaw50.ReportOrder'. -/
def reportOrderCard : Claim7 := { stood := { row := reportOrderRow, standIns := [], harness := (true, "8a97368fef884cfe6d9d70015cf90d04d4d67128f451017c5146ad0d72d5933d"), looks := true }, kinds := [], alts := [], laidByText := true, laidKinds := [.data, .data, .data, .sentinel, .sentinel], laidTests := true, laidLooks := .later }
def ReportOrderCardSaid : Prop := Claim7.holds Tryz.pinned (.plain (OpenSpec.ofChange reportOrderSpec)) reportOrderCard

/-- THE TIED CARD OF 'allongelaw50.ReportLater'. -/
def reportLaterCard : Claim7 := { stood := { row := reportLaterRow, standIns := [], harness := (true, "8a97368fef884cfe6d9d70015cf90d04d4d67128f451017c5146ad0d72d5933d"), looks := true }, kinds := [], alts := [], laidByText := true, laidKinds := [.data, .data, .data, .sentinel, .sentinel], laidTests := true, laidLooks := .later }
def ReportLaterCardSaid : Prop := Claim7.holds Tryz.pinned (.plain (OpenSpec.ofChange reportLaterSpec)) reportLaterCard

/-- THE SECOND FORM's CARD OF 'allongelaw50.ReportReads'. -/
def reportReadsUptoCard : Claim7 := { stood := { row := reportReadsUptoRow, standIns := [], harness := (true, "8a97368fef884cfe6d9d70015cf90d04d4d67128f451017c5146ad0d72d5933d"), looks := true }, kinds := [], alts := [], laidByText := true, laidKinds := [.data, .data, .data, .sentinel, .sentinel], laidTests := true, laidLooks := .later }
def ReportReadsUptoCardSaid : Prop := Claim7.holds Tryz.pinned (.plain (OpenSpec.upto reportReadsSpec)) reportReadsUptoCard

/-- THE SECOND FORM's CARD OF 'allongelaw50.ReportWhole'. -/
def reportWholeUptoCard : Claim7 := { stood := { row := reportWholeUptoRow, standIns := [], harness := (true, "8a97368fef884cfe6d9d70015cf90d04d4d67128f451017c5146ad0d72d5933d"), looks := true }, kinds := [], alts := [], laidByText := true, laidKinds := [.data, .data, .data, .sentinel, .sentinel], laidTests := true, laidLooks := .later }
def ReportWholeUptoCardSaid : Prop := Claim7.holds Tryz.pinned (.plain (OpenSpec.upto reportWholeSpec)) reportWholeUptoCard

/-- THE SECOND FORM's CARD OF 'allongelaw50.ReportTells'. -/
def reportTellsUptoCard : Claim7 := { stood := { row := reportTellsUptoRow, standIns := [], harness := (true, "8a97368fef884cfe6d9d70015cf90d04d4d67128f451017c5146ad0d72d5933d"), looks := true }, kinds := [], alts := [], laidByText := true, laidKinds := [.data, .data, .data, .sentinel, .sentinel], laidTests := true, laidLooks := .later }
def ReportTellsUptoCardSaid : Prop := Claim7.holds Tryz.pinned (.plain (OpenSpec.upto reportTellsSpec)) reportTellsUptoCard

/-- THE SECOND FORM's CARD OF 'allongelaw50.ReportOrder'. -/
def reportOrderUptoCard : Claim7 := { stood := { row := reportOrderUptoRow, standIns := [], harness := (true, "8a97368fef884cfe6d9d70015cf90d04d4d67128f451017c5146ad0d72d5933d"), looks := true }, kinds := [], alts := [], laidByText := true, laidKinds := [.data, .data, .data, .sentinel, .sentinel], laidTests := true, laidLooks := .later }
def ReportOrderUptoCardSaid : Prop := Claim7.holds Tryz.pinned (.plain (OpenSpec.upto reportOrderSpec)) reportOrderUptoCard

/-- THE SECOND FORM's CARD OF 'allongelaw50.ReportLater'. -/
def reportLaterUptoCard : Claim7 := { stood := { row := reportLaterUptoRow, standIns := [], harness := (true, "8a97368fef884cfe6d9d70015cf90d04d4d67128f451017c5146ad0d72d5933d"), looks := true }, kinds := [], alts := [], laidByText := true, laidKinds := [.data, .data, .data, .sentinel, .sentinel], laidTests := true, laidLooks := .later }
def ReportLaterUptoCardSaid : Prop := Claim7.holds Tryz.pinned (.plain (OpenSpec.upto reportLaterSpec)) reportLaterUptoCard
end Rows
end Go.Proofs.YtihmmpaalpghbaaGreatDoor
