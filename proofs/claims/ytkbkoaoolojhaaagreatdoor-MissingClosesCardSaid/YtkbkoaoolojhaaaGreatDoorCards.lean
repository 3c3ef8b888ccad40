/-
  DERIVED. GIVEN WITH THE SEED: THE CARDS: each row of YtkbkoaoolojhaaaGreatDoorRows.lean that lists a variable, with what it lists TIED to the program's text (the seventh form; the later family's looks); each row that meets fmt, with fmt's text TOLD by the authors' own Lean function (tested against real Go, not proved from fmt's source: count such statements apart). THE CARD IS WHAT COUNTS. Prove the row's statement (the work); the ties are given (YtkbkoaoolojhaaaGreatDoorTie.lean); close each card by the builder's one call (the guide's Derived/Test/ToyasCard.lean, 'card_holds'). Laid BY PROGRAM, IN A SANDBOX (cutbox-door.mjs). By AI agents, Wed Nov 11 2026. No macro, syntax, notation, axiom, sorry.
-/
import Derived.Test.YtkbkoaoolojhaaaGreatDoorRows
import GoSem.ClaimSeven
namespace Go.Proofs.YtkbkoaoolojhaaaGreatDoor
namespace Rows

/-- THE TIED CARD OF 'allongelaw29.MissingUnknown'. -/
def missingUnknownCard : Claim7 := { stood := { row := missingUnknownRow, standIns := [], harness := (true, "6020d7929be4b2e8e050edb3ae8537bf471816f536876f1e48af174140fb1a7c"), looks := false }, kinds := [], alts := [], laidByText := true, laidKinds := [.widerDeep], laidTests := true, laidLooks := .later }
def MissingUnknownCardSaid : Prop := Claim7.holds Tryz.pinned (.plain (OpenSpec.ofChange missingUnknownSpec)) missingUnknownCard

/-- THE TIED CARD OF 'allongelaw29.MissingOpen'. -/
def missingOpenCard : Claim7 := { stood := { row := missingOpenRow, standIns := [], harness := (true, "6020d7929be4b2e8e050edb3ae8537bf471816f536876f1e48af174140fb1a7c"), looks := false }, kinds := [], alts := [], laidByText := true, laidKinds := [.widerDeep], laidTests := true, laidLooks := .later }
def MissingOpenCardSaid : Prop := Claim7.holds Tryz.pinned (.plain (OpenSpec.ofChange missingOpenSpec)) missingOpenCard

/-- THE TIED CARD OF 'allongelaw29.MissingLeast'. -/
def missingLeastCard : Claim7 := { stood := { row := missingLeastRow, standIns := [], harness := (true, "6020d7929be4b2e8e050edb3ae8537bf471816f536876f1e48af174140fb1a7c"), looks := false }, kinds := [], alts := [], laidByText := true, laidKinds := [.widerDeep], laidTests := true, laidLooks := .later }
def MissingLeastCardSaid : Prop := Claim7.holds Tryz.pinned (.plain (OpenSpec.ofChange missingLeastSpec)) missingLeastCard

/-- THE TIED CARD OF 'allongelaw29.MissingCloses'. -/
def missingClosesCard : Claim7 := { stood := { row := missingClosesRow, standIns := [], harness := (true, "6020d7929be4b2e8e050edb3ae8537bf471816f536876f1e48af174140fb1a7c"), looks := false }, kinds := [], alts := [], laidByText := true, laidKinds := [.widerDeep], laidTests := true, laidLooks := .later }
def MissingClosesCardSaid : Prop := Claim7.holds Tryz.pinned (.plain (OpenSpec.ofChange missingClosesSpec)) missingClosesCard

/-- THE SECOND FORM's CARD OF 'allongelaw29.MissingUnknown'. -/
def missingUnknownUptoCard : Claim7 := { stood := { row := missingUnknownUptoRow, standIns := [], harness := (true, "6020d7929be4b2e8e050edb3ae8537bf471816f536876f1e48af174140fb1a7c"), looks := false }, kinds := [], alts := [], laidByText := true, laidKinds := [.widerDeep], laidTests := true, laidLooks := .later }
def MissingUnknownUptoCardSaid : Prop := Claim7.holds Tryz.pinned (.plain (OpenSpec.upto missingUnknownSpec)) missingUnknownUptoCard

/-- THE SECOND FORM's CARD OF 'allongelaw29.MissingOpen'. -/
def missingOpenUptoCard : Claim7 := { stood := { row := missingOpenUptoRow, standIns := [], harness := (true, "6020d7929be4b2e8e050edb3ae8537bf471816f536876f1e48af174140fb1a7c"), looks := false }, kinds := [], alts := [], laidByText := true, laidKinds := [.widerDeep], laidTests := true, laidLooks := .later }
def MissingOpenUptoCardSaid : Prop := Claim7.holds Tryz.pinned (.plain (OpenSpec.upto missingOpenSpec)) missingOpenUptoCard

/-- THE SECOND FORM's CARD OF 'allongelaw29.MissingLeast'. -/
def missingLeastUptoCard : Claim7 := { stood := { row := missingLeastUptoRow, standIns := [], harness := (true, "6020d7929be4b2e8e050edb3ae8537bf471816f536876f1e48af174140fb1a7c"), looks := false }, kinds := [], alts := [], laidByText := true, laidKinds := [.widerDeep], laidTests := true, laidLooks := .later }
def MissingLeastUptoCardSaid : Prop := Claim7.holds Tryz.pinned (.plain (OpenSpec.upto missingLeastSpec)) missingLeastUptoCard

/-- THE SECOND FORM's CARD OF 'allongelaw29.MissingCloses'. -/
def missingClosesUptoCard : Claim7 := { stood := { row := missingClosesUptoRow, standIns := [], harness := (true, "6020d7929be4b2e8e050edb3ae8537bf471816f536876f1e48af174140fb1a7c"), looks := false }, kinds := [], alts := [], laidByText := true, laidKinds := [.widerDeep], laidTests := true, laidLooks := .later }
def MissingClosesUptoCardSaid : Prop := Claim7.holds Tryz.pinned (.plain (OpenSpec.upto missingClosesSpec)) missingClosesUptoCard
end Rows
end Go.Proofs.YtkbkoaoolojhaaaGreatDoor
