/-
  DERIVED. GIVEN WITH THE SEED: THE CARDS: each row of YtbcnlpcaajpclaaGreatDoorRows.lean that lists a variable, with what it lists TIED to the program's text (the seventh form; the later family's looks); each row that meets fmt, with fmt's text TOLD by the authors' own Lean function (tested against real Go, not proved from fmt's source: count such statements apart). THE CARD IS WHAT COUNTS. Prove the row's statement (the work); the ties are given (YtbcnlpcaajpclaaGreatDoorTie.lean); close each card by the builder's one call (the guide's Derived/Test/ToyasCard.lean, 'card_holds'). Laid BY PROGRAM, IN A SANDBOX (cutbox-door.mjs). By AI agents, Wed Nov 11 2026. No macro, syntax, notation, axiom, sorry.
-/
import Derived.Test.YtbcnlpcaajpclaaGreatDoorRows
import GoSem.ClaimSeven
namespace Go.Proofs.YtbcnlpcaajpclaaGreatDoor
namespace Rows

/-- THE TIED CARD OF 'allongelaw27.PayLess'. -/
def payLessCard : Claim7 := { stood := { row := payLessRow, standIns := [], harness := (true, "a7babfe524000d044cb5146af7fef0773d8e8f50afa11d9e0dbc3094b99ee935"), looks := false }, kinds := [], alts := [], laidByText := true, laidKinds := [.widerDeep], laidTests := true, laidLooks := .later }
def PayLessCardSaid : Prop := Claim7.holds Tryz.pinned (.plain (OpenSpec.ofChange payLessSpec)) payLessCard

/-- THE TIED CARD OF 'allongelaw29.MissingUnknown'. -/
def missingUnknownCard : Claim7 := { stood := { row := missingUnknownRow, standIns := [], harness := (true, "a7babfe524000d044cb5146af7fef0773d8e8f50afa11d9e0dbc3094b99ee935"), looks := false }, kinds := [], alts := [], laidByText := true, laidKinds := [.widerDeep], laidTests := true, laidLooks := .later }
def MissingUnknownCardSaid : Prop := Claim7.holds Tryz.pinned (.plain (OpenSpec.ofChange missingUnknownSpec)) missingUnknownCard

/-- THE TIED CARD OF 'allongelaw47.RecognizeClaims'. -/
def recognizeClaimsCard : Claim7 := { stood := { row := recognizeClaimsRow, standIns := [], harness := (true, "a7babfe524000d044cb5146af7fef0773d8e8f50afa11d9e0dbc3094b99ee935"), looks := false }, kinds := [], alts := [], laidByText := true, laidKinds := [.widerDeep], laidTests := true, laidLooks := .later }
def RecognizeClaimsCardSaid : Prop := Claim7.holds Tryz.pinned (.plain (OpenSpec.ofChange recognizeClaimsSpec)) recognizeClaimsCard

/-- THE TIED CARD OF 'allongelaw29.MissingOpen'. -/
def missingOpenCard : Claim7 := { stood := { row := missingOpenRow, standIns := [], harness := (true, "a7babfe524000d044cb5146af7fef0773d8e8f50afa11d9e0dbc3094b99ee935"), looks := false }, kinds := [], alts := [], laidByText := true, laidKinds := [.widerDeep], laidTests := true, laidLooks := .later }
def MissingOpenCardSaid : Prop := Claim7.holds Tryz.pinned (.plain (OpenSpec.ofChange missingOpenSpec)) missingOpenCard

/-- THE SECOND FORM's CARD OF 'allongelaw27.PayLess'. -/
def payLessUptoCard : Claim7 := { stood := { row := payLessUptoRow, standIns := [], harness := (true, "a7babfe524000d044cb5146af7fef0773d8e8f50afa11d9e0dbc3094b99ee935"), looks := false }, kinds := [], alts := [], laidByText := true, laidKinds := [.widerDeep], laidTests := true, laidLooks := .later }
def PayLessUptoCardSaid : Prop := Claim7.holds Tryz.pinned (.plain (OpenSpec.upto payLessSpec)) payLessUptoCard

/-- THE SECOND FORM's CARD OF 'allongelaw29.MissingUnknown'. -/
def missingUnknownUptoCard : Claim7 := { stood := { row := missingUnknownUptoRow, standIns := [], harness := (true, "a7babfe524000d044cb5146af7fef0773d8e8f50afa11d9e0dbc3094b99ee935"), looks := false }, kinds := [], alts := [], laidByText := true, laidKinds := [.widerDeep], laidTests := true, laidLooks := .later }
def MissingUnknownUptoCardSaid : Prop := Claim7.holds Tryz.pinned (.plain (OpenSpec.upto missingUnknownSpec)) missingUnknownUptoCard

/-- THE SECOND FORM's CARD OF 'allongelaw47.RecognizeClaims'. -/
def recognizeClaimsUptoCard : Claim7 := { stood := { row := recognizeClaimsUptoRow, standIns := [], harness := (true, "a7babfe524000d044cb5146af7fef0773d8e8f50afa11d9e0dbc3094b99ee935"), looks := false }, kinds := [], alts := [], laidByText := true, laidKinds := [.widerDeep], laidTests := true, laidLooks := .later }
def RecognizeClaimsUptoCardSaid : Prop := Claim7.holds Tryz.pinned (.plain (OpenSpec.upto recognizeClaimsSpec)) recognizeClaimsUptoCard

/-- THE SECOND FORM's CARD OF 'allongelaw29.MissingOpen'. -/
def missingOpenUptoCard : Claim7 := { stood := { row := missingOpenUptoRow, standIns := [], harness := (true, "a7babfe524000d044cb5146af7fef0773d8e8f50afa11d9e0dbc3094b99ee935"), looks := false }, kinds := [], alts := [], laidByText := true, laidKinds := [.widerDeep], laidTests := true, laidLooks := .later }
def MissingOpenUptoCardSaid : Prop := Claim7.holds Tryz.pinned (.plain (OpenSpec.upto missingOpenSpec)) missingOpenUptoCard
end Rows
end Go.Proofs.YtbcnlpcaajpclaaGreatDoor
