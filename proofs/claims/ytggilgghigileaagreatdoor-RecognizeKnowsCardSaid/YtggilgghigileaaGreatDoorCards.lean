/-
  DERIVED. GIVEN WITH THE SEED: THE CARDS: each row of YtggilgghigileaaGreatDoorRows.lean that lists a variable, with what it lists TIED to the program's text (the seventh form; the later family's looks); each row that meets fmt, with fmt's text TOLD by the authors' own Lean function (tested against real Go, not proved from fmt's source: count such statements apart). THE CARD IS WHAT COUNTS. Prove the row's statement (the work); the ties are given (YtggilgghigileaaGreatDoorTie.lean); close each card by the builder's one call (the guide's Derived/Test/ToyasCard.lean, 'card_holds'). Laid BY PROGRAM, IN A SANDBOX (cutbox-door.mjs). By AI agents, Wed Nov 11 2026. No macro, syntax, notation, axiom, sorry.
-/
import Derived.Test.YtggilgghigileaaGreatDoorRows
import GoSem.ClaimSeven
namespace Go.Proofs.YtggilgghigileaaGreatDoor
namespace Rows

/-- THE TIED CARD OF 'allongelaw28.LimitLater'. -/
def limitLaterCard : Claim7 := { stood := { row := limitLaterRow, standIns := [], harness := (true, "98224ccc9dbfc9465b3be3a0e8a383e422ebed389d1db58d394360337b446ed0"), looks := false }, kinds := [], alts := [], laidByText := true, laidKinds := [.widerDeep], laidTests := true, laidLooks := .later }
def LimitLaterCardSaid : Prop := Claim7.holds Tryz.pinned (.plain (OpenSpec.ofChange limitLaterSpec)) limitLaterCard

/-- THE TIED CARD OF 'allongelaw28.LimitSuits'. -/
def limitSuitsCard : Claim7 := { stood := { row := limitSuitsRow, standIns := [], harness := (true, "98224ccc9dbfc9465b3be3a0e8a383e422ebed389d1db58d394360337b446ed0"), looks := false }, kinds := [], alts := [], laidByText := true, laidKinds := [.widerDeep], laidTests := true, laidLooks := .later }
def LimitSuitsCardSaid : Prop := Claim7.holds Tryz.pinned (.plain (OpenSpec.ofChange limitSuitsSpec)) limitSuitsCard

/-- THE TIED CARD OF 'allongelaw47.RecognizeTells'. -/
def recognizeTellsCard : Claim7 := { stood := { row := recognizeTellsRow, standIns := [], harness := (true, "98224ccc9dbfc9465b3be3a0e8a383e422ebed389d1db58d394360337b446ed0"), looks := false }, kinds := [], alts := [], laidByText := true, laidKinds := [.widerDeep], laidTests := true, laidLooks := .later }
def RecognizeTellsCardSaid : Prop := Claim7.holds Tryz.pinned (.plain (OpenSpec.ofChange recognizeTellsSpec)) recognizeTellsCard

/-- THE TIED CARD OF 'allongelaw47.RecognizeOnce'. -/
def recognizeOnceCard : Claim7 := { stood := { row := recognizeOnceRow, standIns := [], harness := (true, "98224ccc9dbfc9465b3be3a0e8a383e422ebed389d1db58d394360337b446ed0"), looks := false }, kinds := [], alts := [], laidByText := true, laidKinds := [.widerDeep], laidTests := true, laidLooks := .later }
def RecognizeOnceCardSaid : Prop := Claim7.holds Tryz.pinned (.plain (OpenSpec.ofChange recognizeOnceSpec)) recognizeOnceCard

/-- THE TIED CARD OF 'allongelaw47.RecognizeKnows'. -/
def recognizeKnowsCard : Claim7 := { stood := { row := recognizeKnowsRow, standIns := [], harness := (true, "98224ccc9dbfc9465b3be3a0e8a383e422ebed389d1db58d394360337b446ed0"), looks := false }, kinds := [], alts := [], laidByText := true, laidKinds := [.widerDeep], laidTests := true, laidLooks := .later }
def RecognizeKnowsCardSaid : Prop := Claim7.holds Tryz.pinned (.plain (OpenSpec.ofChange recognizeKnowsSpec)) recognizeKnowsCard

/-- THE TIED CARD OF 'allongelaw47.RecognizeLess'. -/
def recognizeLessCard : Claim7 := { stood := { row := recognizeLessRow, standIns := [], harness := (true, "98224ccc9dbfc9465b3be3a0e8a383e422ebed389d1db58d394360337b446ed0"), looks := false }, kinds := [], alts := [], laidByText := true, laidKinds := [.widerDeep], laidTests := true, laidLooks := .later }
def RecognizeLessCardSaid : Prop := Claim7.holds Tryz.pinned (.plain (OpenSpec.ofChange recognizeLessSpec)) recognizeLessCard

/-- THE SECOND FORM's CARD OF 'allongelaw28.LimitLater'. -/
def limitLaterUptoCard : Claim7 := { stood := { row := limitLaterUptoRow, standIns := [], harness := (true, "98224ccc9dbfc9465b3be3a0e8a383e422ebed389d1db58d394360337b446ed0"), looks := false }, kinds := [], alts := [], laidByText := true, laidKinds := [.widerDeep], laidTests := true, laidLooks := .later }
def LimitLaterUptoCardSaid : Prop := Claim7.holds Tryz.pinned (.plain (OpenSpec.upto limitLaterSpec)) limitLaterUptoCard

/-- THE SECOND FORM's CARD OF 'allongelaw28.LimitSuits'. -/
def limitSuitsUptoCard : Claim7 := { stood := { row := limitSuitsUptoRow, standIns := [], harness := (true, "98224ccc9dbfc9465b3be3a0e8a383e422ebed389d1db58d394360337b446ed0"), looks := false }, kinds := [], alts := [], laidByText := true, laidKinds := [.widerDeep], laidTests := true, laidLooks := .later }
def LimitSuitsUptoCardSaid : Prop := Claim7.holds Tryz.pinned (.plain (OpenSpec.upto limitSuitsSpec)) limitSuitsUptoCard

/-- THE SECOND FORM's CARD OF 'allongelaw47.RecognizeTells'. -/
def recognizeTellsUptoCard : Claim7 := { stood := { row := recognizeTellsUptoRow, standIns := [], harness := (true, "98224ccc9dbfc9465b3be3a0e8a383e422ebed389d1db58d394360337b446ed0"), looks := false }, kinds := [], alts := [], laidByText := true, laidKinds := [.widerDeep], laidTests := true, laidLooks := .later }
def RecognizeTellsUptoCardSaid : Prop := Claim7.holds Tryz.pinned (.plain (OpenSpec.upto recognizeTellsSpec)) recognizeTellsUptoCard

/-- THE SECOND FORM's CARD OF 'allongelaw47.RecognizeOnce'. -/
def recognizeOnceUptoCard : Claim7 := { stood := { row := recognizeOnceUptoRow, standIns := [], harness := (true, "98224ccc9dbfc9465b3be3a0e8a383e422ebed389d1db58d394360337b446ed0"), looks := false }, kinds := [], alts := [], laidByText := true, laidKinds := [.widerDeep], laidTests := true, laidLooks := .later }
def RecognizeOnceUptoCardSaid : Prop := Claim7.holds Tryz.pinned (.plain (OpenSpec.upto recognizeOnceSpec)) recognizeOnceUptoCard

/-- THE SECOND FORM's CARD OF 'allongelaw47.RecognizeKnows'. -/
def recognizeKnowsUptoCard : Claim7 := { stood := { row := recognizeKnowsUptoRow, standIns := [], harness := (true, "98224ccc9dbfc9465b3be3a0e8a383e422ebed389d1db58d394360337b446ed0"), looks := false }, kinds := [], alts := [], laidByText := true, laidKinds := [.widerDeep], laidTests := true, laidLooks := .later }
def RecognizeKnowsUptoCardSaid : Prop := Claim7.holds Tryz.pinned (.plain (OpenSpec.upto recognizeKnowsSpec)) recognizeKnowsUptoCard

/-- THE SECOND FORM's CARD OF 'allongelaw47.RecognizeLess'. -/
def recognizeLessUptoCard : Claim7 := { stood := { row := recognizeLessUptoRow, standIns := [], harness := (true, "98224ccc9dbfc9465b3be3a0e8a383e422ebed389d1db58d394360337b446ed0"), looks := false }, kinds := [], alts := [], laidByText := true, laidKinds := [.widerDeep], laidTests := true, laidLooks := .later }
def RecognizeLessUptoCardSaid : Prop := Claim7.holds Tryz.pinned (.plain (OpenSpec.upto recognizeLessSpec)) recognizeLessUptoCard
end Rows
end Go.Proofs.YtggilgghigileaaGreatDoor
