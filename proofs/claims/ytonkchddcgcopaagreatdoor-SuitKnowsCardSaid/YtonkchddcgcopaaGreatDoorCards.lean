/-
  DERIVED. GIVEN WITH THE SEED: THE CARDS: each row of YtonkchddcgcopaaGreatDoorRows.lean that lists a variable, with what it lists TIED to the program's text (the seventh form; the later family's looks); each row that meets fmt, with fmt's text TOLD by the authors' own Lean function (tested against real Go, not proved from fmt's source: count such statements apart). THE CARD IS WHAT COUNTS. Prove the row's statement (the work); the ties are given (YtonkchddcgcopaaGreatDoorTie.lean); close each card by the builder's one call (the guide's Derived/Test/ToyasCard.lean, 'card_holds'). Laid BY PROGRAM, IN A SANDBOX (cutbox-door.mjs). By AI agents, Wed Nov 11 2026. No macro, syntax, notation, axiom, sorry.
-/
import Derived.Test.YtonkchddcgcopaaGreatDoorRows
import GoSem.ClaimSeven
namespace Go.Proofs.YtonkchddcgcopaaGreatDoor
namespace Rows

/-- THE TIED CARD OF 'allongelaw46.SuitKnows'. -/
def suitKnowsCard : Claim7 := { stood := { row := suitKnowsRow, standIns := [], harness := (true, "1f444830dc254f43f9eb12f79f0f3ace8948646c555a06e33bbefdbaa23260f2"), looks := false }, kinds := [], alts := [], laidByText := true, laidKinds := [.widerDeep], laidTests := true, laidLooks := .later }
def SuitKnowsCardSaid : Prop := Claim7.holds Tryz.pinned (.plain (OpenSpec.ofChange suitKnowsSpec)) suitKnowsCard

/-- THE SECOND FORM's CARD OF 'allongelaw46.SuitKnows'. -/
def suitKnowsUptoCard : Claim7 := { stood := { row := suitKnowsUptoRow, standIns := [], harness := (true, "1f444830dc254f43f9eb12f79f0f3ace8948646c555a06e33bbefdbaa23260f2"), looks := false }, kinds := [], alts := [], laidByText := true, laidKinds := [.widerDeep], laidTests := true, laidLooks := .later }
def SuitKnowsUptoCardSaid : Prop := Claim7.holds Tryz.pinned (.plain (OpenSpec.upto suitKnowsSpec)) suitKnowsUptoCard
end Rows
end Go.Proofs.YtonkchddcgcopaaGreatDoor
