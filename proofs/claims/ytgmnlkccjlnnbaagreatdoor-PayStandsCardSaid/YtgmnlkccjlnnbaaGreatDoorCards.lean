/-
  DERIVED. GIVEN WITH THE SEED: THE CARDS: each row of YtgmnlkccjlnnbaaGreatDoorRows.lean that lists a variable, with what it lists TIED to the program's text (the seventh form; the later family's looks); each row that meets fmt, with fmt's text TOLD by the authors' own Lean function (tested against real Go, not proved from fmt's source: count such statements apart). THE CARD IS WHAT COUNTS. Prove the row's statement (the work); the ties are given (YtgmnlkccjlnnbaaGreatDoorTie.lean); close each card by the builder's one call (the guide's Derived/Test/ToyasCard.lean, 'card_holds'). Laid BY PROGRAM, IN A SANDBOX (cutbox-door.mjs). By AI agents, Wed Nov 11 2026. No macro, syntax, notation, axiom, sorry.
-/
import Derived.Test.YtgmnlkccjlnnbaaGreatDoorRows
import GoSem.ClaimSeven
namespace Go.Proofs.YtgmnlkccjlnnbaaGreatDoor
namespace Rows

/-- THE TIED CARD OF 'allongelaw27.PayGrows'. -/
def payGrowsCard : Claim7 := { stood := { row := payGrowsRow, standIns := [], harness := (true, "3fa21770522c016e4e9ade188ff7e7cc0062f4f6388fb494d31eaf7d2f3891fb"), looks := false }, kinds := [], alts := [], laidByText := true, laidKinds := [.widerDeep], laidTests := true, laidLooks := .later }
def PayGrowsCardSaid : Prop := Claim7.holds Tryz.pinned (.plain (OpenSpec.ofChange payGrowsSpec)) payGrowsCard

/-- THE TIED CARD OF 'allongelaw27.PayStands'. -/
def payStandsCard : Claim7 := { stood := { row := payStandsRow, standIns := [], harness := (true, "3fa21770522c016e4e9ade188ff7e7cc0062f4f6388fb494d31eaf7d2f3891fb"), looks := false }, kinds := [], alts := [], laidByText := true, laidKinds := [.widerDeep], laidTests := true, laidLooks := .later }
def PayStandsCardSaid : Prop := Claim7.holds Tryz.pinned (.plain (OpenSpec.ofChange payStandsSpec)) payStandsCard

/-- THE SECOND FORM's CARD OF 'allongelaw27.PayGrows'. -/
def payGrowsUptoCard : Claim7 := { stood := { row := payGrowsUptoRow, standIns := [], harness := (true, "3fa21770522c016e4e9ade188ff7e7cc0062f4f6388fb494d31eaf7d2f3891fb"), looks := false }, kinds := [], alts := [], laidByText := true, laidKinds := [.widerDeep], laidTests := true, laidLooks := .later }
def PayGrowsUptoCardSaid : Prop := Claim7.holds Tryz.pinned (.plain (OpenSpec.upto payGrowsSpec)) payGrowsUptoCard

/-- THE SECOND FORM's CARD OF 'allongelaw27.PayStands'. -/
def payStandsUptoCard : Claim7 := { stood := { row := payStandsUptoRow, standIns := [], harness := (true, "3fa21770522c016e4e9ade188ff7e7cc0062f4f6388fb494d31eaf7d2f3891fb"), looks := false }, kinds := [], alts := [], laidByText := true, laidKinds := [.widerDeep], laidTests := true, laidLooks := .later }
def PayStandsUptoCardSaid : Prop := Claim7.holds Tryz.pinned (.plain (OpenSpec.upto payStandsSpec)) payStandsUptoCard
end Rows
end Go.Proofs.YtgmnlkccjlnnbaaGreatDoor
