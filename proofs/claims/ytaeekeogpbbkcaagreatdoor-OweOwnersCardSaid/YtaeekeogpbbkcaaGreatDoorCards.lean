/-
  DERIVED. GIVEN WITH THE SEED: THE CARDS: each row of YtaeekeogpbbkcaaGreatDoorRows.lean that lists a variable, with what it lists TIED to the program's text (the seventh form; the later family's looks); each row that meets fmt, with fmt's text TOLD by the authors' own Lean function (tested against real Go, not proved from fmt's source: count such statements apart). THE CARD IS WHAT COUNTS. Prove the row's statement (the work); the ties are given (YtaeekeogpbbkcaaGreatDoorTie.lean); close each card by the builder's one call (the guide's Derived/Test/ToyasCard.lean, 'card_holds'). Laid BY PROGRAM, IN A SANDBOX (cutbox-door.mjs). By AI agents, Wed Nov 11 2026. No macro, syntax, notation, axiom, sorry.
-/
import Derived.Test.YtaeekeogpbbkcaaGreatDoorRows
import GoSem.ClaimSeven
namespace Go.Proofs.YtaeekeogpbbkcaaGreatDoor
namespace Rows

/-- THE TIED CARD OF 'allongelaw26.OweOwners'. -/
def oweOwnersCard : Claim7 := { stood := { row := oweOwnersRow, standIns := [], harness := (true, "da4398810cdb6645242619be5fac95853d3600eabe0ef4439df72e6032360db8"), looks := false }, kinds := [], alts := [], laidByText := true, laidKinds := [.widerDeep], laidTests := true, laidLooks := .later }
def OweOwnersCardSaid : Prop := Claim7.holds Tryz.pinned (.plain (OpenSpec.ofChange oweOwnersSpec)) oweOwnersCard

/-- THE SECOND FORM's CARD OF 'allongelaw26.OweOwners'. -/
def oweOwnersUptoCard : Claim7 := { stood := { row := oweOwnersUptoRow, standIns := [], harness := (true, "da4398810cdb6645242619be5fac95853d3600eabe0ef4439df72e6032360db8"), looks := false }, kinds := [], alts := [], laidByText := true, laidKinds := [.widerDeep], laidTests := true, laidLooks := .later }
def OweOwnersUptoCardSaid : Prop := Claim7.holds Tryz.pinned (.plain (OpenSpec.upto oweOwnersSpec)) oweOwnersUptoCard
end Rows
end Go.Proofs.YtaeekeogpbbkcaaGreatDoor
