/-
  DERIVED. GIVEN WITH THE SEED: THE CARDS: each row of YtcpmocecjgipbaaGreatDoorRows.lean that lists a variable, with what it lists TIED to the program's text (the seventh form; the later family's looks); each row that meets fmt, with fmt's text TOLD by the authors' own Lean function (tested against real Go, not proved from fmt's source: count such statements apart). THE CARD IS WHAT COUNTS. Prove the row's statement (the work); the ties are given (YtcpmocecjgipbaaGreatDoorTie.lean); close each card by the builder's one call (the guide's Derived/Test/ToyasCard.lean, 'card_holds'). Laid BY PROGRAM, IN A SANDBOX (cutbox-door.mjs). By AI agents, Wed Nov 11 2026. No macro, syntax, notation, axiom, sorry.
-/
import Derived.Test.YtcpmocecjgipbaaGreatDoorRows
import GoSem.ClaimSeven
namespace Go.Proofs.YtcpmocecjgipbaaGreatDoor
namespace Rows

/-- THE TIED CARD OF 'allongelaw47.RecognizeTells'. -/
def recognizeTellsCard : Claim7 := { stood := { row := recognizeTellsRow, standIns := [], harness := (true, "fd793d07fec2b2c90b40a23bd8d7e8c85608ea456bccc9e7c18327e5453eef66"), looks := false }, kinds := [], alts := [], laidByText := true, laidKinds := [.widerDeep], laidTests := true, laidLooks := .later }
def RecognizeTellsCardSaid : Prop := Claim7.holds Tryz.pinned (.plain (OpenSpec.ofChange recognizeTellsSpec)) recognizeTellsCard

/-- THE SECOND FORM's CARD OF 'allongelaw47.RecognizeTells'. -/
def recognizeTellsUptoCard : Claim7 := { stood := { row := recognizeTellsUptoRow, standIns := [], harness := (true, "fd793d07fec2b2c90b40a23bd8d7e8c85608ea456bccc9e7c18327e5453eef66"), looks := false }, kinds := [], alts := [], laidByText := true, laidKinds := [.widerDeep], laidTests := true, laidLooks := .later }
def RecognizeTellsUptoCardSaid : Prop := Claim7.holds Tryz.pinned (.plain (OpenSpec.upto recognizeTellsSpec)) recognizeTellsUptoCard
end Rows
end Go.Proofs.YtcpmocecjgipbaaGreatDoor
