/-
  DERIVED. GIVEN WITH THE SEED: THE CARDS: each row of YtjaehpinmdpmbaaGreatDoorRows.lean that lists a variable, with what it lists TIED to the program's text (the seventh form; the later family's looks); each row that meets fmt, with fmt's text TOLD by the authors' own Lean function (tested against real Go, not proved from fmt's source: count such statements apart). THE CARD IS WHAT COUNTS. Prove the row's statement (the work); the ties are given (YtjaehpinmdpmbaaGreatDoorTie.lean); close each card by the builder's one call (the guide's Derived/Test/ToyasCard.lean, 'card_holds'). Laid BY PROGRAM, IN A SANDBOX (cutbox-door.mjs). By AI agents, Wed Nov 11 2026. No macro, syntax, notation, axiom, sorry.
-/
import Derived.Test.YtjaehpinmdpmbaaGreatDoorRows
import GoSem.ClaimSeven
namespace Go.Proofs.YtjaehpinmdpmbaaGreatDoor
namespace Rows

/-- THE TIED CARD OF 'allongelaw26.OweLeads'. -/
def oweLeadsCard : Claim7 := { stood := { row := oweLeadsRow, standIns := [], harness := (true, "53a73cc2039c5cce4e29a80b67cad29434b83dc4249c88a4e7de00538fce968f"), looks := false }, kinds := [], alts := [], laidByText := true, laidKinds := [.widerDeep], laidTests := true, laidLooks := .later }
def OweLeadsCardSaid : Prop := Claim7.holds Tryz.pinned (.plain (OpenSpec.ofChange oweLeadsSpec)) oweLeadsCard

/-- THE TIED CARD OF 'allongelaw26.OweOnce'. -/
def oweOnceCard : Claim7 := { stood := { row := oweOnceRow, standIns := [], harness := (true, "53a73cc2039c5cce4e29a80b67cad29434b83dc4249c88a4e7de00538fce968f"), looks := false }, kinds := [], alts := [], laidByText := true, laidKinds := [.widerDeep], laidTests := true, laidLooks := .later }
def OweOnceCardSaid : Prop := Claim7.holds Tryz.pinned (.plain (OpenSpec.ofChange oweOnceSpec)) oweOnceCard

/-- THE TIED CARD OF 'allongelaw26.OweTurns'. -/
def oweTurnsCard : Claim7 := { stood := { row := oweTurnsRow, standIns := [], harness := (true, "53a73cc2039c5cce4e29a80b67cad29434b83dc4249c88a4e7de00538fce968f"), looks := false }, kinds := [], alts := [], laidByText := true, laidKinds := [.widerDeep], laidTests := true, laidLooks := .later }
def OweTurnsCardSaid : Prop := Claim7.holds Tryz.pinned (.plain (OpenSpec.ofChange oweTurnsSpec)) oweTurnsCard

/-- THE TIED CARD OF 'allongelaw26.OweOwners'. -/
def oweOwnersCard : Claim7 := { stood := { row := oweOwnersRow, standIns := [], harness := (true, "53a73cc2039c5cce4e29a80b67cad29434b83dc4249c88a4e7de00538fce968f"), looks := false }, kinds := [], alts := [], laidByText := true, laidKinds := [.widerDeep], laidTests := true, laidLooks := .later }
def OweOwnersCardSaid : Prop := Claim7.holds Tryz.pinned (.plain (OpenSpec.ofChange oweOwnersSpec)) oweOwnersCard

/-- THE SECOND FORM's CARD OF 'allongelaw26.OweLeads'. -/
def oweLeadsUptoCard : Claim7 := { stood := { row := oweLeadsUptoRow, standIns := [], harness := (true, "53a73cc2039c5cce4e29a80b67cad29434b83dc4249c88a4e7de00538fce968f"), looks := false }, kinds := [], alts := [], laidByText := true, laidKinds := [.widerDeep], laidTests := true, laidLooks := .later }
def OweLeadsUptoCardSaid : Prop := Claim7.holds Tryz.pinned (.plain (OpenSpec.upto oweLeadsSpec)) oweLeadsUptoCard

/-- THE SECOND FORM's CARD OF 'allongelaw26.OweOnce'. -/
def oweOnceUptoCard : Claim7 := { stood := { row := oweOnceUptoRow, standIns := [], harness := (true, "53a73cc2039c5cce4e29a80b67cad29434b83dc4249c88a4e7de00538fce968f"), looks := false }, kinds := [], alts := [], laidByText := true, laidKinds := [.widerDeep], laidTests := true, laidLooks := .later }
def OweOnceUptoCardSaid : Prop := Claim7.holds Tryz.pinned (.plain (OpenSpec.upto oweOnceSpec)) oweOnceUptoCard

/-- THE SECOND FORM's CARD OF 'allongelaw26.OweTurns'. -/
def oweTurnsUptoCard : Claim7 := { stood := { row := oweTurnsUptoRow, standIns := [], harness := (true, "53a73cc2039c5cce4e29a80b67cad29434b83dc4249c88a4e7de00538fce968f"), looks := false }, kinds := [], alts := [], laidByText := true, laidKinds := [.widerDeep], laidTests := true, laidLooks := .later }
def OweTurnsUptoCardSaid : Prop := Claim7.holds Tryz.pinned (.plain (OpenSpec.upto oweTurnsSpec)) oweTurnsUptoCard

/-- THE SECOND FORM's CARD OF 'allongelaw26.OweOwners'. -/
def oweOwnersUptoCard : Claim7 := { stood := { row := oweOwnersUptoRow, standIns := [], harness := (true, "53a73cc2039c5cce4e29a80b67cad29434b83dc4249c88a4e7de00538fce968f"), looks := false }, kinds := [], alts := [], laidByText := true, laidKinds := [.widerDeep], laidTests := true, laidLooks := .later }
def OweOwnersUptoCardSaid : Prop := Claim7.holds Tryz.pinned (.plain (OpenSpec.upto oweOwnersSpec)) oweOwnersUptoCard
end Rows
end Go.Proofs.YtjaehpinmdpmbaaGreatDoor
