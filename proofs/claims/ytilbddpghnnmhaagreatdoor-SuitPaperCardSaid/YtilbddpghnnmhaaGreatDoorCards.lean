/-
  DERIVED. GIVEN WITH THE SEED: THE CARDS: each row of YtilbddpghnnmhaaGreatDoorRows.lean that lists a variable, with what it lists TIED to the program's text (the seventh form; the later family's looks); each row that meets fmt, with fmt's text TOLD by the authors' own Lean function (tested against real Go, not proved from fmt's source: count such statements apart). THE CARD IS WHAT COUNTS. Prove the row's statement (the work); the ties are given (YtilbddpghnnmhaaGreatDoorTie.lean); close each card by the builder's one call (the guide's Derived/Test/ToyasCard.lean, 'card_holds'). Laid BY PROGRAM, IN A SANDBOX (cutbox-door.mjs). By AI agents, Wed Nov 11 2026. No macro, syntax, notation, axiom, sorry.
-/
import Derived.Test.YtilbddpghnnmhaaGreatDoorRows
import GoSem.ClaimSeven
namespace Go.Proofs.YtilbddpghnnmhaaGreatDoor
namespace Rows

/-- THE TIED CARD OF 'allongelaw46.SuitRuns'. -/
def suitRunsCard : Claim7 := { stood := { row := suitRunsRow, standIns := [], harness := (true, "2591d3d266600c8d6b87be42220467e47a7f68e8206c2e9d87cccf8b720875d1"), looks := false }, kinds := [], alts := [], laidByText := true, laidKinds := [.widerDeep], laidTests := true, laidLooks := .later }
def SuitRunsCardSaid : Prop := Claim7.holds Tryz.pinned (.plain (OpenSpec.ofChange suitRunsSpec)) suitRunsCard

/-- THE TIED CARD OF 'allongelaw46.SuitAwards'. -/
def suitAwardsCard : Claim7 := { stood := { row := suitAwardsRow, standIns := [], harness := (true, "2591d3d266600c8d6b87be42220467e47a7f68e8206c2e9d87cccf8b720875d1"), looks := false }, kinds := [], alts := [], laidByText := true, laidKinds := [.widerDeep], laidTests := true, laidLooks := .later }
def SuitAwardsCardSaid : Prop := Claim7.holds Tryz.pinned (.plain (OpenSpec.ofChange suitAwardsSpec)) suitAwardsCard

/-- THE TIED CARD OF 'allongelaw46.SuitPaper'. -/
def suitPaperCard : Claim7 := { stood := { row := suitPaperRow, standIns := [], harness := (true, "2591d3d266600c8d6b87be42220467e47a7f68e8206c2e9d87cccf8b720875d1"), looks := false }, kinds := [], alts := [], laidByText := true, laidKinds := [.widerDeep], laidTests := true, laidLooks := .later }
def SuitPaperCardSaid : Prop := Claim7.holds Tryz.pinned (.plain (OpenSpec.ofChange suitPaperSpec)) suitPaperCard

/-- THE TIED CARD OF 'allongelaw46.SuitKnows'. -/
def suitKnowsCard : Claim7 := { stood := { row := suitKnowsRow, standIns := [], harness := (true, "2591d3d266600c8d6b87be42220467e47a7f68e8206c2e9d87cccf8b720875d1"), looks := false }, kinds := [], alts := [], laidByText := true, laidKinds := [.widerDeep], laidTests := true, laidLooks := .later }
def SuitKnowsCardSaid : Prop := Claim7.holds Tryz.pinned (.plain (OpenSpec.ofChange suitKnowsSpec)) suitKnowsCard

/-- THE SECOND FORM's CARD OF 'allongelaw46.SuitRuns'. -/
def suitRunsUptoCard : Claim7 := { stood := { row := suitRunsUptoRow, standIns := [], harness := (true, "2591d3d266600c8d6b87be42220467e47a7f68e8206c2e9d87cccf8b720875d1"), looks := false }, kinds := [], alts := [], laidByText := true, laidKinds := [.widerDeep], laidTests := true, laidLooks := .later }
def SuitRunsUptoCardSaid : Prop := Claim7.holds Tryz.pinned (.plain (OpenSpec.upto suitRunsSpec)) suitRunsUptoCard

/-- THE SECOND FORM's CARD OF 'allongelaw46.SuitAwards'. -/
def suitAwardsUptoCard : Claim7 := { stood := { row := suitAwardsUptoRow, standIns := [], harness := (true, "2591d3d266600c8d6b87be42220467e47a7f68e8206c2e9d87cccf8b720875d1"), looks := false }, kinds := [], alts := [], laidByText := true, laidKinds := [.widerDeep], laidTests := true, laidLooks := .later }
def SuitAwardsUptoCardSaid : Prop := Claim7.holds Tryz.pinned (.plain (OpenSpec.upto suitAwardsSpec)) suitAwardsUptoCard

/-- THE SECOND FORM's CARD OF 'allongelaw46.SuitPaper'. -/
def suitPaperUptoCard : Claim7 := { stood := { row := suitPaperUptoRow, standIns := [], harness := (true, "2591d3d266600c8d6b87be42220467e47a7f68e8206c2e9d87cccf8b720875d1"), looks := false }, kinds := [], alts := [], laidByText := true, laidKinds := [.widerDeep], laidTests := true, laidLooks := .later }
def SuitPaperUptoCardSaid : Prop := Claim7.holds Tryz.pinned (.plain (OpenSpec.upto suitPaperSpec)) suitPaperUptoCard

/-- THE SECOND FORM's CARD OF 'allongelaw46.SuitKnows'. -/
def suitKnowsUptoCard : Claim7 := { stood := { row := suitKnowsUptoRow, standIns := [], harness := (true, "2591d3d266600c8d6b87be42220467e47a7f68e8206c2e9d87cccf8b720875d1"), looks := false }, kinds := [], alts := [], laidByText := true, laidKinds := [.widerDeep], laidTests := true, laidLooks := .later }
def SuitKnowsUptoCardSaid : Prop := Claim7.holds Tryz.pinned (.plain (OpenSpec.upto suitKnowsSpec)) suitKnowsUptoCard
end Rows
end Go.Proofs.YtilbddpghnnmhaaGreatDoor
