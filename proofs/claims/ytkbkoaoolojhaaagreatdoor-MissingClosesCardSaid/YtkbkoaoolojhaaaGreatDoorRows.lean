/-
  NARROWER THAN 'FOR EVERY INPUT', by the rows' own cells (each row's printed sentence says how): MissingUnknown: laid · MissingOpen: loops, laid · MissingLeast: loops, laid · MissingCloses: loops, laid.
  DERIVED. THE GIVEN ROWS OF THIS SEAT. 4 by the template 'for every input the law returns true; each argument reads behind the call as it read before'; 0 by the template 'total and deterministic' (their statements: YtkbkoaoolojhaaaGreatDoorTotals.lean).
  GIVEN WITH THE SEED: the statements are not yours to turn. If you find one false, say at which input.
  Laid BY PROGRAM, IN A SANDBOX (cutbox-rows.mjs): the forced cells as the released guide's own fill.sh prints them over the translation 8cd88526376a6310… (all of the seat's roots in one cut). By AI agents, Wed Nov 11 2026. No macro, syntax, notation, axiom, sorry.
-/
import Derived.Test.YtkbkoaoolojhaaaGreatDoorChecked
import GoSem.Claim
import GoSem.ClaimJoined
import GoSem.ClaimMapViews
import Derived.JoinedTies
import Derived.KernelRfl
namespace Go.Proofs.YtkbkoaoolojhaaaGreatDoor
/- THE CELL 'sum', in the pinned program and in every row, IS THE sha256 OF THE DUMP (.gsa) THAT YtkbkoaoolojhaaaGreatDoorProg.lean LOADS. Nothing in Lean hashes anything: it is a label: what it is worth is what the hold of that sum in a sandbox is worth. -/
noncomputable def Tryz.pinned : Pinned := { name := "ytkbkoaoolojhaaagreatdoor", sum := "8cd88526376a6310e7c822c319bbd1dfea1a5ef4bae321b957508f6dd74f4833", checked := Tryz.checked }
namespace Rows
def none {H : Type} : Left H := { results := [], args := [] }

/- WHAT THE LISTED PACKAGE-LEVEL VARIABLES READ AS WHEN THE CALL BEGINS. Each datum BY PROGRAM (the guide's laid-datum.mjs) off the statement by which the dump's own 'gosem.cut.vars' lays the variable. In a bare row this is a premise. The card (YtkbkoaoolojhaaaGreatDoorCards.lean) ties it to the program's text. -/
def laid_allonge_order_numbers {H : Type} : DataW H := .agg [.lit (.int .i64 6), .lit (.int .i64 7), .lit (.int .i64 10), .lit (.int .i64 12), .lit (.int .i64 13), .lit (.int .i64 14), .lit (.int .i64 15), .lit (.int .i64 16), .lit (.int .i64 20), .lit (.int .i64 21)]

/-- 'allongelaw29.MissingUnknown': WHATEVER THE INPUT: true; the input reads as it did. -/
def missingUnknownSpec : ChangeSpec := { name := "missingUnknown", fn := fun _ => fun
  | [d1, d2] => { results := [.lit (.bool true)], args := [d1, d2] }
  | _ => none }
def missingUnknownRow : OpenClaim := { program := "ytkbkoaoolojhaaagreatdoor", sum := "8cd88526376a6310e7c822c319bbd1dfea1a5ef4bae321b957508f6dd74f4833", func := "allonge/allongelaw29.MissingUnknown", spec := "missingUnknown", inPlace := ["slices.overlaps[allonge/api.Fact]"], unfollowed := true, recurses := true, named := ["allonge/order.numbers", "math/bits.divideError", "math/bits.overflowError"], apart := false, laid := [("allonge/order.numbers", laid_allonge_order_numbers)] }
def MissingUnknownSaid : Prop := missingUnknownRow.holds Tryz.pinned (OpenSpec.ofChange missingUnknownSpec)

/-- ITS FALSE NEIGHBOUR: 'it returns false'. Refute it at one input. -/
def missingUnknownWrong : ChangeSpec := { name := "missingUnknown", fn := fun _ => fun
  | [d1, d2] => { results := [.lit (.bool false)], args := [d1, d2] }
  | _ => none }
def MissingUnknownWrongFalsely : Prop := missingUnknownRow.holds Tryz.pinned (OpenSpec.ofChange missingUnknownWrong)

/-- 'allongelaw29.MissingOpen': WHATEVER THE INPUT: true; the input reads as it did. -/
def missingOpenSpec : ChangeSpec := { name := "missingOpen", fn := fun _ => fun
  | [d1, d2, d3, d4, d5] => { results := [.lit (.bool true)], args := [d1, d2, d3, d4, d5] }
  | _ => none }
def missingOpenRow : OpenClaim := { program := "ytkbkoaoolojhaaagreatdoor", sum := "8cd88526376a6310e7c822c319bbd1dfea1a5ef4bae321b957508f6dd74f4833", func := "allonge/allongelaw29.MissingOpen", spec := "missingOpen", inPlace := ["slices.overlaps[allonge/api.Fact]"], unfollowed := true, recurses := true, named := ["allonge/order.numbers", "math/bits.divideError", "math/bits.overflowError"], loops := true, apart := false, laid := [("allonge/order.numbers", laid_allonge_order_numbers)] }
def MissingOpenSaid : Prop := missingOpenRow.holds Tryz.pinned (OpenSpec.ofChange missingOpenSpec)

/-- ITS FALSE NEIGHBOUR: 'it returns false'. Refute it at one input. -/
def missingOpenWrong : ChangeSpec := { name := "missingOpen", fn := fun _ => fun
  | [d1, d2, d3, d4, d5] => { results := [.lit (.bool false)], args := [d1, d2, d3, d4, d5] }
  | _ => none }
def MissingOpenWrongFalsely : Prop := missingOpenRow.holds Tryz.pinned (OpenSpec.ofChange missingOpenWrong)

/-- 'allongelaw29.MissingLeast': WHATEVER THE INPUT: true; the input reads as it did. -/
def missingLeastSpec : ChangeSpec := { name := "missingLeast", fn := fun _ => fun
  | [d1, d2, d3, d4, d5, d6] => { results := [.lit (.bool true)], args := [d1, d2, d3, d4, d5, d6] }
  | _ => none }
def missingLeastRow : OpenClaim := { program := "ytkbkoaoolojhaaagreatdoor", sum := "8cd88526376a6310e7c822c319bbd1dfea1a5ef4bae321b957508f6dd74f4833", func := "allonge/allongelaw29.MissingLeast", spec := "missingLeast", inPlace := ["slices.overlaps[allonge/api.Fact]"], unfollowed := true, recurses := true, named := ["allonge/order.numbers", "math/bits.divideError", "math/bits.overflowError"], loops := true, apart := false, laid := [("allonge/order.numbers", laid_allonge_order_numbers)] }
def MissingLeastSaid : Prop := missingLeastRow.holds Tryz.pinned (OpenSpec.ofChange missingLeastSpec)

/-- ITS FALSE NEIGHBOUR: 'it returns false'. Refute it at one input. -/
def missingLeastWrong : ChangeSpec := { name := "missingLeast", fn := fun _ => fun
  | [d1, d2, d3, d4, d5, d6] => { results := [.lit (.bool false)], args := [d1, d2, d3, d4, d5, d6] }
  | _ => none }
def MissingLeastWrongFalsely : Prop := missingLeastRow.holds Tryz.pinned (OpenSpec.ofChange missingLeastWrong)

/-- 'allongelaw29.MissingCloses': WHATEVER THE INPUT: true; the input reads as it did. -/
def missingClosesSpec : ChangeSpec := { name := "missingCloses", fn := fun _ => fun
  | [d1, d2, d3, d4, d5, d6] => { results := [.lit (.bool true)], args := [d1, d2, d3, d4, d5, d6] }
  | _ => none }
def missingClosesRow : OpenClaim := { program := "ytkbkoaoolojhaaagreatdoor", sum := "8cd88526376a6310e7c822c319bbd1dfea1a5ef4bae321b957508f6dd74f4833", func := "allonge/allongelaw29.MissingCloses", spec := "missingCloses", inPlace := ["slices.overlaps[allonge/api.Fact]"], unfollowed := true, recurses := true, named := ["allonge/order.numbers", "math/bits.divideError", "math/bits.overflowError"], loops := true, apart := false, laid := [("allonge/order.numbers", laid_allonge_order_numbers)] }
def MissingClosesSaid : Prop := missingClosesRow.holds Tryz.pinned (OpenSpec.ofChange missingClosesSpec)

/-- ITS FALSE NEIGHBOUR: 'it returns false'. Refute it at one input. -/
def missingClosesWrong : ChangeSpec := { name := "missingCloses", fn := fun _ => fun
  | [d1, d2, d3, d4, d5, d6] => { results := [.lit (.bool false)], args := [d1, d2, d3, d4, d5, d6] }
  | _ => none }
def MissingClosesWrongFalsely : Prop := missingClosesRow.holds Tryz.pinned (OpenSpec.ofChange missingClosesWrong)

/- THE SECOND FORM. 'bulk': how many values and letters a reading holds, each counted each time it is reached (what is shared counts as often as it is met; a slice's spare places count too). A statement '..UptoSaid' is the law's where the arguments, and the package variables that the reading takes, are together of bulk at most 1048576: NARROWER than '..Said'. Prove '..Said' where nothing that the law and all that it calls make is longer than what came in: it says more and counts as full. Else prove '..UptoSaid'. A law counts once. -/
mutual
def uptoBulk {H : Type} : DataW H → Nat
  | .lit (.string bytes) => bytes.length + 1
  | .lit _ => 1
  | .nil => 1
  | .ptr d => uptoBulk d + 1
  | .slice elems spare => uptoBulkAll elems + uptoBulkAll spare + 1
  | .agg parts => uptoBulkAll parts + 1
  | .iface _ d => uptoBulk d + 1
  | .map entries => uptoBulkEntries entries + 1
  | .held _ => 1
def uptoBulkAll {H : Type} : List (DataW H) → Nat
  | [] => 0
  | d :: r => uptoBulk d + uptoBulkAll r
def uptoBulkEntries {H : Type} : List (Lit × DataW H) → Nat
  | [] => 0
  | x :: r => uptoBulkEntry x + uptoBulkEntries r
def uptoBulkEntry {H : Type} : Lit × DataW H → Nat
  | (.string bytes, d) => bytes.length + uptoBulk d + 1
  | (_, d) => uptoBulk d + 1
 end
def uptoSmall : (H : Type) → List (DataW H) → Bool := fun _ ds => decide (uptoBulkAll ds ≤ 1048576)
def OpenSpec.upto (s : _root_.Go.ChangeSpec) : _root_.Go.OpenSpec := { _root_.Go.OpenSpec.ofChange s with cond := some uptoSmall }

/-- 'allongelaw29.MissingUnknown', WHERE WHAT IT READS IS OF BULK AT MOST 1048576: true; the input reads as it did. -/
def missingUnknownUptoRow : OpenClaim := { program := "ytkbkoaoolojhaaagreatdoor", sum := "8cd88526376a6310e7c822c319bbd1dfea1a5ef4bae321b957508f6dd74f4833", func := "allonge/allongelaw29.MissingUnknown", spec := "missingUnknown", inPlace := ["slices.overlaps[allonge/api.Fact]"], unfollowed := true, recurses := true, named := ["allonge/order.numbers", "math/bits.divideError", "math/bits.overflowError"], apart := false, laid := [("allonge/order.numbers", laid_allonge_order_numbers)], narrowed := true }
def MissingUnknownUptoSaid : Prop := missingUnknownUptoRow.holds Tryz.pinned (OpenSpec.upto missingUnknownSpec)

/-- 'allongelaw29.MissingOpen', WHERE WHAT IT READS IS OF BULK AT MOST 1048576: true; the input reads as it did. -/
def missingOpenUptoRow : OpenClaim := { program := "ytkbkoaoolojhaaagreatdoor", sum := "8cd88526376a6310e7c822c319bbd1dfea1a5ef4bae321b957508f6dd74f4833", func := "allonge/allongelaw29.MissingOpen", spec := "missingOpen", inPlace := ["slices.overlaps[allonge/api.Fact]"], unfollowed := true, recurses := true, named := ["allonge/order.numbers", "math/bits.divideError", "math/bits.overflowError"], loops := true, apart := false, laid := [("allonge/order.numbers", laid_allonge_order_numbers)], narrowed := true }
def MissingOpenUptoSaid : Prop := missingOpenUptoRow.holds Tryz.pinned (OpenSpec.upto missingOpenSpec)

/-- 'allongelaw29.MissingLeast', WHERE WHAT IT READS IS OF BULK AT MOST 1048576: true; the input reads as it did. -/
def missingLeastUptoRow : OpenClaim := { program := "ytkbkoaoolojhaaagreatdoor", sum := "8cd88526376a6310e7c822c319bbd1dfea1a5ef4bae321b957508f6dd74f4833", func := "allonge/allongelaw29.MissingLeast", spec := "missingLeast", inPlace := ["slices.overlaps[allonge/api.Fact]"], unfollowed := true, recurses := true, named := ["allonge/order.numbers", "math/bits.divideError", "math/bits.overflowError"], loops := true, apart := false, laid := [("allonge/order.numbers", laid_allonge_order_numbers)], narrowed := true }
def MissingLeastUptoSaid : Prop := missingLeastUptoRow.holds Tryz.pinned (OpenSpec.upto missingLeastSpec)

/-- 'allongelaw29.MissingCloses', WHERE WHAT IT READS IS OF BULK AT MOST 1048576: true; the input reads as it did. -/
def missingClosesUptoRow : OpenClaim := { program := "ytkbkoaoolojhaaagreatdoor", sum := "8cd88526376a6310e7c822c319bbd1dfea1a5ef4bae321b957508f6dd74f4833", func := "allonge/allongelaw29.MissingCloses", spec := "missingCloses", inPlace := ["slices.overlaps[allonge/api.Fact]"], unfollowed := true, recurses := true, named := ["allonge/order.numbers", "math/bits.divideError", "math/bits.overflowError"], loops := true, apart := false, laid := [("allonge/order.numbers", laid_allonge_order_numbers)], narrowed := true }
def MissingClosesUptoSaid : Prop := missingClosesUptoRow.holds Tryz.pinned (OpenSpec.upto missingClosesSpec)

end Rows
end Go.Proofs.YtkbkoaoolojhaaaGreatDoor
