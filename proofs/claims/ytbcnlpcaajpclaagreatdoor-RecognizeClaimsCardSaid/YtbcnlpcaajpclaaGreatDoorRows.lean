/-
  NARROWER THAN 'FOR EVERY INPUT', by the rows' own cells (each row's printed sentence says how): PayLess: loops, laid · MissingUnknown: laid · RecognizeClaims: loops, laid · MissingOpen: loops, laid.
  DERIVED. THE GIVEN ROWS OF THIS SEAT. 4 by the template 'for every input the law returns true; each argument reads behind the call as it read before'; 0 by the template 'total and deterministic' (their statements: YtbcnlpcaajpclaaGreatDoorTotals.lean).
  GIVEN WITH THE SEED: the statements are not yours to turn. If you find one false, say at which input.
  Laid BY PROGRAM, IN A SANDBOX (cutbox-rows.mjs): the forced cells as the released guide's own fill.sh prints them over the translation 70cb127d1bbc91fb… (all of the seat's roots in one cut). By AI agents, Wed Nov 11 2026. No macro, syntax, notation, axiom, sorry.
-/
import Derived.Test.YtbcnlpcaajpclaaGreatDoorChecked
import GoSem.Claim
import GoSem.ClaimJoined
import GoSem.ClaimMapViews
import Derived.JoinedTies
import Derived.KernelRfl
namespace Go.Proofs.YtbcnlpcaajpclaaGreatDoor
/- THE CELL 'sum', in the pinned program and in every row, IS THE sha256 OF THE DUMP (.gsa) THAT YtbcnlpcaajpclaaGreatDoorProg.lean LOADS. Nothing in Lean hashes anything: it is a label: what it is worth is what the hold of that sum in a sandbox is worth. -/
noncomputable def Tryz.pinned : Pinned := { name := "ytbcnlpcaajpclaagreatdoor", sum := "70cb127d1bbc91fbba8858bc9352d73c92ed4185f67d8f9787330ab4c7538f05", checked := Tryz.checked }
namespace Rows
def none {H : Type} : Left H := { results := [], args := [] }

/- WHAT THE LISTED PACKAGE-LEVEL VARIABLES READ AS WHEN THE CALL BEGINS. Each datum BY PROGRAM (the guide's laid-datum.mjs) off the statement by which the dump's own 'gosem.cut.vars' lays the variable. In a bare row this is a premise. The card (YtbcnlpcaajpclaaGreatDoorCards.lean) ties it to the program's text. -/
def laid_allonge_order_numbers {H : Type} : DataW H := .agg [.lit (.int .i64 6), .lit (.int .i64 7), .lit (.int .i64 10), .lit (.int .i64 12), .lit (.int .i64 13), .lit (.int .i64 14), .lit (.int .i64 15), .lit (.int .i64 16), .lit (.int .i64 20), .lit (.int .i64 21)]

/-- 'allongelaw27.PayLess': WHATEVER THE INPUT: true; the input reads as it did. -/
def payLessSpec : ChangeSpec := { name := "payLess", fn := fun _ => fun
  | [d1, d2, d3, d4] => { results := [.lit (.bool true)], args := [d1, d2, d3, d4] }
  | _ => none }
def payLessRow : OpenClaim := { program := "ytbcnlpcaajpclaagreatdoor", sum := "70cb127d1bbc91fbba8858bc9352d73c92ed4185f67d8f9787330ab4c7538f05", func := "allonge/allongelaw27.PayLess", spec := "payLess", unfollowed := true, recurses := true, named := ["allonge/order.numbers", "math/bits.divideError", "math/bits.overflowError"], loops := true, apart := false, laid := [("allonge/order.numbers", laid_allonge_order_numbers)] }
def PayLessSaid : Prop := payLessRow.holds Tryz.pinned (OpenSpec.ofChange payLessSpec)

/-- ITS FALSE NEIGHBOUR: 'it returns false'. Refute it at one input. -/
def payLessWrong : ChangeSpec := { name := "payLess", fn := fun _ => fun
  | [d1, d2, d3, d4] => { results := [.lit (.bool false)], args := [d1, d2, d3, d4] }
  | _ => none }
def PayLessWrongFalsely : Prop := payLessRow.holds Tryz.pinned (OpenSpec.ofChange payLessWrong)

/-- 'allongelaw29.MissingUnknown': WHATEVER THE INPUT: true; the input reads as it did. -/
def missingUnknownSpec : ChangeSpec := { name := "missingUnknown", fn := fun _ => fun
  | [d1, d2] => { results := [.lit (.bool true)], args := [d1, d2] }
  | _ => none }
def missingUnknownRow : OpenClaim := { program := "ytbcnlpcaajpclaagreatdoor", sum := "70cb127d1bbc91fbba8858bc9352d73c92ed4185f67d8f9787330ab4c7538f05", func := "allonge/allongelaw29.MissingUnknown", spec := "missingUnknown", inPlace := ["slices.overlaps[allonge/api.Fact]"], unfollowed := true, recurses := true, named := ["allonge/order.numbers", "math/bits.divideError", "math/bits.overflowError"], apart := false, laid := [("allonge/order.numbers", laid_allonge_order_numbers)] }
def MissingUnknownSaid : Prop := missingUnknownRow.holds Tryz.pinned (OpenSpec.ofChange missingUnknownSpec)

/-- ITS FALSE NEIGHBOUR: 'it returns false'. Refute it at one input. -/
def missingUnknownWrong : ChangeSpec := { name := "missingUnknown", fn := fun _ => fun
  | [d1, d2] => { results := [.lit (.bool false)], args := [d1, d2] }
  | _ => none }
def MissingUnknownWrongFalsely : Prop := missingUnknownRow.holds Tryz.pinned (OpenSpec.ofChange missingUnknownWrong)

/-- 'allongelaw47.RecognizeClaims': WHATEVER THE INPUT: true; the input reads as it did. -/
def recognizeClaimsSpec : ChangeSpec := { name := "recognizeClaims", fn := fun _ => fun
  | [d1, d2, d3, d4, d5] => { results := [.lit (.bool true)], args := [d1, d2, d3, d4, d5] }
  | _ => none }
def recognizeClaimsRow : OpenClaim := { program := "ytbcnlpcaajpclaagreatdoor", sum := "70cb127d1bbc91fbba8858bc9352d73c92ed4185f67d8f9787330ab4c7538f05", func := "allonge/allongelaw47.RecognizeClaims", spec := "recognizeClaims", unfollowed := true, recurses := true, named := ["math/bits.divideError", "math/bits.overflowError", "allonge/order.numbers"], loops := true, apart := false, laid := [("allonge/order.numbers", laid_allonge_order_numbers)] }
def RecognizeClaimsSaid : Prop := recognizeClaimsRow.holds Tryz.pinned (OpenSpec.ofChange recognizeClaimsSpec)

/-- ITS FALSE NEIGHBOUR: 'it returns false'. Refute it at one input. -/
def recognizeClaimsWrong : ChangeSpec := { name := "recognizeClaims", fn := fun _ => fun
  | [d1, d2, d3, d4, d5] => { results := [.lit (.bool false)], args := [d1, d2, d3, d4, d5] }
  | _ => none }
def RecognizeClaimsWrongFalsely : Prop := recognizeClaimsRow.holds Tryz.pinned (OpenSpec.ofChange recognizeClaimsWrong)

/-- 'allongelaw29.MissingOpen': WHATEVER THE INPUT: true; the input reads as it did. -/
def missingOpenSpec : ChangeSpec := { name := "missingOpen", fn := fun _ => fun
  | [d1, d2, d3, d4, d5] => { results := [.lit (.bool true)], args := [d1, d2, d3, d4, d5] }
  | _ => none }
def missingOpenRow : OpenClaim := { program := "ytbcnlpcaajpclaagreatdoor", sum := "70cb127d1bbc91fbba8858bc9352d73c92ed4185f67d8f9787330ab4c7538f05", func := "allonge/allongelaw29.MissingOpen", spec := "missingOpen", inPlace := ["slices.overlaps[allonge/api.Fact]"], unfollowed := true, recurses := true, named := ["allonge/order.numbers", "math/bits.divideError", "math/bits.overflowError"], loops := true, apart := false, laid := [("allonge/order.numbers", laid_allonge_order_numbers)] }
def MissingOpenSaid : Prop := missingOpenRow.holds Tryz.pinned (OpenSpec.ofChange missingOpenSpec)

/-- ITS FALSE NEIGHBOUR: 'it returns false'. Refute it at one input. -/
def missingOpenWrong : ChangeSpec := { name := "missingOpen", fn := fun _ => fun
  | [d1, d2, d3, d4, d5] => { results := [.lit (.bool false)], args := [d1, d2, d3, d4, d5] }
  | _ => none }
def MissingOpenWrongFalsely : Prop := missingOpenRow.holds Tryz.pinned (OpenSpec.ofChange missingOpenWrong)

/- THE SECOND FORM. 'bulk': how many values and letters a reading holds, each counted each time it is reached (what is shared counts as often as it is met; a slice's spare places count too). A statement '..UptoSaid' is the law's where the arguments, and the package variables that the reading takes, are together of bulk at most 1048576: NARROWER than '..Said'. Prove '..Said' where nothing that the law and all that it calls make is longer than what came in: it says more and counts as full. Else prove '..UptoSaid'. A law counts once. -/
mutual
def uptoBulk {H : Type} : DataW H → Nat
  | .lit (.string bytes) => bytes.length + 1
  | .lit _ => 1
  | .nil => 1
  | .ptr d => uptoBulk d + 1
  | .slice elems spare => uptoBulkAll elems + uptoBulkAll spare + 1
  | .agg parts => uptoBulkAll parts + 1
  | .iface _ d => uptoBulk d + 1
  | .map entries => uptoBulkEntries entries + 1
  | .held _ => 1
def uptoBulkAll {H : Type} : List (DataW H) → Nat
  | [] => 0
  | d :: r => uptoBulk d + uptoBulkAll r
def uptoBulkEntries {H : Type} : List (Lit × DataW H) → Nat
  | [] => 0
  | x :: r => uptoBulkEntry x + uptoBulkEntries r
def uptoBulkEntry {H : Type} : Lit × DataW H → Nat
  | (.string bytes, d) => bytes.length + uptoBulk d + 1
  | (_, d) => uptoBulk d + 1
 end
def uptoSmall : (H : Type) → List (DataW H) → Bool := fun _ ds => decide (uptoBulkAll ds ≤ 1048576)
def OpenSpec.upto (s : _root_.Go.ChangeSpec) : _root_.Go.OpenSpec := { _root_.Go.OpenSpec.ofChange s with cond := some uptoSmall }

/-- 'allongelaw27.PayLess', WHERE WHAT IT READS IS OF BULK AT MOST 1048576: true; the input reads as it did. -/
def payLessUptoRow : OpenClaim := { program := "ytbcnlpcaajpclaagreatdoor", sum := "70cb127d1bbc91fbba8858bc9352d73c92ed4185f67d8f9787330ab4c7538f05", func := "allonge/allongelaw27.PayLess", spec := "payLess", unfollowed := true, recurses := true, named := ["allonge/order.numbers", "math/bits.divideError", "math/bits.overflowError"], loops := true, apart := false, laid := [("allonge/order.numbers", laid_allonge_order_numbers)], narrowed := true }
def PayLessUptoSaid : Prop := payLessUptoRow.holds Tryz.pinned (OpenSpec.upto payLessSpec)

/-- 'allongelaw29.MissingUnknown', WHERE WHAT IT READS IS OF BULK AT MOST 1048576: true; the input reads as it did. -/
def missingUnknownUptoRow : OpenClaim := { program := "ytbcnlpcaajpclaagreatdoor", sum := "70cb127d1bbc91fbba8858bc9352d73c92ed4185f67d8f9787330ab4c7538f05", func := "allonge/allongelaw29.MissingUnknown", spec := "missingUnknown", inPlace := ["slices.overlaps[allonge/api.Fact]"], unfollowed := true, recurses := true, named := ["allonge/order.numbers", "math/bits.divideError", "math/bits.overflowError"], apart := false, laid := [("allonge/order.numbers", laid_allonge_order_numbers)], narrowed := true }
def MissingUnknownUptoSaid : Prop := missingUnknownUptoRow.holds Tryz.pinned (OpenSpec.upto missingUnknownSpec)

/-- 'allongelaw47.RecognizeClaims', WHERE WHAT IT READS IS OF BULK AT MOST 1048576: true; the input reads as it did. -/
def recognizeClaimsUptoRow : OpenClaim := { program := "ytbcnlpcaajpclaagreatdoor", sum := "70cb127d1bbc91fbba8858bc9352d73c92ed4185f67d8f9787330ab4c7538f05", func := "allonge/allongelaw47.RecognizeClaims", spec := "recognizeClaims", unfollowed := true, recurses := true, named := ["math/bits.divideError", "math/bits.overflowError", "allonge/order.numbers"], loops := true, apart := false, laid := [("allonge/order.numbers", laid_allonge_order_numbers)], narrowed := true }
def RecognizeClaimsUptoSaid : Prop := recognizeClaimsUptoRow.holds Tryz.pinned (OpenSpec.upto recognizeClaimsSpec)

/-- 'allongelaw29.MissingOpen', WHERE WHAT IT READS IS OF BULK AT MOST 1048576: true; the input reads as it did. -/
def missingOpenUptoRow : OpenClaim := { program := "ytbcnlpcaajpclaagreatdoor", sum := "70cb127d1bbc91fbba8858bc9352d73c92ed4185f67d8f9787330ab4c7538f05", func := "allonge/allongelaw29.MissingOpen", spec := "missingOpen", inPlace := ["slices.overlaps[allonge/api.Fact]"], unfollowed := true, recurses := true, named := ["allonge/order.numbers", "math/bits.divideError", "math/bits.overflowError"], loops := true, apart := false, laid := [("allonge/order.numbers", laid_allonge_order_numbers)], narrowed := true }
def MissingOpenUptoSaid : Prop := missingOpenUptoRow.holds Tryz.pinned (OpenSpec.upto missingOpenSpec)

end Rows
end Go.Proofs.YtbcnlpcaajpclaaGreatDoor
