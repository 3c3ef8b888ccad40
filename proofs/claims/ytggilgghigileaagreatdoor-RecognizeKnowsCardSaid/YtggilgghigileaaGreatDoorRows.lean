/-
  NARROWER THAN 'FOR EVERY INPUT', by the rows' own cells (each row's printed sentence says how): LimitLater: loops, laid · LimitSuits: loops, laid · RecognizeTells: loops, laid · RecognizeOnce: loops, laid · RecognizeKnows: loops, laid · RecognizeLess: loops, laid.
  DERIVED. THE GIVEN ROWS OF THIS SEAT. 6 by the template 'for every input the law returns true; each argument reads behind the call as it read before'; 0 by the template 'total and deterministic' (their statements: YtggilgghigileaaGreatDoorTotals.lean).
  GIVEN WITH THE SEED: the statements are not yours to turn. If you find one false, say at which input.
  Laid BY PROGRAM, IN A SANDBOX (cutbox-rows.mjs): the forced cells as the released guide's own fill.sh prints them over the translation c644a655c5a2a503… (all of the seat's roots in one cut). By AI agents, Wed Nov 11 2026. No macro, syntax, notation, axiom, sorry.
-/
import Derived.Test.YtggilgghigileaaGreatDoorChecked
import GoSem.Claim
import GoSem.ClaimJoined
import GoSem.ClaimMapViews
import Derived.JoinedTies
import Derived.KernelRfl
namespace Go.Proofs.YtggilgghigileaaGreatDoor
/- THE CELL 'sum', in the pinned program and in every row, IS THE sha256 OF THE DUMP (.gsa) THAT YtggilgghigileaaGreatDoorProg.lean LOADS. Nothing in Lean hashes anything: it is a label: what it is worth is what the hold of that sum in a sandbox is worth. -/
noncomputable def Tryz.pinned : Pinned := { name := "ytggilgghigileaagreatdoor", sum := "c644a655c5a2a5033d370e2fa5bdfa4e90cddffdca377b2c281d1b2a7e7de8d2", checked := Tryz.checked }
namespace Rows
def none {H : Type} : Left H := { results := [], args := [] }

/- WHAT THE LISTED PACKAGE-LEVEL VARIABLES READ AS WHEN THE CALL BEGINS. Each datum BY PROGRAM (the guide's laid-datum.mjs) off the statement by which the dump's own 'gosem.cut.vars' lays the variable. In a bare row this is a premise. The card (YtggilgghigileaaGreatDoorCards.lean) ties it to the program's text. -/
def laid_allonge_order_numbers {H : Type} : DataW H := .agg [.lit (.int .i64 6), .lit (.int .i64 7), .lit (.int .i64 10), .lit (.int .i64 12), .lit (.int .i64 13), .lit (.int .i64 14), .lit (.int .i64 15), .lit (.int .i64 16), .lit (.int .i64 20), .lit (.int .i64 21)]

/-- 'allongelaw28.LimitLater': WHATEVER THE INPUT: true; the input reads as it did. -/
def limitLaterSpec : ChangeSpec := { name := "limitLater", fn := fun _ => fun
  | [d1, d2, d3, d4, d5, d6] => { results := [.lit (.bool true)], args := [d1, d2, d3, d4, d5, d6] }
  | _ => none }
def limitLaterRow : OpenClaim := { program := "ytggilgghigileaagreatdoor", sum := "c644a655c5a2a5033d370e2fa5bdfa4e90cddffdca377b2c281d1b2a7e7de8d2", func := "allonge/allongelaw28.LimitLater", spec := "limitLater", unfollowed := true, recurses := true, named := ["allonge/order.numbers"], loops := true, apart := false, laid := [("allonge/order.numbers", laid_allonge_order_numbers)] }
def LimitLaterSaid : Prop := limitLaterRow.holds Tryz.pinned (OpenSpec.ofChange limitLaterSpec)

/-- ITS FALSE NEIGHBOUR: 'it returns false'. Refute it at one input. -/
def limitLaterWrong : ChangeSpec := { name := "limitLater", fn := fun _ => fun
  | [d1, d2, d3, d4, d5, d6] => { results := [.lit (.bool false)], args := [d1, d2, d3, d4, d5, d6] }
  | _ => none }
def LimitLaterWrongFalsely : Prop := limitLaterRow.holds Tryz.pinned (OpenSpec.ofChange limitLaterWrong)

/-- 'allongelaw28.LimitSuits': WHATEVER THE INPUT: true; the input reads as it did. -/
def limitSuitsSpec : ChangeSpec := { name := "limitSuits", fn := fun _ => fun
  | [d1, d2, d3, d4, d5, d6] => { results := [.lit (.bool true)], args := [d1, d2, d3, d4, d5, d6] }
  | _ => none }
def limitSuitsRow : OpenClaim := { program := "ytggilgghigileaagreatdoor", sum := "c644a655c5a2a5033d370e2fa5bdfa4e90cddffdca377b2c281d1b2a7e7de8d2", func := "allonge/allongelaw28.LimitSuits", spec := "limitSuits", unfollowed := true, recurses := true, named := ["allonge/order.numbers"], loops := true, apart := false, laid := [("allonge/order.numbers", laid_allonge_order_numbers)] }
def LimitSuitsSaid : Prop := limitSuitsRow.holds Tryz.pinned (OpenSpec.ofChange limitSuitsSpec)

/-- ITS FALSE NEIGHBOUR: 'it returns false'. Refute it at one input. -/
def limitSuitsWrong : ChangeSpec := { name := "limitSuits", fn := fun _ => fun
  | [d1, d2, d3, d4, d5, d6] => { results := [.lit (.bool false)], args := [d1, d2, d3, d4, d5, d6] }
  | _ => none }
def LimitSuitsWrongFalsely : Prop := limitSuitsRow.holds Tryz.pinned (OpenSpec.ofChange limitSuitsWrong)

/-- 'allongelaw47.RecognizeTells': WHATEVER THE INPUT: true; the input reads as it did. -/
def recognizeTellsSpec : ChangeSpec := { name := "recognizeTells", fn := fun _ => fun
  | [d1, d2, d3, d4, d5, d6, d7] => { results := [.lit (.bool true)], args := [d1, d2, d3, d4, d5, d6, d7] }
  | _ => none }
def recognizeTellsRow : OpenClaim := { program := "ytggilgghigileaagreatdoor", sum := "c644a655c5a2a5033d370e2fa5bdfa4e90cddffdca377b2c281d1b2a7e7de8d2", func := "allonge/allongelaw47.RecognizeTells", spec := "recognizeTells", unfollowed := true, recurses := true, named := ["math/bits.divideError", "math/bits.overflowError", "allonge/order.numbers"], loops := true, apart := false, laid := [("allonge/order.numbers", laid_allonge_order_numbers)] }
def RecognizeTellsSaid : Prop := recognizeTellsRow.holds Tryz.pinned (OpenSpec.ofChange recognizeTellsSpec)

/-- ITS FALSE NEIGHBOUR: 'it returns false'. Refute it at one input. -/
def recognizeTellsWrong : ChangeSpec := { name := "recognizeTells", fn := fun _ => fun
  | [d1, d2, d3, d4, d5, d6, d7] => { results := [.lit (.bool false)], args := [d1, d2, d3, d4, d5, d6, d7] }
  | _ => none }
def RecognizeTellsWrongFalsely : Prop := recognizeTellsRow.holds Tryz.pinned (OpenSpec.ofChange recognizeTellsWrong)

/-- 'allongelaw47.RecognizeOnce': WHATEVER THE INPUT: true; the input reads as it did. -/
def recognizeOnceSpec : ChangeSpec := { name := "recognizeOnce", fn := fun _ => fun
  | [d1, d2, d3, d4, d5, d6, d7] => { results := [.lit (.bool true)], args := [d1, d2, d3, d4, d5, d6, d7] }
  | _ => none }
def recognizeOnceRow : OpenClaim := { program := "ytggilgghigileaagreatdoor", sum := "c644a655c5a2a5033d370e2fa5bdfa4e90cddffdca377b2c281d1b2a7e7de8d2", func := "allonge/allongelaw47.RecognizeOnce", spec := "recognizeOnce", unfollowed := true, recurses := true, named := ["math/bits.divideError", "math/bits.overflowError", "allonge/order.numbers"], loops := true, apart := false, laid := [("allonge/order.numbers", laid_allonge_order_numbers)] }
def RecognizeOnceSaid : Prop := recognizeOnceRow.holds Tryz.pinned (OpenSpec.ofChange recognizeOnceSpec)

/-- ITS FALSE NEIGHBOUR: 'it returns false'. Refute it at one input. -/
def recognizeOnceWrong : ChangeSpec := { name := "recognizeOnce", fn := fun _ => fun
  | [d1, d2, d3, d4, d5, d6, d7] => { results := [.lit (.bool false)], args := [d1, d2, d3, d4, d5, d6, d7] }
  | _ => none }
def RecognizeOnceWrongFalsely : Prop := recognizeOnceRow.holds Tryz.pinned (OpenSpec.ofChange recognizeOnceWrong)

/-- 'allongelaw47.RecognizeKnows': WHATEVER THE INPUT: true; the input reads as it did. -/
def recognizeKnowsSpec : ChangeSpec := { name := "recognizeKnows", fn := fun _ => fun
  | [d1, d2, d3, d4, d5, d6, d7] => { results := [.lit (.bool true)], args := [d1, d2, d3, d4, d5, d6, d7] }
  | _ => none }
def recognizeKnowsRow : OpenClaim := { program := "ytggilgghigileaagreatdoor", sum := "c644a655c5a2a5033d370e2fa5bdfa4e90cddffdca377b2c281d1b2a7e7de8d2", func := "allonge/allongelaw47.RecognizeKnows", spec := "recognizeKnows", unfollowed := true, recurses := true, named := ["math/bits.divideError", "math/bits.overflowError", "allonge/order.numbers"], loops := true, apart := false, laid := [("allonge/order.numbers", laid_allonge_order_numbers)] }
def RecognizeKnowsSaid : Prop := recognizeKnowsRow.holds Tryz.pinned (OpenSpec.ofChange recognizeKnowsSpec)

/-- ITS FALSE NEIGHBOUR: 'it returns false'. Refute it at one input. -/
def recognizeKnowsWrong : ChangeSpec := { name := "recognizeKnows", fn := fun _ => fun
  | [d1, d2, d3, d4, d5, d6, d7] => { results := [.lit (.bool false)], args := [d1, d2, d3, d4, d5, d6, d7] }
  | _ => none }
def RecognizeKnowsWrongFalsely : Prop := recognizeKnowsRow.holds Tryz.pinned (OpenSpec.ofChange recognizeKnowsWrong)

/-- 'allongelaw47.RecognizeLess': WHATEVER THE INPUT: true; the input reads as it did. -/
def recognizeLessSpec : ChangeSpec := { name := "recognizeLess", fn := fun _ => fun
  | [d1, d2, d3, d4, d5, d6, d7] => { results := [.lit (.bool true)], args := [d1, d2, d3, d4, d5, d6, d7] }
  | _ => none }
def recognizeLessRow : OpenClaim := { program := "ytggilgghigileaagreatdoor", sum := "c644a655c5a2a5033d370e2fa5bdfa4e90cddffdca377b2c281d1b2a7e7de8d2", func := "allonge/allongelaw47.RecognizeLess", spec := "recognizeLess", unfollowed := true, recurses := true, named := ["math/bits.divideError", "math/bits.overflowError", "allonge/order.numbers"], loops := true, apart := false, laid := [("allonge/order.numbers", laid_allonge_order_numbers)] }
def RecognizeLessSaid : Prop := recognizeLessRow.holds Tryz.pinned (OpenSpec.ofChange recognizeLessSpec)

/-- ITS FALSE NEIGHBOUR: 'it returns false'. Refute it at one input. -/
def recognizeLessWrong : ChangeSpec := { name := "recognizeLess", fn := fun _ => fun
  | [d1, d2, d3, d4, d5, d6, d7] => { results := [.lit (.bool false)], args := [d1, d2, d3, d4, d5, d6, d7] }
  | _ => none }
def RecognizeLessWrongFalsely : Prop := recognizeLessRow.holds Tryz.pinned (OpenSpec.ofChange recognizeLessWrong)

/- THE SECOND FORM. 'bulk': how many values and letters a reading holds, each counted each time it is reached (what is shared counts as often as it is met; a slice's spare places count too). A statement '..UptoSaid' is the law's where the arguments, and the package variables that the reading takes, are together of bulk at most 1048576: NARROWER than '..Said'. Prove '..Said' where nothing that the law and all that it calls make is longer than what came in: it says more and counts as full. Else prove '..UptoSaid'. A law counts once. -/
mutual
def uptoBulk {H : Type} : DataW H → Nat
  | .lit (.string bytes) => bytes.length + 1
  | .lit _ => 1
  | .nil => 1
  | .ptr d => uptoBulk d + 1
  | .slice elems spare => uptoBulkAll elems + uptoBulkAll spare + 1
  | .agg parts => uptoBulkAll parts + 1
  | .iface _ d => uptoBulk d + 1
  | .map entries => uptoBulkEntries entries + 1
  | .held _ => 1
def uptoBulkAll {H : Type} : List (DataW H) → Nat
  | [] => 0
  | d :: r => uptoBulk d + uptoBulkAll r
def uptoBulkEntries {H : Type} : List (Lit × DataW H) → Nat
  | [] => 0
  | x :: r => uptoBulkEntry x + uptoBulkEntries r
def uptoBulkEntry {H : Type} : Lit × DataW H → Nat
  | (.string bytes, d) => bytes.length + uptoBulk d + 1
  | (_, d) => uptoBulk d + 1
 end
def uptoSmall : (H : Type) → List (DataW H) → Bool := fun _ ds => decide (uptoBulkAll ds ≤ 1048576)
def OpenSpec.upto (s : _root_.Go.ChangeSpec) : _root_.Go.OpenSpec := { _root_.Go.OpenSpec.ofChange s with cond := some uptoSmall }

/-- 'allongelaw28.LimitLater', WHERE WHAT IT READS IS OF BULK AT MOST 1048576: true; the input reads as it did. -/
def limitLaterUptoRow : OpenClaim := { program := "ytggilgghigileaagreatdoor", sum := "c644a655c5a2a5033d370e2fa5bdfa4e90cddffdca377b2c281d1b2a7e7de8d2", func := "allonge/allongelaw28.LimitLater", spec := "limitLater", unfollowed := true, recurses := true, named := ["allonge/order.numbers"], loops := true, apart := false, laid := [("allonge/order.numbers", laid_allonge_order_numbers)], narrowed := true }
def LimitLaterUptoSaid : Prop := limitLaterUptoRow.holds Tryz.pinned (OpenSpec.upto limitLaterSpec)

/-- 'allongelaw28.LimitSuits', WHERE WHAT IT READS IS OF BULK AT MOST 1048576: true; the input reads as it did. -/
def limitSuitsUptoRow : OpenClaim := { program := "ytggilgghigileaagreatdoor", sum := "c644a655c5a2a5033d370e2fa5bdfa4e90cddffdca377b2c281d1b2a7e7de8d2", func := "allonge/allongelaw28.LimitSuits", spec := "limitSuits", unfollowed := true, recurses := true, named := ["allonge/order.numbers"], loops := true, apart := false, laid := [("allonge/order.numbers", laid_allonge_order_numbers)], narrowed := true }
def LimitSuitsUptoSaid : Prop := limitSuitsUptoRow.holds Tryz.pinned (OpenSpec.upto limitSuitsSpec)

/-- 'allongelaw47.RecognizeTells', WHERE WHAT IT READS IS OF BULK AT MOST 1048576: true; the input reads as it did. -/
def recognizeTellsUptoRow : OpenClaim := { program := "ytggilgghigileaagreatdoor", sum := "c644a655c5a2a5033d370e2fa5bdfa4e90cddffdca377b2c281d1b2a7e7de8d2", func := "allonge/allongelaw47.RecognizeTells", spec := "recognizeTells", unfollowed := true, recurses := true, named := ["math/bits.divideError", "math/bits.overflowError", "allonge/order.numbers"], loops := true, apart := false, laid := [("allonge/order.numbers", laid_allonge_order_numbers)], narrowed := true }
def RecognizeTellsUptoSaid : Prop := recognizeTellsUptoRow.holds Tryz.pinned (OpenSpec.upto recognizeTellsSpec)

/-- 'allongelaw47.RecognizeOnce', WHERE WHAT IT READS IS OF BULK AT MOST 1048576: true; the input reads as it did. -/
def recognizeOnceUptoRow : OpenClaim := { program := "ytggilgghigileaagreatdoor", sum := "c644a655c5a2a5033d370e2fa5bdfa4e90cddffdca377b2c281d1b2a7e7de8d2", func := "allonge/allongelaw47.RecognizeOnce", spec := "recognizeOnce", unfollowed := true, recurses := true, named := ["math/bits.divideError", "math/bits.overflowError", "allonge/order.numbers"], loops := true, apart := false, laid := [("allonge/order.numbers", laid_allonge_order_numbers)], narrowed := true }
def RecognizeOnceUptoSaid : Prop := recognizeOnceUptoRow.holds Tryz.pinned (OpenSpec.upto recognizeOnceSpec)

/-- 'allongelaw47.RecognizeKnows', WHERE WHAT IT READS IS OF BULK AT MOST 1048576: true; the input reads as it did. -/
def recognizeKnowsUptoRow : OpenClaim := { program := "ytggilgghigileaagreatdoor", sum := "c644a655c5a2a5033d370e2fa5bdfa4e90cddffdca377b2c281d1b2a7e7de8d2", func := "allonge/allongelaw47.RecognizeKnows", spec := "recognizeKnows", unfollowed := true, recurses := true, named := ["math/bits.divideError", "math/bits.overflowError", "allonge/order.numbers"], loops := true, apart := false, laid := [("allonge/order.numbers", laid_allonge_order_numbers)], narrowed := true }
def RecognizeKnowsUptoSaid : Prop := recognizeKnowsUptoRow.holds Tryz.pinned (OpenSpec.upto recognizeKnowsSpec)

/-- 'allongelaw47.RecognizeLess', WHERE WHAT IT READS IS OF BULK AT MOST 1048576: true; the input reads as it did. -/
def recognizeLessUptoRow : OpenClaim := { program := "ytggilgghigileaagreatdoor", sum := "c644a655c5a2a5033d370e2fa5bdfa4e90cddffdca377b2c281d1b2a7e7de8d2", func := "allonge/allongelaw47.RecognizeLess", spec := "recognizeLess", unfollowed := true, recurses := true, named := ["math/bits.divideError", "math/bits.overflowError", "allonge/order.numbers"], loops := true, apart := false, laid := [("allonge/order.numbers", laid_allonge_order_numbers)], narrowed := true }
def RecognizeLessUptoSaid : Prop := recognizeLessUptoRow.holds Tryz.pinned (OpenSpec.upto recognizeLessSpec)

end Rows
end Go.Proofs.YtggilgghigileaaGreatDoor
