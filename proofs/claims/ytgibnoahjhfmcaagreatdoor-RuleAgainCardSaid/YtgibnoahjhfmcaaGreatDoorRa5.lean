/- Functions, as sketches. -/
import Derived.Test.YtgibnoahjhfmcaaGreatDoorRa4
namespace Go.Proofs.YtgibnoahjhfmcaaGreatDoor
open Go Go.Av
set_option linter.unusedSimpArgs false
set_option linter.unusedVariables false
set_option maxHeartbeats 1000000
set_option maxRecDepth 100000
noncomputable def rule_reader_order_c3_sk (a:Rule) (b:Rule):Sk (Int) :=
 .r 1 ((cmp_Compare_k a.ask b.ask).c) fun x1 =>
 .fin x1
noncomputable def rule_reader_order_c3 (a:Rule) (b:Rule):Int:=(rule_reader_order_c3_sk a b).val
theorem rule_reader_order_c3_ok (a:Rule) (b:Rule):(rule_reader_order_c3_sk a b).obs (fun _=>True):=by
 unfold rule_reader_order_c3_sk
 try simp only [cmp_Compare_k]
 exact okE
noncomputable def rule_reader_order_c3_k (a:Rule) (b:Rule):Ctr (Int):=kk tok mixed Tryz.func53 [av a.cells,av b.cells] (fun x=>iv x) true (rule_reader_order_c3_sk a b) (rule_reader_order_c3 a b) (fun (_:True)=>rule_reader_order_c3_ok a b)
end Go.Proofs.YtgibnoahjhfmcaaGreatDoor
