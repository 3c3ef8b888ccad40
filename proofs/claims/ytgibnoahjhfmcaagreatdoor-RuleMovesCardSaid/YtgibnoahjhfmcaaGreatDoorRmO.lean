/- Arguments as typed data. -/
import Derived.Test.YtgibnoahjhfmcaaGreatDoorRm13
import Derived.Test.YtgibnoahjhfmcaaGreatDoorLc
namespace Go.Proofs.YtgibnoahjhfmcaaGreatDoor
open Go Go.Av
set_option linter.unusedSimpArgs false
set_option linter.unusedVariables false
set_option maxHeartbeats 1000000
set_option maxRecDepth 100000
theorem L16_RuleMoves_law_fn (hlaw:∀ (a0:ByteArray) (a1:Int),L16_RuleMoves a0 a1=true) (dss:List (List D)) (h:HasAll TT [9,3] dss):FnA Tryz.prog 7 (argAVs TT [9,3] dss) [] (.d (.v (.bool true))) []:=by
 obtain ⟨d0,d1,rfl⟩:∃ d0 d1,dss=[d0,d1]:=by
  match dss,h with
  | [d0,d1],_=>exact ⟨d0,d1,rfl⟩
 obtain ⟨h0,h1,-⟩:=h
 obtain ⟨x0,rfl,w0⟩:=h0.str_inv rfl rfl
 obtain ⟨x1,rfl,w1⟩:=h1.int_inv rfl rfl
 have hf:=L16_RuleMoves_fn x0 x1
 rw [hlaw] at hf
 exact FnA.argLe hf ⟨AvLe.rfl',AvLe.rfl',trivial⟩
end Go.Proofs.YtgibnoahjhfmcaaGreatDoor
