/- Arguments as typed data. -/
import Derived.Test.YtgibnoahjhfmcaaGreatDoorRa14
import Derived.Test.YtgibnoahjhfmcaaGreatDoorLc
namespace Go.Proofs.YtgibnoahjhfmcaaGreatDoor
open Go Go.Av
set_option linter.unusedSimpArgs false
set_option linter.unusedVariables false
set_option maxHeartbeats 1000000
set_option maxRecDepth 100000
theorem L16_RuleAgain_law_fn (hlaw:∀ (a0:ByteArray),L16_RuleAgain a0=true) (dss:List (List D)) (h:HasAll TT [9] dss):FnA Tryz.prog 5 (argAVs TT [9] dss) [] (.d (.v (.bool true))) []:=by
 obtain ⟨d0,rfl⟩:∃ d0,dss=[d0]:=by
  match dss,h with
  | [d0],_=>exact ⟨d0,rfl⟩
 obtain ⟨h0,-⟩:=h
 obtain ⟨x0,rfl,w0⟩:=h0.str_inv rfl rfl
 have hf:=L16_RuleAgain_fn x0
 rw [hlaw] at hf
 exact FnA.argLe hf ⟨AvLe.rfl',trivial⟩
end Go.Proofs.YtgibnoahjhfmcaaGreatDoor
