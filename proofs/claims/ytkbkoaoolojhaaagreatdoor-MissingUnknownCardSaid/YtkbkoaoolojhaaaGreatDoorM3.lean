/- The law as a contract. -/
import Derived.Test.YtkbkoaoolojhaaaGreatDoorLi
import Derived.Test.YtkbkoaoolojhaaaGreatDoorLd
set_option linter.unusedSimpArgs false
set_option linter.unusedVariables false
set_option maxHeartbeats 1000000
set_option maxRecDepth 100000
namespace Go.Proofs.YtkbkoaoolojhaaaGreatDoor
open Go Go.Av
theorem vq (RS:∀ (a0:ai) (a1:Int),iA a0 a1=true) (zG:List (List D)) (h:Da TT [31,3] zG):eC Tryz.prog 3 (sy TT [31,3] zG) [] (.d (.v (.bool true))) []:=by
 obtain ⟨d0,d1,rfl⟩:∃ d0 d1,zG=[d0,d1]:=by
  match zG,h with
  | [d0,d1],_=>exact ⟨d0,d1,rfl⟩
 obtain ⟨h0,h1,-⟩:=h
 obtain ⟨x0,y0,w0⟩:=ai.of h0
 obtain ⟨x1,rfl,w1⟩:=h1.nZ rfl rfl
 have hf:=zO x0 x1
 rw [RS] at hf
 exact eC.Mz hf ⟨lL.d y0.agg,lL.rfl',trivial⟩
theorem zi (a0:ai) (a1:Int):iA a0 a1=true :=
 xZ a0 a1
end Go.Proofs.YtkbkoaoolojhaaaGreatDoor
