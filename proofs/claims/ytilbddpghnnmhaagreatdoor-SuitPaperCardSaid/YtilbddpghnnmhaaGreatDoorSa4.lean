/- A function by hand. -/
import Derived.Test.YtilbddpghnnmhaaGreatDoorSa3
import Derived.Shelf.Slices.CompactI
import Derived.Ground.Names2Prog
import Derived.Test.YtilbddpghnnmhaaGreatDoorAvYm
namespace Go.Proofs.YtilbddpghnnmhaaGreatDoor
open Go Go.Av Go.Shelf Go.Proofs
set_option linter.unusedSimpArgs false
set_option linter.unusedVariables false
set_option maxHeartbeats 1000000
set_option maxRecDepth 100000
def Tryz.compactLays_ren:Go.Shelf.Ren:=⟨fun | 20=>177 | n=>n,fun | 22=>25 | 3=>3 | 4=>4 | 0=>0 | n=>n,fun | n=>n⟩
theorem Tryz.compactLays:Go.Proofs.Lays2.n20 Tryz.prog Tryz.compactLays_ren:={
 mixed:=by kernel_rfl
 f20:=Tryz.func177.trans (congrArg some (by kernel_rfl))
 t0:=Tryz.underlying0
 a0:=Tryz.isAgg0
 z0:=Tryz.sizeOf0
 v0:=Tryz.zeroValue0
 t3:=Tryz.underlying3
 a3:=Tryz.isAgg3
 z3:=Tryz.sizeOf3
 v3:=Tryz.zeroValue3
 t4:=Tryz.underlying4
 a4:=Tryz.isAgg4
 z4:=Tryz.sizeOf4
 v4:=Tryz.zeroValue4
 t22:=Tryz.underlying25
 a22:=Tryz.isAgg25
 z22:=Tryz.sizeOf25
 v22:=Tryz.zeroValue25
 i3:=by kernel_rfl }
theorem zg2 (x:List Int):(Lib.compact x).length≤x.length:=by
 unfold Lib.compact Lib.compactUpTo
 rw [List.length_map]
 exact Nat.le_trans (List.length_filter_le _ _) (by simp)
noncomputable def Jm (κ κ':Nat) (x:List Int):WY (List Int) :=
 ⟨Tryz.prog,177,[ow κ x],[(κ,jz 3 1 jC x)],fun y=>ow κ' y,fun y=>[(κ',jz 3 1 jC y)],Lib.compact x,True,
  fun _=>zme (by kernel_rfl) x _ (zg2 x) (fun blk cap w h1 h2 h3=>Any.slices_Compact_int Tryz.compactLays blk 0 cap x w h1 h2 h3) (fun p cap w=>Any.slices_Compact_int_empty Tryz.compactLays p cap w) κ κ' 3,
  fun y=>y.length≤x.length,zg2 x⟩
end Go.Proofs.YtilbddpghnnmhaaGreatDoor
