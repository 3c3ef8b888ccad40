/- A function by hand. -/
import Derived.Test.YtbcnlpcaajpclaaGreatDoorRc7
import Derived.Shelf.SortM.Plain
import Derived.Shelf.SortM.SortNone
import Derived.Ground.SlgmProg
import Derived.Test.YtbcnlpcaajpclaaGreatDoorAvYm
import Derived.Shelf.Slices.CompactI
import Derived.Ground.Names2Prog
namespace Go.Proofs.YtbcnlpcaajpclaaGreatDoor
open Go Go.Av Go.Shelf Go.Proofs
set_option linter.unusedSimpArgs false
set_option linter.unusedVariables false
set_option maxHeartbeats 1000000
set_option maxRecDepth 100000
def Tryz.sortLays_ren:Go.Shelf.Ren:=⟨fun | 5=>145 | 8=>201 | 7=>200 | 19=>245 | 20=>246 | 10=>236 | 11=>237 | 12=>238 | 13=>239 | 14=>240 | 15=>241 | 16=>242 | 17=>243 | 18=>244 | 30=>264 | 31=>265 | 32=>266 | 33=>267 | 34=>268 | 35=>228 | 40=>282 | n=>n,fun | 23=>85 | 25=>3 | 3=>3 | 32=>133 | 22=>85 | 0=>0 | 44=>211 | 46=>213 | 4=>4 | 36=>312 | 35=>311 | 41=>237 | 5=>5 | 9=>9 | 53=>339 | 57=>343 | 63=>358 | 64=>110 | n=>n,fun | n=>n⟩
theorem Tryz.sortLays:Go.Proofs.SlLaysM.n5 Tryz.prog Tryz.sortLays_ren:={
 mixed:=by kernel_rfl
 f5:=⟨Tryz.f145.name,by decide,Tryz.func145.trans (congrArg some (by kernel_rfl))⟩
 f7:=⟨Tryz.f200.name,by decide,Tryz.func200.trans (congrArg some (by kernel_rfl))⟩
 f8:=Tryz.func201.trans (congrArg some (by kernel_rfl))
 f10:=⟨Tryz.f236.name,by decide,Tryz.func236.trans (congrArg some (by kernel_rfl))⟩
 f11:=⟨Tryz.f237.name,by decide,Tryz.func237.trans (congrArg some (by kernel_rfl))⟩
 f12:=⟨Tryz.f238.name,by decide,Tryz.func238.trans (congrArg some (by kernel_rfl))⟩
 f13:=⟨Tryz.f239.name,by decide,Tryz.func239.trans (congrArg some (by kernel_rfl))⟩
 f14:=⟨Tryz.f240.name,by decide,Tryz.func240.trans (congrArg some (by kernel_rfl))⟩
 f15:=⟨Tryz.f241.name,by decide,Tryz.func241.trans (congrArg some (by kernel_rfl))⟩
 f16:=⟨Tryz.f242.name,by decide,Tryz.func242.trans (congrArg some (by kernel_rfl))⟩
 f17:=⟨Tryz.f243.name,by decide,Tryz.func243.trans (congrArg some (by kernel_rfl))⟩
 f18:=⟨Tryz.f244.name,by decide,Tryz.func244.trans (congrArg some (by kernel_rfl))⟩
 f19:=Tryz.func245.trans (congrArg some (by kernel_rfl))
 f20:=Tryz.func246.trans (congrArg some (by kernel_rfl))
 f30:=⟨Tryz.f264.name,by decide,Tryz.func264.trans (congrArg some (by kernel_rfl))⟩
 f31:=Tryz.func265.trans (congrArg some (by kernel_rfl))
 f32:=Tryz.func266.trans (congrArg some (by kernel_rfl))
 f33:=⟨Tryz.f267.name,by decide,Tryz.func267.trans (congrArg some (by kernel_rfl))⟩
 f34:=⟨Tryz.f268.name,by decide,Tryz.func268.trans (congrArg some (by kernel_rfl))⟩
 f35:=⟨Tryz.f228.name,by decide,Tryz.func228.trans (congrArg some (by kernel_rfl))⟩
 f40:=⟨Tryz.f282.name,by decide,Tryz.func282.trans (congrArg some (by kernel_rfl))⟩
 t0:=Tryz.underlying0
 a0:=Tryz.isAgg0
 z0:=Tryz.sizeOf0
 v0:=Tryz.zeroValue0
 t3:=Tryz.underlying3
 a3:=Tryz.isAgg3
 z3:=Tryz.sizeOf3
 v3:=Tryz.zeroValue3
 t4:=Tryz.underlying4
 a4:=Tryz.isAgg4
 z4:=Tryz.sizeOf4
 v4:=Tryz.zeroValue4
 t5:=Tryz.underlying5
 a5:=Tryz.isAgg5
 z5:=Tryz.sizeOf5
 v5:=Tryz.zeroValue5
 t9:=Tryz.underlying9
 a9:=Tryz.isAgg9
 z9:=Tryz.sizeOf9
 v9:=Tryz.zeroValue9
 t22:=Tryz.underlying85
 a22:=Tryz.isAgg85
 z22:=Tryz.sizeOf85
 v22:=Tryz.zeroValue85
 t23:=Tryz.underlying85
 a23:=Tryz.isAgg85
 z23:=Tryz.sizeOf85
 v23:=Tryz.zeroValue85
 t25:=Tryz.underlying3
 a25:=Tryz.isAgg3
 z25:=Tryz.sizeOf3
 v25:=Tryz.zeroValue3
 t32:=Tryz.underlying133
 a32:=Tryz.isAgg133
 z32:=Tryz.sizeOf133
 v32:=Tryz.zeroValue133
 t35:=Tryz.underlying311
 a35:=Tryz.isAgg311
 z35:=Tryz.sizeOf311
 v35:=Tryz.zeroValue311
 t36:=Tryz.underlying312
 a36:=Tryz.isAgg312
 z36:=Tryz.sizeOf312
 v36:=Tryz.zeroValue312
 t41:=Tryz.underlying237
 a41:=Tryz.isAgg237
 z41:=Tryz.sizeOf237
 v41:=Tryz.zeroValue237
 t44:=Tryz.underlying211
 a44:=Tryz.isAgg211
 z44:=Tryz.sizeOf211
 v44:=Tryz.zeroValue211
 t46:=Tryz.underlying213
 a46:=Tryz.isAgg213
 z46:=Tryz.sizeOf213
 v46:=Tryz.zeroValue213
 t53:=Tryz.underlying339
 a53:=Tryz.isAgg339
 z53:=Tryz.sizeOf339
 v53:=Tryz.zeroValue339
 t57:=Tryz.underlying343
 a57:=Tryz.isAgg343
 z57:=Tryz.sizeOf343
 v57:=Tryz.zeroValue343
 t63:=Tryz.underlying358
 a63:=Tryz.isAgg358
 z63:=Tryz.sizeOf358
 v63:=Tryz.zeroValue358
 t64:=Tryz.underlying110
 a64:=Tryz.isAgg110
 z64:=Tryz.sizeOf110
 v64:=Tryz.zeroValue110 }
noncomputable def slices_Sort_s (κ:Nat) (x:List Int):CtrS (List Int) :=
 ⟨Tryz.prog,145,[ow κ x],κ,rowB 3 1 intC x,fun y=>rowB 3 1 intC y,sortI x,x.length < 4611686018427387904,
  fun h=>sort_fnS (by kernel_rfl) (fun blk off cap zs w=>AnyM.slices_Sort_int Tryz.sortLays blk off cap zs w) (fun p cap w=>AnyM.slices_Sort_int_none Tryz.sortLays p cap w) κ 3 x h,
  fun y=>y.length=x.length,by simp [sortI]⟩
end Go.Proofs.YtbcnlpcaajpclaaGreatDoor
namespace Go.Proofs.YtbcnlpcaajpclaaGreatDoor
open Go Go.Av Go.Shelf Go.Proofs
set_option linter.unusedSimpArgs false
set_option linter.unusedVariables false
set_option maxHeartbeats 1000000
set_option maxRecDepth 100000
def Tryz.compactLays_ren:Go.Shelf.Ren:=⟨fun | 20=>146 | n=>n,fun | 22=>85 | 3=>3 | 4=>4 | 0=>0 | n=>n,fun | n=>n⟩
theorem Tryz.compactLays:Go.Proofs.Lays2.n20 Tryz.prog Tryz.compactLays_ren:={
 mixed:=by kernel_rfl
 f20:=Tryz.func146.trans (congrArg some (by kernel_rfl))
 t0:=Tryz.underlying0
 a0:=Tryz.isAgg0
 z0:=Tryz.sizeOf0
 v0:=Tryz.zeroValue0
 t3:=Tryz.underlying3
 a3:=Tryz.isAgg3
 z3:=Tryz.sizeOf3
 v3:=Tryz.zeroValue3
 t4:=Tryz.underlying4
 a4:=Tryz.isAgg4
 z4:=Tryz.sizeOf4
 v4:=Tryz.zeroValue4
 t22:=Tryz.underlying85
 a22:=Tryz.isAgg85
 z22:=Tryz.sizeOf85
 v22:=Tryz.zeroValue85
 i3:=by kernel_rfl }
theorem compact_le (x:List Int):(Lib.compact x).length≤x.length:=by
 unfold Lib.compact Lib.compactUpTo
 rw [List.length_map]
 exact Nat.le_trans (List.length_filter_le _ _) (by simp)
noncomputable def slices_Compact_h (κ κ':Nat) (x:List Int):CtrH (List Int) :=
 ⟨Tryz.prog,146,[ow κ x],[(κ,rowB 3 1 intC x)],fun y=>ow κ' y,fun y=>[(κ',rowB 3 1 intC y)],Lib.compact x,True,
  fun _=>compact_fnA (by kernel_rfl) x _ (compact_le x) (fun blk cap w h1 h2 h3=>Any.slices_Compact_int Tryz.compactLays blk 0 cap x w h1 h2 h3) (fun p cap w=>Any.slices_Compact_int_empty Tryz.compactLays p cap w) κ κ' 3,
  fun y=>y.length≤x.length,compact_le x⟩
end Go.Proofs.YtbcnlpcaajpclaaGreatDoor
