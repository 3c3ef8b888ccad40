/- A function by hand. -/
import Derived.Test.YtilbddpghnnmhaaGreatDoorSa2
import Derived.Shelf.SortM.Plain
import Derived.Shelf.SortM.SortNone
import Derived.Ground.SlgmProg
import Derived.Test.YtilbddpghnnmhaaGreatDoorAvYm
namespace Go.Proofs.YtilbddpghnnmhaaGreatDoor
open Go Go.Av Go.Shelf Go.Proofs
set_option linter.unusedSimpArgs false
set_option linter.unusedVariables false
set_option maxHeartbeats 1000000
set_option maxRecDepth 100000
def Tryz.sortLays_ren:Go.Shelf.Ren:=⟨fun | 5=>176 | 8=>213 | 7=>212 | 19=>240 | 20=>241 | 10=>231 | 11=>232 | 12=>233 | 13=>234 | 14=>235 | 15=>236 | 16=>237 | 17=>238 | 18=>239 | 30=>247 | 31=>248 | 32=>249 | 33=>250 | 34=>251 | 35=>101 | 40=>252 | n=>n,fun | 23=>25 | 25=>3 | 3=>3 | 32=>311 | 22=>25 | 0=>0 | 44=>338 | 46=>327 | 4=>4 | 36=>333 | 35=>332 | 41=>77 | 5=>5 | 9=>9 | 53=>348 | 57=>352 | 63=>354 | 64=>166 | n=>n,fun | n=>n⟩
theorem Tryz.sortLays:Go.Proofs.SlLaysM.n5 Tryz.prog Tryz.sortLays_ren:={
 mixed:=by kernel_rfl
 f5:=⟨Tryz.f176.name,by decide,Tryz.func176.trans (congrArg some (by kernel_rfl))⟩
 f7:=⟨Tryz.f212.name,by decide,Tryz.func212.trans (congrArg some (by kernel_rfl))⟩
 f8:=Tryz.func213.trans (congrArg some (by kernel_rfl))
 f10:=⟨Tryz.f231.name,by decide,Tryz.func231.trans (congrArg some (by kernel_rfl))⟩
 f11:=⟨Tryz.f232.name,by decide,Tryz.func232.trans (congrArg some (by kernel_rfl))⟩
 f12:=⟨Tryz.f233.name,by decide,Tryz.func233.trans (congrArg some (by kernel_rfl))⟩
 f13:=⟨Tryz.f234.name,by decide,Tryz.func234.trans (congrArg some (by kernel_rfl))⟩
 f14:=⟨Tryz.f235.name,by decide,Tryz.func235.trans (congrArg some (by kernel_rfl))⟩
 f15:=⟨Tryz.f236.name,by decide,Tryz.func236.trans (congrArg some (by kernel_rfl))⟩
 f16:=⟨Tryz.f237.name,by decide,Tryz.func237.trans (congrArg some (by kernel_rfl))⟩
 f17:=⟨Tryz.f238.name,by decide,Tryz.func238.trans (congrArg some (by kernel_rfl))⟩
 f18:=⟨Tryz.f239.name,by decide,Tryz.func239.trans (congrArg some (by kernel_rfl))⟩
 f19:=Tryz.func240.trans (congrArg some (by kernel_rfl))
 f20:=Tryz.func241.trans (congrArg some (by kernel_rfl))
 f30:=⟨Tryz.f247.name,by decide,Tryz.func247.trans (congrArg some (by kernel_rfl))⟩
 f31:=Tryz.func248.trans (congrArg some (by kernel_rfl))
 f32:=Tryz.func249.trans (congrArg some (by kernel_rfl))
 f33:=⟨Tryz.f250.name,by decide,Tryz.func250.trans (congrArg some (by kernel_rfl))⟩
 f34:=⟨Tryz.f251.name,by decide,Tryz.func251.trans (congrArg some (by kernel_rfl))⟩
 f35:=⟨Tryz.f101.name,by decide,Tryz.func101.trans (congrArg some (by kernel_rfl))⟩
 f40:=⟨Tryz.f252.name,by decide,Tryz.func252.trans (congrArg some (by kernel_rfl))⟩
 t0:=Tryz.underlying0
 a0:=Tryz.isAgg0
 z0:=Tryz.sizeOf0
 v0:=Tryz.zeroValue0
 t3:=Tryz.underlying3
 a3:=Tryz.isAgg3
 z3:=Tryz.sizeOf3
 v3:=Tryz.zeroValue3
 t4:=Tryz.underlying4
 a4:=Tryz.isAgg4
 z4:=Tryz.sizeOf4
 v4:=Tryz.zeroValue4
 t5:=Tryz.underlying5
 a5:=Tryz.isAgg5
 z5:=Tryz.sizeOf5
 v5:=Tryz.zeroValue5
 t9:=Tryz.underlying9
 a9:=Tryz.isAgg9
 z9:=Tryz.sizeOf9
 v9:=Tryz.zeroValue9
 t22:=Tryz.underlying25
 a22:=Tryz.isAgg25
 z22:=Tryz.sizeOf25
 v22:=Tryz.zeroValue25
 t23:=Tryz.underlying25
 a23:=Tryz.isAgg25
 z23:=Tryz.sizeOf25
 v23:=Tryz.zeroValue25
 t25:=Tryz.underlying3
 a25:=Tryz.isAgg3
 z25:=Tryz.sizeOf3
 v25:=Tryz.zeroValue3
 t32:=Tryz.underlying311
 a32:=Tryz.isAgg311
 z32:=Tryz.sizeOf311
 v32:=Tryz.zeroValue311
 t35:=Tryz.underlying332
 a35:=Tryz.isAgg332
 z35:=Tryz.sizeOf332
 v35:=Tryz.zeroValue332
 t36:=Tryz.underlying333
 a36:=Tryz.isAgg333
 z36:=Tryz.sizeOf333
 v36:=Tryz.zeroValue333
 t41:=Tryz.underlying77
 a41:=Tryz.isAgg77
 z41:=Tryz.sizeOf77
 v41:=Tryz.zeroValue77
 t44:=Tryz.underlying338
 a44:=Tryz.isAgg338
 z44:=Tryz.sizeOf338
 v44:=Tryz.zeroValue338
 t46:=Tryz.underlying327
 a46:=Tryz.isAgg327
 z46:=Tryz.sizeOf327
 v46:=Tryz.zeroValue327
 t53:=Tryz.underlying348
 a53:=Tryz.isAgg348
 z53:=Tryz.sizeOf348
 v53:=Tryz.zeroValue348
 t57:=Tryz.underlying352
 a57:=Tryz.isAgg352
 z57:=Tryz.sizeOf352
 v57:=Tryz.zeroValue352
 t63:=Tryz.underlying354
 a63:=Tryz.isAgg354
 z63:=Tryz.sizeOf354
 v63:=Tryz.zeroValue354
 t64:=Tryz.underlying166
 a64:=Tryz.isAgg166
 z64:=Tryz.sizeOf166
 v64:=Tryz.zeroValue166 }
noncomputable def Zh (κ:Nat) (x:List Int):zey (List Int) :=
 ⟨Tryz.prog,176,[ow κ x],κ,jz 3 1 jC x,fun y=>jz 3 1 jC y,UI x,x.length < 4611686018427387904,
  fun h=>zqx (by kernel_rfl) (fun blk off cap zs w=>AnyM.slices_Sort_int Tryz.sortLays blk off cap zs w) (fun p cap w=>AnyM.slices_Sort_int_none Tryz.sortLays p cap w) κ 3 x h,
  fun y=>y.length=x.length,by simp [UI]⟩
end Go.Proofs.YtilbddpghnnmhaaGreatDoor
