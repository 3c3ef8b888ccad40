/- A function by hand. -/
import Derived.Test.YtgibnoahjhfmcaaGreatDoorRa5
import Derived.Shelf.SlSortCmp.WholeK
import Derived.Shelf.SlSortCmp.NoneTotal
import Derived.Ground.SlsfProg
import Derived.Test.YtgibnoahjhfmcaaGreatDoorLg
namespace Go.Proofs.YtgibnoahjhfmcaaGreatDoor
open Go Go.Av Go.Shelf Go.Proofs
set_option linter.unusedSimpArgs false
set_option linter.unusedVariables false
set_option maxHeartbeats 1000000
set_option maxRecDepth 100000
def Tryz.sortfruLays_ren:Go.Shelf.Ren:=⟨fun | 6=>52 | 15=>94 | 14=>96 | 28=>129 | 29=>130 | 20=>131 | 21=>132 | 22=>133 | 23=>134 | 24=>135 | 25=>136 | 26=>137 | 27=>138 | 46=>159 | 47=>155 | 48=>156 | 49=>160 | 50=>161 | 57=>167 | n=>n,fun | 22=>37 | 24=>48 | 25=>88 | 3=>3 | 39=>127 | 0=>0 | 53=>142 | 55=>157 | 4=>4 | 46=>150 | 45=>149 | 50=>114 | 5=>5 | 9=>9 | 66=>184 | 70=>188 | 76=>196 | 77=>197 | n=>n,fun | n=>n⟩
theorem Tryz.sortfruLays:Go.Proofs.SlLaysF0.n6 Tryz.prog Tryz.sortfruLays_ren:={
 mixed:=by kernel_rfl
 f6:=⟨Tryz.f52.name,by decide,Tryz.func52.trans (congrArg some (by kernel_rfl))⟩
 f14:=⟨Tryz.f96.name,by decide,Tryz.func96.trans (congrArg some (by kernel_rfl))⟩
 f15:=Tryz.func94.trans (congrArg some (by kernel_rfl))
 f20:=⟨Tryz.f131.name,by decide,Tryz.func131.trans (congrArg some (by kernel_rfl))⟩
 f21:=⟨Tryz.f132.name,by decide,Tryz.func132.trans (congrArg some (by kernel_rfl))⟩
 f22:=⟨Tryz.f133.name,by decide,Tryz.func133.trans (congrArg some (by kernel_rfl))⟩
 f23:=⟨Tryz.f134.name,by decide,Tryz.func134.trans (congrArg some (by kernel_rfl))⟩
 f24:=⟨Tryz.f135.name,by decide,Tryz.func135.trans (congrArg some (by kernel_rfl))⟩
 f25:=⟨Tryz.f136.name,by decide,Tryz.func136.trans (congrArg some (by kernel_rfl))⟩
 f26:=⟨Tryz.f137.name,by decide,Tryz.func137.trans (congrArg some (by kernel_rfl))⟩
 f27:=⟨Tryz.f138.name,by decide,Tryz.func138.trans (congrArg some (by kernel_rfl))⟩
 f28:=Tryz.func129.trans (congrArg some (by kernel_rfl))
 f29:=Tryz.func130.trans (congrArg some (by kernel_rfl))
 f46:=⟨Tryz.f159.name,by decide,Tryz.func159.trans (congrArg some (by kernel_rfl))⟩
 f47:=Tryz.func155.trans (congrArg some (by kernel_rfl))
 f48:=Tryz.func156.trans (congrArg some (by kernel_rfl))
 f49:=⟨Tryz.f160.name,by decide,Tryz.func160.trans (congrArg some (by kernel_rfl))⟩
 f50:=⟨Tryz.f161.name,by decide,Tryz.func161.trans (congrArg some (by kernel_rfl))⟩
 f57:=⟨Tryz.f167.name,by decide,Tryz.func167.trans (congrArg some (by kernel_rfl))⟩
 t0:=Tryz.underlying0
 a0:=Tryz.isAgg0
 z0:=Tryz.sizeOf0
 v0:=Tryz.zeroValue0
 t3:=Tryz.underlying3
 a3:=Tryz.isAgg3
 z3:=Tryz.sizeOf3
 v3:=Tryz.zeroValue3
 t4:=Tryz.underlying4
 a4:=Tryz.isAgg4
 z4:=Tryz.sizeOf4
 v4:=Tryz.zeroValue4
 t5:=Tryz.underlying5
 a5:=Tryz.isAgg5
 z5:=Tryz.sizeOf5
 v5:=Tryz.zeroValue5
 t9:=Tryz.underlying9
 a9:=Tryz.isAgg9
 z9:=Tryz.sizeOf9
 v9:=Tryz.zeroValue9
 t22:=Tryz.underlying37
 a22:=Tryz.isAgg37
 z22:=Tryz.sizeOf37
 v22:=Tryz.zeroValue37
 t25:=Tryz.underlying88
 a25:=Tryz.isAgg88
 z25:=Tryz.sizeOf88
 v25:=Tryz.zeroValue88
 t39:=Tryz.underlying127
 a39:=Tryz.isAgg127
 z39:=Tryz.sizeOf127
 v39:=Tryz.zeroValue127
 t45:=Tryz.underlying149
 a45:=Tryz.isAgg149
 z45:=Tryz.sizeOf149
 v45:=Tryz.zeroValue149
 t46:=Tryz.underlying150
 a46:=Tryz.isAgg150
 z46:=Tryz.sizeOf150
 v46:=Tryz.zeroValue150
 t50:=Tryz.underlying114
 a50:=Tryz.isAgg114
 z50:=Tryz.sizeOf114
 v50:=Tryz.zeroValue114
 t53:=Tryz.underlying142
 a53:=Tryz.isAgg142
 z53:=Tryz.sizeOf142
 v53:=Tryz.zeroValue142
 t55:=Tryz.underlying157
 a55:=Tryz.isAgg157
 z55:=Tryz.sizeOf157
 v55:=Tryz.zeroValue157
 t66:=Tryz.underlying184
 a66:=Tryz.isAgg184
 z66:=Tryz.sizeOf184
 v66:=Tryz.zeroValue184
 t70:=Tryz.underlying188
 a70:=Tryz.isAgg188
 z70:=Tryz.sizeOf188
 v70:=Tryz.zeroValue188
 t76:=Tryz.underlying196
 a76:=Tryz.isAgg196
 z76:=Tryz.sizeOf196
 v76:=Tryz.zeroValue196
 t77:=Tryz.underlying197
 a77:=Tryz.isAgg197
 z77:=Tryz.sizeOf197
 v77:=Tryz.zeroValue197 }
theorem ru_ti:∃ i,Go.Av.look TT 48=some i∧isAggK i.kind=true∧i.size=4:=⟨_,rfl,rfl,rfl⟩
theorem ru_agg (w:World):(isAgg 48).run Tryz.prog w=.ok true w:=by
 obtain ⟨i,h1,h2,-⟩:=ru_ti
 rw [← h2]
 exact (ti_agg tok h1 w).1
theorem ru_size (w:World):(Go.sizeOf 48).run Tryz.prog w=.ok 4 w:=by
 obtain ⟨i,h1,-,h2⟩:=ru_ti
 rw [← h2]
 exact (ti_agg tok h1 w).2
theorem rule_reader_order_c3_eq (x y:Rule):rule_reader_order_c3 x y=cmpK (·.ask) x y:=by
 have h:rule_reader_order_c3 x y=bif (x.ask != x.ask) then (bif (y.ask != y.ask) then 0 else -1) else bif (y.ask != y.ask) then 1 else bif decide (x.ask < y.ask) then -1 else bif decide (x.ask > y.ask) then 1 else 0:=rfl
 rw [h]
 simp only [bne_self_eq_false,cond_false,cmpK]
theorem ru_cmp (x y:Rule):FnA Tryz.prog 53 [av x.cells,av y.cells] [] (iv (cmpK (·.ask) x y)) []:=by
 rw [← rule_reader_order_c3_eq]
 exact (rule_reader_order_c3_k x y).pf trivial
noncomputable def slices_SortFunc_ru_s (κ:Nat) (x:List Rule):CtrS (List Rule) :=
 ⟨Tryz.prog,52,[ow κ x,.fn 53 []],κ,rowB 48 4 Rule.cells x,fun y=>rowB 48 4 Rule.cells y,isort (·.ask) x,x.length < 4611686018427387904∧(x.map (·.ask)).Nodup,
  fun h=>sortf_fnS4 (P:=Tryz.prog) (by kernel_rfl) Rule.cells 4 (by decide) (fun _=>rfl) (fun x w S j v hj hr=>by
   have:j=0∨j=1∨j=2∨j=3:=by omega
   rcases this with rfl | rfl | rfl | rfl
   ·cases hr; rfl
   ·cases hr; rfl
   ·cases hr; rfl
   ·exact rd_sl_one hr) (fun w S=>⟨⟨default,[.int .i64 0,.int .i64 0,.int .i64 0,.slice none 0 0],rfl,fun j hj=>by
   have:j=0∨j=1∨j=2∨j=3:=by omega
   rcases this with rfl | rfl | rfl | rfl
   ·exact .v _ rfl
   ·exact .v _ rfl
   ·exact .v _ rfl
   ·exact .nil _,by decide⟩⟩) (cmpK (·.ask)) (cmpK_swo _) ru_cmp
   (fun enc hk ho cf hO blk off cap d w hcl hH hb hs=>AnyQ.slices_SortFunc_eq Tryz.sortfruLays 4 ru_agg ru_size enc hk ho cf hO 53 #[] blk off cap d w (fun args w=>callable_run (by kernel_rfl) args) hcl hH hb hs)
   (fun p cap w=>AnyF.slices_SortFunc_none Tryz.sortfruLays p cap _ w) κ 48 x h.1 (isort (·.ask) x) (isort_one (·.ask) x h.2),
  fun y=>y.length=x.length,isort_length _ _⟩
end Go.Proofs.YtgibnoahjhfmcaaGreatDoor
