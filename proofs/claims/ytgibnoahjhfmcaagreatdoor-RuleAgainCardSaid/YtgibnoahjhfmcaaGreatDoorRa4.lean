/- A function by hand. -/
import Derived.Test.YtgibnoahjhfmcaaGreatDoorRa3
import Derived.Shelf.SlSortCmp.WholeK
import Derived.Shelf.SlSortCmp.NoneTotal
import Derived.Ground.SlsfProg
import Derived.Test.YtgibnoahjhfmcaaGreatDoorLg
namespace Go.Proofs.YtgibnoahjhfmcaaGreatDoor
open Go Go.Av Go.Shelf Go.Proofs
set_option linter.unusedSimpArgs false
set_option linter.unusedVariables false
set_option maxHeartbeats 1000000
set_option maxRecDepth 100000
def Tryz.sortfchLays_ren:Go.Shelf.Ren:=⟨fun | 6=>49 | 15=>94 | 14=>93 | 28=>129 | 29=>130 | 20=>121 | 21=>122 | 22=>123 | 23=>124 | 24=>125 | 25=>126 | 26=>127 | 27=>128 | 46=>154 | 47=>155 | 48=>156 | 49=>157 | 50=>158 | 57=>166 | n=>n,fun | 22=>36 | 24=>70 | 25=>86 | 3=>3 | 39=>127 | 0=>0 | 53=>142 | 55=>157 | 4=>4 | 46=>150 | 45=>149 | 50=>114 | 5=>5 | 9=>9 | 66=>184 | 70=>188 | 76=>196 | 77=>197 | n=>n,fun | n=>n⟩
theorem Tryz.sortfchLays:Go.Proofs.SlLaysF0.n6 Tryz.prog Tryz.sortfchLays_ren:={
 mixed:=by kernel_rfl
 f6:=⟨Tryz.f49.name,by decide,Tryz.func49.trans (congrArg some (by kernel_rfl))⟩
 f14:=⟨Tryz.f93.name,by decide,Tryz.func93.trans (congrArg some (by kernel_rfl))⟩
 f15:=Tryz.func94.trans (congrArg some (by kernel_rfl))
 f20:=⟨Tryz.f121.name,by decide,Tryz.func121.trans (congrArg some (by kernel_rfl))⟩
 f21:=⟨Tryz.f122.name,by decide,Tryz.func122.trans (congrArg some (by kernel_rfl))⟩
 f22:=⟨Tryz.f123.name,by decide,Tryz.func123.trans (congrArg some (by kernel_rfl))⟩
 f23:=⟨Tryz.f124.name,by decide,Tryz.func124.trans (congrArg some (by kernel_rfl))⟩
 f24:=⟨Tryz.f125.name,by decide,Tryz.func125.trans (congrArg some (by kernel_rfl))⟩
 f25:=⟨Tryz.f126.name,by decide,Tryz.func126.trans (congrArg some (by kernel_rfl))⟩
 f26:=⟨Tryz.f127.name,by decide,Tryz.func127.trans (congrArg some (by kernel_rfl))⟩
 f27:=⟨Tryz.f128.name,by decide,Tryz.func128.trans (congrArg some (by kernel_rfl))⟩
 f28:=Tryz.func129.trans (congrArg some (by kernel_rfl))
 f29:=Tryz.func130.trans (congrArg some (by kernel_rfl))
 f46:=⟨Tryz.f154.name,by decide,Tryz.func154.trans (congrArg some (by kernel_rfl))⟩
 f47:=Tryz.func155.trans (congrArg some (by kernel_rfl))
 f48:=Tryz.func156.trans (congrArg some (by kernel_rfl))
 f49:=⟨Tryz.f157.name,by decide,Tryz.func157.trans (congrArg some (by kernel_rfl))⟩
 f50:=⟨Tryz.f158.name,by decide,Tryz.func158.trans (congrArg some (by kernel_rfl))⟩
 f57:=⟨Tryz.f166.name,by decide,Tryz.func166.trans (congrArg some (by kernel_rfl))⟩
 t0:=Tryz.underlying0
 a0:=Tryz.isAgg0
 z0:=Tryz.sizeOf0
 v0:=Tryz.zeroValue0
 t3:=Tryz.underlying3
 a3:=Tryz.isAgg3
 z3:=Tryz.sizeOf3
 v3:=Tryz.zeroValue3
 t4:=Tryz.underlying4
 a4:=Tryz.isAgg4
 z4:=Tryz.sizeOf4
 v4:=Tryz.zeroValue4
 t5:=Tryz.underlying5
 a5:=Tryz.isAgg5
 z5:=Tryz.sizeOf5
 v5:=Tryz.zeroValue5
 t9:=Tryz.underlying9
 a9:=Tryz.isAgg9
 z9:=Tryz.sizeOf9
 v9:=Tryz.zeroValue9
 t22:=Tryz.underlying36
 a22:=Tryz.isAgg36
 z22:=Tryz.sizeOf36
 v22:=Tryz.zeroValue36
 t25:=Tryz.underlying86
 a25:=Tryz.isAgg86
 z25:=Tryz.sizeOf86
 v25:=Tryz.zeroValue86
 t39:=Tryz.underlying127
 a39:=Tryz.isAgg127
 z39:=Tryz.sizeOf127
 v39:=Tryz.zeroValue127
 t45:=Tryz.underlying149
 a45:=Tryz.isAgg149
 z45:=Tryz.sizeOf149
 v45:=Tryz.zeroValue149
 t46:=Tryz.underlying150
 a46:=Tryz.isAgg150
 z46:=Tryz.sizeOf150
 v46:=Tryz.zeroValue150
 t50:=Tryz.underlying114
 a50:=Tryz.isAgg114
 z50:=Tryz.sizeOf114
 v50:=Tryz.zeroValue114
 t53:=Tryz.underlying142
 a53:=Tryz.isAgg142
 z53:=Tryz.sizeOf142
 v53:=Tryz.zeroValue142
 t55:=Tryz.underlying157
 a55:=Tryz.isAgg157
 z55:=Tryz.sizeOf157
 v55:=Tryz.zeroValue157
 t66:=Tryz.underlying184
 a66:=Tryz.isAgg184
 z66:=Tryz.sizeOf184
 v66:=Tryz.zeroValue184
 t70:=Tryz.underlying188
 a70:=Tryz.isAgg188
 z70:=Tryz.sizeOf188
 v70:=Tryz.zeroValue188
 t76:=Tryz.underlying196
 a76:=Tryz.isAgg196
 z76:=Tryz.sizeOf196
 v76:=Tryz.zeroValue196
 t77:=Tryz.underlying197
 a77:=Tryz.isAgg197
 z77:=Tryz.sizeOf197
 v77:=Tryz.zeroValue197 }
theorem ch_ti:∃ i,Go.Av.look TT 70=some i∧isAggK i.kind=true∧i.size=3:=⟨_,rfl,rfl,rfl⟩
theorem ch_agg (w:World):(isAgg 70).run Tryz.prog w=.ok true w:=by
 obtain ⟨i,h1,h2,-⟩:=ch_ti
 rw [← h2]
 exact (ti_agg tok h1 w).1
theorem ch_size (w:World):(Go.sizeOf 70).run Tryz.prog w=.ok 3 w:=by
 obtain ⟨i,h1,-,h2⟩:=ch_ti
 rw [← h2]
 exact (ti_agg tok h1 w).2
theorem rule_reader_order_c2_eq (x y:Choice):rule_reader_order_c2 x y=cmpK (·.ask) x y:=by
 have h:rule_reader_order_c2 x y=bif (x.ask != x.ask) then (bif (y.ask != y.ask) then 0 else -1) else bif (y.ask != y.ask) then 1 else bif decide (x.ask < y.ask) then -1 else bif decide (x.ask > y.ask) then 1 else 0:=rfl
 rw [h]
 simp only [bne_self_eq_false,cond_false,cmpK]
theorem ch_cmp (x y:Choice):FnA Tryz.prog 50 [av x.cells,av y.cells] [] (iv (cmpK (·.ask) x y)) []:=by
 rw [← rule_reader_order_c2_eq]
 exact (rule_reader_order_c2_k x y).pf trivial
noncomputable def slices_SortFunc_ch_s (κ:Nat) (x:List Choice):CtrS (List Choice) :=
 ⟨Tryz.prog,49,[ow κ x,.fn 50 []],κ,rowB 70 3 Choice.cells x,fun y=>rowB 70 3 Choice.cells y,isort (·.ask) x,x.length < 4611686018427387904∧(x.map (·.ask)).Nodup,
  fun h=>sortf_fnS4 (P:=Tryz.prog) (by kernel_rfl) Choice.cells 3 (by decide) (fun _=>rfl) (fun x w S j v hj hr=>by
   have:j=0∨j=1∨j=2:=by omega
   rcases this with rfl | rfl | rfl <;> (cases hr; rfl)) (fun w S=>⟨⟨default,[.int .i64 0,.int .i64 0,.bool false],rfl,fun j hj=>by
   have:j=0∨j=1∨j=2:=by omega
   rcases this with rfl | rfl | rfl <;> exact .v _ rfl,by decide⟩⟩) (cmpK (·.ask)) (cmpK_swo _) ch_cmp
   (fun enc hk ho cf hO blk off cap d w hcl hH hb hs=>AnyQ.slices_SortFunc_eq Tryz.sortfchLays 3 ch_agg ch_size enc hk ho cf hO 50 #[] blk off cap d w (fun args w=>callable_run (by kernel_rfl) args) hcl hH hb hs)
   (fun p cap w=>AnyF.slices_SortFunc_none Tryz.sortfchLays p cap _ w) κ 70 x h.1 (isort (·.ask) x) (isort_one (·.ask) x h.2),
  fun y=>y.length=x.length,isort_length _ _⟩
end Go.Proofs.YtgibnoahjhfmcaaGreatDoor
