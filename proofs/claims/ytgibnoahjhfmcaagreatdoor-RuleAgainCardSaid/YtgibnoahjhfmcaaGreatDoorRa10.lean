/- A function by hand. -/
import Derived.Test.YtgibnoahjhfmcaaGreatDoorRa9
import Derived.WalkKit
import Derived.Shelf.Strconv.Itoa3
import Derived.Lib.ItoaLen
import Derived.Shelf.Lay
import Derived.Ground.NamesProg
import Derived.Test.YtgibnoahjhfmcaaGreatDoorProg
namespace Go.Proofs.YtgibnoahjhfmcaaGreatDoor
open Go Go.Av Go.Shelf Go.RowKit
set_option linter.unusedSimpArgs false
set_option linter.unusedVariables false
set_option maxHeartbeats 1000000
set_option maxRecDepth 100000
def Tryz.itoaLays_ren:Go.Shelf.Ren:=⟨fun | 171=>106 | 243=>145 | 246=>164 | 283=>168 | 284=>169 | 285=>170 | 286=>171 | 129=>130 | 317=>172 | 318=>173 | 319=>174 | 320=>175 | 337=>176 | 338=>177 | n=>n,fun | 3=>3 | 9=>9 | 2=>2 | 4=>4 | 171=>200 | 0=>0 | 53=>157 | 37=>100 | 5=>5 | 173=>202 | 212=>205 | 51=>142 | 20=>20 | 213=>206 | 46=>127 | 232=>207 | 233=>208 | n=>n,fun | 17=>4 | 18=>5 | 19=>6 | n=>n⟩
theorem Tryz.itoaLays:Go.Proofs.LaysM.n171 Tryz.prog Tryz.itoaLays_ren:={
 mixed:=by kernel_rfl
 f129:=Tryz.func130.trans (congrArg some (by kernel_rfl))
 f171:=Tryz.func106.trans (congrArg some (by kernel_rfl))
 f243:=Tryz.func145.trans (congrArg some (by kernel_rfl))
 f246:=Tryz.func164.trans (congrArg some (by kernel_rfl))
 f283:=Tryz.func168.trans (congrArg some (by kernel_rfl))
 f284:=Tryz.func169.trans (congrArg some (by kernel_rfl))
 f285:=Tryz.func170.trans (congrArg some (by kernel_rfl))
 f286:=Tryz.func171.trans (congrArg some (by kernel_rfl))
 f317:=Tryz.func172.trans (congrArg some (by kernel_rfl))
 f318:=Tryz.func173.trans (congrArg some (by kernel_rfl))
 f319:=Tryz.func174.trans (congrArg some (by kernel_rfl))
 f320:=Tryz.func175.trans (congrArg some (by kernel_rfl))
 f337:=Tryz.func176.trans (congrArg some (by kernel_rfl))
 f338:=Tryz.func177.trans (congrArg some (by kernel_rfl))
 t0:=Tryz.underlying0
 a0:=Tryz.isAgg0
 z0:=Tryz.sizeOf0
 v0:=Tryz.zeroValue0
 t2:=Tryz.underlying2
 a2:=Tryz.isAgg2
 z2:=Tryz.sizeOf2
 v2:=Tryz.zeroValue2
 t3:=Tryz.underlying3
 a3:=Tryz.isAgg3
 z3:=Tryz.sizeOf3
 v3:=Tryz.zeroValue3
 t4:=Tryz.underlying4
 a4:=Tryz.isAgg4
 z4:=Tryz.sizeOf4
 v4:=Tryz.zeroValue4
 t5:=Tryz.underlying5
 a5:=Tryz.isAgg5
 z5:=Tryz.sizeOf5
 v5:=Tryz.zeroValue5
 t9:=Tryz.underlying9
 a9:=Tryz.isAgg9
 z9:=Tryz.sizeOf9
 v9:=Tryz.zeroValue9
 t20:=Tryz.underlying20
 a20:=Tryz.isAgg20
 z20:=Tryz.sizeOf20
 v20:=Tryz.zeroValue20
 t37:=Tryz.underlying100
 a37:=Tryz.isAgg100
 z37:=Tryz.sizeOf100
 v37:=Tryz.zeroValue100
 t46:=Tryz.underlying127
 a46:=Tryz.isAgg127
 z46:=Tryz.sizeOf127
 v46:=Tryz.zeroValue127
 t51:=Tryz.underlying142
 a51:=Tryz.isAgg142
 z51:=Tryz.sizeOf142
 v51:=Tryz.zeroValue142
 t53:=Tryz.underlying157
 a53:=Tryz.isAgg157
 z53:=Tryz.sizeOf157
 v53:=Tryz.zeroValue157
 t171:=Tryz.underlying200
 a171:=Tryz.isAgg200
 z171:=Tryz.sizeOf200
 v171:=Tryz.zeroValue200
 t173:=Tryz.underlying202
 a173:=Tryz.isAgg202
 z173:=Tryz.sizeOf202
 v173:=Tryz.zeroValue202
 t212:=Tryz.underlying205
 a212:=Tryz.isAgg205
 z212:=Tryz.sizeOf205
 v212:=Tryz.zeroValue205
 t213:=Tryz.underlying206
 a213:=Tryz.isAgg206
 z213:=Tryz.sizeOf206
 t232:=Tryz.underlying207
 a232:=Tryz.isAgg207
 z232:=Tryz.sizeOf207
 v232:=Tryz.zeroValue207
 t233:=Tryz.underlying208
 a233:=Tryz.isAgg208
 z233:=Tryz.sizeOf208
 v233:=Tryz.zeroValue208
 g17:=by kernel_rfl
 g18:=by kernel_rfl
 g19:=by kernel_rfl
 i0:=by kernel_rfl
 i2:=by kernel_rfl
 i3:=by kernel_rfl
 i4:=by kernel_rfl
 i5:=by kernel_rfl
 i9:=by kernel_rfl
 i20:=by kernel_rfl
 i37:=by kernel_rfl
 i46:=by kernel_rfl
 i51:=by kernel_rfl
 i53:=by kernel_rfl
 i171:=by kernel_rfl
 i173:=by kernel_rfl
 i212:=by kernel_rfl
 i232:=by kernel_rfl
 i233:=by kernel_rfl
 m17:=by kernel_rfl
 m18:=by kernel_rfl
 m19:=by kernel_rfl }
theorem taben_glob {w:World} {S:Nat→Prop} (hg:GlobOK w S):Lib.TabIs Tryz.prog w "internal/strconv.uint64pow10" .u64 Lib.pow10Tab:=by
 have hn:Tryz.prog.globalNamed "internal/strconv.uint64pow10" = some 4:=by kernel_rfl
 obtain ⟨h1,o,h2,h3⟩:=hg.1 (4,isCells 20) (by simp [Globs.op])
 obtain ⟨cs,t,fz,h4,h5,h6⟩:=isCells_at h2 h3
 unfold Lib.TabIs World.var?
 rw [hn]
 rw [Option.bind_some,h4]
 refine congrArg some ?_
 obtain ⟨gl,hgl0,hgl1⟩:∃ gl:List D,(4,gl)∈Globs.gl∧gl=Lib.pow10Tab.map fun z=>D.v (.int .u64 z):=⟨_,List.mem_cons_of_mem _ (List.mem_cons_of_mem _ List.mem_cons_self),by kernel_rfl⟩
 have hlt:Lib.pow10Tab.length=20:=by kernel_rfl
 have hl:gl.length=20:=by rw [hgl1,List.length_map,hlt]
 have hv:∀ j,j < 20→gl.getD j default=.v (.int .u64 (Lib.pow10Tab.getD j 0)):=fun j hj=>by
  have h1:j < Lib.pow10Tab.length:=by rw [hlt]; exact hj
  rw [hgl1]
  simp only [List.getD,List.getElem?_map,List.getElem?_eq_getElem h1,Option.map_some,Option.getD_some]
 obtain ⟨vals,v1,v2⟩:=hg.2 _ hgl0
 apply Array.ext
 ·rw [h5]; rfl
 ·intro j hj1 hj2
  rw [h5] at hj1
  have e1:=(v1 j (by rw [hl]; exact hj1)).2
  rw [Nat.zero_add,h6 j,Array.getElem?_eq_getElem (by omega)] at e1
  have e2:=v2 j (by rw [hl]; exact hj1)
  rw [hv j hj1] at e2
  have e3:vals j=.int .u64 (Lib.pow10Tab.getD j 0):=rel_scalar (w:=w) (S:=S) (μ:=fun _=>none) (ν:=fun _=>false) rfl (.d e2)
  rw [Option.some.inj e1,e3]
  have h1:j < Lib.pow10Tab.length:=by rw [hlt]; exact hj1
  simp only [List.getD,List.getElem?_eq_getElem h1,Option.getD_some,List.getElem_toArray,List.getElem_map]
def itoaS (n:Int):ByteArray:=⟨(Lib.itoa n).toArray⟩
theorem strconv_Itoa_fn (n:Int) (h:(-9223372036854775808≤n∧n≤9223372036854775807)):FnA Tryz.prog 106 [iv n] [] (sv (itoaS n)) []:=by
 refine FnA.pure (by kernel_rfl) (fun w S μ vs hS hg hr=>?_)
 obtain ⟨v,rfl⟩:∃ v,vs = #[v]:=by
  have:=(hr fun _=>false).1
  match vs,this with
  | ⟨[v]⟩,_=>exact ⟨v,rfl⟩
 have hv:Rel w S μ (fun _=>false) (iv n) v:=by simpa using (hr fun _=>false).2 0 (by simp)
 obtain rfl:=rel_scalar rfl hv
 refine ⟨.string (itoaS n),?_,fun _ _ _ _=>rel_v rfl⟩
 refine (Any.strconv_Itoa Tryz.itoaLays n h.1 h.2 w (taben_glob hg)).mono ?_
 rintro e w' ⟨rfl,k,os,rfl⟩
 refine ⟨rfl,rfl,rfl,rfl,by simp [Go.Sort.grow,World.drewN],fun q hq=>?_⟩
 show (w.heap++os)[q]? = _
 rw [Array.getElem?_append_left hq]
noncomputable def strconv_Itoa_k (n:Int):Ctr ByteArray:=⟨Tryz.prog,106,[iv n],fun x=>sv x,true,itoaS n,(-9223372036854775808≤n∧n≤9223372036854775807),fun h=>strconv_Itoa_fn n h,fun _=>True,trivial⟩
end Go.Proofs.YtgibnoahjhfmcaaGreatDoor
