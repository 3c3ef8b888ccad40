/- A function by hand. -/
import Derived.Test.YtgibnoahjhfmcaaGreatDoorRa1
import Derived.WalkKit
import Derived.Shelf.Strings.Fields
import Derived.Shelf.Lay
import Derived.Ground.NamesProg
import Derived.Test.YtgibnoahjhfmcaaGreatDoorProg
namespace Go.Proofs.YtgibnoahjhfmcaaGreatDoor
open Go Go.Av Go.Shelf Go.RowKit
set_option linter.unusedSimpArgs false
set_option linter.unusedVariables false
set_option maxHeartbeats 1000000
set_option maxRecDepth 100000
def Tryz.fieldsLays_ren:Go.Shelf.Ren:=⟨fun | 157=>38 | 229=>80 | 199=>81 | 261=>115 | 311=>152 | 312=>153 | n=>n,fun | 9=>9 | 31=>32 | 3=>3 | 5=>5 | 4=>4 | 119=>111 | 0=>0 | 40=>113 | 152=>139 | 21=>21 | 154=>141 | 51=>142 | 141=>144 | 196=>176 | 193=>173 | 198=>179 | 49=>177 | 194=>174 | 201=>182 | 226=>194 | 46=>127 | 227=>195 | n=>n,fun | 0=>0 | 6=>2 | n=>n⟩
theorem Tryz.fieldsLays:Go.Proofs.Lays.n157 Tryz.prog Tryz.fieldsLays_ren:={
 mixed:=by kernel_rfl
 f157:=Tryz.func38.trans (congrArg some (by kernel_rfl))
 f199:=Tryz.func81.trans (congrArg some (by kernel_rfl))
 f229:=Tryz.func80.trans (congrArg some (by kernel_rfl))
 f261:=Tryz.func115.trans (congrArg some (by kernel_rfl))
 f311:=Tryz.func152.trans (congrArg some (by kernel_rfl))
 f312:=Tryz.func153.trans (congrArg some (by kernel_rfl))
 t0:=Tryz.underlying0
 a0:=Tryz.isAgg0
 z0:=Tryz.sizeOf0
 v0:=Tryz.zeroValue0
 t3:=Tryz.underlying3
 a3:=Tryz.isAgg3
 z3:=Tryz.sizeOf3
 v3:=Tryz.zeroValue3
 t4:=Tryz.underlying4
 a4:=Tryz.isAgg4
 z4:=Tryz.sizeOf4
 v4:=Tryz.zeroValue4
 t5:=Tryz.underlying5
 a5:=Tryz.isAgg5
 z5:=Tryz.sizeOf5
 v5:=Tryz.zeroValue5
 t9:=Tryz.underlying9
 a9:=Tryz.isAgg9
 z9:=Tryz.sizeOf9
 v9:=Tryz.zeroValue9
 t21:=Tryz.underlying21
 a21:=Tryz.isAgg21
 z21:=Tryz.sizeOf21
 v21:=Tryz.zeroValue21
 t31:=Tryz.underlying32
 a31:=Tryz.isAgg32
 z31:=Tryz.sizeOf32
 v31:=Tryz.zeroValue32
 t40:=Tryz.underlying113
 a40:=Tryz.isAgg113
 z40:=Tryz.sizeOf113
 v40:=Tryz.zeroValue113
 t46:=Tryz.underlying127
 a46:=Tryz.isAgg127
 z46:=Tryz.sizeOf127
 v46:=Tryz.zeroValue127
 t49:=Tryz.underlying177
 a49:=Tryz.isAgg177
 z49:=Tryz.sizeOf177
 v49:=Tryz.zeroValue177
 t51:=Tryz.underlying142
 a51:=Tryz.isAgg142
 z51:=Tryz.sizeOf142
 v51:=Tryz.zeroValue142
 t119:=Tryz.underlying111
 a119:=Tryz.isAgg111
 z119:=Tryz.sizeOf111
 t141:=Tryz.underlying144
 a141:=Tryz.isAgg144
 z141:=Tryz.sizeOf144
 v141:=Tryz.zeroValue144
 t152:=Tryz.underlying139
 a152:=Tryz.isAgg139
 z152:=Tryz.sizeOf139
 v152:=Tryz.zeroValue139
 t154:=Tryz.underlying141
 a154:=Tryz.isAgg141
 z154:=Tryz.sizeOf141
 v154:=Tryz.zeroValue141
 t193:=Tryz.underlying173
 a193:=Tryz.isAgg173
 z193:=Tryz.sizeOf173
 v193:=Tryz.zeroValue173
 t194:=Tryz.underlying174
 a194:=Tryz.isAgg174
 z194:=Tryz.sizeOf174
 v194:=Tryz.zeroValue174
 t196:=Tryz.underlying176
 a196:=Tryz.isAgg176
 z196:=Tryz.sizeOf176
 v196:=Tryz.zeroValue176
 t198:=Tryz.underlying179
 a198:=Tryz.isAgg179
 z198:=Tryz.sizeOf179
 v198:=Tryz.zeroValue179
 t201:=Tryz.underlying182
 a201:=Tryz.isAgg182
 z201:=Tryz.sizeOf182
 v201:=Tryz.zeroValue182
 t226:=Tryz.underlying194
 a226:=Tryz.isAgg194
 z226:=Tryz.sizeOf194
 v226:=Tryz.zeroValue194
 t227:=Tryz.underlying195
 a227:=Tryz.isAgg195
 z227:=Tryz.sizeOf195
 v227:=Tryz.zeroValue195
 g0:=by kernel_rfl
 g6:=by kernel_rfl }
noncomputable def fieldsP (s:ByteArray):List ByteArray:=(Lib.fields s.data.toList).map fun l=>⟨l.toArray⟩
def asciiP (s:ByteArray):Prop:=s.size < 100000∧∀ b∈s.data.toList,b.toNat < 128
instance (s:ByteArray):Decidable (asciiP s):=by unfold asciiP; infer_instance
theorem cntF_le:∀ (l:List UInt8) (b:Bool),Lib.cntF b l≤l.length
 | [],_=>Nat.le_refl _
 | c :: l,b=>by
  have:=cntF_le l (Lib.isSp c)
  simp only [Lib.cntF,List.length_cons]
  split <;> omega
theorem tabsp_glob {w:World} {S:Nat→Prop} (hg:GlobOK w S):Lib.TabIs Tryz.prog w "strings.asciiSpace" .u8 Lib.asciiSpaceTab:=by
 have hn:Tryz.prog.globalNamed "strings.asciiSpace" = some 0:=by kernel_rfl
 obtain ⟨h1,o,h2,h3⟩:=hg.1 (0,isCells 256) (by simp [Globs.op])
 obtain ⟨cs,t,fz,h4,h5,h6⟩:=isCells_at h2 h3
 unfold Lib.TabIs World.var?
 rw [hn]
 rw [Option.bind_some,h4]
 refine congrArg some ?_
 obtain ⟨gl,hgl0,hgl1⟩:∃ gl:List D,(0,gl)∈Globs.gl∧gl=Lib.asciiSpaceTab.map fun z=>D.v (.int .u8 z):=⟨_,List.mem_cons_self,by kernel_rfl⟩
 have hlt:Lib.asciiSpaceTab.length=256:=by kernel_rfl
 have hl:gl.length=256:=by rw [hgl1,List.length_map,hlt]
 have hv:∀ j,j < 256→gl.getD j default=.v (.int .u8 (Lib.asciiSpaceTab.getD j 0)):=fun j hj=>by
  have h1:j < Lib.asciiSpaceTab.length:=by rw [hlt]; exact hj
  rw [hgl1]
  simp only [List.getD,List.getElem?_map,List.getElem?_eq_getElem h1,Option.map_some,Option.getD_some]
 obtain ⟨vals,v1,v2⟩:=hg.2 _ hgl0
 apply Array.ext
 ·rw [h5]; rfl
 ·intro j hj1 hj2
  rw [h5] at hj1
  have e1:=(v1 j (by rw [hl]; exact hj1)).2
  rw [Nat.zero_add,h6 j,Array.getElem?_eq_getElem (by omega)] at e1
  have e2:=v2 j (by rw [hl]; exact hj1)
  rw [hv j hj1] at e2
  have e3:vals j=.int .u8 (Lib.asciiSpaceTab.getD j 0):=rel_scalar (w:=w) (S:=S) (μ:=fun _=>none) (ν:=fun _=>false) rfl (.d e2)
  rw [Option.some.inj e1,e3]
  have h1:j < Lib.asciiSpaceTab.length:=by rw [hlt]; exact hj1
  simp only [List.getD,List.getElem?_eq_getElem h1,Option.getD_some,List.getElem_toArray,List.getElem_map]
theorem strings_Fields_fn (s:ByteArray) (h:asciiP s):FnA Tryz.prog 38 [sv s] [] (lv strC (fieldsP s)) []:=by
 refine ⟨by kernel_rfl,fun w S μ vs hS hg hr _ _=>?_⟩
 obtain ⟨v,rfl⟩:∃ v,vs = #[v]:=by
  have:=(hr fun _=>false).1
  match vs,this with
  | ⟨[v]⟩,_=>exact ⟨v,rfl⟩
 have hv:Rel w S μ (fun _=>false) (sv s) v:=by simpa using (hr fun _=>false).2 0 (by simp)
 obtain rfl:=rel_scalar rfl hv
 have hasc:∀ (j:Nat) b,s.data.toList[j]? = some b→b.toNat < 128:=fun j b hj=>h.2 b (List.mem_of_getElem? hj)
 have hlen:(Lib.fields s.data.toList).length≤100000:=by
  rw [Lib.fields_length]
  have h1:=cntF_le s.data.toList true
  have h2:=h.1
  have h3:s.data.toList.length=s.size:=rfl
  omega
 refine (Any.strings_Fields Tryz.fieldsLays (by kernel_rfl) (by kernel_rfl) s w (by have:=h.1; omega) hasc (tabsp_glob hg)).mono ?_
 rintro e w' ⟨rfl,rfl⟩
 generalize hL:(Lib.fields s.data.toList)=L at hlen ⊢
 have hc:∀ i,i < L.length→(w.alloc (.cells (L.map fun l=>Value.string ⟨l.toArray⟩).toArray 9)).cell? ⟨w.heap.size,i,none⟩=some (.string ⟨(L.getD i []).toArray⟩):=fun i hi=>by
  have e1:=World.cell?_alloc_new w (L.map fun l=>Value.string ⟨l.toArray⟩).toArray 9 i
  rw [e1]
  simp only [List.getElem?_toArray,List.getElem?_map,List.getElem?_eq_getElem hi,Option.map_some,List.getD,Option.getD_some]
 have hb:=(Below.refl w.heap.size w).alloc (Nat.le_refl _) (.cells (L.map fun l=>Value.string ⟨l.toArray⟩).toArray 9)
 refine ⟨_,fun b=>S b∨b=w.heap.size,fun _=>none,rfl,⟨fun ν=>rel_d.2 ?_,fun κ b hb=>(by cases hb),fun κ κ' b b' g c c' hb=>(by cases hb),fun κ b g c hb=>(by cases hb),fun _ h=>.inl h,fun b h=>h.imp id (fun h=>.inl (Nat.le_of_eq h.symm)),fun b hb'=>?_,⟨hb.os,hb.tape,hb.output,hb.size,fun b h _=>hb.block b h⟩⟩⟩
 ·have hfp:fieldsP s=L.map fun l=>⟨l.toArray⟩:=by rw [fieldsP,hL]
  rw [hfp]
  have e0:(L.map fun l=>(⟨l.toArray⟩:ByteArray)).length=L.length:=by simp
  unfold slD
  rw [e0]
  refine .sl L.length _ ⟨w.heap.size,0,none⟩ L.length 1 (fun i j=>.string ⟨(L.getD i []).toArray⟩) (Nat.le_refl _) (by unfold maxLen; omega) (.inr rfl) (fun i hi=>rfl) (fun i j hi hj=>⟨.inr rfl,?_⟩) (fun i j hi hj=>?_)
  ·have:j=0:=by omega
   subst this
   simpa using hc i hi
  ·have:j=0:=by omega
   subst this
   have:((L.map fun l=>(⟨l.toArray⟩:ByteArray)).getD i default)=⟨(L.getD i []).toArray⟩:=by simp [List.getD,hi]
   rw [this]
   exact .v _ rfl
 ·have h9:∀ o,(w.alloc o).heap.size=w.heap.size+1:=fun o=>Array.size_push _
  rcases hb' with h | h
  ·exact Nat.lt_of_lt_of_le (hS b h) hb.size
  ·exact Nat.lt_of_le_of_lt (Nat.le_of_eq h) (by rw [h9]; exact Nat.lt_succ_self _)
noncomputable def strings_Fields_k (s:ByteArray):Ctr (List ByteArray):=⟨Tryz.prog,38,[sv s],fun x=>lv strC x,false,fieldsP s,asciiP s,fun h=>strings_Fields_fn s h,fun _=>True,trivial⟩
end Go.Proofs.YtgibnoahjhfmcaaGreatDoor
