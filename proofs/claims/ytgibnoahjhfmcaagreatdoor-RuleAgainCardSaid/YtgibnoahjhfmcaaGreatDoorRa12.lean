/- A function by hand. -/
import Derived.Test.YtgibnoahjhfmcaaGreatDoorRa11
import Derived.WalkKit
import Derived.Shelf.Strings.OnBuilder
import Derived.Shelf.Lay
import Derived.Ground.NamesProg
import Derived.Test.YtgibnoahjhfmcaaGreatDoorProg
namespace Go.Proofs.YtgibnoahjhfmcaaGreatDoor
open Go Go.Av Go.Shelf Go.RowKit
set_option linter.unusedSimpArgs false
set_option linter.unusedVariables false
set_option maxHeartbeats 1000000
set_option maxRecDepth 100000
def Tryz.joinLays_ren:Go.Shelf.Ren:=⟨fun | 156=>33 | 165=>70 | 166=>71 | 169=>72 | 240=>109 | 241=>110 | 276=>147 | 277=>148 | n=>n,fun | 31=>32 | 9=>9 | 3=>3 | 4=>4 | 0=>0 | 20=>20 | 72=>102 | 76=>106 | 70=>99 | 37=>100 | 75=>105 | 127=>138 | 164=>168 | 5=>5 | 80=>80 | n=>n,fun | n=>n⟩
theorem Tryz.joinLays:Go.Proofs.Lays.n156 Tryz.prog Tryz.joinLays_ren:={
 mixed:=by kernel_rfl
 f156:=Tryz.func33.trans (congrArg some (by kernel_rfl))
 f165:=Tryz.func70.trans (congrArg some (by kernel_rfl))
 f166:=Tryz.func71.trans (congrArg some (by kernel_rfl))
 f169:=Tryz.func72.trans (congrArg some (by kernel_rfl))
 f240:=Tryz.func109.trans (congrArg some (by kernel_rfl))
 f241:=Tryz.func110.trans (congrArg some (by kernel_rfl))
 f276:=Tryz.func147.trans (congrArg some (by kernel_rfl))
 f277:=Tryz.func148.trans (congrArg some (by kernel_rfl))
 t0:=Tryz.underlying0
 a0:=Tryz.isAgg0
 z0:=Tryz.sizeOf0
 v0:=Tryz.zeroValue0
 t3:=Tryz.underlying3
 a3:=Tryz.isAgg3
 z3:=Tryz.sizeOf3
 v3:=Tryz.zeroValue3
 t4:=Tryz.underlying4
 a4:=Tryz.isAgg4
 z4:=Tryz.sizeOf4
 v4:=Tryz.zeroValue4
 t9:=Tryz.underlying9
 a9:=Tryz.isAgg9
 z9:=Tryz.sizeOf9
 v9:=Tryz.zeroValue9
 t20:=Tryz.underlying20
 a20:=Tryz.isAgg20
 z20:=Tryz.sizeOf20
 v20:=Tryz.zeroValue20
 t31:=Tryz.underlying32
 a31:=Tryz.isAgg32
 z31:=Tryz.sizeOf32
 v31:=Tryz.zeroValue32
 t37:=Tryz.underlying100
 a37:=Tryz.isAgg100
 z37:=Tryz.sizeOf100
 v37:=Tryz.zeroValue100
 t70:=Tryz.underlying99
 a70:=Tryz.isAgg99
 z70:=Tryz.sizeOf99
 v70:=Tryz.zeroValue99
 t72:=Tryz.underlying102
 a72:=Tryz.isAgg102
 z72:=Tryz.sizeOf102
 v72:=Tryz.zeroValue102
 t75:=Tryz.underlying105
 a75:=Tryz.isAgg105
 z75:=Tryz.sizeOf105
 v75:=Tryz.zeroValue105
 t76:=Tryz.underlying106
 a76:=Tryz.isAgg106
 z76:=Tryz.sizeOf106
 v76:=Tryz.zeroValue106
 t127:=Tryz.underlying138
 a127:=Tryz.isAgg138
 z127:=Tryz.sizeOf138
 v127:=Tryz.zeroValue138
 t164:=Tryz.underlying168
 a164:=Tryz.isAgg168
 z164:=Tryz.sizeOf168
 v164:=Tryz.zeroValue168 }
theorem Tryz.joinX:Builder.Extra Tryz.prog Tryz.joinLays_ren where
 sizeBuilder:=by kernel_rfl
 liesBuilder:=by kernel_rfl
 t5:=Tryz.underlying5
 a5:=Tryz.isAgg5
 z5:=Tryz.sizeOf5
 v5:=Tryz.zeroValue5
 infoByte:=by kernel_rfl
 cellsByte:=by kernel_rfl
 sizeByte:=by kernel_rfl
 neB5:=by decide
def joinS (l:List ByteArray) (sep:ByteArray):ByteArray:=⟨(Lib.join (l.map (·.data.toList)) sep.data.toList).toArray⟩
theorem strings_Join_fn (elems:List ByteArray) (sep:ByteArray) (h:elems.length≤1000000∧(joinS elems sep).size≤1000000000):FnA Tryz.prog 33 [lv strC elems,sv sep] [] (sv (joinS elems sep)) []:=by
 have hlen:(Lib.join (elems.map (·.data.toList)) sep.data.toList).length≤140737488355328:=Nat.le_trans h.2 (by decide)
 refine FnA.pure (by kernel_rfl) (fun w S μ vs hS hg hr=>?_)
 obtain ⟨v,u,rfl⟩:∃ v u,vs = #[v,u]:=by
  have:=(hr fun _=>false).1
  match vs,this with
  | ⟨[v,u]⟩,_=>exact ⟨v,u,rfl⟩
 have hv:Rel w S μ (fun _=>false) (lv strC elems) v:=by simpa using (hr fun _=>false).2 0 (by simp)
 have hu:Rel w S μ (fun _=>false) (sv sep) u:=by simpa using (hr fun _=>false).2 1 (by simp)
 obtain rfl:=rel_scalar rfl hu
 refine ⟨.string (joinS elems sep),?_,fun _ _ _ _=>rel_v rfl⟩
 have hrd:Rd w S (slD strC elems) v:=rel_d.1 hv
 unfold slD at hrd
 generalize hf:(fun i=>strC (elems.getD i default))=f at hrd
 generalize hn:elems.length=n at hrd
 cases hrd with
 | nil =>
  obtain rfl:=List.eq_nil_of_length_eq_zero hn
  refine (Any.strings_Join_none Tryz.joinLays Tryz.joinX none 0 sep w).mono ?_
  rintro e w' ⟨rfl,rfl⟩
  exact ⟨rfl,Below.refl _ _⟩
 | sl _ _ a cap k vals hcp hm hs hk hcell hh =>
  by_cases h0:n=0
  ·subst h0
   obtain rfl:=List.eq_nil_of_length_eq_zero hn
   refine (Any.strings_Join_none Tryz.joinLays Tryz.joinX (some a) cap sep w).mono ?_
   rintro e w' ⟨rfl,rfl⟩
   exact ⟨rfl,Below.refl _ _⟩
  ·have hk1:k=1:=by rw [← hk 0 (by omega),← hf]; rfl
   subst hk1
   have hsp:a.spot=none:=by
    rcases hs with hs | hs
    ·omega
    ·exact hs
   obtain ⟨blk,off,spot⟩:=a
   obtain rfl:spot=none:=hsp
   subst hn
   refine Any.strings_Join Tryz.joinLays Tryz.joinX blk off cap elems sep w (fun j x hj=>?_) (hS _ (hcell 0 0 (by omega) (by omega)).1) (by omega) (by omega) hlen
   have hjl:j < elems.length:=(List.getElem?_eq_some_iff.1 hj).1
   have q1:=(hcell j 0 hjl (by omega)).2
   have q2:Rd w S (.v (.string (elems.getD j default))) (vals j 0):=by
    have:=hh j 0 hjl (by omega)
    rw [← hf] at this
    exact this
   have q3:vals j 0=.string x:=by
    have e:(.string (elems.getD j default):Value)=.string x:=by simp [List.getD,hj]
    rw [e] at q2
    exact rel_scalar (w:=w) (S:=S) (μ:=fun _=>none) (ν:=fun _=>false) rfl (.d q2)
   rw [q3,show off+(j * 1+0)=off+j by omega] at q1
   exact q1
noncomputable def strings_Join_k (elems:List ByteArray) (sep:ByteArray):Ctr ByteArray:=⟨Tryz.prog,33,[lv strC elems,sv sep],fun x=>sv x,true,joinS elems sep,elems.length≤1000000∧(joinS elems sep).size≤1000000000,fun h=>strings_Join_fn elems sep h,fun _=>True,trivial⟩
end Go.Proofs.YtgibnoahjhfmcaaGreatDoor
