/- The evaluator of operations that leave the world alone. -/
import Derived.Test.YtilbddpghnnmhaaGreatDoorAvE
set_option linter.unusedSimpArgs false
set_option linter.unusedVariables false
namespace Go.Av
open Go
set_option linter.unusedSectionVars false
variable [qz]
def zfU (place:Nat→Option (Nat × Nat)) (cells:List AV):List (Nat × AV)→Option (List AV)
 | []=>some cells
 | (i,v) :: rest=>match place i,v.cells with
  | some (off,size),some cs=>bif Nat.beq cs.length size&&Nat.ble (off+size) cells.length then zfU place (cells.take off++cs++cells.drop (off+size)) rest else none
  | _,_=>none
theorem zmK (off:Nat):∀ (l:List Value) (n:Nat) (cells:Array Value),(l.zipIdx n).foldl (fun cs (p:Value × Nat)=>cs.setIfInBounds (off+p.2) p.1) cells =
  (if off+n+l.length≤cells.size then (cells.toList.take (off+n)++l++cells.toList.drop (off+n+l.length)).toArray else (l.zipIdx n).foldl (fun cs (p:Value × Nat)=>cs.setIfInBounds (off+p.2) p.1) cells)
 | [],n,cells=>by simp
 | x :: l,n,cells=>by
  split
  ·rename_i h
   simp only [List.zipIdx_cons,List.foldl_cons]
   rw [zmK off l (n+1) (cells.setIfInBounds (off+n) x),if_pos (by simp at h ⊢; omega)]
   apply congrArg List.toArray
   have e:=list_seg_step cells.toList (off+n) x l (by simp at h ⊢; omega)
   simpa [Array.toList_setIfInBounds,Nat.add_assoc] using e
  ·rfl
section
variable {P : Program} {w : World} {S : Nat → Prop} {μ : Mu} {ν : Nat → Bool}
def kU (w:World) (S:Nat→Prop) (μ:Mu) (ν:Nat→Bool) (cs:List AV) (vs:List Value):Prop:=vs.length=cs.length∧∀ i,i < cs.length→Rel w S μ ν (cs.getD i default) (vs.getD i undef)
theorem kU.append {cs ds:List AV} {xs ys:List Value} (h:kU w S μ ν cs xs) (k:kU w S μ ν ds ys):kU w S μ ν (cs++ds) (xs++ys):=by
 refine ⟨by simp [h.1,k.1],fun i hi=>?_⟩
 by_cases hi':i < cs.length
 ·have e1:(cs++ds).getD i default=cs.getD i default:=by simp [List.getD,List.getElem?_append_left hi']
  have e2:(xs++ys).getD i undef=xs.getD i undef:=by simp [List.getD,List.getElem?_append_left (by rw [h.1]; exact hi':i < xs.length)]
  rw [e1,e2]
  exact h.2 i hi'
 ·have e1:(cs++ds).getD i default=ds.getD (i - cs.length) default:=by simp [List.getD,List.getElem?_append_right (Nat.le_of_not_lt hi')]
  have e2:(xs++ys).getD i undef=ys.getD (i - cs.length) undef:=by
   simp only [List.getD]
   rw [List.getElem?_append_right (by rw [h.1]; omega),h.1]
  rw [e1,e2]
  exact k.2 _ (by simp at hi; omega)
theorem kU.take {cs:List AV} {xs:List Value} (h:kU w S μ ν cs xs) (n:Nat):kU w S μ ν (cs.take n) (xs.take n):=by
 refine ⟨by simp [h.1],fun i hi=>?_⟩
 simp only [List.length_take] at hi
 have e1:(cs.take n).getD i default=cs.getD i default:=by simp [List.getD,(by omega:i < n)]
 have e2:(xs.take n).getD i undef=xs.getD i undef:=by simp [List.getD,(by omega:i < n)]
 rw [e1,e2]
 exact h.2 i (by omega)
theorem kU.drop {cs:List AV} {xs:List Value} (h:kU w S μ ν cs xs) (n:Nat):kU w S μ ν (cs.drop n) (xs.drop n):=by
 refine ⟨by simp [h.1],fun i hi=>?_⟩
 simp only [List.length_drop] at hi
 have e1:(cs.drop n).getD i default=cs.getD (n+i) default:=by simp [List.getD]
 have e2:(xs.drop n).getD i undef=xs.getD (n+i) undef:=by simp [List.getD]
 rw [e1,e2]
 exact h.2 _ (by omega)
theorem getD_toList (vs:Array Value) (i:Nat):vs.getD i undef=vs.toList.getD i undef:=by
 simp [Array.getD_eq_getD_getElem?,List.getD]
theorem Kt {x:AV} {v:Value} {cs:List AV} (hc:x.cells=some cs) (h:Rel w S μ ν x v):kU w S μ ν cs v.cells.toList:=by
 obtain ⟨h1,h2⟩:=zpd hc h
 exact ⟨by simpa using h1,fun i hi=>by rw [← getD_toList]; exact h2 i hi⟩
theorem Fl (place:Nat→Option (Nat × Nat)):∀ (ps:List (Nat × AV)) (qs:List (Nat × Value)) (cells r:List AV) (cur:Array Value),kU w S μ ν cells cur.toList →
  qs.length=ps.length→(∀ (i:Nat) (p:Nat × AV) (q:Nat × Value),ps[i]? = some p→qs[i]? = some q→p.1=q.1∧Rel w S μ ν p.2 q.2)→zfU place cells ps=some r→∃ cur',Instr.fill place cur qs=some cur'∧kU w S μ ν r cur'.toList
 | [],[],cells,r,cur,h,_,_,hf=>by
  simp only [zfU,Option.some.injEq] at hf
  subst hf
  exact ⟨cur,rfl,h⟩
 | [],_ :: _,_,_,_,_,hl,_,_=>by simp at hl
 | _ :: _,[],_,_,_,_,hl,_,_=>by simp at hl
 | (i,v) :: ps,(i',u) :: qs,cells,r,cur,h,hl,hp,hf=>by
  obtain ⟨rfl,hr⟩:i=i'∧Rel w S μ ν v u:=hp 0 (i,v) (i',u) rfl rfl
  simp only [zfU] at hf
  cases hpl:place i with
  | none=>rw [hpl] at hf; cases hf
  | some os =>
   obtain ⟨off,size⟩:=os
   cases hc:v.cells with
   | none=>rw [hpl,hc] at hf; cases hf
   | some cs =>
    rw [hpl,hc] at hf
    simp only at hf
    cases hb:(Nat.beq cs.length size&&Nat.ble (off+size) cells.length) with
    | false=>rw [hb] at hf; cases hf
    | true =>
     rw [hb] at hf
     simp only [Bool.and_eq_true] at hb
     have hsz:=Nat.eq_of_beq_eq_true hb.1
     have hle:=Nat.le_of_ble_eq_true hb.2
     have hcr:=Kt hc hr
     have hus:u.cells.size=size:=by have:=hcr.1; simp at this; omega
     have hcs:cur.size=cells.length:=by have:=h.1; simpa using this
     simp only [Instr.fill,hpl]
     have hcond:¬ (decide (u.cells.size≠size)||decide (off+u.cells.size > cur.size))=true:=by simp; omega
     rw [if_neg hcond]
     have e:(u.cells.zipIdx.foldl (fun cs (p:Value × Nat)=>cs.setIfInBounds (off+p.2) p.1) cur)=(cur.toList.take off++u.cells.toList++cur.toList.drop (off+size)).toArray:=by
      rw [← Array.foldl_toList,Array.toList_zipIdx,zmK off u.cells.toList 0 cur,if_pos (by simp; omega)]
      simp [hus]
     refine Fl place ps qs _ r _ ?_ (by simpa using hl) (fun j p q h1 h2=>hp (j+1) p q (by simpa using h1) (by simpa using h2)) hf
     show kU w S μ ν _ (Array.toList (u.cells.zipIdx.foldl (fun cs (p:Value × Nat)=>cs.setIfInBounds (off+p.2) p.1) cur))
     rw [e]
     exact ((h.take off).append hcr).append (h.drop (off+size))
end
end Go.Av
