/- The evaluator's soundness. -/
import Derived.Test.YtilbddpghnnmhaaGreatDoorAvG
import Derived.Lib.SliceRun
import Derived.WalkSpells
set_option linter.unusedSimpArgs false
set_option linter.unusedVariables false
namespace Go.Av
open Go
set_option linter.unusedSectionVars false
variable [qz]
section
variable {P : Program} {T : List (Nat × TI)} {w : World} {S : Nat → Prop} {μ : Mu} {ν : Nat → Bool}
theorem qj {k:IntKind} {n:Int} {x:Value} (h:Rel w S μ ν (.d (.v (.int k n))) x):x=.int k n:=kw rfl h
theorem JD {b:Bool} {x:Value} (h:Rel w S μ ν (.d (.v (.bool b))) x):x=.bool b:=kw rfl h
theorem zmT (hT:TOk P T) {t f:Nat} {x v:AV} {ro:List (Nat × Blk)} {ob:Ob} {u:Value} (h:zeT T t f x=some (v,ro,ob)) (hr:Rel w S μ ν x u):∃ y,(Instr.fieldAt t u f).run P w=.ok y w∧Rel w S μ ν v y:=by
 unfold zeT at h
 cases hf:zaF T t f with
 | none=>rw [hf] at h; cases h
 | some o =>
  rw [hf] at h
  cases x <;> try (cases h; done)
  ·simp only [ok,Option.some.injEq,Prod.mk.injEq] at h
   obtain ⟨rfl,-,-⟩:=h
   cases hr with
   | ptr hμ=>exact ⟨_,WK hT hf _ _,.ptr hμ⟩
  ·simp only [ok,Option.some.injEq,Prod.mk.injEq] at h
   obtain ⟨rfl,-,-⟩:=h
   cases hr with
   | elt hμ=>exact ⟨_,WK hT hf _ _,by rw [Nat.add_assoc]; exact .elt hμ⟩
  ·simp only [ok,Option.some.injEq,Prod.mk.injEq] at h
   obtain ⟨rfl,-,-⟩:=h
   cases hr with
   | ref vals hcell h =>
    rename_i cs _ _
    refine ⟨_,WK hT hf _ _,.ref (fun j=>vals (o+j)) (fun j hj=>?_) (fun j hj=>?_)⟩
    ·rw [Nat.add_assoc]; exact hcell (o+j) (by simp at hj; omega)
    ·have e:(cs.drop o).getD j default=cs.getD (o+j) default:=by simp [List.getD]
     rw [e]
     exact h (o+j) (by simp at hj; omega)
theorem znw (hT:TOk P T) {t f:Nat} {x v:AV} {ro:List (Nat × Blk)} {ob:Ob} {u:Value} (h:zkG T t f x=some (v,ro,ob)) (hr:Rel w S μ ν x u):∃ y,(Instr.field t u f).run P w=.ok y w∧Rel w S μ ν v y:=by
 have hag:∀ cs,x.aggCells=some cs→x.cells=some cs∧∃ vs,u=.agg vs:=fun cs he=>by
  unfold AV.aggCells at he
  split at he
  ·simp only [Option.some.injEq] at he
   subst he
   cases vp.1 hr with
   | agg=>exact ⟨rfl,_,rfl⟩
  ·simp only [Option.some.injEq] at he
   subst he
   cases hr with
   | ag=>exact ⟨rfl,_,rfl⟩
  ·cases he
 unfold zkG at h
 cases hl:look T t with
 | none=>rw [hl] at h; cases h
 | some i =>
  obtain ⟨kind,size,bytes,zero,eq⟩:=i
  cases hc0:x.aggCells with
  | none=>rw [hl,hc0] at h; cases kind <;> cases h
  | some cs =>
   rw [hl,hc0] at h
   obtain ⟨hc,vs,rfl⟩:=hag cs hc0
   cases kind <;> try (cases h; done)
   rename_i fs
   simp only at h
   obtain ⟨ti,z,F⟩:=jo (hT t _ hl)
   obtain ⟨gs,hu,hgs⟩:=XK F.kind
   cases hf:fs[f]? with
   | none=>rw [hf] at h; cases h
   | some p =>
    obtain ⟨po,pt⟩:=p
    rw [hf] at h
    simp only at h
    cases hp:look T pt with
    | none=>rw [hp] at h; cases h
    | some j =>
     rw [hp] at h
     simp only at h
     cases hld:zhm j (cs.drop po) with
     | none=>rw [hld] at h; cases h
     | some y =>
      rw [hld] at h
      simp only [ok,Option.some.injEq,Prod.mk.injEq] at h
      obtain ⟨rfl,-,-⟩:=h
      obtain ⟨tj,zj,G⟩:=jo (hT pt _ hp)
      have hg:∃ fd,gs[f]? = some fd∧fd.offset=po∧fd.type=pt:=by
       rw [← hgs] at hf
       simp only [List.getElem?_map,Array.getElem?_toList,Option.map_eq_some_iff,Prod.mk.injEq] at hf
       obtain ⟨fd,h1,h2,h3⟩:=hf
       exact ⟨fd,h1,h2,h3⟩
      obtain ⟨fd,h1,h2,h3⟩:=hg
      subst h2; subst h3
      have hcr:=Kt hc hr
      have hv:(Value.agg vs).cells=vs:=rfl
      rw [hv] at hcr
      simp only [Instr.field,Sem.run_bind,run_underlying hu,Result.andThen_ok,h1,asAgg,Sem.run_pure,part,ze0 G.kind]
      unfold zhm at hld
      cases hk:ze3 j.kind with
      | true =>
       rw [hk] at hld
       simp only [cond_true] at hld
       cases hb:Nat.ble j.size (cs.drop fd.offset).length with
       | false=>rw [hb] at hld; cases hld
       | true =>
        rw [hb] at hld
        have hle:=Nat.le_of_ble_eq_true hb
        simp only [cond_true,Option.some.injEq] at hld
        subst hld
        refine ⟨.agg (vs.extract fd.offset (fd.offset+j.size)),by simp [sizeOf,typeInfo,G.info,G.size],?_⟩
        have h5:=(hcr.drop fd.offset).take j.size
        refine Fu ?_ (fun q hq=>?_)
        ·have:=h5.1
         simp only [Array.size_extract]
         simp only [List.length_take,List.length_drop,Array.length_toList] at this ⊢
         omega
        ·rw [getD_toList,Array.toList_extract,List.extract_eq_take_drop]
         have:=h5.2 q hq
         rwa [show fd.offset+j.size - fd.offset=j.size by omega]
      | false =>
       rw [hk] at hld
       simp only [cond_false] at hld
       cases hdr:cs.drop fd.offset with
       | nil=>rw [hdr] at hld; cases hld
       | cons c r =>
        rw [hdr] at hld
        simp only [List.head?_cons,Option.some.injEq] at hld
        subst hld
        have hlt:fd.offset < cs.length:=by
         have:=congrArg List.length hdr
         simp at this
         omega
        have hlt':fd.offset < vs.size:=by have:=hcr.1; simp at this; omega
        have h6:=hcr.2 fd.offset hlt
        have e1:cs.getD fd.offset default=c:=by
         have:cs[fd.offset]? = (cs.drop fd.offset)[0]?:=by simp
         rw [hdr] at this
         simp [List.getD,this]
        have e2:vs.toList.getD fd.offset undef=vs[fd.offset]:=by simp [List.getD,hlt']
        rw [e1,e2] at h6
        refine ⟨vs[fd.offset],?_,h6⟩
        simp [Array.getElem?_eq_getElem hlt']
theorem zcA {a:Addr} (h:a.spot=none):a=⟨a.block,a.off,none⟩:=by
 obtain ⟨b,o,s⟩:=a
 simp only at h
 subst h
 rfl
theorem zeo (hT:TOk P T) {t:Nat} {x i v:AV} {ro:List (Nat × Blk)} {ob:Ob} {u n:Value} (h:Yo T t x i=some (v,ro,ob)) (hob:ob.den) (hr:Rel w S μ ν x u) (hi:Rel w S μ ν i n):∃ y,(Instr.indexAt t u n).run P w=.ok y w∧Rel w S μ ν v y:=by
 unfold Yo at h
 cases hl:look T t with
 | none=>rw [hl] at h; cases h
 | some it =>
  rw [hl] at h
  obtain ⟨kind,size,bytes,zero,eq⟩:=it
  cases kind <;> try (cases h; done)
  rename_i e
  simp only at h
  obtain ⟨ti,z,F⟩:=jo (hT t _ hl)
  have hu:=qq F.kind
  cases he:look T e with
  | none=>rw [he] at h; cases h
  | some ie =>
   rw [he] at h
   obtain ⟨te,ze,G⟩:=jo (hT e _ he)
   have hsz:(sizeOf e).run P w=.ok ie.size w:=by simp [sizeOf,typeInfo,G.info,G.size]
   split at h
   ·rename_i k q heq
    cases heq
    obtain rfl:=qj hi
    split at h
    ·rename_i m f
     cases hb:Nat.beq (f q.toNat).length ie.size with
     | false=>rw [hb] at h; cases h
     | true =>
      rw [hb] at h
      have hlen:=Nat.eq_of_beq_eq_true hb
      simp only [cond_true,Option.some.injEq,Prod.mk.injEq] at h
      obtain ⟨rfl,-,rfl⟩:=h
      simp only [Ob.den] at hob
      have hq:q.toNat < m:=by omega
      cases vp.1 hr with
      | nil=>omega
      | sl _ _ ad cap k' vals hc hm hs hk hcell h =>
       have hkk:k'=ie.size:=by rw [← hk q.toNat hq]; exact hlen
       subst hkk
       have hsp:ad.spot=none:=by rcases hs with h0 | h0 <;> first | omega | exact h0
       refine ⟨.pointer (some ⟨ad.block,ad.off+q.toNat * ie.size,none⟩),?_,.ref (vals q.toNat) (fun j hj=>?_) (fun j hj=>h q.toNat j hq (by omega))⟩
       ·rw [zcA hsp]
        simp [Instr.indexAt,asIntOf,run_underlying hu,hob,hsz,addr_add]
       ·have:=hcell q.toNat j hq (by omega)
        rw [Nat.add_assoc]
        exact this
    ·simp only [Option.some.injEq,Prod.mk.injEq] at h
     obtain ⟨rfl,-,rfl⟩:=h
     simp only [Ob.den] at hob
     cases hr with
     | ownNil hμ=>omega
     | own hμ =>
      refine ⟨_,?_,.elt hμ⟩
      simp [Instr.indexAt,asIntOf,run_underlying hu,hob,hsz,addr_add]
    ·cases h
   ·cases h
theorem zlz (hT:TOk P T) {t:Nat} {x i v:AV} {ro:List (Nat × Blk)} {ob:Ob} {u n:Value} (h:zeP T t x i=some (v,ro,ob)) (hob:ob.den) (hr:Rel w S μ ν x u) (hi:Rel w S μ ν i n):∃ y,(Instr.index t u n).run P w=.ok y w∧Rel w S μ ν v y:=by
 unfold zeP at h
 split at h
 ·rename_i hl
  simp only [Option.some.injEq,Prod.mk.injEq] at h
  obtain ⟨rfl,-,rfl⟩:=h
  simp only [Ob.den] at hob
  obtain rfl:=qj hi
  obtain rfl:=kw rfl hr
  rename_i s k q
  obtain ⟨ti,z,F⟩:=jo (hT t _ hl)
  have hu:=zav F.kind
  have hlt:q.toNat < s.size:=by omega
  refine ⟨_,?_,zD rfl⟩
  have e:s[q.toNat]? = some (s.data.toList.getD q.toNat 0):=by
   rw [getElem?_pos s q.toNat hlt]
   have:q.toNat < s.data.size:=hlt
   simp only [List.getD,Array.getElem?_toList,Array.getElem?_eq_getElem this,Option.getD_some]
   rfl
  simp only [Instr.index,asIntOf,Sem.run_bind,Sem.run_pure,Result.andThen_ok,run_underlying hu,hob.1,if_true,e]
 ·cases h
theorem zjm {x:AV} {b:Bool} {ob:Ob} {u:Value} (h:zpK x=some (b,ob)) (hob:ob.den) (hx:Rel w S μ ν x u):∃ ad n c,u=.slice ad n c∧ad.isNone=b:=by
 unfold zpK at h
 split at h
 ·simp only [Option.some.injEq,Prod.mk.injEq] at h
  obtain ⟨rfl,rfl⟩:=h
  exact ⟨none,0,0,kw rfl hx,rfl⟩
 ·simp only [Option.some.injEq,Prod.mk.injEq] at h
  obtain ⟨rfl,rfl⟩:=h
  cases vp.1 hx with
  | nil=>exact absurd rfl hob
  | sl _ _ ad cap=>exact ⟨some ad,_,cap,rfl,rfl⟩
 ·simp only [Option.some.injEq,Prod.mk.injEq] at h
  obtain ⟨rfl,rfl⟩:=h
  cases hx with
  | ownNil=>exact absurd rfl hob
  | own=>exact ⟨_,_,_,rfl,rfl⟩
 ·simp only [Option.some.injEq,Prod.mk.injEq] at h
  obtain ⟨rfl,rfl⟩:=h
  cases hx with
  | nns hd=>exact ⟨_,_,_,rfl,rfl⟩
 ·cases h
theorem zoU (hT:TOk P T) {op:BinOp} {t:Nat} {x y v:AV} {ro:List (Nat × Blk)} {ob:Ob} {u u':Value} {ox oy:Operand} (h:zoo T op t x y=some (v,ro,ob)) (hob:ob.den) (hx:Rel w S μ ν x u) (hy:Rel w S μ ν y u') :
  ∃ z,(do eqGuard op t ox oy u u'; binOp op t u u':Sem Value).run P w=.ok z w∧Rel w S μ ν v z:=by
 unfold zoo at h
 split at h
 ·rename_i e0 size0 bytes0 zero0 eq0 hl
  obtain ⟨ti,z,F⟩:=jo (hT t _ hl)
  have hu:=qq F.kind
  obtain rfl:=kw rfl hy
  split at h
  ·rename_i b ob' hn
   simp only [Option.some.injEq,Prod.mk.injEq] at h
   obtain ⟨rfl,-,rfl⟩:=h
   obtain ⟨ad,n,c,rfl,hb⟩:=zjm hn hob hx
   refine ⟨.bool ad.isNone,?_,by rw [hb]; exact zD rfl⟩
   simp [eqGuard,Lib.run_eql_slice_nil w t _ ad n c 0 0 hu]
  ·rename_i b ob' hn
   simp only [Option.some.injEq,Prod.mk.injEq] at h
   obtain ⟨rfl,-,rfl⟩:=h
   obtain ⟨ad,n,c,rfl,hb⟩:=zjm hn hob hx
   refine ⟨.bool (!ad.isNone),?_,by rw [hb]; exact zD rfl⟩
   simp [eqGuard,Go.run_neq_slice_nil_any w t _ ad n c 0 0 hu]
  ·cases h
 ·rename_i i a b _ hl
  obtain rfl:=kw rfl hx
  obtain rfl:=kw rfl hy
  split at h
  ·rename_i z ob' hb
   simp only [Option.some.injEq,Prod.mk.injEq] at h
   obtain ⟨rfl,-,rfl⟩:=h
   obtain ⟨h1,h2⟩:=zqv (x:=ox) (y:=oy) (w:=w) (hT t _ hl) hb hob
   exact ⟨z,h1,zD h2⟩
  ·cases h
 ·rename_i i cs ds hl
  split at h
  ·rename_i b hb
   simp only [ok,Option.some.injEq,Prod.mk.injEq] at h
   obtain ⟨rfl,-,-⟩:=h
   have hx':=vp.1 hx
   have hy':=vp.1 hy
   cases hx' with
   | agg _ xs q1 q2 =>
    cases hy' with
    | agg _ ys q3 q4=>exact ⟨_,zp3 hT hl hb (.agg _ _ q1 q2) (.agg _ _ q3 q4),zD rfl⟩
  ·cases h
 ·cases h
theorem zqL {op:UnOp} {x v:AV} {ro:List (Nat × Blk)} {ob:Ob} {u:Value} (h:zq6 op x=some (v,ro,ob)) (hx:Rel w S μ ν x u):∃ z,(Op.unary op u).run P w=.ok z w∧Rel w S μ ν v z:=by
 unfold zq6 at h
 split at h
 ·simp only [ok,Option.some.injEq,Prod.mk.injEq] at h
  obtain ⟨rfl,-,-⟩:=h
  obtain rfl:=kw rfl hx
  exact ⟨_,rfl,zD rfl⟩
 ·simp only [ok,Option.some.injEq,Prod.mk.injEq] at h
  obtain ⟨rfl,-,-⟩:=h
  obtain rfl:=kw rfl hx
  exact ⟨_,rfl,zD rfl⟩
 ·cases h
theorem ziQ {x v:AV} {i:Nat} {ro:List (Nat × Blk)} {ob:Ob} {u:Value} (h:Fh x i=some (v,ro,ob)) (hx:Rel w S μ ν x u):∃ z,(Instr.extract u i).run P w=.ok z w∧Rel w S μ ν v z:=by
 unfold Fh at h
 split at h
 ·rename_i l
  split at h
  ·rename_i y hy
   simp only [ok,Option.some.injEq,Prod.mk.injEq] at h
   obtain ⟨rfl,-,-⟩:=h
   cases hx with
   | @tup _ vs hl h =>
    have hi:i < l.length:=(List.getElem?_eq_some_iff.1 hy).1
    have:=h i hi
    rw [show l.getD i default=y from by simp [List.getD,hy]] at this
    have hv:i < vs.size:=by omega
    rw [show vs.getD i undef=vs[i] from by simp [Array.getD,hv]] at this
    exact ⟨vs[i],by simp [Instr.extract,Array.getElem?_eq_getElem hv],this⟩
  ·cases h
 ·cases h
theorem zoS (hT:TOk P T) {t ty:Nat} {x v:AV} {ro:List (Nat × Blk)} {ob:Ob} {u:Value} (h:zol T t x=some (v,ro,ob)) (hx:Rel w S μ ν x u):∃ z,(Builtin.len_ #[t] ty #[u]).run P w=.ok z w∧Rel w S μ ν v z:=by
 unfold zol at h
 split at h
 ·rename_i hl
  simp only [ok,Option.some.injEq,Prod.mk.injEq] at h
  obtain ⟨rfl,-,-⟩:=h
  obtain ⟨ti,z,F⟩:=jo (hT t _ hl)
  have hu:=qq F.kind
  cases vp.1 hx with
  | nil=>exact ⟨_,by simp [Builtin.len_,run_underlying hu,goInt],zD rfl⟩
  | sl=>exact ⟨_,by simp [Builtin.len_,run_underlying hu,goInt],zD rfl⟩
 ·rename_i hl
  simp only [ok,Option.some.injEq,Prod.mk.injEq] at h
  obtain ⟨rfl,-,-⟩:=h
  obtain ⟨ti,z,F⟩:=jo (hT t _ hl)
  have hu:=qq F.kind
  cases hx with
  | ownNil=>exact ⟨_,by simp [Builtin.len_,run_underlying hu,goInt],zD rfl⟩
  | own=>exact ⟨_,by simp [Builtin.len_,run_underlying hu,goInt],zD rfl⟩
 ·rename_i hl
  simp only [ok,Option.some.injEq,Prod.mk.injEq] at h
  obtain ⟨rfl,-,-⟩:=h
  obtain ⟨ti,z,F⟩:=jo (hT t _ hl)
  have hu:=qq F.kind
  obtain rfl:=kw rfl hx
  exact ⟨_,by simp [Builtin.len_,run_underlying hu,goInt],zD rfl⟩
 ·rename_i hl
  simp only [ok,Option.some.injEq,Prod.mk.injEq] at h
  obtain ⟨rfl,-,-⟩:=h
  obtain ⟨ti,z,F⟩:=jo (hT t _ hl)
  have hu:=zav F.kind
  obtain rfl:=kw rfl hx
  exact ⟨_,by simp [Builtin.len_,run_underlying hu,goInt],zD rfl⟩
 ·cases h
theorem gu {ρ:Operand→Option AV} {a:Act} (hρ:∀ x y,ρ x=some y→Rel w S μ ν y (a.eval x)):∀ (xs:List Operand) (l:List AV),Vc ρ xs=some l→kU w S μ ν l (xs.map a.eval)
 | [],l,h=>by simp only [Vc,Option.some.injEq] at h; subst h; exact ⟨rfl,fun i hi=>absurd hi (by simp)⟩
 | x :: r,l,h=>by
  simp only [Vc] at h
  cases h1:ρ x with
  | none=>rw [h1] at h; cases h
  | some v =>
   cases h2:Vc ρ r with
   | none=>rw [h1,h2] at h; cases h
   | some l' =>
    rw [h1,h2] at h
    simp only [Option.some.injEq] at h
    subst h
    have ih:=gu hρ r l' h2
    refine ⟨by simpa using ih.1,fun i hi=>?_⟩
    cases i with
    | zero=>simpa using hρ x v h1
    | succ i=>simpa using ih.2 i (by simpa using hi)
theorem Wj {ρ:Operand→Option AV} {a:Act} (hρ:∀ x y,ρ x=some y→Rel w S μ ν y (a.eval x)):∀ (xs:List (Nat × Operand)) (l:List (Nat × AV)),Hj ρ xs=some l →
  (xs.map fun p=>(p.1,a.eval p.2)).length=l.length∧∀ (i:Nat) (p:Nat × AV) (q:Nat × Value),l[i]? = some p→(xs.map fun p=>(p.1,a.eval p.2))[i]? = some q→p.1=q.1∧Rel w S μ ν p.2 q.2
 | [],l,h=>by simp only [Hj,Option.some.injEq] at h; subst h; exact ⟨rfl,fun i p q h=>by simp at h⟩
 | (j,x) :: r,l,h=>by
  simp only [Hj] at h
  cases h1:ρ x with
  | none=>rw [h1] at h; cases h
  | some v =>
   cases h2:Hj ρ r with
   | none=>rw [h1,h2] at h; cases h
   | some l' =>
    rw [h1,h2] at h
    simp only [Option.some.injEq] at h
    subst h
    obtain ⟨i1,i2⟩:=Wj hρ r l' h2
    refine ⟨by simpa using i1,fun i p q hp hq=>?_⟩
    cases i with
    | zero =>
     simp only [List.getElem?_cons_zero,Option.some.injEq,List.map_cons] at hp hq
     subst hp; subst hq
     exact ⟨rfl,hρ x v h1⟩
    | succ i=>exact i2 i p q (by simpa using hp) (by simpa using hq)
theorem zjD:∀ (l:List AV) (vs:List Value) (k:IntKind) (n m:Int),kU w S μ ν l vs→zdj ki k l n=some m→(List.foldlM Builtin.max2 (.int k n) vs).run P w=.ok (.int k m) w
 | [],[],k,n,m,_,h=>by simp only [zdj,Option.some.injEq] at h; subst h; rfl
 | [],_ :: _,_,_,_,hl,_=>by have:=hl.1; simp at this
 | x :: l,[],_,_,_,hl,_=>by have:=hl.1; simp at this
 | x :: l,v :: vs,k,n,m,hl,h=>by
  unfold zdj at h
  split at h
  ·cases ‹_ :: _=[]›
  ·rename_i heq
   injection heq with e1 e2
   subst e1; subst e2
   have h0:=hl.2 0 (by simp)
   simp only [List.getD_cons_zero] at h0
   obtain rfl:=qj h0
   have ht:kU w S μ ν l vs:=⟨by simpa using hl.1,fun i hi=>by simpa using hl.2 (i+1) (by simpa using hi)⟩
   simp only [List.foldlM_cons,Builtin.max2,Sem.run_bind,Sem.run_pure,Result.andThen_ok]
   exact zjD l vs k _ m ht h
  ·cases h
theorem zjz:∀ (l:List AV) (vs:List Value) (k:IntKind) (n m:Int),kU w S μ ν l vs→zdj qO k l n=some m→(List.foldlM Builtin.min2 (.int k n) vs).run P w=.ok (.int k m) w
 | [],[],k,n,m,_,h=>by simp only [zdj,Option.some.injEq] at h; subst h; rfl
 | [],_ :: _,_,_,_,hl,_=>by have:=hl.1; simp at this
 | x :: l,[],_,_,_,hl,_=>by have:=hl.1; simp at this
 | x :: l,v :: vs,k,n,m,hl,h=>by
  unfold zdj at h
  split at h
  ·cases ‹_ :: _=[]›
  ·rename_i heq
   injection heq with e1 e2
   subst e1; subst e2
   have h0:=hl.2 0 (by simp)
   simp only [List.getD_cons_zero] at h0
   obtain rfl:=qj h0
   have ht:kU w S μ ν l vs:=⟨by simpa using hl.1,fun i hi=>by simpa using hl.2 (i+1) (by simpa using hi)⟩
   simp only [List.foldlM_cons,Builtin.min2,Sem.run_bind,Sem.run_pure,Result.andThen_ok]
   exact zjz l vs k _ m ht h
  ·cases h
theorem zdq {α β:Type} (g:α→Sem β) (r:α→β):∀ (l:List α),(∀ x,x∈l→(g x).run P w=.ok (r x) w)→(l.mapM g).run P w=.ok (l.map r) w
 | [],_=>by simp
 | x :: l,h=>by
  have h1:=h x (by simp)
  have h2:=zdq g r l (fun y hy=>h y (by simp [hy]))
  simp [List.mapM_cons,h1,h2]
theorem VL (hT:TOk P T):∀ (fs:List (Nat × Nat)) (pl:List (Nat × Nat)),Wt T fs=some pl→∀ p,p∈fs→∃ j:TypeInfo,P.info? p.2=some j∧pl=fs.map (fun p=>(p.1,P.cellsOf p.2))
 | [],pl,h,p,hp=>by cases hp
 | (o,t) :: r,pl,h,p,hp=>by
  simp only [Wt] at h
  cases h1:look T t with
  | none=>rw [h1] at h; cases h
  | some i =>
   cases h2:Wt T r with
   | none=>rw [h1,h2] at h; cases h
   | some l =>
    rw [h1,h2] at h
    simp only [Option.some.injEq] at h
    subst h
    obtain ⟨tj,z,F⟩:=jo (hT t i h1)
    have hl:l=r.map (fun p=>(p.1,P.cellsOf p.2)):=by
     cases r with
     | nil=>simp only [Wt,Option.some.injEq] at h2; subst h2; rfl
     | cons q r'=>exact (VL hT (q :: r') l h2 q (by simp)).choose_spec.2
    have hsz:P.cellsOf t=i.size:=by simp [Program.cellsOf,F.info,F.size]
    have hx:((o,i.size) :: l)=((o,t) :: r).map (fun p=>(p.1,P.cellsOf p.2)):=by simp [hl,hsz]
    rcases List.mem_cons.1 hp with rfl | hp'
    ·exact ⟨tj,F.info,hx⟩
    ·obtain ⟨j,hj,_⟩:=VL hT r l h2 p hp'
     exact ⟨j,hj,hx⟩
theorem zln (hT:TOk P T) {ρ:Operand→Option AV} {a:Act} (hρ:∀ x y,ρ x=some y→Rel w S μ ν y (a.eval x)) {t:Nat} {ps:Array (Nat × Operand)} {v:AV} {ro:List (Nat × Blk)} {ob:Ob} (h:zeR T ρ t ps.toList=some (v,ro,ob)) :
  ∃ z,(Instr.build t (ps.map fun (i,x)=>(i,a.eval x))).run P w=.ok z w∧Rel w S μ ν v z:=by
 unfold zeR at h
 split at h
 ·rename_i kk fs _ _ z _ vs hl hv
  split at h
  ·rename_i pl hpl
   split at h
   ·rename_i cs hcs
    simp only [ok,Option.some.injEq,Prod.mk.injEq] at h
    obtain ⟨rfl,-,-⟩:=h
    obtain ⟨ti,zz,F⟩:=jo (hT t _ hl)
    obtain ⟨gs,hu,hgs⟩:=XK F.kind
    obtain ⟨q1,q2⟩:=ut (w:=w) (S:=S) F.zok
    have hz:kU w S μ ν (z.map .d) zz.cells.toList:=by
     refine ⟨by simpa using q1,fun i hi=>?_⟩
     simp only [List.length_map] at hi
     rw [uw z i hi]
     exact .d (q2 i hi)
    obtain ⟨v1,v2⟩:=Wj hρ ps.toList vs hv
    obtain ⟨cur',hf,hr⟩:=Fl (fun i=>pl[i]?) vs (ps.toList.map fun p=>(p.1,a.eval p.2)) (z.map .d) cs zz.cells hz v1 v2 hcs
    refine ⟨.agg cur',?_,Fu (by have:=hr.1; simpa using this) (fun i hi=>by rw [getD_toList]; exact hr.2 i hi)⟩
    have hpl':pl=gs.toList.map (fun f=>(f.offset,P.cellsOf f.type)):=by
     cases hgl:gs.toList with
     | nil=>rw [hgl] at hgs; subst hgs; simp only [List.map_nil,Wt,Option.some.injEq] at hpl; subst hpl; rfl
     | cons g r =>
      have:=(VL hT fs pl hpl (g.offset,g.type) (by rw [← hgs,hgl]; simp)).choose_spec.2
      rw [this,← hgs,hgl]
      simp
    have hmap:(gs.mapM fun f=>do pure (f.offset,← sizeOf f.type):Sem (Array (Nat × Nat))).run P w=.ok pl.toArray w:=by
     rw [Array.mapM_eq_mapM_toList]
     rw [Sem.run_map]
     rw [zdq (P:=P) (w:=w) _ (fun f:Field=>(f.offset,P.cellsOf f.type)) gs.toList (fun f hf=>by
      have hin:(f.offset,f.type)∈fs:=by rw [← hgs]; exact List.mem_map.2 ⟨f,hf,rfl⟩
      obtain ⟨j,hj,_⟩:=VL hT fs pl hpl _ hin
      simp [sizeOf,typeInfo,hj,Program.cellsOf])]
     simp [hpl']
    have hps:(ps.map fun (i,x)=>(i,a.eval x)).toList=ps.toList.map fun p=>(p.1,a.eval p.2):=by simp
    simp only [Instr.build,Sem.run_bind,zeroValue,typeInfo,run_program,Result.andThen_ok,F.info,Sem.run_pure,F.zero,run_underlying hu,hmap,hps]
    have hfun:(fun x:Nat=>pl.toArray[x]?)=fun i:Nat=>pl[i]?:=by funext i; simp
    rw [hfun,hf]
    simp
   ·cases h
  ·cases h
 ·cases h
end
end Go.Av
