/- The evaluator of operations that yield a value and leave the world alone, and its soundness. -/
import Derived.Test.YtilbddpghnnmhaaGreatDoorAvC
set_option linter.unusedSimpArgs false
set_option linter.unusedVariables false
namespace Go.Av
open Go
set_option linter.unusedSectionVars false
variable [qz]
def AV.cells:AV→Option (List AV)
 | .d (.agg cs)=>some (cs.map .d)
 | .ag l=>some l
 | .any=>none
 | .tup _=>none
 | .g _ _=>none
 | x=>some [x]
def Xn:List AV→Option (List D)
 | []=>some []
 | .d x :: r=>match Xn r with | some l=>some (x :: l) | none=>none
 | _ :: _=>none
def zma (cs:List AV):AV:=match Xn cs with | some ds=>.d (.agg ds) | none=>.ag cs
theorem VY:∀ {cs:List AV} {ds:List D},Xn cs=some ds→cs=ds.map .d
 | [],ds,h=>by simp only [Xn,Option.some.injEq] at h; subst h; rfl
 | x :: r,ds,h=>by
  cases x with
  | d c =>
   simp only [Xn] at h
   cases hr:Xn r with
   | none=>rw [hr] at h; cases h
   | some l =>
    rw [hr] at h
    simp only [Option.some.injEq] at h
    subst h
    simp [VY hr]
  | _=>simp [Xn] at h
section
variable {w : World} {S : Nat → Prop} {μ : Mu} {ν : Nat → Bool}
theorem uw (ds:List D) (i:Nat) (h:i < ds.length):(ds.map AV.d).getD i default=.d (ds.getD i default):=by
 simp [List.getD,h]
theorem vp {d:D} {x:Value}:Rel w S μ ν (.d d) x↔Rd w S d x:=⟨fun h=>by cases h with | d h=>exact h,.d⟩
theorem Fu {cs:List AV} {vs:Array Value} (hl:vs.size=cs.length) (h:∀ i,i < cs.length→Rel w S μ ν (cs.getD i default) (vs.getD i undef)):Rel w S μ ν (zma cs) (.agg vs):=by
 unfold zma
 cases hp:Xn cs with
 | none=>exact .ag hl h
 | some ds =>
  have e:=VY hp
  subst e
  refine .d (.agg ds vs (by simpa using hl) (fun i hi=>?_))
  have:=h i (by simpa using hi)
  rw [uw ds i hi] at this
  exact vp.1 this
theorem XN {x y:Value} (h:Rd w S (.v x) y):y=x∧y.cells = #[y]:=by
 cases h with
 | v _ hs=>exact ⟨rfl,by cases x <;> simp [scalar] at hs <;> rfl⟩
theorem zpd {x:AV} {v:Value} {cs:List AV} (hc:x.cells=some cs) (h:Rel w S μ ν x v):v.cells.size=cs.length∧∀ i,i < cs.length→Rel w S μ ν (cs.getD i default) (v.cells.getD i undef):=by
 have single:∀ y:AV,some [y]=some cs→Rel w S μ ν y v→v.cells = #[v]→v.cells.size=cs.length∧∀ i,i < cs.length→Rel w S μ ν (cs.getD i default) (v.cells.getD i undef):=by
  intro y e hr hv
  simp only [Option.some.injEq] at e
  subst e
  rw [hv]
  refine ⟨rfl,fun i hi=>?_⟩
  simp only [List.length_singleton] at hi
  obtain rfl:i=0:=by omega
  simpa using hr
 cases h with
 | any=>simp [AV.cells] at hc
 | @d c _ hd =>
  cases c with
  | v y=>exact single _ hc (.d hd) (XN hd).2
  | agg ds =>
   simp only [AV.cells,Option.some.injEq] at hc
   subst hc
   cases hd with
   | agg _ vs hl h =>
    refine ⟨by simpa [Value.cells] using hl,fun i hi=>?_⟩
    simp only [List.length_map] at hi
    rw [uw ds i hi]
    exact .d (h i hi)
  | sl n f =>
   refine single _ hc (.d hd) ?_
   cases hd <;> rfl
 | ownNil h=>exact single _ hc (.ownNil h) rfl
 | own h=>exact single _ hc (.own h) rfl
 | ptr h=>exact single _ hc (.ptr h) rfl
 | elt h=>exact single _ hc (.elt h) rfl
 | ref vals hcell h=>exact single _ hc (.ref vals hcell h) rfl
 | nns h=>exact single _ hc (.nns h) rfl
 | mpv h=>exact single _ hc (.mpv h) rfl
 | pmp h=>exact single _ hc (.pmp h) rfl
 | fn hl h=>exact single _ hc (.fn hl h) rfl
 | tup=>simp [AV.cells] at hc
 | ag hl h =>
  simp only [AV.cells,Option.some.injEq] at hc
  subst hc
  exact ⟨hl,h⟩
 | g=>simp [AV.cells] at hc
end
def Qd (lb:List (Nat × Blk)):AV→Option (List AV × List (Nat × Blk) × Ob)
 | .ptr key off=>match look lb key with | some (.box cs)=>some (cs.drop off,[(key,.box cs)],.tt) | _=>none
 | .elt key k i off=>match look lb key with | some (.row e k' n f)=>bif Nat.beq k k' then some (((f i).drop off).map .d,[(key,.row e k' n f)],.pr (i < n)) else none | _=>none
 | .ref cs=>some (cs.map .d,[],.tt)
 | _=>none
def zj5 (w:World) (S:Nat→Prop) (μ:Mu) (ν:Nat→Bool) (cs:List AV) (x:Value):Prop :=
 ∃ b o,x=.pointer (some ⟨b,o,none⟩)∧∀ j,j < cs.length→∃ y,w.cell? ⟨b,o+j,none⟩=some y∧Rel w S μ ν (cs.getD j default) y
section
variable {C : Cx} {A : M} {a : Act} {w : World} {S : Nat → Prop} {μ : Mu} {ν : Nat → Bool}
theorem zC (w:World) (g i:Nat) (cur:Array Value) (e:TypeId) (fz:Nat × Nat) (hg:w.heap[g]? = some (.cells cur e fz)):w.cell? ⟨g,i,none⟩=cur[i]?:=by
 simp [World.cell?,hg]
theorem zcY {lb:List (Nat × Blk)} {x:AV} {cs:List AV} {ro:List (Nat × Blk)} {ob:Ob} {v:Value} (h:Qd lb x=some (cs,ro,ob)) (hs:Sim C A a w S μ ν) (hro:∀ p,p∈ro→A.lb p.1=some p.2) (hob:ob.den) (hr:Rel w S μ ν x v) :
  zj5 w S μ ν cs v:=by
 cases x with
 | ptr key off =>
  simp only [Qd] at h
  cases hl:look lb key with
  | none=>rw [hl] at h; cases h
  | some b =>
   rw [hl] at h
   cases b with
   | row=>cases h
   | mp=>cases h
   | it=>cases h
   | mx=>cases h
   | box bs =>
    simp only [Option.some.injEq,Prod.mk.injEq] at h
    obtain ⟨rfl,rfl,rfl⟩:=h
    cases hr with
    | @ptr _ _ g cap hμ =>
     have hm:=hs.mem key (.box bs) (hro (key,.box bs) (by simp))
     rw [hμ] at hm
     obtain ⟨cur,e,hg,_,hsz,hc⟩:=hm.at
     refine ⟨g,off,rfl,fun j hj=>?_⟩
     simp only [List.length_drop] at hj
     obtain ⟨y,hy,hry⟩:=hc (off+j) (by omega)
     refine ⟨y,by rw [zC w g (off+j) cur e _ hg]; exact hy,?_⟩
     have:(bs.drop off).getD j default=bs.getD (off+j) default:=by simp [List.getD]
     rw [this]
     exact hry ν
 | elt key k i off =>
  simp only [Qd] at h
  cases hl:look lb key with
  | none=>rw [hl] at h; cases h
  | some b =>
   rw [hl] at h
   cases b with
   | box=>cases h
   | mp=>cases h
   | it=>cases h
   | mx=>cases h
   | row e k' n f =>
    simp only at h
    cases hb:Nat.beq k k' with
    | false=>rw [hb] at h; cases h
    | true =>
     rw [hb] at h
     have hk:=Nat.eq_of_beq_eq_true hb
     subst hk
     simp only [cond_true,Option.some.injEq,Prod.mk.injEq] at h
     obtain ⟨rfl,rfl,rfl⟩:=h
     cases hr with
     | @elt _ _ _ _ g cap hμ =>
      have hm:=hs.mem key (.row e k n f) (hro (key,.row e k n f) (by simp))
      rw [hμ] at hm
      obtain ⟨cur,hg,_,hsz,_,_,hc⟩:=hm.at
      obtain ⟨hlen,hc⟩:=hc i hob
      refine ⟨g,i * k+off,rfl,fun j hj=>?_⟩
      simp only [List.length_map,List.length_drop] at hj
      obtain ⟨y,hy,hry⟩:=hc (off+j) (by omega)
      refine ⟨y,by rw [zC w g _ cur e _ hg,Nat.add_assoc]; exact hy,?_⟩
      rw [uw _ _ (by simp; omega)]
      have:((f i).drop off).getD j default=(f i).getD (off+j) default:=by simp [List.getD]
      rw [this]
      exact .d hry
 | ref ds =>
  simp only [Qd,Option.some.injEq,Prod.mk.injEq] at h
  obtain ⟨rfl,rfl,rfl⟩:=h
  cases hr with
  | ref vals hcell h =>
   refine ⟨_,_,rfl,fun j hj=>⟨vals j,(hcell j (by simpa using hj)).2,?_⟩⟩
   rw [uw _ _ (by simpa using hj)]
   exact .d (h j (by simpa using hj))
 | _=>simp [Qd] at h
def ze3:TK→Bool
 | .struct _=>true
 | .array _ _=>true
 | _=>false
theorem ze0 {P:Program} {t:Nat} {k:TK} (h:kY P t k=true) (w:World):(isAgg t).run P w=.ok (ze3 k) w:=by
 unfold isAgg underlying
 cases hu:P.underlying t with
 | none=>cases k <;> simp [kY,hu] at h
 | some d=>cases k <;> cases d <;> simp_all [kY,ze3]
def zhm (i:TI) (cs:List AV):Option AV :=
 bif ze3 i.kind then (bif Nat.ble i.size cs.length then some (zma (cs.take i.size)) else none) else cs.head?
theorem addr_add (b o j:Nat):(⟨b,o,none⟩:Addr).add j=⟨b,o+j,none⟩:=by unfold Addr.add; split <;> simp_all
theorem zjK {P:Program} {t:Nat} {i:TI} {cs:List AV} {y:AV} {x:Value} (ht:zb7 P t i=true) (h:zhm i cs=some y) (hat:zj5 w S μ ν cs x) :
  ∃ v,(Instr.loadAt t x).run P w=.ok v w∧Rel w S μ ν y v:=by
 obtain ⟨b,o,rfl,hc⟩:=hat
 obtain ⟨ti,z,F⟩:=jo ht
 simp only [Instr.loadAt,Instr.sureAddr,Sem.run_bind,Sem.run_pure,Result.andThen_ok,loadVar,ze0 F.kind]
 unfold zhm at h
 cases hk:ze3 i.kind with
 | true =>
  rw [hk] at h
  simp only [cond_true] at h
  cases hb:Nat.ble i.size cs.length with
  | false=>rw [hb] at h; cases h
  | true =>
   rw [hb] at h
   have hle:=Nat.le_of_ble_eq_true hb
   simp only [cond_true,Option.some.injEq] at h
   subst h
   let f:Nat→Value:=fun j=>(w.cell? ⟨b,o+j,none⟩).getD undef
   have hf:∀ j,j < i.size→w.cell? ((⟨b,o,none⟩:Addr).add j)=some (f j):=fun j hj=>by
    obtain ⟨y,hy,_⟩:=hc j (by omega)
    rw [addr_add]
    simp [f,hy]
   have hrun:=run_loadCells (P:=P) w ⟨b,o,none⟩ i.size f hf
   refine ⟨.agg ((List.range i.size).map f).toArray,?_,Fu (by simp; omega) (fun j hj=>?_)⟩
   ·simp only [if_true,sizeOf,typeInfo,Sem.run_bind,run_program,Result.andThen_ok,F.info,Sem.run_pure,F.size,hrun]
   ·have hj':j < i.size:=by simp at hj; omega
    obtain ⟨y,hy,hr⟩:=hc j (by omega)
    have e1:(cs.take i.size).getD j default=cs.getD j default:=by simp [List.getD,hj']
    have e2:((List.range i.size).map f).toArray.getD j undef=y:=by simp [Array.getD,hj',f,hy]
    rw [e1,e2]
    exact hr
 | false =>
  rw [hk] at h
  simp only [cond_false] at h
  cases cs with
  | nil=>cases h
  | cons c r =>
   simp only [List.head?_cons,Option.some.injEq] at h
   subst h
   obtain ⟨y,hy,hr⟩:=hc 0 (by simp)
   refine ⟨y,?_,by simpa using hr⟩
   simp only [Nat.add_zero] at hy
   simp [hy]
def zaF (T:List (Nat × TI)) (t f:Nat):Option Nat :=
 match look T t with
 | some { kind:=.struct fs,.. }=>match fs[f]? with | some (o,ft)=>(match look T ft with | some i=>bif Nat.beq i.size 0 then none else some o | none=>none) | none=>none
 | _=>none
theorem WK {P:Program} {T:List (Nat × TI)} {t f o:Nat} (hT:TOk P T) (h:zaF T t f=some o) (b q:Nat):(Instr.fieldAt t (.pointer (some ⟨b,q,none⟩)) f).run P w=.ok (.pointer (some ⟨b,q+o,none⟩)) w:=by
 unfold zaF at h
 cases hl:look T t with
 | none=>rw [hl] at h; cases h
 | some i =>
  rw [hl] at h
  obtain ⟨kind,size,bytes,zero,eq⟩:=i
  cases kind <;> try (cases h; done)
  rename_i fs
  simp only at h
  obtain ⟨ti,z,F⟩:=jo (hT t _ hl)
  cases hf:fs[f]? with
  | none=>rw [hf] at h; cases h
  | some p =>
   obtain ⟨po,pt⟩:=p
   rw [hf] at h
   simp only at h
   cases hp:look T pt with
   | none=>rw [hp] at h; cases h
   | some j =>
    rw [hp] at h
    simp only at h
    cases hz:Nat.beq j.size 0 with
    | true=>rw [hz] at h; cases h
    | false =>
     rw [hz] at h
     simp only [cond_false,Option.some.injEq] at h
     subst h
     obtain ⟨tj,zj,G⟩:=jo (hT pt _ hp)
     have hnz:j.size≠0:=fun e=>by rw [e] at hz; cases hz
     have hk:=F.kind
     simp only [kY] at hk
     cases hu:P.underlying t with
     | none=>rw [hu] at hk; cases hk
     | some d =>
      rw [hu] at hk
      cases d <;> try (cases hk; done)
      rename_i gs
      simp only [beq_iff_eq] at hk
      have hg:∃ fd,gs[f]? = some fd∧fd.offset=po∧fd.type=pt:=by
       rw [← hk] at hf
       simp only [List.getElem?_map,Array.getElem?_toList,Option.map_eq_some_iff,Prod.mk.injEq] at hf
       obtain ⟨fd,h1,h2,h3⟩:=hf
       exact ⟨fd,h1,h2,h3⟩
      obtain ⟨fd,h1,h2,h3⟩:=hg
      subst h2; subst h3
      have hsz:¬ tj.size=0:=by rw [G.size]; exact hnz
      simp [Instr.fieldAt,run_underlying hu,h1,Instr.sureAddr,fieldPlace,sizeOf,typeInfo,G.info,hsz,addr_add]
end
end Go.Av
