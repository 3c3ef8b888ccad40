/- Regions: one evaluation for every order. -/
import Derived.Test.YtihmmpaalpghbaaGreatDoorLb
import Derived.OrdersIn
import Derived.RangeFuncCalls
import Derived.RangeFuncLeaves
import Derived.RangeFuncRecord
import Derived.RangeFuncKeeps
import Derived.Lib.SliceRun
import Derived.ProofKit
import Derived.Maps.RangeRun
set_option linter.unusedSimpArgs false
set_option linter.unusedVariables false
set_option linter.unusedSectionVars false
set_option maxHeartbeats 1000000
namespace Go.Av
noncomputable section
open Go
variable [oa]
def kR (C:Cx) (st:St) (a:Act) (w:World):Prop:=∃ S μ,∀ ν,cG C st.toM a w S μ ν
section
variable {C : Cx} {a : Act} {w : World} {S : Nat → Prop} {μ : Mu} {ν : Nat → Bool}
theorem vn {T:List (Nat × TI)} (hT:im C.P T) {ops:Array Oper}:∀ {l:List Oper} {st st':St} {gl Lr:List (Nat × Bool)} {ji pE:List xP} {gP:List Tr} {ob:Ob},
  Ls C.P T C.nt ops l st gl ji=some (gP,st',Lr,pE,ob)→ob.den→(∀ s e,look Lr s=some e→ν s=e) →
  gP.length=l.length∧(∀ (i:Nat) (τ:Tr) (o:Oper),gP[i]? = some τ→l[i]? = some o→tG C ν ops o τ∧∀ p,p∈τ.gs→ν p.1=p.2)∧Ix gP st.toM st'.toM∧∀ t x,look gl t=some x→look Lr t=some x
 | [],st,st',gl,Lr,ji,pE,gP,ob,h,_,_=>by
  simp only [Ls,Option.some.injEq,Prod.mk.injEq] at h
  obtain ⟨rfl,rfl,rfl,-,-⟩:=h
  exact ⟨rfl,fun i τ o h=>by simp at h,rfl,fun _ _ h=>h⟩
 | o :: r,st,st',gl,Lr,ji,pE,gP,ob,h,bz,hν=>by
  simp only [Ls] at h
  split at h
  ·rename_i τ S8 GC we jB
   split at h
   ·rename_i l1 st1 Z5 NS AA pd
    simp only [Option.some.injEq,Prod.mk.injEq] at h
    obtain ⟨rfl,rfl,rfl,rfl,rfl⟩:=h
    obtain ⟨i1,i2,i3,i4⟩:=vn hT pd (Ob.bR bz).2 hν
    obtain ⟨s1,s2,s3,s4⟩:=yX hT jB (Ob.bR bz).1 (fun s e hl=>hν s e (i4 s e hl))
    refine ⟨by simp [i1],fun i τ' o' h1 h2=>?_,⟨s3,by rw [← St.QQ]; exact i3⟩,fun t x hx=>i4 t x (s4 t x hx)⟩
    cases i with
    | zero =>
     simp only [List.getElem?_cons_zero,Option.some.injEq] at h1 h2
     subst h1; subst h2
     exact ⟨s1,s2⟩
    | succ i=>exact i2 i τ' o' (by simpa using h1) (by simpa using h2)
   ·cases h
  ·cases h
theorem vo {st:St} {κ:Nat} (h:xR st κ=true):gL st.toM κ:=by
 simp only [xR,Bool.and_eq_true,List.all_eq_true,Bool.not_eq_true'] at h
 obtain ⟨h1,h2⟩:=h
 have Xq:∀ l:List Nat,(l.any fun k=>Nat.beq k κ)=false→κ ∉ l:=fun l hl hc=>by
  have:(l.any fun k=>Nat.beq k κ)=true:=List.any_eq_true.2 ⟨κ,hc,Nat.beq_refl κ⟩
  rw [this] at hl
  cases hl
 refine ⟨fun t=>?_,?_,fun κ' b hb=>?_⟩
 ·simp only [St.toM,St.get]
  cases hl:look st.sl t with
  | none=>simp [AV.keys]
  | some x=>exact Xq _ (h1 (t,x) (fN hl))
 ·simp only [St.toM]
  cases hl:look st.lb κ with
  | none=>rfl
  | some b =>
   have:=(h2 (κ,b) (fN hl)).1
   rw [Nat.beq_refl] at this
   cases this
 ·exact Xq _ (h2 (κ',b) (fN hb)).2
theorem xT {fW:Option (List Nat)}:∀ {sl:List (Nat × AV)} {t:Nat} {x:AV},nf sl=true→look (qf fW sl) t=some x→look sl t=some x∧qM x=true
 | [],t,x,_,h=>by simp [qf,look] at h
 | (k,y) :: r,t,x,hd,h=>by
  simp only [nf,Bool.and_eq_true,List.all_eq_true,Bool.not_eq_true'] at hd
  simp only [qf] at h
  rw [Bool.cond_eq_ite] at h
  by_cases hb:(qM y&&Xo fW k)=true
  ·rw [if_pos hb] at h
   simp only [bf] at h
   simp only [Bool.and_eq_true] at hb
   rw [bf]
   split
   ·rename_i e
    simp only [e,if_true,Option.some.injEq] at h
    subst h
    exact ⟨rfl,hb.1⟩
   ·rename_i e
    simp only [e,if_false] at h
    exact xT hd.2 h
  ·rw [if_neg hb] at h
   obtain ⟨h1,h2⟩:=xT hd.2 h
   refine ⟨?_,h2⟩
   rw [bf]
   split
   ·rename_i e
    subst e
    have:=hd.1 (k,x) (fN h1)
    rw [Nat.beq_refl] at this
    cases this
   ·exact h1
theorem cG.qf {st:St} {fW:Option (List Nat)} (h:cG C st.toM a w S μ ν) (hd:nf st.sl=true) (ν':Nat→Bool):cG C (St.toM ⟨qf fW st.sl,st.lb⟩) a w S μ ν':=by
 refine ⟨h.tmps,h.defers,fun t=>?_,h.mem,h.inj,h.own,h.dR,h.fresh,h.bound,h.kept⟩
 simp only [St.toM,St.get]
 cases hl:look (Go.Av.qf fW st.sl) t with
 | none=>exact .any _
 | some x =>
  obtain ⟨h1,h2⟩:=xT hd hl
  have:=h.dN t
  simp only [St.toM,St.get,h1] at this
  exact this.nu h2
def PD (ops:Array Oper) (K:Array Value→Prop):Prop:=∀ (i:Nat) (o:Oper) (a:Act) (v:Value),ops[i]? = some o→K a.tmps→K (a.put o.dst v).tmps
theorem Ly {P:Program} {o:Oper} {a:Act} {w:World} {next:Act→World→Prop} {Q:Exit→Act→World→Prop} {K:Array Value→Prop} (hK:∀ (a:Act) (v:Value),K a.tmps→K (a.put o.dst v).tmps) (hq:∀ e a w,Q e a w→e=.normal) (ha:K a.tmps)
  (h:o.wp P a w next Q):o.wp P a w (fun a' w'=>next a' w'∧K a'.tmps) (fun e a' w'=>Q e a' w'∧K a'.tmps):=by
 unfold Oper.wp at *
 generalize (execOp a.eval o).run P w=r at *
 have no:¬ LetsOut Q:=fun ⟨_,_,q⟩=>by cases hq _ _ _ q
 cases r with
 | ok n w' =>
  cases n <;> simp only [Oper.upon] at h ⊢ <;>
   first
    | exact ⟨h,hK _ _ ha⟩
    | exact ⟨h,hK { a with defers:=_ :: a.defers } _ ha⟩
    | exact Calls.mono h (fun e Vh he=>by cases e <;> first | exact ⟨he,hK _ _ ha⟩ | exact absurd (hq _ _ _ he) (by simp) | exact absurd he no)
    | exact Rows.mono h (fun _ _ he=>⟨he,hK _ _ ha⟩)
 | halt x w'=>cases x <;> simp only [Oper.upon] at h ⊢ <;> first | exact h.elim | exact absurd (hq _ _ _ h) (by simp)
theorem wg {P:Program} {ops:Array Oper} {Q:Exit→Act→World→Prop} {K:Array Value→Prop} (hK:PD ops K) (hq:∀ e a w,Q e a w→e=.normal):∀ (is:List Nat) (a:Act) (w:World),K a.tmps→wpOps P ops Q is a w→wpOps P ops (fun e a' w'=>Q e a' w'∧K a'.tmps) is a w
 | [],a,w,ha,h=>⟨h,ha⟩
 | i :: is,a,w,ha,h=>by
  simp only [wpOps] at h ⊢
  cases ho:ops[i]? with
  | none=>rw [ho] at h; exact wg hK hq is a w ha h
  | some o =>
   rw [ho] at h
   simp only at h ⊢
   split
   ·rename_i hw
    rw [if_pos hw] at h
    rcases h with h | ⟨_,_,_,q⟩
    ·exact .inl (Oper.wp_mono (fun a' w' hh=>wg hK hq is a' w' hh.2 hh.1) (Ly (fun a v=>hK i o a v ho) hq ha h))
    ·cases hq _ _ _ q
   ·rename_i hw
    rw [if_neg hw] at h
    exact wg hK hq is _ w (hK i o a undef ho ha) h
theorem wj {P:Program} {md:Region.Mode} {ops:Array Oper} {Q:Exit→Act→World→Prop} {K:Array Value→Prop} (hK:PD ops K) (hq:∀ e a w,Q e a w→e=.normal):∀ (n:Nat) (listed:Array Bool) (a:Act) (w:World),K a.tmps→wpAny P md ops Q n listed a w→wpAny P md ops (fun e a' w'=>Q e a' w'∧K a'.tmps) n listed a w
 | 0,listed,a,w,ha,h=>⟨h.1,h.2,ha⟩
 | n+1,listed,a,w,ha,h=>by
  refine ⟨fun hr=>⟨h.1 hr,ha⟩,fun i hi=>?_⟩
  have h:=h.2 i hi
  unfold wpOp at *
  split
  ·rename_i ho
   simp only [ho] at h
   exact wj hK hq n _ a w ha h
  ·rename_i o ho
   simp only [ho] at h
   split
   ·rename_i hw
    rw [if_pos hw] at h
    rcases h with h | ⟨_,_,_,q⟩
    ·exact .inl (Oper.wp_mono (fun a' w' hh=>wj hK hq n _ a' w' hh.2 hh.1) (Ly (fun a v=>hK i o a v ho) hq ha h))
    ·cases hq _ _ _ q
   ·rename_i hw
    rw [if_neg hw] at h
    exact wj hK hq n _ _ w (hK i o a undef ho ha) h
def tX (ops:Array Oper):Bool:=ops.toList.all fun o=>match o.op with | .defer _=>false | _=>true
theorem Ep {ops:Array Oper} (h:tX ops=true) {i:Nat} {o:Oper} (ho:ops[i]? = some o):∀ c,o.op≠.defer c:=by
 simp only [tX,List.all_eq_true] at h
 have:=h o (by have:=Array.getElem?_eq_some_iff.1 ho; obtain ⟨hi,rfl⟩:=this; simp)
 intro c hc
 rw [hc] at this
 cases this
theorem Er {P:Program} {o:Oper} {a:Act} {w:World} {next next':Act→World→Prop} {Q:Exit→Act→World→Prop} {l n:Nat} (hd:∀ c,o.op≠.defer c) (hn:∀ a w,next a w→next' a w) (hq:∀ e a w,Q e a w→e=.normal) (h:o.wp P a w next Q):o.wpIn (Fence.wide.inRound l) n P a w next' Q:=by
 refine ⟨fun _ _=>trivial,?_⟩
 rw [Oper.semAt_eq _ _ _ hd]
 unfold Oper.wp at h
 generalize (execOp a.eval o).run P w=r at *
 have no:¬ LetsOut Q:=fun ⟨_,_,q⟩=>by cases hq _ _ _ q
 have hdp:((Fence.wide.inRound l).depth.isSome=true→1≤n):=fun h=>by simp [Fence.wide] at h
 cases r with
 | ok x w' =>
  cases x <;> simp only [Oper.upon,Oper.uponIn] at h ⊢ <;>
   first
    | exact hn _ _ h
    | exact ⟨hdp,(CallsIn.inRound l (callsIn_wide.2 h)).mono (fun e Vh he=>by cases e <;> first | exact hn _ _ he | exact he)⟩
    | exact ⟨hdp,fun c cs _=>by obtain ⟨v,Vh,q,s⟩:=h c cs; exact ⟨v,Vh,hn _ _ q,stepsIn_wide.2 s⟩⟩
 | halt x w'=>cases x <;> simp only [Oper.upon,Oper.uponIn] at h ⊢ <;> exact h
theorem qW {P:Program} {ops:Array Oper} {Q:Exit→Act→World→Prop} {l n:Nat} (hd:tX ops=true) (hq:∀ e a w,Q e a w→e=.normal):∀ (is:List Nat) (a:Act) (w:World),wpOps P ops Q is a w→wpOpsIn (Fence.wide.inRound l) n P ops Q is a w
 | [],a,w,h=>h
 | i :: is,a,w,h=>by
  simp only [wpOps,wpOpsIn] at h ⊢
  cases ho:ops[i]? with
  | none=>rw [ho] at h; exact qW hd hq is a w h
  | some o =>
   rw [ho] at h
   simp only at h ⊢
   split
   ·rename_i hw
    rw [if_pos hw] at h
    rcases h with h | ⟨_,_,_,q⟩
    ·exact Er (Ep hd ho) (fun a' w'=>qW hd hq is a' w') hq h
    ·cases hq _ _ _ q
   ·rename_i hw
    rw [if_neg hw] at h
    exact ⟨fun _ _=>trivial,qW hd hq is _ w h⟩
theorem qX {P:Program} {md:Region.Mode} {ops:Array Oper} {Q:Exit→Act→World→Prop} {l m:Nat} (hd:tX ops=true) (hq:∀ e a w,Q e a w→e=.normal):∀ (n:Nat) (listed:Array Bool) (a:Act) (w:World),wpAny P md ops Q n listed a w→wpAnyIn (Fence.wide.inRound l) m P md ops Q n listed a w
 | 0,listed,a,w,h=>h
 | n+1,listed,a,w,h=>by
  refine ⟨h.1,fun i hi=>?_⟩
  have h:=h.2 i hi
  unfold wpOp at h
  unfold wpOpIn
  split
  ·rename_i ho
   simp only [ho] at h
   exact qX hd hq n _ a w h
  ·rename_i o ho
   simp only [ho] at h
   split
   ·rename_i hw
    rw [if_pos hw] at h
    rcases h with h | ⟨_,_,_,q⟩
    ·exact Er (Ep hd ho) (fun a' w'=>qX hd hq n _ a' w') hq h
    ·cases hq _ _ _ q
   ·rename_i hw
    rw [if_neg hw] at h
    exact ⟨fun _ _=>trivial,qX hd hq n _ _ w h⟩
theorem Yp {P:Program} {id:Nat} {ops:Array Oper} {draw:Bool} {Q:Exit→Act→World→Prop} {K:Array Value→Prop} {a:Act} {w:World} (hm:P.follows .mixedOrders=true) (hK:PD ops K) (hq:∀ e a w,Q e a w→e=.normal) (ha:K a.tmps)
  (h:(draw=false∧wpOps P ops Q (List.range ops.size) a w)∨(draw=true∧wpAny P .any ops Q ops.size (Array.replicate ops.size false) a { w with drawn:=w.drawn+1 })) (b:Frame) (hb:b.roundOf=none∨tX ops=true) (k:List Item) (cs:List Frame) :
  ∃ a' w',Q .normal a' w'∧K a'.tmps∧Steps P (lone (b.atR a (.code (.region id ops draw) :: k)) cs w) (lone (b.atR a' k) cs w'):=by
 have Nt:∀ e a w,(Q e a w∧K a.tmps)→e=.normal:=fun e a w h=>hq e a w h.1
 have h':(draw=false∧wpOps P ops (fun e a' w'=>Q e a' w'∧K a'.tmps) (List.range ops.size) a w)∨(draw=true∧wpAny P .any ops (fun e a' w'=>Q e a' w'∧K a'.tmps) ops.size (Array.replicate ops.size false) a { w with drawn:=w.drawn+1 }):=by
  rcases h with ⟨e,h⟩ | ⟨e,h⟩
  ·exact .inl ⟨e,wg hK hq _ a w ha h⟩
  ·exact .inr ⟨e,wj hK hq _ _ a _ ha h⟩
 cases hr:b.roundOf with
 | none =>
  have hw:(Code.region id ops draw).wp P (fun e a' w'=>Q e a' w'∧K a'.tmps) a w:=by
   rcases h' with ⟨rfl,h2⟩ | ⟨rfl,h2⟩
   ·exact wp_region h2
   ·exact wp_region_any hm h2
  obtain ⟨e,a',w',⟨q1,q2⟩,Yq⟩:=hw b k cs
  have he:=hq _ _ _ q1
  subst he
  refine ⟨a',w',q1,q2,?_⟩
  rw [Frame.atR_of_none hr,Frame.atR_of_none hr]
  exact Yq
 | some l =>
  have hd:tX ops=true:=hb.resolve_left (by rw [hr]; simp)
  have hw:(Code.region id ops draw).wpIn (Fence.wide.inRound l) 0 P (fun e a' w'=>Q e a' w'∧K a'.tmps) a w:=by
   rcases h' with ⟨rfl,h2⟩ | ⟨rfl,h2⟩
   ·exact wpIn_region (qW hd Nt _ a w h2)
   ·exact wpIn_region_any hm (qX hd Nt _ _ a _ h2)
  obtain ⟨e,a',w',⟨q1,q2⟩,Yq⟩:=hw b k cs hr trivial (room_wide _)
  have he:=hq _ _ _ q1
  subst he
  exact ⟨a',w',q1,q2,StepsIn.steps Yq⟩
theorem aaE {α:Type} {c:Bool} {a b:α} (h:(bif c then some a else none)=some b):c=true∧a=b:=by
 cases c with
 | true=>exact ⟨rfl,by simpa using h⟩
 | false=>cases h
theorem Lz {T:List (Nat × TI)} (hT:im C.P T) {ops:Array Oper} {gP:List Tr} {gl:List (Nat × Bool)} {i0 j0 d:Nat} {c:xo} {τ':Tr} {ob:Ob} {ν:Nat→Bool} (h:Ta C.P T C.nt ops gP gl i0 j0 d c=some (τ',ob)) (bz:ob.den) :
  gl=[]∧i0 < j0∧(∀ o,ops[i0]? = some o→tG C ν ops o τ'∧∀ p,p∈τ'.gs→ν p.1=p.2)∧od gP=true∧(∀ f,I8 i0 j0 ops (GD gP i0 τ' f)=true)∧Sm (gP.getD i0 Qt) (gP.getD j0 Qt) τ'∧(gP.getD i0 Qt).created=[]∧τ'.created=(gP.getD i0 Qt).created∧τ'.Gv=(gP.getD i0 Qt).Gv:=by
 unfold Ta at h
 split at h
 ·rename_i τ σ o hτ hσ ho
  split at h
  ·rename_i τ2 AA jD
   obtain ⟨hc,h⟩:=aaE h
   simp only [Prod.mk.injEq] at h
   obtain ⟨rfl,rfl⟩:=h
   obtain ⟨ho1,Xa⟩:=Ob.bR bz
   have Xa:τ2.v=τ.v:=Xa
   simp only [Bool.and_eq_true] at hc
   obtain ⟨⟨⟨⟨⟨⟨⟨⟨⟨⟨⟨⟨c1,c2⟩,c3⟩,c4⟩,c5⟩,c6⟩,c7⟩,c8⟩,c9⟩,c10⟩,c11⟩,c12⟩,c13⟩:=hc
   have e1:gP.getD i0 Qt=τ:=by simp [List.getD,hτ]
   have e2:gP.getD j0 Qt=σ:=by simp [List.getD,hσ]
   obtain ⟨s1,s2,s3,_⟩:=yX (C:=C) (ν:=ν) hT jD ho1 (fun s e hl=>by cases hl)
   have m1:τ.mem=[]:=by simpa using c3
   have m2:τ.cS=[]:=by simpa using c4
   have m3:τ2.mem=[]:=by simpa using c5
   have m4:τ2.cS=[]:=by simpa using c6
   rw [e1,e2]
   have cr:∀ t:Tr,t.cS=[]→t.created=[]:=fun t h=>by simp [Tr.created,h]
   refine ⟨by simpa using c1,by simpa [Nat.blt_eq] using c2,fun o' Ns=>?_,c11,fun f=>?_,⟨fun A h1 h2=>?_⟩,cr _ m2,by rw [cr _ m2,cr _ m4],by simp [Tr.Gv,m2,m4,Xa]⟩
   ·rw [ho] at Ns
    cases Ns
    exact ⟨s1,s2⟩
   ·cases f
    ·exact c12
    ·exact c13
   ·have VD:∀ (t:Tr) (B:M),t.mem=[]→t.cS=[]→(t.apply B).lb=B.lb:=fun t B q1 q2=>by
     funext k
     exact Tr.pX (by simp [Tr.wk,q1,q2])
    split at c9
    ·rename_i a a' b NZ Eg Yr
     simp only [Bool.and_eq_true,Bool.not_eq_true',List.contains_eq_mem,decide_eq_false_iff_not] at c9
     obtain ⟨⟨⟨d1,d2⟩,d3⟩,d4⟩:=c9
     have d1:=Nat.eq_of_beq_eq_true d1
     subst d1
     have d2:a≠b:=fun e=>by rw [e,Nat.beq_refl] at d2; cases d2
     refine ⟨⟨fun p hp=>?_,fun p hp=>?_,fun p hp=>?_⟩,⟨fun p hp=>?_,fun p hp=>?_,fun p hp=>?_⟩,?_⟩
     ·rw [← h2.need p hp,Tr.yK]
      rw [NZ]
      intro e
      cases e
      exact d3 (List.mem_map.2 ⟨p,hp,rfl⟩)
     ·rw [← h2.ro p hp,VD _ _ m1 m2]
     ·rw [← h2.mem p hp,VD _ _ m1 m2]
     ·have q1:=s3.need p hp
      have q2:(look τ.need p.1).isSome=true:=List.all_eq_true.1 c10 p hp
      rw [Tr.yK (by rw [Yr]; intro e; cases e; exact d4 (List.mem_map.2 ⟨p,hp,rfl⟩))]
      simp only [St.toM,St.get] at q1
      cases hl:look τ.need p.1 with
      | none=>rw [hl] at q2; cases q2
      | some x =>
       rw [hl] at q1
       rw [← q1]
       exact h1.need (p.1,x) (fN hl)
     ·have q1:look σ.cS p.1=some p.2:=s3.ro p hp
      simp only [Tr.apply,q1]
     ·rw [m3] at hp
      cases hp
     ·have e1:(σ.apply (τ.apply A)).sl=(τ2.apply (σ.apply A)).sl:=by
       funext t
       simp only [Tr.apply,NZ,Eg,Yr,Option.some.injEq,Xa]
       by_cases ca:a=t
       ·subst ca
        have hba:¬ b=a:=fun e=>d2 e.symm
        simp [hba]
       ·simp [ca]
      have e2:(σ.apply (τ.apply A)).lb=(τ2.apply (σ.apply A)).lb:=by
       rw [VD τ2 _ m3 m4]
       funext k
       simp only [Tr.apply]
       have:=congrFun (VD τ A m1 m2) k
       simp only [Tr.apply] at this
       rw [this]
      show M.mk _ _=M.mk _ _
      rw [show (σ.apply (τ.apply A))=⟨(σ.apply (τ.apply A)).sl,(σ.apply (τ.apply A)).lb⟩ from rfl] at *
      exact congr (congrArg M.mk e1) e2
    ·cases c9
  ·cases h
 ·cases h
theorem N0 {T:List (Nat × TI)} (hT:im C.P T) (hm:C.P.follows .mixedOrders=true) {ops:Array Oper} {draw:Bool} {fW:Option (List Nat)} {st st':St} {ji:List xP} {ob:Ob}
  (h:vl C.P T C.nt ops draw fW st ji=some (st',ob)) (bz:ob.den) (hs:kR C st a w):(draw=false∧wpOps C.P ops (fun e a' w'=>e=.normal∧kR C st' a' w') (List.range ops.size) a w)∨(draw=true∧wpAny C.P .any ops (fun e a' w'=>e=.normal∧kR C st' a' w') ops.size (Array.replicate ops.size false) a { w with drawn:=w.drawn+1 }):=by
 unfold vl at h
 split at h
 ·rename_i gP st1 gl we VC
  rw [Bool.cond_eq_ite] at h
  by_cases hb:(S9 draw ops gP&&gP.all (fun τ=>τ.created.all (xR st))&&nf st1.sl)=true
  case neg=>rw [if_neg hb] at h; cases h
  case pos =>
   rw [if_pos hb] at h
   simp only [Option.some.injEq,Prod.mk.injEq] at h
   obtain ⟨rfl,rfl⟩:=h
   simp only [Bool.and_eq_true] at hb
   obtain ⟨⟨Al,pP⟩,Ys⟩:=hb
   let ν:Nat→Bool:=fun s=>(look gl s).getD false
   have hν:∀ s e,look gl s=some e→ν s=e:=fun s e hl=>by simp [ν,hl]
   obtain ⟨i1,i2,i3,_⟩:=vn (C:=C) (ν:=ν) hT VC bz hν
   obtain ⟨S,μ,dP⟩:=hs
   have hfa:pY gP st.toM:=fun τ hτ κ hκ=>by
    simp only [List.all_eq_true] at pP
    exact vo (pP τ hτ κ hκ)
   have hQ:∀ a' w' S' μ',cG C st1.toM a' w' S' μ' ν→(Exit.normal=.normal∧kR C ⟨Go.Av.qf fW st1.sl,st1.lb⟩ a' w'):=fun a' w' S' μ' sh=>⟨rfl,S',μ',fun ν'=>sh.qf Ys ν'⟩
   have hlen:gP.length=ops.size:=by rw [i1]; simp
   cases draw with
   | false =>
    refine .inl ⟨rfl,?_⟩
    have:=Hy (C:=C) (ν:=ν) (ops:=ops) (Q:=fun e a' w'=>e=.normal∧kR C ⟨Go.Av.qf fW st1.sl,st1.lb⟩ a' w') gP 0 st.toM st1.toM a w S μ (by omega) (fun i τ o h1 h2=>i2 i τ o h1 (by simpa using h2)) i3 hfa Al (dP ν) hQ
    rw [hlen] at this
    rw [List.range_eq_range']
    exact this
   | true =>
    refine .inr ⟨rfl,?_⟩
    have hw':cG C st.toM a { w with drawn:=w.drawn+1 } S μ ν:=(dP ν).world (fun _ x=>x) (fun _ x=>.inl x) ⟨rfl,rfl,rfl,Nat.le_refl _,fun _ _ _=>rfl⟩
    have IJ:((List.range ops.size).map fun i=>gP.getD i ⟨[],none,.any,[],[],[],[]⟩)=gP:=by
     apply List.ext_getElem?
     intro i
     by_cases hi:i < ops.size
     ·simp [hi,List.getD,List.getElem?_eq_getElem (by omega:i < gP.length)]
     ·simp [hi,List.getElem?_eq_none (by omega:gP.length≤i)]
    refine Qp (C:=C) (ν:=ν) gP Al (fun i τ o h1 h2=>i2 i τ o h1 (by simpa using h2)) st1.toM hQ ops.size (List.range ops.size) _ st.toM a _ S μ (by simp) List.pairwise_lt_range (by simp) (fun i=>?_) (by rw [IJ]; exact i3) (by rw [IJ]; exact hfa) ?_ (fun m o hm hl=>?_) hw'
    ·simp only [List.mem_range]
     refine ⟨fun hi=>⟨hi,by simp [Array.getD,hi]⟩,fun hi=>hi.1⟩
    ·rw [IJ]
     have aaF:KI ops gP=true:=Al
     simp only [KI,Bool.and_eq_true] at aaF
     exact aaF.1.2
    ·exfalso
     have uS:m < ops.size:=(Array.getElem?_eq_some_iff.1 hm).1
     simp [Array.getD,uS] at hl
 ·rename_i gP st1 gl i0 j0 d c we VC
  split at h
  ·rename_i τ' AA halt
   rw [Bool.cond_eq_ite] at h
   split at h
   ·rename_i hb
    simp only [Option.some.injEq,Prod.mk.injEq] at h
    obtain ⟨rfl,rfl⟩:=h
    simp only [Bool.and_eq_true] at hb
    obtain ⟨pP,Ys⟩:=hb
    obtain ⟨tW,uT⟩:=Ob.bR bz
    obtain ⟨rfl,UY,hs1,Al,Ja,hsw,Sp,U1,NM⟩:=Lz (C:=C) (ν:=fun _=>false) hT halt uT
    obtain ⟨i1,i2,i3,_⟩:=vn (C:=C) (ν:=fun _=>false) hT VC tW (fun s e hl=>by cases hl)
    obtain ⟨S,μ,dP⟩:=hs
    have hfa:pY gP st.toM:=fun τ hτ κ hκ=>by
     simp only [List.all_eq_true] at pP
     exact vo (pP τ hτ κ hκ)
    have hQ:∀ a' w' S' μ',cG C st1.toM a' w' S' μ' (fun _=>false)→(Exit.normal=.normal∧kR C ⟨Go.Av.qf fW st1.sl,st1.lb⟩ a' w'):=fun a' w' S' μ' sh=>⟨rfl,S',μ',fun ν'=>sh.qf Ys ν'⟩
    have hlen:gP.length=ops.size:=by rw [i1]; simp
    refine .inr ⟨rfl,?_⟩
    have hw':cG C st.toM a { w with drawn:=w.drawn+1 } S μ (fun _=>false):=(dP _).world (fun _ x=>x) (fun _ x=>.inl x) ⟨rfl,rfl,rfl,Nat.le_refl _,fun _ _ _=>rfl⟩
    have tf0:∀ i,GD gP i0 τ' false i=gP.getD i Qt:=fun i=>rfl
    have tf1:GD gP i0 τ' true i0=τ':=by simp [GD,Nat.beq_refl]
    have tf2:∀ i,i≠i0→GD gP i0 τ' true i=gP.getD i Qt:=fun i hi=>by
     have:Nat.beq i i0=false:=by
      cases hb:Nat.beq i i0 with
      | true=>exact absurd (Nat.eq_of_beq_eq_true hb) hi
      | false=>rfl
     simp [GD,this]
    have IJ:((List.range ops.size).map (GD gP i0 τ' false))=gP:=by
     apply List.ext_getElem?
     intro i
     by_cases hi:i < ops.size
     ·simp [hi,tf0,List.getD,List.getElem?_eq_getElem (by omega:i < gP.length)]
     ·simp [hi,List.getElem?_eq_none (by omega:gP.length≤i)]
    have aaG:∀ (i:Nat) (o:Oper),ops[i]? = some o→tG C (fun _=>false) ops o (gP.getD i Qt)∧∀ p,p∈(gP.getD i Qt).gs→false=p.2:=fun i o ho=>by
     have hi:i < gP.length:=by rw [hlen]; exact (Array.getElem?_eq_some_iff.1 ho).1
     have ht:gP[i]? = some (gP.getD i Qt):=by simp [List.getD,hi]
     exact i2 i _ o ht (by simpa using ho)
    refine Sn (C:=C) (ν:=fun _=>false) (GD gP i0 τ') i0 j0 UY (fun f i o ho=>?_) (fun f i hi=>?_) (fun i hi=>(tf2 i hi).trans (tf0 i).symm) (by rw [tf1]; exact hsw) Sp (by rw [tf1]; exact ⟨U1,NM⟩) st1.toM hQ ops.size (List.range ops.size) false _ st.toM a _ S μ (fun h=>by cases h) (by simp) List.pairwise_lt_range (by simp) (fun i=>?_) (by rw [IJ]; exact i3) (by rw [IJ]; exact hfa) (by rw [IJ]; exact Al) (fun m o hm hl=>?_) hw'
    ·cases f with
     | false=>exact aaG i o ho
     | true =>
      by_cases ci:i=i0
      ·subst ci
       rw [tf1]
       exact hs1 o ho
      ·rw [tf2 i ci]
       exact aaG i o ho
    ·have hr:=Ja f
     simp only [I8,List.all_eq_true,List.mem_range] at hr
     have h1:=hr i hi
     have ho:ops[i]? = some ops[i]:=Array.getElem?_eq_getElem hi
     rw [ho] at h1
     simp only [Bool.and_eq_true,Array.all_eq_true',Bool.or_eq_true,Bool.not_eq_true',decide_eq_true_eq,List.all_eq_true,List.mem_range] at h1
     refine ⟨_,ho,fun e he hb=>?_,fun j hj=>?_⟩
     ·rcases h1.1 e he with h' | h'
      ·rw [hb] at h'; cases h'
      ·exact h'
     ·rcases h1.2 j hj with ((h' | h') | h') | h'
      ·exact .inl (.inl h')
      ·exact .inr (.inl ⟨Nat.eq_of_beq_eq_true h'.1,Nat.eq_of_beq_eq_true h'.2⟩)
      ·exact .inr (.inr (Tr.DL h'))
      ·exact .inl (.inr h')
    ·simp only [List.mem_range]
     refine ⟨fun hi=>⟨hi,by simp [Array.getD,hi]⟩,fun hi=>hi.1⟩
    ·exfalso
     have uS:m < ops.size:=(Array.getElem?_eq_some_iff.1 hm).1
     simp [Array.getD,uS] at hl
   ·cases h
  ·cases h
 ·cases h
end
def Cx.TD (C:Cx) (q:Nat):Prop:=C.T0 q∨({ target:=.collected q,args:=#[] }:Deferred)∈C.dl
def Jc (C:Cx) (res:AV) (cj:List (Nat × aZ)) (e:Ending) (w':World):Prop:=∃ v S' μ',e=.returned v∧NK C.w0 C.S0 C.TD res cj v S' μ' w'
structure Goal where
 P:Program
 T:List (Nat × TI)
 nt:Nat
 f:FuncId
 fn:Func
 res:AV
 cj:List (Nat × aZ)
 md:Nat
 pr:List Nat
 tm:Array Value
 Z:Cx→Frame→List Frame→Machine→Prop
 zs:∀ C b cs m m',Steps P m m'→Z C b cs m'→Z C b cs m
def Goal.kept (g:Goal) (t:Array Value):Prop:=∀ u,u∈g.pr→t.getD u undef=g.tm.getD u undef
def LA (g:Goal) (C:Cx) (todo:List Item) (a:Act) (w:World):Prop :=
 ∀ (b:Frame) (cs:List Frame),b.fn=g.f→b.kind=.normal→(b.roundOf=none↔g.md≠1)→g.Z C b cs (lone (b.atR a todo) cs w)
def G (g:Goal) (todo:List Item) (st:St):Prop:=∀ C:Cx,C.P=g.P→C.nt=g.nt→∀ a w,g.kept a.tmps→kR C st a w→LA g C todo a w
def AI (st st':St):Prop:=∀ C a w,kR C st a w→kR C st' a w
def Xr (l:List Nat) (ops:Array Oper):Bool:=l.all fun t=>ops.toList.all fun o=>match o.dst with | some d=>!Nat.beq d t | none=>true
def Cj (md:Nat) (pr:List Nat) (ops:Array Oper):Bool:=Xr pr ops&&(!Nat.beq md 1||tX ops)
section
variable {g : Goal} {k : List Item} {st st' : St}
theorem LA.step {C:Cx} {todo Es:List Item} {a a':Act} {w w':World} (h:∀ (b:Frame) (cs:List Frame),Steps g.P (lone (b.atR a todo) cs w) (lone (b.atR a' Es) cs w')) (hr:LA g C Es a' w'):LA g C todo a w :=
 fun b cs h1 h2 h3=>g.zs C b cs _ _ (h b cs) (hr b cs h1 h2 h3)
theorem G.le (h:AI st st') (hg:G g k st'):G g k st:=fun C h1 h2 a w hk hs=>hg C h1 h2 a w hk (h C a w hs)
theorem G.seq {x y:Code} (h:G g (.code x :: .code y :: k) st):G g (.code (.seq x y) :: k) st:=fun C h1 h2 a w hk hs=>(h C h1 h2 a w hk hs).step fun _ _=>.one stepR_seq
theorem G.skip (h:G g k st):G g (.code .skip :: k) st:=fun C h1 h2 a w hk hs=>(h C h1 h2 a w hk hs).step fun _ _=>.one stepR_skip
theorem G.label {l:Nat} (h:G g k st):G g (.code (.label l) :: k) st:=fun C h1 h2 a w hk hs=>(h C h1 h2 a w hk hs).step fun _ _=>.one stepR_label
theorem G.block {id:Nat} {c:Code} (h:G g (.code c :: .inBlock id :: k) st):G g (.code (.block id c) :: k) st:=fun C h1 h2 a w hk hs=>(h C h1 h2 a w hk hs).step fun _ _=>.one stepR_block
theorem G.inBlock {id:Nat} (h:G g k st):G g (.inBlock id :: k) st:=fun C h1 h2 a w hk hs=>(h C h1 h2 a w hk hs).step fun _ _=>.one stepR_inBlock
theorem G.inLoop {c:Code} (h:G g (.code c :: .inLoop c :: k) st):G g (.inLoop c :: k) st:=fun C h1 h2 a w hk hs=>(h C h1 h2 a w hk hs).step fun _ _=>.one stepR_inLoop
theorem G.exit {id:Nat} {k':List Item} (he:exitTo id k=some k') (h:G g k' st):G g (.code (.exit id) :: k) st:=fun C h1 h2 a w hk hs=>(h C h1 h2 a w hk hs).step fun _ _=>.one (stepR_exit he)
theorem G.cond {c:Nat} {x y:Code} {e:Bool} (hc:St.get st.sl c=.d (.v (.bool e))) (ht:e=true→G g (.code x :: k) st) (hf:e=false→G g (.code y :: k) st):G g (.code (.cond (.tmp c) x y) :: k) st:=by
 intro C h1 h2 a w hk hs
 obtain ⟨S,μ,dP⟩:=hs
 have hr:=(dP fun _=>false).dN c
 simp only [St.toM,hc] at hr
 have he:a.eval (.tmp c)=.bool e:=qd hr
 cases e with
 | true=>exact (ht rfl C h1 h2 a w hk ⟨S,μ,dP⟩).step fun _ _=>.one (by simpa using stepR_cond (x:=x) (y:=y) he)
 | false=>exact (hf rfl C h1 h2 a w hk ⟨S,μ,dP⟩).step fun _ _=>.one (by simpa using stepR_cond (x:=x) (y:=y) he)
theorem G.aaH {x y:Code} {e:Bool} (h:G g (.code (bif e then x else y) :: k) st):G g (.code (.cond (.const (.bool e)) x y) :: k) st:=by
 intro C h1 h2 a w hk hs
 have he:a.eval (.const (.bool e))=.bool e:=rfl
 cases e with
 | true=>exact (h C h1 h2 a w hk hs).step fun _ _=>.one (by simpa using stepR_cond (x:=x) (y:=y) he)
 | false=>exact (h C h1 h2 a w hk hs).step fun _ _=>.one (by simpa using stepR_cond (x:=x) (y:=y) he)
theorem Goal.aaI {ops:Array Oper} (h:Cj g.md g.pr ops=true):PD ops g.kept:=by
 intro i o a v ho hk u hu
 unfold Cj at h
 simp only [Bool.and_eq_true,Xr,List.all_eq_true] at h
 have h1:=h.1 u hu o (by obtain ⟨hi,rfl⟩:=Array.getElem?_eq_some_iff.1 ho; simp)
 rw [← hk u hu]
 cases hd:o.dst with
 | none=>rfl
 | some d =>
  rw [hd] at h1
  exact cX _ _ _ _ (fun e=>by subst e; simp at h1)
theorem G.ops (hm:g.P.follows .mixedOrders=true) {C:Cx} {id:Nat} {ops:Array Oper} {draw:Bool} {a:Act} {w:World} {Q:Act→World→Prop} (hr:Cj g.md g.pr ops=true) (ha:g.kept a.tmps)
  (h:(draw=false∧wpOps g.P ops (fun e a' w'=>e=.normal∧Q a' w') (List.range ops.size) a w)∨(draw=true∧wpAny g.P .any ops (fun e a' w'=>e=.normal∧Q a' w') ops.size (Array.replicate ops.size false) a { w with drawn:=w.drawn+1 }))
  (hg:∀ a' w',g.kept a'.tmps→Q a' w'→LA g C k a' w'):LA g C (.code (.region id ops draw) :: k) a w:=by
 intro b cs h1 h2 h3
 obtain ⟨a',w',q1,q2,q3⟩:=Yp (id:=id) hm (Goal.aaI hr) (fun e a w h=>h.1) ha h b (by
  by_cases hp:g.md=1
  ·unfold Cj at hr; simp only [Bool.and_eq_true,hp] at hr; exact .inr (by simpa using hr.2)
  ·exact .inl (h3.2 hp)) k cs
 exact g.zs C b cs _ _ q3 (hg a' w' q2 q1.2 b cs h1 h2 h3)
theorem G.region (hT:im g.P g.T) (hm:g.P.follows .mixedOrders=true) {id:Nat} {ops:Array Oper} {draw:Bool} {fW:Option (List Nat)} {ji:List xP} {ob:Ob} (hr:Cj g.md g.pr ops=true) (h:vl g.P g.T g.nt ops draw fW st ji=some (st',ob)) (bz:ob.den) (hg:G g k st'):G g (.code (.region id ops draw) :: k) st:=by
 intro C h1 h2 a w hk hs
 have hw:=N0 (C:=C) (T:=g.T) (by rw [h1]; exact hT) (by rw [h1]; exact hm) (by rw [h1,h2]; exact h) bz hs
 rw [h1] at hw
 exact G.ops hm hr hk hw (fun a' w' eD sh=>hg C h1 h2 a' w' eD sh)
theorem G.loop {ι:Type} (I:ι→St) (m:ι→Nat) {c:Code} (i0:ι) (h0:AI st (I i0)) (hr:∀ i,(∀ j,m j < m i→G g (.inLoop c :: k) (I j))→G g (.code c :: .inLoop c :: k) (I i)):G g (.code (.loop c) :: k) st:=by
 have key:∀ n i,m i=n→G g (.code c :: .inLoop c :: k) (I i):=by
  intro n
  induction n using Nat.strongRecOn with
  | _ n ih =>
   intro i hi
   exact hr i (fun j hj=>.inLoop (ih (m j) (hi ▸ hj) j rfl))
 intro C h1 h2 a w hk hs
 exact (key _ i0 rfl C h1 h2 a w hk (h0 C a w hs)).step fun _ _=>.one stepR_loop
end
def qY (T:List (Nat × TI)) (st:St):List ResultVar→Option (List AV × List (Nat × aZ) × Ob)
 | []=>some ([],[],.tt)
 | .tmp t :: r=>(match qY T st r with | some (l,ro,ob)=>some (St.get st.sl t :: l,ro,ob) | none=>none)
 | .cell t ty :: r=>(match look T ty,l9 st.lb (St.get st.sl t),qY T st r with
  | some i,some (cs,ZY,we),some (l,ro,ob)=>(match DR i cs with | some v=>some (v :: l,ZY++ro,we.and ob) | none=>none)
  | _,_,_=>none)
section
variable {C : Cx} {a : Act} {w : World} {S : Nat → Prop} {μ : Mu} {ν : Nat → Bool}
def Te:List Value→Value
 | [v]=>v
 | l=>.tuple l.toArray
def AJ (tmps:Array Value):ResultVar→Sem Value
 | .tmp t=>pure (tmps.getD t undef)
 | .cell a t=>do loadVar t (← asAddr (tmps.getD a undef))
theorem ng {T:List (Nat × TI)} (hT:im C.P T) {st:St} (hs:cG C st.toM a w S μ ν):∀ {rs:List ResultVar} {l:List AV} {ro:List (Nat × aZ)} {ob:Ob},qY T st rs=some (l,ro,ob)→ob.den→∃ vs,(rs.mapM (AJ a.tmps)).run C.P w=.ok vs w∧dq w S μ ν l vs
 | [],l,ro,ob,h,_=>by
  simp only [qY,Option.some.injEq,Prod.mk.injEq] at h
  obtain ⟨rfl,-,-⟩:=h
  exact ⟨[],by simp,rfl,fun i hi=>absurd hi (by simp)⟩
 | .tmp t :: r,l,ro,ob,h,bz=>by
  simp only [qY] at h
  split at h
  ·rename_i l' HG xj hr
   simp only [Option.some.injEq,Prod.mk.injEq] at h
   obtain ⟨rfl,rfl,rfl⟩:=h
   obtain ⟨vs,h1,h2⟩:=ng hT hs hr bz
   refine ⟨a.tmps.getD t undef :: vs,by simp [List.mapM_cons,AJ,h1],by simp [h2.1],fun i hi=>?_⟩
   cases i with
   | zero =>
    have:=hs.dN t
    simp only [St.toM] at this
    simpa using this
   | succ i=>simpa using h2.2 i (by simpa using hi)
  ·cases h
 | .cell t ty :: r,l,ro,ob,h,bz=>by
  simp only [qY] at h
  split at h
  ·rename_i i cs ZY we l' HG xj hi hc hr
   split at h
   ·rename_i v hv
    simp only [Option.some.injEq,Prod.mk.injEq] at h
    obtain ⟨rfl,rfl,rfl⟩:=h
    obtain ⟨vs,h1,h2⟩:=ng hT hs hr (Ob.bR bz).2
    have Aq:=BJ hc hs (fun p hp=>BU hc p hp) (Ob.bR bz).1 (hs.dN t)
    obtain ⟨b,o,hp,IY⟩:=Aq
    obtain ⟨u,h3,h4⟩:=HA (P:=C.P) (hT _ _ hi) hv (⟨b,o,hp,IY⟩:IC w S μ ν cs _)
    have h5:(AJ a.tmps (.cell t ty)).run C.P w=.ok u w:=by
     rw [hp] at h3
     simp only [AJ,hp,asAddr,Sem.run_bind,Sem.run_pure,Result.andThen_ok]
     simpa [Instr.loadAt,Instr.sureAddr] using h3
    refine ⟨u :: vs,by simp [List.mapM_cons,h5,h1],by simp [h2.1],fun i hi=>?_⟩
    cases i with
    | zero=>simpa using h4
    | succ i=>simpa using h2.2 i (by simpa using hi)
   ·cases h
  ·cases h
theorem N1 (fn:Func) (tmps:Array Value):results fn tmps=(do let vs ← fn.results.mapM (AJ tmps); pure (if h:vs.size=1 then vs[0] else .tuple vs):Sem Value):=by
 unfold results
 congr 2
theorem vp {fn:Func} {vs:List Value} (h:(fn.results.toList.mapM (AJ a.tmps)).run C.P w=.ok vs w):(results fn a.tmps).run C.P w=.ok (Te vs) w:=by
 rw [N1,Array.mapM_eq_mapM_toList]
 simp only [Sem.run_bind,Sem.run_map,h,Result.andThen_ok,Sem.run_pure]
 congr 1
 clear h
 match vs with
 | []=>rfl
 | [v]=>rfl
 | _ :: _ :: _=>rfl
end
def pF (x y:AV):Prop:=∀ w S μ ν v,Rel w S μ ν x v→Rel w S μ ν y v
theorem pF.rfl' {x:AV}:pF x x:=fun _ _ _ _ _ h=>h
theorem pF.d {x y:D} (h:oS x y):pF (.d x) (.d y):=fun w S _ _ v hr=>.d (h w S v (eE.1 hr))
def oo:List AV→AV
 | [x]=>x
 | l=>.il l
theorem AK {w:World} {S:Nat→Prop} {μ:Mu} {ν:Nat→Bool} {l:List AV} {vs:List Value} (h:dq w S μ ν l vs):Rel w S μ ν (oo l) (Te vs):=by
 match l,vs,h with
 | [x],[v],h=>simpa [oo,Te] using h.2 0 (by simp)
 | [],[],h=>exact .il rfl (fun i hi=>absurd hi (by simp))
 | x :: y :: r,u :: v :: s,h=>exact .il (by simpa using h.1) (fun i hi=>by rw [cz]; simpa using h.2 i hi)
 | [],_ :: _,h=>have:=h.1; simp at this
 | [_],[],h=>have:=h.1; simp at this
 | [_],_ :: _ :: _,h=>have:=h.1; simp at this
 | _ :: _ :: _,[],h=>have:=h.1; simp at this
 | _ :: _ :: _,[_],h=>have:=h.1; simp at this
theorem xU {P:Program} {cs:List Frame}:∀ (l:List Deferred) (fr:Frame) (w:World),fr.mode=.returning→fr.defers=l→l.Nodup→(∀ d,d∈l→∃ q,d = { target:=.collected q,args:=#[] }∧w.heap[q]? = some (.deferred (some []))) →
  ∃ w',Steps P (lone fr cs w) (lone { fr with defers:=[] } cs w')∧Kept w w' (fun q=>({ target:=.collected q,args:=#[] }:Deferred)∈l)
 | [],fr,w,_,hd,_,_=>⟨w,by rw [show ({ fr with defers:=[] }:Frame)=fr by rw [← hd]]; exact .refl _ _,Kept.refl _ _⟩
 | d :: l,fr,w,hm,hd,Qs,hl=>by
  obtain ⟨q,rfl,hq⟩:=hl d (by simp)
  have h1:=step_collected (P:=P) (cs:=cs) (d:={ target:=.collected q,args:=#[] }) (by rw [hm]; simp) hd rfl (run_takeDeferred hq)
  have hk:Kept w (w.putObj q (.deferred none)) (fun b=>b=q):=⟨rfl,rfl,rfl,by simp [World.putObj],fun b _ hb=>World.putObj_heap_other hb⟩
  obtain ⟨w',h2,h3⟩:=xU l { fr with defers:=[]++l } (w.putObj q (.deferred none)) hm rfl (List.nodup_cons.1 Qs).2 (fun d hd'=>by
   obtain ⟨p,rfl,hp⟩:=hl d (by simp [hd'])
   refine ⟨p,rfl,?_⟩
   have gN:p≠q:=fun e=>(List.nodup_cons.1 Qs).1 (e ▸ hd')
   rw [World.putObj_heap_other gN]; exact hp)
  refine ⟨w',.head h1 h2,(hk.xi (fun b hb=>by subst hb; simp)).trans h3 (fun b _ hb=>by simp [hb])⟩
def Cx.shut (C:Cx):Cx:={ C with T0:=C.TD,dis:=fun b hb h=>h.elim (C.dis b hb) (fun h=>(by obtain ⟨q,e,_,_,hq⟩:=C.XR _ h; cases e; exact hq hb)),dl:=[],XR:=fun d h=>(by cases h),W8:=List.nodup_nil }
theorem cx.ou {w:World} {S:Nat→Prop} {μ:Mu} {b:aZ} {g cap:Nat} {o:Option (List Deferred)} (h:cx w S μ b g cap):w.heap[g]?≠some (.deferred o):=by
 cases b with
 | box cs=>obtain ⟨cur,e,hg,_⟩:=h; rw [hg]; simp
 | row e k n f=>obtain ⟨cur,hg,_⟩:=h; rw [hg]; simp
 | mp n f=>obtain ⟨cur,hg,_⟩:=h; rw [hg]; simp
 | it mk n seen=>obtain ⟨mg,c,_,hg,_⟩:=h; rw [hg]; simp
 | mx=>obtain ⟨m,_,cur,hg,_⟩:=h; rw [hg]; simp
 | tx=>obtain ⟨n,f,_,cur,hg,_⟩:=h; rw [hg]; simp
 | rx=>obtain ⟨f,_,cur,hg,_⟩:=h; rw [hg]; simp
 | ml=>obtain ⟨cur,c,hg,_⟩:=h; rw [hg]; simp
theorem cG.QR {C:Cx} {A:M} {a:Act} {w:World} {S:Nat→Prop} {μ:Mu} {ν:Nat→Bool} (h:cG C A a w S μ ν):∀ d,d∈C.dl→∃ q,d = { target:=.collected q,args:=#[] }∧w.heap[q]? = some (.deferred (some []))∧¬ S q:=by
 intro d hd
 obtain ⟨q,e,h1,h2,h3⟩:=C.XR d hd
 have cI:=(Array.getElem?_eq_some_iff.1 h1).1
 refine ⟨q,e,(h.kept.block q cI h2).trans h1,fun hs=>?_⟩
 rcases h.fresh q hs with h4 | h4 | h4
 ·exact h3 h4
 ·omega
 ·exact h2 h4
theorem cG.shut {C:Cx} {A:M} {a:Act} {w w':World} {S:Nat→Prop} {μ:Mu} {ν:Nat→Bool} (h:cG C A a w S μ ν) (hk:Kept w w' (fun q=>({ target:=.collected q,args:=#[] }:Deferred)∈C.dl)):cG C.shut A { a with defers:=[] } w' S μ ν:=by
 have hw:∀ b,S b→w'.heap[b]? = w.heap[b]?:=fun b hb=>hk.block b (h.bound b hb) (fun hd=>by
  obtain ⟨q,e,_,hq⟩:=h.QR _ hd
  cases e
  exact hq hb)
 refine ⟨h.tmps,rfl,fun t=>(h.dN t).mono (fun _ x=>x) hw (fun _ _ e=>e),fun κ b hb=>?_,h.inj,fun κ b g c h1 h2=>?_,h.dR,fun b hb=>?_,fun b hb=>Nat.lt_of_lt_of_le (h.bound b hb) hk.size,?_⟩
 ·have hm:=h.mem κ b hb
  refine hm.mono (fun _ x=>x) hw (fun _ _ e=>e) (fun g c e=>?_)
  rw [e] at hm
  refine ⟨hk.block g hm.at.lt (fun hd=>?_),hm.at.not⟩
  obtain ⟨q,e',hq,_⟩:=h.QR _ hd
  cases e'
  exact hm.at.ou hq
 ·rcases h.own κ b g c h1 h2 with q | q
  ·exact .inl q
  ·exact .inr (.inl q)
 ·rcases h.fresh b hb with q | q | q
  ·exact .inl q
  ·exact .inr (.inl q)
  ·exact .inr (.inr (.inl q))
 ·exact (h.kept.xi (fun _ x=>.inl x)).trans hk (fun b _ hb=>.inr hb)
structure Goal.U6 (g:Goal):Prop where
 md:g.md=0
 fin:∀ C b cs m,(∃ e w' fr,Jc C g.res g.cj e w'∧Comes g.P m (lone fr cs w') e∧fr.fn=g.f∧fr.leaving g.P w' e)→g.Z C b cs m
theorem Goal.U6.out {g:Goal} (hg:g.U6) (hf:g.P.funcs[g.f]? = some g.fn) {C:Cx} (h1:C.P=g.P) {st:St} {a:Act} {w:World} (hs:kR C st a w) (hp:∀ w',kR C.shut st { a with defers:=[] } w'→∃ v,(results g.fn a.tmps).run C.P w'=.ok v w'∧Jc C.shut g.res g.cj (.returned v) w')
  {todo:List Item} (jD:∀ (b:Frame) (cs:List Frame),b.roundOf=none→Steps g.P (lone (b.atR a todo) cs w) (lone { b.atR a todo with mode:=.returning } cs w)):LA g C todo a w:=by
 intro b cs Ck tD uI
 refine hg.fin C b cs _ ?_
 obtain ⟨S,μ,dP⟩:=hs
 have h0:=dP fun _=>false
 have Nv:=uI.2 (by rw [hg.md]; decide)
 obtain ⟨w',q1,q2⟩:=xU (P:=g.P) (cs:=cs) C.dl { b.atR a todo with mode:=.returning } w rfl h0.defers C.W8 (fun d hd=>let ⟨q,e,h,_⟩:=h0.QR d hd; ⟨q,e,h⟩)
 obtain ⟨v,r1,r2⟩:=hp w' ⟨S,μ,fun ν=>(dP ν).shut q2⟩
 obtain ⟨v',S',μ',e,B⟩:=r2
 refine ⟨.returned v,w',_,⟨v',S',μ',e,B.K9 (fun q hq=>?_)⟩,Steps.trans (jD b cs Nv) q1,Ck,rfl,rfl,tD,g.fn,?_,?_⟩
 ·rcases hq with hq | hq
  ·exact hq
  ·cases hq
 ·show g.P.funcs[b.fn]? = _
  rw [Ck]; exact hf
 ·rw [← h1]; exact r1
def LB (C:Cx) (res:AV) (cj:List (Nat × aZ)) (fX:List (Nat × Nat)) (tm:Array Value) (e:Ending) (w':World):Prop:=∃ v S' μ',e=.returned v∧NK C.w0 C.S0 C.TD res cj v S' μ' w'∧∀ p,p∈fX→∀ ν,Rel w' S' μ' ν (.ptr p.2 0) (tm.getD p.1 undef)
structure Goal.LC (g:Goal) (fX:List (Nat × Nat)):Prop where
 md:g.md=3
 pr:∀ p,p∈fX→p.1∈g.pr
 fin:∀ C b cs m,(∃ e w' fr,LB C g.res g.cj fX g.tm e w'∧Comes g.P m (lone fr cs w') e∧fr.fn=g.f∧fr.leaving g.P w' e)→g.Z C b cs m
theorem Goal.LC.out {g:Goal} {fX:List (Nat × Nat)} (hg:g.LC fX) (hf:g.P.funcs[g.f]? = some g.fn) {C:Cx} (h1:C.P=g.P) {st:St} {a:Act} {w:World} (hs:kR C st a w) (hp:∀ w',kR C.shut st { a with defers:=[] } w'→∃ v,(results g.fn a.tmps).run C.P w'=.ok v w'∧LB C.shut g.res g.cj fX g.tm (.returned v) w')
  {todo:List Item} (jD:∀ (b:Frame) (cs:List Frame),b.roundOf=none→Steps g.P (lone (b.atR a todo) cs w) (lone { b.atR a todo with mode:=.returning } cs w)):LA g C todo a w:=by
 intro b cs Ck tD uI
 refine hg.fin C b cs _ ?_
 obtain ⟨S,μ,dP⟩:=hs
 have h0:=dP fun _=>false
 have Nv:=uI.2 (by rw [hg.md]; decide)
 obtain ⟨w',q1,q2⟩:=xU (P:=g.P) (cs:=cs) C.dl { b.atR a todo with mode:=.returning } w rfl h0.defers C.W8 (fun d hd=>let ⟨q,e,h,_⟩:=h0.QR d hd; ⟨q,e,h⟩)
 obtain ⟨v,r1,r2⟩:=hp w' ⟨S,μ,fun ν=>(dP ν).shut q2⟩
 obtain ⟨v',S',μ',e,B,ha⟩:=r2
 refine ⟨.returned v,w',_,⟨v',S',μ',e,B.K9 (fun q hq=>?_),ha⟩,Steps.trans (jD b cs Nv) q1,Ck,rfl,rfl,tD,g.fn,?_,?_⟩
 ·rcases hq with hq | hq
  ·exact hq
  ·cases hq
 ·show g.P.funcs[b.fn]? = _
  rw [Ck]; exact hf
 ·rw [← h1]; exact r1
theorem G.acA {g:Goal} {st:St} {fX:List (Nat × Nat)} (hg:g.LC fX) (hf:g.P.funcs[g.f]? = some g.fn) (hp:∀ (C:Cx) (a:Act) (w:World),C.P=g.P→g.kept a.tmps→kR C st a w→∃ v,(results g.fn a.tmps).run C.P w=.ok v w∧LB C g.res g.cj fX g.tm (.returned v) w):G g [] st∧∀ k,G g (.code .ret :: k) st :=
 ⟨fun C h1 _ a w hk hs=>hg.out hf h1 hs (fun w' sh=>hp C.shut { a with defers:=[] } w' h1 hk sh) (fun b cs hb=>.one (stepR_end hb)),
  fun k C h1 _ a w hk hs=>hg.out hf h1 hs (fun w' sh=>hp C.shut { a with defers:=[] } w' h1 hk sh) (fun b cs hb=>.one (stepR_ret hb))⟩
section
variable {g : Goal} {k : List Item} {st : St}
theorem QS {C:Cx} {a:Act} {w:World} (hs:kR C st a w) (hT:im C.P g.T) (hl:g.cj=[]) {l l':List AV} {ro HG:List (Nat × aZ)} {ob xj:Ob} (h:qY g.T st g.fn.results.toList=some (l,ro,ob)) (bz:ob.den) (hb:sq st.lb l=some (l',HG,xj)) (Ej:xj.den) (hle:pF (oo l') g.res) :
  ∃ v,(results g.fn a.tmps).run C.P w=.ok v w∧Jc C g.res g.cj (.returned v) w:=by
 obtain ⟨S,μ,dP⟩:=hs
 have h0:=dP fun _=>false
 obtain ⟨vs,h1,h2⟩:=ng hT h0 h bz
 refine ⟨_,vp h1,?_⟩
 have h3:∀ μ' ν',dq w (fun b=>b < w.heap.size∧(C.S0 b∨C.w0.heap.size≤b∨C.T0 b)) μ' ν' l' vs:=fun μ' ν' =>
  AB h0 (fun b hb=>⟨h0.bound b hb,h0.fresh b hb⟩) (fun κ b q c h1 h2=>⟨by have:=h0.mem κ b h1; rw [h2] at this; exact this.at.lt,.inr (h0.own κ b q c h1 h2)⟩) μ' ν' hb (fun p hp=>El hb p hp) Ej h2
 refine ⟨_,fun b=>b < w.heap.size∧(C.S0 b∨C.w0.heap.size≤b∨C.T0 b),fun _=>none,rfl,?_⟩
 rw [hl]
 exact ⟨fun ν'=>hle _ _ _ _ _ (AK (h3 _ ν')),fun κ b hk=>by simp [look] at hk,fun κ κ' b b' q c c' hk=>by simp [look] at hk,fun κ b q c hk=>by simp [look] at hk,
  fun b hb=>⟨Nat.lt_of_lt_of_le (h0.bound b (h0.dR b hb)) (Nat.le_refl _),.inl hb⟩,fun b hb=>hb.2.imp id (Or.imp id .inl),fun b hb=>hb.1,h0.kept.xi fun _ h=>.inl h⟩
theorem G.out (hg:g.U6) (hf:g.P.funcs[g.f]? = some g.fn) (hp:∀ (C:Cx) (a:Act) (w:World),C.P=g.P→kR C st a w→∃ v,(results g.fn a.tmps).run C.P w=.ok v w∧Jc C g.res g.cj (.returned v) w):G g [] st∧∀ k,G g (.code .ret :: k) st :=
 ⟨fun C h1 _ a w _ hs=>hg.out hf h1 hs (fun w' sh=>hp C.shut { a with defers:=[] } w' h1 sh) (fun b cs hb=>.one (stepR_end hb)),
  fun k C h1 _ a w _ hs=>hg.out hf h1 hs (fun w' sh=>hp C.shut { a with defers:=[] } w' h1 sh) (fun b cs hb=>.one (stepR_ret hb))⟩
theorem G.ret (hg:g.U6) (hT:im g.P g.T) (hf:g.P.funcs[g.f]? = some g.fn) (hl:g.cj=[]) {l l':List AV} {ro HG:List (Nat × aZ)} {ob xj:Ob} (h:qY g.T st g.fn.results.toList=some (l,ro,ob)) (bz:ob.den) (hb:sq st.lb l=some (l',HG,xj)) (Ej:xj.den) (hle:pF (oo l') g.res):G g [] st∧∀ k,G g (.code .ret :: k) st :=
 G.out hg hf (fun C a w h1 hs=>QS (g:=g) hs (by rw [h1]; exact hT) hl h bz hb Ej hle)
end
def di:Nat→List AV→List (Nat × AV)
 | _,[]=>[]
 | n,x :: r=>(n,x) :: di (n+1) r
theorem rQ:∀ (l:List AV) (n t:Nat),look (di n l) t=if n≤t then l[t - n]? else none
 | [],n,t=>by simp [di,look]
 | x :: r,n,t=>by
  simp only [di,bf,rQ r (n+1) t]
  by_cases h:n=t
  ·subst h; simp
  ·simp only [h,if_false]
   by_cases h1:n+1≤t
   ·rw [if_pos h1,if_pos (by omega),show t - n=t - (n+1)+1 by omega]
    simp
   ·rw [if_neg h1,if_neg (by omega)]
def ZN (P:Program) (f:FuncId) (res:AV) (cj:List (Nat × aZ)) (C:Cx) (_:Frame) (cs:List Frame) (m:Machine):Prop :=
 ∃ e w' fr,Jc C res cj e w'∧Comes P m (lone fr cs w') e∧fr.fn=f∧fr.leaving P w' e
def Goal.of (P:Program) (T:List (Nat × TI)) (nt:Nat) (f:FuncId) (fn:Func) (res:AV) (cj:List (Nat × aZ)):Goal :=
 ⟨P,T,nt,f,fn,res,cj,0,[],#[],ZN P f res cj,fun _ _ _ _ _ hs ⟨e,w',fr,q1,q2,q3⟩=>⟨e,w',fr,q1,.of_steps hs q2,q3⟩⟩
theorem Goal.Tf {P:Program} {T:List (Nat × TI)} {nt:Nat} {f:FuncId} {fn:Func} {res:AV} {cj:List (Nat × aZ)}:(Goal.of P T nt f fn res cj).U6:=⟨rfl,fun _ _ _ _ h=>h⟩
theorem kE.intro {P:Program} {T:List (Nat × TI)} {f:FuncId} {fn:Func} {body:Code} {args:List AV} {cj:List (Nat × aZ)} {res:AV} {eH:List (Nat × aZ)} (hf:P.funcs[f]? = some fn) (hb:fn.body=some body) (hc:dX P f=true) (hn:args.length≤fn.ntmps)
  (h:G (.of P T fn.ntmps f fn res eH) [.code body] ⟨di 0 args,cj⟩):kE P f args cj res eH:=by
 refine ⟨hc,fun w S μ vs hS Qz iP hm hi cs=>?_⟩
 let C:Cx:=⟨P,w,S,Handed cj μ,fn.ntmps,Qz,fun b hb ⟨κ,bk,c,q1,q2⟩=>by
  have:=hm κ bk q1
  rw [q2] at this
  exact this.at.not hb,hS,[],fun d h=>(by cases h),List.nodup_nil⟩
 let b:Frame:={ (default:Frame) with fn:=f,kind:=.normal,roundOf:=none }
 have hl:vs.size=args.length:=by have:=(iP fun _=>false).1; simpa using this
 have N2:Frame.enter P f vs .normal=b.atR { tmps:=vs++Array.replicate (fn.ntmps - vs.size) undef,defers:=[] } [.code body]:=by
  simp [Frame.enter,Frame.atR,hf,hb,b]
 have dP:kR C ⟨di 0 args,cj⟩ { tmps:=vs++Array.replicate (fn.ntmps - vs.size) undef,defers:=[] } w:=by
  refine ⟨S,μ,fun ν=>⟨by simp [C]; omega,rfl,fun t=>?_,hm,hi,fun κ bk q c h1 h2=>.inr ⟨κ,bk,c,h1,h2⟩,fun _ hb=>hb,fun _ hb=>.inl hb,hS,Kept.refl _ _⟩⟩
  simp only [St.toM,St.get,rQ,Nat.zero_le,if_true,Nat.sub_zero]
  by_cases ht:t < args.length
  ·rw [List.getElem?_eq_getElem ht]
   have h2:=(iP ν).2 t ht
   rw [show args.getD t default=args[t] from by simp [List.getD,ht]] at h2
   have e:(vs++Array.replicate (fn.ntmps - vs.size) undef).getD t undef=vs.toList.getD t undef:=by
    rw [← cz]
    simp only [Array.getD_eq_getD_getElem?]
    rw [Array.getElem?_append_left (by omega)]
   rw [e]
   exact h2
  ·rw [List.getElem?_eq_none (by omega)]
   exact .any _
 obtain ⟨e,w',fr,⟨v,S',μ',e1,B⟩,q2,q3,q4⟩:=h C rfl rfl _ _ (fun u hu=>by cases hu) dP b cs rfl rfl ⟨fun _ h=>(by cases h),fun _=>rfl⟩
 exact ⟨e,w',fr,⟨v,S',μ',e1,B.K9 (fun q hq=>hq.elim id (fun h=>by cases h))⟩,by rw [N2]; exact q2,q3,q4⟩
def ZB (P:Program) (f:FuncId) (res:AV) (cj:List (Nat × aZ)) (fX:List (Nat × Nat)) (tm:Array Value) (C:Cx) (_:Frame) (cs:List Frame) (m:Machine):Prop :=
 ∃ e w' fr,LB C res cj fX tm e w'∧Comes P m (lone fr cs w') e∧fr.fn=f∧fr.leaving P w' e
def Goal.ofB (P:Program) (T:List (Nat × TI)) (nt:Nat) (f:FuncId) (fn:Func) (res:AV) (cj:List (Nat × aZ)) (fX:List (Nat × Nat)) (tm:Array Value):Goal :=
 ⟨P,T,nt,f,fn,res,cj,3,fX.map (·.1),tm,ZB P f res cj fX tm,fun _ _ _ _ _ hs ⟨e,w',fr,q1,q2,q3⟩=>⟨e,w',fr,q1,.of_steps hs q2,q3⟩⟩
theorem Goal.VE {P:Program} {T:List (Nat × TI)} {nt:Nat} {f:FuncId} {fn:Func} {res:AV} {cj:List (Nat × aZ)} {fX:List (Nat × Nat)} {tm:Array Value}:(Goal.ofB P T nt f fn res cj fX tm).LC fX:=⟨rfl,fun p hp=>List.mem_map.2 ⟨p,hp,rfl⟩,fun _ _ _ _ h=>h⟩
theorem SK.intro {P:Program} {T:List (Nat × TI)} {f:FuncId} {fn:Func} {body:Code} {args:List AV} {cj:List (Nat × aZ)} {res:AV} {eH:List (Nat × aZ)} {fX:List (Nat × Nat)} (hf:P.funcs[f]? = some fn) (hb:fn.body=some body) (hc:dX P f=true) (hn:args.length≤fn.ntmps) (Yb:∀ p,p∈fX→p.1 < args.length)
  (h:∀ tm,G (.ofB P T fn.ntmps f fn res eH fX tm) [.code body] ⟨di 0 args,cj⟩):SK P f args cj res eH fX:=by
 refine ⟨hc,fun w S μ vs hS Qz iP hm hi cs=>?_⟩
 let C:Cx:=⟨P,w,S,Handed cj μ,fn.ntmps,Qz,fun b hb ⟨κ,bk,c,q1,q2⟩=>by
  have:=hm κ bk q1
  rw [q2] at this
  exact this.at.not hb,hS,[],fun d h=>(by cases h),List.nodup_nil⟩
 let b:Frame:={ (default:Frame) with fn:=f,kind:=.normal,roundOf:=none }
 have hl:vs.size=args.length:=by have:=(iP fun _=>false).1; simpa using this
 have N2:Frame.enter P f vs .normal=b.atR { tmps:=vs++Array.replicate (fn.ntmps - vs.size) undef,defers:=[] } [.code body]:=by
  simp [Frame.enter,Frame.atR,hf,hb,b]
 have Ch:∀ t,t < args.length→(vs++Array.replicate (fn.ntmps - vs.size) undef).getD t undef=vs.toList.getD t undef:=fun t ht=>by
  rw [← cz]
  simp only [Array.getD_eq_getD_getElem?]
  rw [Array.getElem?_append_left (by omega)]
 have dP:kR C ⟨di 0 args,cj⟩ { tmps:=vs++Array.replicate (fn.ntmps - vs.size) undef,defers:=[] } w:=by
  refine ⟨S,μ,fun ν=>⟨by simp [C]; omega,rfl,fun t=>?_,hm,hi,fun κ bk q c h1 h2=>.inr ⟨κ,bk,c,h1,h2⟩,fun _ hb=>hb,fun _ hb=>.inl hb,hS,Kept.refl _ _⟩⟩
  simp only [St.toM,St.get,rQ,Nat.zero_le,if_true,Nat.sub_zero]
  by_cases ht:t < args.length
  ·rw [List.getElem?_eq_getElem ht]
   have h2:=(iP ν).2 t ht
   rw [show args.getD t default=args[t] from by simp [List.getD,ht]] at h2
   rw [Ch t ht]
   exact h2
  ·rw [List.getElem?_eq_none (by omega)]
   exact .any _
 obtain ⟨e,w',fr,⟨v,S',μ',e1,B,ha⟩,q2,q3,q4⟩:=h (vs++Array.replicate (fn.ntmps - vs.size) undef) C rfl rfl _ _ (fun u hu=>rfl) dP b cs rfl rfl ⟨fun _ h=>(by cases h),fun _=>rfl⟩
 exact ⟨e,w',fr,⟨v,S',μ',e1,B.K9 (fun q hq=>hq.elim id (fun h=>by cases h)),fun p hp ν=>by rw [← Ch p.1 (Yb p hp)]; exact ha p hp ν⟩,by rw [N2]; exact q2,q3,q4⟩
abbrev Ren:=List (Nat × Option Nat)
def sx (ρ:Ren) (μ:Mu):Mu:=fun k=>match look ρ k with | some (some o)=>μ o | some none=>some none | none=>none
def ov (ρ:Ren) (κ' κ:Nat):Bool:=match look ρ κ' with | some (some o)=>Nat.beq o κ | _=>false
def LD (ρ:Ren) (κ':Nat):Bool:=match look ρ κ' with | some none=>true | _=>false
theorem vq {ρ:Ren} {κ' κ:Nat} (h:ov ρ κ' κ=true) (μ:Mu):sx ρ μ κ'=μ κ:=by
 unfold ov at h
 unfold sx
 split at h
 ·rename_i o hl
  rw [hl]
  simp only [Nat.eq_of_beq_eq_true h]
 ·cases h
theorem Tg {ρ:Ren} {κ':Nat} (h:LD ρ κ'=true) (μ:Mu):sx ρ μ κ'=some none:=by
 unfold LD at h
 unfold sx
 split at h
 ·rename_i hl; rw [hl]
 ·cases h
mutual
def oz (ρ:Ren):AV→AV→Option Prop
 | _,.any=>some True
 | .d x,.d y=>some (oS x y)
 | .own κ n,.own κ' n'=>bif ov ρ κ' κ then some (n=n') else none
 | .d (.v (.slice none 0 0)),.own κ' n'=>bif LD ρ κ' then some (n'=0) else none
 | .ptr κ o,.ptr κ' o'=>bif ov ρ κ' κ&&Nat.beq o o' then some True else none
 | .ref cs,.ref xV=>some (cs=xV)
 | .fn f l,.fn f' l'=>bif Nat.beq f f' then sy ρ l l' else none
 | .il l,.il l'=>sy ρ l l'
 | .ag l,.ag l'=>sy ρ l l'
 | .kD κ,.kD κ'=>bif ov ρ κ' κ then some True else none
 | .uO n f,.uO n' f'=>some (n=n'∧f=f')
 | .uH n f,.uH n' f'=>some (n=n'∧f=f')
 | .uH n f,.d (.sl n' f')=>some (n=n'∧f=f')
 | .qQ κ k i o,.qQ κ' k' i' o'=>bif ov ρ κ' κ&&Nat.beq k k'&&Nat.beq o o' then some (i=i') else none
 | _,_=>none
def sy (ρ:Ren):List AV→List AV→Option Prop
 | [],[]=>some True
 | x :: r,y :: s=>(match oz ρ x y,sy ρ r s with | some a,some b=>some (a∧b) | _,_=>none)
 | _,_=>none
end
def ev (ρ:Ren):aZ→aZ→Option Prop
 | .box cs,.box xV=>sy ρ cs xV
 | .row e k n f,.row e' k' n' f'=>bif Nat.beq e e'&&Nat.beq k k' then some (n=n'∧∀ i,i < n→f i=f' i) else none
 | .mp n f,.mp n' f'=>some (n=n'∧f=f')
 | .mp n f,.ml n' f'=>some (n=n'∧f=f')
 | .ml n f,.ml n' f'=>some (n=n'∧f=f')
 | .it mk n s,.it mk' n' s'=>bif ov ρ mk' mk then some (n=n'∧s=s') else none
 | .mx q,.mx q'=>some (q=q')
 | .tx q,.tx q'=>some (q=q')
 | .rx e k n q,.rx e' k' n' q'=>bif Nat.beq e e'&&Nat.beq k k' then some (n=n'∧q=q') else none
 | _,_=>none
def Et (ρ:Ren) (sl:List (Nat × AV)):List (Nat × AV)→Option Prop
 | []=>some True
 | (t,x) :: r=>(match oz ρ (St.get sl t) x,Et ρ sl r with | some a,some b=>some (a∧b) | _,_=>none)
def Cl (ρ:Ren) (lb:List (Nat × aZ)):List (Nat × aZ)→Option Prop
 | []=>some True
 | (κ,b) :: r=>(match look ρ κ,Cl ρ lb r with
  | some (some o),some p=>(match look lb o with | some c=>(match ev ρ c b with | some q=>some (q∧p) | none=>none) | none=>none)
  | some none,some p=>(match b with | .row _ _ n _=>some (n=0∧p) | _=>none)
  | _,_=>none)
def yZ:Ren→Bool
 | []=>true
 | (_,some o) :: r=>r.all (fun p=>match p.2 with | some q=>!Nat.beq q o | none=>true)&&yZ r
 | (_,none) :: r=>yZ r
section
variable {w : World} {S : Nat → Prop} {μ : Mu} {ν : Nat → Bool} {ρ : Ren}
theorem jd {α:Type} {b:Bool} {x y:α} (h:(bif b then some x else none)=some y):b=true∧x=y:=by
 cases b with
 | true=>exact ⟨rfl,Option.some.inj h⟩
 | false=>cases h
mutual
theorem sA:∀ (x y:AV) (ob:Prop),oz ρ x y=some ob→ob→∀ v,Rel w S μ ν x v→Rel w S (sx ρ μ) ν y v
 | x,y,ob,h,bz,v,hr=>by
  unfold oz at h
  split at h
  ·exact .any v
  ·simp only [Option.some.injEq] at h
   subst h
   exact .d (bz _ _ _ (eE.1 hr))
  ·obtain ⟨h1,rfl⟩:=jd h
   subst bz
   have hk:=vq h1 μ
   cases hr with
   | cR hμ=>exact .cR (by rw [hk]; exact hμ)
   | own hμ=>exact .own (by rw [hk]; exact hμ)
  ·obtain ⟨h1,rfl⟩:=jd h
   have:=bG rfl hr
   rw [this,bz]
   exact .cR (Tg h1 μ)
  ·obtain ⟨h1,-⟩:=jd h
   simp only [Bool.and_eq_true] at h1
   have e:=Nat.eq_of_beq_eq_true h1.2
   subst e
   cases hr with
   | ptr hμ=>exact .ptr (by rw [vq h1.1 μ]; exact hμ)
  ·simp only [Option.some.injEq] at h
   subst h
   subst bz
   cases hr with
   | ref cy hc h=>exact .ref cy hc h
  ·rename_i f l f' l'
   cases hb:Nat.beq f f' with
   | false=>rw [hb] at h; cases h
   | true =>
    rw [hb] at h
    have e:=Nat.eq_of_beq_eq_true hb
    subst e
    simp only [cond_true] at h
    cases hr with
    | fn hl hh =>
     obtain ⟨q1,q2⟩:=pR l l' ob h bz
     exact .fn (by omega) (fun i hi=>q2 i hi _ (hh i (by omega)))
  ·rename_i l l'
   cases hr with
   | il hl hh =>
    obtain ⟨q1,q2⟩:=pR l l' ob h bz
    exact .il (by omega) (fun i hi=>q2 i hi _ (hh i (by omega)))
  ·rename_i l l'
   cases hr with
   | ag hl hh =>
    obtain ⟨q1,q2⟩:=pR l l' ob h bz
    exact .ag (by omega) (fun i hi=>q2 i hi _ (hh i (by omega)))
  ·obtain ⟨h1,-⟩:=jd h
   cases hr with
   | kD hμ=>exact .kD (by rw [vq h1 μ]; exact hμ)
  ·simp only [Option.some.injEq] at h
   subst h
   obtain ⟨rfl,rfl⟩:=bz
   cases hr with
   | uO hd=>exact .uO hd
  ·simp only [Option.some.injEq] at h
   subst h
   obtain ⟨rfl,rfl⟩:=bz
   cases hr with
   | uH hd=>exact .uH hd
  ·simp only [Option.some.injEq] at h
   subst h
   obtain ⟨rfl,rfl⟩:=bz
   cases hr with
   | uH hd=>exact .d hd
  ·obtain ⟨h1,rfl⟩:=jd h
   subst bz
   simp only [Bool.and_eq_true] at h1
   have e1:=Nat.eq_of_beq_eq_true h1.1.2
   have e2:=Nat.eq_of_beq_eq_true h1.2
   subst e1; subst e2
   cases hr with
   | qQ hμ=>exact .qQ (by rw [vq h1.1.1 μ]; exact hμ)
  ·cases h
theorem pR:∀ (l l':List AV) (ob:Prop),sy ρ l l'=some ob→ob→l.length=l'.length∧∀ i,i < l'.length→∀ v,Rel w S μ ν (l.getD i default) v→Rel w S (sx ρ μ) ν (l'.getD i default) v
 | [],[],_,_,_=>⟨rfl,fun i hi=>absurd hi (by simp)⟩
 | x :: r,y :: s,ob,h,bz=>by
  simp only [sy] at h
  cases h1:oz ρ x y with
  | none=>rw [h1] at h; cases h
  | some a =>
   cases h2:sy ρ r s with
   | none=>rw [h1,h2] at h; cases h
   | some b =>
    rw [h1,h2] at h
    simp only [Option.some.injEq] at h
    subst h
    obtain ⟨q1,q2⟩:=pR r s b h2 bz.2
    refine ⟨by simp [q1],fun i hi=>?_⟩
    cases i with
    | zero=>simpa using sA x y a h1 bz.1
    | succ i=>simpa using q2 i (by simpa using hi)
 | [],_ :: _,_,h,_=>by simp [sy] at h
 | _ :: _,[],_,h,_=>by simp [sy] at h
end
theorem VF {b b':aZ} {ob:Prop} (h:ev ρ b b'=some ob) (bz:ob) {g c:Nat} (hb:cx w S μ b g c):cx w S (sx ρ μ) b' g c:=by
 cases b with
 | box cs =>
  cases b' with
  | row=>simp [ev] at h
  | mp=>simp [ev] at h
  | it=>simp [ev] at h
  | mx=>simp [ev] at h
  | tx=>simp [ev] at h
  | rx=>simp [ev] at h
  | ml=>simp [ev] at h
  | box xV =>
   simp only [ev] at h
   obtain ⟨cur,e,h1,h2,h3,h4⟩:=hb
   have hlen:=(pR (w:=w) (S:=S) (μ:=μ) (ν:=fun _=>false) cs xV ob h bz).1
   refine ⟨cur,e,h1,h2,by omega,fun j hj=>?_⟩
   obtain ⟨x,hx,hr⟩:=h4 j (by omega)
   exact ⟨x,hx,fun ν=>(pR (w:=w) (S:=S) (μ:=μ) (ν:=ν) cs xV ob h bz).2 j hj x (hr ν)⟩
 | row e k n f =>
  cases b' with
  | box=>simp [ev] at h
  | mp=>simp [ev] at h
  | it=>simp [ev] at h
  | mx=>simp [ev] at h
  | tx=>simp [ev] at h
  | rx=>simp [ev] at h
  | ml=>simp [ev] at h
  | row e' k' n' f' =>
   simp only [ev] at h
   obtain ⟨h1,rfl⟩:=jd h
   simp only [Bool.and_eq_true] at h1
   have e1:=Nat.eq_of_beq_eq_true h1.1
   have e2:=Nat.eq_of_beq_eq_true h1.2
   subst e1; subst e2
   obtain ⟨rfl,hf⟩:=bz
   obtain ⟨cur,q1,q2,q3,q4,q5,q6⟩:=hb
   refine ⟨cur,q1,q2,q3,q4,q5,fun i hi=>?_⟩
   rw [← hf i hi]
   exact q6 i hi
 | mp n f =>
  cases b' with
  | box=>simp [ev] at h
  | row=>simp [ev] at h
  | it=>simp [ev] at h
  | mx=>simp [ev] at h
  | tx=>simp [ev] at h
  | rx=>simp [ev] at h
  | mp n' f' =>
   simp only [ev,Option.some.injEq] at h
   subst h
   obtain ⟨rfl,rfl⟩:=bz
   exact hb
  | ml n' f' =>
   simp only [ev,Option.some.injEq] at h
   subst h
   obtain ⟨rfl,rfl⟩:=bz
   obtain ⟨cur,q1,q2,q3,q4⟩:=hb
   refine ⟨cur,n,q1,q2,q3,fun i hi=>?_⟩
   obtain ⟨e,p1,p2,p3,_,p5⟩:=q4 i hi
   exact ⟨e,p1,p2,p3,p5⟩
 | ml n f =>
  cases b' with
  | ml n' f' =>
   simp only [ev,Option.some.injEq] at h
   subst h
   obtain ⟨rfl,rfl⟩:=bz
   exact hb
  | _=>simp [ev] at h
 | it mk n s =>
  cases b' with
  | box=>simp [ev] at h
  | row=>simp [ev] at h
  | mp=>simp [ev] at h
  | mx=>simp [ev] at h
  | tx=>simp [ev] at h
  | rx=>simp [ev] at h
  | ml=>simp [ev] at h
  | it mk' n' s' =>
   simp only [ev] at h
   obtain ⟨h1,rfl⟩:=jd h
   obtain ⟨rfl,rfl⟩:=bz
   obtain ⟨mg,cc,q0,q1⟩:=hb
   exact ⟨mg,cc,by rw [vq h1 μ]; exact q0,q1⟩
 | mx =>
  cases b' with
  | mx q' =>
   simp only [ev,Option.some.injEq] at h
   subst h
   obtain rfl:=bz
   exact hb
  | _=>simp [ev] at h
 | tx =>
  cases b' with
  | tx q' =>
   simp only [ev,Option.some.injEq] at h
   subst h
   obtain rfl:=bz
   exact hb
  | _=>simp [ev] at h
 | rx e k n q =>
  cases b' with
  | rx e' k' n' q' =>
   simp only [ev] at h
   obtain ⟨h1,rfl⟩:=jd h
   simp only [Bool.and_eq_true] at h1
   have e1:=Nat.eq_of_beq_eq_true h1.1
   have e2:=Nat.eq_of_beq_eq_true h1.2
   subst e1; subst e2
   obtain ⟨rfl,rfl⟩:=bz
   exact hb
  | _=>simp [ev] at h
theorem VG {b b':aZ} {ob:Prop} (h:ev ρ b b'=some ob) (bz:ob) {y:Option (Option (Nat × Nat))} (hb:ew w S μ b y):ew w S (sx ρ μ) b' y:=by
 cases y with
 | none=>cases b <;> exact hb.elim
 | some y =>
  cases y with
  | none =>
   cases b with
   | box=>exact hb.elim
   | mp=>exact hb.elim
   | it=>exact hb.elim
   | mx=>exact hb.elim
   | tx=>exact hb.elim
   | ml=>exact hb.elim
   | rx e k n q =>
    cases b' with
    | rx e' k' n' q' =>
     simp only [ev] at h
     obtain ⟨_,rfl⟩:=jd h
     obtain ⟨rfl,rfl⟩:=bz
     exact hb
    | _=>simp [ev] at h
   | row e k n f =>
    cases b' with
    | box=>simp [ev] at h
    | mp=>simp [ev] at h
    | it=>simp [ev] at h
    | mx=>simp [ev] at h
    | tx=>simp [ev] at h
    | rx=>simp [ev] at h
    | ml=>simp [ev] at h
    | row e' k' n' f' =>
     simp only [ev] at h
     obtain ⟨_,rfl⟩:=jd h
     have:n=0:=hb
     show n'=0
     rw [← bz.1,this]
  | some gc=>obtain ⟨g,c⟩:=gc; exact (VF h bz hb.at).ok
theorem wm {lb:List (Nat × aZ)}:∀ {lb':List (Nat × aZ)} {ob:Prop},Cl ρ lb lb'=some ob→ob→∀ κ b,look lb' κ=some b →
  (∃ o c q,look ρ κ=some (some o)∧look lb o=some c∧ev ρ c b=some q∧q)∨(look ρ κ=some none∧∃ e k f,b=.row e k 0 f)
 | [],_,_,_,κ,b,hl=>by simp [look] at hl
 | (κ0,b0) :: r,ob,h,bz,κ,b,hl=>by
  simp only [Cl] at h
  split at h
  ·rename_i o p hρ hr
   split at h
   ·rename_i c hc
    split at h
    ·rename_i q hq
     simp only [Option.some.injEq] at h
     subst h
     rw [bf] at hl
     split at hl
     ·rename_i e
      subst e
      simp only [Option.some.injEq] at hl
      subst hl
      exact .inl ⟨o,c,q,hρ,hc,hq,bz.1⟩
     ·exact wm hr bz.2 κ b hl
    ·cases h
   ·cases h
  ·rename_i p hρ hr
   split at h
   ·rename_i e k n f
    simp only [Option.some.injEq] at h
    subst h
    rw [bf] at hl
    split at hl
    ·rename_i e'
     subst e'
     simp only [Option.some.injEq] at hl
     subst hl
     rw [bz.1]
     exact .inr ⟨hρ,e,k,f,rfl⟩
    ·exact wm hr bz.2 κ b hl
   ·cases h
  ·cases h
theorem AL:∀ {ρ:Ren},yZ ρ=true→∀ κ κ' o,look ρ κ=some (some o)→look ρ κ'=some (some o)→κ=κ'
 | [],_,κ,κ',o,h,_=>by simp [look] at h
 | (k0,some o0) :: r,hi,κ,κ',o,h,h'=>by
  simp only [yZ,Bool.and_eq_true,List.all_eq_true] at hi
  rw [bf] at h h'
  have no:∀ κ1,look r κ1=some (some o0)→False:=fun κ1 hk=>by
   have:=hi.1 (κ1,some o0) (fN hk)
   simp [Nat.beq_refl] at this
  split at h
  ·rename_i e1
   simp only [Option.some.injEq] at h
   split at h'
   ·rename_i e2; rw [← e1,← e2]
   ·rw [← h] at h'; exact (no κ' h').elim
  ·split at h'
   ·rename_i e2
    simp only [Option.some.injEq] at h'
    rw [← h'] at h
    exact (no κ h).elim
   ·exact AL hi.2 κ κ' o h h'
 | (k0,none) :: r,hi,κ,κ',o,h,h'=>by
  simp only [yZ] at hi
  rw [bf] at h h'
  split at h
  ·cases h
  ·split at h'
   ·cases h'
   ·exact AL hi κ κ' o h h'
theorem HM {sl:List (Nat × AV)}:∀ {sl':List (Nat × AV)} {ob:Prop},Et ρ sl sl'=some ob→ob→∀ t x,look sl' t=some x→∃ q,oz ρ (St.get sl t) x=some q∧q
 | [],_,_,_,t,x,hl=>by simp [look] at hl
 | (t0,x0) :: r,ob,h,bz,t,x,hl=>by
  simp only [Et] at h
  split at h
  ·rename_i a b h1 h2
   simp only [Option.some.injEq] at h
   subst h
   rw [bf] at hl
   split at hl
   ·rename_i e
    subst e
    simp only [Option.some.injEq] at hl
    subst hl
    exact ⟨a,h1,bz.1⟩
   ·exact HM h2 bz.2 t x hl
  ·cases h
end
theorem QT {ρ:Ren} {μ:Mu} {κ g c:Nat} (h:sx ρ μ κ=some (some (g,c))):∃ o,look ρ κ=some (some o)∧μ o=some (some (g,c)):=by
 unfold sx at h
 split at h
 ·rename_i o hl; exact ⟨o,hl,h⟩
 ·cases h
 ·cases h
theorem cG.le {C:Cx} {st st':St} {a:Act} {w:World} {S:Nat→Prop} {μ:Mu} {ν:Nat→Bool} (hs:cG C st.toM a w S μ ν) {ρ:Ren} {we AA:Prop} (hi:yZ ρ=true) (h1:Et ρ st.sl st'.sl=some we) (tW:we) (h2:Cl ρ st.lb st'.lb=some AA) (uT:AA):cG C st'.toM a w S (sx ρ μ) ν:=by
 have old:∀ κ b,look st'.lb κ=some b→∀ g c,sx ρ μ κ=some (some (g,c))→∃ o d,look ρ κ=some (some o)∧look st.lb o=some d∧μ o=some (some (g,c)):=by
  intro κ b hb g c hm
  obtain ⟨o,ho,hμ⟩:=QT hm
  rcases wm h2 uT κ b hb with ⟨o',d,q,q1,q2,_⟩ | ⟨q1,_⟩
  ·rw [ho] at q1
   simp only [Option.some.injEq] at q1
   subst q1
   exact ⟨o,d,ho,q2,hμ⟩
  ·rw [ho] at q1; cases q1
 refine ⟨hs.tmps,hs.defers,fun t=>?_,fun κ b hb=>?_,fun κ κ' b b' g c c' hb iu hm uS=>?_,fun κ b g c hb hm=>?_,hs.dR,hs.fresh,hs.bound,hs.kept⟩
 ·simp only [St.toM,St.get]
  cases hl:look st'.sl t with
  | none=>exact .any _
  | some x =>
   obtain ⟨q,q1,q2⟩:=HM h1 tW t x hl
   exact sA _ x q q1 q2 _ (hs.dN t)
 ·rcases wm h2 uT κ b hb with ⟨o,d,q,q1,q2,q3,q4⟩ | ⟨q1,e,k,f,rfl⟩
  ·have hm:sx ρ μ κ=μ o:=by simp [sx,q1]
   rw [hm]
   exact VG q3 q4 (hs.mem o d q2)
  ·have hm:sx ρ μ κ=some none:=by simp [sx,q1]
   rw [hm]
   rfl
 ·obtain ⟨o,d,x1,x2,x3⟩:=old κ b hb g c hm
  obtain ⟨o',d',y1,y2,y3⟩:=old κ' b' iu g c' uS
  have:=hs.inj o o' d d' g c c' x2 y2 x3 y3
  subst this
  exact AL hi κ κ' o x1 y1
 ·obtain ⟨o,d,x1,x2,x3⟩:=old κ b hb g c hm
  exact hs.own o d g c x2 x3
theorem AI.of {st st':St} (ρ:Ren) {we AA:Prop} (hi:yZ ρ=true) (h1:Et ρ st.sl st'.sl=some we) (tW:we) (h2:Cl ρ st.lb st'.lb=some AA) (uT:AA):AI st st':=by
 rintro C a w ⟨S,μ,dP⟩
 exact ⟨S,sx ρ μ,fun ν=>(dP ν).le hi h1 tW h2 uT⟩
theorem LF {ρ:Ren} {sl:List (Nat × AV)}:∀ {sl':List (Nat × AV)} {ob:Prop},Et ρ sl sl'=some ob→ob→∀ p,p∈sl'→∃ q,oz ρ (St.get sl p.1) p.2=some q∧q
 | [],_,_,_,p,hp=>by cases hp
 | (t0,x0) :: r,ob,h,bz,p,hp=>by
  simp only [Et] at h
  split at h
  ·rename_i a b h1 h2
   simp only [Option.some.injEq] at h
   subst h
   rcases List.mem_cons.1 hp with rfl | hp
   ·exact ⟨a,h1,bz.1⟩
   ·exact LF h2 bz.2 p hp
  ·cases h
section
variable {g : Goal} {k : List Item} {st : St}
theorem Th {C:Cx} {a:Act} {w:World} (hs:kR C st a w) (hT:im C.P g.T) (ρ:Ren) {l:List AV} {ro:List (Nat × aZ)} {ob:Ob} {we AA:Prop} (h:qY g.T st g.fn.results.toList=some (l,ro,ob)) (bz:ob.den) (hi:yZ ρ=true) (h1:oz ρ (oo l) g.res=some we) (tW:we) (h2:Cl ρ st.lb g.cj=some AA) (uT:AA) :
  ∃ v,(results g.fn a.tmps).run C.P w=.ok v w∧Jc C g.res g.cj (.returned v) w:=by
 obtain ⟨S,μ,dP⟩:=hs
 have h0:=dP fun _=>false
 obtain ⟨vs,q1,_⟩:=ng hT h0 h bz
 refine ⟨_,vp q1,_,S,sx ρ μ,rfl,?_⟩
 have hle:=h0.le (st':=⟨[],g.cj⟩) hi (by rfl) trivial h2 uT
 refine ⟨fun ν=>?_,hle.mem,hle.inj,fun κ b g c h1 h2=>(hle.own κ b g c h1 h2).imp id .inl,h0.dR,fun b hb=>(h0.fresh b hb).imp id (Or.imp id .inl),h0.bound,h0.kept.xi fun _ h=>.inl h⟩
 obtain ⟨vs',p1,p2⟩:=ng hT (dP ν) h bz
 have:vs'=vs:=by rw [q1] at p1; cases p1; rfl
 subst this
 exact sA _ _ we h1 tW _ (AK p2)
theorem G.acB (hg:g.U6) (hT:im g.P g.T) (hf:g.P.funcs[g.f]? = some g.fn) (ρ:Ren) {l:List AV} {ro:List (Nat × aZ)} {ob:Ob} {we AA:Prop} (h:qY g.T st g.fn.results.toList=some (l,ro,ob)) (bz:ob.den) (hi:yZ ρ=true) (h1:oz ρ (oo l) g.res=some we) (tW:we) (h2:Cl ρ st.lb g.cj=some AA) (uT:AA):G g [] st∧∀ k,G g (.code .ret :: k) st :=
 G.out hg hf (fun C a w c1 hs=>Th (g:=g) hs (by rw [c1]; exact hT) ρ h bz hi h1 tW h2 uT)
theorem QU {fX:List (Nat × Nat)} (hn:g.LC fX) {C:Cx} {a:Act} {w:World} (hk:g.kept a.tmps) (hs:kR C st a w) (hT:im C.P g.T) (ρ:Ren) {l:List AV} {ro:List (Nat × aZ)} {ob:Ob} {we AA ob3:Prop} (h:qY g.T st g.fn.results.toList=some (l,ro,ob)) (bz:ob.den) (hi:yZ ρ=true) (h1:oz ρ (oo l) g.res=some we) (tW:we) (h2:Cl ρ st.lb g.cj=some AA) (uT:AA) (h3:Et ρ st.sl (fX.map fun p=>(p.1,.ptr p.2 0))=some ob3) (Yt:ob3) :
  ∃ v,(results g.fn a.tmps).run C.P w=.ok v w∧LB C g.res g.cj fX g.tm (.returned v) w:=by
 obtain ⟨S,μ,dP⟩:=hs
 have h0:=dP fun _=>false
 obtain ⟨vs,q1,_⟩:=ng hT h0 h bz
 refine ⟨_,vp q1,_,S,sx ρ μ,rfl,?_,fun p hp ν=>?_⟩
 ·have hle:=h0.le (st':=⟨[],g.cj⟩) hi (by rfl) trivial h2 uT
  refine ⟨fun ν=>?_,hle.mem,hle.inj,fun κ b g c h1 h2=>(hle.own κ b g c h1 h2).imp id .inl,h0.dR,fun b hb=>(h0.fresh b hb).imp id (Or.imp id .inl),h0.bound,h0.kept.xi fun _ h=>.inl h⟩
  obtain ⟨vs',p1,p2⟩:=ng hT (dP ν) h bz
  have:vs'=vs:=by rw [q1] at p1; cases p1; rfl
  subst this
  exact sA _ _ we h1 tW _ (AK p2)
 ·obtain ⟨q,e1,e2⟩:=LF h3 Yt (p.1,.ptr p.2 0) (List.mem_map.2 ⟨p,hp,rfl⟩)
  rw [← hk p.1 (hn.pr p hp)]
  exact sA _ _ q e1 e2 _ ((dP ν).dN p.1)
theorem G.QV {fX:List (Nat × Nat)} (hg:g.LC fX) (hT:im g.P g.T) (hf:g.P.funcs[g.f]? = some g.fn) (ρ:Ren) {l:List AV} {ro:List (Nat × aZ)} {ob:Ob} {we AA ob3:Prop} (h:qY g.T st g.fn.results.toList=some (l,ro,ob)) (bz:ob.den) (hi:yZ ρ=true) (h1:oz ρ (oo l) g.res=some we) (tW:we) (h2:Cl ρ st.lb g.cj=some AA) (uT:AA) (h3:Et ρ st.sl (fX.map fun p=>(p.1,.ptr p.2 0))=some ob3) (Yt:ob3):G g [] st∧∀ k,G g (.code .ret :: k) st :=
 G.acA hg hf (fun C a w c1 hk hs=>QU (g:=g) hg hk hs (by rw [c1]; exact hT) ρ h bz hi h1 tW h2 uT h3 Yt)
end
def Yu (P:Program) (gf:FuncId) (cF:List AV) (ys:List (List AV)):Prop :=
 dX P gf=true∧∀ (w0:World) (S:Nat→Prop) (μ:Mu) (xl:Array Value) (l:Nat) (J:Nat→(Nat→Prop)→World→Prop) (Jx:(Nat→Prop)→World→Prop) (F0:Nat→Prop),
  (∀ b,S b→b < w0.heap.size)→iA w0 S→(∀ ν,dq w0 S μ ν cF xl.toList)→(∀ b,S b→¬ F0 b)→(∀ b,F0 b→b < w0.heap.size) →
  (∀ i F W W',J i F W→Kept W W' (fun b=>w0.heap.size≤b∧¬ F b∧¬ S b)→J i F W')→(∀ F W W',Jx F W→Kept W W' (fun b=>w0.heap.size≤b∧¬ F b∧¬ S b)→Jx F W') →
  (∀ i F W (vs:Array Value),i < ys.length→J i F W→(∀ ν,dq W (fun _=>False) (fun _=>none) ν (ys.getD i []) vs.toList)→YieldAt Fence.wide 0 P l vs W fun e W'=>∃ F',(∀ b,F' b→F b∨W.heap.size≤b)∧(∀ b,F' b→b < W'.heap.size)∧Kept W W' F∧((e=.returned (.bool true)∧J (i+1) F' W')∨(e=.returned (.bool false)∧Jx F' W'))) →
  J 0 F0 w0→Calls P gf (#[.func (.yield l) #[] #[]]++xl) w0 fun e w'=>(∃ v,e=.returned v)∧((∃ F,J ys.length F w')∨∃ F,Jx F w')
structure Core (A:M) (tm:Array Value) (w:World) (S:Nat→Prop) (μ:Mu) (ν:Nat→Bool):Prop where
 dN:∀ t,Rel w S μ ν (A.sl t) (tm.getD t undef)
 mem:∀ κ b,A.lb κ=some b→ew w S μ b (μ κ)
 inj:∀ κ κ' b b' g c c',A.lb κ=some b→A.lb κ'=some b'→μ κ=some (some (g,c))→μ κ'=some (some (g,c'))→κ=κ'
 bound:∀ b,S b→b < w.heap.size
def pG (A:M) (μ:Mu) (q:Nat):Prop:=∃ κ b c,A.lb κ=some b∧μ κ=some (some (q,c))
theorem cG.core {C:Cx} {A:M} {a:Act} {w:World} {S:Nat→Prop} {μ:Mu} {ν:Nat→Bool} (h:cG C A a w S μ ν):Core A a.tmps w S μ ν:=⟨h.dN,h.mem,h.inj,h.bound⟩
theorem cG.Yv {C:Cx} {A:M} {a:Act} {w:World} {S:Nat→Prop} {μ:Mu} {ν:Nat→Bool} (h:cG C A a w S μ ν) {q:Nat} (hq:pG A μ q):C.w0.heap.size≤q∨C.T0 q:=by
 obtain ⟨κ,b,c,h1,h2⟩:=hq
 exact h.own κ b q c h1 h2
theorem Core.qi {A:M} {tm:Array Value} {w:World} {S:Nat→Prop} {μ:Mu} {ν:Nat→Bool} (h:Core A tm w S μ ν) {q:Nat} (hq:pG A μ q):∃ b c,cx w S μ b q c:=by
 obtain ⟨κ,b,c,h1,h2⟩:=hq
 have:=h.mem κ b h1
 rw [h2] at this
 exact ⟨b,c,this.at⟩
theorem cx.Dx {w:World} {S:Nat→Prop} {μ:Mu} {b:aZ} {g cap:Nat} {o:Loop} (h:cx w S μ b g cap):w.heap[g]?≠some (.loop o):=by
 cases b with
 | box cs=>obtain ⟨cur,e,hg,_⟩:=h; rw [hg]; simp
 | row e k n f=>obtain ⟨cur,hg,_⟩:=h; rw [hg]; simp
 | mp n f=>obtain ⟨cur,hg,_⟩:=h; rw [hg]; simp
 | it mk n seen=>obtain ⟨mg,c,_,hg,_⟩:=h; rw [hg]; simp
 | mx=>obtain ⟨m,_,cur,hg,_⟩:=h; rw [hg]; simp
 | tx=>obtain ⟨n,f,_,cur,hg,_⟩:=h; rw [hg]; simp
 | rx=>obtain ⟨f,_,cur,hg,_⟩:=h; rw [hg]; simp
 | ml=>obtain ⟨cur,c,hg,_⟩:=h; rw [hg]; simp
theorem Core.fW {A:M} {tm tm':Array Value} {w w':World} {S:Nat→Prop} {μ:Mu} {ν:Nat→Bool} (h:Core A tm w S μ ν) (ht:∀ t,A.sl t=.any∨tm'.getD t undef=tm.getD t undef) (hS:∀ b,S b→w'.heap[b]? = w.heap[b]?) (hO:∀ q,pG A μ q→w'.heap[q]? = w.heap[q]?) (dK:w.heap.size≤w'.heap.size):Core A tm' w' S μ ν:=by
 refine ⟨fun t=>?_,fun κ b hb=>?_,h.inj,fun b hb=>Nat.lt_of_lt_of_le (h.bound b hb) dK⟩
 ·rcases ht t with e | e
  ·rw [e]; exact .any _
  ·rw [e]; exact (h.dN t).mono (fun _ x=>x) hS (fun _ _ e=>e)
 ·have hm:=h.mem κ b hb
  refine hm.mono (fun _ x=>x) hS (fun _ _ e=>e) (fun g c e=>?_)
  rw [e] at hm
  exact ⟨hO g ⟨κ,b,c,hb,e⟩,hm.at.not⟩
def Cx.at (P:Program) (nt:Nat) (w:World) (S:Nat→Prop) (A:M) (μ:Mu) (hg:iA w S) (hm:∀ κ b,A.lb κ=some b→ew w S μ b (μ κ)) (hb:∀ b,S b→b < w.heap.size) (dl:List Deferred) (XR:∀ d,d∈dl→∃ q,d = { target:=.collected q,args:=#[] }∧w.heap[q]? = some (.deferred (some []))∧¬ S q) (W8:dl.Nodup):Cx :=
 ⟨P,w,S,pG A μ,nt,hg,fun b hs ⟨κ,bk,c,h1,h2⟩=>by
  have:=hm κ bk h1
  rw [h2] at this
  exact this.at.not hs,hb,dl,fun d hd=>by
  obtain ⟨q,e,h1,h2⟩:=XR d hd
  refine ⟨q,e,h1,fun ⟨κ,bk,c,q1,q2⟩=>?_,h2⟩
  have:=hm κ bk q1
  rw [q2] at this
  exact this.at.ou h1,W8⟩
theorem Core.sim {P:Program} {nt:Nat} {A:M} {a:Act} {w:World} {S:Nat→Prop} {μ:Mu} {ν:Nat→Bool} (h:Core A a.tmps w S μ ν) (hn:a.tmps.size=nt) (hg:iA w S) (hm hb dl XR W8) (hd:a.defers=dl):cG (Cx.at P nt w S A μ hg hm hb dl XR W8) A a w S μ ν :=
 ⟨hn,hd,h.dN,h.mem,h.inj,fun κ b g c h1 h2=>.inr ⟨κ,b,c,h1,h2⟩,fun _ x=>x,fun _ x=>.inl x,h.bound,Kept.refl _ _⟩
def qN {σ β Y:Type} (f:σ→Y→β ⊕ σ):List Y→σ→β ⊕ σ
 | [],s=>.inr s
 | y :: r,s=>match f s y with
  | .inl b=>.inl b
  | .inr s'=>qN f r s'
theorem HN {σ β Y:Type} {f:σ→Y→β ⊕ σ}:∀ {l:List Y} {i:Nat} {s s1:σ} (h:i < l.length),qN f (l.take i) s=.inr s1→qN f (l.take (i+1)) s=f s1 l[i]∧(∀ b,f s1 l[i]=.inl b→qN f l s=.inl b)
 | [],i,s,s1,h,_=>absurd h (by simp)
 | y :: r,0,s,s1,_,e=>by
  simp only [List.take_zero,qN,Sum.inr.injEq] at e
  subst e
  refine ⟨?_,fun b hb=>?_⟩
  ·simp only [List.take_succ_cons,List.take_zero,qN,List.getElem_cons_zero]
   cases f s y <;> rfl
  ·simp only [List.getElem_cons_zero] at hb
   simp only [qN,hb]
 | y :: r,i+1,s,s1,h,e=>by
  simp only [List.take_succ_cons,qN] at e ⊢
  cases hf:f s y with
  | inl b=>rw [hf] at e; cases e
  | inr s' =>
   rw [hf] at e
   simp only at e ⊢
   have:=HN (l:=r) (by simpa using h) e
   simpa using this
theorem Eu {σ β Y:Type} {f:σ→Y→β ⊕ σ} {I:Nat→σ→Prop} {B:β→Prop}:∀ (l:List Y) (k:Nat),(∀ i s y,I (k+i) s→l[i]? = some y→match f s y with | .inl b=>B b | .inr s'=>I (k+i+1) s')→∀ s,I k s→match qN f l s with | .inl b=>B b | .inr s'=>I (k+l.length) s'
 | [],k,_,s,h=>h
 | y :: r,k,hf,s,h=>by
  have h1:=hf 0 s y h (by simp)
  simp only [qN]
  cases e:f s y with
  | inl b=>rw [e] at h1; exact h1
  | inr s' =>
   rw [e] at h1
   have:=Eu (I:=I) (B:=B) r (k+1) (fun i s y hs hy=>by
    have:=hf (i+1) s y (by rw [show k+(i+1)=k+1+i by omega]; exact hs) (by simpa using hy)
    rw [show k+(i+1)+1=k+1+i+1 by omega] at this
    exact this) s' h1
   rw [show k+(y :: r).length=k+1+r.length by simp; omega]
   exact this
structure Reb (C C':Cx):Prop where
 sub:∀ b,C.S0 b→C'.S0 b
 new:∀ b,C'.S0 b→C.S0 b∨C.w0.heap.size≤b∨C.T0 b
 kept:Kept C.w0 C'.w0 C.T0
 tk:∀ q,C'.TD q→C.TD q∨C.w0.heap.size≤q
theorem Jc.reb {C C':Cx} (h:Reb C C') {res:AV} {cj:List (Nat × aZ)} {e:Ending} {w:World} (hp:Jc C' res cj e w):Jc C res cj e w:=by
 obtain ⟨v,S',μ',rfl,B⟩:=hp
 refine ⟨v,S',μ',rfl,B.res,B.mem,B.inj,fun κ b g c h1 h2=>?_,fun b hb=>B.sub b (h.sub b hb),fun b hb=>?_,B.bound,(h.kept.xi fun _ x=>.inl x).trans B.kept fun b hb ht=>?_⟩
 ·rcases B.own κ b g c h1 h2 with q | q
  ·exact .inl (Nat.le_trans h.kept.size q)
  ·exact (h.tk g q).symm
 ·rcases B.new b hb with q | q | q
  ·exact (h.new b q).imp id (Or.imp id .inl)
  ·exact .inr (.inl (Nat.le_trans h.kept.size q))
  ·exact .inr ((h.tk b q).symm)
 ·exact (h.tk b ht).resolve_right (by omega)
theorem ZN.reb {P:Program} {f:FuncId} {res:AV} {cj:List (Nat × aZ)} {C C':Cx} {b:Frame} {cs:List Frame} {m:Machine} (h:Reb C C') (hz:ZN P f res cj C' b cs m):ZN P f res cj C b cs m :=
 let ⟨e,w',fr,q1,q2⟩:=hz
 ⟨e,w',fr,q1.reb h,q2⟩
def uJ:List Nat→List AV→List (Nat × AV)
 | p :: ps,x :: xs=>(p,x) :: uJ ps xs
 | _,_=>[]
def N3 (nt:Nat) (Z9:List Nat):List Nat→Bool
 | []=>true
 | p :: ps=>Nat.ble (p+1) nt&&!Z9.any (fun q=>Nat.beq q p)&&!ps.any (fun q=>Nat.beq q p)&&N3 nt Z9 ps
theorem any_beq {l:List Nat} {p:Nat} (h:(!l.any fun q=>Nat.beq q p)=true):p ∉ l:=fun hp=>by
 have:(l.any fun q=>Nat.beq q p)=true:=List.any_eq_true.2 ⟨p,hp,Nat.beq_refl p⟩
 rw [this] at h
 cases h
theorem HO {w:World} {S:Nat→Prop} {μ:Mu} {ν:Nat→Bool} {nt:Nat} {Z9:List Nat}:∀ (ps:List Nat) (xs:List AV) (vs:List Value) (t:Array Value),N3 nt Z9 ps=true→ps.length=xs.length→t.size=nt→dq w S μ ν xs vs →
  ((ps.zip vs).foldl (fun t (p:Nat × Value)=>t.setIfInBounds p.1 p.2) t).size=nt∧(∀ u,u ∉ ps→((ps.zip vs).foldl (fun t (p:Nat × Value)=>t.setIfInBounds p.1 p.2) t).getD u undef=t.getD u undef) ∧
   ∀ u x,look (uJ ps xs) u=some x→Rel w S μ ν x (((ps.zip vs).foldl (fun t (p:Nat × Value)=>t.setIfInBounds p.1 p.2) t).getD u undef)
 | [],xs,vs,t,_,_,ht,_=>⟨by simpa using ht,fun u _=>by simp,fun u x h=>by simp [uJ,look] at h⟩
 | p :: ps,[],vs,t,_,h,_,_=>absurd h (by simp)
 | p :: ps,x :: xs,[],t,_,_,_,hr=>absurd hr.1 (by simp)
 | p :: ps,x :: xs,v :: vs,t,hp,hl,ht,hr=>by
  simp only [N3,Bool.and_eq_true] at hp
  obtain ⟨⟨⟨h1,h2⟩,h3⟩,h4⟩:=hp
  have h1:=Nat.le_of_ble_eq_true h1
  have h3:=any_beq h3
  have hr':dq w S μ ν xs vs:=⟨by simpa using hr.1,fun i hi=>by simpa using hr.2 (i+1) (by simpa using hi)⟩
  obtain ⟨q1,q2,q3⟩:=HO ps xs vs (t.setIfInBounds p v) h4 (by simpa using hl) (by simpa using ht) hr'
  simp only [List.zip_cons_cons,List.foldl_cons]
  refine ⟨q1,fun u hu=>?_,fun u y hy=>?_⟩
  ·rw [q2 u (fun h=>hu (by simp [h]))]
   exact cX _ _ _ _ (fun e=>hu (by simp [e]))
  ·simp only [uJ,bf] at hy
   split at hy
   ·rename_i e
    subst e
    simp only [Option.some.injEq] at hy
    subst hy
    rw [q2 p h3,gF _ _ _ (by omega)]
    simpa using hr.2 0 (by simp)
   ·exact q3 u y hy
structure BV (w:World) (S xW S1:Nat→Prop) (A:M) (μ1:Mu) (r:Loop) (F:Nat→Prop) (W:World):Prop where
 wT:iA W S1
 sub:∀ b,S b→S1 b
 new:∀ b,S1 b→S b∨w.heap.size≤b∨xW b
 own:∀ q,pG A μ1 q→xW q∨w.heap.size≤q
 kept:Kept w W xW
 dD:W.heap[w.heap.size]? = some (.deferred (some []))
 dl:W.heap[w.heap.size+1]? = some (.loop r)
 nD:¬ S1 w.heap.size
 nl:¬ S1 (w.heap.size+1)
 F:∀ q,F q↔(pG A μ1 q∨(S1 q∧¬ S q)∨q=w.heap.size+1∨q=w.heap.size)
theorem BV.fW {w:World} {S xW S1:Nat→Prop} {A:M} {μ1:Mu} {r:Loop} {F:Nat→Prop} {W W':World} {n:Nat} {tm:Array Value} (h:BV w S xW S1 A μ1 r F W) (hc:∀ ν,Core A tm W S1 μ1 ν) (hn:w.heap.size+2≤n) (hk:Kept W W' (fun b=>n≤b∧¬ F b∧¬ S b)) :
  BV w S xW S1 A μ1 r F W'∧∀ ν,Core A tm W' S1 μ1 ν:=by
 have Vm:=hc fun _=>false
 have hS:∀ b,S1 b→W'.heap[b]? = W.heap[b]?:=fun b hb=>hk.block b (Vm.bound b hb) (fun ⟨_,h2,h3⟩=>h2 ((h.F b).2 (.inr (.inl ⟨hb,h3⟩))))
 have hO:∀ q,pG A μ1 q→W'.heap[q]? = W.heap[q]?:=fun q hq=>hk.block q (by obtain ⟨_,_,hb⟩:=Vm.qi hq; exact hb.lt) (fun ⟨_,h2,_⟩=>h2 ((h.F q).2 (.inl hq)))
 have lt:∀ {q o},W.heap[q]? = some o→q < W.heap.size:=fun e=>(Array.getElem?_eq_some_iff.1 e).1
 exact ⟨⟨h.wT.mono (fun _ x=>x) hS,h.sub,h.new,h.own,h.kept.trans hk (fun b hb ⟨h1,_⟩=>by omega),(hk.block _ (lt h.dD) (fun ⟨h1,_⟩=>by omega)).trans h.dD,(hk.block _ (lt h.dl) (fun ⟨h1,_⟩=>by omega)).trans h.dl,h.nD,h.nl,h.F⟩,
  fun ν=>(hc ν).fW (fun t=>.inr rfl) hS hO hk.size⟩
def Goal.round (g:Goal) (Z9:List Nat) (tm:Array Value) (Z:Cx→Frame→List Frame→Machine→Prop) (zs:∀ C b cs m m',Steps g.P m m'→Z C b cs m'→Z C b cs m):Goal:={ g with md:=1,pr:=Z9,tm:=tm,Z:=Z,zs:=zs }
theorem Ev {w:World} {q:Nat} {o:Obj}:Kept w (w.putObj q o) (fun b=>b=q):=⟨rfl,rfl,rfl,by simp [World.putObj],fun b _ hb=>World.putObj_heap_other hb⟩
section
open Go Go.RowKit
theorem G.rf {g:Goal} {k:List Item} {st:St} (hn:g.U6) (hz:∀ {C C' b cs m},Reb C C'→g.Z C' b cs m→g.Z C b cs m) {t:Nat} {ps:Array Tmp} {GF body:Code} {gf:FuncId} {cF:List AV}
    {Y σ β:Type} (ys:List Y) (enc:Y→List AV) (step:σ→Y→β ⊕ σ) (s0:σ) (I:Nat→σ→Prop) (HP:List (Nat × AV)) (Js:σ→St) (Jb:β→St) (id:Nat) (VH:σ→Y→St)
    (Gq:∀ s,(Js s).sl=HP) (U5:∀ b,(Jb b).sl=HP) (h0:AI st (Js s0)) (hf:St.get HP t=.fn gf cF) (aaJ:qM.kP cF=true) (hit:Yu g.P gf cF (ys.map enc))
    (Xf:N3 g.nt (HP.map (·.1)) ps.toList=true) (Sw:∀ y,y∈ys→ps.toList.length=(enc y).length) (hI0:I 0 s0) (hI:∀ i s y,I i s→ys[i]? = some y→match step s y with | .inl _=>True | .inr s'=>I (i+1) s')
    (acC:∀ s y tm Z zs,y∈ys→G (g.round (HP.map (·.1)) tm Z zs) [.beginRound,.code body] (VH s y)→G (g.round (HP.map (·.1)) tm Z zs) [.code GF,.beginRound,.code body] ⟨uJ ps.toList (enc y)++HP,(Js s).lb⟩)
    (aaK:∀ i s y tm Z zs,I i s→ys[i]? = some y→(match step s y with | .inr s'=>G (g.round (HP.map (·.1)) tm Z zs) [] (Js s') | .inl b=>∀ k',exitTo id k'=none→G (g.round (HP.map (·.1)) tm Z zs) (.code (.exit id) :: k') (Jb b))→G (g.round (HP.map (·.1)) tm Z zs) [.code body] (VH s y))
    (hk:match qN step ys s0 with | .inr s=>G g k (Js s) | .inl b=>G g (.code (.exit id) :: k) (Jb b)):G g (.code (.rangeFunc (.tmp t) ps GF body) :: k) st:=by
  intro C c1 c2 a w KB hs b cs Ck tD uI
  have Nv:b.roundOf=none:=uI.2 (by rw [hn.md]; decide)
  obtain ⟨S,μ,dP⟩:=h0 C a w hs
  have yG:=dP fun _=>false
  have Z7:a.tmps.size=g.nt:=yG.tmps.trans c2
  have hv:=yG.dN t
  simp only [St.toM,Gq s0,hf] at hv
  obtain ⟨xl,hfv,hrc⟩:∃ xl:Array Value,a.tmps.getD t undef=.func (.func gf) #[] xl∧∀ ν,dq w S μ ν cF xl.toList:=by
    generalize a.tmps.getD t undef=fv at hv
    cases hv with
    | @fn _ _ xl hl hh=>exact ⟨xl,rfl,fun ν=>dq.nu ⟨by simpa using hl,fun i hi=>by rw [← cz]; exact hh i hi⟩ aaJ⟩
  obtain ⟨wV,Jd⟩:∃ wV:LoopState→Option Code→Loop,wV=fun s pe=>{ state:=s,pending:=pe,fn:=b.fn,tmps:=a.tmps,params:=ps,assign:=GF,body:=body,defers:=w.heap.size }:=⟨_,rfl⟩
  obtain ⟨W1,hW1⟩:∃ W1,(w.alloc (.deferred (some []))).alloc (.loop (wV .ready none))=W1:=⟨_,rfl⟩
  have ael:W1.heap.size=w.heap.size+2:=by rw [← hW1]; simp
  have Ti:Kept w W1 (fun _=>False):=by
    rw [← hW1]
    exact (lF w _ _).trans (lF _ _ _) (fun _ _ x=>x)
  have hD1:W1.heap[w.heap.size]? = some (.deferred (some [])):=by
    rw [← hW1]; exact (Below.heap_alloc _ _ _ (by simp)).trans (World.alloc_heap_new w _)
  have hL1:W1.heap[w.heap.size+1]? = some (.loop (wV .ready none)):=by
    rw [← hW1]; have:=World.alloc_heap_new (w.alloc (.deferred (some []))) (.loop (wV .ready none)); rwa [World.size_alloc] at this
  let xW:Nat→Prop:=pG (Js s0).toM μ
  let J:Nat→(Nat→Prop)→World→Prop:=fun i F W=>∃ s S1 μ1,qN step (ys.take i) s0=.inr s∧I i s∧(∀ ν,Core (Js s).toM a.tmps W S1 μ1 ν)∧BV w S xW S1 (Js s).toM μ1 (wV .ready none) F W
  let Jx:(Nat→Prop)→World→Prop:=fun F W=>∃ bb S1 μ1,qN step ys s0=.inl bb∧(∀ ν,Core (Jb bb).toM a.tmps W S1 μ1 ν)∧BV w S xW S1 (Jb bb).toM μ1 (wV .done (some (.exit id))) F W
  have hS1:∀ b,S b→W1.heap[b]? = w.heap[b]?:=fun b hb=>Ti.block b (yG.bound b hb) (fun x=>x)
  let F0:Nat→Prop:=fun q=>pG (Js s0).toM μ q∨(S q∧¬ S q)∨q=w.heap.size+1∨q=w.heap.size
  have Yw:∀ ν,Core (Js s0).toM a.tmps W1 S μ ν:=fun ν=>(dP ν).core.fW (fun _=>.inr rfl) hS1 (fun q hq=>Ti.block q (by obtain ⟨_,_,hb⟩:=(dP ν).core.qi hq; exact hb.lt) (fun x=>x)) Ti.size
  have Xs:BV w S xW S (Js s0).toM μ (wV .ready none) F0 W1:=⟨yG.wT.mono (fun _ x=>x) hS1,fun _ x=>x,fun _ x=>.inl x,fun _ x=>.inl x,Ti.xi (fun _ x=>x.elim),hD1,hL1,fun h=>by have:=yG.bound _ h; omega,fun h=>by have:=yG.bound _ h; omega,fun q=>Iff.rfl⟩
  -- ONE ad6
  have Yx:∀ i F W (vs:Array Value),i < (ys.map enc).length→J i F W→(∀ ν,dq W (fun _=>False) (fun _=>none) ν ((ys.map enc).getD i []) vs.toList)→YieldAt Fence.wide 0 g.P (w.heap.size+1) vs W fun e W'=>∃ F',(∀ b,F' b→F b∨W.heap.size≤b)∧(∀ b,F' b→b < W'.heap.size)∧Kept W W' F∧((e=.returned (.bool true)∧J (i+1) F' W')∨(e=.returned (.bool false)∧Jx F' W')):=by
    rintro i F W vs hi ⟨s,S1,μ1,dM,hIs,za,hinv⟩ Xg
    have eG:i < ys.length:=by simpa using hi
    obtain ⟨y,hy⟩:∃ y,ys[i]=y:=⟨_,rfl⟩
    have hym:y∈ys:=hy ▸ List.getElem_mem eG
    have hyi:ys[i]? = some y:=by rw [List.getElem?_eq_getElem eG,hy]
    have hgy:(ys.map enc).getD i []=enc y:=by simp [List.getD,eG,hy]
    rw [hgy] at Xg
    obtain ⟨ht1,Yy⟩:=HN eG dM
    rw [hy] at ht1 Yy
    have hlen:ps.toList.length=(enc y).length:=Sw y hym
    have hvl:vs.size=ps.size:=by have:=(Xg fun _=>false).1; simp at this hlen; omega
    have R4:=run_yield (P:=g.P) (args:=vs) hinv.dl (by rw [Jd]; exact hvl)
    rw [Jd] at R4
    refine ⟨_,_,_,_,R4,trivial,fun c xV _=>?_⟩
    let br:Frame:={ (default:Frame) with fn:=b.fn,kind:=.normal,roundOf:=some (w.heap.size+1) }
    have pP:∀ tm,Frame.round (w.heap.size+1) b.fn tm GF body .normal=br.atR { tmps:=tm,defers:=[] } [.code GF,.beginRound,.code body]:=fun tm=>by simp [Frame.round,Frame.atR,br]
    -- it is acD to aem back with a bool
    suffices Tj:∃ v w',(∃ F',(∀ b,F' b→F b∨W.heap.size≤b)∧(∀ b,F' b→b < w'.heap.size)∧Kept W w' F∧((v=.bool true∧J (i+1) F' w')∨(v=.bool false∧Jx F' w')))∧Steps g.P (lone (br.atR { tmps:=(ps.zip vs).foldl (fun t (p,v)=>t.setIfInBounds p v) a.tmps,defers:=[] } [.code GF,.beginRound,.code body]) (c :: xV) W) (lone (c.finish v) xV w') by
      obtain ⟨v,w',⟨F',q1,q1b,q2,q3⟩,jD⟩:=Tj
      refine ⟨.returned v,w',⟨F',q1,q1b,q2,?_⟩,?_⟩
      · rcases q3 with ⟨rfl,q⟩ | ⟨rfl,q⟩
        · exact .inl ⟨rfl,q⟩
        · exact .inr ⟨rfl,q⟩
      · rw [pP]
        exact stepsIn_wide.2 jD
    have DP:=fun ν=>HO (w:=W) (S:=fun _=>False) (μ:=fun _=>none) (ν:=ν) ps.toList (enc y) vs.toList a.tmps Xf hlen Z7 (Xg ν)
    have htm:(ps.zip vs).foldl (fun t (p,v)=>t.setIfInBounds p v) a.tmps=(ps.toList.zip vs.toList).foldl (fun t (p:Nat × Value)=>t.setIfInBounds p.1 p.2) a.tmps:=by
      rw [← Array.foldl_toList,Array.toList_zip]
    rw [htm]
    generalize hTM:(ps.toList.zip vs.toList).foldl (fun t (p:Nat × Value)=>t.setIfInBounds p.1 p.2) a.tmps=tm at DP ⊢
    have aaL:∀ (L:List Nat) (u:Nat),N3 g.nt (HP.map (·.1)) L=true→u∈HP.map (·.1)→u ∉ L:=by
      intro L
      induction L with
      | nil=>intro u _ _ h; cases h
      | cons p L ih =>
        intro u h hu hm
        simp only [N3,Bool.and_eq_true] at h
        rcases List.mem_cons.1 hm with rfl | hm
        · exact any_beq h.1.1.2 hu
        · exact ih u h.2 hu hm
    have hpr:∀ u,u∈HP.map (·.1)→tm.getD u undef=a.tmps.getD u undef:=fun u hu=>(DP fun _=>false).2.1 u (aaL _ u Xf hu)
    -- Hz state behind Hz parameters
    have Yz:∀ ν,Core (St.toM ⟨uJ ps.toList (enc y)++HP,(Js s).lb⟩) tm W S1 μ1 ν:=fun ν=>by
      refine ⟨fun u=>?_,(za ν).mem,(za ν).inj,(za ν).bound⟩
      simp only [St.toM,St.get,qV]
      cases h1:look (uJ ps.toList (enc y)) u with
      | some x=>exact ((DP ν).2.2 u x h1).mono (fun _ x=>x.elim) (fun _ x=>x.elim) (fun _ _ e=>by cases e)
      | none =>
        simp only
        cases h2:look HP u with
        | none=>exact .any _
        | some x =>
          have:=(za ν).dN u
          simp only [St.toM,Gq,St.get,h2] at this
          rw [hpr u (mX h2)]
          exact this
    have Je:=za fun _=>false
    have nlS:∀ {q:Nat} {r:Loop},W.heap[q]? = some (.loop r)→¬ pG (Js s).toM μ1 q:=fun e h=>by obtain ⟨_,_,hb⟩:=Je.qi h; exact hb.Dx e
    have ndS:∀ {q:Nat} {r:Option (List Deferred)},W.heap[q]? = some (.deferred r)→¬ pG (Js s).toM μ1 q:=fun e h=>by obtain ⟨_,_,hb⟩:=Je.qi h; exact hb.ou e
    have hlW:w.heap.size+1 < W.heap.size:=(Array.getElem?_eq_some_iff.1 hinv.dl).1
    let C1:Cx:=Cx.at g.P g.nt W S1 (St.toM ⟨uJ ps.toList (enc y)++HP,(Js s).lb⟩) μ1 hinv.wT Je.mem Je.bound [] (fun d h=>by cases h) List.nodup_nil
    have Tk:kR C1 ⟨uJ ps.toList (enc y)++HP,(Js s).lb⟩ { tmps:=tm,defers:=[] } W:=⟨S1,μ1,fun ν=>(Yz ν).sim (DP fun _=>false).1 _ _ _ _ _ _ rfl⟩
    let Rr:Value→World→Prop:=fun v w'=>∃ F',(∀ b,F' b→F b∨W.heap.size≤b)∧(∀ b,F' b→b < w'.heap.size)∧Kept W w' F∧((v=.bool true∧J (i+1) F' w')∨(v=.bool false∧Jx F' w'))
    let Z1:Cx→Frame→Cx→List Frame→Machine→Prop:=fun CC bb C' LG m=>C'=CC→LG=c :: xV→bb=br→∃ v w',Rr v w'∧Steps g.P m (lone (c.finish v) xV w')
    have zsc:∀ CC:Cx,∀ C' bb LG m m',Steps g.P m m'→Z1 CC bb C' LG m'→Z1 CC bb C' LG m:=fun CC C' bb LG m m' jD hz e1 e2 e3=>by
      obtain ⟨v,w',q1,q2⟩:=hz e1 e2 e3
      exact ⟨v,w',q1,jD.trans q2⟩
    have aaM:∀ gg:Goal,gg.md=1→(br.roundOf=none↔gg.md≠1):=fun gg h=>⟨fun e=>by simp [br] at e,fun e=>absurd h e⟩
    refine acC s y a.tmps (fun C' bb LG m=>Z1 C1 bb C' LG m) (fun C' bb LG m m'=>zsc C1 C' bb LG m m') hym ?_ C1 rfl rfl _ W (fun u hu=>hpr u hu) Tk br (c :: xV) Ck rfl (aaM _ rfl) rfl rfl rfl
    intro C' e1 e2 a1 W' Yc hs1 bb LG _ _ _ hCC Au R8
    subst hCC; subst Au; subst R8
    obtain ⟨S2,μ2,LH⟩:=hs1
    have h2:=LH fun _=>false
    have hkW:Kept W W' (pG (Js s).toM μ1):=h2.kept
    have HC:W'.heap[w.heap.size+1]? = some (.loop (wV .ready none)):=(hkW.block _ hlW (nlS hinv.dl)).trans hinv.dl
    have hD':W'.heap[w.heap.size]? = some (.deferred (some [])):=(hkW.block _ (by omega) (ndS hinv.dD)).trans hinv.dD
    have acE:=run_beginRound (P:=g.P) HC (by rw [Jd])
    have VI:Steps g.P (lone (br.atR a1 [.beginRound,.code body]) (c :: xV) W') (lone (br.atR a1 [.code body]) (c :: xV) (W'.putObj (w.heap.size+1) (.loop { wV .ready none with state:=.busy }))):=.one (stepR_beginRound rfl acE)
    obtain ⟨W2,hW2⟩:∃ W2,W'.putObj (w.heap.size+1) (.loop { wV .ready none with state:=.busy })=W2:=⟨_,rfl⟩
    rw [hW2] at VI
    have NT:Kept W' W2 (fun q=>q=w.heap.size+1):=hW2 ▸ Ev
    have hl2:W2.heap[w.heap.size+1]? = some (.loop { wV .ready none with state:=.busy }):=by rw [← hW2]; exact World.putObj_heap_same (Array.getElem?_eq_some_iff.1 HC).1
    have YA:∀ q,S2 q→S1 q∨W.heap.size≤q∨pG (Js s).toM μ1 q:=h2.fresh
    have nl2:¬ S2 (w.heap.size+1):=fun h=>by
      rcases YA _ h with q | q | q
      · exact hinv.nl q
      · omega
      · exact nlS hinv.dl q
    have nD2:¬ S2 w.heap.size:=fun h=>by
      rcases YA _ h with q | q | q
      · exact hinv.nD q
      · omega
      · exact ndS hinv.dD q
    have YB:∀ q,pG (VH s y).toM μ2 q→W.heap.size≤q∨pG (Js s).toM μ1 q:=fun q hq=>h2.Yv hq
    have hS2:∀ q,S2 q→W2.heap[q]? = W'.heap[q]?:=fun q hq=>NT.block q (h2.bound q hq) (fun e=>nl2 (e ▸ hq))
    have nO2:¬ pG (VH s y).toM μ2 (w.heap.size+1):=fun h=>by obtain ⟨_,_,hb⟩:=h2.core.qi h; exact hb.Dx HC
    have acF:¬ pG (VH s y).toM μ2 w.heap.size:=fun h=>by obtain ⟨_,_,hb⟩:=h2.core.qi h; exact hb.ou hD'
    have N4:∀ ν,Core (VH s y).toM a1.tmps W2 S2 μ2 ν:=fun ν=>(LH ν).core.fW (fun _=>.inr rfl) hS2 (fun q hq=>NT.block q (by obtain ⟨_,_,hb⟩:=(LH ν).core.qi hq; exact hb.lt) (fun e=>nO2 (e ▸ hq))) NT.size
    have YC:iA W2 S2:=h2.wT.mono (fun _ x=>x) hS2
    let C2:Cx:=Cx.at g.P g.nt W2 S2 (VH s y).toM μ2 YC (N4 fun _=>false).mem (N4 fun _=>false).bound [] (fun d h=>by cases h) List.nodup_nil
    have LI:kR C2 (VH s y) a1 W2:=⟨S2,μ2,fun ν=>(N4 ν).sim h2.tmps _ _ _ _ _ _ h2.defers⟩
    suffices acG:Z1 C2 br C2 (c :: xV) (lone (br.atR a1 [.code body]) (c :: xV) W2) by
      obtain ⟨v,w',q1,q2⟩:=acG rfl rfl rfl
      exact ⟨v,w',q1,VI.trans q2⟩
    -- how a round ends
    have VJ:∀ (LJ:St) (jump:Option Code) (a3:Act) (W3:World) (S3:Nat→Prop) (μ3:Mu),LJ.sl=HP→(∀ u,u∈HP.map (·.1)→a3.tmps.getD u undef=a.tmps.getD u undef)→(∀ ν,cG C2 LJ.toM a3 W3 S3 μ3 ν) →
        ∃ W4 F',(Instr.endRound (w.heap.size+1) jump).run g.P W3=.ok (.bool jump.isNone) W4∧(∀ b,F' b→F b∨W.heap.size≤b)∧(∀ b,F' b→b < W4.heap.size)∧Kept W W4 F∧(∀ ν,Core LJ.toM a.tmps W4 S3 μ3 ν)∧BV w S xW S3 LJ.toM μ3 (wV (if jump.isNone then .ready else .done) jump) F' W4:=by
      intro LJ jump a3 W3 S3 μ3 hE acH LI
      have h3:=LI fun _=>false
      have YD:Kept W2 W3 (pG (VH s y).toM μ2):=h3.kept
      have hl3:W3.heap[w.heap.size+1]? = some (.loop { wV .ready none with state:=.busy }):=(YD.block _ (Array.getElem?_eq_some_iff.1 hl2).1 nO2).trans hl2
      have hD2:W2.heap[w.heap.size]? = some (.deferred (some [])):=(NT.block _ (by have:=hkW.size; omega) (by omega)).trans hD'
      have hD3:W3.heap[w.heap.size]? = some (.deferred (some [])):=(YD.block _ (Array.getElem?_eq_some_iff.1 hD2).1 acF).trans hD2
      have her:=run_endRound (P:=g.P) jump hl3
      obtain ⟨W4,hW4⟩:∃ W4,W3.putObj (w.heap.size+1) (.loop { ({ wV .ready none with state:=.busy }:Loop) with state:=if jump.isNone then .ready else .done,pending:=jump })=W4:=⟨_,rfl⟩
      rw [hW4] at her
      have QW:Kept W3 W4 (fun q=>q=w.heap.size+1):=hW4 ▸ Ev
      have aaN:W.heap.size≤W2.heap.size:=Nat.le_trans hkW.size NT.size
      have VK:∀ q,S3 q→S1 q∨W.heap.size≤q∨pG (Js s).toM μ1 q:=fun q hq=>by
        rcases h3.fresh q hq with h | h | h
        · exact YA q h
        · exact .inr (.inl (Nat.le_trans aaN h))
        · exact .inr (YB q h)
      have aaO:∀ q,pG LJ.toM μ3 q→W.heap.size≤q∨pG (Js s).toM μ1 q:=fun q hq=>by
        rcases h3.Yv hq with h | h
        · exact .inl (Nat.le_trans aaN h)
        · exact YB q h
      have nl3:¬ S3 (w.heap.size+1):=fun h=>by
        rcases VK _ h with q | q | q
        · exact hinv.nl q
        · omega
        · exact nlS hinv.dl q
      have nD3:¬ S3 w.heap.size:=fun h=>by
        rcases VK _ h with q | q | q
        · exact hinv.nD q
        · omega
        · exact ndS hinv.dD q
      have nO3:¬ pG LJ.toM μ3 (w.heap.size+1):=fun h=>by obtain ⟨_,_,hb⟩:=h3.core.qi h; exact hb.Dx hl3
      have hS4:∀ q,S3 q→W4.heap[q]? = W3.heap[q]?:=fun q hq=>QW.block q (h3.bound q hq) (fun e=>nl3 (e ▸ hq))
      have hwW:w.heap.size≤W.heap.size:=hinv.kept.size
      have hKF:Kept W W4 F:=by
        refine ((((hkW.xi (fun q hq=>(hinv.F q).2 (.inl hq))).trans NT (T':=fun q=>q=w.heap.size+1) (fun q _ e=>(hinv.F q).2 (.inr (.inr (.inl e))))).trans YD (fun q hq h=>?_)).trans QW (fun q _ e=>(hinv.F q).2 (.inr (.inr (.inl e)))))
        rcases YB q h with h | h
        · omega
        · exact (hinv.F q).2 (.inl h)
      refine ⟨W4,fun q=>pG LJ.toM μ3 q∨(S3 q∧¬ S q)∨q=w.heap.size+1∨q=w.heap.size,her,fun q hq=>?_,fun q hq=>?_,hKF,fun ν=>?_,?_⟩
      · rcases hq with h | ⟨h,iw⟩ | h | h
        · exact (aaO q h).symm.imp (fun h=>(hinv.F q).2 (.inl h)) (fun x=>x)
        · rcases VK q h with h | h | h
          · exact .inl ((hinv.F q).2 (.inr (.inl ⟨h,iw⟩)))
          · exact .inr h
          · exact .inl ((hinv.F q).2 (.inl h))
        · exact .inl ((hinv.F q).2 (.inr (.inr (.inl h))))
        · exact .inl ((hinv.F q).2 (.inr (.inr (.inr h))))
      · have aen:=QW.size
        have h3l:=(Array.getElem?_eq_some_iff.1 hl3).1
        rcases hq with h | ⟨h,_⟩ | h | h
        · obtain ⟨_,_,hb⟩:=h3.core.qi h
          have:=hb.lt
          omega
        · have:=h3.bound q h
          omega
        · omega
        · omega
      · refine (LI ν).core.fW (fun u=>?_) hS4 (fun q hq=>QW.block q (by obtain ⟨_,_,hb⟩:=(LI ν).core.qi hq; exact hb.lt) (fun e=>nO3 (e ▸ hq))) QW.size
        simp only [St.toM,hE,St.get]
        cases vZ:look HP u with
        | none=>exact .inl rfl
        | some x=>exact .inr (acH u (mX vZ)).symm
      · refine ⟨h3.wT.mono (fun _ x=>x) hS4,fun q hq=>h3.dR q (h2.dR q (hinv.sub q hq)),fun q hq=>?_,fun q hq=>?_,?_,(QW.block _ (Array.getElem?_eq_some_iff.1 hD3).1 (by omega)).trans hD3,?_,nD3,nl3,fun q=>Iff.rfl⟩
        · rcases VK q hq with h | h | h
          · exact hinv.new q h
          · exact .inr (.inl (Nat.le_trans hwW h))
          · exact .inr (hinv.own q h).symm
        · rcases aaO q hq with h | h
          · exact .inr (Nat.le_trans hwW h)
          · exact hinv.own q h
        · refine hinv.kept.trans hKF (fun q hq h=>?_)
          rcases (hinv.F q).1 h with h | ⟨h,iw⟩ | h | h
          · exact (hinv.own q h).resolve_right (by omega)
          · rcases hinv.new q h with h | h | h
            · exact absurd h iw
            · omega
            · exact h
          · omega
          · omega
        · rw [← hW4]
          have:=World.putObj_heap_same (o:=.loop { ({ wV .ready none with state:=.busy }:Loop) with state:=if jump.isNone then .ready else .done,pending:=jump }) (Array.getElem?_eq_some_iff.1 hl3).1
          rw [this,Jd]
    refine aaK i s y a.tmps (fun C' bb LG m=>Z1 C2 bb C' LG m) (fun C' bb LG m m'=>zsc C2 C' bb LG m m') hIs hyi ?_ C2 rfl rfl a1 W2 Yc LI br (c :: xV) Ck rfl (aaM _ rfl)
    cases jD:step s y with
    | inr s' =>
      simp only
      intro C' e1 e2 a3 W3 hk3 hs3 bb LG _ _ _ hCC Au R8
      subst hCC; subst Au; subst R8
      obtain ⟨S3,μ3,N5⟩:=hs3
      obtain ⟨W4,F',q1,q2,q2b,q3,q4,q5⟩:=VJ (Js s') none a3 W3 S3 μ3 (Gq s') (fun u hu=>hk3 u hu) N5
      have acI:I (i+1) s':=by have:=hI i s y hIs hyi; rw [jD] at this; exact this
      exact ⟨.bool true,W4,⟨F',q2,q2b,q3,.inl ⟨rfl,s',S3,μ3,by rw [ht1,jD],acI,q4,q5⟩⟩,.one (stepR_round_end rfl rfl q1)⟩
    | inl bv =>
      simp only
      intro k' hx C' e1 e2 a3 W3 hk3 hs3 bb LG _ _ _ hCC Au R8
      subst hCC; subst Au; subst R8
      obtain ⟨S3,μ3,N5⟩:=hs3
      obtain ⟨W4,F',q1,q2,q2b,q3,q4,q5⟩:=VJ (Jb bv) (some (.exit id)) a3 W3 S3 μ3 (U5 bv) (fun u hu=>hk3 u hu) N5
      exact ⟨.bool false,W4,⟨F',q2,q2b,q3,.inr ⟨rfl,bv,S3,μ3,Yy bv jD,q4,q5⟩⟩,.one (stepR_round_exit rfl rfl hx q1)⟩
  -- THE aeo
  have aaP:=hit.2 W1 S μ xl (w.heap.size+1) J Jx F0 (fun b hb=>Nat.lt_of_lt_of_le (yG.bound b hb) Ti.size) Xs.wT (fun ν=>⟨(hrc ν).1,fun i hi=>((hrc ν).2 i hi).mono (fun _ x=>x) hS1 (fun _ _ e=>e)⟩)
    (fun q hq h=>by
      rcases h with h | ⟨_,h⟩ | h | h
      · obtain ⟨_,_,hb⟩:=yG.core.qi h
        exact hb.not hq
      · exact h hq
      · have:=yG.bound q hq; omega
      · have:=yG.bound q hq; omega)
    (fun q h=>by
      rcases h with h | ⟨h,h'⟩ | h | h
      · obtain ⟨_,_,hb⟩:=yG.core.qi h
        have:=hb.lt
        omega
      · exact absurd h h'
      · omega
      · omega)
    (fun i F W W' hJ mZ=>by
      obtain ⟨s,S1,μ1,q1,q2,q3,q4⟩:=hJ
      obtain ⟨r1,r2⟩:=q4.fW q3 (n:=W1.heap.size) (by omega) mZ
      exact ⟨s,S1,μ1,q1,q2,r2,r1⟩)
    (fun F W W' hJ mZ=>by
      obtain ⟨s,S1,μ1,q1,q3,q4⟩:=hJ
      obtain ⟨r1,r2⟩:=q4.fW q3 (n:=W1.heap.size) (by omega) mZ
      exact ⟨s,S1,μ1,q1,r2,r1⟩)
    Yx ⟨s0,S,μ,by simp [qN],hI0,Yw,Xs⟩
  let fr1:Frame:=b.atR { a with defers:=[{ target:=.collected w.heap.size,args:=#[] }]++a.defers } (.inRangeFunc (w.heap.size+1) :: k)
  obtain ⟨e,w',fr,⟨⟨v,rfl⟩,hJJ⟩,YE,aep,YF⟩:=aaP (fr1 :: cs)
  have Qr:(Instr.enterLoop b.fn a.tmps ps GF body b.roundOf).run g.P w=.ok (w.heap.size+1,[{ target:=.collected w.heap.size,args:=#[] }]) W1:=by
    rw [Nv,← hW1,Jd]; exact run_enterLoop_outer _ _ _ _ _
  have SG:(resolve a.eval (rangeCall (.tmp t) (w.heap.size+1)) 0).run g.P W1=.ok { target:=.fn (.func gf) xl,args:=#[.func (.yield (w.heap.size+1)) #[] #[]] } W1:=by
    have:a.eval (.tmp t)=.func (.func gf) #[] xl:=hfv
    simp only [resolve,this]
    simp [go_sem]
  have aaQ:(invoke (.fn (.func gf) xl) #[.func (.yield (w.heap.size+1)) #[] #[]]).run g.P W1=.ok (.enter gf (#[.func (.yield (w.heap.size+1)) #[] #[]]++xl)) W1:=by
    have eg:=fun args=>tQ (w:=W1) hit.1 args
    simp [invoke,go_sem,eg]
  have acJ:Steps g.P (lone (b.atR a (.code (.rangeFunc (.tmp t) ps GF body) :: k)) cs w) (lone (Frame.enter g.P gf (#[.func (.yield (w.heap.size+1)) #[] #[]]++xl) .normal) (fr1 :: cs) W1):=.one (stepR_rangeFunc Qr SG aaQ)
  have VI:Steps g.P (lone (b.atR a (.code (.rangeFunc (.tmp t) ps GF body) :: k)) cs w) (lone (b.atR { a with defers:=[{ target:=.collected w.heap.size,args:=#[] }]++a.defers } (.endRangeFunc (w.heap.size+1) :: k)) cs w'):=by
    refine acJ.trans (Steps.trans YE (.one ?_))
    rw [← finish_atR_inRangeFunc (w.heap.size+1) v]
    exact step_leave_returned YF
  -- IB comes then
  have Tl:∀ (LJ:St) (S1:Nat→Prop) (μ1:Mu) (r:Loop) (F:Nat→Prop) (k':List Item),(∀ ν,Core LJ.toM a.tmps w' S1 μ1 ν)→BV w S xW S1 LJ.toM μ1 r F w'→r.state≠.busy→(r.pending.map Item.code).toList++k=k'→G g k' LJ→g.Z C b cs (lone (b.atR a (.code (.rangeFunc (.tmp t) ps GF body) :: k)) cs w):=by
    intro LJ S1 μ1 r F k' za hinv aaR mZ hG
    have hel:=run_endLoop (P:=g.P) hinv.dl aaR
    have YG:=Steps.trans VI (.one (stepR_endRangeFunc hel))
    rw [mZ] at YG
    obtain ⟨W5,hW5⟩:∃ W5,w'.putObj (w.heap.size+1) (.loop { r with state:=.exhausted })=W5:=⟨_,rfl⟩
    rw [hW5] at YG
    have NT:Kept w' W5 (fun q=>q=w.heap.size+1):=hW5 ▸ Ev
    have Vm:=za fun _=>false
    have nO:¬ pG LJ.toM μ1 (w.heap.size+1):=fun h=>by obtain ⟨_,_,hb⟩:=Vm.qi h; exact hb.Dx hinv.dl
    have hS5:∀ q,S1 q→W5.heap[q]? = w'.heap[q]?:=fun q hq=>NT.block q (Vm.bound q hq) (fun e=>hinv.nl (e ▸ hq))
    have N6:∀ ν,Core LJ.toM a.tmps W5 S1 μ1 ν:=fun ν=>(za ν).fW (fun _=>.inr rfl) hS5 (fun q hq=>NT.block q (by obtain ⟨_,_,hb⟩:=(za ν).qi hq; exact hb.lt) (fun e=>nO (e ▸ hq))) NT.size
    have hk5:Kept w W5 xW:=hinv.kept.trans NT (fun q hq e=>by omega)
    have acK:w.heap.size < w'.heap.size:=(Array.getElem?_eq_some_iff.1 hinv.dD).1
    have acL:∀ d,d∈[({ target:=.collected w.heap.size,args:=#[] }:Deferred)]++a.defers→∃ q,d = { target:=.collected q,args:=#[] }∧W5.heap[q]? = some (.deferred (some []))∧¬ S1 q:=by
      intro d hd
      rcases List.mem_append.1 hd with hd | hd
      · simp only [List.mem_singleton] at hd
        exact ⟨w.heap.size,hd,(NT.block _ acK (by omega)).trans hinv.dD,hinv.nD⟩
      · rw [yG.defers] at hd
        obtain ⟨q,e,q1,q2⟩:=yG.QR d hd
        have hq:=(Array.getElem?_eq_some_iff.1 q1).1
        have nq:¬ xW q:=fun h=>by obtain ⟨_,_,hb⟩:=yG.core.qi h; exact hb.ou q1
        refine ⟨q,e,(hk5.block q hq nq).trans q1,fun h=>?_⟩
        rcases hinv.new q h with h | h | h
        · exact q2 h
        · omega
        · exact nq h
    have acM:([({ target:=.collected w.heap.size,args:=#[] }:Deferred)]++a.defers).Nodup:=by
      refine List.nodup_cons.2 ⟨fun hd=>?_,by rw [yG.defers]; exact C.W8⟩
      rw [yG.defers] at hd
      obtain ⟨q,e,q1,q2⟩:=yG.QR _ hd
      cases e
      have:=(Array.getElem?_eq_some_iff.1 q1).1
      omega
    let C5:Cx:=Cx.at g.P g.nt W5 S1 LJ.toM μ1 (hinv.wT.mono (fun _ x=>x) hS5) (N6 fun _=>false).mem (N6 fun _=>false).bound _ acL acM
    have aaS:kR C5 LJ { a with defers:=[{ target:=.collected w.heap.size,args:=#[] }]++a.defers } W5:=⟨S1,μ1,fun ν=>Core.sim (a:={ a with defers:=[{ target:=.collected w.heap.size,args:=#[] }]++a.defers }) (N6 ν) Z7 _ _ _ _ _ _ rfl⟩
    have YH:∀ q,xW q→C.w0.heap.size≤q∨C.T0 q:=fun q hq=>yG.Yv hq
    have hw0:C.w0.heap.size≤w.heap.size:=yG.kept.size
    refine g.zs C b cs _ _ YG (hz (C':=C5) ⟨fun q hq=>hinv.sub q (yG.dR q hq),fun q hq=>?_,yG.kept.trans hk5 (fun q hq h=>(YH q h).resolve_left (by omega)),fun q hq=>?_⟩ (hG C5 rfl rfl { a with defers:=[{ target:=.collected w.heap.size,args:=#[] }]++a.defers } W5 KB aaS b cs Ck tD uI))
    · rcases hinv.new q hq with h | h | h
      · exact yG.fresh q h
      · exact .inr (.inl (Nat.le_trans hw0 h))
      · exact .inr (YH q h)
    · rcases hq with h | h
      · rcases hinv.own q h with h | h
        · exact ((YH q h).imp (fun x=>x) .inl).symm
        · exact .inr (Nat.le_trans hw0 h)
      · rcases List.mem_append.1 h with h | h
        · simp only [List.mem_singleton,Deferred.mk.injEq,Target.collected.injEq,and_true] at h
          subst h
          exact .inr hw0
        · rw [yG.defers] at h
          exact .inl (.inr h)
  rcases hJJ with ⟨F,s,S1,μ1,q1,q2,q3,q4⟩ | ⟨F,bv,S1,μ1,q1,q3,q4⟩
  · have q1:qN step ys s0=.inr s:=by
      have e:ys.take (ys.map enc).length=ys:=by simp
      rw [e] at q1; exact q1
    rw [q1] at hk
    exact Tl (Js s) S1 μ1 _ F k q3 q4 (by rw [Jd]; simp) (by rw [Jd]; rfl) hk
  · rw [q1] at hk
    exact Tl (Jb bv) S1 μ1 _ F _ q3 q4 (by rw [Jd]; simp) (by rw [Jd]; rfl) hk

end
def Tm (ops:Array Oper):Option (Nat × Nat × Nat × Nat × Nat × Nat) :=
 match ops.toList with
 | [o1,o2,o3,o4]=>(match o1.op,o1.dst,o1.guard,o2.op,o2.dst,o2.guard with
  | .move (.tmp ts),some d1,none,.move (.tmp ti),some d2,none=>(match o3.op,o3.dst,o3.guard,o4.op,o4.dst,o4.guard with
   | .slice ty (.tmp a) (some (.tmp b)) none none,some d3,none,.call { callee:=.builtin .clear,args:=xs,argTypes:=tys,.. },none,none=>(match xs.toList,tys.toList with
    | [.tmp c],[ty']=>bif Nat.beq a d1&&Nat.beq b d2&&Nat.beq c d3&&Nat.beq ty ty'&&!Nat.beq d1 d2&&!Nat.beq ti d1 then some (ts,ti,ty,d1,d2,d3) else none
    | _,_=>none)
   | _,_,_,_,_,_=>none)
  | _,_,_,_,_,_=>none)
 | _=>none
def rR (x:Nat) (f:Nat→List D) (z:List D):Nat→List D:=fun q=>if q < x then f q else z
section
variable {C : Cx} {A : M} {a : Act} {w : World} {S : Nat → Prop} {μ : Mu} {ν : Nat → Bool}
theorem GG {P:Program} {t e ty:TypeId} {j:TypeInfo} {z:Value} {i:TI} (F:Pq P e i j z) (pC:i.zero.all uQ=true) (hu:P.underlying t=some (.slice e)) {g off m c:Nat} {cur:Array Value} {e':TypeId} (hm:0 < m)
  (hg:w.heap[g]? = some (.cells cur e' (0,0))) (hle:off+m * i.size≤cur.size) :
  (Builtin.clear_ #[t] ty #[.slice (some ⟨g,off,none⟩) m c]).run P w=.ok (.tuple #[]) (w.setRow g (cur.toList.take off++(Builtin.zeroCells z.cells m).toList++cur.toList.drop (off+m * i.size)).toArray):=by
 obtain ⟨q1,q2⟩:=ga (w:=w) (S:=fun _=>False) F.Sq
 have Vv:z.cells.size=i.size:=by have:=q1; simp only [Array.length_toList] at this; rw [this,F.xH]
 have hlen:(Builtin.zeroCells z.cells m).toList.length=m * i.size:=by simp [Builtin.zeroCells,Vv]
 have jD:=run_storeCells_at P g off e' (Builtin.zeroCells z.cells m).toList 0 cur w hg (by rw [hlen]; omega) (fun v hv=>by
  simp only [Builtin.zeroCells,Vv] at hv
  obtain ⟨q,hq,rfl⟩:∃ q,q < m * i.size∧z.cells[q % i.size]! = v:=by simpa using hv
  have IU:0 < i.size:=by
   rcases Nat.eq_zero_or_pos i.size with h0 | h0
   ·rw [h0] at hq; simp at hq
   ·exact h0
  have cI:q % i.size < i.size:=Nat.mod_lt _ IU
  have h2:=q2 (q % i.size) (by rw [F.xH]; exact cI)
  have Gx:q % i.size < z.cells.size:=by omega
  rw [getElem!_pos z.cells _ Gx]
  have e1:z.cells.toList.getD (q % i.size) undef=z.cells[q % i.size]:=by simp [List.getD,Gx]
  rw [e1] at h2
  simp only [List.all_eq_true] at pC
  exact yP (pC _ (by simp [List.getD,F.xH,cI])) h2)
 simp only [Nat.add_zero,hlen] at jD
 obtain ⟨m',rfl⟩:∃ m',m=m'+1:=⟨m - 1,by omega⟩
 simp only [Builtin.clear_,List.getElem?_toArray,List.getElem?_cons_zero,Sem.run_bind,run_underlying hu,Result.andThen_ok,zeroValue,typeInfo,run_program,F.info,Sem.run_pure,F.zero,jD]
theorem Ew {P:Program} {t e ty:TypeId} (hu:P.underlying t=some (.slice e)) (ad:Option Addr) (c:Nat):(Builtin.clear_ #[t] ty #[.slice ad 0 c]).run P w=.ok (.tuple #[]) w:=by
 cases ad <;> simp [Builtin.clear_,run_underlying hu]
theorem LK {o:Oper} (h:o.guard=none) (y):Region.wanted o y=true:=by simp [Region.wanted,h]
theorem cG.acN {st:St} (dP:∀ ν,cG C st.toM a w S μ ν) {d1 d2 d3:Nat} (v1 v2 v3:Value) :
  ∀ ν,cG C (St.toM ⟨aU [d1,d2,d3] st.sl,st.lb⟩) (((a.put (some d1) v1).put (some d2) v2).put (some d3) v3) w S μ ν:=fun ν=>by
 have h:=dP ν
 refine ⟨by simp [Act.put,h.tmps],h.defers,fun u=>?_,h.mem,h.inj,h.own,h.dR,h.fresh,h.bound,h.kept⟩
 simp only [St.toM,St.get,kQ]
 by_cases hn:u∈[d1,d2,d3]
 ·rw [if_pos hn]
  exact .any _
 ·rw [if_neg hn]
  simp only [List.mem_cons,List.not_mem_nil,or_false,not_or] at hn
  simp only [Act.put]
  rw [cX _ _ _ _ hn.2.2,cX _ _ _ _ hn.2.1,cX _ _ _ _ hn.1]
  have:=h.dN u
  simp only [St.toM,St.get] at this
  exact this
end
theorem Dy {P:Program} {ops:Array Oper} {Q:Exit→Act→World→Prop} {i:Nat} {rest:List Nat} {a:Act} {w w':World} {o:Oper} {v:Value} (ho:ops[i]? = some o) (hg:o.guard=none) (dM:(execOp a.eval o).run P w=.ok (.value v) w') (h:wpOps P ops Q rest (a.put o.dst v) w'):wpOps P ops Q (i :: rest) a w:=by
 simp only [wpOps,ho,LK hg,if_true]
 left
 unfold Oper.wp
 rw [dM]
 exact h
section
variable {g : Goal}
theorem G.HQ (hT:im g.P g.T) (hm:g.P.follows .mixedOrders=true) {K:List Item} {st:St} {id:Nat} {ops:Array Oper} {ts ti ty d1 d2 d3 κ e k n:Nat} {f:Nat→List D} {x:Int} {it i:TI} (Ja:Cj g.md g.pr ops=true) (mf:Tm ops=some (ts,ti,ty,d1,d2,d3)) (NZ:d1 < g.nt) (Eg:d2 < g.nt) (Yr:d3 < g.nt)
  (hs:St.get st.sl ts=.own κ n) (hi:St.get st.sl ti=.d (.v (.int .i64 x))) (hl:look st.lb κ=some (.row e k n f)) (ht:look g.T ty=some it) (hk:it.kind=.slice e) (he:look g.T e=some i) (mZ:k=i.size) (pC:i.zero.all uQ=true)
  (h0:0≤x) (h1:x≤n) (hg:G g K ⟨aU [d1,d2,d3] st.sl,(κ,.row e k n (rR x.toNat f i.zero)) :: aU [κ] st.lb⟩):G g (.code (.region id ops false) :: K) st:=by
 intro C c1 c2 a w KB hsb
 suffices hw:wpOps C.P ops (fun e' a' w'=>e'=.normal∧kR C ⟨aU [d1,d2,d3] st.sl,(κ,.row e k n (rR x.toNat f i.zero)) :: aU [κ] st.lb⟩ a' w') (List.range ops.size) a w by
  rw [c1] at hw
  exact G.ops hm Ja KB (.inl ⟨rfl,hw⟩) (fun a' w' eD sh=>hg C c1 c2 a' w' eD sh)
 obtain ⟨S,μ,dP⟩:=hsb
 have hz:=dP fun _=>false
 rw [← c2] at NZ Eg Yr
 rw [← c1] at hT
 subst mZ
 unfold Tm at mf
 split at mf
 ·rename_i o1 o2 o3 o4 hol
  split at mf
  ·rename_i PE Sc ti' d2' q1 q2 q3 q4 q5 q6
   split at mf
   ·rename_i YI a' b' d3' xs tys r1 r2 r3 r4 r5 r6
    split at mf
    ·rename_i c' ty2 hx hty
     rw [Bool.cond_eq_ite] at mf
     split at mf
     ·rename_i R8
      simp only [Bool.and_eq_true,Bool.not_eq_true'] at R8
      obtain ⟨⟨⟨⟨⟨b1,b2⟩,b3⟩,b4⟩,b5⟩,b6⟩:=R8
      have b1:=Nat.eq_of_beq_eq_true b1
      have b2:=Nat.eq_of_beq_eq_true b2
      have b3:=Nat.eq_of_beq_eq_true b3
      have b4:=Nat.eq_of_beq_eq_true b4
      subst b1; subst b2; subst b3; subst b4
      simp only [Option.some.injEq,Prod.mk.injEq] at mf
      obtain ⟨rfl,rfl,rfl,rfl,rfl,rfl⟩:=mf
      have n5:a'≠b':=fun e=>by rw [e,Nat.beq_refl] at b5; cases b5
      have n6:ti'≠a':=fun e=>by rw [e,Nat.beq_refl] at b6; cases b6
      have mf:ops = #[o1,o2,o3,o4]:=by cases ops; simpa using hol
      have QB:xs = #[.tmp c']:=by cases xs; simpa using hx
      have acO:tys = #[YI]:=by cases tys; simpa using hty
      subst mf; subst QB; subst acO
      show wpOps C.P #[o1,o2,o3,o4] _ [0,1,2,3] a w
      have dK:∀ (a:Act) (d:Option Nat) (x:Value),(a.put d x).tmps.size=a.tmps.size:=fun a d x=>by cases d <;> simp [Act.put]
      have QX:∀ (a:Act) (d:Nat) (x:Value),a.tmps.size=C.nt→d < C.nt→(a.put (some d) x).eval (.tmp d)=x:=fun a d x h1 h2=>by
       show (a.tmps.setIfInBounds d x).getD d undef=x
       exact gF _ _ _ (by rw [h1]; exact h2)
      have aaT:∀ (a:Act) (d u:Nat) (x:Value),u≠d→(a.put (some d) x).eval (.tmp u)=a.eval (.tmp u):=fun a d u x h=>by
       show (a.tmps.setIfInBounds d x).getD u undef=a.tmps.getD u undef
       exact cX _ _ _ _ h
      have tsz:=hz.tmps
      have Vr:=hz.dN PE
      simp only [St.toM,hs] at Vr
      have Vr:Rel w S μ (fun _=>false) (.own κ n) (a.eval (.tmp PE)):=Vr
      have R9:=hz.dN ti'
      simp only [St.toM,hi] at R9
      have R9:a.eval (.tmp ti')=.int .i64 x:=dh R9
      obtain ⟨tj,z,F⟩:=ar (hT _ _ ht)
      have mZ:=F.kind
      rw [hk] at mZ
      have hu:=dp mZ
      obtain ⟨ej,ez,E⟩:=ar (hT _ _ he)
      refine Dy (o:=o1) rfl q3 (v:=a.eval (.tmp PE)) (w':=w) (by simp [execOp,q1]) ?_
      rw [q2]
      refine Dy (o:=o2) rfl q6 (v:=.int .i64 x) (w':=w) (by simp [execOp,q4,aaT _ _ _ _ n6,R9]) ?_
      rw [q5]
      have ea:((a.put (some a') (a.eval (.tmp PE))).put (some b') (.int .i64 x)).eval (.tmp a')=a.eval (.tmp PE):=by rw [aaT _ _ _ _ n5,QX _ _ _ tsz NZ]
      have eb:((a.put (some a') (a.eval (.tmp PE))).put (some b') (.int .i64 x)).eval (.tmp b')=.int .i64 x:=QX _ _ _ (by rw [dK]; exact tsz) Eg
      have dY:=hz.mem κ _ hl
      have jD:(St.toM ⟨st.sl,(κ,.row e i.size n (rR x.toNat f i.zero)) :: aU [κ] st.lb⟩)=st.toM.set κ (some (.row e i.size n (rR x.toNat f i.zero))):=by
       unfold St.toM M.set
       congr 1
       funext q
       rw [bf,kQ]
       by_cases hq:κ=q
       ·subst hq; simp
       ·have:q ∉ [κ]:=by simp; exact fun e=>hq e.symm
        have Nt:¬ q=κ:=fun e=>hq e.symm
        simp [hq,Nt]
      have fin:∀ (v3:Value) (w':World),(∀ ν,cG C (st.toM.set κ (some (.row e i.size n (rR x.toNat f i.zero)))) a w' S μ ν)→kR C ⟨aU [a',b',c'] st.sl,(κ,.row e i.size n (rR x.toNat f i.zero)) :: aU [κ] st.lb⟩ (((a.put (some a') (a.eval (.tmp PE))).put (some b') (.int .i64 x)).put (some c') v3) w':=fun v3 w' h =>
       ⟨S,μ,cG.acN (st:=⟨st.sl,(κ,.row e i.size n (rR x.toNat f i.zero)) :: aU [κ] st.lb⟩) (fun ν=>by rw [jD]; exact h ν) _ _ v3⟩
      have same:x.toNat=n→∀ ν,cG C (st.toM.set κ (some (.row e i.size n (rR x.toNat f i.zero)))) a w S μ ν:=fun hxn ν=>by
       refine (dP ν).weaken (fun t v hv=>hv) (fun κ' b' iu=>?_)
       simp only [M.set] at iu
       by_cases hq:κ'=κ
       ·simp only [hq,if_true,Option.some.injEq] at iu
        subst iu
        refine ⟨.row e i.size n f,by rw [hq]; exact hl,fun y hy=>?_⟩
        cases y with
        | none=>exact hy
        | some y =>
         cases y with
         | none=>exact hy
         | some gc =>
          obtain ⟨gg,cap⟩:=gc
          obtain ⟨cur,y1,y2,y3,y4,y5,y6⟩:=hy.at
          refine cx.ok (b:=.row e i.size n _) ⟨cur,y1,y2,y3,y4,y5,fun q Nt=>?_⟩
          have:rR x.toNat f i.zero q=f q:=by simp only [rR]; rw [if_pos (by omega)]
          rw [this]
          exact y6 q Nt
       ·simp only [hq,if_false] at iu
        exact ⟨b',iu,fun _ hy=>hy⟩
      have Cg:∀ w,(sizeOf e).run C.P w=.ok i.size w:=fun w=>by simp [sizeOf,typeInfo,E.info,E.size]
      have Gq:∀ (ad:Option Addr) (m cap:Nat),x≤m→m≤cap→(Instr.sliceAt YI (.slice ad m cap) (some (.int .i64 x)) none none).run C.P w=.ok (.slice (if cap=x.toNat then ad else ad.map (·.add (x.toNat * i.size))) (m - x.toNat) (cap - x.toNat)) w:=fun ad m cap wo Xt=>by
       have q1:∀ (k:IntKind) (i:Int) (y:Nat) (c:BoundsCode),0≤i→i≤y→(Instr.sliceBound (.int k i) y c).run C.P w=.ok i.toNat w:=fun k i y c h0 h1=>run_sliceBound w k i y c h0 h1
       simp (disch:=omega) [Instr.sliceAt,run_underlying hu,Instr.slice,Instr.sliceBounds,q1,Cg]
      have aaU:∀ v,(Instr.sliceAt YI (a.eval (.tmp PE)) (some (.int .i64 x)) none none).run C.P w=.ok v w→(execOp ((a.put (some a') (a.eval (.tmp PE))).put (some b') (.int .i64 x)).eval o3).run C.P w=.ok (.value v) w:=fun v hv=>by
       simp only [execOp,r1,ea,eb,Option.map_some,Option.map_none,Sem.run_bind,hv,Result.andThen_ok,Sem.run_pure]
      have ec:∀ v3,(((a.put (some a') (a.eval (.tmp PE))).put (some b') (.int .i64 x)).put (some c') v3).eval (.tmp c')=v3:=fun v3=>QX _ _ _ (by rw [dK,dK]; exact tsz) Yr
      have aaV:∀ v3 w',(Builtin.clear_ #[YI] o4.type #[v3]).run C.P w=.ok (.tuple #[]) w'→(execOp (((a.put (some a') (a.eval (.tmp PE))).put (some b') (.int .i64 x)).put (some c') v3).eval o4).run C.P w=.ok (.value (.tuple #[])) w':=fun v3 w' hv=>by
       simp [execOp,r4,resolve,invoke,ec,builtin,hv]
      have done:∀ v3 w',(Instr.sliceAt YI (a.eval (.tmp PE)) (some (.int .i64 x)) none none).run C.P w=.ok v3 w→(Builtin.clear_ #[YI] o4.type #[v3]).run C.P w=.ok (.tuple #[]) w'→(∀ ν,cG C (st.toM.set κ (some (.row e i.size n (rR x.toNat f i.zero)))) a w' S μ ν) →
        wpOps C.P #[o1,o2,o3,o4] (fun e' aa w'=>e'=.normal∧kR C ⟨aU [a',b',c'] st.sl,(κ,.row e i.size n (rR x.toNat f i.zero)) :: aU [κ] st.lb⟩ aa w') [2,3] ((a.put (some a') (a.eval (.tmp PE))).put (some b') (.int .i64 x)) w:=fun v3 w' x1 x2 x3=>by
       refine Dy (o:=o3) rfl r3 (aaU v3 x1) ?_
       rw [r2]
       refine Dy (o:=o4) rfl r6 (aaV v3 w' x2) ?_
       rw [r5]
       exact ⟨rfl,fin v3 w' x3⟩
      generalize aeq:a.eval (.tmp PE)=sv at Vr done
      cases Vr with
      | @cR _ ad hμ =>
       refine done _ w (Gq ad 0 0 (by omega) (Nat.le_refl _)) ?_ (same (by omega))
       have:0 - x.toNat=0:=by omega
       rw [this]
       exact Ew hu _ _
      | @own _ _ gg cap hμ =>
       rw [hμ] at dY
       obtain ⟨cur,hgc,iw,Au,K8,Cc,kJ⟩:=dY.at
       rcases Nat.lt_or_ge x.toNat n with cI | Az
       ·have e3:(if cap=x.toNat then some (⟨gg,0,none⟩:Addr) else (some (⟨gg,0,none⟩:Addr)).map (·.add (x.toNat * i.size)))=some ⟨gg,x.toNat * i.size,none⟩:=by
         rw [if_neg (by omega)]
         simp [addr_add]
        have hmul:x.toNat * i.size+(n - x.toNat) * i.size=n * i.size:=by rw [← Nat.add_mul]; congr 1; omega
        have hle:x.toNat * i.size+(n - x.toNat) * i.size≤cur.size:=by rw [hmul,Au]; exact Nat.mul_le_mul_right _ K8
        have VL:ez.cells.size=i.size:=by have:=(ga (w:=w) (S:=S) E.Sq).1; simp only [Array.length_toList] at this; rw [this,E.xH]
        have Xu:(Builtin.zeroCells ez.cells (n - x.toNat)).toList.length=(n - x.toNat) * i.size:=by simp [Builtin.zeroCells,VL]
        have dM:=GG (P:=C.P) (t:=YI) (ty:=o4.type) (c:=cap - x.toNat) E pC hu (by omega:0 < n - x.toNat) hgc hle
        refine done _ _ ((Gq _ n cap h1 K8).trans (by rw [e3])) dM (fun ν=>(dP ν).write hl hμ (b':=.row e i.size n _) ⟨_,setRow_heap w gg cur _ e _ hgc,iw,?_,K8,Cc,fun q hq=>⟨?_,fun j hj=>?_⟩⟩)
        ·simp only [List.size_toArray,List.length_append,List.length_take,List.length_drop,Array.length_toList,Xu]
         have:n * i.size≤cap * i.size:=Nat.mul_le_mul_right _ K8
         omega
        ·simp only [rR]
         split
         ·exact (kJ q hq).1
         ·exact E.xH
        ·have hqj:q * i.size+j < n * i.size:=by
          calc q * i.size+j < q * i.size+i.size:=by omega
           _=(q+1) * i.size:=by rw [Nat.add_mul,Nat.one_mul]
           _≤n * i.size:=Nat.mul_le_mul_right _ hq
         rw [List.getElem?_toArray]
         by_cases hqx:q < x.toNat
         ·have acP:q * i.size+j < x.toNat * i.size:=by
           calc q * i.size+j < q * i.size+i.size:=by omega
            _=(q+1) * i.size:=by rw [Nat.add_mul,Nat.one_mul]
            _≤x.toNat * i.size:=Nat.mul_le_mul_right _ hqx
          obtain ⟨u,hu1,hu2⟩:=(kJ q hq).2 j hj
          refine ⟨u,?_,?_⟩
          ·rw [List.append_assoc,List.getElem?_append_left (by simp; omega),List.getElem?_take,if_pos acP]
           simpa using hu1
          ·have:rR x.toNat f i.zero q=f q:=by simp only [rR]; rw [if_pos hqx]
           rw [this]
           exact hu2.mono (fun _ x=>x) (fun b hb=>setRow_other w gg b _ (fun e=>iw (e ▸ hb)))
         ·have hxq:x.toNat * i.size≤q * i.size:=Nat.mul_le_mul_right _ (by omega)
          have Ce:q * i.size+j - x.toNat * i.size < (n - x.toNat) * i.size:=by omega
          have La:(q * i.size+j - x.toNat * i.size) % ez.cells.size=j:=by
           rw [VL,show q * i.size+j - x.toNat * i.size=i.size * (q - x.toNat)+j from by rw [Nat.mul_sub,Nat.mul_comm i.size q,Nat.mul_comm i.size x.toNat]; omega,Nat.mul_add_mod,Nat.mod_eq_of_lt hj]
          have Ar:j < ez.cells.size:=by omega
          obtain ⟨_,z2⟩:=ga (w:=w.setRow gg (cur.toList.take (x.toNat * i.size)++(Builtin.zeroCells ez.cells (n - x.toNat)).toList++cur.toList.drop (x.toNat * i.size+(n - x.toNat) * i.size)).toArray) (S:=S) E.Sq
          refine ⟨ez.cells[j],?_,?_⟩
          ·rw [List.append_assoc,List.getElem?_append_right (by simp; omega),List.getElem?_append_left (by rw [Xu]; simp; omega)]
           have:(List.take (x.toNat * i.size) cur.toList).length=x.toNat * i.size:=by simp; omega
           rw [this]
           simp only [Builtin.zeroCells,Array.getElem?_toList,Array.getElem?_map,Array.getElem?_range,VL,Ce,if_true,Option.map_some]
           rw [← VL] at La ⊢
           rw [La,getElem!_pos ez.cells j Ar]
          ·have:rR x.toNat f i.zero q=i.zero:=by simp only [rR]; rw [if_neg hqx]
           rw [this]
           have:=z2 j (by rw [E.xH]; exact hj)
           rwa [show ez.cells.toList.getD j undef=ez.cells[j] from by simp [List.getD,Ar]] at this
       ·refine done _ w (Gq _ n cap h1 K8) ?_ (same (by omega))
        have:n - x.toNat=0:=by omega
        rw [this]
        exact Ew hu _ _
     ·cases mf
    ·cases mf
   ·cases mf
  ·cases mf
 ·cases mf
end
def qO {α:Type} [Inhabited α] (cells:α→List D) (l:List α):D:=.sl l.length fun i=>cells (l.getD i default)
def cw (n:Int):List D:=[.v (.int .i64 n)]
def fZ (s:ByteArray):List D:=[.v (.string s)]
def lQ (b:Bool):List D:=[.v (.bool b)]
theorem QY {n:Int} (h1 : -9223372036854775808≤n) (h2:n≤9223372036854775807):IntKind.i64.wrap n=n:=IntWalk.i64_in n ⟨h1,h2⟩
theorem VM {α:Type} [Inhabited α] (cells:α→List D) (L M:List α) :
  (L.length+M.length=(L++M).length)∧∀ i,i < L.length+M.length→(if i < L.length then cells (L.getD i default) else cells (M.getD (i - L.length) default))=cells ((L++M).getD i default):=by
 refine ⟨by simp,fun i hi=>?_⟩
 split
 ·rename_i h
  simp [List.getD,List.getElem?_append_left h]
 ·rename_i h
  simp [List.getD,List.getElem?_append_right (Nat.le_of_not_lt h)]
def qj:List AV→List AV→Prop
 | [],[]=>True
 | x :: r,y :: s=>pF x y∧qj r s
 | _,_=>False
theorem qj.rel {w:World} {S:Nat→Prop} {μ:Mu} {ν:Nat→Bool}:∀ {l l':List AV} {vs:List Value},qj l l'→dq w S μ ν l vs→dq w S μ ν l' vs
 | [],[],_,_,h=>h
 | x :: r,y :: s,vs,h,hr=>by
  obtain ⟨h1,h2⟩:=h
  cases vs with
  | nil=>exact absurd hr.1 (by simp)
  | cons v vs =>
   have ht:dq w S μ ν r vs:=⟨by simpa using hr.1,fun i hi=>by simpa using hr.2 (i+1) (by simpa using hi)⟩
   have:=qj.rel h2 ht
   refine ⟨by simpa using this.1,fun i hi=>?_⟩
   cases i with
   | zero=>exact h1 _ _ _ _ _ (by simpa using hr.2 0 (by simp))
   | succ i=>simpa using this.2 i (by simpa using hi)
 | [],_ :: _,_,h,_=>h.elim
 | _ :: _,[],_,h,_=>h.elim
theorem kE.PF {P:Program} {f:FuncId} {args BQ:List AV} {cj eH:List (Nat × aZ)} {res:AV} (h:kE P f BQ cj res eH) (hle:qj args BQ):kE P f args cj res eH :=
 ⟨h.1,fun w S μ vs h1 hg h2 h3 h4=>h.2 w S μ vs h1 hg (fun ν=>hle.rel (h2 ν)) h3 h4⟩
mutual
inductive dy (T:List (Nat × TI)):Nat→List D→Prop
 | int {t:Nat} {i:TI} {k:IntKind} (hi:look T t=some i) (hk:i.kind=.int k) (n:Int) (h:(Lit.int k n).wf=true):dy T t [.v (.int k n)]
 | bool {t:Nat} {i:TI} (hi:look T t=some i) (hk:i.kind=.bool) (b:Bool):dy T t [.v (.bool b)]
 | str {t:Nat} {i:TI} (hi:look T t=some i) (hk:i.kind=.str) (s:ByteArray) (h:s.size≤maxLen):dy T t [.v (.string s)]
 | slice {t e:Nat} {i:TI} (hi:look T t=some i) (hk:i.kind=.slice e) (n:Nat) (f:Nat→List D) (h:∀ j,j < n→dy T e (f j)):dy T t [.sl n f]
 | struct {t:Nat} {i:TI} {fs:List (Nat × Nat)} (hi:look T t=some i) (hk:i.kind=.struct fs) (ds:List D) (h:vr T (fs.map (·.2)) ds):dy T t ds
inductive vr (T:List (Nat × TI)):List Nat→List D→Prop
 | nil:vr T [] []
 | cons {t:Nat} {ts:List Nat} (p ds:List D) (h:dy T t p) (hs:vr T ts ds):vr T (t :: ts) (p++ds)
end
def Ex (T:List (Nat × TI)):Nat→List (Nat × Nat)→Option Nat
 | off,[]=>some off
 | off,(o,t) :: r=>match look T t with | some i=>bif Nat.beq o off then Ex T (off+i.size) r else none | none=>none
def N7 (T:List (Nat × TI)) (ts:List Nat) (t:Nat):Bool:=match look T t with
  | some i=>(match i.kind with
   | .int _ | .bool | .str=>true
   | .slice e=>(ts.any fun q=>Nat.beq q e)&&(match look T e with | some j=>!Nat.beq j.size 0 | none=>false)
   | .struct fs=>(match Ex T 0 fs with | some n=>Nat.beq n i.size | none=>false)&&fs.all (fun f=>ts.any fun q=>Nat.beq q f.2)
   | _=>false)
  | none=>false
def zb (T:List (Nat × TI)) (ts:List Nat):Bool:=ts.all (N7 T ts)
theorem Jf {ts:List Nat} {t:Nat} (h:(ts.any fun q=>Nat.beq q t)=true):t∈ts:=by
 obtain ⟨q,hq,e⟩:=List.any_eq_true.1 h
 have:=Nat.eq_of_beq_eq_true e
 subst this
 exact hq
section
variable {H : Type} {enc : TypeId × Value → H} {P : Program} {w : World} {base : Nat} {spare : Nat → Bool} {held : Bool} {T : List (Nat × TI)}
def uK (w:World) (ds:List D) (cs:List Value):Prop:=ds.length=cs.length∧∀ j,j < ds.length→Rd w (fun b=>b < w.heap.size) (ds.getD j default) (cs.getD j undef)
theorem uK.one {d:D} {v:Value} (h:Rd w (fun b=>b < w.heap.size) d v):uK w [d] [v]:=⟨rfl,fun j hj=>by
 have:j=0:=by simpa using hj
 subst this
 simpa using h⟩
theorem uK.append {d1 d2:List D} {c1 c2:List Value} (h1:uK w d1 c1) (h2:uK w d2 c2):uK w (d1++d2) (c1++c2):=by
 refine ⟨by simp [h1.1,h2.1],fun j hj=>?_⟩
 by_cases h:j < d1.length
 ·have:=h1.2 j h
  have hc:j < c1.length:=by rw [← h1.1]; exact h
  simpa [List.getD,List.getElem?_append_left h,List.getElem?_append_left hc] using this
 ·have h':d1.length≤j:=Nat.le_of_not_lt h
  have hc:c1.length≤j:=by rw [← h1.1]; exact h'
  have:=h2.2 (j - d1.length) (by simp at hj; omega)
  rw [h1.1] at this
  simpa [List.getD,List.getElem?_append_right h',List.getElem?_append_right hc,h1.1] using this
theorem tY (hT:im P T) {t:Nat} {i:TI} (hi:look T t=some i):P.cellsOf t=i.size:=by
 obtain ⟨j,z,F⟩:=ar (hT _ _ hi)
 simp [Program.cellsOf,F.info,F.size]
theorem Ey (hT:im P T) (cs:List Value):∀ (fs:List (Nat × Nat)) (off n:Nat),Ex T off fs=some n→cs.length=n →
  (∀ f,f∈fs→∃ ds,dy T f.2 ds∧uK w ds ((cs.drop f.1).take (P.cellsOf f.2)))→∃ ds,vr T (fs.map (·.2)) ds∧uK w ds (cs.drop off)
 | [],off,n,hc,hl,_=>by
  simp only [Ex,Option.some.injEq] at hc
  refine ⟨[],.nil,?_⟩
  rw [List.drop_of_length_le (by omega)]
  exact ⟨rfl,fun j hj=>absurd hj (by simp)⟩
 | (o,t) :: r,off,n,hc,hl,hf=>by
  simp only [Ex] at hc
  split at hc
  ·rename_i i hi
   cases hb:Nat.beq o off with
   | false=>rw [hb] at hc; cases hc
   | true =>
    rw [hb] at hc
    have ho:=Nat.eq_of_beq_eq_true hb
    subst ho
    obtain ⟨d1,t1,r1⟩:=hf (o,t) List.mem_cons_self
    obtain ⟨d2,t2,r2⟩:=Ey hT cs r (o+i.size) n hc hl (fun f hm=>hf f (List.mem_cons_of_mem _ hm))
    refine ⟨d1++d2,.cons d1 d2 t1 t2,?_⟩
    have dK:=tY hT hi
    have e:cs.drop o=(cs.drop o).take (P.cellsOf t)++cs.drop (o+i.size):=by
     rw [← dK,← List.drop_drop,List.take_append_drop]
    rw [e]
    exact r1.append r2
  ·cases hc
theorem Ez (hT:im P T) {ts:List Nat} (pZ:zb T ts=true):∀ (n t:Nat) (cs:List Value) (x:DataW H × List MemPlace),t∈ts→DataW.trod enc P w base spare held n t cs=some x→∃ ds,dy T t ds∧uK w ds cs
 | n,t,cs,x,hm,h=>by
  have hp:=List.all_eq_true.1 pZ t hm
  simp only [N7] at hp
  split at hp
  ·rename_i i hi
   obtain ⟨tj,z,F⟩:=ar (hT _ _ hi)
   have hk:=F.kind
   split at hp
   ·rename_i k iQ
    rw [iQ] at hk
    simp only [df] at hk
    split at hk
    ·rename_i k' hu
     have:=of_decide_eq_true hk
     subst this
     obtain ⟨v,rfl,_,hw⟩:=DataW.trod_int hu h
     exact ⟨_,.int hi iQ v hw,.one (.v _ rfl)⟩
    ·cases hk
   ·rename_i iQ
    rw [iQ] at hk
    simp only [df] at hk
    split at hk
    ·rename_i hu
     obtain ⟨v,rfl,_⟩:=DataW.trod_bool hu h
     exact ⟨_,.bool hi iQ v,.one (.v _ rfl)⟩
    ·cases hk
   ·rename_i iQ
    rw [iQ] at hk
    simp only [df] at hk
    split at hk
    ·rename_i hu
     obtain ⟨v,rfl,_,hw⟩:=DataW.trod_string hu h
     exact ⟨_,.str hi iQ v hw,.one (.v _ rfl)⟩
    ·cases hk
   ·rename_i e iQ
    rw [iQ] at hk
    simp only [df] at hk
    split at hk
    ·rename_i e' hu
     have:=beq_iff_eq.1 hk
     subst this
     simp only [Bool.and_eq_true] at hp
     obtain ⟨hpe,dK⟩:=hp
     split at dK
     ·rename_i je hje
      have hce:=tY hT hje
      have IU:0 < je.size:=by
       rcases Nat.eq_zero_or_pos je.size with h0 | h0
       ·rw [h0] at dK; cases dK
       ·exact h0
      rcases DataW.trod_slice hu h with ⟨rfl,_⟩ | ⟨a,len,cap,elems,rest,n',rfl,rfl,_,hb,hlc,Cc,hel,aaW,_⟩
      ·exact ⟨[.sl 0 fun _=>[]],.slice hi iQ 0 _ (fun j hj=>absurd hj (Nat.not_lt_zero _)),.one (.nil _)⟩
      ·have each:∀ q,q < len→∃ xV,w.cells? base (a.add (q * P.cellsOf e)) (P.cellsOf e)=some xV∧∃ ds,dy T e ds∧uK w ds xV:=by
        intro q hq
        have hx:=aaW q hq
        have hs:elems[q]? = some elems[q]:=List.getElem?_eq_getElem (by omega)
        rw [hs] at hx
        cases hc:w.cells? base (a.add (q * P.cellsOf e)) (P.cellsOf e) with
        | none=>rw [hc] at hx; cases hx
        | some xV =>
         rw [hc] at hx
         exact ⟨xV,rfl,Ez hT pZ n' e xV _ (Jf hpe) hx⟩
       classical
       let g:Nat→List D:=fun q=>if hq:q < len then (each q hq).choose_spec.2.choose else []
       let vv:Nat→List Value:=fun q=>if hq:q < len then (each q hq).choose else []
       have g1:∀ q,q < len→dy T e (g q)∧uK w (g q) (vv q)∧w.cells? base (a.add (q * P.cellsOf e)) (P.cellsOf e)=some (vv q):=fun q hq=>by
        simp only [g,vv,hq,dif_pos]
        exact ⟨(each q hq).choose_spec.2.choose_spec.1,(each q hq).choose_spec.2.choose_spec.2,(each q hq).choose_spec.1⟩
       have hlen:∀ q,q < len→(g q).length=je.size:=fun q hq=>by
        obtain ⟨_,r1,c1⟩:=g1 q hq
        rw [r1.1,(World.cells?_some c1).2.1,hce]
       have Xv:len=0∨a.spot=none:=by
        rcases Nat.eq_zero_or_pos len with h0 | h0
        ·exact .inl h0
        ·right
         obtain ⟨_,_,c1⟩:=g1 0 h0
         have:=(World.cells?_some c1).2.2 0 (by omega)
         have hl:=(World.cells?_some c1).2.1
         simp only [Nat.zero_mul,Addr.add,if_true] at this
         rw [List.getElem?_eq_getElem (by omega)] at this
         unfold World.cell? at this
         cases DP:a.spot with
         | none=>rfl
         | some s =>
          rw [DP] at this
          split at this <;> simp at this
       refine ⟨[.sl len g],.slice hi iQ len g (fun q hq=>(g1 q hq).1),.one (.sl len g a cap je.size (fun q j=>(vv q).getD j undef) hlc Cc Xv hlen (fun q j hq hj=>?_) (fun q j hq hj=>(g1 q hq).2.1.2 j (by rw [hlen q hq]; exact hj)))⟩
       obtain ⟨_,r1,c1⟩:=g1 q hq
       have DP:a.spot=none:=Xv.resolve_left (by omega)
       obtain ⟨ab,ao,as⟩:=a
       simp only at DP
       subst DP
       have KC:=(World.cells?_some c1).2.2 j (by omega)
       have hl:=(World.cells?_some c1).2.1
       rw [addr_add,addr_add,hce,Nat.add_assoc,List.getElem?_eq_getElem (by omega)] at KC
       refine ⟨?_,?_⟩
       ·unfold World.cell? at KC
        split at KC
        ·rename_i hh
         exact (Array.getElem?_eq_some_iff.1 hh).1
        ·cases KC
       ·rw [KC]
        simp [List.getD,List.getElem?_eq_getElem (show j < (vv q).length by omega)]
     ·cases dK
    ·cases hk
   ·rename_i fs iQ
    rw [iQ] at hk
    simp only [df] at hk
    split at hk
    ·rename_i gs hu
     have KV:=beq_iff_eq.1 hk
     simp only [Bool.and_eq_true,List.all_eq_true] at hp
     obtain ⟨YJ,oe⟩:=hp
     split at YJ
     ·rename_i tot acQ
      have htt:=Nat.eq_of_beq_eq_true YJ
      subst htt
      obtain ⟨xs,n',rfl,_,hl,QE,Cd⟩:=DataW.trod_struct hu h
      have hfs:∀ f,f∈fs→∃ ds,dy T f.2 ds∧uK w ds ((cs.drop f.1).take (P.cellsOf f.2)):=fun f hm=>by
       have KA:=hm
       rw [← KV] at hm
       simp only [List.mem_map] at hm
       obtain ⟨fd,hfd,rfl⟩:=hm
       obtain ⟨ix,jG,Az⟩:=List.getElem_of_mem hfd
       have hg:gs[ix]? = some fd:=by
        rw [← Az]
        simp only [Array.length_toList] at jG
        simp [jG]
       have hx:=Cd ix fd hg
       have acR:ix < xs.length:=by rw [QE]; simpa using jG
       rw [List.getElem?_eq_getElem acR] at hx
       exact Ez hT pZ n' fd.type _ _ (Jf (oe _ KA)) hx
      obtain ⟨ds,q1,q2⟩:=Ey (w:=w) hT cs fs 0 i.size acQ (by rw [hl,tY hT hi]) hfs
      exact ⟨ds,.struct hi iQ ds q1,by simpa using q2⟩
     ·cases YJ
    ·cases hk
   ·cases hp
  ·cases hp
termination_by n=>n
theorem dy.zc {t:Nat} {i:TI} {k:IntKind} {ds:List D} (hi:look T t=some i) (hk:i.kind=.int k) (h:dy T t ds):∃ n,ds=[.v (.int k n)]∧(Lit.int k n).wf=true:=by
 cases h with
 | int eG eD n h=>rw [hi] at eG; cases eG; rw [hk] at eD; cases eD; exact ⟨n,rfl,h⟩
 | bool eG eD=>rw [hi] at eG; cases eG; rw [hk] at eD; cases eD
 | str eG eD=>rw [hi] at eG; cases eG; rw [hk] at eD; cases eD
 | slice eG eD=>rw [hi] at eG; cases eG; rw [hk] at eD; cases eD
 | struct eG eD=>rw [hi] at eG; cases eG; rw [hk] at eD; cases eD
theorem dy.Tn {t:Nat} {i:TI} {ds:List D} (hi:look T t=some i) (hk:i.kind=.bool) (h:dy T t ds):∃ b,ds=[.v (.bool b)]:=by
 cases h with
 | int eG eD=>rw [hi] at eG; cases eG; rw [hk] at eD; cases eD
 | bool eG eD b=>exact ⟨b,rfl⟩
 | str eG eD=>rw [hi] at eG; cases eG; rw [hk] at eD; cases eD
 | slice eG eD=>rw [hi] at eG; cases eG; rw [hk] at eD; cases eD
 | struct eG eD=>rw [hi] at eG; cases eG; rw [hk] at eD; cases eD
theorem dy.PG {t:Nat} {i:TI} {ds:List D} (hi:look T t=some i) (hk:i.kind=.str) (h:dy T t ds):∃ s,ds=[.v (.string s)]∧s.size≤maxLen:=by
 cases h with
 | int eG eD=>rw [hi] at eG; cases eG; rw [hk] at eD; cases eD
 | bool eG eD=>rw [hi] at eG; cases eG; rw [hk] at eD; cases eD
 | str eG eD s h=>exact ⟨s,rfl,h⟩
 | slice eG eD=>rw [hi] at eG; cases eG; rw [hk] at eD; cases eD
 | struct eG eD=>rw [hi] at eG; cases eG; rw [hk] at eD; cases eD
theorem dy.gh {t e:Nat} {i:TI} {ds:List D} (hi:look T t=some i) (hk:i.kind=.slice e) (h:dy T t ds):∃ n f,ds=[.sl n f]∧∀ j,j < n→dy T e (f j):=by
 cases h with
 | int eG eD=>rw [hi] at eG; cases eG; rw [hk] at eD; cases eD
 | bool eG eD=>rw [hi] at eG; cases eG; rw [hk] at eD; cases eD
 | str eG eD=>rw [hi] at eG; cases eG; rw [hk] at eD; cases eD
 | slice eG eD n f h=>rw [hi] at eG; cases eG; rw [hk] at eD; cases eD; exact ⟨n,f,rfl,h⟩
 | struct eG eD=>rw [hi] at eG; cases eG; rw [hk] at eD; cases eD
theorem dy.cC {t:Nat} {i:TI} {fs:List (Nat × Nat)} {ds:List D} (hi:look T t=some i) (hk:i.kind=.struct fs) (h:dy T t ds):vr T (fs.map (·.2)) ds:=by
 cases h with
 | int eG eD=>rw [hi] at eG; cases eG; rw [hk] at eD; cases eD
 | bool eG eD=>rw [hi] at eG; cases eG; rw [hk] at eD; cases eD
 | str eG eD=>rw [hi] at eG; cases eG; rw [hk] at eD; cases eD
 | slice eG eD=>rw [hi] at eG; cases eG; rw [hk] at eD; cases eD
 | struct eG eD ds h=>rw [hi] at eG; cases eG; rw [hk] at eD; cases eD; exact h
theorem vr.cons_inv {t:Nat} {ts:List Nat} {ds:List D} (h:vr T (t :: ts) ds):∃ p r,ds=p++r∧dy T t p∧vr T ts r:=by
 cases h with
 | cons p r h hs=>exact ⟨p,r,rfl,h,hs⟩
theorem vr.fy {ds:List D} (h:vr T [] ds):ds=[]:=by cases h; rfl
end
section
open Go Go.ChangeShapes Go.WideShapes Go.ChangeAt Go.RowKit
def aH (l l':List D):Prop:=l.length=l'.length∧∀ j,j < l.length→oS (l.getD j default) (l'.getD j default)
theorem aH.refl (l:List D):aH l l:=⟨rfl,fun _ _=>oS.rfl'⟩
theorem aH.nil:aH [] []:=.refl _
theorem aH.one {d d':D} (h:oS d d'):aH [d] [d']:=⟨rfl,fun j hj=>by
 have:j=0:=by simpa using hj
 subst this
 simpa using h⟩
theorem aH.append {p p' r r':List D} (h1:aH p p') (h2:aH r r'):aH (p++r) (p'++r'):=by
 refine ⟨by simp [h1.1,h2.1],fun j hj=>?_⟩
 by_cases h:j < p.length
 ·have h':j < p'.length:=by rw [← h1.1]; exact h
  simpa [List.getD,List.getElem?_append_left h,List.getElem?_append_left h'] using h1.2 j h
 ·have hh:p.length≤j:=Nat.le_of_not_lt h
  have h':p'.length≤j:=by rw [← h1.1]; exact hh
  have:=h2.2 (j - p.length) (by simp at hj; omega)
  rw [List.getD,List.getD,List.getElem?_append_right hh,List.getElem?_append_right h',← h1.1]
  exact this
theorem aH.cons {d d':D} {r r':List D} (h1:oS d d') (h2:aH r r'):aH ([d]++r) (d' :: r'):=aH.append (aH.one h1) h2
theorem aH.agg {l l':List D} (h:aH l l'):oS (.agg l) (.agg l'):=oS.agg h.1 h.2
theorem oS.Xw {n:Nat} {f g:Nat→List D} (h:∀ i,i < n→aH (f i) (g i)):oS (.sl n f) (.sl n g):=by
 intro w S x hr
 cases hr with
 | nil=>exact .nil g
 | sl _ _ a cap k cy hc hm hs hk aJ hh =>
  exact .sl n g a cap k cy hc hm hs (fun i hi=>by rw [← (h i hi).1]; exact hk i hi) aJ (fun i j hi hj=>(h i hi).2 j (by rw [hk i hi]; exact hj) w S _ (hh i j hi hj))
theorem lj {T:List (Nat × TI)} {α:Type} [Inhabited α] (cells:α→List D) (ok:α→Prop) {e:Nat} (hof:∀ ds,dy T e ds→∃ c,aH ds (cells c)∧ok c) {n:Nat} {f:Nat→List D} (h:∀ j,j < n→dy T e (f j)) :
  ∃ l:List α,oS (.sl n f) (qO cells l)∧l.length=n∧∀ x,x∈l→ok x:=by
 classical
 let g:Nat→α:=fun j=>if hj:j < n then (hof _ (h j hj)).choose else default
 have hg:∀ j,j < n→aH (f j) (cells (g j))∧ok (g j):=fun j hj=>by
  simp only [g,hj,dif_pos]
  exact (hof _ (h j hj)).choose_spec
 refine ⟨(List.range n).map g,?_,by simp,fun x hx=>?_⟩
 ·have e:qO cells ((List.range n).map g)=.sl n fun i=>cells (((List.range n).map g).getD i default):=by simp [qO]
  rw [e]
  refine oS.Xw fun i hi=>?_
  have:((List.range n).map g).getD i default=g i:=by simp [List.getD,hi]
  rw [this]
  exact (hg i hi).1
 ·simp only [List.mem_map,List.mem_range] at hx
  obtain ⟨j,hj,rfl⟩:=hx
  exact (hg j hj).2
def cP (n:Int):Prop:=-9223372036854775808≤n∧n≤9223372036854775807
theorem VN {n:Int} (h:(Lit.int .i64 n).wf=true):cP n:=by
 simpa [Lit.wf,IntKind.min,IntKind.max,cP,IntKind.bits,IntKind.signed] using h
def Tp (T:List (Nat × TI)) (t:Nat) (ds:List D):AV :=
 match look T t with
 | some i=>(match i.kind with | .struct _=>.d (.agg ds) | _=>.d (ds.getD 0 default))
 | none=>.any
def tZ (T:List (Nat × TI)):List Nat→List (List D)→List AV
 | t :: ts,d :: ds=>Tp T t d :: tZ T ts ds
 | _,_=>[]
def Jg (T:List (Nat × TI)):List Nat→List (List D)→Prop
 | [],[]=>True
 | t :: ts,d :: ds=>dy T t d∧Jg T ts ds
 | _,_=>False
section
variable {H : Type} {enc : TypeId × Value → H} {P : Program} {W : World} {T : List (Nat × TI)}
theorem VO (hT:im P T) {cl:List Nat} (pZ:zb T cl=true) {t:Nat} (hm:t∈cl) {v:Value} {d:DataW H} {ps:List MemPlace} {base:Nat} (hv:Value.okWide P W .any base t v) (h:DataW.Trod enc P W 0 (fun _=>true) true t v d ps) :
  ∃ ds,dy T t ds∧∀ μ ν,Rel W (fun b=>b < W.heap.size) μ ν (Tp T t ds) v:=by
 obtain ⟨fuel,h⟩:=h
 obtain ⟨ds,h1,h2⟩:=Ez hT pZ _ t _ _ hm h
 have hp:=List.all_eq_true.1 pZ t hm
 refine ⟨ds,h1,fun μ ν=>?_⟩
 ·simp only [N7] at hp
  split at hp
  ·rename_i i hi
   obtain ⟨tj,z,F⟩:=ar (hT _ _ hi)
   have hk:=F.kind
   have one:∀ v',v=v'→v'.cells = #[v']→Rd W (fun b=>b < W.heap.size) (ds.getD 0 default) v:=by
    rintro v' rfl hc
    rw [hc] at h2
    have:=h2.2 0 (by rw [h2.1]; simp)
    simpa using this
   simp only [Tp,hi]
   split at hp
   ·rename_i k iQ
    rw [iQ] at hk ⊢
    simp only [df] at hk
    split at hk
    ·rename_i hu
     have:=of_decide_eq_true hk
     subst this
     obtain ⟨n,rfl⟩:=okWide_int hu hv
     exact .d (one _ rfl rfl)
    ·cases hk
   ·rename_i iQ
    rw [iQ] at hk ⊢
    simp only [df] at hk
    split at hk
    ·rename_i hu
     obtain ⟨n,rfl⟩:=okWide_bool hu hv
     exact .d (one _ rfl rfl)
    ·cases hk
   ·rename_i iQ
    rw [iQ] at hk ⊢
    simp only [df] at hk
    split at hk
    ·rename_i hu
     obtain ⟨n,rfl⟩:=okWide_string hu hv
     exact .d (one _ rfl rfl)
    ·cases hk
   ·rename_i e iQ
    rw [iQ] at hk ⊢
    simp only [df] at hk
    split at hk
    ·rename_i hu
     obtain ⟨a,n,c,rfl⟩:=okWide_slice hu hv
     exact .d (one _ rfl rfl)
    ·cases hk
   ·rename_i fs iQ
    rw [iQ] at hk ⊢
    simp only [df] at hk
    split at hk
    ·rename_i gs hu
     obtain ⟨cs,rfl,_⟩:=okWide_struct hu hv
     refine .d (.agg ds cs ?_ (fun j hj=>?_))
     ·have:=h2.1
      simp only [Value.cells,Array.length_toList] at this
      exact this.symm
     ·have:=h2.2 j hj
      simp only [Value.cells] at this
      simpa [List.getD,Array.getD_eq_getD_getElem?] using this
    ·cases hk
   ·cases hp
  ·cases hp
theorem LL (hT:im P T) {cl:List Nat} (pZ:zb T cl=true) {base:Nat}:∀ {ts:List Nat} {vs:List Value} {ds:List (DataW H)} {ps:List MemPlace},(ts.all fun t=>cl.any fun q=>Nat.beq q t)=true→(∀ (j:Nat) t v,ts[j]? = some t→vs[j]? = some v→Value.okWide P W .any base t v) →
  DataW.TrodAll enc P W 0 (fun _=>true) true ts vs ds ps→∃ Nx,Jg T ts Nx∧∀ μ ν,dq W (fun b=>b < W.heap.size) μ ν (tZ T ts Nx) vs
 | [],[],[],_,_,_,_=>⟨[],trivial,fun _ _=>⟨rfl,fun i hi=>absurd hi (by simp [tZ])⟩⟩
 | t :: ts,v :: vs,d :: ds,ps,hp,hv,h=>by
  obtain ⟨p,q,h1,h2,rfl⟩:=h
  simp only [List.all_cons,Bool.and_eq_true] at hp
  obtain ⟨d1,x1,x2⟩:=VO hT pZ (Jf hp.1) (hv 0 t v rfl rfl) h1
  obtain ⟨Nx,y1,y2⟩:=LL hT pZ hp.2 (fun j t v a b=>hv (j+1) t v (by simpa using a) (by simpa using b)) h2
  refine ⟨d1 :: Nx,⟨x1,y1⟩,fun μ ν=>?_⟩
  have:=y2 μ ν
  refine ⟨by simp [tZ,this.1],fun i hi=>?_⟩
  cases i with
  | zero=>simpa [tZ] using x2 μ ν
  | succ i=>simpa [tZ] using this.2 i (by simpa [tZ] using hi)
 | [],_ :: _,_,_,_,_,h=>h.elim
 | [],[],_ :: _,_,_,_,h=>h.elim
 | _ :: _,[],_,_,_,_,h=>h.elim
 | _ :: _,_ :: _,[],_,_,_,h=>h.elim
theorem xp (hl:laidOutB P=true) {W':World} (hb:Below W.heap.size W W'):∀ {ts:List Nat} {vs:List Value} {ds:List (DataW H)} {ps:List MemPlace},ts.all (fun t=>P.readableRec t&&Nat.ble (t+1) P.types.size)=true →
  (∀ p∈ps,p.block < W.heap.size)→DataW.TrodAll enc P W 0 (fun _=>true) true ts vs ds ps→DataW.TrodAll enc P W' 0 (fun b=>decide (b < W.heap.size)) true ts vs ds ps
 | [],[],[],_,_,_,h=>h
 | t :: ts,v :: vs,d :: ds,ps,hp,cI,h=>by
  obtain ⟨p,q,h1,h2,rfl⟩:=h
  simp only [List.all_cons,Bool.and_eq_true] at hp
  exact ⟨p,q,Below.trod hl hp.1.1 (Nat.le_of_ble_eq_true hp.1.2) h1 hb (fun x hx=>cI x (List.mem_append_left _ hx)),xp hl hb hp.2 (fun x hx=>cI x (List.mem_append_right _ hx)) h2,rfl⟩
 | [],_ :: _,_,_,_,_,h=>h.elim
 | [],[],_ :: _,_,_,_,h=>h.elim
 | _ :: _,[],_,_,_,_,h=>h.elim
 | _ :: _,_ :: _,[],_,_,_,h=>h.elim
theorem QZ (hT:im P T) (hl:laidOutB P=true) {f:FuncId} {fn:Func} {s:ChangeSpec} {tb base:Nat} {cl:List Nat} {args:Array Value} {ds gs:List (DataW H)} {before:List MemPlace}
  (pZ:zb T cl=true) (YK:(fn.params.toList.all fun t=>cl.any fun q=>Nat.beq q t)=true) (aaX:fn.params.toList.all (fun t=>P.readableRec t&&Nat.ble (t+1) P.types.size)=true) (SG:fn.resultTypes = #[tb]) (hb:P.underlying tb=some .bool) (Xx:s.vars=[])
  (Tq:∀ (j:Nat) t v,fn.params[j]? = some t→args[j]? = some v→Value.okWide P W .any base t v)
  (hW:DataW.Whole enc P fn.params.toList s.vars false W args.toList ds gs before)
  (Qz:iA W fun b=>b < W.heap.size) (hs:(s.fn H (ds++gs)).results=[.lit (.bool true)]∧(s.fn H (ds++gs)).args=ds∧(s.fn H (ds++gs)).vars=[])
  (YL:∀ Nx,Jg T fn.params.toList Nx→kE P f (tZ T fn.params.toList Nx) [] (.d (.v (.bool true))) []) :
  Calls P f args W fun e W'=>∃ v,e=.returned v∧s.post enc P fn false true false false W args v W':=by
 have cI:=hW.lt
 obtain ⟨p,q,hA,hV,hpq,hz,hn⟩:=id hW
 rw [Xx] at hV
 have hg:gs=[]∧q=[]:=by
  cases gs with
  | nil=>exact ⟨rfl,hV⟩
  | cons _ _=>exact hV.elim
 obtain ⟨Nx,h1,h2⟩:=LL hT pZ (base:=base) YK (fun j t v a b=>Tq j t v (by simpa using a) (by simpa using b)) hA
 have hf:=YL Nx h1
 refine Calls.mono (hf.2 W (fun b=>b < W.heap.size) (fun _=>none) args (fun _ h=>h) Qz (fun ν=>h2 _ ν) (fun κ b hb=>by simp [look] at hb) (fun κ κ' b b' g c c' hb=>by simp [look] at hb)) ?_
 rintro e W' ⟨v,S',μ',rfl,B⟩
 have hv:v=.bool true:=qd (B.res fun _=>false)
 subst hv
 have VP:Below W.heap.size W W':=⟨B.kept.os,B.kept.tape,B.kept.output,B.kept.size,fun k hk=>B.kept.block k hk (fun ⟨κ,b,c,q,_⟩=>by simp [look] at q)⟩
 refine ⟨_,rfl,ds,gs,before,[],p,[],hW,?_,?_,?_,VP.frame _,fun h=>by cases h⟩
 ·rw [SG,hs.1]
  exact trodAll_mk1 (shut_bool hb true)
 ·rw [hs.2.1]
  exact xp hl VP aaX (fun x hx=>cI x (by rw [hpq]; exact List.mem_append_left _ hx)) hA
 ·rw [hs.2.2,Xx]
  exact rfl
end
end
inductive CT:Type 1 where
 | nil
 | bad
 | bb (a b:Bool)
 | nn (a b:Nat)
 | zz (a b:Int)
 | dd (a b:D)
 | ll (a b:List D)
 | vv (a b:AV)
 | ff (f g:Nat→List D)
 | mm (f g:Nat→Value × D)
 | ss (a b:List Nat)
 | po (a b:Option Prop)
 | td (a b:List Item)
 | qq (a b:List (Int × Int)→Prop)
 | tq (a b:Nat→(Nat→Value × D)→Prop)
 | rq (a b:(Nat→List D)→Prop)
 | two (a b:CT)
 | pi {β:Type} (f:β→CT)
def CT.ok:CT→Prop
 | .nil=>True
 | .bad=>False
 | .bb a b=>a=b
 | .nn a b=>a=b
 | .zz a b=>a=b
 | .dd a b=>a=b
 | .ll a b=>a=b
 | .vv a b=>a=b
 | .ff f g=>f=g
 | .mm f g=>f=g
 | .ss a b=>a=b
 | .po a b=>a=b
 | .td a b=>a=b
 | .qq a b=>a=b
 | .tq a b=>a=b
 | .rq a b=>a=b
 | .two a b=>a.ok∧b.ok
 | .pi f=>∀ b,(f b).ok
def CT.diag:CT→CT
 | .nil=>.nil
 | .bad=>.nil
 | .bb _ b=>.bb b b
 | .nn _ b=>.nn b b
 | .zz _ b=>.zz b b
 | .dd _ b=>.dd b b
 | .ll _ b=>.ll b b
 | .vv _ b=>.vv b b
 | .ff _ g=>.ff g g
 | .mm _ g=>.mm g g
 | .ss _ b=>.ss b b
 | .po _ b=>.po b b
 | .td _ b=>.td b b
 | .qq _ b=>.qq b b
 | .tq _ b=>.tq b b
 | .rq _ b=>.rq b b
 | .two a b=>.two a.diag b.diag
 | .pi f=>.pi fun b=>(f b).diag
theorem CT.HR:∀ {t:CT},t=t.diag→t.ok
 | .nil,_=>trivial
 | .bad,h=>by cases h
 | .bb a b,h=>by simpa [CT.diag,CT.ok] using h
 | .nn a b,h=>by simpa [CT.diag,CT.ok] using h
 | .zz a b,h=>by simpa [CT.diag,CT.ok] using h
 | .dd a b,h=>by simpa [CT.diag,CT.ok] using h
 | .ll a b,h=>by simpa [CT.diag,CT.ok] using h
 | .vv a b,h=>by simpa [CT.diag,CT.ok] using h
 | .ff a b,h=>by simpa [CT.diag,CT.ok] using h
 | .mm a b,h=>by simpa [CT.diag,CT.ok] using h
 | .ss a b,h=>by simpa [CT.diag,CT.ok] using h
 | .po a b,h=>by simp only [CT.diag,CT.po.injEq] at h; exact h.1
 | .td a b,h=>by simpa [CT.diag,CT.ok] using h
 | .qq a b,h=>by simpa [CT.diag,CT.ok] using h
 | .tq a b,h=>by simpa [CT.diag,CT.ok] using h
 | .rq a b,h=>by simpa [CT.diag,CT.ok] using h
 | .two a b,h=>by
  simp only [CT.diag,CT.two.injEq] at h
  exact ⟨CT.HR h.1,CT.HR h.2⟩
 | .pi f,h=>by
  simp only [CT.diag] at h
  have h1:f=fun b=>(f b).diag:=by injection h
  exact fun b=>CT.HR (congrFun h1 b)
def Ob.eqs:Ob→CT
 | .tt=>.nil
 | .pr _=>.nil
 | .be a b=>.bb a b
 | .ne a b=>.nn a b
 | .ze a b=>.zz a b
 | .fe f g=>.ff f g
 | .me f g=>.mm f g
 | .ve a b=>.vv a b
 | .two a b=>.two a.eqs b.eqs
 | .wh _ _ a=>a.eqs
def AM:Option Prop→Option Prop→Option Prop
 | none,x=>x
 | x,none=>x
 | some p,some q=>some (p∧q)
def Ob.prop:Ob→Option Prop
 | .pr p=>some p
 | .two a b=>AM a.prop b.prop
 | .wh e w a=>(match a.prop with | none=>none | some p=>some (e=w→p))
 | _=>none
theorem PH {x y:Option Prop} (h:∀ p,AM x y=some p→p):(∀ p,x=some p→p)∧∀ p,y=some p→p:=by
 cases x with
 | none=>exact ⟨fun p hp=>(by cases hp),fun p hp=>h p (by simpa [AM] using hp)⟩
 | some a =>
  cases y with
  | none=>exact ⟨fun p hp=>h p (by simpa [AM] using hp),fun p hp=>(by cases hp)⟩
  | some b =>
   have:=h (a∧b) rfl
   exact ⟨fun p hp=>(by cases hp; exact this.1),fun p hp=>(by cases hp; exact this.2)⟩
theorem Ob.EA:∀ {ob:Ob},ob.eqs.ok→(∀ p,ob.prop=some p→p)→ob.den
 | .tt,_,_=>trivial
 | .pr p,_,h=>h p rfl
 | .be _ _,h,_=>h
 | .ne _ _,h,_=>h
 | .ze _ _,h,_=>h
 | .fe _ _,h,_=>h
 | .me _ _,h,_=>h
 | .ve _ _,h,_=>h
 | .two a b,h,hp=>⟨Ob.EA h.1 (PH hp).1,Ob.EA h.2 (PH hp).2⟩
 | .wh e w a,h,hp=>fun he=>Ob.EA h (fun p hq=>hp (e=w→p) (by simp [Ob.prop,hq]) he)
def xX (ob:Ob):CT:=match ob.prop with | none=>ob.eqs | some _=>.bad
theorem qk {ob:Ob} (h:(xX ob).ok):ob.den:=by
 unfold xX at h
 split at h
 ·rename_i hn
  exact Ob.EA h (fun p hp=>by rw [hn] at hp; cases hp)
 ·exact h.elim
def cEq:D→D→CT
 | .v (.slice none 0 0),.sl n _=>.nn n 0
 | x,y=>.dd x y
def Ts:List D→List D→CT
 | [],[]=>.nil
 | c :: cs,d :: ds=>.two (cEq c d) (Ts cs ds)
 | _,_=>.bad
def dEq:D→D→CT
 | .agg cs,.agg ds=>Ts cs ds
 | x,y=>cEq x y
theorem Tt {x y:D} (h:(cEq x y).ok):oS x y:=by
 unfold cEq at h
 split at h
 ·have h:_=0:=h
  subst h
  exact oS.nil _
 ·exact oS.of_eq h
theorem Dz:∀ {cs ds:List D},(Ts cs ds).ok→cs.length=ds.length∧∀ i,i < cs.length→oS (cs.getD i default) (ds.getD i default)
 | [],[],_=>⟨rfl,fun i hi=>absurd hi (by simp)⟩
 | c :: cs,d :: ds,h=>by
  obtain ⟨h1,h2⟩:=Dz h.2
  refine ⟨by simp [h1],fun i hi=>?_⟩
  cases i with
  | zero=>simpa using Tt h.1
  | succ i=>simpa using h2 i (by simpa using hi)
 | [],_ :: _,h=>h.elim
 | _ :: _,[],h=>h.elim
theorem YM {x y:D} (h:(dEq x y).ok):oS x y:=by
 unfold dEq at h
 split at h
 ·exact oS.agg (Dz h).1 (Dz h).2
 ·exact Tt h
mutual
def N8 (ρ:Ren):AV→AV→CT
 | _,.any=>.nil
 | .d x,.d y=>dEq x y
 | .own κ n,.own κ' n'=>.two (.bb (ov ρ κ' κ) true) (.nn n n')
 | .d (.v (.slice none 0 0)),.own κ' n'=>.two (.bb (LD ρ κ') true) (.nn n' 0)
 | .ptr κ o,.ptr κ' o'=>.bb (ov ρ κ' κ&&Nat.beq o o') true
 | .ref cs,.ref xV=>.ll cs xV
 | .fn f l,.fn f' l'=>.two (.bb (Nat.beq f f') true) (zd ρ l l')
 | .il l,.il l'=>zd ρ l l'
 | .ag l,.ag l'=>zd ρ l l'
 | .kD κ,.kD κ'=>.bb (ov ρ κ' κ) true
 | .uO n f,.uO n' f'=>.two (.nn n n') (.mm f f')
 | .uH n f,.uH n' f'=>.two (.nn n n') (.ff f f')
 | .uH n f,.d (.sl n' f')=>.two (.nn n n') (.ff f f')
 | .qQ κ k i o,.qQ κ' k' i' o'=>.two (.bb (ov ρ κ' κ&&Nat.beq k k'&&Nat.beq o o') true) (.nn i i')
 | _,_=>.bad
def zd (ρ:Ren):List AV→List AV→CT
 | [],[]=>.nil
 | x :: r,y :: s=>.two (N8 ρ x y) (zd ρ r s)
 | _,_=>.bad
end
def YN (ρ:Ren):aZ→aZ→CT
 | .box cs,.box xV=>zd ρ cs xV
 | .row e k n f,.row e' k' n' f'=>.two (.bb (Nat.beq e e'&&Nat.beq k k') true) (.two (.nn n n') (.ff f f'))
 | .mp n f,.mp n' f'=>.two (.nn n n') (.mm f f')
 | .mp n f,.ml n' f'=>.two (.nn n n') (.mm f f')
 | .ml n f,.ml n' f'=>.two (.nn n n') (.mm f f')
 | .it mk n s,.it mk' n' s'=>.two (.bb (ov ρ mk' mk) true) (.two (.nn n n') (.ss s s'))
 | .mx q,.mx q'=>.qq q q'
 | .tx q,.tx q'=>.tq q q'
 | .rx e k n q,.rx e' k' n' q'=>.two (.bb (Nat.beq e e'&&Nat.beq k k') true) (.two (.nn n n') (.rq q q'))
 | _,_=>.bad
def VQ (ρ:Ren) (sl:List (Nat × AV)):List (Nat × AV)→CT
 | []=>.nil
 | (t,x) :: r=>.two (N8 ρ (St.get sl t) x) (VQ ρ sl r)
def N9 (ρ:Ren) (lb:List (Nat × aZ)):List (Nat × aZ)→CT
 | []=>.nil
 | (κ,b) :: r=>(match look ρ κ with
  | some (some o)=>(match look lb o with | some c=>.two (YN ρ c b) (N9 ρ lb r) | none=>.bad)
  | some none=>(match b with | .row _ _ n _=>.two (.nn n 0) (N9 ρ lb r) | _=>.bad)
  | none=>.bad)
mutual
theorem zf {ρ:Ren}:∀ (x y:AV),(N8 ρ x y).ok→∃ p,oz ρ x y=some p∧p
 | x,y,h=>by
  unfold N8 at h
  split at h
  ·exact ⟨True,by unfold oz; rfl,trivial⟩
  ·exact ⟨_,by unfold oz; rfl,YM h⟩
  ·obtain ⟨h1,h2⟩:=h
   have h1:ov ρ _ _=true:=h1
   exact ⟨_,by unfold oz; rw [h1]; rfl,h2⟩
  ·obtain ⟨h1,h2⟩:=h
   have h1:LD ρ _=true:=h1
   exact ⟨_=0,by simp [oz,h1],h2⟩
  ·have h:(ov ρ _ _&&Nat.beq _ _)=true:=h
   exact ⟨True,by unfold oz; rw [h]; rfl,trivial⟩
  ·exact ⟨_,by unfold oz; rfl,h⟩
  ·rename_i f l f' l'
   obtain ⟨h1,h2⟩:=h
   have h1:Nat.beq f f'=true:=h1
   obtain ⟨p,hp,hq⟩:=vt l l' h2
   exact ⟨p,by unfold oz; rw [h1]; exact hp,hq⟩
  ·rename_i l l'
   obtain ⟨p,hp,hq⟩:=vt l l' h
   exact ⟨p,by unfold oz; exact hp,hq⟩
  ·rename_i l l'
   obtain ⟨p,hp,hq⟩:=vt l l' h
   exact ⟨p,by unfold oz; exact hp,hq⟩
  ·have h:ov ρ _ _=true:=h
   exact ⟨True,by unfold oz; rw [h]; rfl,trivial⟩
  ·rename_i n f n' f'
   exact ⟨n=n'∧f=f',by unfold oz; rfl,h.1,h.2⟩
  ·rename_i n f n' f'
   exact ⟨n=n'∧f=f',by unfold oz; rfl,h.1,h.2⟩
  ·rename_i n f n' f'
   exact ⟨n=n'∧f=f',by unfold oz; rfl,h.1,h.2⟩
  ·rename_i κ k i o κ' k' i' o'
   obtain ⟨h1,h2⟩:=h
   have h1:(ov ρ κ' κ&&Nat.beq k k'&&Nat.beq o o')=true:=h1
   exact ⟨i=i',by unfold oz; rw [h1]; rfl,h2⟩
  ·exact h.elim
theorem vt {ρ:Ren}:∀ (x y:List AV),(zd ρ x y).ok→∃ p,sy ρ x y=some p∧p
 | [],[],_=>⟨True,by unfold sy; rfl,trivial⟩
 | x :: r,y :: s,h=>by
  unfold zd at h
  obtain ⟨p,h1,h2⟩:=zf x y h.1
  obtain ⟨q,h3,h4⟩:=vt r s h.2
  exact ⟨p∧q,by unfold sy; rw [h1,h3],h2,h4⟩
 | [],_ :: _,h=>by unfold zd at h; exact h.elim
 | _ :: _,[],h=>by unfold zd at h; exact h.elim
end
theorem VR {ρ:Ren} {b c:aZ} (h:(YN ρ b c).ok):∃ p,ev ρ b c=some p∧p:=by
 unfold YN at h
 split at h
 ·rename_i cs xV
  obtain ⟨p,h1,h2⟩:=vt cs xV h
  exact ⟨p,h1,h2⟩
 ·rename_i e k n f e' k' n' f'
  obtain ⟨h1,h2,h3⟩:=h
  have h1:(Nat.beq e e'&&Nat.beq k k')=true:=h1
  have h3:f=f':=h3
  exact ⟨n=n'∧∀ i,i < n→f i=f' i,by unfold ev; dsimp only; rw [h1]; rfl,h2,fun i _=>by rw [h3]⟩
 ·rename_i n f n' f'
  exact ⟨n=n'∧f=f',rfl,h.1,h.2⟩
 ·rename_i n f n' f'
  exact ⟨n=n'∧f=f',rfl,h.1,h.2⟩
 ·rename_i n f n' f'
  exact ⟨n=n'∧f=f',rfl,h.1,h.2⟩
 ·rename_i mk n s mk' n' s'
  obtain ⟨h1,h2,h3⟩:=h
  have h1:ov ρ mk' mk=true:=h1
  exact ⟨n=n'∧s=s',by unfold ev; dsimp only; rw [h1]; rfl,h2,h3⟩
 ·rename_i q q'
  exact ⟨q=q',rfl,h⟩
 ·rename_i q q'
  exact ⟨q=q',rfl,h⟩
 ·rename_i e k n q e' k' n' q'
  obtain ⟨h1,h2,h3⟩:=h
  have h1:(Nat.beq e e'&&Nat.beq k k')=true:=h1
  exact ⟨n=n'∧q=q',by unfold ev; dsimp only; rw [h1]; rfl,h2,h3⟩
 ·exact h.elim
theorem Jh {ρ:Ren} {sl:List (Nat × AV)}:∀ {l:List (Nat × AV)},(VQ ρ sl l).ok→∃ p,Et ρ sl l=some p∧p
 | [],_=>⟨True,rfl,trivial⟩
 | (t,x) :: r,h=>by
  obtain ⟨p,h1,h2⟩:=zf _ _ h.1
  obtain ⟨q,h3,h4⟩:=Jh h.2
  exact ⟨p∧q,by unfold Et; rw [h1,h3],h2,h4⟩
theorem zg {ρ:Ren} {lb:List (Nat × aZ)}:∀ {l:List (Nat × aZ)},(N9 ρ lb l).ok→∃ p,Cl ρ lb l=some p∧p
 | [],_=>⟨True,rfl,trivial⟩
 | (κ,b) :: r,h=>by
  unfold N9 at h
  split at h
  ·rename_i o ho
   split at h
   ·rename_i c hc
    obtain ⟨p,h1,h2⟩:=VR h.1
    obtain ⟨q,h3,h4⟩:=zg h.2
    exact ⟨p∧q,by unfold Cl; rw [ho,h3]; simp only [hc,h1],h2,h4⟩
   ·exact h.elim
  ·rename_i ho
   split at h
   ·obtain ⟨q,h3,h4⟩:=zg h.2
    exact ⟨_∧q,by unfold Cl; rw [ho,h3]; rfl,h.1,h4⟩
   ·exact h.elim
  ·exact h.elim
def AN (κ:Nat) (o:Option Nat) (ρ:Ren):Ren:=match look ρ κ with | some _=>ρ | none=>(κ,o) :: ρ
mutual
def HS:AV→AV→Ren→Ren
 | .own κ _,.own κ' _,ρ=>AN κ' (some κ) ρ
 | .d _,.own κ' _,ρ=>AN κ' none ρ
 | .ptr κ _,.ptr κ' _,ρ=>AN κ' (some κ) ρ
 | .kD κ,.kD κ',ρ=>AN κ' (some κ) ρ
 | .qQ κ _ _ _,.qQ κ' _ _ _,ρ=>AN κ' (some κ) ρ
 | .fn _ l,.fn _ l',ρ=>EB l l' ρ
 | .il l,.il l',ρ=>EB l l' ρ
 | .ag l,.ag l',ρ=>EB l l' ρ
 | _,_,ρ=>ρ
def EB:List AV→List AV→Ren→Ren
 | x :: r,y :: s,ρ=>EB r s (HS x y ρ)
 | _,_,ρ=>ρ
end
def Tu (sl:List (Nat × AV)):List (Nat × AV)→Ren→Ren
 | [],ρ=>ρ
 | (t,x) :: r,ρ=>Tu sl r (HS (St.get sl t) x ρ)
def EC (lb:List (Nat × aZ)):List (Nat × aZ)→Ren→Ren
 | [],ρ=>ρ
 | (κ,b) :: r,ρ=>EC lb r (match look ρ κ with
  | some (some o)=>(match look lb o,b with | some (.box cs),.box xV=>EB cs xV ρ | some (.it m _ _),.it m' _ _=>AN m' (some m) ρ | _,_=>ρ)
  | _=>ρ)
def Tv (st st':St):Ren:=EC st.lb st'.lb (EC st.lb st'.lb (Tu st.sl st'.sl []))
def LM (st st':St):CT:=.two (.bb (yZ (Tv st st')) true) (.two (VQ (Tv st st') st.sl st'.sl) (N9 (Tv st st') st.lb st'.lb))
theorem ua {st st':St} (h:(LM st st').ok):AI st st':=by
 obtain ⟨h1,h2,h3⟩:=h
 obtain ⟨p,q1,q2⟩:=Jh h2
 obtain ⟨p',q3,q4⟩:=zg h3
 exact AI.of _ h1 q1 q2 q3 q4
def VS (t:Nat):Nat:=Nat.shiftLeft 1 t
def ED:Operand→Nat
 | .tmp t=>VS t
 | _=>0
def HT:List Operand→Nat
 | []=>0
 | x :: r=>Nat.lor (ED x) (HT r)
def Tw:List Oper→Nat
 | []=>0
 | o :: r=>Nat.lor (HT o.op.operands.toList) (Tw r)
def xq:Code→Nat
 | .region _ ops _=>Tw ops.toList
 | .seq a b=>Nat.lor (xq a) (xq b)
 | .cond c a b=>Nat.lor (ED c) (Nat.lor (xq a) (xq b))
 | .block _ c=>xq c
 | .loop c=>xq c
 | .rangeFunc f _ a b=>Nat.lor (ED f) (Nat.lor (xq a) (xq b))
 | _=>0
def gQ:List Item→Nat
 | []=>0
 | .code c :: r=>Nat.lor (xq c) (gQ r)
 | .inLoop c :: r=>Nat.lor (xq c) (gQ r)
 | _ :: r=>gQ r
def wW:List ResultVar→Nat
 | []=>0
 | .tmp t :: r=>Nat.lor (VS t) (wW r)
 | .cell t _ :: r=>Nat.lor (VS t) (wW r)
def EE (m t:Nat):Bool:=Nat.beq (Nat.land (Nat.shiftRight m t) 1) 1
def ph (m:Nat):List (Nat × AV)→List (Nat × AV)
 | []=>[]
 | (t,x) :: r=>bif EE m t then (t,x) :: ph m r else ph m r
theorem EF (m:Nat):∀ (l:List (Nat × AV)) (t:Nat),look (ph m l) t=bif EE m t then look l t else none
 | [],t=>by cases EE m t <;> rfl
 | (k,x) :: r,t=>by
  have ih:=EF m r t
  simp only [ph]
  cases hk:EE m k with
  | true =>
   simp only [cond_true,bf]
   by_cases e:k=t
   ·subst e; simp [hk]
   ·simp only [e,if_false]; exact ih
  | false =>
   simp only [cond_false,bf]
   by_cases e:k=t
   ·subst e; rw [ih,hk]; rfl
   ·simp only [e,if_false]; exact ih
def St.fW (m:Nat) (st:St):St:=⟨ph m st.sl,st.lb⟩
theorem AI.fW (m:Nat) (st:St):AI st (st.fW m):=by
 rintro C a w ⟨S,μ,hs⟩
 refine ⟨S,μ,fun ν=>(hs ν).weaken (fun t v hv=>?_) (fun κ b hb=>⟨b,hb,fun _ h=>h⟩)⟩
 simp only [St.toM,St.get,St.fW,EF] at hv ⊢
 cases EE m t with
 | true=>exact hv
 | false=>exact .any _
def Ji (lb:List (Nat × aZ)):List Nat→List Nat
 | []=>[]
 | k :: r=>(match look lb k with | some b=>b.keys++Ji lb r | none=>Ji lb r)
def Tx:List (Nat × AV)→List Nat
 | []=>[]
 | (_,x) :: r=>x.keys++Tx r
def EG (ks:List Nat):List (Nat × aZ)→List (Nat × aZ)
 | []=>[]
 | (k,b) :: r=>bif ks.any (fun q=>Nat.beq q k) then (k,b) :: EG ks r else EG ks r
structure PI where
 sl:List (Nat × AV):=[]
 lb:List (Nat × aZ):=[]
def St.uU (st:St) (m:Nat) (u:PI):St :=
 let sl:=u.sl++ph m (aU (u.sl.map (·.1)) st.sl)
 let lb:=u.lb++aU (u.lb.map (·.1)) st.lb
 let k0:=Tx sl
 let k1:=Ji lb k0
 let k2:=Ji lb k1
 ⟨sl,EG (k0++k1++k2) lb⟩
structure bw (β:Type) where
 v:β
 ji:β→List xP
 qZ:β→Option Prop
 pre:Prop
 pf:pre→∀ p,qZ v=some p→p
 post:β→Prop
 hp:post v
def iter {α ι:Type} (f:ι→α ⊕ ι) (d:α):Nat→ι→α
 | 0,_=>d
 | n+1,i=>match f i with | .inl a=>a | .inr j=>iter f d n j
def bN {α β:Type}:α ⊕ β→(β→α)→α
 | .inl a,_=>a
 | .inr b,f=>f b
def oA {α β:Type} (L:α→Prop) (J:β→Prop):α ⊕ β→Prop
 | .inl a=>L a
 | .inr b=>J b
def fP {α ι:Type} (L:α→Prop) (J:ι→Prop):α ⊕ ι→Prop
 | .inl a=>L a
 | .inr j=>J j
structure ItC (Y:Type) where
 P:Program
 gf:FuncId
 cF:List AV
 ys:List Y
 enc:Y→List AV
 pre:Prop
 pf:pre→Yu P gf cF (ys.map enc)
inductive Sk:Type→Type 1 where
 | fin {α:Type} (a:α):Sk α
 | br {α:Type} (e:Bool) (x y:Sk α):Sk α
 | r {α β:Type} (id:Nat) (c:bw β) (k:β→Sk α):Sk α
 | wi {α:Type} (t:Nat) (m n:Int) (k:Sk α):Sk α
 | wn {α:Type} (κ n n':Nat) (k:Sk α):Sk α
 | wr {α:Type} (κ n n':Nat) (k:Sk α):Sk α
 | Gr {α:Type} (k:Sk α):Sk α
 | Gs {α:Type} (k:Sk α):Sk α
 | dead {α:Type} (a:α):Sk α
 | DJ {α:Type} (t j n:Nat) (k:Sk α):Sk α
 | Q0 {α:Type} (t:Nat) (c:Bool) (x y:AV) (k1 k2:Sk α):Sk α
 | Jj {α:Type} (t n:Nat) (k1 k2:Sk α):Sk α
 | fz {α:Type} (κ:Nat) (k:Sk α):Sk α
 | op {α:Type} (κ:Nat) (k:List (Int × Int)→Sk α):Sk α
 | cl {α:Type} (κ:Nat) (m:List (Int × Int)) (k:Sk α):Sk α
 | oq {α:Type} (κ:Nat) (q:List (Int × Int)→Prop) (k:List (Int × Int)→Sk α):Sk α
 | cq {α:Type} (κ:Nat) (m:List (Int × Int)) (q:List (Int × Int)→Prop) (k:Sk α):Sk α
 | ot {α Y:Type} (κ:Nat) (Q:Y→Prop) (ln:Y→Nat) (en:Y→Nat→Value × D) (d:Y) (k:Y→Sk α):Sk α
 | ct {α Y:Type} (κ:Nat) (Q:Y→Prop) (ln:Y→Nat) (en:Y→Nat→Value × D) (y:Y) (k:Sk α):Sk α
 | Ny {α Y:Type} (κ:Nat) (Q:Y→Prop) (en:Y→Nat→List D) (d:Y) (k:Y→Sk α):Sk α
 | cr {α Y:Type} (κ n:Nat) (Q:Y→Prop) (en:Y→Nat→List D) (y:Y) (k:Sk α):Sk α
 | fm {α:Type} (κ:Nat) (k:Sk α):Sk α
 | fb {α:Type} (κ:Nat) (k:Sk α):Sk α
 | up {α:Type} (u:PI) (k:Sk α):Sk α
 | nr {α:Type} (t κ e q:Nat) (f:Nat→List D) (k:Sk α):Sk α
 | HQ {α:Type} (id:Nat) (x:Int) (c:pg) (k:Sk α):Sk α
 | mr {α γ:Type} (n:Nat) (V:List Nat→γ→Prop) (init:γ) (u:γ→List Nat→PI) (v:γ→PI) (b:γ→Nat→Sk γ) (k:γ→Sk α):Sk α
 | bind {α β:Type} (blk:Bool) (J:β→Prop) (s:Sk (α ⊕ β)) (u:β→PI) (k:β→Sk α):Sk α
 | loop {α ι:Type} (d:α) (I:ι→Prop) (m:ι→Nat) (i0:ι) (u:ι→PI) (b:ι→Sk (α ⊕ ι)):Sk α
 | rf {α σ β Y:Type} (it:ItC Y) (I:Nat→σ→Prop) (B:β→Prop) (id:Nat) (s0:σ) (u:σ→List (Nat × aZ)) (v:β→List (Nat × aZ)) (b:σ→Y→Sk (β ⊕ σ)) (k:β ⊕ σ→Sk α):Sk α
abbrev Sk.bt {α β:Type} (s:Sk (α ⊕ β)) (u:β→PI) (k:β→Sk α):Sk α:=.bind true (fun _=>True) s u k
abbrev Sk.lt {α:Type} (t j i n:Nat) (x y:Sk α):Sk α:=.DJ t j n (.br (decide ((i:Int) < (n:Int))) x y)
def canon (q:List (Int × Int)→Prop):List (Int × Int):=open Classical in if h:∃ m,q m then h.choose else []
theorem Oa {q:List (Int × Int)→Prop} (h:∃ m,q m):q (canon q):=by
 unfold canon
 rw [dif_pos h]
 exact h.choose_spec
def cT {Y:Type} (Q:Y→Prop) (d:Y):Y:=open Classical in if h:∃ y,Q y then h.choose else d
theorem fB {Y:Type} {Q:Y→Prop} {d:Y} (h:∃ y,Q y):Q (cT Q d):=by
 unfold cT
 rw [dif_pos h]
 exact h.choose_spec
def txQ {Y:Type} (Q:Y→Prop) (ln:Y→Nat) (en:Y→Nat→Value × D):Nat→(Nat→Value × D)→Prop:=fun n f=>∃ y,Q y∧n=ln y∧f=en y
def YO {Y:Type} (Q:Y→Prop) (en:Y→Nat→List D):(Nat→List D)→Prop:=fun f=>∃ y,Q y∧f=en y
abbrev mxT:List (Int × Int)→Prop:=fun _=>True
def Sk.val:{α:Type}→Sk α→α
 | _,.fin a=>a
 | _,.br e x y=>bif e then x.val else y.val
 | _,.r _ c k=>(k c.v).val
 | _,.wi _ _ _ k=>k.val
 | _,.wn _ _ _ k=>k.val
 | _,.wr _ _ _ k=>k.val
 | _,.Gr k=>k.val
 | _,.Gs k=>k.val
 | _,.dead a=>a
 | _,.DJ _ _ _ k=>k.val
 | _,.Q0 _ c _ _ x y=>bif c then x.val else y.val
 | _,.Jj _ _ _ k=>k.val
 | _,.fz _ k=>k.val
 | _,.op _ k=>(k []).val
 | _,.cl _ _ k=>k.val
 | _,.oq _ q k=>(k (canon q)).val
 | _,.cq _ _ _ k=>k.val
 | _,.ot _ Q _ _ d k=>(k (cT Q d)).val
 | _,.ct _ _ _ _ _ k=>k.val
 | _,.Ny _ Q _ d k=>(k (cT Q d)).val
 | _,.cr _ _ _ _ _ k=>k.val
 | _,.fm _ k=>k.val
 | _,.fb _ k=>k.val
 | _,.up _ k=>k.val
 | _,.nr _ _ _ _ _ k=>k.val
 | _,.HQ _ _ _ k=>k.val
 | _,.mr n _ init _ _ b k=>(k ((List.range n).foldr (fun i g=>(b g i).val) init)).val
 | _,.bind _ _ s _ k=>bN s.val fun b=>(k b).val
 | _,.loop d _ m i0 _ b=>iter (fun i=>(b i).val) d (m i0+1) i0
 | _,.rf it _ _ _ s0 _ _ b k=>(k (qN (fun s y=>(b s y).val) it.ys s0)).val
def Sk.dj:{α:Type}→Sk α→(α→Prop)→Prop
 | _,.fin a,L=>L a
 | _,.br e x y,L=>(e=true→x.dj L)∧(e=false→y.dj L)
 | _,.r _ c k,L=>∀ x,x=c.v→c.post x→(k x).dj L
 | _,.wi _ _ _ k,L=>k.dj L
 | _,.wn _ _ _ k,L=>k.dj L
 | _,.wr _ _ _ k,L=>k.dj L
 | _,.Gr k,L=>k.dj L
 | _,.Gs k,L=>k.dj L
 | _,.dead a,L=>L a
 | _,.DJ _ _ _ k,L=>k.dj L
 | _,.Q0 _ c _ _ x y,L=>(c=true→x.dj L)∧(c=false→y.dj L)
 | _,.Jj _ _ _ k,L=>k.dj L
 | _,.fz _ k,L=>k.dj L
 | _,.op _ k,L=>(k []).dj L
 | _,.cl _ _ k,L=>k.dj L
 | _,.oq _ q k,L=>(∃ m,q m)∧∀ m,q m→(k m).dj L
 | _,.cq _ _ _ k,L=>k.dj L
 | _,.ot _ Q _ _ _ k,L=>(∃ m,Q m)∧∀ m,Q m→(k m).dj L
 | _,.ct _ _ _ _ _ k,L=>k.dj L
 | _,.Ny _ Q _ _ k,L=>(∃ m,Q m)∧∀ m,Q m→(k m).dj L
 | _,.cr _ _ _ _ _ k,L=>k.dj L
 | _,.fm _ k,L=>k.dj L
 | _,.fb _ k,L=>k.dj L
 | _,.up _ k,L=>k.dj L
 | _,.nr _ _ _ _ _ k,L=>k.dj L
 | _,.HQ _ _ _ k,L=>k.dj L
 | _,.mr n V init _ _ b k,L=>V [] init∧(∀ s g i,V s g→i < n→i ∉ s→(b g i).dj (V (i :: s)))∧∀ g,g=(List.range n).foldr (fun i g=>(b g i).val) init→V (List.range n) g→(k g).dj L
 | _,.bind _ J s _ k,L=>s.dj (oA L J)∧∀ b,s.val=.inr b→J b→(k b).dj L
 | _,.loop _ I m i0 _ b,L=>I i0∧∀ i,I i→(b i).dj (fP L fun j=>I j∧m j < m i)
 | _,.rf it I B _ s0 _ _ b k,L=>I 0 s0∧(∀ i s y,I i s→it.ys[i]? = some y→(b s y).dj (fP B (I (i+1))))∧∀ r,r=qN (fun s y=>(b s y).val) it.ys s0→fP B (I it.ys.length) r→(k r).dj L
def Sk.bO:{α:Type}→Sk α→(α→Prop)→Prop
 | _,.fin a,L=>L a
 | _,.br e x y,L=>(e=true→x.bO L)∧(e=false→y.bO L)
 | _,.r _ c k,L=>c.pre∧∀ x,x=c.v→c.post x→(k x).bO L
 | _,.wi _ m n k,L=>m=n∧k.bO L
 | _,.wn _ n n' k,L=>n=n'∧k.bO L
 | _,.wr _ n n' k,L=>n=n'∧k.bO L
 | _,.Gr k,L=>k.bO L
 | _,.Gs k,L=>k.bO L
 | _,.dead _,_=>False
 | _,.DJ _ _ n k,L=>n≤maxLen→k.bO L
 | _,.Q0 _ c _ _ x y,L=>(c=true→x.bO L)∧(c=false→y.bO L)
 | _,.Jj _ n k1 k2,L=>(n=0→k1.bO L∧k1.val=k2.val)∧k2.bO L
 | _,.fz _ k,L=>k.bO L
 | _,.op _ k,L=>∀ m,(k m).val=(k []).val∧(k m).bO L
 | _,.cl _ _ k,L=>k.bO L
 | _,.oq _ q k,L=>∀ m,q m→(k m).val=(k (canon q)).val∧(k m).bO L
 | _,.cq _ m q k,L=>q m∧k.bO L
 | _,.ot _ Q _ _ d k,L=>∀ m,Q m→(k m).val=(k (cT Q d)).val∧(k m).bO L
 | _,.ct _ Q _ _ y k,L=>Q y∧k.bO L
 | _,.Ny _ Q _ d k,L=>∀ m,Q m→(k m).val=(k (cT Q d)).val∧(k m).bO L
 | _,.cr _ _ Q _ y k,L=>Q y∧k.bO L
 | _,.fm _ k,L=>k.bO L
 | _,.fb _ k,L=>k.bO L
 | _,.up _ k,L=>k.bO L
 | _,.nr _ _ _ _ _ k,L=>k.bO L
 | _,.HQ _ x c k,L=>(0≤x∧x≤(c.n:Int))∧k.bO L
 | _,.mr n V init _ _ b k,L=>V [] init∧(∀ s g i,V s g→i < n→i ∉ s→(b g i).dj (V (i :: s))∧(b g i).bO fun _=>True)∧(∀ s g i j,V s g→i < n→j < n→i≠j→i ∉ s→j ∉ s→(b (b g j).val i).val=(b (b g i).val j).val)∧∀ g,g=(List.range n).foldr (fun i g=>(b g i).val) init→V (List.range n) g→(k g).bO L
 | _,.bind _ J s _ k,L=>s.bO (oA L J)∧∀ b,s.val=.inr b→J b→(k b).bO L
 | _,.loop _ I m i0 _ b,L=>I i0∧∀ i,I i→(b i).bO (fP L fun j=>I j∧m j < m i)
 | _,.rf it I B _ s0 _ _ b k,L=>it.pre∧I 0 s0∧(∀ i s y,I i s→it.ys[i]? = some y→(b s y).dj (fP B (I (i+1)))∧(b s y).bO (fP B (I (i+1))))∧∀ r,r=qN (fun s y=>(b s y).val) it.ys s0→fP B (I it.ys.length) r→(k r).bO L
theorem HU {σ β Y:Type} {f:σ→Y→β ⊕ σ} {I:Nat→σ→Prop} {B:β→Prop} (l:List Y) (h:∀ i s y,I i s→l[i]? = some y→fP B (I (i+1)) (f s y)) (s:σ) (hs:I 0 s):fP B (I l.length) (qN f l s):=by
 have:=Eu (f:=f) (I:=I) (B:=B) l 0 (fun i s y hs hy=>by
  rw [Nat.zero_add] at hs ⊢
  have:=h i s y hs hy
  cases e:f s y <;> rw [e] at this <;> exact this) s hs
 rw [Nat.zero_add] at this
 cases e:qN f l s <;> rw [e] at this <;> exact this
theorem nh {γ:Type} {V:List Nat→γ→Prop} {f:γ→Nat→γ} {n:Nat} (hf:∀ s g i,V s g→i < n→i ∉ s→V (i :: s) (f g i)) {init:γ} (h0:V [] init):∀ (s:List Nat),s.Nodup→(∀ i,i∈s→i < n)→V s (s.foldr (fun i g=>f g i) init)
 | [],_,_=>h0
 | i :: s,hd,h=>hf s _ i (nh hf h0 s (List.nodup_cons.1 hd).2 (fun j hj=>h j (List.mem_cons_of_mem _ hj))) (h i List.mem_cons_self) (List.nodup_cons.1 hd).1
theorem Oc {γ:Type} {V:List Nat→γ→Prop} {f:γ→Nat→γ} {n:Nat} (hf:∀ s g i,V s g→i < n→i ∉ s→V (i :: s) (f g i)) (hc:∀ s g i j,V s g→i < n→j < n→i≠j→i ∉ s→j ∉ s→f (f g j) i=f (f g i) j) {init:γ} (h0:V [] init) {s t:List Nat} (h:s.Perm t) :
  s.Nodup→(∀ i,i∈s→i < n)→s.foldr (fun i g=>f g i) init=t.foldr (fun i g=>f g i) init:=by
 induction h with
 | nil=>intro _ _; rfl
 | cons x _ ih=>intro hd hs; simp only [List.foldr_cons]; rw [ih (List.nodup_cons.1 hd).2 (fun i hi=>hs i (List.mem_cons_of_mem _ hi))]
 | swap x y l =>
  intro hd hs
  simp only [List.foldr_cons]
  have h1:=List.nodup_cons.1 hd
  have h2:=List.nodup_cons.1 h1.2
  have hxy:y≠x:=fun e=>h1.1 (e ▸ List.mem_cons_self)
  exact hc l _ y x (nh hf h0 l h2.2 (fun i hi=>hs i (by simp [hi]))) (hs y (by simp)) (hs x (by simp)) hxy (fun e=>h1.1 (List.mem_cons_of_mem _ e)) h2.1
 | trans h1 _ ih1 ih2=>intro hd hs; rw [ih1 hd hs,ih2 (h1.nodup_iff.1 hd) (fun i hi=>hs i (h1.mem_iff.2 hi))]
theorem HV {α ι:Type} {f:ι→α ⊕ ι} {d:α} {L:α→Prop} {I:ι→Prop} {m:ι→Nat} (h:∀ i,I i→fP L (fun j=>I j∧m j < m i) (f i)):∀ (n:Nat) (i:ι),I i→m i < n→L (iter f d n i)
 | 0,i,_,hn=>absurd hn (by omega)
 | n+1,i,hi,hn=>by
  have:=h i hi
  simp only [iter]
  cases hf:f i with
  | inl a=>rw [hf] at this; exact this
  | inr j=>rw [hf] at this; exact HV h n j this.1 (by have:=this.2; omega)
theorem Sk.cN:{α:Type}→(s:Sk α)→{L:α→Prop}→s.dj L→L s.val
 | _,.fin a,_,h=>h
 | _,.br e x y,L,h=>by
  cases e with
  | true=>exact x.cN (h.1 rfl)
  | false=>exact y.cN (h.2 rfl)
 | _,.r _ c k,L,h=>(k c.v).cN (h _ rfl c.hp)
 | _,.wi _ _ _ k,L,h=>k.cN (L:=L) h
 | _,.wn _ _ _ k,L,h=>k.cN (L:=L) h
 | _,.wr _ _ _ k,L,h=>k.cN (L:=L) h
 | _,.Gr k,L,h=>k.cN (L:=L) h
 | _,.Gs k,L,h=>k.cN (L:=L) h
 | _,.dead _,_,h=>h
 | _,.DJ _ _ n k,L,h=>k.cN (L:=L) h
 | _,.Q0 _ c _ _ x y,L,h=>by
  cases c with
  | true=>exact x.cN (h.1 rfl)
  | false=>exact y.cN (h.2 rfl)
 | _,.Jj _ _ _ k,L,h=>k.cN (L:=L) h
 | _,.fz _ k,L,h=>k.cN (L:=L) h
 | _,.op _ k,L,h=>(k []).cN (L:=L) h
 | _,.cl _ _ k,L,h=>k.cN (L:=L) h
 | _,.oq _ q k,L,h=>(k (canon q)).cN (L:=L) (h.2 _ (Oa h.1))
 | _,.cq _ _ _ k,L,h=>k.cN (L:=L) h
 | _,.ot _ Q _ _ d k,L,h=>(k (cT Q d)).cN (L:=L) (h.2 _ (fB h.1))
 | _,.ct _ _ _ _ _ k,L,h=>k.cN (L:=L) h
 | _,.Ny _ Q _ d k,L,h=>(k (cT Q d)).cN (L:=L) (h.2 _ (fB h.1))
 | _,.cr _ _ _ _ _ k,L,h=>k.cN (L:=L) h
 | _,.fm _ k,L,h=>k.cN (L:=L) h
 | _,.fb _ k,L,h=>k.cN (L:=L) h
 | _,.up _ k,L,h=>k.cN (L:=L) h
 | _,.nr _ _ _ _ _ k,L,h=>k.cN (L:=L) h
 | _,.HQ _ _ _ k,L,h=>k.cN (L:=L) h
 | _,.mr n V init _ _ b k,L,h=>(k _).cN (h.2.2 _ rfl (nh (V:=V) (fun s g i hg hi hn=>(b g i).cN (h.2.1 s g i hg hi hn)) h.1 _ List.nodup_range (fun i hi=>List.mem_range.1 hi)))
 | _,.bind _ J s _ k,L,h=>by
  have h1:=s.cN h.1
  show L (bN s.val fun b=>(k b).val)
  cases hs:s.val with
  | inl a=>rw [hs] at h1; exact h1
  | inr b=>rw [hs] at h1; exact (k b).cN (h.2 b hs h1)
 | _,.loop d I m i0 _ b,L,h=>HV (f:=fun i=>(b i).val) (fun i hi=>(b i).cN (h.2 i hi)) (m i0+1) i0 h.1 (Nat.lt_succ_self _)
 | _,.rf it I B _ s0 _ _ b k,L,h=>(k _).cN (h.2.2 _ rfl (HU it.ys (fun i s y hs hy=>(b s y).cN (h.2.1 i s y hs hy)) s0 h.1))
def wnA (κ n':Nat):AV→AV
 | .own k m=>bif Nat.beq k κ then .own k n' else .own k m
 | x=>x
def wnC (κ n:Nat):AV→CT
 | .own k m=>bif Nat.beq k κ then .nn m n else .nil
 | _=>.nil
def VT (κ n':Nat):List AV→List AV
 | []=>[]
 | x :: r=>wnA κ n' x :: VT κ n' r
def YP (κ n:Nat):List AV→CT
 | []=>.nil
 | x :: r=>.two (wnC κ n x) (YP κ n r)
def Ty (κ n':Nat):List (Nat × AV)→List (Nat × AV)
 | []=>[]
 | (t,x) :: r=>(t,wnA κ n' x) :: Ty κ n' r
def PJ (κ n:Nat):List (Nat × AV)→CT
 | []=>.nil
 | (_,x) :: r=>.two (wnC κ n x) (PJ κ n r)
def zh (κ n':Nat):List (Nat × aZ)→List (Nat × aZ)
 | []=>[]
 | (k,.box cs) :: r=>(k,.box (VT κ n' cs)) :: zh κ n' r
 | (k,.row e q n f) :: r=>(k,.row e q (bif Nat.beq k κ then n' else n) f) :: zh κ n' r
 | (k,b) :: r=>(k,b) :: zh κ n' r
def uL (κ n:Nat) (n':Nat):List (Nat × aZ)→CT
 | []=>.nil
 | (_,.box cs) :: r=>.two (YP κ n cs) (uL κ n n' r)
 | (k,.row _ _ m _) :: r=>.two (bif Nat.beq k κ then .nn m n' else .nil) (uL κ n n' r)
 | (_,_) :: r=>uL κ n n' r
theorem Tz {κ n:Nat} {x:AV} (h:(wnC κ n x).ok):wnA κ n x=x:=by
 unfold wnC at h
 split at h
 ·rename_i k m
  show (bif Nat.beq k κ then AV.own k n else AV.own k m)=AV.own k m
  cases hb:Nat.beq k κ with
  | true =>
   rw [hb] at h
   have h:m=n:=h
   subst h
   rfl
  | false=>rfl
 ·rename_i QC
  cases x <;> first | rfl | exact absurd rfl (QC _ _)
theorem PK {κ n:Nat}:∀ {l:List AV},(YP κ n l).ok→VT κ n l=l
 | [],_=>rfl
 | x :: r,h=>by simp only [VT,Tz h.1,PK h.2]
theorem Jk {κ n:Nat}:∀ {l:List (Nat × AV)},(PJ κ n l).ok→Ty κ n l=l
 | [],_=>rfl
 | (t,x) :: r,h=>by simp only [Ty,Tz h.1,Jk h.2]
theorem nN {κ n:Nat}:∀ {l:List (Nat × aZ)},(uL κ n n l).ok→zh κ n l=l
 | [],_=>rfl
 | (k,.box cs) :: r,h=>by simp only [zh,PK h.1,nN h.2]
 | (k,.row e q m f) :: r,h=>by
  simp only [zh,nN h.2]
  have h1:=h.1
  cases hb:Nat.beq k κ with
  | false=>rfl
  | true =>
   rw [hb] at h1
   have h1:m=n:=h1
   subst h1
   rfl
 | (k,.mp _ _) :: r,h=>by have h:(uL κ n n r).ok:=h; simp only [zh,nN h]
 | (k,.it _ _ _) :: r,h=>by have h:(uL κ n n r).ok:=h; simp only [zh,nN h]
 | (k,.mx _) :: r,h=>by have h:(uL κ n n r).ok:=h; simp only [zh,nN h]
 | (k,.tx _) :: r,h=>by have h:(uL κ n n r).ok:=h; simp only [zh,nN h]
 | (k,.ml _ _) :: r,h=>by have h:(uL κ n n r).ok:=h; simp only [zh,nN h]
 | (k,.rx _ _ _ _) :: r,h=>by have h:(uL κ n n r).ok:=h; simp only [zh,nN h]
def HW (lb:List (Nat × aZ)):AV→Option Nat
 | .d (.sl q _)=>some q
 | .own κ _=>(match look lb κ with | some (.row _ _ q _)=>some q | _=>none)
 | _=>none
def LO (st:St) (t j:Nat):Option Nat :=
 match St.get st.sl t with
 | .ptr κ _=>(match look st.lb κ with | some (.box cs)=>bif Nat.ble (j+1) cs.length then HW st.lb (cs.getD j default) else none | _=>none)
 | .ref cs=>bif Nat.ble (j+1) cs.length then HW st.lb (.d (cs.getD j default)) else none
 | .d (.agg cs)=>bif Nat.ble (j+1) cs.length then HW st.lb (.d (cs.getD j default)) else none
 | x=>HW st.lb x
def VU (κ:Nat) (f:Nat→List D):AV→AV
 | .own k m=>bif Nat.beq k κ then .d (.sl m f) else .own k m
 | x=>x
def fzC (κ n:Nat):AV→CT
 | .own k m=>bif Nat.beq k κ then .nn m n else .nil
 | x=>.bb (x.keys.any fun k=>Nat.beq k κ) false
def Od (κ:Nat) (f:Nat→List D):List AV→List AV
 | []=>[]
 | x :: r=>VU κ f x :: Od κ f r
def YQ (κ n:Nat):List AV→CT
 | []=>.nil
 | x :: r=>.two (fzC κ n x) (YQ κ n r)
def TA (κ:Nat) (f:Nat→List D):List (Nat × AV)→List (Nat × AV)
 | []=>[]
 | (t,x) :: r=>(t,VU κ f x) :: TA κ f r
def PL (κ n:Nat):List (Nat × AV)→CT
 | []=>.nil
 | (_,x) :: r=>.two (fzC κ n x) (PL κ n r)
def fzB (κ:Nat) (f:Nat→List D):aZ→aZ
 | .box cs=>.box (Od κ f cs)
 | b=>b
def aaY (κ n:Nat):aZ→CT
 | .box cs=>YQ κ n cs
 | .it m _ _=>.bb (Nat.beq m κ) false
 | _=>.nil
def Oe (κ:Nat) (f:Nat→List D):List (Nat × aZ)→List (Nat × aZ)
 | []=>[]
 | (k,b) :: r=>bif Nat.beq k κ then Oe κ f r else (k,fzB κ f b) :: Oe κ f r
def PM (κ n:Nat):List (Nat × aZ)→CT
 | []=>.nil
 | (k,b) :: r=>.two (bif Nat.beq k κ then .nil else aaY κ n b) (PM κ n r)
theorem LP (κ n:Nat) (f:Nat→List D):∀ (l:List (Nat × AV)) (t:Nat),(PL κ n l).ok→St.get (TA κ f l) t=VU κ f (St.get l t)∧(fzC κ n (St.get l t)).ok
 | [],t,_=>⟨rfl,rfl⟩
 | (k,x) :: r,t,h=>by
  obtain ⟨i1,i2⟩:=LP κ n f r t h.2
  simp only [St.get,TA,bf] at i1 i2 ⊢
  by_cases e:k=t
  ·simp only [e,if_true]
   exact ⟨trivial,h.1⟩
  ·simp only [e,if_false]
   exact ⟨i1,i2⟩
theorem pS (κ n:Nat) (f:Nat→List D):∀ (l:List (Nat × aZ)) (κ':Nat) (b:aZ),(PM κ n l).ok→look (Oe κ f l) κ'=some b→κ'≠κ∧∃ c,look l κ'=some c∧b=fzB κ f c∧(aaY κ n c).ok
 | [],κ',b,_,h=>by simp [Oe,look] at h
 | (k,c) :: r,κ',b,h,hl=>by
  have h1:=h.1
  simp only [Oe] at hl
  cases hb:Nat.beq k κ with
  | true =>
   rw [hb] at hl
   simp only [cond_true] at hl
   obtain ⟨q1,d,q2,q3⟩:=pS κ n f r κ' b h.2 hl
   have hk:=Nat.eq_of_beq_eq_true hb
   refine ⟨q1,d,?_,q3⟩
   rw [bf,if_neg (fun e=>q1 (by omega))]
   exact q2
  | false =>
   rw [hb] at hl h1
   simp only [cond_false,bf] at hl h1
   split at hl
   ·rename_i e
    subst e
    simp only [Option.some.injEq] at hl
    subst hl
    refine ⟨fun e=>(by rw [e,Nat.beq_refl] at hb; cases hb),c,(by rw [bf,if_pos rfl]),rfl,h1⟩
   ·rename_i e
    obtain ⟨q1,d,q2,q3⟩:=pS κ n f r κ' b h.2 hl
    exact ⟨q1,d,by rw [bf,if_neg e]; exact q2,q3⟩
theorem AI.fz {st:St} {κ e k n:Nat} {f:Nat→List D} (hl:look st.lb κ=some (.row e k n f)) (h1:(PL κ n st.sl).ok) (h2:(PM κ n st.lb).ok):AI st ⟨TA κ f st.sl,Oe κ f st.lb⟩:=by
 rintro C a w ⟨S,μ,hs⟩
 have yG:=hs fun _=>false
 have hm:=yG.mem κ _ hl
 let S':Nat→Prop:=fun q=>S q∨∃ c,μ κ=some (some (q,c))
 have hS:∀ q,S q→S' q:=fun _ h=>.inl h
 have main:∀ {ν:Nat→Bool} {x:AV} {v:Value},(fzC κ n x).ok→Rel w S μ ν x v→Rel w S' μ ν (VU κ f x) v:=by
  intro ν x v hc hr
  have other:VU κ f x=x→Rel w S' μ ν (VU κ f x) v:=fun e=>by rw [e]; exact hr.mono hS (fun _ _=>rfl) (fun _ _ e=>e)
  cases x with
  | own q m =>
   cases hb:Nat.beq q κ with
   | false=>exact other (by simp [VU,hb])
   | true =>
    have e:=Nat.eq_of_beq_eq_true hb
    subst e
    simp only [fzC,hb,cond_true] at hc
    have hc:m=n:=hc
    subst hc
    simp only [VU,hb,cond_true]
    cases hr with
    | @cR _ ad hμ =>
     cases ad with
     | none=>exact .d (.nil f)
     | some ad=>exact .d (.sl 0 f ad 0 0 (fun _ _=>undef) (Nat.le_refl _) (by simp [maxLen]) (.inl rfl) (fun i hi=>absurd hi (by omega)) (fun i j hi=>absurd hi (by omega)) (fun i j hi=>absurd hi (by omega)))
    | @own _ _ g cap hμ =>
     rw [hμ] at hm
     obtain ⟨cur,hg,_,dK,hn,hcp,kJ⟩:=hm.at
     refine .d (.sl m f ⟨g,0,none⟩ cap k (fun i j=>(cur[i * k+j]?).getD undef) hn hcp (.inr rfl) (fun i hi=>(kJ i hi).1) (fun i j hi hj=>⟨.inr ⟨cap,hμ⟩,?_⟩) (fun i j hi hj=>?_))
     ·obtain ⟨u,hu,_⟩:=(kJ i hi).2 j hj
      rw [Nat.zero_add,kN w g _ cur e _ hg,hu]
      rfl
     ·obtain ⟨u,hu,NI⟩:=(kJ i hi).2 j hj
      rw [hu]
      exact NI.mono hS (fun _ _=>rfl)
  | any=>exact other rfl
  | d=>exact other rfl
  | ptr=>exact other rfl
  | qQ=>exact other rfl
  | ref=>exact other rfl
  | uH=>exact other rfl
  | kD=>exact other rfl
  | uO=>exact other rfl
  | fn=>exact other rfl
  | il=>exact other rfl
  | ag=>exact other rfl
  | g=>exact other rfl
 refine ⟨S',μ,fun ν=>?_⟩
 have Cm:=hs ν
 refine ⟨Cm.tmps,Cm.defers,fun t=>?_,fun κ' b hb=>?_,fun κ1 κ2 b1 b2 g c c' q1 q2 q3 q4=>?_,fun κ' b g c q1 q2=>?_,fun b hb=>.inl (Cm.dR b hb),fun b hb=>?_,fun b hb=>?_,Cm.kept⟩
 ·obtain ⟨e1,e2⟩:=LP κ n f st.sl t h1
  simp only [St.toM]
  rw [e1]
  exact main e2 (Cm.dN t)
 ·obtain ⟨gN,c,hc,rfl,Al⟩:=pS κ n f st.lb κ' b h2 hb
  have uS:=Cm.mem κ' c hc
  have hnS:∀ g cc,μ κ'=some (some (g,cc))→¬ S' g:=fun g cc IQ XS=>by
   rcases XS with h | ⟨c2,NM⟩
   ·rw [IQ] at uS; exact uS.at.not h
   ·exact gN (Cm.inj κ' κ c _ g cc c2 hc hl IQ NM)
  have ql:=uS.mono (S':=S') hS (fun _ _=>rfl) (fun _ _ e=>e) (fun g cc e=>⟨rfl,hnS g cc e⟩)
  cases c with
  | box cs =>
   cases IQ:μ κ' with
   | none=>rw [IQ] at uS; exact uS.elim
   | some y =>
    cases y with
    | none=>rw [IQ] at uS; exact uS.elim
    | some gc =>
     obtain ⟨g,cc⟩:=gc
     rw [IQ] at uS
     obtain ⟨cur,e0,x1,x2,x3,x4⟩:=uS.at
     have hlen:∀ (l:List AV),(Od κ f l).length=l.length:=fun l=>by induction l with | nil=>rfl | cons _ _ ih=>simp [Od,ih]
     have Ch:∀ (l:List AV) (j:Nat),j < l.length→(YQ κ n l).ok→(Od κ f l).getD j default=VU κ f (l.getD j default)∧(fzC κ n (l.getD j default)).ok:=fun l=>by
      induction l with
      | nil=>intro j hj; exact absurd hj (by simp)
      | cons x r ih =>
       intro j hj hk
       cases j with
       | zero=>exact ⟨rfl,hk.1⟩
       | succ j=>simpa [Od] using ih j (by simpa using hj) hk.2
     refine cx.ok (b:=.box (Od κ f cs)) ⟨cur,e0,x1,hnS g cc IQ,by rw [hlen]; exact x3,fun j hj=>?_⟩
     rw [hlen] at hj
     obtain ⟨x,y1,y2⟩:=x4 j hj
     obtain ⟨z1,z2⟩:=Ch cs j hj Al
     exact ⟨x,y1,fun ν'=>by rw [z1]; exact main z2 (y2 ν')⟩
  | row=>exact ql
  | mp=>exact ql
  | it=>exact ql
  | mx=>exact ql
  | tx=>exact ql
  | rx=>exact ql
  | ml=>exact ql
 ·obtain ⟨_,d1,e1,_⟩:=pS κ n f st.lb κ1 b1 h2 q1
  obtain ⟨_,d2,e2,_⟩:=pS κ n f st.lb κ2 b2 h2 q2
  exact Cm.inj κ1 κ2 d1 d2 g c c' e1 e2 q3 q4
 ·obtain ⟨_,d1,e1,_⟩:=pS κ n f st.lb κ' b h2 q1
  exact Cm.own κ' d1 g c e1 q2
 ·rcases hb with h | ⟨c,hc⟩
  ·exact Cm.fresh b h
  ·rcases Cm.own κ _ b c hl hc with h | h
   ·exact .inr (.inl h)
   ·exact .inr (.inr h)
 ·rcases hb with h | ⟨c,hc⟩
  ·exact Cm.bound b h
  ·rw [hc] at hm
   exact hm.at.lt
def Og (g:AV→AV):List AV→List AV
 | []=>[]
 | x :: r=>g x :: Og g r
def YR (c:AV→CT):List AV→CT
 | []=>.nil
 | x :: r=>.two (c x) (YR c r)
def LQ (g:AV→AV):List (Nat × AV)→List (Nat × AV)
 | []=>[]
 | (t,x) :: r=>(t,g x) :: LQ g r
def EH (c:AV→CT):List (Nat × AV)→CT
 | []=>.nil
 | (_,x) :: r=>.two (c x) (EH c r)
def gzB (g:AV→AV):aZ→aZ
 | .box cs=>.box (Og g cs)
 | b=>b
def aaZ (κ:Nat) (c:AV→CT):aZ→CT
 | .box cs=>YR c cs
 | .it m _ _=>.bb (Nat.beq m κ) false
 | _=>.nil
def GH (κ:Nat) (g:AV→AV):List (Nat × aZ)→List (Nat × aZ)
 | []=>[]
 | (k,b) :: r=>bif Nat.beq k κ then GH κ g r else (k,gzB g b) :: GH κ g r
def EI (κ:Nat) (c:AV→CT):List (Nat × aZ)→CT
 | []=>.nil
 | (k,b) :: r=>.two (bif Nat.beq k κ then .nil else aaZ κ c b) (EI κ c r)
def VV (κ n:Nat) (f:Nat→Value × D):AV→AV
 | .kD k=>bif Nat.beq k κ then .d (.mp n (fun i=>(f i).1) (fun i=>(f i).2)) else .kD k
 | x=>x
def mzC (κ:Nat):AV→CT
 | .kD _=>.nil
 | x=>.bb (x.keys.any fun k=>Nat.beq k κ) false
def VW (κ:Nat) (ds:List D):AV→AV
 | .ptr k o=>bif Nat.beq k κ then .ref (ds.drop o) else .ptr k o
 | x=>x
def bzC (κ:Nat):AV→CT
 | .ptr _ _=>.nil
 | x=>.bb (x.keys.any fun k=>Nat.beq k κ) false
theorem LR (g:AV→AV) (c:AV→CT) (ha:g .any=.any) (hc:(c .any).ok):∀ (l:List (Nat × AV)) (t:Nat),(EH c l).ok→St.get (LQ g l) t=g (St.get l t)∧(c (St.get l t)).ok
 | [],t,_=>⟨ha.symm,hc⟩
 | (k,x) :: r,t,h=>by
  obtain ⟨i1,i2⟩:=LR g c ha hc r t h.2
  simp only [St.get,LQ,bf] at i1 i2 ⊢
  by_cases e:k=t
  ·simp only [e,if_true]
   exact ⟨trivial,h.1⟩
  ·simp only [e,if_false]
   exact ⟨i1,i2⟩
theorem pT (κ:Nat) (g:AV→AV) (cc:AV→CT):∀ (l:List (Nat × aZ)) (κ':Nat) (b:aZ),(EI κ cc l).ok→look (GH κ g l) κ'=some b→κ'≠κ∧∃ c,look l κ'=some c∧b=gzB g c∧(aaZ κ cc c).ok
 | [],κ',b,_,h=>by simp [GH,look] at h
 | (k,c) :: r,κ',b,h,hl=>by
  have h1:=h.1
  simp only [GH] at hl
  cases hb:Nat.beq k κ with
  | true =>
   rw [hb] at hl
   simp only [cond_true] at hl
   obtain ⟨q1,d,q2,q3⟩:=pT κ g cc r κ' b h.2 hl
   have hk:=Nat.eq_of_beq_eq_true hb
   refine ⟨q1,d,?_,q3⟩
   rw [bf,if_neg (fun e=>q1 (by omega))]
   exact q2
  | false =>
   rw [hb] at hl h1
   simp only [cond_false,bf] at hl h1
   split at hl
   ·rename_i e
    subst e
    simp only [Option.some.injEq] at hl
    subst hl
    refine ⟨fun e=>(by rw [e,Nat.beq_refl] at hb; cases hb),c,(by rw [bf,if_pos rfl]),rfl,h1⟩
   ·rename_i e
    obtain ⟨q1,d,q2,q3⟩:=pT κ g cc r κ' b h.2 hl
    exact ⟨q1,d,by rw [bf,if_neg e]; exact q2,q3⟩
theorem AI.gz {st:St} {κ:Nat} {b0:aZ} (g:AV→AV) (cc:AV→CT) (ha:g .any=.any) (hc:(cc .any).ok) (hl:look st.lb κ=some b0)
  (Tj:∀ {w:World} {S:Nat→Prop} {μ:Mu} {ν:Nat→Bool} {x:AV} {v:Value},ew w S μ b0 (μ κ)→(cc x).ok→Rel w S μ ν x v→Rel w (fun q=>S q∨∃ c,μ κ=some (some (q,c))) μ ν (g x) v)
  (h1:(EH cc st.sl).ok) (h2:(EI κ cc st.lb).ok):AI st ⟨LQ g st.sl,GH κ g st.lb⟩:=by
 rintro C a w ⟨S,μ,hs⟩
 have yG:=hs fun _=>false
 have hm:=yG.mem κ _ hl
 let S':Nat→Prop:=fun q=>S q∨∃ c,μ κ=some (some (q,c))
 have hS:∀ q,S q→S' q:=fun _ h=>.inl h
 have main:∀ {ν:Nat→Bool} {x:AV} {v:Value},(cc x).ok→Rel w S μ ν x v→Rel w S' μ ν (g x) v:=fun hc hr=>Tj hm hc hr
 refine ⟨S',μ,fun ν=>?_⟩
 have Cm:=hs ν
 refine ⟨Cm.tmps,Cm.defers,fun t=>?_,fun κ' b hb=>?_,fun κ1 κ2 b1 b2 g1 c c' q1 q2 q3 q4=>?_,fun κ' b g1 c q1 q2=>?_,fun b hb=>.inl (Cm.dR b hb),fun b hb=>?_,fun b hb=>?_,Cm.kept⟩
 ·obtain ⟨e1,e2⟩:=LR g cc ha hc st.sl t h1
  simp only [St.toM]
  rw [e1]
  exact main e2 (Cm.dN t)
 ·obtain ⟨gN,c,pZ,rfl,Al⟩:=pT κ g cc st.lb κ' b h2 hb
  have uS:=Cm.mem κ' c pZ
  have hnS:∀ g1 c1,μ κ'=some (some (g1,c1))→¬ S' g1:=fun g1 c1 IQ XS=>by
   rcases XS with h | ⟨c2,NM⟩
   ·rw [IQ] at uS; exact uS.at.not h
   ·exact gN (Cm.inj κ' κ c _ g1 c1 c2 pZ hl IQ NM)
  have ql:=uS.mono (S':=S') hS (fun _ _=>rfl) (fun _ _ e=>e) (fun g1 c1 e=>⟨rfl,hnS g1 c1 e⟩)
  cases c with
  | box cs =>
   cases IQ:μ κ' with
   | none=>rw [IQ] at uS; exact uS.elim
   | some y =>
    cases y with
    | none=>rw [IQ] at uS; exact uS.elim
    | some gc =>
     obtain ⟨g1,c1⟩:=gc
     rw [IQ] at uS
     obtain ⟨cur,e0,x1,x2,x3,x4⟩:=uS.at
     have hlen:∀ (l:List AV),(Og g l).length=l.length:=fun l=>by induction l with | nil=>rfl | cons _ _ ih=>simp [Og,ih]
     have Ch:∀ (l:List AV) (j:Nat),j < l.length→(YR cc l).ok→(Og g l).getD j default=g (l.getD j default)∧(cc (l.getD j default)).ok:=fun l=>by
      induction l with
      | nil=>intro j hj; exact absurd hj (by simp)
      | cons x r ih =>
       intro j hj hk
       cases j with
       | zero=>exact ⟨rfl,hk.1⟩
       | succ j=>simpa [Og] using ih j (by simpa using hj) hk.2
     refine cx.ok (b:=.box (Og g cs)) ⟨cur,e0,x1,hnS g1 c1 IQ,by rw [hlen]; exact x3,fun j hj=>?_⟩
     rw [hlen] at hj
     obtain ⟨x,y1,y2⟩:=x4 j hj
     obtain ⟨z1,z2⟩:=Ch cs j hj Al
     exact ⟨x,y1,fun ν'=>by rw [z1]; exact main z2 (y2 ν')⟩
  | row=>exact ql
  | mp=>exact ql
  | it=>exact ql
  | mx=>exact ql
  | tx=>exact ql
  | rx=>exact ql
  | ml=>exact ql
 ·obtain ⟨_,d1,e1,_⟩:=pT κ g cc st.lb κ1 b1 h2 q1
  obtain ⟨_,d2,e2,_⟩:=pT κ g cc st.lb κ2 b2 h2 q2
  exact Cm.inj κ1 κ2 d1 d2 g1 c c' e1 e2 q3 q4
 ·obtain ⟨_,d1,e1,_⟩:=pT κ g cc st.lb κ' b h2 q1
  exact Cm.own κ' d1 g1 c e1 q2
 ·rcases hb with h | ⟨c,hc⟩
  ·exact Cm.fresh b h
  ·rcases Cm.own κ _ b c hl hc with h | h
   ·exact .inr (.inl h)
   ·exact .inr (.inr h)
 ·rcases hb with h | ⟨c,hc⟩
  ·exact Cm.bound b h
  ·rw [hc] at hm
   exact hm.at.lt
theorem AI.fm {st:St} {κ n:Nat} {f:Nat→Value × D} (hl:look st.lb κ=some (.mp n f)) (h1:(EH (mzC κ) st.sl).ok) (h2:(EI κ (mzC κ) st.lb).ok):AI st ⟨LQ (VV κ n f) st.sl,GH κ (VV κ n f) st.lb⟩:=by
 refine AI.gz (VV κ n f) (mzC κ) rfl rfl hl (fun {w S μ ν x v} hm hc hr=>?_) h1 h2
 have other:VV κ n f x=x→Rel w (fun q=>S q∨∃ c,μ κ=some (some (q,c))) μ ν (VV κ n f x) v:=fun e=>by rw [e]; exact hr.mono (fun _ h=>.inl h) (fun _ _=>rfl) (fun _ _ e=>e)
 cases x with
 | kD q =>
  cases hb:Nat.beq q κ with
  | false=>exact other (by simp [VV,hb])
  | true =>
   have e:=Nat.eq_of_beq_eq_true hb
   subst e
   simp only [VV,hb,cond_true]
   cases hr with
   | @kD _ g cap hμ =>
    rw [hμ] at hm
    obtain ⟨cur,hg,_,dK,aJ⟩:=hm.at
    refine .d (.mp n _ _ g cur (fun i=>((cur[i]?).map (·.val)).getD undef) (.inr ⟨cap,hμ⟩) hg dK (fun i hi=>?_) (fun i hi=>?_))
    ·obtain ⟨e,q1,q2,q3,q4,q5⟩:=aJ i hi
     exact ⟨e,q1,q2,q3,q4,by rw [q1]; rfl⟩
    ·obtain ⟨e,q1,q2,q3,q4,q5⟩:=aJ i hi
     rw [q1]
     exact q5.mono (fun _ h=>.inl h) (fun _ _=>rfl)
 | _=>exact other rfl
theorem AI.fb {st:St} {κ:Nat} {cs:List AV} {ds:List D} (hl:look st.lb κ=some (.box cs)) (hp:qR cs=some ds) (h1:(EH (bzC κ) st.sl).ok) (h2:(EI κ (bzC κ) st.lb).ok):AI st ⟨LQ (VW κ ds) st.sl,GH κ (VW κ ds) st.lb⟩:=by
 refine AI.gz (VW κ ds) (bzC κ) rfl rfl hl (fun {w S μ ν x v} hm hc hr=>?_) h1 h2
 have other:VW κ ds x=x→Rel w (fun q=>S q∨∃ c,μ κ=some (some (q,c))) μ ν (VW κ ds x) v:=fun e=>by rw [e]; exact hr.mono (fun _ h=>.inl h) (fun _ _=>rfl) (fun _ _ e=>e)
 cases x with
 | ptr q o =>
  cases hb:Nat.beq q κ with
  | false=>exact other (by simp [VW,hb])
  | true =>
   have e:=Nat.eq_of_beq_eq_true hb
   subst e
   simp only [VW,hb,cond_true]
   cases hr with
   | @ptr _ _ g cap hμ =>
    rw [hμ] at hm
    obtain ⟨cur,e,hg,_,dK,aJ⟩:=hm.at
    obtain rfl:=mY hp
    simp only [List.length_map] at dK aJ
    refine .ref (fun j=>(cur[o+j]?).getD undef) (fun j hj=>⟨.inr ⟨cap,hμ⟩,?_⟩) (fun j hj=>?_)
    ·simp only [List.length_drop] at hj
     obtain ⟨x,hx,_⟩:=aJ (o+j) (by omega)
     rw [kN w g _ cur e _ hg,hx]
     rfl
    ·simp only [List.length_drop] at hj
     obtain ⟨x,hx,hr⟩:=aJ (o+j) (by omega)
     have h3:=hr fun _=>false
     rw [gb ds (o+j) (by omega)] at h3
     rw [show (ds.drop o).getD j default=ds.getD (o+j) default from by simp [List.getD],hx]
     exact (eE.1 h3).mono (fun _ h=>.inl h) (fun _ _=>rfl)
 | _=>exact other rfl
def Oh (ops:Array Oper):Option (Nat × Nat × Nat) :=
 match ops.toList with
 | [o1,o2]=>(match o1.op,o1.dst,o1.guard,o2.op,o2.dst,o2.guard with
  | .next (.tmp it) false,some d1,none,.extract (.tmp Sc) 0,some d2,none=>bif Nat.beq d1 Sc then some (it,d1,d2) else none
  | _,_,_,_,_,_=>none)
 | _=>none
def lR:Code→Option (Array Oper × List Item)
 | .seq x y=>(match lR x with | some (ops,l)=>some (ops,l++[.code y]) | none=>none)
 | .region _ ops false=>some (ops,[])
 | _=>none
def Oi (st:St) (d1 d2 κi κ n i:Nat) (s:List Nat):St:=⟨(d2,.d (.v (.bool true))) :: aU [d1,d2] st.sl,(κi,.it κ n (i :: s)) :: aU [κi] st.lb⟩
def EJ (st:St) (d1 d2 it:Nat):St:=⟨(d2,.d (.v (.bool false))) :: aU [d1,d2,it] st.sl,st.lb⟩
inductive YS where
 | ret (x:AV) (cj:List (Nat × aZ))
 | QV (x:AV) (cj:List (Nat × aZ)) (fX:List (Nat × Nat))
 | go (todo:List Item) (st:St)
 | brk (id:Nat) (st:St)
def TB (g:Goal):YS→Prop
 | .ret x cj=>g.U6∧g.res=x∧g.cj=cj
 | .QV x cj fX=>g.LC fX∧g.res=x∧g.cj=cj
 | .go todo st=>G g todo st
 | .brk id st=>∀ k,exitTo id k=none→G g (.code (.exit id) :: k) st
def VX (T:List (Nat × TI)) (rs:List ResultVar) (st:St) (x:AV) (cj:List (Nat × aZ)):CT :=
 match qY T st rs with
 | some (l,_,ob)=>(match cj with
  | []=>(match sq st.lb l with | some (l',_,xj)=>.two (xX ob) (.two (xX xj) (N8 [] (oo l') x)) | none=>.bad)
  | cj=>.two (xX ob) (.two (.bb (yZ (EC st.lb cj (HS (oo l) x []))) true) (.two (N8 (EC st.lb cj (HS (oo l) x [])) (oo l) x) (N9 (EC st.lb cj (HS (oo l) x [])) st.lb cj))))
 | none=>.bad
def aa0 (fX:List (Nat × Nat)):List (Nat × AV):=fX.map fun p=>(p.1,.ptr p.2 0)
def VY (st:St) (x:AV) (cj:List (Nat × aZ)) (fX:List (Nat × Nat)) (l:List AV):Ren:=EC st.lb cj (Tu st.sl (aa0 fX) (HS (oo l) x []))
def PN (T:List (Nat × TI)) (rs:List ResultVar) (st:St) (x:AV) (cj:List (Nat × aZ)) (fX:List (Nat × Nat)):CT :=
 match qY T st rs with
 | some (l,_,ob)=>.two (xX ob) (.two (.bb (yZ (VY st x cj fX l)) true) (.two (N8 (VY st x cj fX l) (oo l) x) (.two (VQ (VY st x cj fX l) st.sl (aa0 fX)) (N9 (VY st x cj fX l) st.lb cj))))
 | none=>.bad
def lS (P:Program) (T:List (Nat × TI)) (nt:Nat) (rm:Nat) (md:Nat) (pr:List Nat) (todo:List Item) (st:St):Option (List Item × St × CT) :=
 match todo with
 | .code (.seq x y) :: k=>some (.code x :: .code y :: k,st,.nil)
 | .code .skip :: k=>some (k,st,.nil)
 | .code (.label _) :: k=>some (k,st,.nil)
 | .code (.cond (.const (.bool e)) x y) :: k=>some (.code (bif e then x else y) :: k,st,.nil)
 | .code (.block id c) :: k=>some (.code c :: .inBlock id :: k,st,.nil)
 | .inBlock _ :: k=>some (k,st,.nil)
 | .code (.exit id) :: k=>(match exitTo id k with | some k'=>some (k',st,.nil) | none=>none)
 | .code (.region _ ops draw) :: k=>(match vl P T nt ops draw none st [] with
  | some (st',ob)=>some (k,st'.fW (Nat.lor rm (gQ k)),.two (.bb (Cj md pr ops) true) (xX ob))
  | none=>none)
 | _=>none
def VZ (c:Bool):AV→AV→AV
 | .d x,.d y=>.d (bif c then x else y)
 | x,y=>bif c then x else y
theorem V0 (c:Bool) (x y:AV):VZ c x y=bif c then x else y:=by
 unfold VZ
 split
 ·cases c <;> rfl
 ·rfl
def KD (rm:Nat) (todo:List Item):Nat:=Nat.lor rm (gQ todo)
def TC (P:Program) (T:List (Nat × TI)) (nt:Nat) (rm:Nat) (md:Nat) (pr:List Nat):Nat→List Item→St→Option (List Item × St × CT)
 | 0,_,_=>none
 | n+1,todo,st=>(match todo with
  | .beginRound :: k=>some (.beginRound :: k,st,.nil)
  | todo=>(match lS P T nt rm md pr todo st with
   | some (k,st1,c)=>(match TC P T nt rm md pr n k st1 with
    | some (k',st2,c')=>some (k',st2,.two c c')
    | none=>none)
   | none=>none))
def TE (P:Program) (T:List (Nat × TI)) (nt:Nat) (rm:Nat) (md:Nat) (pr:List Nat) (n:Nat) (todo:List Item) (st:St):St:=match TC P T nt rm md pr n todo st with | some (_,st2,_)=>st2 | none=>⟨[],[]⟩
def aa1 (P:Program) (T:List (Nat × TI)) (nt:Nat) (rm:Nat) (md:Nat) (pr:List Nat) (n:Nat) (todo:List Item) (st:St) (k:List Item):CT:=match TC P T nt rm md pr n todo st with | some (k',_,c)=>.two c (.td k' k) | none=>.bad
def YT (m:List (Int × Int)):Nat→Value × D:=fun i=>(.int .i64 (m.getD i default).1,.v (.int .i64 (m.getD i default).2))
def j8 (P:Program) (T:List (Nat × TI)) (nt:Nat) (rs:List ResultVar) (rm:Nat) (md:Nat) (pr:List Nat):Nat→{α:Type}→List Item→St→(α→YS)→Sk α→CT
 | 0,_,_,_,_,_=>.bad
 | n+1,_,todo,st,L,sk =>
  match sk with
  | .op κ k=>(match look st.lb κ with
   | some (.mx _)=>.pi fun m=>j8 P T nt rs rm md pr n todo ⟨st.sl,(κ,.mp m.length (YT m)) :: aU [κ] st.lb⟩ L (k m)
   | _=>.bad)
  | .oq κ q k=>(match look st.lb κ with
   | some (.mx q')=>.two (.qq q' q) (.pi fun m=>j8 P T nt rs rm md pr n todo ⟨st.sl,(κ,.mp m.length (YT m)) :: aU [κ] st.lb⟩ L (k m))
   | _=>.bad)
  | .cq κ m q' k=>(match look st.lb κ with
   | some (.mp q f)=>.two (.nn q m.length) (.two (.mm f (YT m)) (j8 P T nt rs rm md pr n todo ⟨st.sl,(κ,.mx q') :: aU [κ] st.lb⟩ L k))
   | _=>.bad)
  | .cl κ m k=>(match look st.lb κ with
   | some (.mp q f)=>.two (.nn q m.length) (.two (.mm f (YT m)) (j8 P T nt rs rm md pr n todo ⟨st.sl,(κ,.mx mxT) :: aU [κ] st.lb⟩ L k))
   | _=>.bad)
  | .ot κ Q ln en _ k=>(match look st.lb κ with
   | some (.tx q')=>.two (.tq q' (txQ Q ln en)) (.pi fun m=>j8 P T nt rs rm md pr n todo ⟨st.sl,(κ,.mp (ln m) (en m)) :: aU [κ] st.lb⟩ L (k m))
   | _=>.bad)
  | .ct κ Q ln en y k=>(match look st.lb κ with
   | some (.mp q f)=>.two (.nn q (ln y)) (.two (.mm f (en y)) (j8 P T nt rs rm md pr n todo ⟨st.sl,(κ,.tx (txQ Q ln en)) :: aU [κ] st.lb⟩ L k))
   | _=>.bad)
  | .Ny κ Q en _ k=>(match look st.lb κ with
   | some (.rx e q m q')=>.two (.rq q' (YO Q en)) (.pi fun y=>j8 P T nt rs rm md pr n todo ⟨st.sl,(κ,.row e q m (en y)) :: aU [κ] st.lb⟩ L (k y))
   | _=>.bad)
  | .cr κ m' Q en y k=>(match look st.lb κ with
   | some (.row e q m f)=>.two (.nn m m') (.two (.ff f (en y)) (j8 P T nt rs rm md pr n todo ⟨st.sl,(κ,.rx e q m' (YO Q en)) :: aU [κ] st.lb⟩ L k))
   | _=>.bad)
  | .fm κ k=>(match look st.lb κ with
   | some (.mp q f)=>.two (EH (mzC κ) st.sl) (.two (EI κ (mzC κ) st.lb) (j8 P T nt rs rm md pr n todo ⟨LQ (VV κ q f) st.sl,GH κ (VV κ q f) st.lb⟩ L k))
   | _=>.bad)
  | .fb κ k=>(match look st.lb κ with
   | some (.box cs)=>(match qR cs with
    | some ds=>.two (EH (bzC κ) st.sl) (.two (EI κ (bzC κ) st.lb) (j8 P T nt rs rm md pr n todo ⟨LQ (VW κ ds) st.sl,GH κ (VW κ ds) st.lb⟩ L k))
    | none=>.bad)
   | _=>.bad)
  | .up u k=>.two (LM st (st.uU (Nat.lor rm (gQ todo)) u)) (j8 P T nt rs rm md pr n todo (st.uU (Nat.lor rm (gQ todo)) u) L k)
  | .nr t κ e q f k=>(match St.get st.sl t with
   | .d (.v (.slice none 0 0))=>.two (.bb (xR st κ) true) (j8 P T nt rs rm md pr n todo ⟨(t,.own κ 0) :: aU [t] st.sl,(κ,.row e q 0 f) :: st.lb⟩ L k)
   | _=>.bad)
  | .HQ id x c k=>(match todo with
   | .code (.region i ops false) :: K=>bif Nat.beq i id then (match Tm ops with
    | some (ts,ti,ty,d1,d2,d3)=>(match St.get st.sl ts,St.get st.sl ti,look T ty with
     | .own κ m,.d (.v (.int .i64 xx)),some { kind:=.slice e',.. }=>(match look st.lb κ,look T e' with
      | some (.row e q m2 f),some i=>.two (.bb (Nat.ble (d1+1) nt&&Nat.ble (d2+1) nt&&Nat.ble (d3+1) nt&&Cj md pr ops&&Nat.beq e e'&&Nat.beq q i.size&&i.zero.all uQ&&!Nat.beq ts d1&&!Nat.beq ts d2&&!Nat.beq ts d3) true)
        (.two (.zz xx x) (.two (.nn m m2) (.two (.nn m c.n) (.two (.ff (rR xx.toNat f i.zero) c.f)
        (j8 P T nt rs rm md pr n K (St.fW (Nat.lor rm (gQ K)) ⟨(ts,.own κ c.n') :: aU [ts,d1,d2,d3] st.sl,(κ,.row e q c.n' c.f') :: aU [κ] st.lb⟩) L k)))))
      | _,_=>.bad)
     | _,_,_=>.bad)
    | none=>.bad)
    else (match lS P T nt rm md pr (.code (.region i ops false) :: K) st with | some (k0,st1,c0)=>.two c0 (j8 P T nt rs rm md pr n k0 st1 L (.HQ id x c k)) | none=>.bad)
   | todo=>(match lS P T nt rm md pr todo st with | some (k0,st1,c0)=>.two c0 (j8 P T nt rs rm md pr n k0 st1 L (.HQ id x c k)) | none=>.bad))
  | .wi t a b k=>.two (.vv (St.get st.sl t) (.d (.v (.int .i64 a)))) (j8 P T nt rs rm md pr n todo ⟨(t,.d (.v (.int .i64 b))) :: aU [t] st.sl,st.lb⟩ L k)
  | .DJ t j m k=>(match LO st t j with
   | some q=>.two (.nn q m) (j8 P T nt rs rm md pr n todo st L k)
   | none=>.bad)
  | .wn κ a b k=>.two (PJ κ a st.sl) (.two (uL κ a b st.lb) (j8 P T nt rs rm md pr n todo ⟨Ty κ b st.sl,zh κ b st.lb⟩ L k))
  | .wr κ a b k=>.two (PJ κ a st.sl) (.two (uL κ a a st.lb) (j8 P T nt rs rm md pr n todo ⟨Ty κ b st.sl,zh κ b st.lb⟩ L k))
  | .dead _=>.nil
  | .Jj t m k1 k2=>(match St.get st.sl t with
   | .d (.sl q f)=>.two (.nn q m) (.two (j8 P T nt rs rm md pr n todo ⟨(t,.d (.v (.slice none 0 0))) :: aU [t] st.sl,st.lb⟩ L k1) (j8 P T nt rs rm md pr n todo ⟨(t,.uH q f) :: aU [t] st.sl,st.lb⟩ L k2))
   | _=>.bad)
  | .fz κ k=>(match look st.lb κ with
   | some (.row _ _ q f)=>.two (PL κ q st.sl) (.two (PM κ q st.lb) (j8 P T nt rs rm md pr n todo ⟨TA κ f st.sl,Oe κ f st.lb⟩ L k))
   | _=>.bad)
  | .mr m V init u v b k=>(match todo with
   | .code (.loop c) :: K=>(match lR c with
    | some (ops,l)=>(match Oh ops with
     | some (it,d1,d2)=>bif Nat.ble (d1+1) nt&&Nat.ble (d2+1) nt&&Cj md pr ops then
       .two (LM st (st.uU (Nat.lor rm (gQ (.inLoop c :: K))) (u init [])))
       (.two (.pi fun g=>.pi fun s=>(match St.get (st.uU (Nat.lor rm (gQ (.inLoop c :: K))) (u g s)).sl it with
        | .ptr κi 0=>(match look (st.uU (Nat.lor rm (gQ (.inLoop c :: K))) (u g s)).lb κi with
         | some (.it κ m1 s1)=>(match look (st.uU (Nat.lor rm (gQ (.inLoop c :: K))) (u g s)).lb κ with
          | some (.mp m2 _)=>.two (.nn m1 m) (.two (.nn m2 m) (.two (.ss s1 s) (.two
            (LM (EJ (st.uU (Nat.lor rm (gQ (.inLoop c :: K))) (u g s)) d1 d2 it) ((EJ st d1 d2 it).uU (Nat.lor rm (gQ (l++.inLoop c :: K))) (v g)))
            (.pi fun i=>j8 P T nt rs rm md pr n (l++.inLoop c :: K) (Oi (st.uU (Nat.lor rm (gQ (.inLoop c :: K))) (u g s)) d1 d2 κi κ m i s) (fun g'=>.go (.inLoop c :: K) (st.uU (Nat.lor rm (gQ (.inLoop c :: K))) (u g' (i :: s)))) (b g i)))))
          | _=>.bad)
         | _=>.bad)
        | _=>.bad))
       (.pi fun g=>j8 P T nt rs rm md pr n (l++.inLoop c :: K) ((EJ st d1 d2 it).uU (Nat.lor rm (gQ (l++.inLoop c :: K))) (v g)) L (k g))) else .bad
     | none=>.bad)
    | none=>.bad)
   | todo=>(match lS P T nt rm md pr todo st with | some (k0,st1,c)=>.two c (j8 P T nt rs rm md pr n k0 st1 L (.mr m V init u v b k)) | none=>.bad))
  | .Gr x=>(match todo with
   | .code (.cond (.tmp c) p _) :: k=>.two (.vv (St.get st.sl c) (.d (.v (.bool true)))) (j8 P T nt rs rm md pr n (.code p :: k) st L x)
   | todo=>(match lS P T nt rm md pr todo st with | some (k,st1,c)=>.two c (j8 P T nt rs rm md pr n k st1 L (.Gr x)) | none=>.bad))
  | .Gs x=>(match todo with
   | .code (.cond (.tmp c) _ q) :: k=>.two (.vv (St.get st.sl c) (.d (.v (.bool false)))) (j8 P T nt rs rm md pr n (.code q :: k) st L x)
   | todo=>(match lS P T nt rm md pr todo st with | some (k,st1,c)=>.two c (j8 P T nt rs rm md pr n k st1 L (.Gs x)) | none=>.bad))
  | .Q0 t c x y k1 k2=>.two (.vv (St.get st.sl t) (VZ c x y)) (.two (j8 P T nt rs rm md pr n todo ⟨(t,x) :: aU [t] st.sl,st.lb⟩ L k1) (j8 P T nt rs rm md pr n todo ⟨(t,y) :: aU [t] st.sl,st.lb⟩ L k2))
  | .fin a=>(match L a with
   | .go Es st'=>bif Nat.beq todo.length Es.length then .two (.td todo Es) (LM st st') else
     (match lS P T nt rm md pr todo st with | some (k,st1,c)=>.two c (j8 P T nt rs rm md pr n k st1 L (.fin a)) | none=>.bad)
   | .brk id st'=>(match todo with
    | .code (.exit id') :: k=>bif Nat.beq id id'&&(exitTo id' k).isNone then LM st st' else
     (match lS P T nt rm md pr (.code (.exit id') :: k) st with | some (k,st1,c)=>.two c (j8 P T nt rs rm md pr n k st1 L (.fin a)) | none=>.bad)
    | todo=>(match lS P T nt rm md pr todo st with | some (k,st1,c)=>.two c (j8 P T nt rs rm md pr n k st1 L (.fin a)) | none=>.bad))
   | .ret x cj=>(match todo with
    | []=>VX T rs st x cj
    | .code .ret :: _=>VX T rs st x cj
    | todo=>(match lS P T nt rm md pr todo st with | some (k,st1,c)=>.two c (j8 P T nt rs rm md pr n k st1 L (.fin a)) | none=>.bad))
   | .QV x cj fX=>(match todo with
    | []=>PN T rs st x cj fX
    | .code .ret :: _=>PN T rs st x cj fX
    | todo=>(match lS P T nt rm md pr todo st with | some (k,st1,c)=>.two c (j8 P T nt rs rm md pr n k st1 L (.fin a)) | none=>.bad)))
  | .br e x y=>(match todo with
   | .code (.cond (.tmp c) p q) :: k=>.two (.vv (St.get st.sl c) (.d (.v (.bool e)))) (.two (j8 P T nt rs rm md pr n (.code p :: k) st L x) (j8 P T nt rs rm md pr n (.code q :: k) st L y))
   | todo=>(match lS P T nt rm md pr todo st with | some (k,st1,c)=>.two c (j8 P T nt rs rm md pr n k st1 L (.br e x y)) | none=>.bad))
  | .r id cl kk=>(match todo with
   | .code (.region i ops draw) :: k=>bif Nat.beq i id then
     .pi fun x=>(match vl P T nt ops draw none st (cl.ji x) with
      | some (st',ob)=>.two (.bb (Cj md pr ops) true) <| .two ob.eqs (.two (.po ob.prop (cl.qZ x)) (j8 P T nt rs rm md pr n k (st'.fW (Nat.lor rm (gQ k))) L (kk x)))
      | none=>.bad)
    else (match lS P T nt rm md pr (.code (.region i ops draw) :: k) st with | some (k,st1,c)=>.two c (j8 P T nt rs rm md pr n k st1 L (.r id cl kk)) | none=>.bad)
   | todo=>(match lS P T nt rm md pr todo st with | some (k,st1,c)=>.two c (j8 P T nt rs rm md pr n k st1 L (.r id cl kk)) | none=>.bad))
  | .bind true J s u kk=>(match todo with
   | .code (.block id c) :: k=>.two (j8 P T nt rs rm md pr n (.code c :: .inBlock id :: k) st (fun q=>match q with | .inl a=>L a | .inr b=>.go k (st.uU (Nat.lor rm (gQ k)) (u b))) s) (.pi fun b=>j8 P T nt rs rm md pr n k (st.uU (Nat.lor rm (gQ k)) (u b)) L (kk b))
   | todo=>(match lS P T nt rm md pr todo st with | some (k,st1,c)=>.two c (j8 P T nt rs rm md pr n k st1 L (.bind true J s u kk)) | none=>.bad))
  | .bind false J s u kk=>(match todo with
   | .code (.cond (.tmp c) p q) :: k=>.two (j8 P T nt rs rm md pr n (.code (.cond (.tmp c) p q) :: k) st (fun q=>match q with | .inl a=>L a | .inr b=>.go k (st.uU (Nat.lor rm (gQ k)) (u b))) s) (.pi fun b=>j8 P T nt rs rm md pr n k (st.uU (Nat.lor rm (gQ k)) (u b)) L (kk b))
   | todo=>(match lS P T nt rm md pr todo st with | some (k,st1,c)=>.two c (j8 P T nt rs rm md pr n k st1 L (.bind false J s u kk)) | none=>.bad))
  | .loop d I m i0 u b=>(match todo with
   | .code (.loop c) :: k=>.two (LM st (st.uU (Nat.lor rm (gQ (.inLoop c :: k))) (u i0))) (.pi fun i=>j8 P T nt rs rm md pr n (.code c :: .inLoop c :: k) (st.uU (Nat.lor rm (gQ (.inLoop c :: k))) (u i)) (fun q=>match q with | .inl a=>L a | .inr j=>.go (.inLoop c :: k) (st.uU (Nat.lor rm (gQ (.inLoop c :: k))) (u j))) (b i))
   | todo=>(match lS P T nt rm md pr todo st with | some (k,st1,c)=>.two c (j8 P T nt rs rm md pr n k st1 L (.loop d I m i0 u b)) | none=>.bad))
  | .rf it I B id s0 u v b kk=>(match todo with
   | .code (.rangeFunc (.tmp t) ps GF body) :: k =>
     .two (.bb (Nat.beq md 0) true) <|
     .two (.vv (St.get (ph (KD rm todo) (aU [] st.sl)) t) (.fn it.gf it.cF)) <|
     .two (.bb (qM.kP it.cF) true) <|
     .two (.po (some (Yu P it.gf it.cF (it.ys.map it.enc))) (some (Yu it.P it.gf it.cF (it.ys.map it.enc)))) <|
     .two (.bb (N3 nt ((ph (KD rm todo) (aU [] st.sl)).map (·.1)) ps.toList) true) <|
     .two (LM st (st.uU (KD rm todo) ⟨[],u s0⟩)) <|
     .two (.pi fun y=>.nn ps.toList.length (it.enc y).length) <|
     .two (.pi fun s=>.pi fun y=>.two
      (aa1 P T nt (KD rm todo) 1 ((ph (KD rm todo) (aU [] st.sl)).map (·.1)) n [.code GF,.beginRound,.code body] ⟨uJ ps.toList (it.enc y)++ph (KD rm todo) (aU [] st.sl),(st.uU (KD rm todo) ⟨[],u s⟩).lb⟩ [.beginRound,.code body])
      (j8 P T nt rs (KD rm todo) 1 ((ph (KD rm todo) (aU [] st.sl)).map (·.1)) n [.code body] (TE P T nt (KD rm todo) 1 ((ph (KD rm todo) (aU [] st.sl)).map (·.1)) n [.code GF,.beginRound,.code body] ⟨uJ ps.toList (it.enc y)++ph (KD rm todo) (aU [] st.sl),(st.uU (KD rm todo) ⟨[],u s⟩).lb⟩)
       (fun q=>match q with | .inl a=>.brk id (st.uU (KD rm todo) ⟨[],v a⟩) | .inr j=>.go [] (st.uU (KD rm todo) ⟨[],u j⟩)) (b s y))) <|
     .two (.pi fun s=>j8 P T nt rs rm md pr n k (st.uU (KD rm todo) ⟨[],u s⟩) L (kk (.inr s))) (.pi fun a=>j8 P T nt rs rm md pr n (.code (.exit id) :: k) (st.uU (KD rm todo) ⟨[],v a⟩) L (kk (.inl a)))
   | todo=>(match lS P T nt rm md pr todo st with | some (k,st1,c)=>.two c (j8 P T nt rs rm md pr n k st1 L (.rf it I B id s0 u v b kk)) | none=>.bad))
section
variable {g : Goal}
theorem G.fW (m:Nat) {k:List Item} {st:St} (h:G g k (st.fW m)):G g k st:=.le (.fW m st) h
theorem PO (hn:g.U6) (hT:im g.P g.T) (hf:g.P.funcs[g.f]? = some g.fn) {st:St} {x:AV} {cj:List (Nat × aZ)} (h:(VX g.T g.fn.results.toList st x cj).ok) (hx:g.res=x) (hl:g.cj=cj):G g [] st∧∀ k,G g (.code .ret :: k) st:=by
 subst hx
 subst hl
 unfold VX at h
 split at h
 ·rename_i l ro ob hr
  split at h
  ·rename_i hl
   split at h
   ·rename_i l' HG xj hb
    obtain ⟨h1,h2,h3⟩:=h
    obtain ⟨p,q1,q2⟩:=zf _ _ h3
    have hle:pF (oo l') g.res:=fun w S μ ν v hv=>by
     exact (sA (ρ:=[]) (oo l') g.res p q1 q2 v hv).mono (fun _ h=>h) (fun _ _=>rfl) (fun k y hk=>by simp [sx,look] at hk)
    exact G.ret hn hT hf hl hr (qk h1) hb (qk h2) hle
   ·exact h.elim
  ·obtain ⟨h1,h2,h3,h4⟩:=h
   obtain ⟨p,q1,q2⟩:=zf _ _ h3
   obtain ⟨p',q3,q4⟩:=zg h4
   exact G.acB hn hT hf _ hr (qk h1) h2 q1 q2 q3 q4
 ·exact h.elim
theorem LS {fX:List (Nat × Nat)} (hn:g.LC fX) (hT:im g.P g.T) (hf:g.P.funcs[g.f]? = some g.fn) {st:St} {x:AV} {cj:List (Nat × aZ)} (h:(PN g.T g.fn.results.toList st x cj fX).ok) (hx:g.res=x) (hl:g.cj=cj):G g [] st∧∀ k,G g (.code .ret :: k) st:=by
 subst hx
 subst hl
 unfold PN at h
 split at h
 ·rename_i l ro ob hr
  obtain ⟨h1,h2,h3,h4,h5⟩:=h
  obtain ⟨p,q1,q2⟩:=zf _ _ h3
  obtain ⟨p',q3,q4⟩:=zg h5
  obtain ⟨p'',q5,q6⟩:=Jh h4
  exact G.QV hn hT hf _ hr (qk h1) h2 q1 q2 q3 q4 q5 q6
 ·exact h.elim
theorem eF (hT:im g.P g.T) (hm:g.P.follows .mixedOrders=true) {rm:Nat} {todo k:List Item} {st st':St} {c:CT} (h:lS g.P g.T g.nt rm g.md g.pr todo st=some (k,st',c)) (hc:c.ok) (hg:G g k st'):G g todo st:=by
 unfold lS at h
 split at h
 ·simp only [Option.some.injEq,Prod.mk.injEq] at h; obtain ⟨rfl,rfl,-⟩:=h; exact .seq hg
 ·simp only [Option.some.injEq,Prod.mk.injEq] at h; obtain ⟨rfl,rfl,-⟩:=h; exact .skip hg
 ·simp only [Option.some.injEq,Prod.mk.injEq] at h; obtain ⟨rfl,rfl,-⟩:=h; exact .label hg
 ·simp only [Option.some.injEq,Prod.mk.injEq] at h; obtain ⟨rfl,rfl,-⟩:=h; exact .aaH hg
 ·simp only [Option.some.injEq,Prod.mk.injEq] at h; obtain ⟨rfl,rfl,-⟩:=h; exact .block hg
 ·simp only [Option.some.injEq,Prod.mk.injEq] at h; obtain ⟨rfl,rfl,-⟩:=h; exact .inBlock hg
 ·split at h
  ·rename_i k' he
   simp only [Option.some.injEq,Prod.mk.injEq] at h; obtain ⟨rfl,rfl,-⟩:=h; exact .exit he hg
  ·cases h
 ·split at h
  ·rename_i st1 ob hr
   simp only [Option.some.injEq,Prod.mk.injEq] at h
   obtain ⟨rfl,rfl,rfl⟩:=h
   exact .region hT hm hc.1 hr (qk hc.2) (.fW _ hg)
  ·cases h
 ·cases h
theorem AI.put {st:St} (t:Nat) {x y:AV} (hx:St.get st.sl t=x) (h:pF x y):AI st ⟨(t,y) :: aU [t] st.sl,st.lb⟩:=by
 rintro C a w ⟨S,μ,hs⟩
 refine ⟨S,μ,fun ν=>(hs ν).weaken (fun u v hv=>?_) (fun κ b hb=>⟨b,hb,fun _ h=>h⟩)⟩
 simp only [St.toM] at hv ⊢
 rw [I9]
 split
 ·rename_i e
  subst e
  rw [hx] at hv
  exact h _ _ _ _ _ hv
 ·exact hv
theorem zi {C:Cx} {A:M} {a:Act} {w:World} {S:Nat→Prop} {μ:Mu} {ν:Nat→Bool} {lb:List (Nat × aZ)} (hs:cG C A a w S μ ν) (hA:A.lb=look lb) {x:AV} {v:Value} {q:Nat} (h:HW lb x=some q) (hr:Rel w S μ ν x v):q≤maxLen:=by
 unfold HW at h
 split at h
 ·simp only [Option.some.injEq] at h
  subst h
  cases eE.1 hr with
  | nil=>simp [maxLen]
  | sl _ _ _ _ _ _ hc hm=>omega
 ·rename_i κ n
  split at h
  ·rename_i e k q' f hl
   simp only [Option.some.injEq] at h
   subst h
   have hm:=hs.mem κ _ (by rw [hA]; exact hl)
   cases hμ:μ κ with
   | none=>rw [hμ] at hm; exact hm.elim
   | some y =>
    rw [hμ] at hm
    cases y with
    | none=>have:q'=0:=hm; simp [this]
    | some gc =>
     obtain ⟨g,c⟩:=gc
     obtain ⟨cur,_,_,_,q4,q5,_⟩:=hm.at
     omega
  ·cases h
 ·cases h
theorem cG.zk {C:Cx} {A B:M} {a:Act} {w:World} {S:Nat→Prop} {μ:Mu} {ν:Nat→Bool} (h:cG C A a w S μ ν) (Gq:∀ t,B.sl t=A.sl t) (Nu:∀ κ b',B.lb κ=some b'→∃ b,A.lb κ=some b∧(ew w S μ b (μ κ)→ew w S μ b' (μ κ))):cG C B a w S μ ν:=by
 refine ⟨h.tmps,h.defers,fun t=>by rw [Gq]; exact h.dN t,fun κ b hb=>?_,fun κ κ' b b' g c c' hb iu hm uS=>?_,fun κ b g c hb hm=>?_,h.dR,h.fresh,h.bound,h.kept⟩
 ·obtain ⟨d,h1,h2⟩:=Nu κ b hb
  exact h2 (h.mem κ d h1)
 ·obtain ⟨d,h1,_⟩:=Nu κ b hb
  obtain ⟨d',h1',_⟩:=Nu κ' b' iu
  exact h.inj κ κ' d d' g c c' h1 h1' hm uS
 ·obtain ⟨d,h1,_⟩:=Nu κ b hb
  exact h.own κ d g c h1 hm
theorem PQ (st:St) (κ:Nat) (b:aZ) (k:Nat):(St.toM ⟨st.sl,(κ,b) :: aU [κ] st.lb⟩).lb k=if κ=k then some b else st.toM.lb k:=by
 simp only [St.toM,bf,kQ]
 split
 ·rfl
 ·rename_i h
  rw [if_neg (by simp; exact fun e=>h e.symm)]
theorem G.cl {g:Goal} {k:List Item} {st:St} {κ n:Nat} {f:Nat→Value × D} {m:List (Int × Int)} {q:List (Int × Int)→Prop} (hl:look st.lb κ=some (.mp n f)) (hn:n=m.length) (hf:f=YT m) (hq:q m) (h:G g k ⟨st.sl,(κ,.mx q) :: aU [κ] st.lb⟩):G g k st:=by
 subst hn
 subst hf
 refine .le (fun C a w hs=>?_) h
 obtain ⟨S,μ,hs⟩:=hs
 refine ⟨S,μ,fun ν=>(hs ν).zk (fun _=>rfl) (fun κ' b' hb=>?_)⟩
 rw [PQ] at hb
 split at hb
 ·rename_i e
  subst e
  simp only [Option.some.injEq] at hb
  subst hb
  refine ⟨_,hl,fun hy=>?_⟩
  generalize μ κ=y at hy ⊢
  match y,hy with
  | some (some (g,c)),hy=>exact ⟨m,hq,hy⟩
 ·exact ⟨b',hb,fun h=>h⟩
theorem G.op {g:Goal} {k:List Item} {st:St} {κ:Nat} {q:List (Int × Int)→Prop} (hl:look st.lb κ=some (.mx q)) (h:∀ m,q m→G g k ⟨st.sl,(κ,.mp m.length (YT m)) :: aU [κ] st.lb⟩):G g k st:=by
 intro C h1 h2 a w KB hs
 obtain ⟨S,μ,hs⟩:=hs
 have hm:=(hs fun _=>false).mem κ _ hl
 obtain ⟨m,hq,uS⟩:∃ m:List (Int × Int),q m∧ew w S μ (.mp m.length (YT m)) (μ κ):=by
  generalize μ κ=y at hm ⊢
  match y,hm with
  | some (some (g,c)),hm=>obtain ⟨m,hq,hm⟩:=hm; exact ⟨m,hq,hm⟩
 refine h m hq C h1 h2 a w KB ⟨S,μ,fun ν=>(hs ν).zk (fun _=>rfl) (fun κ' b' hb=>?_)⟩
 rw [PQ] at hb
 split at hb
 ·rename_i e
  subst e
  simp only [Option.some.injEq] at hb
  subst hb
  exact ⟨_,hl,fun _=>uS⟩
 ·exact ⟨b',hb,fun h=>h⟩
theorem G.nr {g:Goal} {k:List Item} {st:St} {t κ e q:Nat} {f:Nat→List D} (ht:St.get st.sl t=.d (.v (.slice none 0 0))) (hf:xR st κ=true) (h:G g k ⟨(t,.own κ 0) :: aU [t] st.sl,(κ,.row e q 0 f) :: st.lb⟩):G g k st:=by
 refine .le (fun C a w hs=>?_) h
 obtain ⟨S,μ,hs⟩:=hs
 refine ⟨S,cA μ κ (some none),fun ν=>((hs ν).yR (vo hf) e q f).weaken (fun u v hv=>?_) (fun κ' b' hb=>?_)⟩
 ·simp only [St.toM,St.get,bf,kQ,M.set] at hv ⊢
  by_cases hu:t=u
  ·subst hu
   simp only [if_true]
   have hv:Rel w S (cA μ κ (some none)) ν (St.get st.sl t) v:=hv
   rw [ht] at hv
   obtain rfl:=bG rfl hv
   exact .cR (by simp [cA])
  ·simp only [hu,if_false]
   rw [if_neg (by simp; exact fun e=>hu e.symm)]
   exact hv
 ·simp only [St.toM,bf] at hb
  split at hb
  ·rename_i e0
   subst e0
   simp only [Option.some.injEq] at hb
   subst hb
   exact ⟨_,by simp [M.set],fun _ h=>h⟩
  ·rename_i gN
   exact ⟨b',by simp only [M.set]; rw [if_neg (fun e=>gN e.symm)]; exact hb,fun _ h=>h⟩
theorem G.aa2 {g:Goal} {k:List Item} {st:St} {κ:Nat} {b b':aZ} (hl:look st.lb κ=some b) (hb:∀ (w:World) (S:Nat→Prop) (μ:Mu) y,ew w S μ b y→ew w S μ b' y) (h:G g k ⟨st.sl,(κ,b') :: aU [κ] st.lb⟩):G g k st:=by
 refine .le (fun C a w hs=>?_) h
 obtain ⟨S,μ,hs⟩:=hs
 refine ⟨S,μ,fun ν=>(hs ν).zk (fun _=>rfl) (fun κ' c hc=>?_)⟩
 rw [PQ] at hc
 split at hc
 ·rename_i e
  subst e
  simp only [Option.some.injEq] at hc
  subst hc
  exact ⟨_,hl,fun hy=>hb _ _ _ _ hy⟩
 ·exact ⟨c,hc,fun h=>h⟩
theorem G.aa3 {g:Goal} {k:List Item} {st:St} {κ:Nat} {Y:Type} {Q:Y→Prop} {b:aZ} {b':Y→aZ} (hl:look st.lb κ=some b) (hb:∀ (w:World) (S:Nat→Prop) (μ:Mu) y,ew w S μ b y→∃ m,Q m∧ew w S μ (b' m) y) (h:∀ m,Q m→G g k ⟨st.sl,(κ,b' m) :: aU [κ] st.lb⟩):G g k st:=by
 intro C h1 h2 a w KB hs
 obtain ⟨S,μ,hs⟩:=hs
 obtain ⟨m,hq,uS⟩:=hb _ _ _ _ ((hs fun _=>false).mem κ _ hl)
 refine h m hq C h1 h2 a w KB ⟨S,μ,fun ν=>(hs ν).zk (fun _=>rfl) (fun κ' c hc=>?_)⟩
 rw [PQ] at hc
 split at hc
 ·rename_i e
  subst e
  simp only [Option.some.injEq] at hc
  subst hc
  exact ⟨_,hl,fun _=>uS⟩
 ·exact ⟨c,hc,fun h=>h⟩
theorem G.LO {k:List Item} {st:St} {t j q:Nat} (h:LO st t j=some q) (hg:q≤maxLen→G g k st):G g k st:=by
 intro C h1 h2 a w KB hs
 have yG:=hs
 obtain ⟨S,μ,dP⟩:=hs
 refine hg ?_ C h1 h2 a w KB yG
 have hs:=dP fun _=>false
 have hr:=hs.dN t
 simp only [St.toM] at hr
 unfold Go.Av.LO at h
 split at h
 ·rename_i κ o hx
  split at h
  ·rename_i cs hl
   rw [Bool.cond_eq_ite] at h
   split at h
   ·rename_i hj
    have hj:=Nat.le_of_ble_eq_true hj
    rw [hx] at hr
    generalize a.tmps.getD t undef=v at hr
    cases hr with
    | ptr hμ =>
     have hm:=hs.mem κ _ hl
     rw [hμ] at hm
     obtain ⟨cur,e,_,_,dK,hc⟩:=hm.at
     obtain ⟨x,_,hx⟩:=hc j hj
     exact zi hs rfl h (hx fun _=>false)
   ·cases h
  ·cases h
 ·rename_i cs hx
  rw [Bool.cond_eq_ite] at h
  split at h
  ·rename_i hj
   have hj:=Nat.le_of_ble_eq_true hj
   rw [hx] at hr
   generalize a.tmps.getD t undef=v at hr
   cases hr with
   | ref cy aJ hh=>exact zi hs rfl h (.d (hh j hj))
  ·cases h
 ·rename_i cs hx
  rw [Bool.cond_eq_ite] at h
  split at h
  ·rename_i hj
   have hj:=Nat.le_of_ble_eq_true hj
   rw [hx] at hr
   generalize a.tmps.getD t undef=v at hr
   cases eE.1 hr with
   | agg _ vs hl hh=>exact zi hs rfl h (.d (hh j hj))
  ·cases h
 ·exact zi hs rfl h hr
theorem G.Jj {k:List Item} {st:St} {t n:Nat} {f:Nat→List D} (ht:St.get st.sl t=.d (.sl n f)) (h1:n=0→G g k ⟨(t,.d (.v (.slice none 0 0))) :: aU [t] st.sl,st.lb⟩) (h2:G g k ⟨(t,.uH n f) :: aU [t] st.sl,st.lb⟩):G g k st:=by
 intro C c1 c2 a w KB hs
 obtain ⟨S,μ,dP⟩:=hs
 have hr:=(dP fun _=>false).dN t
 simp only [St.toM,ht] at hr
 have put:∀ y:AV,(∀ ν,Rel w S μ ν y (a.tmps.getD t undef))→kR C ⟨(t,y) :: aU [t] st.sl,st.lb⟩ a w:=fun y hy=>by
  refine ⟨S,μ,fun ν=>?_⟩
  have h:=dP ν
  refine ⟨h.tmps,h.defers,fun u=>?_,h.mem,h.inj,h.own,h.dR,h.fresh,h.bound,h.kept⟩
  simp only [St.toM]
  rw [I9]
  split
  ·rename_i e
   subst e
   exact hy ν
  ·exact h.dN u
 cases hv:a.tmps.getD t undef with
 | slice ad m cap =>
  rw [hv] at hr
  cases ad with
  | none =>
   cases eE.1 hr with
   | nil=>exact h1 rfl C c1 c2 a w KB (put _ (fun ν=>by rw [hv]; exact fO rfl))
  | some ad=>exact h2 C c1 c2 a w KB (put _ (fun ν=>by rw [hv]; exact .uH (eE.1 hr)))
 | _=>rw [hv] at hr; cases eE.1 hr
theorem G.lR:∀ {c:Code} {ops:Array Oper} {l K:List Item} {st:St},Go.Av.lR c=some (ops,l)→(∀ id,G g (.code (.region id ops false) :: (l++K)) st)→G g (.code c :: K) st
 | .seq x y,ops,l,K,st,h,hg=>by
  simp only [Go.Av.lR] at h
  split at h
  ·rename_i acS l' hx
   simp only [Option.some.injEq,Prod.mk.injEq] at h
   obtain ⟨rfl,rfl⟩:=h
   exact .seq (G.lR hx (fun id=>by have:=hg id; rwa [List.append_assoc] at this))
  ·cases h
 | .region id acS false,ops,l,K,st,h,hg=>by
  simp only [Go.Av.lR,Option.some.injEq,Prod.mk.injEq] at h
  obtain ⟨rfl,rfl⟩:=h
  exact hg id
 | .region _ _ true,_,_,_,_,h,_=>by simp [Go.Av.lR] at h
 | .skip,_,_,_,_,h,_=>by simp [Go.Av.lR] at h
 | .cond ..,_,_,_,_,h,_=>by simp [Go.Av.lR] at h
 | .block ..,_,_,_,_,h,_=>by simp [Go.Av.lR] at h
 | .loop ..,_,_,_,_,h,_=>by simp [Go.Av.lR] at h
 | .rangeFunc ..,_,_,_,_,h,_=>by simp [Go.Av.lR] at h
 | .exit ..,_,_,_,_,h,_=>by simp [Go.Av.lR] at h
 | .scope ..,_,_,_,_,h,_=>by simp [Go.Av.lR] at h
 | .label ..,_,_,_,_,h,_=>by simp [Go.Av.lR] at h
 | .goto ..,_,_,_,_,h,_=>by simp [Go.Av.lR] at h
 | .ret,_,_,_,_,h,_=>by simp [Go.Av.lR] at h
 | .refuse ..,_,_,_,_,h,_=>by simp [Go.Av.lR] at h
theorem kR.aa4 {C:Cx} {st:St} {a:Act} {w:World} {S:Nat→Prop} {μ:Mu} (dP:∀ ν,cG C st.toM a w S μ ν) {d1 d2:Nat} (NZ:d1 < C.nt) (Eg:d2 < C.nt) (x:Value) (b:Bool) (ds:List Nat) (h1:d1∈ds) (h2:d2∈ds) :
  ∀ ν,cG C (St.toM ⟨(d2,.d (.v (.bool b))) :: aU ds st.sl,st.lb⟩) ((a.put (some d1) x).put (some d2) (.bool b)) w S μ ν:=fun ν=>by
 have h:=dP ν
 refine ⟨by simp [Act.put,h.tmps],h.defers,fun u=>?_,h.mem,h.inj,h.own,h.dR,h.fresh,h.bound,h.kept⟩
 simp only [St.toM,St.get,bf]
 by_cases c2:d2=u
 ·subst c2
  simp only [if_true,Act.put]
  rw [gF _ _ _ (by simp [h.tmps]; exact Eg)]
  exact fO rfl
 ·simp only [c2,if_false,kQ]
  split
  ·rename_i x hx
   split at hx
   ·cases hx
   ·rename_i hn
    have n1:u≠d1:=fun e=>hn (e ▸ h1)
    have n2:u≠d2:=fun e=>hn (e ▸ h2)
    simp only [Act.put]
    rw [cX _ _ _ _ n2,cX _ _ _ _ n1]
    have:=h.dN u
    simp only [St.toM,St.get,hx] at this
    exact this
  ·exact .any _
theorem G.next (hm:g.P.follows .mixedOrders=true) {K:List Item} {st:St} {id:Nat} {ops:Array Oper} {it d1 d2 κi κ n:Nat} {f:Nat→Value × D} {s:List Nat} (Ja:Cj g.md g.pr ops=true) (mf:Oh ops=some (it,d1,d2)) (NZ:d1 < g.nt) (Eg:d2 < g.nt)
  (hit:St.get st.sl it=.ptr κi 0) (Yd:look st.lb κi=some (.it κ n s)) (hl:look st.lb κ=some (.mp n f))
  (jB:∀ i,i < n→i ∉ s→G g K (Oi st d1 d2 κi κ n i s)) (VJ:(∀ i,i < n→i∈s)→G g K (EJ st d1 d2 it)):G g (.code (.region id ops false) :: K) st:=by
 intro C c1 c2 a w KB hs
 suffices hw:wpOps C.P ops (fun e a' w'=>e=.normal∧((∃ i,i < n∧i ∉ s∧kR C (Oi st d1 d2 κi κ n i s) a' w')∨((∀ i,i < n→i∈s)∧kR C (EJ st d1 d2 it) a' w'))) (List.range ops.size) a w by
  rw [c1] at hw
  refine G.ops hm Ja KB (.inl ⟨rfl,hw⟩) (fun a' w' eD sh=>?_)
  rcases sh with ⟨i,hi,hn,sh⟩ | ⟨he,sh⟩
  ·exact jB i hi hn C c1 c2 a' w' eD sh
  ·exact VJ he C c1 c2 a' w' eD sh
 obtain ⟨S,μ,dP⟩:=hs
 have h0:=dP fun _=>false
 rw [← c2] at NZ Eg
 unfold Oh at mf
 split at mf
 ·rename_i o1 o2 hol
  split at mf
  ·rename_i it' Sc e1 d2' q1 q2 q3 q4 q5 q6
   rw [Bool.cond_eq_ite] at mf
   split at mf
   ·rename_i heq
    have heq:=Nat.eq_of_beq_eq_true heq
    subst heq
    simp only [Option.some.injEq,Prod.mk.injEq] at mf
    obtain ⟨rfl,rfl,rfl⟩:=mf
    have mf:ops = #[o1,o2]:=by cases ops; simpa using hol
    subst mf
    show wpOps C.P #[o1,o2] _ [0,1] a w
    have w1:∀ y,Region.wanted o1 y=true:=fun y=>by simp [Region.wanted,q3]
    have w2:∀ y,Region.wanted o2 y=true:=fun y=>by simp [Region.wanted,q6]
    have hr:=h0.dN it'
    simp only [St.toM,hit] at hr
    generalize R9:a.tmps.getD it' undef=iv at hr
    cases hr with
    | @ptr _ _ gi ci hμi =>
     have Sl:=h0.mem κi _ Yd
     rw [hμi] at Sl
     have acT:=Sl.at
     obtain ⟨mg,c,hμ,Xh,aaw⟩:=acT
     have tU:=h0.mem κ _ hl
     rw [hμ] at tU
     obtain ⟨cur,hg,iw,dK,aJ⟩:=tU.at
     have VC:a.eval (.tmp it')=.pointer (some ⟨gi,0,none⟩):=R9
     have Xy:∀ x,x∈cur.toList→x.born < n:=fun x hx=>by
      obtain ⟨q,hq,rfl⟩:=List.getElem_of_mem hx
      have Z2:q < n:=by simpa [dK] using hq
      obtain ⟨e,y1,_,_,y4,_⟩:=aJ q Z2
      have:cur.toList[q]=e:=by simpa using (Array.getElem?_eq_some_iff.1 y1).2
      rw [this,y4]; exact Z2
     have ext:∀ (a':Act) (w':World) (b:Bool) (rest:List Value),a'.eval (.tmp Sc)=.tuple (#[.bool b]++rest.toArray)→(execOp a'.eval o2).run C.P w'=.ok (.value (.bool b)) w':=fun a' w' b rest hh=>by
      simp [execOp,q4,hh,Instr.extract]
     have QX:∀ (x:Value),(a.put (some Sc) x).eval (.tmp Sc)=x:=fun x=>by
      show (a.tmps.setIfInBounds Sc x).getD Sc undef=x
      exact gF _ _ _ (by rw [h0.tmps]; exact NZ)
     rcases run_next_at (P:=C.P) w o1.type gi mg n n s.reverse.toArray cur n Xh hg Xy (Nat.le_refl _) with ⟨hz,dM⟩ | ⟨e,he,wd,hwd,dM⟩
     ·simp only [wpOps,List.getElem?_toArray,List.getElem?_cons_zero,List.getElem?_cons_succ,w1,w2,if_true]
      left
      unfold Oper.wp
      have hx:(execOp a.eval o1).run C.P w=.ok (.value (.tuple #[.bool false])) w:=by
       simp only [execOp,q1,VC,Sem.run_bind,dM,Result.andThen_ok,Sem.run_pure]
      rw [hx,Oper.upon_value,q2]
      left
      rw [ext (a.put (some Sc) (.tuple #[.bool false])) w false [] (by rw [QX]; rfl),Oper.upon_value,q5]
      refine ⟨trivial,.inr ⟨fun i hi=>?_,⟨S,μ,kR.aa4 dP NZ Eg _ false [Sc,d2',it'] (by simp) (by simp)⟩⟩⟩
      have:∀ x,x∈cur.toList→x.born∈s:=fun x hx=>by
       have QK:leftOf cur s.reverse.toArray = #[]:=Array.eq_empty_of_size_eq_zero hz
       unfold leftOf at QK
       rw [Array.filter_eq_empty_iff] at QK
       have:=QK x (by simpa using hx)
       simpa using this
      obtain ⟨e,y1,_,_,y4,_⟩:=aJ i hi
      have hm:e∈cur.toList:=by
       have:=(Array.getElem?_eq_some_iff.1 y1)
       obtain ⟨cI,rfl⟩:=this
       simp
      have:=this e hm
      rwa [y4] at this
     ·simp only [wpOps,List.getElem?_toArray,List.getElem?_cons_zero,List.getElem?_cons_succ,w1,w2,if_true]
      left
      unfold Oper.wp
      have hx:(execOp a.eval o1).run C.P w=.ok (.value (.tuple #[.bool true,e.key,e.val])) (ChangeMaps.setBlock wd gi (.mapIter (some mg) n (s.reverse.toArray.push e.born) n)):=by
       simp only [execOp,q1,VC,Sem.run_bind,dM,Result.andThen_ok,Sem.run_pure]
      rw [hx,Oper.upon_value,q2]
      left
      rw [ext (a.put (some Sc) (.tuple #[.bool true,e.key,e.val])) _ true [e.key,e.val] (by rw [QX]; rfl),Oper.upon_value,q5]
      have dY:e∈cur.toList∧e.born ∉ s:=by
       unfold leftOf at he
       simpa using he
      refine ⟨trivial,.inl ⟨e.born,Xy e dY.1,dY.2,?_⟩⟩
      have acU:Kept w wd (fun _=>False):=by
       rcases hwd with rfl | rfl
       ·exact Kept.refl _ _
       ·exact ⟨rfl,rfl,rfl,Nat.le_refl _,fun _ _ _=>rfl⟩
      have acV:wd.heap[gi]? = some (.mapIter (some mg) n s.reverse.toArray n):=by rcases hwd with rfl | rfl <;> exact Xh
      have Tk:∀ ν,cG C st.toM a wd S μ ν:=fun ν=>(dP ν).world (fun _ x=>x) (fun _ x=>.inl x) acU
      have YU:ChangeMaps.setBlock wd gi (.mapIter (some mg) n (s.reverse.toArray.push e.born) n)=World.nb wd gi (.mapIter (some mg) n (s.reverse.toArray.push e.born) n):=rfl
      rw [YU]
      have LH:∀ ν,cG C (st.toM.set κi (some (.it κ n (e.born :: s)))) a (World.nb wd gi (.mapIter (some mg) n (s.reverse.toArray.push e.born) n)) S μ ν:=fun ν=>(Tk ν).tT (b:=.it κ n s) Yd hμi (eI gi _) ⟨mg,c,hμ,by rw [pD _ acV]; simp,aaw⟩
      have jD:(St.toM ⟨st.sl,(κi,.it κ n (e.born :: s)) :: aU [κi] st.lb⟩)=st.toM.set κi (some (.it κ n (e.born :: s))):=by
       unfold St.toM M.set
       congr 1
       funext q
       rw [bf,kQ]
       by_cases hq:κi=q
       ·subst hq; simp
       ·have:q ∉ [κi]:=by simp; exact fun e=>hq e.symm
        have Nt:¬ q=κi:=fun e=>hq e.symm
        simp [hq,Nt]
      exact ⟨S,μ,kR.aa4 (st:=⟨st.sl,(κi,.it κ n (e.born :: s)) :: aU [κi] st.lb⟩) (fun ν=>by rw [jD]; exact LH ν) NZ Eg _ true [Sc,d2'] (by simp) (by simp)⟩
   ·cases mf
  ·cases mf
 ·cases mf
theorem PR (hT:im g.P g.T) (hm:g.P.follows .mixedOrders=true) {rm:Nat}:∀ (n:Nat) {todo k:List Item} {st st':St} {c:CT},TC g.P g.T g.nt rm g.md g.pr n todo st=some (k,st',c)→c.ok→G g k st'→G g todo st
 | 0,_,_,_,_,_,h,_,_=>by cases h
 | n+1,todo,k,st,st',c,h,hc,hg=>by
  unfold TC at h
  split at h
  ·simp only [Option.some.injEq,Prod.mk.injEq] at h
   obtain ⟨rfl,rfl,rfl⟩:=h
   exact hg
  ·split at h
   ·rename_i k1 st1 c1 hs
    split at h
    ·rename_i k2 st2 c2 hr
     simp only [Option.some.injEq,Prod.mk.injEq] at h
     obtain ⟨rfl,rfl,rfl⟩:=h
     exact eF hT hm hs hc.1 (PR hT hm n hr hc.2 hg)
    ·cases h
   ·cases h
theorem wq:∀ (n:Nat) {g:Goal} (hT:im g.P g.T) (hm:g.P.follows .mixedOrders=true) (hf:g.P.funcs[g.f]? = some g.fn) (hz:g.md=0→g.U6∧∀ {C C' b cs m},Reb C C'→g.Z C' b cs m→g.Z C b cs m) (rm:Nat) {α:Type} (todo:List Item) (st:St) (L:α→YS) (sk:Sk α) (lp:α→Prop),
  (j8 g.P g.T g.nt g.fn.results.toList rm g.md g.pr n todo st L sk).ok→sk.bO lp→(∀ a,a=sk.val→lp a→TB g (L a))→G g todo st
 | 0,_,_,_,_,_,_,_,todo,st,L,sk,lp,h,_,_=>h.elim
 | n+1,g,hT,hm,hf,hz,rm,α,todo,st,L,sk,lp,h,ho,hL=>by
  have ih:=fun {α:Type}=>wq n hT hm hf hz rm (α:=α)
  unfold j8 at h
  split at h
  ·-- op
   rename_i κ k
   split at h
   ·rename_i hl
    exact G.op hl fun m _=>ih _ _ L (k m) lp (h m) (ho m).2 (fun a ha=>hL a (ha.trans (ho m).1))
   ·exact h.elim
  ·-- oq
   rename_i κ q k
   split at h
   ·rename_i q' hl
    obtain ⟨h0,h⟩:=h
    have h0:q'=q:=h0
    subst h0
    exact G.op hl fun m hm=>ih _ _ L (k m) lp (h m) (ho m hm).2 (fun a ha=>hL a (ha.trans (ho m hm).1))
   ·exact h.elim
  ·-- cq
   rename_i κ m q' k
   split at h
   ·rename_i q f hl
    obtain ⟨h1,h2,h3⟩:=h
    exact G.cl hl h1 h2 ho.1 (ih _ _ L k lp h3 ho.2 hL)
   ·exact h.elim
  ·-- cl
   rename_i κ m k
   split at h
   ·rename_i q f hl
    obtain ⟨h1,h2,h3⟩:=h
    exact G.cl hl h1 h2 (q:=mxT) trivial (ih _ _ L k lp h3 ho hL)
   ·exact h.elim
  ·-- ot
   rename_i κ Q ln en d k
   split at h
   ·rename_i q' hl
    obtain ⟨h0,h⟩:=h
    have h0:q'=_:=h0
    subst h0
    refine G.aa3 hl (Q:=Q) (b':=fun m=>.mp (ln m) (en m)) (fun w S μ y hy=>?_) fun m hm=>ih _ _ L (k m) lp (h m) (ho m hm).2 (fun a ha=>hL a (ha.trans (ho m hm).1))
    match y,hy with
    | some (some (g,c)),hy =>
     obtain ⟨n0,f0,⟨m,hq,h1,h2⟩,hy⟩:=hy
     subst h1; subst h2
     exact ⟨m,hq,hy⟩
   ·exact h.elim
  ·-- ct
   rename_i κ Q ln en y k
   split at h
   ·rename_i q f hl
    obtain ⟨h1,h2,h3⟩:=h
    have h1:q=_:=h1
    have h2:f=_:=h2
    subst h1; subst h2
    refine G.aa2 hl (fun w S μ z hz=>?_) (ih _ _ L k lp h3 ho.2 hL)
    match z,hz with
    | some (some (g,c)),hz=>exact ⟨_,_,⟨y,ho.1,rfl,rfl⟩,hz⟩
   ·exact h.elim
  ·-- Ny
   rename_i κ Q en d k
   split at h
   ·rename_i e q m0 q' hl
    obtain ⟨h0,h⟩:=h
    have h0:q'=_:=h0
    subst h0
    refine G.aa3 hl (Q:=Q) (b':=fun y=>.row e q m0 (en y)) (fun w S μ y hy=>?_) fun m hm=>ih _ _ L (k m) lp (h m) (ho m hm).2 (fun a ha=>hL a (ha.trans (ho m hm).1))
    match y,hy with
    | some none,hy =>
     obtain ⟨h1,f0,m,hq,h2⟩:=hy
     exact ⟨m,hq,h1⟩
    | some (some (g,c)),hy =>
     obtain ⟨f0,⟨m,hq,h2⟩,hy⟩:=hy
     subst h2
     exact ⟨m,hq,hy⟩
   ·exact h.elim
  ·-- cr
   rename_i κ m' Q en y k
   split at h
   ·rename_i e q m f hl
    obtain ⟨h1,h2,h3⟩:=h
    have h1:m=m':=h1
    have h2:f=_:=h2
    subst h1; subst h2
    refine G.aa2 hl (fun w S μ z hz=>?_) (ih _ _ L k lp h3 ho.2 hL)
    match z,hz with
    | some none,hz=>exact ⟨hz,_,y,ho.1,rfl⟩
    | some (some (g,c)),hz=>exact ⟨_,⟨y,ho.1,rfl⟩,hz⟩
   ·exact h.elim
  ·-- fm
   rename_i κ k
   split at h
   ·rename_i q f hl
    obtain ⟨h1,h2,h3⟩:=h
    exact G.le (AI.fm hl h1 h2) (ih _ _ L k lp h3 ho hL)
   ·exact h.elim
  ·-- fb
   rename_i κ k
   split at h
   ·rename_i cs hl
    split at h
    ·rename_i ds hp
     obtain ⟨h1,h2,h3⟩:=h
     exact G.le (AI.fb hl hp h1 h2) (ih _ _ L k lp h3 ho hL)
    ·exact h.elim
   ·exact h.elim
  ·-- up
   rename_i u k
   exact G.le (ua h.1) (ih _ _ L k lp h.2 ho hL)
  ·-- nr
   rename_i t κ e q f k
   split at h
   ·rename_i Kz
    obtain ⟨h0,h⟩:=h
    exact G.nr Kz h0 (ih _ _ L k lp h ho hL)
   ·exact h.elim
  ·-- HQ
   rename_i id x c k
   split at h
   ·rename_i i ops K
    rw [Bool.cond_eq_ite] at h
    split at h
    ·split at h
     ·rename_i ts ti ty d1 d2 d3 pZ
      split at h
      ·rename_i κ m xx e' _ _ _ _ Kz hti hty
       split at h
       ·rename_i e q m2 f ii hl he
        obtain ⟨h0,h1,h2,h3,h4,h5⟩:=h
        have h0:(Nat.ble (d1+1) g.nt&&Nat.ble (d2+1) g.nt&&Nat.ble (d3+1) g.nt&&Cj g.md g.pr ops&&Nat.beq e e'&&Nat.beq q ii.size&&ii.zero.all uQ&&!Nat.beq ts d1&&!Nat.beq ts d2&&!Nat.beq ts d3)=true:=h0
        simp only [Bool.and_eq_true,Bool.not_eq_true'] at h0
        obtain ⟨⟨⟨⟨⟨⟨⟨⟨⟨b1,b2⟩,b3⟩,b4⟩,b5⟩,b6⟩,b7⟩,b8⟩,b9⟩,b10⟩:=h0
        have h1:xx=x:=h1
        have h2:m=m2:=h2
        have h3:m=c.n:=h3
        have h4:rR xx.toNat f ii.zero=c.f:=h4
        have b5:=Nat.eq_of_beq_eq_true b5
        have b6:=Nat.eq_of_beq_eq_true b6
        subst h1; subst h2; subst b5
        obtain ⟨⟨o1,o2⟩,o3⟩:=ho
        have ne:∀ d,Nat.beq ts d=false→¬ ts=d:=fun d hd e=>by rw [e,Nat.beq_refl] at hd; cases hd
        refine G.HQ hT hm b4 pZ (Nat.le_of_ble_eq_true b1) (Nat.le_of_ble_eq_true b2) (Nat.le_of_ble_eq_true b3) Kz hti hl hty rfl he b6 b7 o1 (by rw [h3]; exact o2) (.le ?_ (.fW _ (ih _ _ L k lp h5 o3 hL)))
        have hcn:m=c.n':=h3.trans c.eq.1
        rintro C a w ⟨S,μ,dP⟩
        refine ⟨S,μ,fun ν=>(dP ν).weaken (fun t v hv=>?_) (fun κ' b' iu=>?_)⟩
        ·simp only [St.toM,St.get,bf,kQ] at hv ⊢
         by_cases ht:ts=t
         ·subst ht
          simp only [if_true]
          rw [if_neg (by simp only [List.mem_cons,List.not_mem_nil,or_false,not_or]; exact ⟨ne _ b8,ne _ b9,ne _ b10⟩)] at hv
          simp only [St.get] at Kz
          rw [Kz,hcn] at hv
          exact hv
         ·have e1:(t∈[ts,d1,d2,d3])↔(t∈[d1,d2,d3]):=by
           rw [List.mem_cons]
           exact ⟨fun h=>h.elim (fun e=>absurd e.symm ht) (fun h=>h),.inr⟩
          simp only [ht,if_false,e1]
          exact hv
        ·simp only [St.toM,bf,kQ] at iu ⊢
         by_cases hk:κ=κ'
         ·simp only [hk,if_true,Option.some.injEq] at iu ⊢
          subst iu
          refine ⟨_,rfl,fun y hy=>?_⟩
          rw [h4] at hy
          exact S4 hcn (fun i hi=>c.eq.2 i (by rw [← h3]; exact hi)) y hy
         ·simp only [hk,if_false] at iu ⊢
          exact ⟨b',iu,fun _ h=>h⟩
       ·exact h.elim
      ·exact h.elim
     ·exact h.elim
    ·split at h
     ·rename_i k0 st1 c0 hs
      exact eF hT hm hs h.1 (ih _ _ L (.HQ id x c k) lp h.2 ho hL)
     ·exact h.elim
   ·split at h
    ·rename_i k0 st1 c0 hs
     exact eF hT hm hs h.1 (ih _ _ L (.HQ id x c k) lp h.2 ho hL)
    ·exact h.elim
  ·-- wi
   rename_i t a b k
   obtain ⟨h1,h2⟩:=h
   obtain ⟨o1,o2⟩:=ho
   refine .le (AI.put t h1 (y:=.d (.v (.int .i64 b))) ?_) (ih _ _ L k lp h2 o2 hL)
   subst o1
   exact pF.rfl'
  ·-- DJ
   rename_i t j m k
   split at h
   ·rename_i q hq
    obtain ⟨h1,h2⟩:=h
    have h1:q=m:=h1
    subst h1
    exact G.LO hq fun hb=>ih _ _ L k lp h2 (ho hb) hL
   ·exact h.elim
  ·-- wn
   rename_i κ a b k
   obtain ⟨h1,h2,h3⟩:=h
   obtain ⟨o1,o2⟩:=ho
   subst o1
   rw [Jk h1,nN h2] at h3
   exact ih _ _ L k lp h3 o2 hL
  ·-- wr
   rename_i κ a b k
   obtain ⟨h1,h2,h3⟩:=h
   obtain ⟨o1,o2⟩:=ho
   subst o1
   rw [Jk h1,nN h2] at h3
   exact ih _ _ L k lp h3 o2 hL
  ·exact (ho:False).elim
  ·-- Jj
   rename_i t m k1 k2
   split at h
   ·rename_i q f hq
    obtain ⟨h1,h2,h3⟩:=h
    have h1:q=m:=h1
    subst h1
    refine G.Jj hq (fun h0=>?_) (ih _ _ L k2 lp h3 ho.2 hL)
    exact ih _ _ L k1 lp h2 (ho.1 h0).1 (fun a ha=>hL a (by rw [ha,(ho.1 h0).2]; rfl))
   ·exact h.elim
  ·-- fz
   rename_i κ k
   split at h
   ·rename_i e0 k0 q f hq
    exact .le (AI.fz hq h.1 h.2.1) (ih _ _ L k lp h.2.2 ho hL)
   ·exact h.elim
  ·-- mr
   rename_i γ m V init u v b k
   split at h
   ·rename_i c K
    split at h
    ·rename_i ops l hh
     split at h
     ·rename_i it d1 d2 hn
      rw [Bool.cond_eq_ite] at h
      split at h
      ·rename_i hb
       simp only [Bool.and_eq_true] at hb
       have NZ:=Nat.le_of_ble_eq_true hb.1.1
       have Eg:=Nat.le_of_ble_eq_true hb.1.2
       obtain ⟨h1,h2,h3⟩:=h
       obtain ⟨oi,ob,oc,o3⟩:=ho
       have hV:∀ s g i,V s g→i < m→i ∉ s→V (i :: s) ((b g i).val):=fun s g i hg hi hn=>(b g i).cN (ob s g i hg hi hn).1
       have o1:∀ s:List Nat,s.Perm (List.range m)→s.foldr (fun i g=>(b g i).val) init=(List.range m).foldr (fun i g=>(b g i).val) init:=fun s hs=>Oc (f:=fun g i=>(b g i).val) hV oc oi hs (hs.nodup_iff.2 List.nodup_range) (fun i hi=>List.mem_range.1 (hs.mem_iff.1 hi))
       have o2:∀ (s:List Nat) (i:Nat),s.Nodup→(∀ j,j∈s→j < m)→i < m→i ∉ s→(b (s.foldr (fun i g=>(b g i).val) init) i).bO fun _=>True:=fun s i hd hs hi hn=>(ob s _ i (nh (f:=fun g i=>(b g i).val) hV oi s hd hs) hi hn).2
       have key:∀ (q:Nat) (s:List Nat),s.Nodup→(∀ j,j∈s→j < m)→m - s.length < q→G g (.code c :: .inLoop c :: K) (st.uU (Nat.lor rm (gQ (.inLoop c :: K))) (u (s.foldr (fun i g=>(b g i).val) init) s)):=by
        intro q
        induction q with
        | zero=>intro s _ _ cI; omega
        | succ q ihq =>
         intro s Qs cI hq
         have h2:=h2 (s.foldr (fun i g=>(b g i).val) init) s
         dsimp only at h2
         split at h2
         ·rename_i κi hit
          split at h2
          ·rename_i κ m1 s1 Yd
           split at h2
           ·rename_i m2 f hl
            obtain ⟨e1,e2,e3,e4,e5⟩:=h2
            have e1:m1=m:=e1
            have e2:m2=m:=e2
            have e3:s1=s:=e3
            subst e1; subst e2; subst e3
            refine G.lR hh (fun id=>G.next hm hb.2 hn NZ Eg hit Yd hl (fun i hi Xc=>?_) (fun oe=>?_))
            ·refine ih _ _ _ (b _ i) _ (e5 i) (o2 s1 i Qs cI hi Xc) (fun g' hg' _=>?_)
             subst hg'
             refine .inLoop (ihq (i :: s1) (List.nodup_cons.2 ⟨Xc,Qs⟩) (fun j hj=>?_) ?_)
             ·rcases List.mem_cons.1 hj with rfl | hj
              ·exact hi
              ·exact cI j hj
             ·have hle:(i :: s1).length≤m2:=by
               have:=List.Nodup.length_le_of_subset (l₁:=i :: s1) (l₂:=List.range m2) (List.nodup_cons.2 ⟨Xc,Qs⟩) (fun j hj=>by
                rcases List.mem_cons.1 hj with rfl | hj
                ·exact List.mem_range.2 hi
                ·exact List.mem_range.2 (cI j hj))
               simpa using this
              simp only [List.length_cons] at hle ⊢
              omega
            ·have hp:s1.Perm (List.range m2):=(List.perm_ext_iff_of_nodup Qs List.nodup_range).2 (fun j=>⟨fun hj=>List.mem_range.2 (cI j hj),fun hj=>oe j (List.mem_range.1 hj)⟩)
             refine .le (ua e4) ?_
             rw [o1 s1 hp]
             exact ih _ _ L (k _) lp (h3 _) (o3 _ rfl (nh (f:=fun g i=>(b g i).val) hV oi _ List.nodup_range (fun i hi=>List.mem_range.1 hi))) hL
           ·exact h2.elim
          ·exact h2.elim
         ·exact h2.elim
       intro C c1 c2 a w KB hs
       exact (key (m+1) [] List.nodup_nil (fun j hj=>by cases hj) (by simp) C c1 c2 a w KB (ua h1 C a w hs)).step fun _ _=>.one stepR_loop
      ·exact h.elim
     ·exact h.elim
    ·exact h.elim
   ·split at h
    ·rename_i k0 st1 c hs
     exact eF hT hm hs h.1 (ih _ _ L (.mr m V init u v b k) lp h.2 ho hL)
    ·exact h.elim
  ·-- Gr
   rename_i x
   split at h
   ·exact .cond h.1 (fun _=>ih _ _ L x lp h.2 ho hL) (fun he=>by cases he)
   ·split at h
    ·rename_i k st1 c hs
     exact eF hT hm hs h.1 (ih _ _ L (.Gr x) lp h.2 ho hL)
    ·exact h.elim
  ·-- Gs
   rename_i x
   split at h
   ·exact .cond h.1 (fun he=>by cases he) (fun _=>ih _ _ L x lp h.2 ho hL)
   ·split at h
    ·rename_i k st1 c hs
     exact eF hT hm hs h.1 (ih _ _ L (.Gs x) lp h.2 ho hL)
    ·exact h.elim
  ·-- Q0
   rename_i t c x y k1 k2
   obtain ⟨h1,h2,h3⟩:=h
   have h1:St.get st.sl t=VZ c x y:=h1
   rw [V0] at h1
   cases c with
   | true=>exact .le (AI.put t h1 pF.rfl') (ih _ _ L k1 lp h2 (ho.1 rfl) hL)
   | false=>exact .le (AI.put t h1 pF.rfl') (ih _ _ L k2 lp h3 (ho.2 rfl) hL)
  ·-- fin
   rename_i a
   have GI:=hL a rfl ho
   split at h
   ·rename_i Es st' hl
    rw [hl] at GI
    rw [Bool.cond_eq_ite] at h
    split at h
    ·obtain ⟨h1,h2⟩:=h
     have h1:todo=Es:=h1
     subst h1
     exact .le (ua h2) GI
    ·split at h
     ·rename_i k st1 c hs
      exact eF hT hm hs h.1 (ih _ _ L (.fin a) lp h.2 ho hL)
     ·exact h.elim
   ·rename_i id st' hl
    rw [hl] at GI
    split at h
    ·rename_i id' k
     rw [Bool.cond_eq_ite] at h
     split at h
     ·rename_i hb
      simp only [Bool.and_eq_true,Option.isNone_iff_eq_none] at hb
      obtain rfl:=Nat.eq_of_beq_eq_true hb.1
      exact .le (ua h) (GI k hb.2)
     ·split at h
      ·rename_i k st1 c hs
       exact eF hT hm hs h.1 (ih _ _ L (.fin a) lp h.2 ho hL)
      ·exact h.elim
    ·split at h
     ·rename_i k st1 c hs
      exact eF hT hm hs h.1 (ih _ _ L (.fin a) lp h.2 ho hL)
     ·exact h.elim
   ·rename_i x cj hl
    rw [hl] at GI
    split at h
    ·exact (PO GI.1 hT hf h GI.2.1 GI.2.2).1
    ·exact (PO GI.1 hT hf h GI.2.1 GI.2.2).2 _
    ·split at h
     ·rename_i k st1 c hs
      exact eF hT hm hs h.1 (ih _ _ L (.fin a) lp h.2 ho hL)
     ·exact h.elim
   ·rename_i x cj fX hl
    rw [hl] at GI
    split at h
    ·exact (LS GI.1 hT hf h GI.2.1 GI.2.2).1
    ·exact (LS GI.1 hT hf h GI.2.1 GI.2.2).2 _
    ·split at h
     ·rename_i k st1 c hs
      exact eF hT hm hs h.1 (ih _ _ L (.fin a) lp h.2 ho hL)
     ·exact h.elim
  ·-- br
   rename_i e x y
   split at h
   ·rename_i c p q k
    obtain ⟨h1,h2,h3⟩:=h
    refine .cond h1 (fun he=>?_) (fun he=>?_)
    ·exact ih _ _ L x lp h2 (ho.1 he) (fun a ha=>hL a (by rw [ha]; simp [Sk.val,he]))
    ·exact ih _ _ L y lp h3 (ho.2 he) (fun a ha=>hL a (by rw [ha]; simp [Sk.val,he]))
   ·split at h
    ·rename_i k st1 c hs
     exact eF hT hm hs h.1 (ih _ _ L (.br e x y) lp h.2 ho hL)
    ·exact h.elim
  ·-- r
   rename_i β id cl kk
   split at h
   ·rename_i i ops draw k
    rw [Bool.cond_eq_ite] at h
    split at h
    ·have h:=h cl.v
     dsimp only at h
     split at h
     ·rename_i st' ob hr
      obtain ⟨h0,h1,h2,h3⟩:=h
      have h2:ob.prop=cl.qZ cl.v:=h2
      exact .region hT hm h0 hr (Ob.EA h1 (fun p hp=>cl.pf ho.1 p (h2 ▸ hp))) (.fW _ (ih _ _ L (kk cl.v) lp h3 (ho.2 _ rfl cl.hp) hL))
     ·exact h.elim
    ·split at h
     ·rename_i k st1 c hs
      exact eF hT hm hs h.1 (ih _ _ L (.r id cl kk) lp h.2 ho hL)
     ·exact h.elim
   ·split at h
    ·rename_i k st1 c hs
     exact eF hT hm hs h.1 (ih _ _ L (.r id cl kk) lp h.2 ho hL)
    ·exact h.elim
  ·-- bind at a block
   rename_i β J s u kk
   split at h
   ·rename_i id c k
    obtain ⟨h1,h2⟩:=h
    refine .block (ih _ _ _ s _ h1 ho.1 (fun q hq hlq=>?_))
    cases q with
    | inl a=>exact hL a (by simp only [Sk.val,← hq,bN]) hlq
    | inr b=>exact ih _ _ L (kk b) lp (h2 b) (ho.2 b hq.symm hlq) (fun a ha=>hL a (by rw [ha]; simp only [Sk.val,← hq,bN]))
   ·split at h
    ·rename_i k st1 c hs
     exact eF hT hm hs h.1 (ih _ _ L (.bind true J s u kk) lp h.2 ho hL)
    ·exact h.elim
  ·-- bind at a choice
   rename_i β J s u kk
   split at h
   ·rename_i c p q k
    obtain ⟨h1,h2⟩:=h
    refine ih _ _ _ s _ h1 ho.1 (fun q hq hlq=>?_)
    cases q with
    | inl a=>exact hL a (by simp only [Sk.val,← hq,bN]) hlq
    | inr b=>exact ih _ _ L (kk b) lp (h2 b) (ho.2 b hq.symm hlq) (fun a ha=>hL a (by rw [ha]; simp only [Sk.val,← hq,bN]))
   ·split at h
    ·rename_i k st1 c hs
     exact eF hT hm hs h.1 (ih _ _ L (.bind false J s u kk) lp h.2 ho hL)
    ·exact h.elim
  ·-- loop
   rename_i ι d I m i0 u b
   split at h
   ·rename_i c k
    obtain ⟨h1,h2⟩:=h
    obtain ⟨o1,o2⟩:=ho
    have key:∀ (q:Nat) (i:ι),I i→m i < q→(∀ a,a=iter (fun i=>(b i).val) d q i→lp a→TB g (L a))→G g (.code c :: .inLoop c :: k) (st.uU (Nat.lor rm (gQ (.inLoop c :: k))) (u i)):=by
     intro q
     induction q with
     | zero=>intro i _ cI; omega
     | succ q ihq =>
      intro i hi cI GI
      refine ih _ _ _ (b i) _ (h2 i) (o2 i hi) (fun r hr hlr=>?_)
      cases r with
      | inl a=>exact GI a (by simp only [iter,← hr]) hlr
      | inr j=>exact .inLoop (ihq j hlr.1 (by have:=hlr.2; omega) (fun a ha=>GI a (by rw [ha]; simp only [iter,← hr])))
    intro C c1 c2 a w KB hs
    exact (key (m i0+1) i0 o1 (Nat.lt_succ_self _) hL C c1 c2 a w KB (ua h1 C a w hs)).step fun _ _=>.one stepR_loop
   ·split at h
    ·rename_i k st1 c hs
     exact eF hT hm hs h.1 (ih _ _ L (.loop d I m i0 u b) lp h.2 ho hL)
    ·exact h.elim
  ·-- rf
   rename_i σ β Y it I B id s0 u v b kk
   split at h
   ·rename_i t ps GF body k
    obtain ⟨h1,h2,h3,h4,h5,h6,h7,h8,h9,h10⟩:=h
    obtain ⟨o1,o2,o3,o4⟩:=ho
    have hpr:g.md=0:=Nat.eq_of_beq_eq_true h1
    obtain ⟨hn,acW⟩:=hz hpr
    have h4:some (Yu g.P it.gf it.cF (it.ys.map it.enc))=some (Yu it.P it.gf it.cF (it.ys.map it.enc)):=h4
    have hit:Yu g.P it.gf it.cF (it.ys.map it.enc):=by rw [Option.some.inj h4]; exact it.pf o1
    have Xz:=fun i s y hs hy=>(b s y).cN (o3 i s y hs hy).1
    generalize X7:KD rm (Item.code (.rangeFunc (.tmp t) ps GF body) :: k)=mm at *
    refine G.rf hn acW it.ys it.enc (fun s y=>(b s y).val) s0 I (ph mm (aU [] st.sl)) (fun s=>st.uU mm ⟨[],u s⟩) (fun a=>st.uU mm ⟨[],v a⟩) id
     (fun s y=>TE g.P g.T g.nt mm 1 ((ph mm (aU [] st.sl)).map (·.1)) n [.code GF,.beginRound,.code body] ⟨uJ ps.toList (it.enc y)++ph mm (aU [] st.sl),(st.uU mm ⟨[],u s⟩).lb⟩)
     (fun _=>rfl) (fun _=>rfl) (ua h6) h2 h3 hit h5 (fun y _=>h7 y) o2 (fun i s y hs hy=>?_) (fun s y tm Z zs hy hg=>?_) (fun i s y tm Z zs hs hy hg=>?_) ?_
    ·have:=Xz i s y hs hy
     show match (b s y).val with | .inl _=>True | .inr s'=>I (i+1) s'
     cases e:(b s y).val with
     | inl a=>trivial
     | inr s'=>rw [e] at this; exact this
    ·have h8:=(h8 s y).1
     unfold aa1 at h8
     unfold TE at hg
     split at h8
     ·rename_i k' st2 c ha
      rw [ha] at hg
      have hk:k'=[.beginRound,.code body]:=h8.2
      subst hk
      exact PR (g:=g.round _ tm Z zs) hT hm n ha h8.1 hg
     ·exact h8.elim
    ·have h8:=(h8 s y).2
     refine wq n (g:=g.round _ tm Z zs) hT hm hf (fun e=>by cases e) mm _ _ _ (b s y) (fP B (I (i+1))) h8 (o3 i s y hs hy).2 (fun q hq hlq=>?_)
     have hg:(match (b s y).val with | .inr s'=>G (g.round _ tm Z zs) [] (st.uU mm ⟨[],u s'⟩) | .inl b=>∀ k',exitTo id k'=none→G (g.round _ tm Z zs) (.code (.exit id) :: k') (st.uU mm ⟨[],v b⟩)):=hg
     cases q with
     | inl a=>rw [← hq] at hg; exact hg
     | inr j=>rw [← hq] at hg; exact hg
    ·have hr:=o4 _ rfl (HU it.ys Xz s0 o2)
     cases e:qN (fun s y=>(b s y).val) it.ys s0 with
     | inr s =>
      rw [e] at hr
      exact ih _ _ L (kk (.inr s)) lp (h9 s) hr (fun a ha=>hL a (by rw [ha]; simp only [Sk.val,e]))
     | inl a =>
      rw [e] at hr
      exact ih _ _ L (kk (.inl a)) lp (h10 a) hr (fun a' ha=>hL a' (by rw [ha]; simp only [Sk.val,e]))
   ·split at h
    ·rename_i k st1 c hs
     exact eF hT hm hs h.1 (ih _ _ L (.rf it I B id s0 u v b kk) lp h.2 ho hL)
    ·exact h.elim
end
theorem kE.sk {P:Program} {T:List (Nat × TI)} (hT:im P T) (hm:P.follows .mixedOrders=true) {f:FuncId} {fn:Func} {body:Code} {args:List AV} {cj:List (Nat × aZ)} {α:Type} (enc:α→AV) (rS:α→List (Nat × aZ)) (hf:P.funcs[f]? = some fn) (hb:fn.body=some body)
  (hc:(dX P f&&Nat.ble args.length fn.ntmps)=true) (n:Nat) (sk:Sk α) (h:j8 P T fn.ntmps fn.results.toList (wW fn.results.toList) 0 [] n [.code body] ⟨di 0 args,cj⟩ (fun a=>.ret (enc a) (rS a)) sk=(j8 P T fn.ntmps fn.results.toList (wW fn.results.toList) 0 [] n [.code body] ⟨di 0 args,cj⟩ (fun a=>.ret (enc a) (rS a)) sk).diag)
  (ho:sk.bO fun _=>True):kE P f args cj (enc sk.val) (rS sk.val):=by
 simp only [Bool.and_eq_true] at hc
 refine kE.intro (T:=T) hf hb hc.1 (Nat.le_of_ble_eq_true hc.2) ?_
 exact wq n (g:=.of P T fn.ntmps f fn (enc sk.val) (rS sk.val)) hT hm hf (fun _=>⟨Goal.Tf,fun {_ _ b _ _} hr hz=>ZN.reb (b:=b) hr hz⟩) _ _ _ _ sk _ (CT.HR h) ho (fun a ha _=>by subst ha; exact ⟨Goal.Tf,rfl,rfl⟩)
def YV:List (Nat × Nat)→Nat→Nat
 | [],m=>m
 | (t,_) :: r,m=>Nat.lor (VS t) (YV r m)
theorem SK.sk {P:Program} {T:List (Nat × TI)} (hT:im P T) (hm:P.follows .mixedOrders=true) {f:FuncId} {fn:Func} {body:Code} {args:List AV} {cj:List (Nat × aZ)} {α:Type} (enc:α→AV) (rS:α→List (Nat × aZ)) (fX:List (Nat × Nat)) (hf:P.funcs[f]? = some fn) (hb:fn.body=some body)
  (hc:(dX P f&&Nat.ble args.length fn.ntmps&&fX.all fun p=>Nat.ble (p.1+1) args.length)=true) (n:Nat) (sk:Sk α) (h:j8 P T fn.ntmps fn.results.toList (YV fX (wW fn.results.toList)) 3 (fX.map (·.1)) n [.code body] ⟨di 0 args,cj⟩ (fun a=>.QV (enc a) (rS a) fX) sk=(j8 P T fn.ntmps fn.results.toList (YV fX (wW fn.results.toList)) 3 (fX.map (·.1)) n [.code body] ⟨di 0 args,cj⟩ (fun a=>.QV (enc a) (rS a) fX) sk).diag)
  (ho:sk.bO fun _=>True):SK P f args cj (enc sk.val) (rS sk.val) fX:=by
 simp only [Bool.and_eq_true,List.all_eq_true] at hc
 refine SK.intro (T:=T) hf hb hc.1.1 (Nat.le_of_ble_eq_true hc.1.2) (fun p hp=>Nat.le_of_ble_eq_true (hc.2 p hp)) (fun tm=>?_)
 exact wq n (g:=.ofB P T fn.ntmps f fn (enc sk.val) (rS sk.val) fX tm) hT hm hf (fun h=>by cases h) _ _ _ _ sk _ (CT.HR h) ho (fun a ha _=>by subst ha; exact ⟨Goal.VE,rfl,rfl⟩)
end
end Go.Av
