/- Regions: one evaluation for every order. -/
import Derived.Test.YtgibnoahjhfmcaaGreatDoorLb
import Derived.OrdersIn
import Derived.RangeFuncCalls
import Derived.RangeFuncLeaves
import Derived.RangeFuncRecord
import Derived.RangeFuncKeeps
import Derived.Lib.SliceRun
import Derived.Recover
import Derived.ProofKit
set_option linter.unusedSimpArgs false
set_option linter.unusedVariables false
set_option linter.unusedSectionVars false
set_option maxHeartbeats 1000000
namespace Go.Av
open Go
variable [Globs]
def SimB (C:Cx) (st:St) (a:Act) (w:World):Prop:=∃ S μ,∀ ν,Sim C st.toM a w S μ ν
section
variable {C : Cx} {a : Act} {w : World} {S : Nat → Prop} {μ : Mu} {ν : Nat → Bool}
theorem evOps_sound {T:List (Nat × TI)} (hT:TOk C.P T) {ops:Array Oper}:∀ {l:List Oper} {st st':St} {gl gl':List (Nat × Bool)} {orc orc':List Orc} {trs:List Tr} {ob:Ob},
  evOps C.P T C.nt ops l st gl orc=some (trs,st',gl',orc',ob)→ob.den→(∀ s e,look gl' s=some e→ν s=e) →
  trs.length=l.length∧(∀ (i:Nat) (τ:Tr) (o:Oper),trs[i]? = some τ→l[i]? = some o→OpSound C ν ops o τ∧∀ p,p∈τ.gs→ν p.1=p.2)∧Exec trs st.toM st'.toM∧∀ t x,look gl t=some x→look gl' t=some x
 | [],st,st',gl,gl',orc,orc',trs,ob,h,_,_=>by
  simp only [evOps,Option.some.injEq,Prod.mk.injEq] at h
  obtain ⟨rfl,rfl,rfl,-,-⟩:=h
  exact ⟨rfl,fun i τ o h=>by simp at h,rfl,fun _ _ h=>h⟩
 | o :: r,st,st',gl,gl',orc,orc',trs,ob,h,hob,hν=>by
  simp only [evOps] at h
  split at h
  ·rename_i τ gl1 orc1 ob1 hstep
   split at h
   ·rename_i l1 st1 gl2 orc2 ob2 hrest
    simp only [Option.some.injEq,Prod.mk.injEq] at h
    obtain ⟨rfl,rfl,rfl,rfl,rfl⟩:=h
    obtain ⟨i1,i2,i3,i4⟩:=evOps_sound hT hrest (Ob.and_den hob).2 hν
    obtain ⟨s1,s2,s3,s4⟩:=stepOp_sound hT hstep (Ob.and_den hob).1 (fun s e hl=>hν s e (i4 s e hl))
    refine ⟨by simp [i1],fun i τ' o' h1 h2=>?_,⟨s3,by rw [← St.apply_toM]; exact i3⟩,fun t x hx=>i4 t x (s4 t x hx)⟩
    cases i with
    | zero =>
     simp only [List.getElem?_cons_zero,Option.some.injEq] at h1 h2
     subst h1; subst h2
     exact ⟨s1,s2⟩
    | succ i=>exact i2 i τ' o' (by simpa using h1) (by simpa using h2)
   ·cases h
  ·cases h
theorem freshB_spec {st:St} {κ:Nat} (h:freshB st κ=true):Fresh st.toM κ:=by
 simp only [freshB,Bool.and_eq_true,List.all_eq_true,Bool.not_eq_true'] at h
 obtain ⟨h1,h2⟩:=h
 have notin:∀ l:List Nat,(l.any fun k=>Nat.beq k κ)=false→κ ∉ l:=fun l hl hc=>by
  have:(l.any fun k=>Nat.beq k κ)=true:=List.any_eq_true.2 ⟨κ,hc,Nat.beq_refl κ⟩
  rw [this] at hl
  cases hl
 refine ⟨fun t=>?_,?_,fun κ' b hb=>?_⟩
 ·simp only [St.toM,St.get]
  cases hl:look st.sl t with
  | none=>simp [AV.keys]
  | some x=>exact notin _ (h1 (t,x) (look_mem hl))
 ·simp only [St.toM]
  cases hl:look st.lb κ with
  | none=>rfl
  | some b =>
   have:=(h2 (κ,b) (look_mem hl)).1
   rw [Nat.beq_refl] at this
   cases this
 ·exact notin _ (h2 (κ',b) (look_mem hb)).2
theorem keepG_look {keep:Option (List Nat)}:∀ {sl:List (Nat × AV)} {t:Nat} {x:AV},distinctB sl=true→look (keepG keep sl) t=some x→look sl t=some x∧noG x=true
 | [],t,x,_,h=>by simp [keepG,look] at h
 | (k,y) :: r,t,x,hd,h=>by
  simp only [distinctB,Bool.and_eq_true,List.all_eq_true,Bool.not_eq_true'] at hd
  simp only [keepG] at h
  rw [Bool.cond_eq_ite] at h
  by_cases hb:(noG y&&keptB keep k)=true
  ·rw [if_pos hb] at h
   simp only [look_cons] at h
   simp only [Bool.and_eq_true] at hb
   rw [look_cons]
   split
   ·rename_i e
    simp only [e,if_true,Option.some.injEq] at h
    subst h
    exact ⟨rfl,hb.1⟩
   ·rename_i e
    simp only [e,if_false] at h
    exact keepG_look hd.2 h
  ·rw [if_neg hb] at h
   obtain ⟨h1,h2⟩:=keepG_look hd.2 h
   refine ⟨?_,h2⟩
   rw [look_cons]
   split
   ·rename_i e
    subst e
    have:=hd.1 (k,x) (look_mem h1)
    rw [Nat.beq_refl] at this
    cases this
   ·exact h1
theorem Sim.keepG {st:St} {keep:Option (List Nat)} (h:Sim C st.toM a w S μ ν) (hd:distinctB st.sl=true) (ν':Nat→Bool):Sim C (St.toM ⟨keepG keep st.sl,st.lb⟩) a w S μ ν':=by
 refine ⟨h.tmps,h.defers,fun t=>?_,h.mem,h.inj,h.own,h.stable,h.fresh,h.bound,h.kept⟩
 simp only [St.toM,St.get]
 cases hl:look (Go.Av.keepG keep st.sl) t with
 | none=>exact .any _
 | some x =>
  obtain ⟨h1,h2⟩:=keepG_look hd hl
  have:=h.slots t
  simp only [St.toM,St.get,h1] at this
  exact this.nu h2
def PutOK (ops:Array Oper) (K:Array Value→Prop):Prop:=∀ (i:Nat) (o:Oper) (a:Act) (v:Value),ops[i]? = some o→K a.tmps→K (a.put o.dst v).tmps
theorem oper_act {P:Program} {o:Oper} {a:Act} {w:World} {next:Act→World→Prop} {Q:Exit→Act→World→Prop} {K:Array Value→Prop} (hK:∀ (a:Act) (v:Value),K a.tmps→K (a.put o.dst v).tmps) (hq:∀ e a w,Q e a w→e=.normal) (ha:K a.tmps)
  (h:o.wp P a w next Q):o.wp P a w (fun a' w'=>next a' w'∧K a'.tmps) (fun e a' w'=>Q e a' w'∧K a'.tmps):=by
 unfold Oper.wp at *
 generalize (execOp a.eval o).run P w=r at *
 have no:¬ LetsOut Q:=fun ⟨_,_,q⟩=>by cases hq _ _ _ q
 cases r with
 | ok n w' =>
  cases n <;> simp only [Oper.upon] at h ⊢ <;>
   first
    | exact ⟨h,hK _ _ ha⟩
    | exact ⟨h,hK { a with defers:=_ :: a.defers } _ ha⟩
    | exact Calls.mono h (fun e w'' he=>by cases e <;> first | exact ⟨he,hK _ _ ha⟩ | exact absurd (hq _ _ _ he) (by simp) | exact absurd he no)
    | exact Rows.mono h (fun _ _ he=>⟨he,hK _ _ ha⟩)
 | halt x w'=>cases x <;> simp only [Oper.upon] at h ⊢ <;> first | exact h.elim | exact absurd (hq _ _ _ h) (by simp)
theorem wpOps_act {P:Program} {ops:Array Oper} {Q:Exit→Act→World→Prop} {K:Array Value→Prop} (hK:PutOK ops K) (hq:∀ e a w,Q e a w→e=.normal):∀ (is:List Nat) (a:Act) (w:World),K a.tmps→wpOps P ops Q is a w→wpOps P ops (fun e a' w'=>Q e a' w'∧K a'.tmps) is a w
 | [],a,w,ha,h=>⟨h,ha⟩
 | i :: is,a,w,ha,h=>by
  simp only [wpOps] at h ⊢
  cases ho:ops[i]? with
  | none=>rw [ho] at h; exact wpOps_act hK hq is a w ha h
  | some o =>
   rw [ho] at h
   simp only at h ⊢
   split
   ·rename_i hw
    rw [if_pos hw] at h
    rcases h with h | ⟨_,_,_,q⟩
    ·exact .inl (Oper.wp_mono (fun a' w' hh=>wpOps_act hK hq is a' w' hh.2 hh.1) (oper_act (fun a v=>hK i o a v ho) hq ha h))
    ·cases hq _ _ _ q
   ·rename_i hw
    rw [if_neg hw] at h
    exact wpOps_act hK hq is _ w (hK i o a undef ho ha) h
theorem wpAny_act {P:Program} {md:Region.Mode} {ops:Array Oper} {Q:Exit→Act→World→Prop} {K:Array Value→Prop} (hK:PutOK ops K) (hq:∀ e a w,Q e a w→e=.normal):∀ (n:Nat) (listed:Array Bool) (a:Act) (w:World),K a.tmps→wpAny P md ops Q n listed a w→wpAny P md ops (fun e a' w'=>Q e a' w'∧K a'.tmps) n listed a w
 | 0,listed,a,w,ha,h=>⟨h.1,h.2,ha⟩
 | n+1,listed,a,w,ha,h=>by
  refine ⟨fun hr=>⟨h.1 hr,ha⟩,fun i hi=>?_⟩
  have h:=h.2 i hi
  unfold wpOp at *
  split
  ·rename_i ho
   simp only [ho] at h
   exact wpAny_act hK hq n _ a w ha h
  ·rename_i o ho
   simp only [ho] at h
   split
   ·rename_i hw
    rw [if_pos hw] at h
    rcases h with h | ⟨_,_,_,q⟩
    ·exact .inl (Oper.wp_mono (fun a' w' hh=>wpAny_act hK hq n _ a' w' hh.2 hh.1) (oper_act (fun a v=>hK i o a v ho) hq ha h))
    ·cases hq _ _ _ q
   ·rename_i hw
    rw [if_neg hw] at h
    exact wpAny_act hK hq n _ _ w (hK i o a undef ho ha) h
def noDefer (ops:Array Oper):Bool:=ops.toList.all fun o=>match o.op with | .defer _=>false | _=>true
theorem noDefer_at {ops:Array Oper} (h:noDefer ops=true) {i:Nat} {o:Oper} (ho:ops[i]? = some o):∀ c,o.op≠.defer c:=by
 simp only [noDefer,List.all_eq_true] at h
 have:=h o (by have:=Array.getElem?_eq_some_iff.1 ho; obtain ⟨hi,rfl⟩:=this; simp)
 intro c hc
 rw [hc] at this
 cases this
theorem oper_round {P:Program} {o:Oper} {a:Act} {w:World} {next next':Act→World→Prop} {Q:Exit→Act→World→Prop} {l n:Nat} (hd:∀ c,o.op≠.defer c) (hn:∀ a w,next a w→next' a w) (hq:∀ e a w,Q e a w→e=.normal) (h:o.wp P a w next Q):o.wpIn (Fence.wide.inRound l) n P a w next' Q:=by
 refine ⟨fun _ _=>trivial,?_⟩
 rw [Oper.semAt_eq _ _ _ hd]
 unfold Oper.wp at h
 generalize (execOp a.eval o).run P w=r at *
 have no:¬ LetsOut Q:=fun ⟨_,_,q⟩=>by cases hq _ _ _ q
 have hdp:((Fence.wide.inRound l).depth.isSome=true→1≤n):=fun h=>by simp [Fence.wide] at h
 cases r with
 | ok x w' =>
  cases x <;> simp only [Oper.upon,Oper.uponIn] at h ⊢ <;>
   first
    | exact hn _ _ h
    | exact ⟨hdp,(CallsIn.inRound l (callsIn_wide.2 h)).mono (fun e w'' he=>by cases e <;> first | exact hn _ _ he | exact he)⟩
    | exact ⟨hdp,fun c cs _=>by obtain ⟨v,w'',q,s⟩:=h c cs; exact ⟨v,w'',hn _ _ q,stepsIn_wide.2 s⟩⟩
 | halt x w'=>cases x <;> simp only [Oper.upon,Oper.uponIn] at h ⊢ <;> exact h
theorem wpOps_round {P:Program} {ops:Array Oper} {Q:Exit→Act→World→Prop} {l n:Nat} (hd:noDefer ops=true) (hq:∀ e a w,Q e a w→e=.normal):∀ (is:List Nat) (a:Act) (w:World),wpOps P ops Q is a w→wpOpsIn (Fence.wide.inRound l) n P ops Q is a w
 | [],a,w,h=>h
 | i :: is,a,w,h=>by
  simp only [wpOps,wpOpsIn] at h ⊢
  cases ho:ops[i]? with
  | none=>rw [ho] at h; exact wpOps_round hd hq is a w h
  | some o =>
   rw [ho] at h
   simp only at h ⊢
   split
   ·rename_i hw
    rw [if_pos hw] at h
    rcases h with h | ⟨_,_,_,q⟩
    ·exact oper_round (noDefer_at hd ho) (fun a' w'=>wpOps_round hd hq is a' w') hq h
    ·cases hq _ _ _ q
   ·rename_i hw
    rw [if_neg hw] at h
    exact ⟨fun _ _=>trivial,wpOps_round hd hq is _ w h⟩
theorem wpAny_round {P:Program} {md:Region.Mode} {ops:Array Oper} {Q:Exit→Act→World→Prop} {l m:Nat} (hd:noDefer ops=true) (hq:∀ e a w,Q e a w→e=.normal):∀ (n:Nat) (listed:Array Bool) (a:Act) (w:World),wpAny P md ops Q n listed a w→wpAnyIn (Fence.wide.inRound l) m P md ops Q n listed a w
 | 0,listed,a,w,h=>h
 | n+1,listed,a,w,h=>by
  refine ⟨h.1,fun i hi=>?_⟩
  have h:=h.2 i hi
  unfold wpOp at h
  unfold wpOpIn
  split
  ·rename_i ho
   simp only [ho] at h
   exact wpAny_round hd hq n _ a w h
  ·rename_i o ho
   simp only [ho] at h
   split
   ·rename_i hw
    rw [if_pos hw] at h
    rcases h with h | ⟨_,_,_,q⟩
    ·exact oper_round (noDefer_at hd ho) (fun a' w'=>wpAny_round hd hq n _ a' w') hq h
    ·cases hq _ _ _ q
   ·rename_i hw
    rw [if_neg hw] at h
    exact ⟨fun _ _=>trivial,wpAny_round hd hq n _ _ w h⟩
theorem arr_of {P:Program} {id:Nat} {ops:Array Oper} {draw:Bool} {Q:Exit→Act→World→Prop} {K:Array Value→Prop} {a:Act} {w:World} (hm:P.follows .mixedOrders=true) (hK:PutOK ops K) (hq:∀ e a w,Q e a w→e=.normal) (ha:K a.tmps)
  (h:(draw=false∧wpOps P ops Q (List.range ops.size) a w)∨(draw=true∧wpAny P .any ops Q ops.size (Array.replicate ops.size false) a { w with drawn:=w.drawn+1 })) (b:Frame) (hb:b.roundOf=none∨noDefer ops=true) (k:List Item) (cs:List Frame) :
  ∃ a' w',Q .normal a' w'∧K a'.tmps∧Steps P (lone (b.atR a (.code (.region id ops draw) :: k)) cs w) (lone (b.atR a' k) cs w'):=by
 have hq':∀ e a w,(Q e a w∧K a.tmps)→e=.normal:=fun e a w h=>hq e a w h.1
 have h':(draw=false∧wpOps P ops (fun e a' w'=>Q e a' w'∧K a'.tmps) (List.range ops.size) a w)∨(draw=true∧wpAny P .any ops (fun e a' w'=>Q e a' w'∧K a'.tmps) ops.size (Array.replicate ops.size false) a { w with drawn:=w.drawn+1 }):=by
  rcases h with ⟨e,h⟩ | ⟨e,h⟩
  ·exact .inl ⟨e,wpOps_act hK hq _ a w ha h⟩
  ·exact .inr ⟨e,wpAny_act hK hq _ _ a _ ha h⟩
 cases hr:b.roundOf with
 | none =>
  have hw:(Code.region id ops draw).wp P (fun e a' w'=>Q e a' w'∧K a'.tmps) a w:=by
   rcases h' with ⟨rfl,h2⟩ | ⟨rfl,h2⟩
   ·exact wp_region h2
   ·exact wp_region_any hm h2
  obtain ⟨e,a',w',⟨q1,q2⟩,harr⟩:=hw b k cs
  have he:=hq _ _ _ q1
  subst he
  refine ⟨a',w',q1,q2,?_⟩
  rw [Frame.atR_of_none hr,Frame.atR_of_none hr]
  exact harr
 | some l =>
  have hd:noDefer ops=true:=hb.resolve_left (by rw [hr]; simp)
  have hw:(Code.region id ops draw).wpIn (Fence.wide.inRound l) 0 P (fun e a' w'=>Q e a' w'∧K a'.tmps) a w:=by
   rcases h' with ⟨rfl,h2⟩ | ⟨rfl,h2⟩
   ·exact wpIn_region (wpOps_round hd hq' _ a w h2)
   ·exact wpIn_region_any hm (wpAny_round hd hq' _ _ a _ h2)
  obtain ⟨e,a',w',⟨q1,q2⟩,harr⟩:=hw b k cs hr trivial (room_wide _)
  have he:=hq _ _ _ q1
  subst he
  exact ⟨a',w',q1,q2,StepsIn.steps harr⟩
theorem condS {α:Type} {c:Bool} {a b:α} (h:(bif c then some a else none)=some b):c=true∧a=b:=by
 cases c with
 | true=>exact ⟨rfl,by simpa using h⟩
 | false=>cases h
theorem altTr_sound {T:List (Nat × TI)} (hT:TOk C.P T) {ops:Array Oper} {trs:List Tr} {gl:List (Nat × Bool)} {i0 j0 d:Nat} {c:CastC} {τ':Tr} {ob:Ob} {ν:Nat→Bool} (h:altTr C.P T C.nt ops trs gl i0 j0 d c=some (τ',ob)) (hob:ob.den) :
  gl=[]∧i0 < j0∧(∀ o,ops[i0]? = some o→OpSound C ν ops o τ'∧∀ p,p∈τ'.gs→ν p.1=p.2)∧ordOK trs=true∧(∀ f,regOKf i0 j0 ops (tfOf trs i0 τ' f)=true)∧Swap (trs.getD i0 dfT) (trs.getD j0 dfT) τ'∧(trs.getD i0 dfT).created=[]∧τ'.created=(trs.getD i0 dfT).created∧τ'.men=(trs.getD i0 dfT).men:=by
 unfold altTr at h
 split at h
 ·rename_i τ σ o hτ hσ ho
  split at h
  ·rename_i τ2 ob2 hst
   obtain ⟨hc,h⟩:=condS h
   simp only [Prod.mk.injEq] at h
   obtain ⟨rfl,rfl⟩:=h
   obtain ⟨ho1,ho2⟩:=Ob.and_den hob
   have ho2:τ2.v=τ.v:=ho2
   simp only [Bool.and_eq_true] at hc
   obtain ⟨⟨⟨⟨⟨⟨⟨⟨⟨⟨⟨⟨c1,c2⟩,c3⟩,c4⟩,c5⟩,c6⟩,c7⟩,c8⟩,c9⟩,c10⟩,c11⟩,c12⟩,c13⟩:=hc
   have e1:trs.getD i0 dfT=τ:=by simp [List.getD,hτ]
   have e2:trs.getD j0 dfT=σ:=by simp [List.getD,hσ]
   obtain ⟨s1,s2,s3,_⟩:=stepOp_sound (C:=C) (ν:=ν) hT hst ho1 (fun s e hl=>by cases hl)
   have m1:τ.mem=[]:=by simpa using c3
   have m2:τ.mem'=[]:=by simpa using c4
   have m3:τ2.mem=[]:=by simpa using c5
   have m4:τ2.mem'=[]:=by simpa using c6
   rw [e1,e2]
   have cr:∀ t:Tr,t.mem'=[]→t.created=[]:=fun t h=>by simp [Tr.created,h]
   refine ⟨by simpa using c1,by simpa [Nat.blt_eq] using c2,fun o' ho'=>?_,c11,fun f=>?_,⟨fun A h1 h2=>?_⟩,cr _ m2,by rw [cr _ m2,cr _ m4],by simp [Tr.men,m2,m4,ho2]⟩
   ·rw [ho] at ho'
    cases ho'
    exact ⟨s1,s2⟩
   ·cases f
    ·exact c12
    ·exact c13
   ·have hlbA:∀ (t:Tr) (B:M),t.mem=[]→t.mem'=[]→(t.apply B).lb=B.lb:=fun t B q1 q2=>by
     funext k
     exact Tr.apply_lb (by simp [Tr.wk,q1,q2])
    split at c9
    ·rename_i a a' b hd1 hd2 hd3
     simp only [Bool.and_eq_true,Bool.not_eq_true',List.contains_eq_mem,decide_eq_false_iff_not] at c9
     obtain ⟨⟨⟨d1,d2⟩,d3⟩,d4⟩:=c9
     have d1:=Nat.eq_of_beq_eq_true d1
     subst d1
     have d2:a≠b:=fun e=>by rw [e,Nat.beq_refl] at d2; cases d2
     refine ⟨⟨fun p hp=>?_,fun p hp=>?_,fun p hp=>?_⟩,⟨fun p hp=>?_,fun p hp=>?_,fun p hp=>?_⟩,?_⟩
     ·rw [← h2.need p hp,Tr.apply_sl]
      rw [hd1]
      intro e
      cases e
      exact d3 (List.mem_map.2 ⟨p,hp,rfl⟩)
     ·rw [← h2.ro p hp,hlbA _ _ m1 m2]
     ·rw [← h2.mem p hp,hlbA _ _ m1 m2]
     ·have q1:=s3.need p hp
      have q2:(look τ.need p.1).isSome=true:=List.all_eq_true.1 c10 p hp
      rw [Tr.apply_sl (by rw [hd3]; intro e; cases e; exact d4 (List.mem_map.2 ⟨p,hp,rfl⟩))]
      simp only [St.toM,St.get] at q1
      cases hl:look τ.need p.1 with
      | none=>rw [hl] at q2; cases q2
      | some x =>
       rw [hl] at q1
       rw [← q1]
       exact h1.need (p.1,x) (look_mem hl)
     ·have q1:look σ.mem' p.1=some p.2:=s3.ro p hp
      simp only [Tr.apply,q1]
     ·rw [m3] at hp
      cases hp
     ·have e1:(σ.apply (τ.apply A)).sl=(τ2.apply (σ.apply A)).sl:=by
       funext t
       simp only [Tr.apply,hd1,hd2,hd3,Option.some.injEq,ho2]
       by_cases ca:a=t
       ·subst ca
        have hba:¬ b=a:=fun e=>d2 e.symm
        simp [hba]
       ·simp [ca]
      have e2:(σ.apply (τ.apply A)).lb=(τ2.apply (σ.apply A)).lb:=by
       rw [hlbA τ2 _ m3 m4]
       funext k
       simp only [Tr.apply]
       have:=congrFun (hlbA τ A m1 m2) k
       simp only [Tr.apply] at this
       rw [this]
      show M.mk _ _=M.mk _ _
      rw [show (σ.apply (τ.apply A))=⟨(σ.apply (τ.apply A)).sl,(σ.apply (τ.apply A)).lb⟩ from rfl] at *
      exact congr (congrArg M.mk e1) e2
    ·cases c9
  ·cases h
 ·cases h
theorem region_ops {T:List (Nat × TI)} (hT:TOk C.P T) (hm:C.P.follows .mixedOrders=true) {ops:Array Oper} {draw:Bool} {keep:Option (List Nat)} {st st':St} {orc:List Orc} {ob:Ob}
  (h:evRegion C.P T C.nt ops draw keep st orc=some (st',ob)) (hob:ob.den) (hs:SimB C st a w):(draw=false∧wpOps C.P ops (fun e a' w'=>e=.normal∧SimB C st' a' w') (List.range ops.size) a w)∨(draw=true∧wpAny C.P .any ops (fun e a' w'=>e=.normal∧SimB C st' a' w') ops.size (Array.replicate ops.size false) a { w with drawn:=w.drawn+1 }):=by
 unfold evRegion at h
 split at h
 ·rename_i trs st1 gl ob1 hev
  rw [Bool.cond_eq_ite] at h
  by_cases hb:(drawOK draw ops trs&&trs.all (fun τ=>τ.created.all (freshB st))&&distinctB st1.sl)=true
  case neg=>rw [if_neg hb] at h; cases h
  case pos =>
   rw [if_pos hb] at h
   simp only [Option.some.injEq,Prod.mk.injEq] at h
   obtain ⟨rfl,rfl⟩:=h
   simp only [Bool.and_eq_true] at hb
   obtain ⟨⟨hok,hfr⟩,hdis⟩:=hb
   let ν:Nat→Bool:=fun s=>(look gl s).getD false
   have hν:∀ s e,look gl s=some e→ν s=e:=fun s e hl=>by simp [ν,hl]
   obtain ⟨i1,i2,i3,_⟩:=evOps_sound (C:=C) (ν:=ν) hT hev hob hν
   obtain ⟨S,μ,hsim⟩:=hs
   have hfa:FreshAll trs st.toM:=fun τ hτ κ hκ=>by
    simp only [List.all_eq_true] at hfr
    exact freshB_spec (hfr τ hτ κ hκ)
   have hQ:∀ a' w' S' μ',Sim C st1.toM a' w' S' μ' ν→(Exit.normal=.normal∧SimB C ⟨Go.Av.keepG keep st1.sl,st1.lb⟩ a' w'):=fun a' w' S' μ' hs'=>⟨rfl,S',μ',fun ν'=>hs'.keepG hdis ν'⟩
   have hlen:trs.length=ops.size:=by rw [i1]; simp
   cases draw with
   | false =>
    refine .inl ⟨rfl,?_⟩
    have:=wpOps_seq (C:=C) (ν:=ν) (ops:=ops) (Q:=fun e a' w'=>e=.normal∧SimB C ⟨Go.Av.keepG keep st1.sl,st1.lb⟩ a' w') trs 0 st.toM st1.toM a w S μ (by omega) (fun i τ o h1 h2=>i2 i τ o h1 (by simpa using h2)) i3 hfa hok (hsim ν) hQ
    rw [hlen] at this
    rw [List.range_eq_range']
    exact this
   | true =>
    refine .inr ⟨rfl,?_⟩
    have hw':Sim C st.toM a { w with drawn:=w.drawn+1 } S μ ν:=(hsim ν).world (fun _ x=>x) (fun _ x=>.inl x) ⟨rfl,rfl,rfl,Nat.le_refl _,fun _ _ _=>rfl⟩
    have hmap:((List.range ops.size).map fun i=>trs.getD i ⟨[],none,.any,[],[],[],[]⟩)=trs:=by
     apply List.ext_getElem?
     intro i
     by_cases hi:i < ops.size
     ·simp [hi,List.getD,List.getElem?_eq_getElem (by omega:i < trs.length)]
     ·simp [hi,List.getElem?_eq_none (by omega:trs.length≤i)]
    refine wpAny_trs (C:=C) (ν:=ν) trs hok (fun i τ o h1 h2=>i2 i τ o h1 (by simpa using h2)) st1.toM hQ ops.size (List.range ops.size) _ st.toM a _ S μ (by simp) List.pairwise_lt_range (by simp) (fun i=>?_) (by rw [hmap]; exact i3) (by rw [hmap]; exact hfa) ?_ (fun m o hm hl=>?_) hw'
    ·simp only [List.mem_range]
     refine ⟨fun hi=>⟨hi,by simp [Array.getD,hi]⟩,fun hi=>hi.1⟩
    ·rw [hmap]
     have hok':regOK ops trs=true:=hok
     simp only [regOK,Bool.and_eq_true] at hok'
     exact hok'.1.2
    ·exfalso
     have hm':m < ops.size:=(Array.getElem?_eq_some_iff.1 hm).1
     simp [Array.getD,hm'] at hl
 ·rename_i trs st1 gl i0 j0 d c ob1 hev
  split at h
  ·rename_i τ' ob2 halt
   rw [Bool.cond_eq_ite] at h
   split at h
   ·rename_i hb
    simp only [Option.some.injEq,Prod.mk.injEq] at h
    obtain ⟨rfl,rfl⟩:=h
    simp only [Bool.and_eq_true] at hb
    obtain ⟨hfr,hdis⟩:=hb
    obtain ⟨hob1,hob2⟩:=Ob.and_den hob
    obtain ⟨rfl,hij,hs1,hok,hreg,hsw,hcr,hc1,hc2⟩:=altTr_sound (C:=C) (ν:=fun _=>false) hT halt hob2
    obtain ⟨i1,i2,i3,_⟩:=evOps_sound (C:=C) (ν:=fun _=>false) hT hev hob1 (fun s e hl=>by cases hl)
    obtain ⟨S,μ,hsim⟩:=hs
    have hfa:FreshAll trs st.toM:=fun τ hτ κ hκ=>by
     simp only [List.all_eq_true] at hfr
     exact freshB_spec (hfr τ hτ κ hκ)
    have hQ:∀ a' w' S' μ',Sim C st1.toM a' w' S' μ' (fun _=>false)→(Exit.normal=.normal∧SimB C ⟨Go.Av.keepG keep st1.sl,st1.lb⟩ a' w'):=fun a' w' S' μ' hs'=>⟨rfl,S',μ',fun ν'=>hs'.keepG hdis ν'⟩
    have hlen:trs.length=ops.size:=by rw [i1]; simp
    refine .inr ⟨rfl,?_⟩
    have hw':Sim C st.toM a { w with drawn:=w.drawn+1 } S μ (fun _=>false):=(hsim _).world (fun _ x=>x) (fun _ x=>.inl x) ⟨rfl,rfl,rfl,Nat.le_refl _,fun _ _ _=>rfl⟩
    have tf0:∀ i,tfOf trs i0 τ' false i=trs.getD i dfT:=fun i=>rfl
    have tf1:tfOf trs i0 τ' true i0=τ':=by simp [tfOf,Nat.beq_refl]
    have tf2:∀ i,i≠i0→tfOf trs i0 τ' true i=trs.getD i dfT:=fun i hi=>by
     have:Nat.beq i i0=false:=by
      cases hb:Nat.beq i i0 with
      | true=>exact absurd (Nat.eq_of_beq_eq_true hb) hi
      | false=>rfl
     simp [tfOf,this]
    have hmap:((List.range ops.size).map (tfOf trs i0 τ' false))=trs:=by
     apply List.ext_getElem?
     intro i
     by_cases hi:i < ops.size
     ·simp [hi,tf0,List.getD,List.getElem?_eq_getElem (by omega:i < trs.length)]
     ·simp [hi,List.getElem?_eq_none (by omega:trs.length≤i)]
    have hop0:∀ (i:Nat) (o:Oper),ops[i]? = some o→OpSound C (fun _=>false) ops o (trs.getD i dfT)∧∀ p,p∈(trs.getD i dfT).gs→false=p.2:=fun i o ho=>by
     have hi:i < trs.length:=by rw [hlen]; exact (Array.getElem?_eq_some_iff.1 ho).1
     have ht:trs[i]? = some (trs.getD i dfT):=by simp [List.getD,hi]
     exact i2 i _ o ht (by simpa using ho)
    refine wpAny_tf (C:=C) (ν:=fun _=>false) (tfOf trs i0 τ') i0 j0 hij (fun f i o ho=>?_) (fun f i hi=>?_) (fun i hi=>(tf2 i hi).trans (tf0 i).symm) (by rw [tf1]; exact hsw) hcr (by rw [tf1]; exact ⟨hc1,hc2⟩) st1.toM hQ ops.size (List.range ops.size) false _ st.toM a _ S μ (fun h=>by cases h) (by simp) List.pairwise_lt_range (by simp) (fun i=>?_) (by rw [hmap]; exact i3) (by rw [hmap]; exact hfa) (by rw [hmap]; exact hok) (fun m o hm hl=>?_) hw'
    ·cases f with
     | false=>exact hop0 i o ho
     | true =>
      by_cases ci:i=i0
      ·subst ci
       rw [tf1]
       exact hs1 o ho
      ·rw [tf2 i ci]
       exact hop0 i o ho
    ·have hr:=hreg f
     simp only [regOKf,List.all_eq_true,List.mem_range] at hr
     have h1:=hr i hi
     have ho:ops[i]? = some ops[i]:=Array.getElem?_eq_getElem hi
     rw [ho] at h1
     simp only [Bool.and_eq_true,Array.all_eq_true',Bool.or_eq_true,Bool.not_eq_true',decide_eq_true_eq,List.all_eq_true,List.mem_range] at h1
     refine ⟨_,ho,fun e he hb=>?_,fun j hj=>?_⟩
     ·rcases h1.1 e he with h' | h'
      ·rw [hb] at h'; cases h'
      ·exact h'
     ·rcases h1.2 j hj with ((h' | h') | h') | h'
      ·exact .inl (.inl h')
      ·exact .inr (.inl ⟨Nat.eq_of_beq_eq_true h'.1,Nat.eq_of_beq_eq_true h'.2⟩)
      ·exact .inr (.inr (Tr.indep_spec h'))
      ·exact .inl (.inr h')
    ·simp only [List.mem_range]
     refine ⟨fun hi=>⟨hi,by simp [Array.getD,hi]⟩,fun hi=>hi.1⟩
    ·exfalso
     have hm':m < ops.size:=(Array.getElem?_eq_some_iff.1 hm).1
     simp [Array.getD,hm'] at hl
   ·cases h
  ·cases h
 ·cases h
end
def Cx.TD (C:Cx) (q:Nat):Prop:=C.T0 q∨({ target:=.collected q,args:=#[] }:Deferred)∈C.dl
def Post (C:Cx) (res:AV) (lbs:List (Nat × Blk)) (e:Ending) (w':World):Prop:=∃ v S' μ',e=.returned v∧Back C.w0 C.S0 C.TD res lbs v S' μ' w'
structure Goal where
 P:Program
 T:List (Nat × TI)
 nt:Nat
 f:FuncId
 fn:Func
 res:AV
 lbs:List (Nat × Blk)
 md:Nat
 pr:List Nat
 tm:Array Value
 Z:Cx→Frame→List Frame→Machine→Prop
 zs:∀ C b cs m m',Steps P m m'→Z C b cs m'→Z C b cs m
def Goal.kept (g:Goal) (t:Array Value):Prop:=∀ u,u∈g.pr→t.getD u undef=g.tm.getD u undef
def Runs (g:Goal) (C:Cx) (todo:List Item) (a:Act) (w:World):Prop :=
 ∀ (b:Frame) (cs:List Frame),b.fn=g.f→b.kind=.normal→(b.roundOf=none↔g.md≠1)→g.Z C b cs (lone (b.atR a todo) cs w)
def G (g:Goal) (todo:List Item) (st:St):Prop:=∀ C:Cx,C.P=g.P→C.nt=g.nt→∀ a w,g.kept a.tmps→SimB C st a w→Runs g C todo a w
def LeS (st st':St):Prop:=∀ C a w,SimB C st a w→SimB C st' a w
def noDst (l:List Nat) (ops:Array Oper):Bool:=l.all fun t=>ops.toList.all fun o=>match o.dst with | some d=>!Nat.beq d t | none=>true
def regR (md:Nat) (pr:List Nat) (ops:Array Oper):Bool:=noDst pr ops&&(!Nat.beq md 1||noDefer ops)
section
variable {g : Goal} {k : List Item} {st st' : St}
theorem Runs.step {C:Cx} {todo todo':List Item} {a a':Act} {w w':World} (h:∀ (b:Frame) (cs:List Frame),Steps g.P (lone (b.atR a todo) cs w) (lone (b.atR a' todo') cs w')) (hr:Runs g C todo' a' w'):Runs g C todo a w :=
 fun b cs h1 h2 h3=>g.zs C b cs _ _ (h b cs) (hr b cs h1 h2 h3)
theorem G.le (h:LeS st st') (hg:G g k st'):G g k st:=fun C h1 h2 a w hk hs=>hg C h1 h2 a w hk (h C a w hs)
theorem G.seq {x y:Code} (h:G g (.code x :: .code y :: k) st):G g (.code (.seq x y) :: k) st:=fun C h1 h2 a w hk hs=>(h C h1 h2 a w hk hs).step fun _ _=>.one stepR_seq
theorem G.skip (h:G g k st):G g (.code .skip :: k) st:=fun C h1 h2 a w hk hs=>(h C h1 h2 a w hk hs).step fun _ _=>.one stepR_skip
theorem G.label {l:Nat} (h:G g k st):G g (.code (.label l) :: k) st:=fun C h1 h2 a w hk hs=>(h C h1 h2 a w hk hs).step fun _ _=>.one stepR_label
theorem G.block {id:Nat} {c:Code} (h:G g (.code c :: .inBlock id :: k) st):G g (.code (.block id c) :: k) st:=fun C h1 h2 a w hk hs=>(h C h1 h2 a w hk hs).step fun _ _=>.one stepR_block
theorem G.inBlock {id:Nat} (h:G g k st):G g (.inBlock id :: k) st:=fun C h1 h2 a w hk hs=>(h C h1 h2 a w hk hs).step fun _ _=>.one stepR_inBlock
theorem G.inLoop {c:Code} (h:G g (.code c :: .inLoop c :: k) st):G g (.inLoop c :: k) st:=fun C h1 h2 a w hk hs=>(h C h1 h2 a w hk hs).step fun _ _=>.one stepR_inLoop
theorem G.exit {id:Nat} {k':List Item} (he:exitTo id k=some k') (h:G g k' st):G g (.code (.exit id) :: k) st:=fun C h1 h2 a w hk hs=>(h C h1 h2 a w hk hs).step fun _ _=>.one (stepR_exit he)
theorem G.cond {c:Nat} {x y:Code} {e:Bool} (hc:St.get st.sl c=.d (.v (.bool e))) (ht:e=true→G g (.code x :: k) st) (hf:e=false→G g (.code y :: k) st):G g (.code (.cond (.tmp c) x y) :: k) st:=by
 intro C h1 h2 a w hk hs
 obtain ⟨S,μ,hsim⟩:=hs
 have hr:=(hsim fun _=>false).slots c
 simp only [St.toM,hc] at hr
 have he:a.eval (.tmp c)=.bool e:=rel_bool hr
 cases e with
 | true=>exact (ht rfl C h1 h2 a w hk ⟨S,μ,hsim⟩).step fun _ _=>.one (by simpa using stepR_cond (x:=x) (y:=y) he)
 | false=>exact (hf rfl C h1 h2 a w hk ⟨S,μ,hsim⟩).step fun _ _=>.one (by simpa using stepR_cond (x:=x) (y:=y) he)
theorem G.condC {x y:Code} {e:Bool} (h:G g (.code (bif e then x else y) :: k) st):G g (.code (.cond (.const (.bool e)) x y) :: k) st:=by
 intro C h1 h2 a w hk hs
 have he:a.eval (.const (.bool e))=.bool e:=rfl
 cases e with
 | true=>exact (h C h1 h2 a w hk hs).step fun _ _=>.one (by simpa using stepR_cond (x:=x) (y:=y) he)
 | false=>exact (h C h1 h2 a w hk hs).step fun _ _=>.one (by simpa using stepR_cond (x:=x) (y:=y) he)
theorem Goal.putOK {ops:Array Oper} (h:regR g.md g.pr ops=true):PutOK ops g.kept:=by
 intro i o a v ho hk u hu
 unfold regR at h
 simp only [Bool.and_eq_true,noDst,List.all_eq_true] at h
 have h1:=h.1 u hu o (by obtain ⟨hi,rfl⟩:=Array.getElem?_eq_some_iff.1 ho; simp)
 rw [← hk u hu]
 cases hd:o.dst with
 | none=>rfl
 | some d =>
  rw [hd] at h1
  exact getD_set_other _ _ _ _ (fun e=>by subst e; simp at h1)
theorem G.ops (hm:g.P.follows .mixedOrders=true) {C:Cx} {id:Nat} {ops:Array Oper} {draw:Bool} {a:Act} {w:World} {Q:Act→World→Prop} (hr:regR g.md g.pr ops=true) (ha:g.kept a.tmps)
  (h:(draw=false∧wpOps g.P ops (fun e a' w'=>e=.normal∧Q a' w') (List.range ops.size) a w)∨(draw=true∧wpAny g.P .any ops (fun e a' w'=>e=.normal∧Q a' w') ops.size (Array.replicate ops.size false) a { w with drawn:=w.drawn+1 }))
  (hg:∀ a' w',g.kept a'.tmps→Q a' w'→Runs g C k a' w'):Runs g C (.code (.region id ops draw) :: k) a w:=by
 intro b cs h1 h2 h3
 obtain ⟨a',w',q1,q2,q3⟩:=arr_of (id:=id) hm (Goal.putOK hr) (fun e a w h=>h.1) ha h b (by
  by_cases hp:g.md=1
  ·unfold regR at hr; simp only [Bool.and_eq_true,hp] at hr; exact .inr (by simpa using hr.2)
  ·exact .inl (h3.2 hp)) k cs
 exact g.zs C b cs _ _ q3 (hg a' w' q2 q1.2 b cs h1 h2 h3)
theorem G.region (hT:TOk g.P g.T) (hm:g.P.follows .mixedOrders=true) {id:Nat} {ops:Array Oper} {draw:Bool} {keep:Option (List Nat)} {orc:List Orc} {ob:Ob} (hr:regR g.md g.pr ops=true) (h:evRegion g.P g.T g.nt ops draw keep st orc=some (st',ob)) (hob:ob.den) (hg:G g k st'):G g (.code (.region id ops draw) :: k) st:=by
 intro C h1 h2 a w hk hs
 have hw:=region_ops (C:=C) (T:=g.T) (by rw [h1]; exact hT) (by rw [h1]; exact hm) (by rw [h1,h2]; exact h) hob hs
 rw [h1] at hw
 exact G.ops hm hr hk hw (fun a' w' hk' hs'=>hg C h1 h2 a' w' hk' hs')
theorem G.loop {ι:Type} (I:ι→St) (m:ι→Nat) {c:Code} (i0:ι) (h0:LeS st (I i0)) (hr:∀ i,(∀ j,m j < m i→G g (.inLoop c :: k) (I j))→G g (.code c :: .inLoop c :: k) (I i)):G g (.code (.loop c) :: k) st:=by
 have key:∀ n i,m i=n→G g (.code c :: .inLoop c :: k) (I i):=by
  intro n
  induction n using Nat.strongRecOn with
  | _ n ih =>
   intro i hi
   exact hr i (fun j hj=>.inLoop (ih (m j) (hi ▸ hj) j rfl))
 intro C h1 h2 a w hk hs
 exact (key _ i0 rfl C h1 h2 a w hk (h0 C a w hs)).step fun _ _=>.one stepR_loop
end
def evRes (T:List (Nat × TI)) (st:St):List ResultVar→Option (List AV × List (Nat × Blk) × Ob)
 | []=>some ([],[],.tt)
 | .tmp t :: r=>(match evRes T st r with | some (l,ro,ob)=>some (St.get st.sl t :: l,ro,ob) | none=>none)
 | .cell t ty :: r=>(match look T ty,ptrCells st.lb (St.get st.sl t),evRes T st r with
  | some i,some (cs,ro1,ob1),some (l,ro,ob)=>(match loadC i cs with | some v=>some (v :: l,ro1++ro,ob1.and ob) | none=>none)
  | _,_,_=>none)
section
variable {C : Cx} {a : Act} {w : World} {S : Nat → Prop} {μ : Mu} {ν : Nat → Bool}
def packV:List Value→Value
 | [v]=>v
 | l=>.tuple l.toArray
def resVal (tmps:Array Value):ResultVar→Sem Value
 | .tmp t=>pure (tmps.getD t undef)
 | .cell a t=>do loadVar t (← asAddr (tmps.getD a undef))
theorem evRes_run {T:List (Nat × TI)} (hT:TOk C.P T) {st:St} (hs:Sim C st.toM a w S μ ν):∀ {rs:List ResultVar} {l:List AV} {ro:List (Nat × Blk)} {ob:Ob},evRes T st rs=some (l,ro,ob)→ob.den→∃ vs,(rs.mapM (resVal a.tmps)).run C.P w=.ok vs w∧RelL w S μ ν l vs
 | [],l,ro,ob,h,_=>by
  simp only [evRes,Option.some.injEq,Prod.mk.injEq] at h
  obtain ⟨rfl,-,-⟩:=h
  exact ⟨[],by simp,rfl,fun i hi=>absurd hi (by simp)⟩
 | .tmp t :: r,l,ro,ob,h,hob=>by
  simp only [evRes] at h
  split at h
  ·rename_i l' ro' ob' hr
   simp only [Option.some.injEq,Prod.mk.injEq] at h
   obtain ⟨rfl,rfl,rfl⟩:=h
   obtain ⟨vs,h1,h2⟩:=evRes_run hT hs hr hob
   refine ⟨a.tmps.getD t undef :: vs,by simp [List.mapM_cons,resVal,h1],by simp [h2.1],fun i hi=>?_⟩
   cases i with
   | zero =>
    have:=hs.slots t
    simp only [St.toM] at this
    simpa using this
   | succ i=>simpa using h2.2 i (by simpa using hi)
  ·cases h
 | .cell t ty :: r,l,ro,ob,h,hob=>by
  simp only [evRes] at h
  split at h
  ·rename_i i cs ro1 ob1 l' ro' ob' hi hc hr
   split at h
   ·rename_i v hv
    simp only [Option.some.injEq,Prod.mk.injEq] at h
    obtain ⟨rfl,rfl,rfl⟩:=h
    obtain ⟨vs,h1,h2⟩:=evRes_run hT hs hr (Ob.and_den hob).2
    have hat:=ptrCells_at hc hs (fun p hp=>ptrCells_ro hc p hp) (Ob.and_den hob).1 (hs.slots t)
    obtain ⟨b,o,hp,hcells⟩:=hat
    obtain ⟨u,h3,h4⟩:=loadC_run (P:=C.P) (hT _ _ hi) hv (⟨b,o,hp,hcells⟩:AtCells w S μ ν cs _)
    have h5:(resVal a.tmps (.cell t ty)).run C.P w=.ok u w:=by
     rw [hp] at h3
     simp only [resVal,hp,asAddr,Sem.run_bind,Sem.run_pure,Result.andThen_ok]
     simpa [Instr.loadAt,Instr.sureAddr] using h3
    refine ⟨u :: vs,by simp [List.mapM_cons,h5,h1],by simp [h2.1],fun i hi=>?_⟩
    cases i with
    | zero=>simpa using h4
    | succ i=>simpa using h2.2 i (by simpa using hi)
   ·cases h
  ·cases h
theorem results_eq (fn:Func) (tmps:Array Value):results fn tmps=(do let vs ← fn.results.mapM (resVal tmps); pure (if h:vs.size=1 then vs[0] else .tuple vs):Sem Value):=by
 unfold results
 congr 2
theorem results_run {fn:Func} {vs:List Value} (h:(fn.results.toList.mapM (resVal a.tmps)).run C.P w=.ok vs w):(results fn a.tmps).run C.P w=.ok (packV vs) w:=by
 rw [results_eq,Array.mapM_eq_mapM_toList]
 simp only [Sem.run_bind,Sem.run_map,h,Result.andThen_ok,Sem.run_pure]
 congr 1
 clear h
 match vs with
 | []=>rfl
 | [v]=>rfl
 | _ :: _ :: _=>rfl
end
def AvLe (x y:AV):Prop:=∀ w S μ ν v,Rel w S μ ν x v→Rel w S μ ν y v
theorem AvLe.rfl' {x:AV}:AvLe x x:=fun _ _ _ _ _ h=>h
theorem AvLe.d {x y:D} (h:DLe x y):AvLe (.d x) (.d y):=fun w S _ _ v hr=>.d (h w S v (rel_d.1 hr))
def packR:List AV→AV
 | [x]=>x
 | l=>.tup l
theorem packR_rel {w:World} {S:Nat→Prop} {μ:Mu} {ν:Nat→Bool} {l:List AV} {vs:List Value} (h:RelL w S μ ν l vs):Rel w S μ ν (packR l) (packV vs):=by
 match l,vs,h with
 | [x],[v],h=>simpa [packR,packV] using h.2 0 (by simp)
 | [],[],h=>exact .tup rfl (fun i hi=>absurd hi (by simp))
 | x :: y :: r,u :: v :: s,h=>exact .tup (by simpa using h.1) (fun i hi=>by rw [getD_toList]; simpa using h.2 i hi)
 | [],_ :: _,h=>have:=h.1; simp at this
 | [_],[],h=>have:=h.1; simp at this
 | [_],_ :: _ :: _,h=>have:=h.1; simp at this
 | _ :: _ :: _,[],h=>have:=h.1; simp at this
 | _ :: _ :: _,[_],h=>have:=h.1; simp at this
theorem step_taken {P:Program} {cs:List Frame}:∀ (l:List Deferred) (fr:Frame) (w:World),fr.mode=.returning→fr.defers=l→l.Nodup→(∀ d,d∈l→∃ q,d = { target:=.collected q,args:=#[] }∧w.heap[q]? = some (.deferred (some []))) →
  ∃ w',Steps P (lone fr cs w) (lone { fr with defers:=[] } cs w')∧Kept w w' (fun q=>({ target:=.collected q,args:=#[] }:Deferred)∈l)
 | [],fr,w,_,hd,_,_=>⟨w,by rw [show ({ fr with defers:=[] }:Frame)=fr by rw [← hd]]; exact .refl _ _,Kept.refl _ _⟩
 | d :: l,fr,w,hm,hd,hnd,hl=>by
  obtain ⟨q,rfl,hq⟩:=hl d (by simp)
  have h1:=step_collected (P:=P) (cs:=cs) (d:={ target:=.collected q,args:=#[] }) (by rw [hm]; simp) hd rfl (run_takeDeferred hq)
  have hk:Kept w (w.putObj q (.deferred none)) (fun b=>b=q):=⟨rfl,rfl,rfl,by simp [World.putObj],fun b _ hb=>World.putObj_heap_other hb⟩
  obtain ⟨w',h2,h3⟩:=step_taken l { fr with defers:=[]++l } (w.putObj q (.deferred none)) hm rfl (List.nodup_cons.1 hnd).2 (fun d hd'=>by
   obtain ⟨p,rfl,hp⟩:=hl d (by simp [hd'])
   refine ⟨p,rfl,?_⟩
   have hne:p≠q:=fun e=>(List.nodup_cons.1 hnd).1 (e ▸ hd')
   rw [World.putObj_heap_other hne]; exact hp)
  refine ⟨w',.head h1 h2,(hk.mono' (fun b hb=>by subst hb; simp)).trans h3 (fun b _ hb=>by simp [hb])⟩
def Cx.shut (C:Cx):Cx:={ C with T0:=C.TD,dis:=fun b hb h=>h.elim (C.dis b hb) (fun h=>(C.dok _ h).elim (fun hx=>C.dxc _ hx _ rfl) (fun ⟨q,e,_,_,hq⟩=>by cases e; exact hq hb)),dl:=[],dok:=fun d h=>(by cases h),dnd:=List.nodup_nil }
theorem BlkAt.notDeferred {w:World} {S:Nat→Prop} {μ:Mu} {b:Blk} {g cap:Nat} {o:Option (List Deferred)} (h:BlkAt w S μ b g cap):w.heap[g]?≠some (.deferred o):=by
 cases b with
 | box cs=>obtain ⟨cur,e,hg,_⟩:=h; rw [hg]; simp
 | row e k n f=>obtain ⟨cur,hg,_⟩:=h; rw [hg]; simp
 | mp n f=>obtain ⟨cur,hg,_⟩:=h; rw [hg]; simp
 | it mk n seen=>obtain ⟨mg,c,_,hg,_⟩:=h; rw [hg]; simp
 | mx=>obtain ⟨m,_,cur,hg,_⟩:=h; rw [hg]; simp
 | tx=>obtain ⟨n,f,_,cur,hg,_⟩:=h; rw [hg]; simp
 | rx=>obtain ⟨f,_,cur,hg,_⟩:=h; rw [hg]; simp
 | ml=>obtain ⟨cur,c,hg,_⟩:=h; rw [hg]; simp
theorem Sim.dokw {C:Cx} {A:M} {a:Act} {w:World} {S:Nat→Prop} {μ:Mu} {ν:Nat→Bool} (h:Sim C A a w S μ ν):∀ d,d∈C.dl→d∈C.dx∨∃ q,d = { target:=.collected q,args:=#[] }∧w.heap[q]? = some (.deferred (some []))∧¬ S q:=by
 intro d hd
 rcases C.dok d hd with hx | ⟨q,e,h1,h2,h3⟩
 ·exact .inl hx
 refine .inr ?_
 have hlt:=(Array.getElem?_eq_some_iff.1 h1).1
 refine ⟨q,e,(h.kept.block q hlt h2).trans h1,fun hs=>?_⟩
 rcases h.fresh q hs with h4 | h4 | h4
 ·exact h3 h4
 ·omega
 ·exact h2 h4
theorem Sim.shut {C:Cx} {A:M} {a:Act} {w w':World} {S:Nat→Prop} {μ:Mu} {ν:Nat→Bool} (h:Sim C A a w S μ ν) (hk:Kept w w' (fun q=>({ target:=.collected q,args:=#[] }:Deferred)∈C.dl)):Sim C.shut A { a with defers:=[] } w' S μ ν:=by
 have hw:∀ b,S b→w'.heap[b]? = w.heap[b]?:=fun b hb=>hk.block b (h.bound b hb) (fun hd=>by
  rcases h.dokw _ hd with hx | ⟨q,e,_,hq⟩
  ·exact C.dxc _ hx _ rfl
  cases e
  exact hq hb)
 refine ⟨h.tmps,rfl,fun t=>(h.slots t).mono (fun _ x=>x) hw (fun _ _ e=>e),fun κ b hb=>?_,h.inj,fun κ b g c h1 h2=>?_,h.stable,fun b hb=>?_,fun b hb=>Nat.lt_of_lt_of_le (h.bound b hb) hk.size,?_⟩
 ·have hm:=h.mem κ b hb
  refine hm.mono (fun _ x=>x) hw (fun _ _ e=>e) (fun g c e=>?_)
  rw [e] at hm
  refine ⟨hk.block g hm.at.lt (fun hd=>?_),hm.at.not⟩
  rcases h.dokw _ hd with hx | ⟨q,e',hq,_⟩
  ·exact C.dxc _ hx _ rfl
  cases e'
  exact hm.at.notDeferred hq
 ·rcases h.own κ b g c h1 h2 with q | q
  ·exact .inl q
  ·exact .inr (.inl q)
 ·rcases h.fresh b hb with q | q | q
  ·exact .inl q
  ·exact .inr (.inl q)
  ·exact .inr (.inr (.inl q))
 ·exact (h.kept.mono' (fun _ x=>.inl x)).trans hk (fun b _ hb=>.inr hb)
structure Goal.Nrm (g:Goal):Prop where
 md:g.md=0
 fin:∀ C b cs m,(C.dx=[]→∃ e w' fr,Post C g.res g.lbs e w'∧Comes g.P m (lone fr cs w') e∧fr.fn=g.f∧fr.leaving g.P w' e)→g.Z C b cs m
theorem Goal.Nrm.out {g:Goal} (hg:g.Nrm) (hf:g.P.funcs[g.f]? = some g.fn) {C:Cx} (h1:C.P=g.P) {st:St} {a:Act} {w:World} (hs:SimB C st a w) (hp:∀ w',SimB C.shut st { a with defers:=[] } w'→∃ v,(results g.fn a.tmps).run C.P w'=.ok v w'∧Post C.shut g.res g.lbs (.returned v) w')
  {todo:List Item} (hst:∀ (b:Frame) (cs:List Frame),b.roundOf=none→Steps g.P (lone (b.atR a todo) cs w) (lone { b.atR a todo with mode:=.returning } cs w)):Runs g C todo a w:=by
 intro b cs hb1 hb2 hb3
 refine hg.fin C b cs _ fun hdx=>?_
 obtain ⟨S,μ,hsim⟩:=hs
 have h0:=hsim fun _=>false
 have hrd:=hb3.2 (by rw [hg.md]; decide)
 obtain ⟨w',q1,q2⟩:=step_taken (P:=g.P) (cs:=cs) C.dl { b.atR a todo with mode:=.returning } w rfl h0.defers C.dnd (fun d hd=>(h0.dokw d hd).elim (fun h=>by rw [hdx] at h; cases h) (fun ⟨q,e,h,_⟩=>⟨q,e,h⟩))
 obtain ⟨v,r1,r2⟩:=hp w' ⟨S,μ,fun ν=>(hsim ν).shut q2⟩
 obtain ⟨v',S',μ',e,B⟩:=r2
 refine ⟨.returned v,w',_,⟨v',S',μ',e,B.monoT (fun q hq=>?_)⟩,Steps.trans (hst b cs hrd) q1,hb1,rfl,rfl,hb2,g.fn,?_,?_⟩
 ·rcases hq with hq | hq
  ·exact hq
  ·cases hq
 ·show g.P.funcs[b.fn]? = _
  rw [hb1]; exact hf
 ·rw [← h1]; exact r1
def PostB (C:Cx) (res:AV) (lbs:List (Nat × Blk)) (anc:List (Nat × Nat)) (tm:Array Value) (e:Ending) (w':World):Prop:=∃ v S' μ',e=.returned v∧Back C.w0 C.S0 C.TD res lbs v S' μ' w'∧∀ p,p∈anc→∀ ν,Rel w' S' μ' ν (.ptr p.2 0) (tm.getD p.1 undef)
structure Goal.NrmB (g:Goal) (anc:List (Nat × Nat)):Prop where
 md:g.md=3
 pr:∀ p,p∈anc→p.1∈g.pr
 fin:∀ C b cs m,(C.dx=[]→∃ e w' fr,PostB C g.res g.lbs anc g.tm e w'∧Comes g.P m (lone fr cs w') e∧fr.fn=g.f∧fr.leaving g.P w' e)→g.Z C b cs m
theorem Goal.NrmB.out {g:Goal} {anc:List (Nat × Nat)} (hg:g.NrmB anc) (hf:g.P.funcs[g.f]? = some g.fn) {C:Cx} (h1:C.P=g.P) {st:St} {a:Act} {w:World} (hs:SimB C st a w) (hp:∀ w',SimB C.shut st { a with defers:=[] } w'→∃ v,(results g.fn a.tmps).run C.P w'=.ok v w'∧PostB C.shut g.res g.lbs anc g.tm (.returned v) w')
  {todo:List Item} (hst:∀ (b:Frame) (cs:List Frame),b.roundOf=none→Steps g.P (lone (b.atR a todo) cs w) (lone { b.atR a todo with mode:=.returning } cs w)):Runs g C todo a w:=by
 intro b cs hb1 hb2 hb3
 refine hg.fin C b cs _ fun hdx=>?_
 obtain ⟨S,μ,hsim⟩:=hs
 have h0:=hsim fun _=>false
 have hrd:=hb3.2 (by rw [hg.md]; decide)
 obtain ⟨w',q1,q2⟩:=step_taken (P:=g.P) (cs:=cs) C.dl { b.atR a todo with mode:=.returning } w rfl h0.defers C.dnd (fun d hd=>(h0.dokw d hd).elim (fun h=>by rw [hdx] at h; cases h) (fun ⟨q,e,h,_⟩=>⟨q,e,h⟩))
 obtain ⟨v,r1,r2⟩:=hp w' ⟨S,μ,fun ν=>(hsim ν).shut q2⟩
 obtain ⟨v',S',μ',e,B,ha⟩:=r2
 refine ⟨.returned v,w',_,⟨v',S',μ',e,B.monoT (fun q hq=>?_),ha⟩,Steps.trans (hst b cs hrd) q1,hb1,rfl,rfl,hb2,g.fn,?_,?_⟩
 ·rcases hq with hq | hq
  ·exact hq
  ·cases hq
 ·show g.P.funcs[b.fn]? = _
  rw [hb1]; exact hf
 ·rw [← h1]; exact r1
theorem G.outB {g:Goal} {st:St} {anc:List (Nat × Nat)} (hg:g.NrmB anc) (hf:g.P.funcs[g.f]? = some g.fn) (hp:∀ (C:Cx) (a:Act) (w:World),C.P=g.P→g.kept a.tmps→SimB C st a w→∃ v,(results g.fn a.tmps).run C.P w=.ok v w∧PostB C g.res g.lbs anc g.tm (.returned v) w):G g [] st∧∀ k,G g (.code .ret :: k) st :=
 ⟨fun C h1 _ a w hk hs=>hg.out hf h1 hs (fun w' hs'=>hp C.shut { a with defers:=[] } w' h1 hk hs') (fun b cs hb=>.one (stepR_end hb)),
  fun k C h1 _ a w hk hs=>hg.out hf h1 hs (fun w' hs'=>hp C.shut { a with defers:=[] } w' h1 hk hs') (fun b cs hb=>.one (stepR_ret hb))⟩
section
variable {g : Goal} {k : List Item} {st : St}
theorem post_pure {C:Cx} {a:Act} {w:World} (hs:SimB C st a w) (hT:TOk C.P g.T) (hl:g.lbs=[]) {l l':List AV} {ro ro':List (Nat × Blk)} {ob ob':Ob} (h:evRes g.T st g.fn.results.toList=some (l,ro,ob)) (hob:ob.den) (hb:borAL st.lb l=some (l',ro',ob')) (hob':ob'.den) (hle:AvLe (packR l') g.res) :
  ∃ v,(results g.fn a.tmps).run C.P w=.ok v w∧Post C g.res g.lbs (.returned v) w:=by
 obtain ⟨S,μ,hsim⟩:=hs
 have h0:=hsim fun _=>false
 obtain ⟨vs,h1,h2⟩:=evRes_run hT h0 h hob
 refine ⟨_,results_run h1,?_⟩
 have h3:∀ μ' ν',RelL w (fun b=>b < w.heap.size∧(C.S0 b∨C.w0.heap.size≤b∨C.T0 b)) μ' ν' l' vs:=fun μ' ν' =>
  borAL_rel h0 (fun b hb=>⟨h0.bound b hb,h0.fresh b hb⟩) (fun κ b q c h1 h2=>⟨by have:=h0.mem κ b h1; rw [h2] at this; exact this.at.lt,.inr (h0.own κ b q c h1 h2)⟩) μ' ν' hb (fun p hp=>borAL_ro hb p hp) hob' h2
 refine ⟨_,fun b=>b < w.heap.size∧(C.S0 b∨C.w0.heap.size≤b∨C.T0 b),fun _=>none,rfl,?_⟩
 rw [hl]
 exact ⟨fun ν'=>hle _ _ _ _ _ (packR_rel (h3 _ ν')),fun κ b hk=>by simp [look] at hk,fun κ κ' b b' q c c' hk=>by simp [look] at hk,fun κ b q c hk=>by simp [look] at hk,
  fun b hb=>⟨Nat.lt_of_lt_of_le (h0.bound b (h0.stable b hb)) (Nat.le_refl _),.inl hb⟩,fun b hb=>hb.2.imp id (Or.imp id .inl),fun b hb=>hb.1,h0.kept.mono' fun _ h=>.inl h⟩
theorem G.out (hg:g.Nrm) (hf:g.P.funcs[g.f]? = some g.fn) (hp:∀ (C:Cx) (a:Act) (w:World),C.P=g.P→SimB C st a w→∃ v,(results g.fn a.tmps).run C.P w=.ok v w∧Post C g.res g.lbs (.returned v) w):G g [] st∧∀ k,G g (.code .ret :: k) st :=
 ⟨fun C h1 _ a w _ hs=>hg.out hf h1 hs (fun w' hs'=>hp C.shut { a with defers:=[] } w' h1 hs') (fun b cs hb=>.one (stepR_end hb)),
  fun k C h1 _ a w _ hs=>hg.out hf h1 hs (fun w' hs'=>hp C.shut { a with defers:=[] } w' h1 hs') (fun b cs hb=>.one (stepR_ret hb))⟩
theorem G.ret (hg:g.Nrm) (hT:TOk g.P g.T) (hf:g.P.funcs[g.f]? = some g.fn) (hl:g.lbs=[]) {l l':List AV} {ro ro':List (Nat × Blk)} {ob ob':Ob} (h:evRes g.T st g.fn.results.toList=some (l,ro,ob)) (hob:ob.den) (hb:borAL st.lb l=some (l',ro',ob')) (hob':ob'.den) (hle:AvLe (packR l') g.res):G g [] st∧∀ k,G g (.code .ret :: k) st :=
 G.out hg hf (fun C a w h1 hs=>post_pure (g:=g) hs (by rw [h1]; exact hT) hl h hob hb hob' hle)
end
def argSlots:Nat→List AV→List (Nat × AV)
 | _,[]=>[]
 | n,x :: r=>(n,x) :: argSlots (n+1) r
theorem argSlots_look:∀ (l:List AV) (n t:Nat),look (argSlots n l) t=if n≤t then l[t - n]? else none
 | [],n,t=>by simp [argSlots,look]
 | x :: r,n,t=>by
  simp only [argSlots,look_cons,argSlots_look r (n+1) t]
  by_cases h:n=t
  ·subst h; simp
  ·simp only [h,if_false]
   by_cases h1:n+1≤t
   ·rw [if_pos h1,if_pos (by omega),show t - n=t - (n+1)+1 by omega]
    simp
   ·rw [if_neg h1,if_neg (by omega)]
def ZN (P:Program) (f:FuncId) (res:AV) (lbs:List (Nat × Blk)) (C:Cx) (_:Frame) (cs:List Frame) (m:Machine):Prop :=
 C.dx=[]→∃ e w' fr,Post C res lbs e w'∧Comes P m (lone fr cs w') e∧fr.fn=f∧fr.leaving P w' e
def Goal.of (P:Program) (T:List (Nat × TI)) (nt:Nat) (f:FuncId) (fn:Func) (res:AV) (lbs:List (Nat × Blk)):Goal :=
 ⟨P,T,nt,f,fn,res,lbs,0,[],#[],ZN P f res lbs,fun _ _ _ _ _ hs hz hd=>let ⟨e,w',fr,q1,q2,q3⟩:=hz hd; ⟨e,w',fr,q1,.of_steps hs q2,q3⟩⟩
theorem Goal.of_nrm {P:Program} {T:List (Nat × TI)} {nt:Nat} {f:FuncId} {fn:Func} {res:AV} {lbs:List (Nat × Blk)}:(Goal.of P T nt f fn res lbs).Nrm:=⟨rfl,fun _ _ _ _ h=>h⟩
theorem FnA.intro {P:Program} {T:List (Nat × TI)} {f:FuncId} {fn:Func} {body:Code} {args:List AV} {lbs:List (Nat × Blk)} {res:AV} {lbs':List (Nat × Blk)} (hf:P.funcs[f]? = some fn) (hb:fn.body=some body) (hc:callable P f=true) (hn:args.length≤fn.ntmps)
  (h:G (.of P T fn.ntmps f fn res lbs') [.code body] ⟨argSlots 0 args,lbs⟩):FnA P f args lbs res lbs':=by
 refine ⟨hc,fun w S μ vs hS hgl hargs hm hi cs=>?_⟩
 let C:Cx:=⟨P,w,S,Handed lbs μ,fn.ntmps,hgl,fun b hb ⟨κ,bk,c,q1,q2⟩=>by
  have:=hm κ bk q1
  rw [q2] at this
  exact this.at.not hb,hS,[],[],fun d h=>(by cases h),fun d h=>(by cases h),List.nodup_nil⟩
 let b:Frame:={ (default:Frame) with fn:=f,kind:=.normal,roundOf:=none }
 have hl:vs.size=args.length:=by have:=(hargs fun _=>false).1; simpa using this
 have henter:Frame.enter P f vs .normal=b.atR { tmps:=vs++Array.replicate (fn.ntmps - vs.size) undef,defers:=[] } [.code body]:=by
  simp [Frame.enter,Frame.atR,hf,hb,b]
 have hsim:SimB C ⟨argSlots 0 args,lbs⟩ { tmps:=vs++Array.replicate (fn.ntmps - vs.size) undef,defers:=[] } w:=by
  refine ⟨S,μ,fun ν=>⟨by simp [C]; omega,rfl,fun t=>?_,hm,hi,fun κ bk q c h1 h2=>.inr ⟨κ,bk,c,h1,h2⟩,fun _ hb=>hb,fun _ hb=>.inl hb,hS,Kept.refl _ _⟩⟩
  simp only [St.toM,St.get,argSlots_look,Nat.zero_le,if_true,Nat.sub_zero]
  by_cases ht:t < args.length
  ·rw [List.getElem?_eq_getElem ht]
   have h2:=(hargs ν).2 t ht
   rw [show args.getD t default=args[t] from by simp [List.getD,ht]] at h2
   have e:(vs++Array.replicate (fn.ntmps - vs.size) undef).getD t undef=vs.toList.getD t undef:=by
    rw [← getD_toList]
    simp only [Array.getD_eq_getD_getElem?]
    rw [Array.getElem?_append_left (by omega)]
   rw [e]
   exact h2
  ·rw [List.getElem?_eq_none (by omega)]
   exact .any _
 obtain ⟨e,w',fr,⟨v,S',μ',e1,B⟩,q2,q3,q4⟩:=h C rfl rfl _ _ (fun u hu=>by cases hu) hsim b cs rfl rfl ⟨fun _ h=>(by cases h),fun _=>rfl⟩ rfl
 exact ⟨e,w',fr,⟨v,S',μ',e1,B.monoT (fun q hq=>hq.elim id (fun h=>by cases h))⟩,by rw [henter]; exact q2,q3,q4⟩
def ZB (P:Program) (f:FuncId) (res:AV) (lbs:List (Nat × Blk)) (anc:List (Nat × Nat)) (tm:Array Value) (C:Cx) (_:Frame) (cs:List Frame) (m:Machine):Prop :=
 C.dx=[]→∃ e w' fr,PostB C res lbs anc tm e w'∧Comes P m (lone fr cs w') e∧fr.fn=f∧fr.leaving P w' e
def Goal.ofB (P:Program) (T:List (Nat × TI)) (nt:Nat) (f:FuncId) (fn:Func) (res:AV) (lbs:List (Nat × Blk)) (anc:List (Nat × Nat)) (tm:Array Value):Goal :=
 ⟨P,T,nt,f,fn,res,lbs,3,anc.map (·.1),tm,ZB P f res lbs anc tm,fun _ _ _ _ _ hs hz hd=>let ⟨e,w',fr,q1,q2,q3⟩:=hz hd; ⟨e,w',fr,q1,.of_steps hs q2,q3⟩⟩
theorem Goal.ofB_nrm {P:Program} {T:List (Nat × TI)} {nt:Nat} {f:FuncId} {fn:Func} {res:AV} {lbs:List (Nat × Blk)} {anc:List (Nat × Nat)} {tm:Array Value}:(Goal.ofB P T nt f fn res lbs anc tm).NrmB anc:=⟨rfl,fun p hp=>List.mem_map.2 ⟨p,hp,rfl⟩,fun _ _ _ _ h=>h⟩
theorem FnB.intro {P:Program} {T:List (Nat × TI)} {f:FuncId} {fn:Func} {body:Code} {args:List AV} {lbs:List (Nat × Blk)} {res:AV} {lbs':List (Nat × Blk)} {anc:List (Nat × Nat)} (hf:P.funcs[f]? = some fn) (hb:fn.body=some body) (hc:callable P f=true) (hn:args.length≤fn.ntmps) (hanc:∀ p,p∈anc→p.1 < args.length)
  (h:∀ tm,G (.ofB P T fn.ntmps f fn res lbs' anc tm) [.code body] ⟨argSlots 0 args,lbs⟩):FnB P f args lbs res lbs' anc:=by
 refine ⟨hc,fun w S μ vs hS hgl hargs hm hi cs=>?_⟩
 let C:Cx:=⟨P,w,S,Handed lbs μ,fn.ntmps,hgl,fun b hb ⟨κ,bk,c,q1,q2⟩=>by
  have:=hm κ bk q1
  rw [q2] at this
  exact this.at.not hb,hS,[],[],fun d h=>(by cases h),fun d h=>(by cases h),List.nodup_nil⟩
 let b:Frame:={ (default:Frame) with fn:=f,kind:=.normal,roundOf:=none }
 have hl:vs.size=args.length:=by have:=(hargs fun _=>false).1; simpa using this
 have henter:Frame.enter P f vs .normal=b.atR { tmps:=vs++Array.replicate (fn.ntmps - vs.size) undef,defers:=[] } [.code body]:=by
  simp [Frame.enter,Frame.atR,hf,hb,b]
 have hget:∀ t,t < args.length→(vs++Array.replicate (fn.ntmps - vs.size) undef).getD t undef=vs.toList.getD t undef:=fun t ht=>by
  rw [← getD_toList]
  simp only [Array.getD_eq_getD_getElem?]
  rw [Array.getElem?_append_left (by omega)]
 have hsim:SimB C ⟨argSlots 0 args,lbs⟩ { tmps:=vs++Array.replicate (fn.ntmps - vs.size) undef,defers:=[] } w:=by
  refine ⟨S,μ,fun ν=>⟨by simp [C]; omega,rfl,fun t=>?_,hm,hi,fun κ bk q c h1 h2=>.inr ⟨κ,bk,c,h1,h2⟩,fun _ hb=>hb,fun _ hb=>.inl hb,hS,Kept.refl _ _⟩⟩
  simp only [St.toM,St.get,argSlots_look,Nat.zero_le,if_true,Nat.sub_zero]
  by_cases ht:t < args.length
  ·rw [List.getElem?_eq_getElem ht]
   have h2:=(hargs ν).2 t ht
   rw [show args.getD t default=args[t] from by simp [List.getD,ht]] at h2
   rw [hget t ht]
   exact h2
  ·rw [List.getElem?_eq_none (by omega)]
   exact .any _
 obtain ⟨e,w',fr,⟨v,S',μ',e1,B,ha⟩,q2,q3,q4⟩:=h (vs++Array.replicate (fn.ntmps - vs.size) undef) C rfl rfl _ _ (fun u hu=>rfl) hsim b cs rfl rfl ⟨fun _ h=>(by cases h),fun _=>rfl⟩ rfl
 exact ⟨e,w',fr,⟨v,S',μ',e1,B.monoT (fun q hq=>hq.elim id (fun h=>by cases h)),fun p hp ν=>by rw [← hget p.1 (hanc p hp)]; exact ha p hp ν⟩,by rw [henter]; exact q2,q3,q4⟩
abbrev Ren:=List (Nat × Option Nat)
def muOf (ρ:Ren) (μ:Mu):Mu:=fun k=>match look ρ k with | some (some o)=>μ o | some none=>some none | none=>none
def keyOK (ρ:Ren) (κ' κ:Nat):Bool:=match look ρ κ' with | some (some o)=>Nat.beq o κ | _=>false
def nilOK (ρ:Ren) (κ':Nat):Bool:=match look ρ κ' with | some none=>true | _=>false
theorem keyOK_mu {ρ:Ren} {κ' κ:Nat} (h:keyOK ρ κ' κ=true) (μ:Mu):muOf ρ μ κ'=μ κ:=by
 unfold keyOK at h
 unfold muOf
 split at h
 ·rename_i o hl
  rw [hl]
  simp only [Nat.eq_of_beq_eq_true h]
 ·cases h
theorem nilOK_mu {ρ:Ren} {κ':Nat} (h:nilOK ρ κ'=true) (μ:Mu):muOf ρ μ κ'=some none:=by
 unfold nilOK at h
 unfold muOf
 split at h
 ·rename_i hl; rw [hl]
 ·cases h
mutual
def avLe (ρ:Ren):AV→AV→Option Prop
 | _,.any=>some True
 | .d x,.d y=>some (DLe x y)
 | .own κ n,.own κ' n'=>bif keyOK ρ κ' κ then some (n=n') else none
 | .d (.v (.slice none 0 0)),.own κ' n'=>bif nilOK ρ κ' then some (n'=0) else none
 | .ptr κ o,.ptr κ' o'=>bif keyOK ρ κ' κ&&Nat.beq o o' then some True else none
 | .ref cs,.ref cs'=>some (cs=cs')
 | .fn f l,.fn f' l'=>bif Nat.beq f f' then avLeL ρ l l' else none
 | .tup l,.tup l'=>avLeL ρ l l'
 | .ag l,.ag l'=>avLeL ρ l l'
 | .mpv κ,.mpv κ'=>bif keyOK ρ κ' κ then some True else none
 | .pmp n f,.pmp n' f'=>some (n=n'∧f=f')
 | .nns n f,.nns n' f'=>some (n=n'∧f=f')
 | .nns n f,.d (.sl n' f')=>some (n=n'∧f=f')
 | .elt κ k i o,.elt κ' k' i' o'=>bif keyOK ρ κ' κ&&Nat.beq k k'&&Nat.beq o o' then some (i=i') else none
 | _,_=>none
def avLeL (ρ:Ren):List AV→List AV→Option Prop
 | [],[]=>some True
 | x :: r,y :: s=>(match avLe ρ x y,avLeL ρ r s with | some a,some b=>some (a∧b) | _,_=>none)
 | _,_=>none
end
def blLe (ρ:Ren):Blk→Blk→Option Prop
 | .box cs,.box cs'=>avLeL ρ cs cs'
 | .row e k n f,.row e' k' n' f'=>bif Nat.beq e e'&&Nat.beq k k' then some (n=n'∧∀ i,i < n→f i=f' i) else none
 | .mp n f,.mp n' f'=>some (n=n'∧f=f')
 | .mp n f,.ml n' f'=>some (n=n'∧f=f')
 | .ml n f,.ml n' f'=>some (n=n'∧f=f')
 | .it mk n s,.it mk' n' s'=>bif keyOK ρ mk' mk then some (n=n'∧s=s') else none
 | .mx q,.mx q'=>some (q=q')
 | .tx q,.tx q'=>some (q=q')
 | .rx e k n q,.rx e' k' n' q'=>bif Nat.beq e e'&&Nat.beq k k' then some (n=n'∧q=q') else none
 | _,_=>none
def slLe (ρ:Ren) (sl:List (Nat × AV)):List (Nat × AV)→Option Prop
 | []=>some True
 | (t,x) :: r=>(match avLe ρ (St.get sl t) x,slLe ρ sl r with | some a,some b=>some (a∧b) | _,_=>none)
def lbLe (ρ:Ren) (lb:List (Nat × Blk)):List (Nat × Blk)→Option Prop
 | []=>some True
 | (κ,b) :: r=>(match look ρ κ,lbLe ρ lb r with
  | some (some o),some p=>(match look lb o with | some c=>(match blLe ρ c b with | some q=>some (q∧p) | none=>none) | none=>none)
  | some none,some p=>(match b with | .row _ _ n _=>some (n=0∧p) | _=>none)
  | _,_=>none)
def injB:Ren→Bool
 | []=>true
 | (_,some o) :: r=>r.all (fun p=>match p.2 with | some q=>!Nat.beq q o | none=>true)&&injB r
 | (_,none) :: r=>injB r
section
variable {w : World} {S : Nat → Prop} {μ : Mu} {ν : Nat → Bool} {ρ : Ren}
theorem cond_some {α:Type} {b:Bool} {x y:α} (h:(bif b then some x else none)=some y):b=true∧x=y:=by
 cases b with
 | true=>exact ⟨rfl,Option.some.inj h⟩
 | false=>cases h
mutual
theorem avLe_rel:∀ (x y:AV) (ob:Prop),avLe ρ x y=some ob→ob→∀ v,Rel w S μ ν x v→Rel w S (muOf ρ μ) ν y v
 | x,y,ob,h,hob,v,hr=>by
  unfold avLe at h
  split at h
  ·exact .any v
  ·simp only [Option.some.injEq] at h
   subst h
   exact .d (hob _ _ _ (rel_d.1 hr))
  ·obtain ⟨h1,rfl⟩:=cond_some h
   subst hob
   have hk:=keyOK_mu h1 μ
   cases hr with
   | ownNil hμ=>exact .ownNil (by rw [hk]; exact hμ)
   | own hμ=>exact .own (by rw [hk]; exact hμ)
  ·obtain ⟨h1,rfl⟩:=cond_some h
   have:=rel_scalar rfl hr
   rw [this,hob]
   exact .ownNil (nilOK_mu h1 μ)
  ·obtain ⟨h1,-⟩:=cond_some h
   simp only [Bool.and_eq_true] at h1
   have e:=Nat.eq_of_beq_eq_true h1.2
   subst e
   cases hr with
   | ptr hμ=>exact .ptr (by rw [keyOK_mu h1.1 μ]; exact hμ)
  ·simp only [Option.some.injEq] at h
   subst h
   subst hob
   cases hr with
   | ref vals hc h=>exact .ref vals hc h
  ·rename_i f l f' l'
   cases hb:Nat.beq f f' with
   | false=>rw [hb] at h; cases h
   | true =>
    rw [hb] at h
    have e:=Nat.eq_of_beq_eq_true hb
    subst e
    simp only [cond_true] at h
    cases hr with
    | fn hl hh =>
     obtain ⟨q1,q2⟩:=avLeL_rel l l' ob h hob
     exact .fn (by omega) (fun i hi=>q2 i hi _ (hh i (by omega)))
  ·rename_i l l'
   cases hr with
   | tup hl hh =>
    obtain ⟨q1,q2⟩:=avLeL_rel l l' ob h hob
    exact .tup (by omega) (fun i hi=>q2 i hi _ (hh i (by omega)))
  ·rename_i l l'
   cases hr with
   | ag hl hh =>
    obtain ⟨q1,q2⟩:=avLeL_rel l l' ob h hob
    exact .ag (by omega) (fun i hi=>q2 i hi _ (hh i (by omega)))
  ·obtain ⟨h1,-⟩:=cond_some h
   cases hr with
   | mpv hμ=>exact .mpv (by rw [keyOK_mu h1 μ]; exact hμ)
  ·simp only [Option.some.injEq] at h
   subst h
   obtain ⟨rfl,rfl⟩:=hob
   cases hr with
   | pmp hd=>exact .pmp hd
  ·simp only [Option.some.injEq] at h
   subst h
   obtain ⟨rfl,rfl⟩:=hob
   cases hr with
   | nns hd=>exact .nns hd
  ·simp only [Option.some.injEq] at h
   subst h
   obtain ⟨rfl,rfl⟩:=hob
   cases hr with
   | nns hd=>exact .d hd
  ·obtain ⟨h1,rfl⟩:=cond_some h
   subst hob
   simp only [Bool.and_eq_true] at h1
   have e1:=Nat.eq_of_beq_eq_true h1.1.2
   have e2:=Nat.eq_of_beq_eq_true h1.2
   subst e1; subst e2
   cases hr with
   | elt hμ=>exact .elt (by rw [keyOK_mu h1.1.1 μ]; exact hμ)
  ·cases h
theorem avLeL_rel:∀ (l l':List AV) (ob:Prop),avLeL ρ l l'=some ob→ob→l.length=l'.length∧∀ i,i < l'.length→∀ v,Rel w S μ ν (l.getD i default) v→Rel w S (muOf ρ μ) ν (l'.getD i default) v
 | [],[],_,_,_=>⟨rfl,fun i hi=>absurd hi (by simp)⟩
 | x :: r,y :: s,ob,h,hob=>by
  simp only [avLeL] at h
  cases h1:avLe ρ x y with
  | none=>rw [h1] at h; cases h
  | some a =>
   cases h2:avLeL ρ r s with
   | none=>rw [h1,h2] at h; cases h
   | some b =>
    rw [h1,h2] at h
    simp only [Option.some.injEq] at h
    subst h
    obtain ⟨q1,q2⟩:=avLeL_rel r s b h2 hob.2
    refine ⟨by simp [q1],fun i hi=>?_⟩
    cases i with
    | zero=>simpa using avLe_rel x y a h1 hob.1
    | succ i=>simpa using q2 i (by simpa using hi)
 | [],_ :: _,_,h,_=>by simp [avLeL] at h
 | _ :: _,[],_,h,_=>by simp [avLeL] at h
end
theorem blLe_at {b b':Blk} {ob:Prop} (h:blLe ρ b b'=some ob) (hob:ob) {g c:Nat} (hb:BlkAt w S μ b g c):BlkAt w S (muOf ρ μ) b' g c:=by
 cases b with
 | box cs =>
  cases b' with
  | row=>simp [blLe] at h
  | mp=>simp [blLe] at h
  | it=>simp [blLe] at h
  | mx=>simp [blLe] at h
  | tx=>simp [blLe] at h
  | rx=>simp [blLe] at h
  | ml=>simp [blLe] at h
  | box cs' =>
   simp only [blLe] at h
   obtain ⟨cur,e,h1,h2,h3,h4⟩:=hb
   have hlen:=(avLeL_rel (w:=w) (S:=S) (μ:=μ) (ν:=fun _=>false) cs cs' ob h hob).1
   refine ⟨cur,e,h1,h2,by omega,fun j hj=>?_⟩
   obtain ⟨x,hx,hr⟩:=h4 j (by omega)
   exact ⟨x,hx,fun ν=>(avLeL_rel (w:=w) (S:=S) (μ:=μ) (ν:=ν) cs cs' ob h hob).2 j hj x (hr ν)⟩
 | row e k n f =>
  cases b' with
  | box=>simp [blLe] at h
  | mp=>simp [blLe] at h
  | it=>simp [blLe] at h
  | mx=>simp [blLe] at h
  | tx=>simp [blLe] at h
  | rx=>simp [blLe] at h
  | ml=>simp [blLe] at h
  | row e' k' n' f' =>
   simp only [blLe] at h
   obtain ⟨h1,rfl⟩:=cond_some h
   simp only [Bool.and_eq_true] at h1
   have e1:=Nat.eq_of_beq_eq_true h1.1
   have e2:=Nat.eq_of_beq_eq_true h1.2
   subst e1; subst e2
   obtain ⟨rfl,hf⟩:=hob
   obtain ⟨cur,q1,q2,q3,q4,q5,q6⟩:=hb
   refine ⟨cur,q1,q2,q3,q4,q5,fun i hi=>?_⟩
   rw [← hf i hi]
   exact q6 i hi
 | mp n f =>
  cases b' with
  | box=>simp [blLe] at h
  | row=>simp [blLe] at h
  | it=>simp [blLe] at h
  | mx=>simp [blLe] at h
  | tx=>simp [blLe] at h
  | rx=>simp [blLe] at h
  | mp n' f' =>
   simp only [blLe,Option.some.injEq] at h
   subst h
   obtain ⟨rfl,rfl⟩:=hob
   exact hb
  | ml n' f' =>
   simp only [blLe,Option.some.injEq] at h
   subst h
   obtain ⟨rfl,rfl⟩:=hob
   obtain ⟨cur,q1,q2,q3,q4⟩:=hb
   refine ⟨cur,n,q1,q2,q3,fun i hi=>?_⟩
   obtain ⟨e,p1,p2,p3,_,p5⟩:=q4 i hi
   exact ⟨e,p1,p2,p3,p5⟩
 | ml n f =>
  cases b' with
  | ml n' f' =>
   simp only [blLe,Option.some.injEq] at h
   subst h
   obtain ⟨rfl,rfl⟩:=hob
   exact hb
  | _=>simp [blLe] at h
 | it mk n s =>
  cases b' with
  | box=>simp [blLe] at h
  | row=>simp [blLe] at h
  | mp=>simp [blLe] at h
  | mx=>simp [blLe] at h
  | tx=>simp [blLe] at h
  | rx=>simp [blLe] at h
  | ml=>simp [blLe] at h
  | it mk' n' s' =>
   simp only [blLe] at h
   obtain ⟨h1,rfl⟩:=cond_some h
   obtain ⟨rfl,rfl⟩:=hob
   obtain ⟨mg,cc,q0,q1⟩:=hb
   exact ⟨mg,cc,by rw [keyOK_mu h1 μ]; exact q0,q1⟩
 | mx =>
  cases b' with
  | mx q' =>
   simp only [blLe,Option.some.injEq] at h
   subst h
   obtain rfl:=hob
   exact hb
  | _=>simp [blLe] at h
 | tx =>
  cases b' with
  | tx q' =>
   simp only [blLe,Option.some.injEq] at h
   subst h
   obtain rfl:=hob
   exact hb
  | _=>simp [blLe] at h
 | rx e k n q =>
  cases b' with
  | rx e' k' n' q' =>
   simp only [blLe] at h
   obtain ⟨h1,rfl⟩:=cond_some h
   simp only [Bool.and_eq_true] at h1
   have e1:=Nat.eq_of_beq_eq_true h1.1
   have e2:=Nat.eq_of_beq_eq_true h1.2
   subst e1; subst e2
   obtain ⟨rfl,rfl⟩:=hob
   exact hb
  | _=>simp [blLe] at h
theorem blLe_ok {b b':Blk} {ob:Prop} (h:blLe ρ b b'=some ob) (hob:ob) {y:Option (Option (Nat × Nat))} (hb:BlkOK w S μ b y):BlkOK w S (muOf ρ μ) b' y:=by
 cases y with
 | none=>cases b <;> exact hb.elim
 | some y =>
  cases y with
  | none =>
   cases b with
   | box=>exact hb.elim
   | mp=>exact hb.elim
   | it=>exact hb.elim
   | mx=>exact hb.elim
   | tx=>exact hb.elim
   | ml=>exact hb.elim
   | rx e k n q =>
    cases b' with
    | rx e' k' n' q' =>
     simp only [blLe] at h
     obtain ⟨_,rfl⟩:=cond_some h
     obtain ⟨rfl,rfl⟩:=hob
     exact hb
    | _=>simp [blLe] at h
   | row e k n f =>
    cases b' with
    | box=>simp [blLe] at h
    | mp=>simp [blLe] at h
    | it=>simp [blLe] at h
    | mx=>simp [blLe] at h
    | tx=>simp [blLe] at h
    | rx=>simp [blLe] at h
    | ml=>simp [blLe] at h
    | row e' k' n' f' =>
     simp only [blLe] at h
     obtain ⟨_,rfl⟩:=cond_some h
     have:n=0:=hb
     show n'=0
     rw [← hob.1,this]
  | some gc=>obtain ⟨g,c⟩:=gc; exact (blLe_at h hob hb.at).ok
theorem lbLe_spec {lb:List (Nat × Blk)}:∀ {lb':List (Nat × Blk)} {ob:Prop},lbLe ρ lb lb'=some ob→ob→∀ κ b,look lb' κ=some b →
  (∃ o c q,look ρ κ=some (some o)∧look lb o=some c∧blLe ρ c b=some q∧q)∨(look ρ κ=some none∧∃ e k f,b=.row e k 0 f)
 | [],_,_,_,κ,b,hl=>by simp [look] at hl
 | (κ0,b0) :: r,ob,h,hob,κ,b,hl=>by
  simp only [lbLe] at h
  split at h
  ·rename_i o p hρ hr
   split at h
   ·rename_i c hc
    split at h
    ·rename_i q hq
     simp only [Option.some.injEq] at h
     subst h
     rw [look_cons] at hl
     split at hl
     ·rename_i e
      subst e
      simp only [Option.some.injEq] at hl
      subst hl
      exact .inl ⟨o,c,q,hρ,hc,hq,hob.1⟩
     ·exact lbLe_spec hr hob.2 κ b hl
    ·cases h
   ·cases h
  ·rename_i p hρ hr
   split at h
   ·rename_i e k n f
    simp only [Option.some.injEq] at h
    subst h
    rw [look_cons] at hl
    split at hl
    ·rename_i e'
     subst e'
     simp only [Option.some.injEq] at hl
     subst hl
     rw [hob.1]
     exact .inr ⟨hρ,e,k,f,rfl⟩
    ·exact lbLe_spec hr hob.2 κ b hl
   ·cases h
  ·cases h
theorem injB_spec:∀ {ρ:Ren},injB ρ=true→∀ κ κ' o,look ρ κ=some (some o)→look ρ κ'=some (some o)→κ=κ'
 | [],_,κ,κ',o,h,_=>by simp [look] at h
 | (k0,some o0) :: r,hi,κ,κ',o,h,h'=>by
  simp only [injB,Bool.and_eq_true,List.all_eq_true] at hi
  rw [look_cons] at h h'
  have no:∀ κ1,look r κ1=some (some o0)→False:=fun κ1 hk=>by
   have:=hi.1 (κ1,some o0) (look_mem hk)
   simp [Nat.beq_refl] at this
  split at h
  ·rename_i e1
   simp only [Option.some.injEq] at h
   split at h'
   ·rename_i e2; rw [← e1,← e2]
   ·rw [← h] at h'; exact (no κ' h').elim
  ·split at h'
   ·rename_i e2
    simp only [Option.some.injEq] at h'
    rw [← h'] at h
    exact (no κ h).elim
   ·exact injB_spec hi.2 κ κ' o h h'
 | (k0,none) :: r,hi,κ,κ',o,h,h'=>by
  simp only [injB] at hi
  rw [look_cons] at h h'
  split at h
  ·cases h
  ·split at h'
   ·cases h'
   ·exact injB_spec hi κ κ' o h h'
theorem slLe_spec {sl:List (Nat × AV)}:∀ {sl':List (Nat × AV)} {ob:Prop},slLe ρ sl sl'=some ob→ob→∀ t x,look sl' t=some x→∃ q,avLe ρ (St.get sl t) x=some q∧q
 | [],_,_,_,t,x,hl=>by simp [look] at hl
 | (t0,x0) :: r,ob,h,hob,t,x,hl=>by
  simp only [slLe] at h
  split at h
  ·rename_i a b h1 h2
   simp only [Option.some.injEq] at h
   subst h
   rw [look_cons] at hl
   split at hl
   ·rename_i e
    subst e
    simp only [Option.some.injEq] at hl
    subst hl
    exact ⟨a,h1,hob.1⟩
   ·exact slLe_spec h2 hob.2 t x hl
  ·cases h
end
theorem muOf_some {ρ:Ren} {μ:Mu} {κ g c:Nat} (h:muOf ρ μ κ=some (some (g,c))):∃ o,look ρ κ=some (some o)∧μ o=some (some (g,c)):=by
 unfold muOf at h
 split at h
 ·rename_i o hl; exact ⟨o,hl,h⟩
 ·cases h
 ·cases h
theorem Sim.le {C:Cx} {st st':St} {a:Act} {w:World} {S:Nat→Prop} {μ:Mu} {ν:Nat→Bool} (hs:Sim C st.toM a w S μ ν) {ρ:Ren} {ob1 ob2:Prop} (hi:injB ρ=true) (h1:slLe ρ st.sl st'.sl=some ob1) (hob1:ob1) (h2:lbLe ρ st.lb st'.lb=some ob2) (hob2:ob2):Sim C st'.toM a w S (muOf ρ μ) ν:=by
 have old:∀ κ b,look st'.lb κ=some b→∀ g c,muOf ρ μ κ=some (some (g,c))→∃ o d,look ρ κ=some (some o)∧look st.lb o=some d∧μ o=some (some (g,c)):=by
  intro κ b hb g c hm
  obtain ⟨o,ho,hμ⟩:=muOf_some hm
  rcases lbLe_spec h2 hob2 κ b hb with ⟨o',d,q,q1,q2,_⟩ | ⟨q1,_⟩
  ·rw [ho] at q1
   simp only [Option.some.injEq] at q1
   subst q1
   exact ⟨o,d,ho,q2,hμ⟩
  ·rw [ho] at q1; cases q1
 refine ⟨hs.tmps,hs.defers,fun t=>?_,fun κ b hb=>?_,fun κ κ' b b' g c c' hb hb' hm hm'=>?_,fun κ b g c hb hm=>?_,hs.stable,hs.fresh,hs.bound,hs.kept⟩
 ·simp only [St.toM,St.get]
  cases hl:look st'.sl t with
  | none=>exact .any _
  | some x =>
   obtain ⟨q,q1,q2⟩:=slLe_spec h1 hob1 t x hl
   exact avLe_rel _ x q q1 q2 _ (hs.slots t)
 ·rcases lbLe_spec h2 hob2 κ b hb with ⟨o,d,q,q1,q2,q3,q4⟩ | ⟨q1,e,k,f,rfl⟩
  ·have hm:muOf ρ μ κ=μ o:=by simp [muOf,q1]
   rw [hm]
   exact blLe_ok q3 q4 (hs.mem o d q2)
  ·have hm:muOf ρ μ κ=some none:=by simp [muOf,q1]
   rw [hm]
   rfl
 ·obtain ⟨o,d,x1,x2,x3⟩:=old κ b hb g c hm
  obtain ⟨o',d',y1,y2,y3⟩:=old κ' b' hb' g c' hm'
  have:=hs.inj o o' d d' g c c' x2 y2 x3 y3
  subst this
  exact injB_spec hi κ κ' o x1 y1
 ·obtain ⟨o,d,x1,x2,x3⟩:=old κ b hb g c hm
  exact hs.own o d g c x2 x3
theorem LeS.of {st st':St} (ρ:Ren) {ob1 ob2:Prop} (hi:injB ρ=true) (h1:slLe ρ st.sl st'.sl=some ob1) (hob1:ob1) (h2:lbLe ρ st.lb st'.lb=some ob2) (hob2:ob2):LeS st st':=by
 rintro C a w ⟨S,μ,hsim⟩
 exact ⟨S,muOf ρ μ,fun ν=>(hsim ν).le hi h1 hob1 h2 hob2⟩
theorem slLe_mem {ρ:Ren} {sl:List (Nat × AV)}:∀ {sl':List (Nat × AV)} {ob:Prop},slLe ρ sl sl'=some ob→ob→∀ p,p∈sl'→∃ q,avLe ρ (St.get sl p.1) p.2=some q∧q
 | [],_,_,_,p,hp=>by cases hp
 | (t0,x0) :: r,ob,h,hob,p,hp=>by
  simp only [slLe] at h
  split at h
  ·rename_i a b h1 h2
   simp only [Option.some.injEq] at h
   subst h
   rcases List.mem_cons.1 hp with rfl | hp
   ·exact ⟨a,h1,hob.1⟩
   ·exact slLe_mem h2 hob.2 p hp
  ·cases h
section
variable {g : Goal} {k : List Item} {st : St}
theorem post_own {C:Cx} {a:Act} {w:World} (hs:SimB C st a w) (hT:TOk C.P g.T) (ρ:Ren) {l:List AV} {ro:List (Nat × Blk)} {ob:Ob} {ob1 ob2:Prop} (h:evRes g.T st g.fn.results.toList=some (l,ro,ob)) (hob:ob.den) (hi:injB ρ=true) (h1:avLe ρ (packR l) g.res=some ob1) (hob1:ob1) (h2:lbLe ρ st.lb g.lbs=some ob2) (hob2:ob2) :
  ∃ v,(results g.fn a.tmps).run C.P w=.ok v w∧Post C g.res g.lbs (.returned v) w:=by
 obtain ⟨S,μ,hsim⟩:=hs
 have h0:=hsim fun _=>false
 obtain ⟨vs,q1,_⟩:=evRes_run hT h0 h hob
 refine ⟨_,results_run q1,_,S,muOf ρ μ,rfl,?_⟩
 have hle:=h0.le (st':=⟨[],g.lbs⟩) hi (by rfl) trivial h2 hob2
 refine ⟨fun ν=>?_,hle.mem,hle.inj,fun κ b g c h1 h2=>(hle.own κ b g c h1 h2).imp id .inl,h0.stable,fun b hb=>(h0.fresh b hb).imp id (Or.imp id .inl),h0.bound,h0.kept.mono' fun _ h=>.inl h⟩
 obtain ⟨vs',p1,p2⟩:=evRes_run hT (hsim ν) h hob
 have:vs'=vs:=by rw [q1] at p1; cases p1; rfl
 subst this
 exact avLe_rel _ _ ob1 h1 hob1 _ (packR_rel p2)
theorem G.retO (hg:g.Nrm) (hT:TOk g.P g.T) (hf:g.P.funcs[g.f]? = some g.fn) (ρ:Ren) {l:List AV} {ro:List (Nat × Blk)} {ob:Ob} {ob1 ob2:Prop} (h:evRes g.T st g.fn.results.toList=some (l,ro,ob)) (hob:ob.den) (hi:injB ρ=true) (h1:avLe ρ (packR l) g.res=some ob1) (hob1:ob1) (h2:lbLe ρ st.lb g.lbs=some ob2) (hob2:ob2):G g [] st∧∀ k,G g (.code .ret :: k) st :=
 G.out hg hf (fun C a w c1 hs=>post_own (g:=g) hs (by rw [c1]; exact hT) ρ h hob hi h1 hob1 h2 hob2)
theorem post_ownB {anc:List (Nat × Nat)} (hn:g.NrmB anc) {C:Cx} {a:Act} {w:World} (hk:g.kept a.tmps) (hs:SimB C st a w) (hT:TOk C.P g.T) (ρ:Ren) {l:List AV} {ro:List (Nat × Blk)} {ob:Ob} {ob1 ob2 ob3:Prop} (h:evRes g.T st g.fn.results.toList=some (l,ro,ob)) (hob:ob.den) (hi:injB ρ=true) (h1:avLe ρ (packR l) g.res=some ob1) (hob1:ob1) (h2:lbLe ρ st.lb g.lbs=some ob2) (hob2:ob2) (h3:slLe ρ st.sl (anc.map fun p=>(p.1,.ptr p.2 0))=some ob3) (hob3:ob3) :
  ∃ v,(results g.fn a.tmps).run C.P w=.ok v w∧PostB C g.res g.lbs anc g.tm (.returned v) w:=by
 obtain ⟨S,μ,hsim⟩:=hs
 have h0:=hsim fun _=>false
 obtain ⟨vs,q1,_⟩:=evRes_run hT h0 h hob
 refine ⟨_,results_run q1,_,S,muOf ρ μ,rfl,?_,fun p hp ν=>?_⟩
 ·have hle:=h0.le (st':=⟨[],g.lbs⟩) hi (by rfl) trivial h2 hob2
  refine ⟨fun ν=>?_,hle.mem,hle.inj,fun κ b g c h1 h2=>(hle.own κ b g c h1 h2).imp id .inl,h0.stable,fun b hb=>(h0.fresh b hb).imp id (Or.imp id .inl),h0.bound,h0.kept.mono' fun _ h=>.inl h⟩
  obtain ⟨vs',p1,p2⟩:=evRes_run hT (hsim ν) h hob
  have:vs'=vs:=by rw [q1] at p1; cases p1; rfl
  subst this
  exact avLe_rel _ _ ob1 h1 hob1 _ (packR_rel p2)
 ·obtain ⟨q,e1,e2⟩:=slLe_mem h3 hob3 (p.1,.ptr p.2 0) (List.mem_map.2 ⟨p,hp,rfl⟩)
  rw [← hk p.1 (hn.pr p hp)]
  exact avLe_rel _ _ q e1 e2 _ ((hsim ν).slots p.1)
theorem G.retB {anc:List (Nat × Nat)} (hg:g.NrmB anc) (hT:TOk g.P g.T) (hf:g.P.funcs[g.f]? = some g.fn) (ρ:Ren) {l:List AV} {ro:List (Nat × Blk)} {ob:Ob} {ob1 ob2 ob3:Prop} (h:evRes g.T st g.fn.results.toList=some (l,ro,ob)) (hob:ob.den) (hi:injB ρ=true) (h1:avLe ρ (packR l) g.res=some ob1) (hob1:ob1) (h2:lbLe ρ st.lb g.lbs=some ob2) (hob2:ob2) (h3:slLe ρ st.sl (anc.map fun p=>(p.1,.ptr p.2 0))=some ob3) (hob3:ob3):G g [] st∧∀ k,G g (.code .ret :: k) st :=
 G.outB hg hf (fun C a w c1 hk hs=>post_ownB (g:=g) hg hk hs (by rw [c1]; exact hT) ρ h hob hi h1 hob1 h2 hob2 h3 hob3)
end
def ItA (P:Program) (gf:FuncId) (caps:List AV) (ys:List (List AV)):Prop :=
 callable P gf=true∧∀ (w0:World) (S:Nat→Prop) (μ:Mu) (cvs:Array Value) (l:Nat) (J:Nat→(Nat→Prop)→World→Prop) (Jx:(Nat→Prop)→World→Prop) (F0:Nat→Prop),
  (∀ b,S b→b < w0.heap.size)→GlobOK w0 S→(∀ ν,RelL w0 S μ ν caps cvs.toList)→(∀ b,S b→¬ F0 b)→(∀ b,F0 b→b < w0.heap.size) →
  (∀ i F W W',J i F W→Kept W W' (fun b=>w0.heap.size≤b∧¬ F b∧¬ S b)→J i F W')→(∀ F W W',Jx F W→Kept W W' (fun b=>w0.heap.size≤b∧¬ F b∧¬ S b)→Jx F W') →
  (∀ i F W (vs:Array Value),i < ys.length→J i F W→(∀ ν,RelL W (fun _=>False) (fun _=>none) ν (ys.getD i []) vs.toList)→YieldAt Fence.wide 0 P l vs W fun e W'=>∃ F',(∀ b,F' b→F b∨W.heap.size≤b)∧(∀ b,F' b→b < W'.heap.size)∧Kept W W' F∧((e=.returned (.bool true)∧J (i+1) F' W')∨(e=.returned (.bool false)∧Jx F' W'))) →
  J 0 F0 w0→Calls P gf (#[.func (.yield l) #[] #[]]++cvs) w0 fun e w'=>(∃ v,e=.returned v)∧((∃ F,J ys.length F w')∨∃ F,Jx F w')
structure Core (A:M) (tm:Array Value) (w:World) (S:Nat→Prop) (μ:Mu) (ν:Nat→Bool):Prop where
 slots:∀ t,Rel w S μ ν (A.sl t) (tm.getD t undef)
 mem:∀ κ b,A.lb κ=some b→BlkOK w S μ b (μ κ)
 inj:∀ κ κ' b b' g c c',A.lb κ=some b→A.lb κ'=some b'→μ κ=some (some (g,c))→μ κ'=some (some (g,c'))→κ=κ'
 bound:∀ b,S b→b < w.heap.size
def OwnB (A:M) (μ:Mu) (q:Nat):Prop:=∃ κ b c,A.lb κ=some b∧μ κ=some (some (q,c))
theorem Sim.core {C:Cx} {A:M} {a:Act} {w:World} {S:Nat→Prop} {μ:Mu} {ν:Nat→Bool} (h:Sim C A a w S μ ν):Core A a.tmps w S μ ν:=⟨h.slots,h.mem,h.inj,h.bound⟩
theorem Sim.ownB {C:Cx} {A:M} {a:Act} {w:World} {S:Nat→Prop} {μ:Mu} {ν:Nat→Bool} (h:Sim C A a w S μ ν) {q:Nat} (hq:OwnB A μ q):C.w0.heap.size≤q∨C.T0 q:=by
 obtain ⟨κ,b,c,h1,h2⟩:=hq
 exact h.own κ b q c h1 h2
theorem Core.ownAt {A:M} {tm:Array Value} {w:World} {S:Nat→Prop} {μ:Mu} {ν:Nat→Bool} (h:Core A tm w S μ ν) {q:Nat} (hq:OwnB A μ q):∃ b c,BlkAt w S μ b q c:=by
 obtain ⟨κ,b,c,h1,h2⟩:=hq
 have:=h.mem κ b h1
 rw [h2] at this
 exact ⟨b,c,this.at⟩
theorem BlkAt.notLoop {w:World} {S:Nat→Prop} {μ:Mu} {b:Blk} {g cap:Nat} {o:Loop} (h:BlkAt w S μ b g cap):w.heap[g]?≠some (.loop o):=by
 cases b with
 | box cs=>obtain ⟨cur,e,hg,_⟩:=h; rw [hg]; simp
 | row e k n f=>obtain ⟨cur,hg,_⟩:=h; rw [hg]; simp
 | mp n f=>obtain ⟨cur,hg,_⟩:=h; rw [hg]; simp
 | it mk n seen=>obtain ⟨mg,c,_,hg,_⟩:=h; rw [hg]; simp
 | mx=>obtain ⟨m,_,cur,hg,_⟩:=h; rw [hg]; simp
 | tx=>obtain ⟨n,f,_,cur,hg,_⟩:=h; rw [hg]; simp
 | rx=>obtain ⟨f,_,cur,hg,_⟩:=h; rw [hg]; simp
 | ml=>obtain ⟨cur,c,hg,_⟩:=h; rw [hg]; simp
theorem Core.keep {A:M} {tm tm':Array Value} {w w':World} {S:Nat→Prop} {μ:Mu} {ν:Nat→Bool} (h:Core A tm w S μ ν) (ht:∀ t,A.sl t=.any∨tm'.getD t undef=tm.getD t undef) (hS:∀ b,S b→w'.heap[b]? = w.heap[b]?) (hO:∀ q,OwnB A μ q→w'.heap[q]? = w.heap[q]?) (hsz:w.heap.size≤w'.heap.size):Core A tm' w' S μ ν:=by
 refine ⟨fun t=>?_,fun κ b hb=>?_,h.inj,fun b hb=>Nat.lt_of_lt_of_le (h.bound b hb) hsz⟩
 ·rcases ht t with e | e
  ·rw [e]; exact .any _
  ·rw [e]; exact (h.slots t).mono (fun _ x=>x) hS (fun _ _ e=>e)
 ·have hm:=h.mem κ b hb
  refine hm.mono (fun _ x=>x) hS (fun _ _ e=>e) (fun g c e=>?_)
  rw [e] at hm
  exact ⟨hO g ⟨κ,b,c,hb,e⟩,hm.at.not⟩
def Cx.at (P:Program) (nt:Nat) (w:World) (S:Nat→Prop) (A:M) (μ:Mu) (hg:GlobOK w S) (hm:∀ κ b,A.lb κ=some b→BlkOK w S μ b (μ κ)) (hb:∀ b,S b→b < w.heap.size) (dl dx:List Deferred) (dxc:∀ d,d∈dx→∀ q,d≠{ target:=.collected q,args:=#[] }) (dok:∀ d,d∈dl→d∈dx∨∃ q,d = { target:=.collected q,args:=#[] }∧w.heap[q]? = some (.deferred (some []))∧¬ S q) (dnd:dl.Nodup):Cx :=
 ⟨P,w,S,OwnB A μ,nt,hg,fun b hs ⟨κ,bk,c,h1,h2⟩=>by
  have:=hm κ bk h1
  rw [h2] at this
  exact this.at.not hs,hb,dl,dx,dxc,fun d hd=>by
  rcases dok d hd with hx | ⟨q,e,h1,h2⟩
  ·exact .inl hx
  refine .inr ⟨q,e,h1,fun ⟨κ,bk,c,q1,q2⟩=>?_,h2⟩
  have:=hm κ bk q1
  rw [q2] at this
  exact this.at.notDeferred h1,dnd⟩
theorem Core.sim {P:Program} {nt:Nat} {A:M} {a:Act} {w:World} {S:Nat→Prop} {μ:Mu} {ν:Nat→Bool} (h:Core A a.tmps w S μ ν) (hn:a.tmps.size=nt) (hg:GlobOK w S) (hm hb dl dx dxc dok dnd) (hd:a.defers=dl):Sim (Cx.at P nt w S A μ hg hm hb dl dx dxc dok dnd) A a w S μ ν :=
 ⟨hn,hd,h.slots,h.mem,h.inj,fun κ b g c h1 h2=>.inr ⟨κ,b,c,h1,h2⟩,fun _ x=>x,fun _ x=>.inl x,h.bound,Kept.refl _ _⟩
def runY {σ β Y:Type} (f:σ→Y→β ⊕ σ):List Y→σ→β ⊕ σ
 | [],s=>.inr s
 | y :: r,s=>match f s y with
  | .inl b=>.inl b
  | .inr s'=>runY f r s'
theorem runY_take {σ β Y:Type} {f:σ→Y→β ⊕ σ}:∀ {l:List Y} {i:Nat} {s s1:σ} (h:i < l.length),runY f (l.take i) s=.inr s1→runY f (l.take (i+1)) s=f s1 l[i]∧(∀ b,f s1 l[i]=.inl b→runY f l s=.inl b)
 | [],i,s,s1,h,_=>absurd h (by simp)
 | y :: r,0,s,s1,_,e=>by
  simp only [List.take_zero,runY,Sum.inr.injEq] at e
  subst e
  refine ⟨?_,fun b hb=>?_⟩
  ·simp only [List.take_succ_cons,List.take_zero,runY,List.getElem_cons_zero]
   cases f s y <;> rfl
  ·simp only [List.getElem_cons_zero] at hb
   simp only [runY,hb]
 | y :: r,i+1,s,s1,h,e=>by
  simp only [List.take_succ_cons,runY] at e ⊢
  cases hf:f s y with
  | inl b=>rw [hf] at e; cases e
  | inr s' =>
   rw [hf] at e
   simp only at e ⊢
   have:=runY_take (l:=r) (by simpa using h) e
   simpa using this
theorem runY_postI {σ β Y:Type} {f:σ→Y→β ⊕ σ} {I:Nat→σ→Prop} {B:β→Prop}:∀ (l:List Y) (k:Nat),(∀ i s y,I (k+i) s→l[i]? = some y→match f s y with | .inl b=>B b | .inr s'=>I (k+i+1) s')→∀ s,I k s→match runY f l s with | .inl b=>B b | .inr s'=>I (k+l.length) s'
 | [],k,_,s,h=>h
 | y :: r,k,hf,s,h=>by
  have h1:=hf 0 s y h (by simp)
  simp only [runY]
  cases e:f s y with
  | inl b=>rw [e] at h1; exact h1
  | inr s' =>
   rw [e] at h1
   have:=runY_postI (I:=I) (B:=B) r (k+1) (fun i s y hs hy=>by
    have:=hf (i+1) s y (by rw [show k+(i+1)=k+1+i by omega]; exact hs) (by simpa using hy)
    rw [show k+(i+1)+1=k+1+i+1 by omega] at this
    exact this) s' h1
   rw [show k+(y :: r).length=k+1+r.length by simp; omega]
   exact this
structure Reb (C C':Cx):Prop where
 sub:∀ b,C.S0 b→C'.S0 b
 new:∀ b,C'.S0 b→C.S0 b∨C.w0.heap.size≤b∨C.T0 b
 kept:Kept C.w0 C'.w0 C.T0
 tk:∀ q,C'.TD q→C.TD q∨C.w0.heap.size≤q
 dx:C'.dx=C.dx
theorem Post.reb {C C':Cx} (h:Reb C C') {res:AV} {lbs:List (Nat × Blk)} {e:Ending} {w:World} (hp:Post C' res lbs e w):Post C res lbs e w:=by
 obtain ⟨v,S',μ',rfl,B⟩:=hp
 refine ⟨v,S',μ',rfl,B.res,B.mem,B.inj,fun κ b g c h1 h2=>?_,fun b hb=>B.sub b (h.sub b hb),fun b hb=>?_,B.bound,(h.kept.mono' fun _ x=>.inl x).trans B.kept fun b hb ht=>?_⟩
 ·rcases B.own κ b g c h1 h2 with q | q
  ·exact .inl (Nat.le_trans h.kept.size q)
  ·exact (h.tk g q).symm
 ·rcases B.new b hb with q | q | q
  ·exact (h.new b q).imp id (Or.imp id .inl)
  ·exact .inr (.inl (Nat.le_trans h.kept.size q))
  ·exact .inr ((h.tk b q).symm)
 ·exact (h.tk b ht).resolve_right (by omega)
theorem ZN.reb {P:Program} {f:FuncId} {res:AV} {lbs:List (Nat × Blk)} {C C':Cx} {b:Frame} {cs:List Frame} {m:Machine} (h:Reb C C') (hz:ZN P f res lbs C' b cs m):ZN P f res lbs C b cs m :=
 fun hd=>let ⟨e,w',fr,q1,q2⟩:=hz (h.dx.trans hd)
 ⟨e,w',fr,q1.reb h,q2⟩
def zipSl:List Nat→List AV→List (Nat × AV)
 | p :: ps,x :: xs=>(p,x) :: zipSl ps xs
 | _,_=>[]
def psOK (nt:Nat) (prl:List Nat):List Nat→Bool
 | []=>true
 | p :: ps=>Nat.ble (p+1) nt&&!prl.any (fun q=>Nat.beq q p)&&!ps.any (fun q=>Nat.beq q p)&&psOK nt prl ps
theorem any_beq {l:List Nat} {p:Nat} (h:(!l.any fun q=>Nat.beq q p)=true):p ∉ l:=fun hp=>by
 have:(l.any fun q=>Nat.beq q p)=true:=List.any_eq_true.2 ⟨p,hp,Nat.beq_refl p⟩
 rw [this] at h
 cases h
theorem setP_spec {w:World} {S:Nat→Prop} {μ:Mu} {ν:Nat→Bool} {nt:Nat} {prl:List Nat}:∀ (ps:List Nat) (xs:List AV) (vs:List Value) (t:Array Value),psOK nt prl ps=true→ps.length=xs.length→t.size=nt→RelL w S μ ν xs vs →
  ((ps.zip vs).foldl (fun t (p:Nat × Value)=>t.setIfInBounds p.1 p.2) t).size=nt∧(∀ u,u ∉ ps→((ps.zip vs).foldl (fun t (p:Nat × Value)=>t.setIfInBounds p.1 p.2) t).getD u undef=t.getD u undef) ∧
   ∀ u x,look (zipSl ps xs) u=some x→Rel w S μ ν x (((ps.zip vs).foldl (fun t (p:Nat × Value)=>t.setIfInBounds p.1 p.2) t).getD u undef)
 | [],xs,vs,t,_,_,ht,_=>⟨by simpa using ht,fun u _=>by simp,fun u x h=>by simp [zipSl,look] at h⟩
 | p :: ps,[],vs,t,_,h,_,_=>absurd h (by simp)
 | p :: ps,x :: xs,[],t,_,_,_,hr=>absurd hr.1 (by simp)
 | p :: ps,x :: xs,v :: vs,t,hp,hl,ht,hr=>by
  simp only [psOK,Bool.and_eq_true] at hp
  obtain ⟨⟨⟨h1,h2⟩,h3⟩,h4⟩:=hp
  have h1:=Nat.le_of_ble_eq_true h1
  have h3:=any_beq h3
  have hr':RelL w S μ ν xs vs:=⟨by simpa using hr.1,fun i hi=>by simpa using hr.2 (i+1) (by simpa using hi)⟩
  obtain ⟨q1,q2,q3⟩:=setP_spec ps xs vs (t.setIfInBounds p v) h4 (by simpa using hl) (by simpa using ht) hr'
  simp only [List.zip_cons_cons,List.foldl_cons]
  refine ⟨q1,fun u hu=>?_,fun u y hy=>?_⟩
  ·rw [q2 u (fun h=>hu (by simp [h]))]
   exact getD_set_other _ _ _ _ (fun e=>hu (by simp [e]))
  ·simp only [zipSl,look_cons] at hy
   split at hy
   ·rename_i e
    subst e
    simp only [Option.some.injEq] at hy
    subst hy
    rw [q2 p h3,getD_set_self _ _ _ (by omega)]
    simpa using hr.2 0 (by simp)
   ·exact q3 u y hy
structure RfInv (w:World) (S Own0 S1:Nat→Prop) (A:M) (μ1:Mu) (r:Loop) (F:Nat→Prop) (W:World):Prop where
 glob:GlobOK W S1
 sub:∀ b,S b→S1 b
 new:∀ b,S1 b→S b∨w.heap.size≤b∨Own0 b
 own:∀ q,OwnB A μ1 q→Own0 q∨w.heap.size≤q
 kept:Kept w W Own0
 dD:W.heap[w.heap.size]? = some (.deferred (some []))
 dl:W.heap[w.heap.size+1]? = some (.loop r)
 nD:¬ S1 w.heap.size
 nl:¬ S1 (w.heap.size+1)
 F:∀ q,F q↔(OwnB A μ1 q∨(S1 q∧¬ S q)∨q=w.heap.size+1∨q=w.heap.size)
theorem RfInv.keep {w:World} {S Own0 S1:Nat→Prop} {A:M} {μ1:Mu} {r:Loop} {F:Nat→Prop} {W W':World} {n:Nat} {tm:Array Value} (h:RfInv w S Own0 S1 A μ1 r F W) (hc:∀ ν,Core A tm W S1 μ1 ν) (hn:w.heap.size+2≤n) (hk:Kept W W' (fun b=>n≤b∧¬ F b∧¬ S b)) :
  RfInv w S Own0 S1 A μ1 r F W'∧∀ ν,Core A tm W' S1 μ1 ν:=by
 have hc0:=hc fun _=>false
 have hS:∀ b,S1 b→W'.heap[b]? = W.heap[b]?:=fun b hb=>hk.block b (hc0.bound b hb) (fun ⟨_,h2,h3⟩=>h2 ((h.F b).2 (.inr (.inl ⟨hb,h3⟩))))
 have hO:∀ q,OwnB A μ1 q→W'.heap[q]? = W.heap[q]?:=fun q hq=>hk.block q (by obtain ⟨_,_,hb⟩:=hc0.ownAt hq; exact hb.lt) (fun ⟨_,h2,_⟩=>h2 ((h.F q).2 (.inl hq)))
 have lt:∀ {q o},W.heap[q]? = some o→q < W.heap.size:=fun e=>(Array.getElem?_eq_some_iff.1 e).1
 exact ⟨⟨h.glob.mono (fun _ x=>x) hS,h.sub,h.new,h.own,h.kept.trans hk (fun b hb ⟨h1,_⟩=>by omega),(hk.block _ (lt h.dD) (fun ⟨h1,_⟩=>by omega)).trans h.dD,(hk.block _ (lt h.dl) (fun ⟨h1,_⟩=>by omega)).trans h.dl,h.nD,h.nl,h.F⟩,
  fun ν=>(hc ν).keep (fun t=>.inr rfl) hS hO hk.size⟩
def Goal.round (g:Goal) (prl:List Nat) (tm:Array Value) (Z:Cx→Frame→List Frame→Machine→Prop) (zs:∀ C b cs m m',Steps g.P m m'→Z C b cs m'→Z C b cs m):Goal:={ g with md:=1,pr:=prl,tm:=tm,Z:=Z,zs:=zs }
theorem kept_put {w:World} {q:Nat} {o:Obj}:Kept w (w.putObj q o) (fun b=>b=q):=⟨rfl,rfl,rfl,by simp [World.putObj],fun b _ hb=>World.putObj_heap_other hb⟩
section
open Go Go.RowKit
theorem G.rf {g:Goal} {k:List Item} {st:St} (hn:g.Nrm) (hz:∀ {C C' b cs m},Reb C C'→g.Z C' b cs m→g.Z C b cs m) {t:Nat} {ps:Array Tmp} {asg body:Code} {gf:FuncId} {caps:List AV}
    {Y σ β:Type} (ys:List Y) (enc:Y→List AV) (step:σ→Y→β ⊕ σ) (s0:σ) (I:Nat→σ→Prop) (sl0:List (Nat × AV)) (Js:σ→St) (Jb:β→St) (id:Nat) (stA:σ→Y→St)
    (hsl:∀ s,(Js s).sl=sl0) (hbl:∀ b,(Jb b).sl=sl0) (h0:LeS st (Js s0)) (hf:St.get sl0 t=.fn gf caps) (hcaps:noG.noGL caps=true) (hit:ItA g.P gf caps (ys.map enc))
    (hps:psOK g.nt (sl0.map (·.1)) ps.toList=true) (hpl:∀ y,y∈ys→ps.toList.length=(enc y).length) (hI0:I 0 s0) (hI:∀ i s y,I i s→ys[i]? = some y→match step s y with | .inl _=>True | .inr s'=>I (i+1) s')
    (hasg:∀ s y tm Z zs,y∈ys→G (g.round (sl0.map (·.1)) tm Z zs) [.beginRound,.code body] (stA s y)→G (g.round (sl0.map (·.1)) tm Z zs) [.code asg,.beginRound,.code body] ⟨zipSl ps.toList (enc y)++sl0,(Js s).lb⟩)
    (hbody:∀ i s y tm Z zs,I i s→ys[i]? = some y→(match step s y with | .inr s'=>G (g.round (sl0.map (·.1)) tm Z zs) [] (Js s') | .inl b=>∀ k',exitTo id k'=none→G (g.round (sl0.map (·.1)) tm Z zs) (.code (.exit id) :: k') (Jb b))→G (g.round (sl0.map (·.1)) tm Z zs) [.code body] (stA s y))
    (hk:match runY step ys s0 with | .inr s=>G g k (Js s) | .inl b=>G g (.code (.exit id) :: k) (Jb b)):G g (.code (.rangeFunc (.tmp t) ps asg body) :: k) st:=by
  intro C c1 c2 a w hkp hs b cs hb1 hb2 hb3
  have hrd:b.roundOf=none:=hb3.2 (by rw [hn.md]; decide)
  obtain ⟨S,μ,hsim⟩:=h0 C a w hs
  have hs0:=hsim fun _=>false
  have hnt:a.tmps.size=g.nt:=hs0.tmps.trans c2
  have hv:=hs0.slots t
  simp only [St.toM,hsl s0,hf] at hv
  obtain ⟨cvs,hfv,hrc⟩:∃ cvs:Array Value,a.tmps.getD t undef=.func (.func gf) #[] cvs∧∀ ν,RelL w S μ ν caps cvs.toList:=by
    generalize a.tmps.getD t undef=fv at hv
    cases hv with
    | @fn _ _ cvs hl hh=>exact ⟨cvs,rfl,fun ν=>RelL.nu ⟨by simpa using hl,fun i hi=>by rw [← getD_toList]; exact hh i hi⟩ hcaps⟩
  obtain ⟨rec_,hrec⟩:∃ rec_:LoopState→Option Code→Loop,rec_=fun s pe=>{ state:=s,pending:=pe,fn:=b.fn,tmps:=a.tmps,params:=ps,assign:=asg,body:=body,defers:=w.heap.size }:=⟨_,rfl⟩
  obtain ⟨W1,hW1⟩:∃ W1,(w.alloc (.deferred (some []))).alloc (.loop (rec_ .ready none))=W1:=⟨_,rfl⟩
  have hsz1:W1.heap.size=w.heap.size+2:=by rw [← hW1]; simp
  have hk01:Kept w W1 (fun _=>False):=by
    rw [← hW1]
    exact (kept_alloc w _ _).trans (kept_alloc _ _ _) (fun _ _ x=>x)
  have hD1:W1.heap[w.heap.size]? = some (.deferred (some [])):=by
    rw [← hW1]; exact (Below.heap_alloc _ _ _ (by simp)).trans (World.alloc_heap_new w _)
  have hL1:W1.heap[w.heap.size+1]? = some (.loop (rec_ .ready none)):=by
    rw [← hW1]; have:=World.alloc_heap_new (w.alloc (.deferred (some []))) (.loop (rec_ .ready none)); rwa [World.size_alloc] at this
  let Own0:Nat→Prop:=OwnB (Js s0).toM μ
  let J:Nat→(Nat→Prop)→World→Prop:=fun i F W=>∃ s S1 μ1,runY step (ys.take i) s0=.inr s∧I i s∧(∀ ν,Core (Js s).toM a.tmps W S1 μ1 ν)∧RfInv w S Own0 S1 (Js s).toM μ1 (rec_ .ready none) F W
  let Jx:(Nat→Prop)→World→Prop:=fun F W=>∃ bb S1 μ1,runY step ys s0=.inl bb∧(∀ ν,Core (Jb bb).toM a.tmps W S1 μ1 ν)∧RfInv w S Own0 S1 (Jb bb).toM μ1 (rec_ .done (some (.exit id))) F W
  have hS1:∀ b,S b→W1.heap[b]? = w.heap[b]?:=fun b hb=>hk01.block b (hs0.bound b hb) (fun x=>x)
  let F0:Nat→Prop:=fun q=>OwnB (Js s0).toM μ q∨(S q∧¬ S q)∨q=w.heap.size+1∨q=w.heap.size
  have hcore1:∀ ν,Core (Js s0).toM a.tmps W1 S μ ν:=fun ν=>(hsim ν).core.keep (fun _=>.inr rfl) hS1 (fun q hq=>hk01.block q (by obtain ⟨_,_,hb⟩:=(hsim ν).core.ownAt hq; exact hb.lt) (fun x=>x)) hk01.size
  have hinv1:RfInv w S Own0 S (Js s0).toM μ (rec_ .ready none) F0 W1:=⟨hs0.glob.mono (fun _ x=>x) hS1,fun _ x=>x,fun _ x=>.inl x,fun _ x=>.inl x,hk01.mono' (fun _ x=>x.elim),hD1,hL1,fun h=>by have:=hs0.bound _ h; omega,fun h=>by have:=hs0.bound _ h; omega,fun q=>Iff.rfl⟩
  -- ONE ROUND
  have hround:∀ i F W (vs:Array Value),i < (ys.map enc).length→J i F W→(∀ ν,RelL W (fun _=>False) (fun _=>none) ν ((ys.map enc).getD i []) vs.toList)→YieldAt Fence.wide 0 g.P (w.heap.size+1) vs W fun e W'=>∃ F',(∀ b,F' b→F b∨W.heap.size≤b)∧(∀ b,F' b→b < W'.heap.size)∧Kept W W' F∧((e=.returned (.bool true)∧J (i+1) F' W')∨(e=.returned (.bool false)∧Jx F' W')):=by
    rintro i F W vs hi ⟨s,S1,μ1,hrun,hIs,hcore,hinv⟩ hvs
    have hi':i < ys.length:=by simpa using hi
    obtain ⟨y,hy⟩:∃ y,ys[i]=y:=⟨_,rfl⟩
    have hym:y∈ys:=hy ▸ List.getElem_mem hi'
    have hyi:ys[i]? = some y:=by rw [List.getElem?_eq_getElem hi',hy]
    have hgy:(ys.map enc).getD i []=enc y:=by simp [List.getD,hi',hy]
    rw [hgy] at hvs
    obtain ⟨ht1,ht2⟩:=runY_take hi' hrun
    rw [hy] at ht1 ht2
    have hlen:ps.toList.length=(enc y).length:=hpl y hym
    have hvl:vs.size=ps.size:=by have:=(hvs fun _=>false).1; simp at this hlen; omega
    have hyl:=run_yield (P:=g.P) (args:=vs) hinv.dl (by rw [hrec]; exact hvl)
    rw [hrec] at hyl
    refine ⟨_,_,_,_,hyl,trivial,fun c cs' _=>?_⟩
    let br:Frame:={ (default:Frame) with fn:=b.fn,kind:=.normal,roundOf:=some (w.heap.size+1) }
    have hfr:∀ tm,Frame.round (w.heap.size+1) b.fn tm asg body .normal=br.atR { tmps:=tm,defers:=[] } [.code asg,.beginRound,.code body]:=fun tm=>by simp [Frame.round,Frame.atR,br]
    -- it is enough to come back with a bool
    suffices hmain:∃ v w',(∃ F',(∀ b,F' b→F b∨W.heap.size≤b)∧(∀ b,F' b→b < w'.heap.size)∧Kept W w' F∧((v=.bool true∧J (i+1) F' w')∨(v=.bool false∧Jx F' w')))∧Steps g.P (lone (br.atR { tmps:=(ps.zip vs).foldl (fun t (p,v)=>t.setIfInBounds p v) a.tmps,defers:=[] } [.code asg,.beginRound,.code body]) (c :: cs') W) (lone (c.finish v) cs' w') by
      obtain ⟨v,w',⟨F',q1,q1b,q2,q3⟩,hst⟩:=hmain
      refine ⟨.returned v,w',⟨F',q1,q1b,q2,?_⟩,?_⟩
      · rcases q3 with ⟨rfl,q⟩ | ⟨rfl,q⟩
        · exact .inl ⟨rfl,q⟩
        · exact .inr ⟨rfl,q⟩
      · rw [hfr]
        exact stepsIn_wide.2 hst
    have hsp:=fun ν=>setP_spec (w:=W) (S:=fun _=>False) (μ:=fun _=>none) (ν:=ν) ps.toList (enc y) vs.toList a.tmps hps hlen hnt (hvs ν)
    have htm:(ps.zip vs).foldl (fun t (p,v)=>t.setIfInBounds p v) a.tmps=(ps.toList.zip vs.toList).foldl (fun t (p:Nat × Value)=>t.setIfInBounds p.1 p.2) a.tmps:=by
      rw [← Array.foldl_toList,Array.toList_zip]
    rw [htm]
    generalize hTM:(ps.toList.zip vs.toList).foldl (fun t (p:Nat × Value)=>t.setIfInBounds p.1 p.2) a.tmps=tm at hsp ⊢
    have notps:∀ (L:List Nat) (u:Nat),psOK g.nt (sl0.map (·.1)) L=true→u∈sl0.map (·.1)→u ∉ L:=by
      intro L
      induction L with
      | nil=>intro u _ _ h; cases h
      | cons p L ih =>
        intro u h hu hm
        simp only [psOK,Bool.and_eq_true] at h
        rcases List.mem_cons.1 hm with rfl | hm
        · exact any_beq h.1.1.2 hu
        · exact ih u h.2 hu hm
    have hpr:∀ u,u∈sl0.map (·.1)→tm.getD u undef=a.tmps.getD u undef:=fun u hu=>(hsp fun _=>false).2.1 u (notps _ u hps hu)
    -- the state behind the parameters
    have hcoreP:∀ ν,Core (St.toM ⟨zipSl ps.toList (enc y)++sl0,(Js s).lb⟩) tm W S1 μ1 ν:=fun ν=>by
      refine ⟨fun u=>?_,(hcore ν).mem,(hcore ν).inj,(hcore ν).bound⟩
      simp only [St.toM,St.get,look_append]
      cases h1:look (zipSl ps.toList (enc y)) u with
      | some x=>exact ((hsp ν).2.2 u x h1).mono (fun _ x=>x.elim) (fun _ x=>x.elim) (fun _ _ e=>by cases e)
      | none =>
        simp only
        cases h2:look sl0 u with
        | none=>exact .any _
        | some x =>
          have:=(hcore ν).slots u
          simp only [St.toM,hsl,St.get,h2] at this
          rw [hpr u (look_keys h2)]
          exact this
    have hcore0:=hcore fun _=>false
    have nlS:∀ {q:Nat} {r:Loop},W.heap[q]? = some (.loop r)→¬ OwnB (Js s).toM μ1 q:=fun e h=>by obtain ⟨_,_,hb⟩:=hcore0.ownAt h; exact hb.notLoop e
    have ndS:∀ {q:Nat} {r:Option (List Deferred)},W.heap[q]? = some (.deferred r)→¬ OwnB (Js s).toM μ1 q:=fun e h=>by obtain ⟨_,_,hb⟩:=hcore0.ownAt h; exact hb.notDeferred e
    have hlW:w.heap.size+1 < W.heap.size:=(Array.getElem?_eq_some_iff.1 hinv.dl).1
    let C1:Cx:=Cx.at g.P g.nt W S1 (St.toM ⟨zipSl ps.toList (enc y)++sl0,(Js s).lb⟩) μ1 hinv.glob hcore0.mem hcore0.bound [] [] (fun d h=>by cases h) (fun d h=>by cases h) List.nodup_nil
    have hsim1:SimB C1 ⟨zipSl ps.toList (enc y)++sl0,(Js s).lb⟩ { tmps:=tm,defers:=[] } W:=⟨S1,μ1,fun ν=>(hcoreP ν).sim (hsp fun _=>false).1 _ _ _ _ _ _ _ _ rfl⟩
    let Rr:Value→World→Prop:=fun v w'=>∃ F',(∀ b,F' b→F b∨W.heap.size≤b)∧(∀ b,F' b→b < w'.heap.size)∧Kept W w' F∧((v=.bool true∧J (i+1) F' w')∨(v=.bool false∧Jx F' w'))
    let Z1:Cx→Frame→Cx→List Frame→Machine→Prop:=fun CC bb C' cs1 m=>C'=CC→cs1=c :: cs'→bb=br→∃ v w',Rr v w'∧Steps g.P m (lone (c.finish v) cs' w')
    have zsc:∀ CC:Cx,∀ C' bb cs1 m m',Steps g.P m m'→Z1 CC bb C' cs1 m'→Z1 CC bb C' cs1 m:=fun CC C' bb cs1 m m' hst hz e1 e2 e3=>by
      obtain ⟨v,w',q1,q2⟩:=hz e1 e2 e3
      exact ⟨v,w',q1,hst.trans q2⟩
    have hrbr:∀ gg:Goal,gg.md=1→(br.roundOf=none↔gg.md≠1):=fun gg h=>⟨fun e=>by simp [br] at e,fun e=>absurd h e⟩
    refine hasg s y a.tmps (fun C' bb cs1 m=>Z1 C1 bb C' cs1 m) (fun C' bb cs1 m m'=>zsc C1 C' bb cs1 m m') hym ?_ C1 rfl rfl _ W (fun u hu=>hpr u hu) hsim1 br (c :: cs') hb1 rfl (hrbr _ rfl) rfl rfl rfl
    intro C' e1 e2 a1 W' hk1 hs1 bb cs1 _ _ _ hCC hcs hbb
    subst hCC; subst hcs; subst hbb
    obtain ⟨S2,μ2,hsim2⟩:=hs1
    have h2:=hsim2 fun _=>false
    have hkW:Kept W W' (OwnB (Js s).toM μ1):=h2.kept
    have hl':W'.heap[w.heap.size+1]? = some (.loop (rec_ .ready none)):=(hkW.block _ hlW (nlS hinv.dl)).trans hinv.dl
    have hD':W'.heap[w.heap.size]? = some (.deferred (some [])):=(hkW.block _ (by omega) (ndS hinv.dD)).trans hinv.dD
    have hbr':=run_beginRound (P:=g.P) hl' (by rw [hrec])
    have hst1:Steps g.P (lone (br.atR a1 [.beginRound,.code body]) (c :: cs') W') (lone (br.atR a1 [.code body]) (c :: cs') (W'.putObj (w.heap.size+1) (.loop { rec_ .ready none with state:=.busy }))):=.one (stepR_beginRound rfl hbr')
    obtain ⟨W2,hW2⟩:∃ W2,W'.putObj (w.heap.size+1) (.loop { rec_ .ready none with state:=.busy })=W2:=⟨_,rfl⟩
    rw [hW2] at hst1
    have hkl:Kept W' W2 (fun q=>q=w.heap.size+1):=hW2 ▸ kept_put
    have hl2:W2.heap[w.heap.size+1]? = some (.loop { rec_ .ready none with state:=.busy }):=by rw [← hW2]; exact World.putObj_heap_same (Array.getElem?_eq_some_iff.1 hl').1
    have new2:∀ q,S2 q→S1 q∨W.heap.size≤q∨OwnB (Js s).toM μ1 q:=h2.fresh
    have nl2:¬ S2 (w.heap.size+1):=fun h=>by
      rcases new2 _ h with q | q | q
      · exact hinv.nl q
      · omega
      · exact nlS hinv.dl q
    have nD2:¬ S2 w.heap.size:=fun h=>by
      rcases new2 _ h with q | q | q
      · exact hinv.nD q
      · omega
      · exact ndS hinv.dD q
    have own2:∀ q,OwnB (stA s y).toM μ2 q→W.heap.size≤q∨OwnB (Js s).toM μ1 q:=fun q hq=>h2.ownB hq
    have hS2:∀ q,S2 q→W2.heap[q]? = W'.heap[q]?:=fun q hq=>hkl.block q (h2.bound q hq) (fun e=>nl2 (e ▸ hq))
    have nO2:¬ OwnB (stA s y).toM μ2 (w.heap.size+1):=fun h=>by obtain ⟨_,_,hb⟩:=h2.core.ownAt h; exact hb.notLoop hl'
    have nOD2:¬ OwnB (stA s y).toM μ2 w.heap.size:=fun h=>by obtain ⟨_,_,hb⟩:=h2.core.ownAt h; exact hb.notDeferred hD'
    have hcore2:∀ ν,Core (stA s y).toM a1.tmps W2 S2 μ2 ν:=fun ν=>(hsim2 ν).core.keep (fun _=>.inr rfl) hS2 (fun q hq=>hkl.block q (by obtain ⟨_,_,hb⟩:=(hsim2 ν).core.ownAt hq; exact hb.lt) (fun e=>nO2 (e ▸ hq))) hkl.size
    have hglob2:GlobOK W2 S2:=h2.glob.mono (fun _ x=>x) hS2
    let C2:Cx:=Cx.at g.P g.nt W2 S2 (stA s y).toM μ2 hglob2 (hcore2 fun _=>false).mem (hcore2 fun _=>false).bound [] [] (fun d h=>by cases h) (fun d h=>by cases h) List.nodup_nil
    have hsim3:SimB C2 (stA s y) a1 W2:=⟨S2,μ2,fun ν=>(hcore2 ν).sim h2.tmps _ _ _ _ _ _ _ _ h2.defers⟩
    suffices hfin:Z1 C2 br C2 (c :: cs') (lone (br.atR a1 [.code body]) (c :: cs') W2) by
      obtain ⟨v,w',q1,q2⟩:=hfin rfl rfl rfl
      exact ⟨v,w',q1,hst1.trans q2⟩
    -- how a round ends
    have hend:∀ (stE:St) (jump:Option Code) (a3:Act) (W3:World) (S3:Nat→Prop) (μ3:Mu),stE.sl=sl0→(∀ u,u∈sl0.map (·.1)→a3.tmps.getD u undef=a.tmps.getD u undef)→(∀ ν,Sim C2 stE.toM a3 W3 S3 μ3 ν) →
        ∃ W4 F',(Instr.endRound (w.heap.size+1) jump).run g.P W3=.ok (.bool jump.isNone) W4∧(∀ b,F' b→F b∨W.heap.size≤b)∧(∀ b,F' b→b < W4.heap.size)∧Kept W W4 F∧(∀ ν,Core stE.toM a.tmps W4 S3 μ3 ν)∧RfInv w S Own0 S3 stE.toM μ3 (rec_ (if jump.isNone then .ready else .done) jump) F' W4:=by
      intro stE jump a3 W3 S3 μ3 hE hpr3 hsim3
      have h3:=hsim3 fun _=>false
      have hk23:Kept W2 W3 (OwnB (stA s y).toM μ2):=h3.kept
      have hl3:W3.heap[w.heap.size+1]? = some (.loop { rec_ .ready none with state:=.busy }):=(hk23.block _ (Array.getElem?_eq_some_iff.1 hl2).1 nO2).trans hl2
      have hD2:W2.heap[w.heap.size]? = some (.deferred (some [])):=(hkl.block _ (by have:=hkW.size; omega) (by omega)).trans hD'
      have hD3:W3.heap[w.heap.size]? = some (.deferred (some [])):=(hk23.block _ (Array.getElem?_eq_some_iff.1 hD2).1 nOD2).trans hD2
      have her:=run_endRound (P:=g.P) jump hl3
      obtain ⟨W4,hW4⟩:∃ W4,W3.putObj (w.heap.size+1) (.loop { ({ rec_ .ready none with state:=.busy }:Loop) with state:=if jump.isNone then .ready else .done,pending:=jump })=W4:=⟨_,rfl⟩
      rw [hW4] at her
      have hkl4:Kept W3 W4 (fun q=>q=w.heap.size+1):=hW4 ▸ kept_put
      have hsz2:W.heap.size≤W2.heap.size:=Nat.le_trans hkW.size hkl.size
      have new3:∀ q,S3 q→S1 q∨W.heap.size≤q∨OwnB (Js s).toM μ1 q:=fun q hq=>by
        rcases h3.fresh q hq with h | h | h
        · exact new2 q h
        · exact .inr (.inl (Nat.le_trans hsz2 h))
        · exact .inr (own2 q h)
      have own3:∀ q,OwnB stE.toM μ3 q→W.heap.size≤q∨OwnB (Js s).toM μ1 q:=fun q hq=>by
        rcases h3.ownB hq with h | h
        · exact .inl (Nat.le_trans hsz2 h)
        · exact own2 q h
      have nl3:¬ S3 (w.heap.size+1):=fun h=>by
        rcases new3 _ h with q | q | q
        · exact hinv.nl q
        · omega
        · exact nlS hinv.dl q
      have nD3:¬ S3 w.heap.size:=fun h=>by
        rcases new3 _ h with q | q | q
        · exact hinv.nD q
        · omega
        · exact ndS hinv.dD q
      have nO3:¬ OwnB stE.toM μ3 (w.heap.size+1):=fun h=>by obtain ⟨_,_,hb⟩:=h3.core.ownAt h; exact hb.notLoop hl3
      have hS4:∀ q,S3 q→W4.heap[q]? = W3.heap[q]?:=fun q hq=>hkl4.block q (h3.bound q hq) (fun e=>nl3 (e ▸ hq))
      have hwW:w.heap.size≤W.heap.size:=hinv.kept.size
      have hKF:Kept W W4 F:=by
        refine ((((hkW.mono' (fun q hq=>(hinv.F q).2 (.inl hq))).trans hkl (T':=fun q=>q=w.heap.size+1) (fun q _ e=>(hinv.F q).2 (.inr (.inr (.inl e))))).trans hk23 (fun q hq h=>?_)).trans hkl4 (fun q _ e=>(hinv.F q).2 (.inr (.inr (.inl e)))))
        rcases own2 q h with h | h
        · omega
        · exact (hinv.F q).2 (.inl h)
      refine ⟨W4,fun q=>OwnB stE.toM μ3 q∨(S3 q∧¬ S q)∨q=w.heap.size+1∨q=w.heap.size,her,fun q hq=>?_,fun q hq=>?_,hKF,fun ν=>?_,?_⟩
      · rcases hq with h | ⟨h,hns⟩ | h | h
        · exact (own3 q h).symm.imp (fun h=>(hinv.F q).2 (.inl h)) (fun x=>x)
        · rcases new3 q h with h | h | h
          · exact .inl ((hinv.F q).2 (.inr (.inl ⟨h,hns⟩)))
          · exact .inr h
          · exact .inl ((hinv.F q).2 (.inl h))
        · exact .inl ((hinv.F q).2 (.inr (.inr (.inl h))))
        · exact .inl ((hinv.F q).2 (.inr (.inr (.inr h))))
      · have hs34:=hkl4.size
        have h3l:=(Array.getElem?_eq_some_iff.1 hl3).1
        rcases hq with h | ⟨h,_⟩ | h | h
        · obtain ⟨_,_,hb⟩:=h3.core.ownAt h
          have:=hb.lt
          omega
        · have:=h3.bound q h
          omega
        · omega
        · omega
      · refine (hsim3 ν).core.keep (fun u=>?_) hS4 (fun q hq=>hkl4.block q (by obtain ⟨_,_,hb⟩:=(hsim3 ν).core.ownAt hq; exact hb.lt) (fun e=>nO3 (e ▸ hq))) hkl4.size
        simp only [St.toM,hE,St.get]
        cases hlk:look sl0 u with
        | none=>exact .inl rfl
        | some x=>exact .inr (hpr3 u (look_keys hlk)).symm
      · refine ⟨h3.glob.mono (fun _ x=>x) hS4,fun q hq=>h3.stable q (h2.stable q (hinv.sub q hq)),fun q hq=>?_,fun q hq=>?_,?_,(hkl4.block _ (Array.getElem?_eq_some_iff.1 hD3).1 (by omega)).trans hD3,?_,nD3,nl3,fun q=>Iff.rfl⟩
        · rcases new3 q hq with h | h | h
          · exact hinv.new q h
          · exact .inr (.inl (Nat.le_trans hwW h))
          · exact .inr (hinv.own q h).symm
        · rcases own3 q hq with h | h
          · exact .inr (Nat.le_trans hwW h)
          · exact hinv.own q h
        · refine hinv.kept.trans hKF (fun q hq h=>?_)
          rcases (hinv.F q).1 h with h | ⟨h,hns⟩ | h | h
          · exact (hinv.own q h).resolve_right (by omega)
          · rcases hinv.new q h with h | h | h
            · exact absurd h hns
            · omega
            · exact h
          · omega
          · omega
        · rw [← hW4]
          have:=World.putObj_heap_same (o:=.loop { ({ rec_ .ready none with state:=.busy }:Loop) with state:=if jump.isNone then .ready else .done,pending:=jump }) (Array.getElem?_eq_some_iff.1 hl3).1
          rw [this,hrec]
    refine hbody i s y a.tmps (fun C' bb cs1 m=>Z1 C2 bb C' cs1 m) (fun C' bb cs1 m m'=>zsc C2 C' bb cs1 m m') hIs hyi ?_ C2 rfl rfl a1 W2 hk1 hsim3 br (c :: cs') hb1 rfl (hrbr _ rfl)
    cases hst:step s y with
    | inr s' =>
      simp only
      intro C' e1 e2 a3 W3 hk3 hs3 bb cs1 _ _ _ hCC hcs hbb
      subst hCC; subst hcs; subst hbb
      obtain ⟨S3,μ3,hsim3'⟩:=hs3
      obtain ⟨W4,F',q1,q2,q2b,q3,q4,q5⟩:=hend (Js s') none a3 W3 S3 μ3 (hsl s') (fun u hu=>hk3 u hu) hsim3'
      have hIs':I (i+1) s':=by have:=hI i s y hIs hyi; rw [hst] at this; exact this
      exact ⟨.bool true,W4,⟨F',q2,q2b,q3,.inl ⟨rfl,s',S3,μ3,by rw [ht1,hst],hIs',q4,q5⟩⟩,.one (stepR_round_end rfl rfl q1)⟩
    | inl bv =>
      simp only
      intro k' hx C' e1 e2 a3 W3 hk3 hs3 bb cs1 _ _ _ hCC hcs hbb
      subst hCC; subst hcs; subst hbb
      obtain ⟨S3,μ3,hsim3'⟩:=hs3
      obtain ⟨W4,F',q1,q2,q2b,q3,q4,q5⟩:=hend (Jb bv) (some (.exit id)) a3 W3 S3 μ3 (hbl bv) (fun u hu=>hk3 u hu) hsim3'
      exact ⟨.bool false,W4,⟨F',q2,q2b,q3,.inr ⟨rfl,bv,S3,μ3,ht2 bv hst,q4,q5⟩⟩,.one (stepR_round_exit rfl rfl hx q1)⟩
  -- THE CALL
  have hcall:=hit.2 W1 S μ cvs (w.heap.size+1) J Jx F0 (fun b hb=>Nat.lt_of_lt_of_le (hs0.bound b hb) hk01.size) hinv1.glob (fun ν=>⟨(hrc ν).1,fun i hi=>((hrc ν).2 i hi).mono (fun _ x=>x) hS1 (fun _ _ e=>e)⟩)
    (fun q hq h=>by
      rcases h with h | ⟨_,h⟩ | h | h
      · obtain ⟨_,_,hb⟩:=hs0.core.ownAt h
        exact hb.not hq
      · exact h hq
      · have:=hs0.bound q hq; omega
      · have:=hs0.bound q hq; omega)
    (fun q h=>by
      rcases h with h | ⟨h,h'⟩ | h | h
      · obtain ⟨_,_,hb⟩:=hs0.core.ownAt h
        have:=hb.lt
        omega
      · exact absurd h h'
      · omega
      · omega)
    (fun i F W W' hJ hkk=>by
      obtain ⟨s,S1,μ1,q1,q2,q3,q4⟩:=hJ
      obtain ⟨r1,r2⟩:=q4.keep q3 (n:=W1.heap.size) (by omega) hkk
      exact ⟨s,S1,μ1,q1,q2,r2,r1⟩)
    (fun F W W' hJ hkk=>by
      obtain ⟨s,S1,μ1,q1,q3,q4⟩:=hJ
      obtain ⟨r1,r2⟩:=q4.keep q3 (n:=W1.heap.size) (by omega) hkk
      exact ⟨s,S1,μ1,q1,r2,r1⟩)
    hround ⟨s0,S,μ,by simp [runY],hI0,hcore1,hinv1⟩
  let fr1:Frame:=b.atR { a with defers:=[{ target:=.collected w.heap.size,args:=#[] }]++a.defers } (.inRangeFunc (w.heap.size+1) :: k)
  obtain ⟨e,w',fr,⟨⟨v,rfl⟩,hJJ⟩,hcomes,hfrf,hleave⟩:=hcall (fr1 :: cs)
  have hen:(Instr.enterLoop b.fn a.tmps ps asg body b.roundOf).run g.P w=.ok (w.heap.size+1,[{ target:=.collected w.heap.size,args:=#[] }]) W1:=by
    rw [hrd,← hW1,hrec]; exact run_enterLoop_outer _ _ _ _ _
  have hres:(resolve a.eval (rangeCall (.tmp t) (w.heap.size+1)) 0).run g.P W1=.ok { target:=.fn (.func gf) cvs,args:=#[.func (.yield (w.heap.size+1)) #[] #[]] } W1:=by
    have:a.eval (.tmp t)=.func (.func gf) #[] cvs:=hfv
    simp only [resolve,this]
    simp [go_sem]
  have hinvk:(invoke (.fn (.func gf) cvs) #[.func (.yield (w.heap.size+1)) #[] #[]]).run g.P W1=.ok (.enter gf (#[.func (.yield (w.heap.size+1)) #[] #[]]++cvs)) W1:=by
    have eg:=fun args=>callable_run (w:=W1) hit.1 args
    simp [invoke,go_sem,eg]
  have hst0:Steps g.P (lone (b.atR a (.code (.rangeFunc (.tmp t) ps asg body) :: k)) cs w) (lone (Frame.enter g.P gf (#[.func (.yield (w.heap.size+1)) #[] #[]]++cvs) .normal) (fr1 :: cs) W1):=.one (stepR_rangeFunc hen hres hinvk)
  have hst1:Steps g.P (lone (b.atR a (.code (.rangeFunc (.tmp t) ps asg body) :: k)) cs w) (lone (b.atR { a with defers:=[{ target:=.collected w.heap.size,args:=#[] }]++a.defers } (.endRangeFunc (w.heap.size+1) :: k)) cs w'):=by
    refine hst0.trans (Steps.trans hcomes (.one ?_))
    rw [← finish_atR_inRangeFunc (w.heap.size+1) v]
    exact step_leave_returned hleave
  -- what comes then
  have hafter:∀ (stE:St) (S1:Nat→Prop) (μ1:Mu) (r:Loop) (F:Nat→Prop) (k':List Item),(∀ ν,Core stE.toM a.tmps w' S1 μ1 ν)→RfInv w S Own0 S1 stE.toM μ1 r F w'→r.state≠.busy→(r.pending.map Item.code).toList++k=k'→G g k' stE→g.Z C b cs (lone (b.atR a (.code (.rangeFunc (.tmp t) ps asg body) :: k)) cs w):=by
    intro stE S1 μ1 r F k' hcore hinv hbusy hkk hG
    have hel:=run_endLoop (P:=g.P) hinv.dl hbusy
    have hst2:=Steps.trans hst1 (.one (stepR_endRangeFunc hel))
    rw [hkk] at hst2
    obtain ⟨W5,hW5⟩:∃ W5,w'.putObj (w.heap.size+1) (.loop { r with state:=.exhausted })=W5:=⟨_,rfl⟩
    rw [hW5] at hst2
    have hkl:Kept w' W5 (fun q=>q=w.heap.size+1):=hW5 ▸ kept_put
    have hc0:=hcore fun _=>false
    have nO:¬ OwnB stE.toM μ1 (w.heap.size+1):=fun h=>by obtain ⟨_,_,hb⟩:=hc0.ownAt h; exact hb.notLoop hinv.dl
    have hS5:∀ q,S1 q→W5.heap[q]? = w'.heap[q]?:=fun q hq=>hkl.block q (hc0.bound q hq) (fun e=>hinv.nl (e ▸ hq))
    have hcore5:∀ ν,Core stE.toM a.tmps W5 S1 μ1 ν:=fun ν=>(hcore ν).keep (fun _=>.inr rfl) hS5 (fun q hq=>hkl.block q (by obtain ⟨_,_,hb⟩:=(hcore ν).ownAt hq; exact hb.lt) (fun e=>nO (e ▸ hq))) hkl.size
    have hk5:Kept w W5 Own0:=hinv.kept.trans hkl (fun q hq e=>by omega)
    have hwsz:w.heap.size < w'.heap.size:=(Array.getElem?_eq_some_iff.1 hinv.dD).1
    have hdok:∀ d,d∈[({ target:=.collected w.heap.size,args:=#[] }:Deferred)]++a.defers→d∈C.dx∨∃ q,d = { target:=.collected q,args:=#[] }∧W5.heap[q]? = some (.deferred (some []))∧¬ S1 q:=by
      intro d hd
      rcases List.mem_append.1 hd with hd | hd
      · simp only [List.mem_singleton] at hd
        exact .inr ⟨w.heap.size,hd,(hkl.block _ hwsz (by omega)).trans hinv.dD,hinv.nD⟩
      · rw [hs0.defers] at hd
        rcases hs0.dokw d hd with hx | ⟨q,e,q1,q2⟩
        · exact .inl hx
        have hq:=(Array.getElem?_eq_some_iff.1 q1).1
        have nq:¬ Own0 q:=fun h=>by obtain ⟨_,_,hb⟩:=hs0.core.ownAt h; exact hb.notDeferred q1
        refine .inr ⟨q,e,(hk5.block q hq nq).trans q1,fun h=>?_⟩
        rcases hinv.new q h with h | h | h
        · exact q2 h
        · omega
        · exact nq h
    have hdnd:([({ target:=.collected w.heap.size,args:=#[] }:Deferred)]++a.defers).Nodup:=by
      refine List.nodup_cons.2 ⟨fun hd=>?_,by rw [hs0.defers]; exact C.dnd⟩
      rw [hs0.defers] at hd
      rcases hs0.dokw _ hd with hx | ⟨q,e,q1,q2⟩
      · exact C.dxc _ hx _ rfl
      cases e
      have:=(Array.getElem?_eq_some_iff.1 q1).1
      omega
    let C5:Cx:=Cx.at g.P g.nt W5 S1 stE.toM μ1 (hinv.glob.mono (fun _ x=>x) hS5) (hcore5 fun _=>false).mem (hcore5 fun _=>false).bound _ C.dx C.dxc hdok hdnd
    have hsim5:SimB C5 stE { a with defers:=[{ target:=.collected w.heap.size,args:=#[] }]++a.defers } W5:=⟨S1,μ1,fun ν=>Core.sim (a:={ a with defers:=[{ target:=.collected w.heap.size,args:=#[] }]++a.defers }) (hcore5 ν) hnt _ _ _ _ _ _ _ _ rfl⟩
    have own0:∀ q,Own0 q→C.w0.heap.size≤q∨C.T0 q:=fun q hq=>hs0.ownB hq
    have hw0:C.w0.heap.size≤w.heap.size:=hs0.kept.size
    refine g.zs C b cs _ _ hst2 (hz (C':=C5) ⟨fun q hq=>hinv.sub q (hs0.stable q hq),fun q hq=>?_,hs0.kept.trans hk5 (fun q hq h=>(own0 q h).resolve_left (by omega)),fun q hq=>?_,rfl⟩ (hG C5 rfl rfl { a with defers:=[{ target:=.collected w.heap.size,args:=#[] }]++a.defers } W5 hkp hsim5 b cs hb1 hb2 hb3))
    · rcases hinv.new q hq with h | h | h
      · exact hs0.fresh q h
      · exact .inr (.inl (Nat.le_trans hw0 h))
      · exact .inr (own0 q h)
    · rcases hq with h | h
      · rcases hinv.own q h with h | h
        · exact ((own0 q h).imp (fun x=>x) .inl).symm
        · exact .inr (Nat.le_trans hw0 h)
      · rcases List.mem_append.1 h with h | h
        · simp only [List.mem_singleton,Deferred.mk.injEq,Target.collected.injEq,and_true] at h
          subst h
          exact .inr hw0
        · rw [hs0.defers] at h
          exact .inl (.inr h)
  rcases hJJ with ⟨F,s,S1,μ1,q1,q2,q3,q4⟩ | ⟨F,bv,S1,μ1,q1,q3,q4⟩
  · have q1:runY step ys s0=.inr s:=by
      have e:ys.take (ys.map enc).length=ys:=by simp
      rw [e] at q1; exact q1
    rw [q1] at hk
    exact hafter (Js s) S1 μ1 _ F k q3 q4 (by rw [hrec]; simp) (by rw [hrec]; rfl) hk
  · rw [q1] at hk
    exact hafter (Jb bv) S1 μ1 _ F _ q3 q4 (by rw [hrec]; simp) (by rw [hrec]; rfl) hk

end
def isClr (ops:Array Oper):Option (Nat × Nat × Nat × Nat × Nat × Nat) :=
 match ops.toList with
 | [o1,o2,o3,o4]=>(match o1.op,o1.dst,o1.guard,o2.op,o2.dst,o2.guard with
  | .move (.tmp ts),some d1,none,.move (.tmp ti),some d2,none=>(match o3.op,o3.dst,o3.guard,o4.op,o4.dst,o4.guard with
   | .slice ty (.tmp a) (some (.tmp b)) none none,some d3,none,.call { callee:=.builtin .clear,args:=xs,argTypes:=tys,.. },none,none=>(match xs.toList,tys.toList with
    | [.tmp c],[ty']=>bif Nat.beq a d1&&Nat.beq b d2&&Nat.beq c d3&&Nat.beq ty ty'&&!Nat.beq d1 d2&&!Nat.beq ti d1 then some (ts,ti,ty,d1,d2,d3) else none
    | _,_=>none)
   | _,_,_,_,_,_=>none)
  | _,_,_,_,_,_=>none)
 | _=>none
def clrF (x:Nat) (f:Nat→List D) (z:List D):Nat→List D:=fun q=>if q < x then f q else z
section
variable {C : Cx} {A : M} {a : Act} {w : World} {S : Nat → Prop} {μ : Mu} {ν : Nat → Bool}
theorem run_clear_row {P:Program} {t e ty:TypeId} {j:TypeInfo} {z:Value} {i:TI} (F:TiFacts P e i j z) (hone:i.zero.all oneD=true) (hu:P.underlying t=some (.slice e)) {g off m c:Nat} {cur:Array Value} {e':TypeId} (hm:0 < m)
  (hg:w.heap[g]? = some (.cells cur e' (0,0))) (hle:off+m * i.size≤cur.size) :
  (Builtin.clear_ #[t] ty #[.slice (some ⟨g,off,none⟩) m c]).run P w=.ok (.tuple #[]) (w.setRow g (cur.toList.take off++(Builtin.zeroCells z.cells m).toList++cur.toList.drop (off+m * i.size)).toArray):=by
 obtain ⟨q1,q2⟩:=zeroOK_rd (w:=w) (S:=fun _=>False) F.zok
 have hzl:z.cells.size=i.size:=by have:=q1; simp only [Array.length_toList] at this; rw [this,F.zlen]
 have hlen:(Builtin.zeroCells z.cells m).toList.length=m * i.size:=by simp [Builtin.zeroCells,hzl]
 have hst:=run_storeCells_at P g off e' (Builtin.zeroCells z.cells m).toList 0 cur w hg (by rw [hlen]; omega) (fun v hv=>by
  simp only [Builtin.zeroCells,hzl] at hv
  obtain ⟨q,hq,rfl⟩:∃ q,q < m * i.size∧z.cells[q % i.size]! = v:=by simpa using hv
  have hpos:0 < i.size:=by
   rcases Nat.eq_zero_or_pos i.size with h0 | h0
   ·rw [h0] at hq; simp at hq
   ·exact h0
  have hlt:q % i.size < i.size:=Nat.mod_lt _ hpos
  have h2:=q2 (q % i.size) (by rw [F.zlen]; exact hlt)
  have hlt':q % i.size < z.cells.size:=by omega
  rw [getElem!_pos z.cells _ hlt']
  have e1:z.cells.toList.getD (q % i.size) undef=z.cells[q % i.size]:=by simp [List.getD,hlt']
  rw [e1] at h2
  simp only [List.all_eq_true] at hone
  exact oneD_rd (hone _ (by simp [List.getD,F.zlen,hlt])) h2)
 simp only [Nat.add_zero,hlen] at hst
 obtain ⟨m',rfl⟩:∃ m',m=m'+1:=⟨m - 1,by omega⟩
 simp only [Builtin.clear_,List.getElem?_toArray,List.getElem?_cons_zero,Sem.run_bind,run_underlying hu,Result.andThen_ok,zeroValue,typeInfo,run_program,F.info,Sem.run_pure,F.zero,hst]
theorem run_clear0 {P:Program} {t e ty:TypeId} (hu:P.underlying t=some (.slice e)) (ad:Option Addr) (c:Nat):(Builtin.clear_ #[t] ty #[.slice ad 0 c]).run P w=.ok (.tuple #[]) w:=by
 cases ad <;> simp [Builtin.clear_,run_underlying hu]
theorem wanted_none {o:Oper} (h:o.guard=none) (y):Region.wanted o y=true:=by simp [Region.wanted,h]
theorem Sim.put3 {st:St} (hsim:∀ ν,Sim C st.toM a w S μ ν) {d1 d2 d3:Nat} (v1 v2 v3:Value) :
  ∀ ν,Sim C (St.toM ⟨delKeys [d1,d2,d3] st.sl,st.lb⟩) (((a.put (some d1) v1).put (some d2) v2).put (some d3) v3) w S μ ν:=fun ν=>by
 have h:=hsim ν
 refine ⟨by simp [Act.put,h.tmps],h.defers,fun u=>?_,h.mem,h.inj,h.own,h.stable,h.fresh,h.bound,h.kept⟩
 simp only [St.toM,St.get,look_del]
 by_cases hn:u∈[d1,d2,d3]
 ·rw [if_pos hn]
  exact .any _
 ·rw [if_neg hn]
  simp only [List.mem_cons,List.not_mem_nil,or_false,not_or] at hn
  simp only [Act.put]
  rw [getD_set_other _ _ _ _ hn.2.2,getD_set_other _ _ _ _ hn.2.1,getD_set_other _ _ _ _ hn.1]
  have:=h.slots u
  simp only [St.toM,St.get] at this
  exact this
end
theorem wp_step {P:Program} {ops:Array Oper} {Q:Exit→Act→World→Prop} {i:Nat} {rest:List Nat} {a:Act} {w w':World} {o:Oper} {v:Value} (ho:ops[i]? = some o) (hg:o.guard=none) (hrun:(execOp a.eval o).run P w=.ok (.value v) w') (h:wpOps P ops Q rest (a.put o.dst v) w'):wpOps P ops Q (i :: rest) a w:=by
 simp only [wpOps,ho,wanted_none hg,if_true]
 left
 unfold Oper.wp
 rw [hrun]
 exact h
section
variable {g : Goal}
theorem G.clr (hT:TOk g.P g.T) (hm:g.P.follows .mixedOrders=true) {K:List Item} {st:St} {id:Nat} {ops:Array Oper} {ts ti ty d1 d2 d3 κ e k n:Nat} {f:Nat→List D} {x:Int} {it i:TI} (hreg:regR g.md g.pr ops=true) (hops:isClr ops=some (ts,ti,ty,d1,d2,d3)) (hd1:d1 < g.nt) (hd2:d2 < g.nt) (hd3:d3 < g.nt)
  (hs:St.get st.sl ts=.own κ n) (hi:St.get st.sl ti=.d (.v (.int .i64 x))) (hl:look st.lb κ=some (.row e k n f)) (ht:look g.T ty=some it) (hk:it.kind=.slice e) (he:look g.T e=some i) (hkk:k=i.size) (hone:i.zero.all oneD=true)
  (h0:0≤x) (h1:x≤n) (hg:G g K ⟨delKeys [d1,d2,d3] st.sl,(κ,.row e k n (clrF x.toNat f i.zero)) :: delKeys [κ] st.lb⟩):G g (.code (.region id ops false) :: K) st:=by
 intro C c1 c2 a w hkp hsb
 suffices hw:wpOps C.P ops (fun e' a' w'=>e'=.normal∧SimB C ⟨delKeys [d1,d2,d3] st.sl,(κ,.row e k n (clrF x.toNat f i.zero)) :: delKeys [κ] st.lb⟩ a' w') (List.range ops.size) a w by
  rw [c1] at hw
  exact G.ops hm hreg hkp (.inl ⟨rfl,hw⟩) (fun a' w' hk' hs'=>hg C c1 c2 a' w' hk' hs')
 obtain ⟨S,μ,hsim⟩:=hsb
 have hz:=hsim fun _=>false
 rw [← c2] at hd1 hd2 hd3
 rw [← c1] at hT
 subst hkk
 unfold isClr at hops
 split at hops
 ·rename_i o1 o2 o3 o4 hol
  split at hops
  ·rename_i ts' d1' ti' d2' q1 q2 q3 q4 q5 q6
   split at hops
   ·rename_i tyq a' b' d3' xs tys r1 r2 r3 r4 r5 r6
    split at hops
    ·rename_i c' ty2 hx hty
     rw [Bool.cond_eq_ite] at hops
     split at hops
     ·rename_i hbb
      simp only [Bool.and_eq_true,Bool.not_eq_true'] at hbb
      obtain ⟨⟨⟨⟨⟨b1,b2⟩,b3⟩,b4⟩,b5⟩,b6⟩:=hbb
      have b1:=Nat.eq_of_beq_eq_true b1
      have b2:=Nat.eq_of_beq_eq_true b2
      have b3:=Nat.eq_of_beq_eq_true b3
      have b4:=Nat.eq_of_beq_eq_true b4
      subst b1; subst b2; subst b3; subst b4
      simp only [Option.some.injEq,Prod.mk.injEq] at hops
      obtain ⟨rfl,rfl,rfl,rfl,rfl,rfl⟩:=hops
      have n5:a'≠b':=fun e=>by rw [e,Nat.beq_refl] at b5; cases b5
      have n6:ti'≠a':=fun e=>by rw [e,Nat.beq_refl] at b6; cases b6
      have hops:ops = #[o1,o2,o3,o4]:=by cases ops; simpa using hol
      have hxs:xs = #[.tmp c']:=by cases xs; simpa using hx
      have htys:tys = #[tyq]:=by cases tys; simpa using hty
      subst hops; subst hxs; subst htys
      show wpOps C.P #[o1,o2,o3,o4] _ [0,1,2,3] a w
      have hsz:∀ (a:Act) (d:Option Nat) (x:Value),(a.put d x).tmps.size=a.tmps.size:=fun a d x=>by cases d <;> simp [Act.put]
      have putd:∀ (a:Act) (d:Nat) (x:Value),a.tmps.size=C.nt→d < C.nt→(a.put (some d) x).eval (.tmp d)=x:=fun a d x h1 h2=>by
       show (a.tmps.setIfInBounds d x).getD d undef=x
       exact getD_set_self _ _ _ (by rw [h1]; exact h2)
      have puto:∀ (a:Act) (d u:Nat) (x:Value),u≠d→(a.put (some d) x).eval (.tmp u)=a.eval (.tmp u):=fun a d u x h=>by
       show (a.tmps.setIfInBounds d x).getD u undef=a.tmps.getD u undef
       exact getD_set_other _ _ _ _ h
      have tsz:=hz.tmps
      have hsv:=hz.slots ts'
      simp only [St.toM,hs] at hsv
      have hsv:Rel w S μ (fun _=>false) (.own κ n) (a.eval (.tmp ts')):=hsv
      have hiv:=hz.slots ti'
      simp only [St.toM,hi] at hiv
      have hiv:a.eval (.tmp ti')=.int .i64 x:=rel_int hiv
      obtain ⟨tj,z,F⟩:=tiOK_facts (hT _ _ ht)
      have hkk:=F.kind
      rw [hk] at hkk
      have hu:=kind_slice hkk
      obtain ⟨ej,ez,E⟩:=tiOK_facts (hT _ _ he)
      refine wp_step (o:=o1) rfl q3 (v:=a.eval (.tmp ts')) (w':=w) (by simp [execOp,q1]) ?_
      rw [q2]
      refine wp_step (o:=o2) rfl q6 (v:=.int .i64 x) (w':=w) (by simp [execOp,q4,puto _ _ _ _ n6,hiv]) ?_
      rw [q5]
      have ea:((a.put (some a') (a.eval (.tmp ts'))).put (some b') (.int .i64 x)).eval (.tmp a')=a.eval (.tmp ts'):=by rw [puto _ _ _ _ n5,putd _ _ _ tsz hd1]
      have eb:((a.put (some a') (a.eval (.tmp ts'))).put (some b') (.int .i64 x)).eval (.tmp b')=.int .i64 x:=putd _ _ _ (by rw [hsz]; exact tsz) hd2
      have hmem:=hz.mem κ _ hl
      have hst:(St.toM ⟨st.sl,(κ,.row e i.size n (clrF x.toNat f i.zero)) :: delKeys [κ] st.lb⟩)=st.toM.set κ (some (.row e i.size n (clrF x.toNat f i.zero))):=by
       unfold St.toM M.set
       congr 1
       funext q
       rw [look_cons,look_del]
       by_cases hq:κ=q
       ·subst hq; simp
       ·have:q ∉ [κ]:=by simp; exact fun e=>hq e.symm
        have hq':¬ q=κ:=fun e=>hq e.symm
        simp [hq,hq']
      have fin:∀ (v3:Value) (w':World),(∀ ν,Sim C (st.toM.set κ (some (.row e i.size n (clrF x.toNat f i.zero)))) a w' S μ ν)→SimB C ⟨delKeys [a',b',c'] st.sl,(κ,.row e i.size n (clrF x.toNat f i.zero)) :: delKeys [κ] st.lb⟩ (((a.put (some a') (a.eval (.tmp ts'))).put (some b') (.int .i64 x)).put (some c') v3) w':=fun v3 w' h =>
       ⟨S,μ,Sim.put3 (st:=⟨st.sl,(κ,.row e i.size n (clrF x.toNat f i.zero)) :: delKeys [κ] st.lb⟩) (fun ν=>by rw [hst]; exact h ν) _ _ v3⟩
      have same:x.toNat=n→∀ ν,Sim C (st.toM.set κ (some (.row e i.size n (clrF x.toNat f i.zero)))) a w S μ ν:=fun hxn ν=>by
       refine (hsim ν).weaken (fun t v hv=>hv) (fun κ' b' hb'=>?_)
       simp only [M.set] at hb'
       by_cases hq:κ'=κ
       ·simp only [hq,if_true,Option.some.injEq] at hb'
        subst hb'
        refine ⟨.row e i.size n f,by rw [hq]; exact hl,fun y hy=>?_⟩
        cases y with
        | none=>exact hy
        | some y =>
         cases y with
         | none=>exact hy
         | some gc =>
          obtain ⟨gg,cap⟩:=gc
          obtain ⟨cur,y1,y2,y3,y4,y5,y6⟩:=hy.at
          refine BlkAt.ok (b:=.row e i.size n _) ⟨cur,y1,y2,y3,y4,y5,fun q hq'=>?_⟩
          have:clrF x.toNat f i.zero q=f q:=by simp only [clrF]; rw [if_pos (by omega)]
          rw [this]
          exact y6 q hq'
       ·simp only [hq,if_false] at hb'
        exact ⟨b',hb',fun _ hy=>hy⟩
      have hszr:∀ w,(sizeOf e).run C.P w=.ok i.size w:=fun w=>by simp [sizeOf,typeInfo,E.info,E.size]
      have hsl:∀ (ad:Option Addr) (m cap:Nat),x≤m→m≤cap→(Instr.sliceAt tyq (.slice ad m cap) (some (.int .i64 x)) none none).run C.P w=.ok (.slice (if cap=x.toNat then ad else ad.map (·.add (x.toNat * i.size))) (m - x.toNat) (cap - x.toNat)) w:=fun ad m cap hx1 hx2=>by
       have q1:∀ (k:IntKind) (i:Int) (y:Nat) (c:BoundsCode),0≤i→i≤y→(Instr.sliceBound (.int k i) y c).run C.P w=.ok i.toNat w:=fun k i y c h0 h1=>run_sliceBound w k i y c h0 h1
       simp (disch:=omega) [Instr.sliceAt,run_underlying hu,Instr.slice,Instr.sliceBounds,q1,hszr]
      have o3run:∀ v,(Instr.sliceAt tyq (a.eval (.tmp ts')) (some (.int .i64 x)) none none).run C.P w=.ok v w→(execOp ((a.put (some a') (a.eval (.tmp ts'))).put (some b') (.int .i64 x)).eval o3).run C.P w=.ok (.value v) w:=fun v hv=>by
       simp only [execOp,r1,ea,eb,Option.map_some,Option.map_none,Sem.run_bind,hv,Result.andThen_ok,Sem.run_pure]
      have ec:∀ v3,(((a.put (some a') (a.eval (.tmp ts'))).put (some b') (.int .i64 x)).put (some c') v3).eval (.tmp c')=v3:=fun v3=>putd _ _ _ (by rw [hsz,hsz]; exact tsz) hd3
      have o4run:∀ v3 w',(Builtin.clear_ #[tyq] o4.type #[v3]).run C.P w=.ok (.tuple #[]) w'→(execOp (((a.put (some a') (a.eval (.tmp ts'))).put (some b') (.int .i64 x)).put (some c') v3).eval o4).run C.P w=.ok (.value (.tuple #[])) w':=fun v3 w' hv=>by
       simp [execOp,r4,resolve,invoke,ec,builtin,hv]
      have done:∀ v3 w',(Instr.sliceAt tyq (a.eval (.tmp ts')) (some (.int .i64 x)) none none).run C.P w=.ok v3 w→(Builtin.clear_ #[tyq] o4.type #[v3]).run C.P w=.ok (.tuple #[]) w'→(∀ ν,Sim C (st.toM.set κ (some (.row e i.size n (clrF x.toNat f i.zero)))) a w' S μ ν) →
        wpOps C.P #[o1,o2,o3,o4] (fun e' aa w'=>e'=.normal∧SimB C ⟨delKeys [a',b',c'] st.sl,(κ,.row e i.size n (clrF x.toNat f i.zero)) :: delKeys [κ] st.lb⟩ aa w') [2,3] ((a.put (some a') (a.eval (.tmp ts'))).put (some b') (.int .i64 x)) w:=fun v3 w' x1 x2 x3=>by
       refine wp_step (o:=o3) rfl r3 (o3run v3 x1) ?_
       rw [r2]
       refine wp_step (o:=o4) rfl r6 (o4run v3 w' x2) ?_
       rw [r5]
       exact ⟨rfl,fin v3 w' x3⟩
      generalize hsvv:a.eval (.tmp ts')=sv at hsv done
      cases hsv with
      | @ownNil _ ad hμ =>
       refine done _ w (hsl ad 0 0 (by omega) (Nat.le_refl _)) ?_ (same (by omega))
       have:0 - x.toNat=0:=by omega
       rw [this]
       exact run_clear0 hu _ _
      | @own _ _ gg cap hμ =>
       rw [hμ] at hmem
       obtain ⟨cur,hgc,hns,hcs,hnc,hcm,hrow⟩:=hmem.at
       rcases Nat.lt_or_ge x.toNat n with hlt | hge
       ·have e3:(if cap=x.toNat then some (⟨gg,0,none⟩:Addr) else (some (⟨gg,0,none⟩:Addr)).map (·.add (x.toNat * i.size)))=some ⟨gg,x.toNat * i.size,none⟩:=by
         rw [if_neg (by omega)]
         simp [addr_add]
        have hmul:x.toNat * i.size+(n - x.toNat) * i.size=n * i.size:=by rw [← Nat.add_mul]; congr 1; omega
        have hle:x.toNat * i.size+(n - x.toNat) * i.size≤cur.size:=by rw [hmul,hcs]; exact Nat.mul_le_mul_right _ hnc
        have hzsz:ez.cells.size=i.size:=by have:=(zeroOK_rd (w:=w) (S:=S) E.zok).1; simp only [Array.length_toList] at this; rw [this,E.zlen]
        have hzlen:(Builtin.zeroCells ez.cells (n - x.toNat)).toList.length=(n - x.toNat) * i.size:=by simp [Builtin.zeroCells,hzsz]
        have hrun:=run_clear_row (P:=C.P) (t:=tyq) (ty:=o4.type) (c:=cap - x.toNat) E hone hu (by omega:0 < n - x.toNat) hgc hle
        refine done _ _ ((hsl _ n cap h1 hnc).trans (by rw [e3])) hrun (fun ν=>(hsim ν).write hl hμ (b':=.row e i.size n _) ⟨_,setRow_heap w gg cur _ e _ hgc,hns,?_,hnc,hcm,fun q hq=>⟨?_,fun j hj=>?_⟩⟩)
        ·simp only [List.size_toArray,List.length_append,List.length_take,List.length_drop,Array.length_toList,hzlen]
         have:n * i.size≤cap * i.size:=Nat.mul_le_mul_right _ hnc
         omega
        ·simp only [clrF]
         split
         ·exact (hrow q hq).1
         ·exact E.zlen
        ·have hqj:q * i.size+j < n * i.size:=by
          calc q * i.size+j < q * i.size+i.size:=by omega
           _=(q+1) * i.size:=by rw [Nat.add_mul,Nat.one_mul]
           _≤n * i.size:=Nat.mul_le_mul_right _ hq
         rw [List.getElem?_toArray]
         by_cases hqx:q < x.toNat
         ·have hqx':q * i.size+j < x.toNat * i.size:=by
           calc q * i.size+j < q * i.size+i.size:=by omega
            _=(q+1) * i.size:=by rw [Nat.add_mul,Nat.one_mul]
            _≤x.toNat * i.size:=Nat.mul_le_mul_right _ hqx
          obtain ⟨u,hu1,hu2⟩:=(hrow q hq).2 j hj
          refine ⟨u,?_,?_⟩
          ·rw [List.append_assoc,List.getElem?_append_left (by simp; omega),List.getElem?_take,if_pos hqx']
           simpa using hu1
          ·have:clrF x.toNat f i.zero q=f q:=by simp only [clrF]; rw [if_pos hqx]
           rw [this]
           exact hu2.mono (fun _ x=>x) (fun b hb=>setRow_other w gg b _ (fun e=>hns (e ▸ hb)))
         ·have hxq:x.toNat * i.size≤q * i.size:=Nat.mul_le_mul_right _ (by omega)
          have hin:q * i.size+j - x.toNat * i.size < (n - x.toNat) * i.size:=by omega
          have hmod:(q * i.size+j - x.toNat * i.size) % ez.cells.size=j:=by
           rw [hzsz,show q * i.size+j - x.toNat * i.size=i.size * (q - x.toNat)+j from by rw [Nat.mul_sub,Nat.mul_comm i.size q,Nat.mul_comm i.size x.toNat]; omega,Nat.mul_add_mod,Nat.mod_eq_of_lt hj]
          have hj':j < ez.cells.size:=by omega
          obtain ⟨_,z2⟩:=zeroOK_rd (w:=w.setRow gg (cur.toList.take (x.toNat * i.size)++(Builtin.zeroCells ez.cells (n - x.toNat)).toList++cur.toList.drop (x.toNat * i.size+(n - x.toNat) * i.size)).toArray) (S:=S) E.zok
          refine ⟨ez.cells[j],?_,?_⟩
          ·rw [List.append_assoc,List.getElem?_append_right (by simp; omega),List.getElem?_append_left (by rw [hzlen]; simp; omega)]
           have:(List.take (x.toNat * i.size) cur.toList).length=x.toNat * i.size:=by simp; omega
           rw [this]
           simp only [Builtin.zeroCells,Array.getElem?_toList,Array.getElem?_map,Array.getElem?_range,hzsz,hin,if_true,Option.map_some]
           rw [← hzsz] at hmod ⊢
           rw [hmod,getElem!_pos ez.cells j hj']
          ·have:clrF x.toNat f i.zero q=i.zero:=by simp only [clrF]; rw [if_neg hqx]
           rw [this]
           have:=z2 j (by rw [E.zlen]; exact hj)
           rwa [show ez.cells.toList.getD j undef=ez.cells[j] from by simp [List.getD,hj']] at this
       ·refine done _ w (hsl _ n cap h1 hnc) ?_ (same (by omega))
        have:n - x.toNat=0:=by omega
        rw [this]
        exact run_clear0 hu _ _
     ·cases hops
    ·cases hops
   ·cases hops
  ·cases hops
 ·cases hops
end
def slD {α:Type} [Inhabited α] (cells:α→List D) (l:List α):D:=.sl l.length fun i=>cells (l.getD i default)
def intC (n:Int):List D:=[.v (.int .i64 n)]
def strC (s:ByteArray):List D:=[.v (.string s)]
theorem wrap64_id {n:Int} (h1 : -9223372036854775808≤n) (h2:n≤9223372036854775807):IntKind.i64.wrap n=n:=IntWalk.i64_in n ⟨h1,h2⟩
theorem row_cat {α:Type} [Inhabited α] (cells:α→List D) (L M:List α) :
  (L.length+M.length=(L++M).length)∧∀ i,i < L.length+M.length→(if i < L.length then cells (L.getD i default) else cells (M.getD (i - L.length) default))=cells ((L++M).getD i default):=by
 refine ⟨by simp,fun i hi=>?_⟩
 split
 ·rename_i h
  simp [List.getD,List.getElem?_append_left h]
 ·rename_i h
  simp [List.getD,List.getElem?_append_right (Nat.le_of_not_lt h)]
def AvLeL:List AV→List AV→Prop
 | [],[]=>True
 | x :: r,y :: s=>AvLe x y∧AvLeL r s
 | _,_=>False
theorem AvLeL.rel {w:World} {S:Nat→Prop} {μ:Mu} {ν:Nat→Bool}:∀ {l l':List AV} {vs:List Value},AvLeL l l'→RelL w S μ ν l vs→RelL w S μ ν l' vs
 | [],[],_,_,h=>h
 | x :: r,y :: s,vs,h,hr=>by
  obtain ⟨h1,h2⟩:=h
  cases vs with
  | nil=>exact absurd hr.1 (by simp)
  | cons v vs =>
   have ht:RelL w S μ ν r vs:=⟨by simpa using hr.1,fun i hi=>by simpa using hr.2 (i+1) (by simpa using hi)⟩
   have:=AvLeL.rel h2 ht
   refine ⟨by simpa using this.1,fun i hi=>?_⟩
   cases i with
   | zero=>exact h1 _ _ _ _ _ (by simpa using hr.2 0 (by simp))
   | succ i=>simpa using this.2 i (by simpa using hi)
 | [],_ :: _,_,h,_=>h.elim
 | _ :: _,[],_,h,_=>h.elim
theorem FnA.argLe {P:Program} {f:FuncId} {args args':List AV} {lbs lbs':List (Nat × Blk)} {res:AV} (h:FnA P f args' lbs res lbs') (hle:AvLeL args args'):FnA P f args lbs res lbs' :=
 ⟨h.1,fun w S μ vs h1 hg h2 h3 h4=>h.2 w S μ vs h1 hg (fun ν=>hle.rel (h2 ν)) h3 h4⟩
def panL (pv:Value):List PanicEntry:=[{ v:=pv,recovered:=false }]
def FnP (P:Program) (f:FuncId) (args:List AV) (lbs:List (Nat × Blk)) (pv:Value):Prop :=
 callable P f=true∧∀ (w:World) (S:Nat→Prop) (μ:Mu) (vs:Array Value),(∀ b,S b→b < w.heap.size)→GlobOK w S→(∀ ν,RelL w S μ ν args vs.toList)→(∀ κ b,look lbs κ=some b→BlkOK w S μ b (μ κ))→InjOn lbs μ →
  Calls P f vs w fun e w'=>e=.panicked (panL pv)∧Kept w w' (Handed lbs μ)
section
variable {C : Cx} {A : M} {a : Act} {w w' : World} {S : Nat → Prop} {μ : Mu} {ν : Nat → Bool} {lbs : List (Nat × Blk)}
theorem Sim.panic (hs:Sim C A a w S μ ν) (hlb:∀ p,p∈lbs→A.lb p.1=some p.2) (hk:Kept w w' (Handed lbs μ)):Sim C ⟨fun _=>.any,fun κ=>if κ∈lbs.map (·.1) then none else A.lb κ⟩ a w' S μ ν:=by
 have hlk:∀ κ b,look lbs κ=some b→A.lb κ=some b:=fun κ b h=>hlb (κ,b) (look_mem h)
 have hT:∀ q,Handed lbs μ q→C.w0.heap.size≤q∨C.T0 q:=fun q ⟨κ,b,c,h1,h2⟩=>hs.own κ b q c (hlk κ b h1) h2
 have hTs:∀ q,Handed lbs μ q→¬ S q:=fun q ⟨κ,b,c,h1,h2⟩=>by
  have:=hs.mem κ b (hlk κ b h1)
  rw [h2] at this
  exact this.at.not
 have hw:∀ q,S q→w'.heap[q]? = w.heap[q]?:=fun q hq=>hk.block q (hs.bound q hq) (fun ht=>hTs q ht hq)
 have hl:∀ κ b,(if κ∈lbs.map (·.1) then none else A.lb κ)=some b→κ ∉ lbs.map (·.1)∧A.lb κ=some b:=fun κ b h=>by
  split at h
  ·cases h
  ·rename_i hn
   exact ⟨hn,h⟩
 refine ⟨hs.tmps,hs.defers,fun t=>.any _,fun κ b hb=>?_,fun κ1 κ2 b1 b2 g c c' h1 h2 h3 h4=>hs.inj κ1 κ2 b1 b2 g c c' (hl _ _ h1).2 (hl _ _ h2).2 h3 h4,fun κ b g c hb hμ=>hs.own κ b g c (hl _ _ hb).2 hμ,hs.stable,hs.fresh,fun b hb=>Nat.lt_of_lt_of_le (hs.bound b hb) hk.size,?_⟩
 ·obtain ⟨hn,hb⟩:=hl _ _ hb
  have hm:=hs.mem κ b hb
  refine hm.mono (fun _ x=>x) hw (fun _ _ e=>e) (fun g c e=>?_)
  rw [e] at hm
  refine ⟨hk.block g hm.at.lt (fun ⟨κ2,b2,c2,h1,h2⟩=>?_),hm.at.not⟩
  have:=hs.inj κ κ2 b b2 g c c2 hb (hlk _ _ h1) e h2
  subst this
  exact hn (look_keys h1)
 ·refine hs.kept.trans hk (fun b hb h=>?_)
  rcases hT b h with h' | h'
  ·omega
  ·exact h'
theorem oper_panic {o:Oper} {cf:Operand} {xs:Array Operand} {ts:Array TypeId} {f:FuncId} {args caps:List AV} {pv:Value}
  (hs:Sim C A a w S μ ν) (ho:o.op=.call { callee:=.value cf,args:=xs,argTypes:=ts }) (hcf:Rel w S μ ν (.fn f caps) (a.eval cf)) (hargs:RelL w S μ ν args (xs.toList.map a.eval)) (hn:noG.noGL (args++caps)=true)
  (hfn:FnP C.P f (args++caps) lbs pv) (hlb:∀ p,p∈lbs→A.lb p.1=some p.2) {next:Act→World→Prop} {Q:Exit→Act→World→Prop} (hq:∀ w',Kept w w' (Handed lbs μ)→Q (.panic (panL pv)) a w'):o.wp C.P a w next Q:=by
 generalize hcv:a.eval cf=cv at hcf
 cases hcf with
 | @fn _ _ cvs hl hh =>
  unfold Oper.wp
  rw [run_callOp ho hcv hfn.1]
  have hall:RelL w S μ ν (args++caps) (xs.map a.eval++cvs).toList:=by
   rw [Array.toList_append,Array.toList_map]
   exact hargs.append ⟨by simpa using hl,fun i hi=>by rw [← getD_toList]; exact hh i hi⟩
  have hlk:∀ κ b,look lbs κ=some b→A.lb κ=some b:=fun κ b h=>hlb (κ,b) (look_mem h)
  refine (hfn.2 w S μ (xs.map a.eval++cvs) hs.bound hs.glob (fun ν'=>hall.nu hn) (fun κ b hk=>hs.mem κ b (hlk κ b hk)) (fun κ κ' b b' g c c' h1 h2 h3 h4=>hs.inj κ κ' b b' g c c' (hlk _ _ h1) (hlk _ _ h2) h3 h4)).mono ?_
  rintro e w' ⟨rfl,hk⟩
  exact hq w' hk
theorem oper_actP {P:Program} {o:Oper} {a:Act} {w:World} {next:Act→World→Prop} {Q:Exit→Act→World→Prop} {K:Array Value→Prop} (hK:∀ (a:Act) (v:Value),K a.tmps→K (a.put o.dst v).tmps) (hq:∀ a w,¬ Q .outgrown a w) (ha:K a.tmps)
  (h:o.wp P a w next Q):o.wp P a w (fun a' w'=>next a' w'∧K a'.tmps) (fun e a' w'=>Q e a' w'∧K a'.tmps):=by
 unfold Oper.wp at *
 generalize (execOp a.eval o).run P w=r at *
 have no:¬ LetsOut Q:=fun ⟨_,_,q⟩=>hq _ _ q
 cases r with
 | ok n w' =>
  cases n <;> simp only [Oper.upon] at h ⊢ <;>
   first
    | exact ⟨h,hK _ _ ha⟩
    | exact ⟨h,hK { a with defers:=_ :: a.defers } _ ha⟩
    | exact Calls.mono h (fun e w'' he=>by cases e <;> first | exact ⟨he,hK _ _ ha⟩ | exact ⟨he,ha⟩ | exact absurd he (hq _ _) | exact absurd he no)
    | exact Rows.mono h (fun _ _ he=>⟨he,hK _ _ ha⟩)
 | halt x w'=>cases x <;> simp only [Oper.upon] at h ⊢ <;> first | exact h.elim | exact ⟨h,ha⟩ | exact absurd h (hq _ _)
theorem wpOps_actP {P:Program} {ops:Array Oper} {Q:Exit→Act→World→Prop} {K:Array Value→Prop} (hK:PutOK ops K) (hq:∀ a w,¬ Q .outgrown a w):∀ (is:List Nat) (a:Act) (w:World),K a.tmps→wpOps P ops Q is a w→wpOps P ops (fun e a' w'=>Q e a' w'∧K a'.tmps) is a w
 | [],a,w,ha,h=>⟨h,ha⟩
 | i :: is,a,w,ha,h=>by
  simp only [wpOps] at h ⊢
  cases ho:ops[i]? with
  | none=>rw [ho] at h; exact wpOps_actP hK hq is a w ha h
  | some o =>
   rw [ho] at h
   simp only at h ⊢
   split
   ·rename_i hw
    rw [if_pos hw] at h
    rcases h with h | ⟨_,_,_,q⟩
    ·exact .inl (Oper.wp_mono (fun a' w' hh=>wpOps_actP hK hq is a' w' hh.2 hh.1) (oper_actP (fun a v=>hK i o a v ho) hq ha h))
    ·exact absurd q (hq _ _)
   ·rename_i hw
    rw [if_neg hw] at h
    exact wpOps_actP hK hq is _ w (hK i o a undef ho ha) h
theorem wpOps_pre {ops:Array Oper} {Q:Exit→Act→World→Prop} (rest:List Nat):∀ (L:List Tr) (k:Nat) (A B:M) (a:Act) (w:World) (S:Nat→Prop) (μ:Mu),
  k+L.length≤ops.size→(∀ i τ o,L[i]? = some τ→ops[k+i]? = some o→OpSound C ν ops o τ∧∀ p,p∈τ.gs→ν p.1=p.2)→Exec L A B→FreshAll L A→ordOK L=true→Sim C A a w S μ ν →
  (∀ a' w' S' μ',Sim C B a' w' S' μ' ν→wpOps C.P ops Q rest a' w')→wpOps C.P ops Q (List.range' k L.length++rest) a w
 | [],k,A,B,a,w,S,μ,_,_,he,_,_,hs,hq=>by
  cases he
  exact hq a w S μ hs
 | τ :: L,k,A,B,a,w,S,μ,hk,ho,he,hf,hord,hs,hq=>by
  have hk':k < ops.size:=by simp at hk; omega
  have hop:ops[k]? = some ops[k]:=Array.getElem?_eq_getElem hk'
  obtain ⟨h1,h2⟩:=he
  obtain ⟨o1,o2⟩:=ordOK_cons hord
  have hrest:∀ a' w' S' μ',Sim C (τ.apply A) a' w' S' μ' ν→wpOps C.P ops Q (List.range' (k+1) L.length++rest) a' w':=fun a' w' S' μ' hs' =>
   wpOps_pre rest L (k+1) (τ.apply A) B a' w' S' μ' (by simp at hk; omega) (fun i τ' o hi hoi=>ho (i+1) τ' o (by simpa using hi) (by rw [← hoi]; congr 1; omega)) h2
    (fun σ hσ κ hκ=>(hf σ (List.mem_cons_of_mem _ hσ) κ hκ).apply (o1 σ hσ κ hκ)) o2 hs' hq
  have hso:=(ho 0 τ ops[k] rfl (by simp))
  have:=hso.1 A a w S μ hs h1 (hf τ List.mem_cons_self) hso.2
  simp only [List.length_cons,List.range'_succ,List.cons_append,wpOps,hop]
  split
  ·rename_i hw
   rw [if_pos hw] at this
   left
   unfold Oper.wp at *
   generalize (execOp a.eval ops[k]).run C.P w=r at *
   cases r with
   | ok n w' =>
    cases n <;> simp only [Oper.upon] at this ⊢ <;>
     first
      | exact (let ⟨S',μ',q⟩:=this; hrest _ _ S' μ' q)
      | exact Calls.mono this (fun e w'' he=>by cases e <;> first | exact (let ⟨S',μ',q⟩:=he; hrest _ _ S' μ' q) | exact he.elim | exact (let ⟨_,_,q⟩:=he; q.elim))
      | exact Rows.mono this (fun _ _ he=>let ⟨S',μ',q⟩:=he; hrest _ _ S' μ' q)
   | halt x w'=>cases x <;> simp only [Oper.upon] at this ⊢ <;> exact this.elim
  ·rename_i hw
   rw [if_neg hw] at this
   exact let ⟨S',μ',q⟩:=this; hrest _ _ S' μ' q
theorem looks_keys {lb:List (Nat × Blk)}:∀ {ks:List Nat} {l:List (Nat × Blk)},looks lb ks=some l→l.map (·.1)=ks
 | [],l,h=>by simp only [looks,Option.some.injEq] at h; subst h; rfl
 | k :: r,l,h=>by
  simp only [looks] at h
  split at h
  ·rename_i b l' _ h2
   simp only [Option.some.injEq] at h
   subst h
   simp [looks_keys h2]
  ·cases h
def prSl (hand:List Nat) (sl:List (Nat × AV)):List Nat→List (Nat × AV)
 | []=>[]
 | t :: r=>(match St.get sl t with
  | .ptr κ off=>bif hand.any (fun q=>Nat.beq q κ) then prSl hand sl r else (t,.ptr κ off) :: prSl hand sl r
  | _=>prSl hand sl r)
theorem prSl_get {hand:List Nat} {sl:List (Nat × AV)}:∀ (l:List Nat) (t:Nat) (x:AV),look (prSl hand sl l) t=some x→∃ κ off,x=.ptr κ off∧St.get sl t=x
 | [],t,x,h=>by cases h
 | u :: r,t,x,h=>by
  unfold prSl at h
  split at h
  ·rename_i κ off hg
   generalize hb:hand.any _=bb at h
   cases bb with
   | true=>exact prSl_get r t x h
   | false =>
    simp only [cond_false,look_cons] at h
    split at h
    ·rename_i e
     subst e
     simp only [Option.some.injEq] at h
     subst h
     exact ⟨κ,off,rfl,hg⟩
    ·exact prSl_get r t x h
  ·exact prSl_get r t x h
theorem ptr_rel {w w':World} {S S':Nat→Prop} {μ:Mu} {ν ν':Nat→Bool} {κ off:Nat} {v:Value} (h:Rel w S μ ν (.ptr κ off) v):Rel w' S' μ ν' (.ptr κ off) v:=by
 cases h with
 | ptr hμ=>exact .ptr hμ
theorem region_panic {T:List (Nat × TI)} (hT:TOk C.P T) {ops:Array Oper} {i:Nat} {o:Oper} {cf:Operand} {xs:Array Operand} {ts:Array TypeId} {f:FuncId} {args caps:List AV} {pv:Value} {st st1:St} {orc orc':List Orc} {trs:List Tr} {gl:List (Nat × Bool)} {ob:Ob} {hand:List Nat}
  (h:evOps C.P T C.nt ops (ops.toList.take i) st [] orc=some (trs,st1,gl,orc',ob)) (hob:ob.den) (hord:ordOK trs=true) (hfr:trs.all (fun τ=>τ.created.all (freshB st))=true)
  (ho:ops[i]? = some o) (hg:o.guard=none) (hop:o.op=.call { callee:=.value cf,args:=xs,argTypes:=ts }) (hcf:rhoN (needOf st1.sl (slotsOf (cf :: xs.toList))) [] cf=some (.fn f caps)) (hargs:argsOf (rhoN (needOf st1.sl (slotsOf (cf :: xs.toList))) []) xs.toList=some args)
  (hn:noG.noGL (args++caps)=true) (hl:looks st1.lb hand=some lbs) (hfn:FnP C.P f (args++caps) lbs pv) (hs:SimB C st a w) (pr:List Nat) :
  wpOps C.P ops (fun e a' w'=>e=.panic (panL pv)∧SimB C ⟨prSl hand st1.sl pr,delKeys hand st1.lb⟩ a' w') (List.range ops.size) a w:=by
 let ν:Nat→Bool:=fun s=>(look gl s).getD false
 have hν:∀ s e,look gl s=some e→ν s=e:=fun s e hl=>by simp [ν,hl]
 obtain ⟨i1,i2,i3,_⟩:=evOps_sound (C:=C) (ν:=ν) hT h hob hν
 obtain ⟨S,μ,hsim⟩:=hs
 have hi:i < ops.size:=(Array.getElem?_eq_some_iff.1 ho).1
 have hlen:trs.length=i:=by rw [i1]; simp; omega
 have hfa:FreshAll trs st.toM:=fun τ hτ κ hκ=>by
  simp only [List.all_eq_true] at hfr
  exact freshB_spec (hfr τ hτ κ hκ)
 have hr:List.range ops.size=List.range' 0 trs.length++(i :: List.range' (i+1) (ops.size - i - 1)):=by
  rw [hlen,List.range_eq_range']
  have e:ops.size=i+(ops.size - i - 1+1):=by omega
  conv=>lhs; rw [e]
  rw [← List.range'_append_1,List.range'_succ]
  simp
 rw [hr]
 refine wpOps_pre (C:=C) (ν:=ν) _ trs 0 st.toM st1.toM a w S μ (by omega) (fun j τ o' h1 h2=>i2 j τ o' h1 ?_) i3 hfa hord (hsim ν) (fun a' w' S' μ' hs'=>?_)
 ·have hj:j < i:=by rw [← hlen]; exact (List.getElem?_eq_some_iff.1 h1).1
  rw [List.getElem?_take_of_lt hj]
  simpa using h2
 ·simp only [wpOps,ho]
  rw [if_pos (by simp [Region.wanted,hg])]
  left
  have hneed:∀ q,q∈needOf st1.sl (slotsOf (cf :: xs.toList))→Rel w' S' μ' ν q.2 (a'.tmps.getD q.1 undef):=fun q hq=>by
   obtain ⟨e,-⟩:=needOf_mem hq
   rw [e]
   exact hs'.slots q.1
  have hρ:∀ x y,rhoN (needOf st1.sl (slotsOf (cf :: xs.toList))) [] x=some y→Rel w' S' μ' ν y (a'.eval x):=fun x y hxy=>rhoN_rel hs'.glob hneed (fun _ h=>by cases h) x y hxy
  have hlb:=looks_spec hl
  refine oper_panic hs' hop (hρ _ _ hcf) (argsOf_rel hρ _ _ hargs) hn hfn hlb (fun w'' hk=>⟨rfl,S',μ',fun ν'=>?_⟩)
  have hp:=hs'.panic hlb hk
  refine ⟨hp.tmps,hp.defers,fun t=>?_,fun κ b hb=>hp.mem κ b ?_,fun κ1 κ2 b1 b2 g c c' h1 h2=>hp.inj κ1 κ2 b1 b2 g c c' ?_ ?_,fun κ b g c hb=>hp.own κ b g c ?_,hp.stable,hp.fresh,hp.bound,hp.kept⟩
  ·simp only [St.toM,St.get]
   cases hlo:look (prSl hand st1.sl pr) t with
   | none=>exact .any _
   | some x =>
    obtain ⟨κ,off,rfl,hx⟩:=prSl_get _ _ _ hlo
    have:=hs'.slots t
    simp only [St.toM] at this
    rw [hx] at this
    exact ptr_rel this
  all_goals
   simp only [looks_keys hl]
   show (if _∈hand then none else look st1.lb _)=_
   rw [← look_del]
   assumption
end
def panOK (ops:Array Oper) (j:Nat) (trs:List Tr):Bool :=
 Nat.beq trs.length (j+1)&&ordOK trs &&
 ((List.range (j+1)).all fun i=>match ops[i]?,trs[i]? with
  | some o,some τ=>(o.after.all fun e=>!Region.binds .any e||decide (e.on < i))&&(List.range i).all fun k=>afterB o k||match trs[k]? with | some σ=>σ.indep τ||heldB ops 4 i k | none=>false
  | _,_=>false) &&
 (List.range ops.size).all fun i=>Nat.ble i j||match ops[i]? with | some o=>afterB o j||heldB ops 4 i j | none=>false
section
variable {C : Cx} {ν : Nat → Bool} {ops : Array Oper}
theorem wpAny_trsP {Q:Exit→Act→World→Prop} (j:Nat) (trs:List Tr) (hok:panOK ops j trs=true) (hop:∀ (i:Nat) (τ:Tr) (o:Oper),i < j→trs[i]? = some τ→ops[i]? = some o→OpSound C ν ops o τ∧∀ p,p∈τ.gs→ν p.1=p.2)
  (hpan:∀ (τ:Tr) (o:Oper),trs[j]? = some τ→ops[j]? = some o→∀ A a w S μ,Sim C A a w S μ ν→En τ A→Region.wanted o (yielded ops a.tmps)=true∧∀ next,o.wp C.P a w next Q) (B:M) :
  ∀ (fuel:Nat) (rem:List Nat) (listed:Array Bool) (A:M) (a:Act) (w:World) (S:Nat→Prop) (μ:Mu),rem.length≤fuel→rem.Pairwise (· < ·)→listed.size=ops.size →
   (∀ i,i∈rem↔(i < j+1∧listed.getD i true=false))→(∀ i,j < i→i < ops.size→listed.getD i true=false)→j∈rem→Exec (rem.map fun i=>trs.getD i dfT) A B→FreshAll (rem.map fun i=>trs.getD i dfT) A→ordOK (rem.map fun i=>trs.getD i dfT)=true →
   (∀ (m:Nat) (o:Oper),ops[m]? = some o→listed.getD m false=true→∀ e,e∈o.after→Region.binds .any e=true→listed.getD e.on false=true)→Sim C A a w S μ ν→wpAny C.P .any ops Q fuel listed a w:=by
 simp only [panOK,Bool.and_eq_true,List.all_eq_true,List.mem_range,Bool.or_eq_true] at hok
 obtain ⟨⟨⟨hlen,_⟩,hall⟩,hbeh⟩:=hok
 have hlen:=Nat.eq_of_beq_eq_true hlen
 have hsp:∀ i,i < j+1→∃ o τ,ops[i]? = some o∧trs[i]? = some τ∧(∀ e,e∈o.after→Region.binds .any e=true→e.on < i)∧∀ k,k < i→(afterB o k=true∨heldB ops 4 i k=true)∨∃ σ,trs[k]? = some σ∧σ.indep τ=true:=by
  intro i hi
  have h:=hall i hi
  have ht:trs[i]? = some (trs[i]'(by omega)):=List.getElem?_eq_getElem (by omega)
  cases ho:ops[i]? with
  | none=>rw [ho] at h; cases h
  | some o =>
   rw [ho,ht] at h
   simp only [Bool.and_eq_true,Array.all_eq_true',Bool.or_eq_true,Bool.not_eq_true',decide_eq_true_eq,List.all_eq_true,List.mem_range] at h
   refine ⟨_,_,rfl,ht,fun e he hb=>?_,fun k hk=>?_⟩
   ·rcases h.1 e he with h' | h'
    ·rw [hb] at h'; cases h'
    ·exact h'
   ·rcases h.2 k hk with h' | h'
    ·exact .inl (.inl h')
    ·have htk:trs[k]? = some (trs[k]'(by omega)):=List.getElem?_eq_getElem (by omega)
     rw [htk] at h'
     simp only [Bool.or_eq_true] at h'
     exact h'.elim (fun h'=>.inr ⟨_,htk,h'⟩) (fun h'=>.inl (.inr h'))
 have hjs:j < ops.size:=by obtain ⟨o,_,ho,_⟩:=hsp j (Nat.lt_succ_self j); exact (Array.getElem?_eq_some_iff.1 ho).1
 intro fuel
 induction fuel with
 | zero =>
  intro rem listed A a w S μ hrl _ _ _ _ hj _ _ _ _ _
  have hnil:rem=[]:=List.eq_nil_of_length_eq_zero (Nat.le_zero.1 hrl)
  rw [hnil] at hj
  cases hj
 | succ fuel ih =>
  intro rem listed A a w S μ hrl hsort hls hrem hsuf hjr he hf hord hcl hs
  refine ⟨fun hr=>?_,fun i hi=>?_⟩
  ·exfalso
   match rem,hrl,hsort,hrem,hjr with
   | [],_,_,_,hjr=>cases hjr
   | i :: rem,_,hsort,hrem,_ =>
    have h0:=(hrem i).1 List.mem_cons_self
    obtain ⟨o,τ,ho,_,hb,_⟩:=hsp i h0.1
    have:i∈Region.ready .any ops listed:=mem_ready.2 ⟨h0.2,o,ho,fun e he hbe=>by
     have hlt:=hb e he hbe
     cases hl:listed.getD e.on false with
     | true=>rfl
     | false =>
      exfalso
      have:e.on∈i :: rem:=(hrem e.on).2 ⟨by omega,by
       have h1:e.on < listed.size:=by omega
       simp only [Array.getD_eq_getD_getElem?,Array.getElem?_eq_getElem h1,Option.getD_some] at hl ⊢
       exact hl⟩
      rcases List.mem_cons.1 this with h2 | h2
      ·omega
      ·have:=(List.pairwise_cons.1 hsort).1 e.on h2
       omega⟩
    rw [hr] at this
    cases this
  ·obtain ⟨hun,o',ho',hall'⟩:=mem_ready.1 hi
   have hisz:i < ops.size:=(Array.getElem?_eq_some_iff.1 ho').1
   have listedF:∀ k,k∈rem→listed.getD k false=true→False:=fun k hk h3=>by
    have h4:=((hrem k).1 hk).2
    have h5:k < listed.size:=by have:=((hrem k).1 hk).1; omega
    simp only [Array.getD_eq_getD_getElem?,Array.getElem?_eq_getElem h5,Option.getD_some] at h3 h4
    rw [h3] at h4
    cases h4
   have hij:i < j+1:=by
    by_cases hc:i < j+1
    ·exact hc
    ·exfalso
     have h1:=hbeh i hisz
     rw [ho'] at h1
     rcases h1 with h1 | h1
     ·have:=Nat.le_of_ble_eq_true h1; omega
     ·simp only [Bool.or_eq_true] at h1
      refine listedF j hjr ?_
      rcases h1 with h1 | h1
      ·simp only [afterB,Array.any_eq_true',Bool.and_eq_true,beq_iff_eq] at h1
       obtain ⟨e,he1,he2,he3⟩:=h1
       have h3:=hall' e he1 he2
       rw [he3] at h3
       exact h3
      ·exact heldB_listed hcl 4 i j o' ho' hall' h1
   obtain ⟨o,τ,ho,hτ,hb,hpre⟩:=hsp i hij
   obtain rfl:o'=o:=by rw [ho] at ho'; exact (Option.some.inj ho').symm
   have hirem:i∈rem:=(hrem i).2 ⟨hij,hun⟩
   obtain ⟨r1,r2,rfl,hr1⟩:=split_at hsort hirem
   have hτd:trs.getD i dfT=τ:=by simp [List.getD,hτ]
   simp only [List.map_append,List.map_cons,hτd] at he hf hord
   have hind:∀ σ,σ∈(r1.map fun i=>trs.getD i dfT)→Indep σ τ:=by
    intro σ hσ
    obtain ⟨k,hk,rfl⟩:=List.mem_map.1 hσ
    have hji:=hr1 k hk
    rcases hpre k hji with h' | ⟨σ',hσ',hi'⟩
    ·exfalso
     refine listedF k (List.mem_append.2 (.inl hk)) ?_
     rcases h' with h' | h'
     ·simp only [afterB,Array.any_eq_true',Bool.and_eq_true,beq_iff_eq] at h'
      obtain ⟨e,he1,he2,he3⟩:=h'
      have h3:=hall' e he1 he2
      rw [he3] at h3
      exact h3
     ·exact heldB_listed hcl 4 i k o' ho hall' h'
    ·have:trs.getD k dfT=σ':=by simp [List.getD,hσ']
     rw [this]
     exact Tr.indep_spec hi'
   obtain ⟨hen,hex⟩:=move_front _ A he hind
   obtain ⟨om,ord'⟩:=ordOK_mid hord
   show wpOp C.P ops Q i _ a w
   by_cases hijj:i=j
   ·subst hijj
    obtain ⟨hw,hp⟩:=hpan τ o' hτ ho A a w S μ hs hen
    unfold wpOp
    simp only [ho]
    rw [if_pos hw]
    exact .inl (hp _)
   have hso:=hop i τ o' (by omega) hτ ho
   have hstep:=hso.1 A a w S μ hs hen (hf τ (List.mem_append.2 (.inr List.mem_cons_self))) hso.2
   have hfr:FreshAll ((r1++r2).map fun i=>trs.getD i dfT) (τ.apply A):=by
    intro σ hσ κ hκ
    rw [List.map_append] at hσ
    rcases List.mem_append.1 hσ with h' | h'
    ·exact (hf σ (List.mem_append.2 (.inl h')) κ hκ).apply ((hind σ h').h κ hκ)
    ·exact (hf σ (List.mem_append.2 (.inr (List.mem_cons_of_mem _ h'))) κ hκ).apply (om σ h' κ hκ)
   have hlt:i < listed.size:=by omega
   have hnd:i ∉ r1++r2:=by
    intro hc
    rw [List.pairwise_append] at hsort
    rcases List.mem_append.1 hc with hc | hc
    ·exact absurd (hsort.2.2 i hc i List.mem_cons_self) (Nat.lt_irrefl i)
    ·exact absurd ((List.pairwise_cons.1 hsort.2.1).1 i hc) (Nat.lt_irrefl i)
   have hrest:∀ a' w' S' μ',Sim C (τ.apply A) a' w' S' μ' ν→wpAny C.P .any ops Q fuel (listed.setIfInBounds i true) a' w':=fun a' w' S' μ' hs' =>
    ih (r1++r2) (listed.setIfInBounds i true) (τ.apply A) a' w' S' μ' (by simp at hrl ⊢; omega) (by
     rw [List.pairwise_append] at hsort ⊢
     exact ⟨hsort.1,(List.pairwise_cons.1 hsort.2.1).2,fun x hx y hy=>hsort.2.2 x hx y (List.mem_cons_of_mem _ hy)⟩) (by simpa using hls) (fun k=>by
     by_cases hji:k=i
     ·subst hji
      refine ⟨fun hc=>absurd hc hnd,fun hc=>?_⟩
      have:=hc.2
      simp [Array.getD,hlt] at this
     ·rw [getD_set_ne true (fun e=>hji e.symm)]
      rw [← hrem k]
      simp [hji]) (fun k hk hk2=>by
     rw [getD_set_ne true (fun e=>by omega)]
     exact hsuf k hk hk2) (by
     rcases List.mem_append.1 hjr with h | h
     ·exact List.mem_append.2 (.inl h)
     ·rcases List.mem_cons.1 h with h | h
      ·exact absurd h.symm hijj
      ·exact List.mem_append.2 (.inr h)) (by rw [List.map_append]; exact hex) hfr (by rw [List.map_append]; exact ord') (fun m o hm hl e he1 he2=>by
      have key:listed.getD e.on false=true:=by
       by_cases hmi:m=i
       ·subst hmi
        rw [ho] at hm
        obtain rfl:=Option.some.inj hm
        exact hall' e he1 he2
       ·rw [getD_set_ne false (fun e=>hmi e.symm)] at hl
        exact hcl m o hm hl e he1 he2
      by_cases hei:e.on=i
      ·rw [hei]; simp [Array.getD,hlt]
      ·rw [getD_set_ne false (fun e=>hei e.symm)]; exact key) hs'
   unfold wpOp
   simp only [ho]
   split
   ·rename_i hw
    rw [if_pos hw] at hstep
    left
    unfold Oper.wp at *
    generalize (execOp a.eval o').run C.P w=r at *
    cases r with
    | ok n w' =>
     cases n <;> simp only [Oper.upon] at hstep ⊢ <;>
      first
       | exact (let ⟨S',μ',q⟩:=hstep; hrest _ _ S' μ' q)
       | exact Calls.mono hstep (fun e w'' he=>by cases e <;> first | exact (let ⟨S',μ',q⟩:=he; hrest _ _ S' μ' q) | exact he.elim | exact (let ⟨_,_,q⟩:=he; q.elim))
       | exact Rows.mono hstep (fun _ _ he=>let ⟨S',μ',q⟩:=he; hrest _ _ S' μ' q)
    | halt x w'=>cases x <;> simp only [Oper.upon] at hstep ⊢ <;> exact hstep.elim
   ·rename_i hw
    rw [if_neg hw] at hstep
    exact let ⟨S',μ',q⟩:=hstep; hrest _ _ S' μ' q
end
theorem Exec.append:∀ {L1 L2:List Tr} {A B D:M},Exec L1 A B→Exec L2 B D→Exec (L1++L2) A D
 | [],_,_,_,_,h1,h2=>by cases h1; exact h2
 | _ :: _,_,_,_,_,h1,h2=>⟨h1.1,Exec.append h1.2 h2⟩
section
variable {C : Cx} {a : Act} {w : World}
theorem region_panicD {T:List (Nat × TI)} (hT:TOk C.P T) {ops:Array Oper} {j:Nat} {o:Oper} {cf:Operand} {xs:Array Operand} {ts:Array TypeId} {f:FuncId} {args caps:List AV} {pv:Value} {st st1:St} {orc orc':List Orc} {trs:List Tr} {gl:List (Nat × Bool)} {ob:Ob} {hand:List Nat} {lbs:List (Nat × Blk)} {dst:Option Nat}
  (h:evOps C.P T C.nt ops (ops.toList.take j) st [] orc=some (trs,st1,gl,orc',ob)) (hob:ob.den) (hfr:trs.all (fun τ=>τ.created.all (freshB st))=true)
  (ho:ops[j]? = some o) (hg:o.guard=none) (hop:o.op=.call { callee:=.value cf,args:=xs,argTypes:=ts }) (hcf:rhoN (needOf st1.sl (slotsOf (cf :: xs.toList))) [] cf=some (.fn f caps)) (hargs:argsOf (rhoN (needOf st1.sl (slotsOf (cf :: xs.toList))) []) xs.toList=some args)
  (hn:noG.noGL (args++caps)=true) (hl:looks st1.lb hand=some lbs) (hok:panOK ops j (trs++[⟨needOf st1.sl (slotsOf (cf :: xs.toList)),dst,.any,[],lbs,[],[]⟩])=true) (hfn:FnP C.P f (args++caps) lbs pv) (hs:SimB C st a w) :
  wpAny C.P .any ops (fun e a' w'=>e=.panic (panL pv)∧SimB C ⟨[],[]⟩ a' w') ops.size (Array.replicate ops.size false) a { w with drawn:=w.drawn+1 }:=by
 let ν:Nat→Bool:=fun s=>(look gl s).getD false
 have hν:∀ s e,look gl s=some e→ν s=e:=fun s e hl=>by simp [ν,hl]
 obtain ⟨i1,i2,i3,_⟩:=evOps_sound (C:=C) (ν:=ν) hT h hob hν
 obtain ⟨S,μ,hsim⟩:=hs
 have hj:j < ops.size:=(Array.getElem?_eq_some_iff.1 ho).1
 have hlen:trs.length=j:=by rw [i1]; simp; omega
 have hok':=hok
 simp only [panOK,Bool.and_eq_true] at hok'
 generalize hτ:(⟨needOf st1.sl (slotsOf (cf :: xs.toList)),dst,.any,[],lbs,[],[]⟩:Tr)=τ at hok hok'
 have hτn:τ.need=needOf st1.sl (slotsOf (cf :: xs.toList)):=by rw [← hτ]
 have hτm:τ.mem=lbs:=by rw [← hτ]
 have hτc:τ.created=[]:=by rw [← hτ]; rfl
 have hτr:τ.ro=[]:=by rw [← hτ]
 have hen:En τ st1.toM:=⟨fun p hp=>(by rw [hτn] at hp; exact (needOf_mem hp).1.symm),fun p hp=>(by rw [hτr] at hp; cases hp),fun p hp=>(by rw [hτm] at hp; exact looks_spec hl p hp)⟩
 have hex:Exec (trs++[τ]) st.toM (τ.apply st1.toM):=i3.append ⟨hen,rfl⟩
 have hmap:((List.range (j+1)).map fun i=>(trs++[τ]).getD i dfT)=trs++[τ]:=by
  apply List.ext_getElem?
  intro i
  by_cases hi:i < j+1
  ·simp [hi,List.getD,List.getElem?_eq_getElem (by simp; omega:i < (trs++[τ]).length)]
  ·simp [hi,List.getElem?_eq_none (by simp; omega:(trs++[τ]).length≤i)]
 have hfa:FreshAll (trs++[τ]) st.toM:=fun σ hσ κ hκ=>by
  rcases List.mem_append.1 hσ with h' | h'
  ·simp only [List.all_eq_true] at hfr
   exact freshB_spec (hfr σ h' κ hκ)
  ·rw [List.mem_singleton] at h'
   rw [h',hτc] at hκ
   cases hκ
 have hw':Sim C st.toM a { w with drawn:=w.drawn+1 } S μ ν:=(hsim ν).world (fun _ x=>x) (fun _ x=>.inl x) ⟨rfl,rfl,rfl,Nat.le_refl _,fun _ _ _=>rfl⟩
 refine wpAny_trsP (C:=C) (ν:=ν) j (trs++[τ]) hok (fun i σ o' hij h1 h2=>i2 i σ o' ?_ ?_) (fun σ o' h1 h2 A a' w' S' μ' hs' he'=>?_) (τ.apply st1.toM) ops.size (List.range (j+1)) _ st.toM a _ S μ (by simp; omega) List.pairwise_lt_range (by simp) (fun i=>?_) (fun i _ hi=>by simp [Array.getD,hi]) (by simp) (by rw [hmap]; exact hex) (by rw [hmap]; exact hfa) (by rw [hmap]; exact hok'.1.1.2) (fun m o' hm hl'=>?_) hw'
 ·rw [List.getElem?_append_left (by omega)] at h1
  exact h1
 ·rw [List.getElem?_take_of_lt hij]
  simpa using h2
 ·rw [List.getElem?_append_right (by omega),hlen,Nat.sub_self] at h1
  simp only [List.getElem?_cons_zero,Option.some.injEq] at h1
  subst h1
  obtain rfl:o=o':=by rw [ho] at h2; exact Option.some.inj h2
  refine ⟨by simp [Region.wanted,hg],fun next=>?_⟩
  have hneed:∀ q,q∈needOf st1.sl (slotsOf (cf :: xs.toList))→Rel w' S' μ' ν q.2 (a'.tmps.getD q.1 undef):=fun q hq=>by
   have:=he'.need q (by rw [hτn]; exact hq)
   rw [← this]
   exact hs'.slots q.1
  have hρ:∀ x y,rhoN (needOf st1.sl (slotsOf (cf :: xs.toList))) [] x=some y→Rel w' S' μ' ν y (a'.eval x):=fun x y hxy=>rhoN_rel hs'.glob hneed (fun _ h=>by cases h) x y hxy
  have hlb:∀ p,p∈lbs→A.lb p.1=some p.2:=fun p hp=>he'.mem p (by rw [hτm]; exact hp)
  refine oper_panic hs' hop (hρ _ _ hcf) (argsOf_rel hρ _ _ hargs) hn hfn hlb (fun w'' hk=>⟨rfl,S',μ',fun ν'=>?_⟩)
  have hp:=hs'.panic hlb hk
  exact ⟨hp.tmps,hp.defers,fun t=>.any _,fun κ b hb=>(by cases hb),fun κ1 κ2 b1 b2 g c c' h1=>(by cases h1),fun κ b g c hb=>(by cases hb),hp.stable,hp.fresh,hp.bound,hp.kept⟩
 ·simp only [List.mem_range]
  refine ⟨fun hi=>⟨hi,by simp [Array.getD,show i < ops.size by omega]⟩,fun hi=>hi.1⟩
 ·exfalso
  have hm':m < ops.size:=(Array.getElem?_eq_some_iff.1 hm).1
  simp [Array.getD,hm'] at hl'
end
section
variable {C : Cx} {a : Act} {w : World}
theorem oper_raise {o:Oper} {x:Operand} {t:TypeId} {u:Value} (ho:o.op=.panic x) (hx:a.eval x=.iface t u) {P:Program} {next:Act→World→Prop} {Q:Exit→Act→World→Prop} (hq:Q (.panic (panL (.iface t u))) a w):o.wp P a w next Q:=by
 unfold Oper.wp execOp
 rw [ho]
 unfold panL at hq
 simpa [hx,Instr.panic,goPanic,Oper.upon] using hq
theorem region_raise {T:List (Nat × TI)} (hT:TOk C.P T) {ops:Array Oper} {j:Nat} {o:Oper} {x:Operand} {t:TypeId} {u:Value} {st st1:St} {orc orc':List Orc} {trs:List Tr} {gl:List (Nat × Bool)} {ob:Ob} {draw:Bool} {dst:Option Nat}
  (h:evOps C.P T C.nt ops (ops.toList.take j) st [] orc=some (trs,st1,gl,orc',ob)) (hob:ob.den) (hfr:trs.all (fun τ=>τ.created.all (freshB st))=true)
  (ho:ops[j]? = some o) (hg:o.guard=none) (hop:o.op=.panic x) (hx:rhoN (needOf st1.sl (slotsOf [x])) [] x=some (.d (.v (.iface t u)))) (hok:(bif draw then panOK ops j (trs++[⟨needOf st1.sl (slotsOf [x]),dst,.any,[],[],[],[]⟩]) else ordOK trs)=true) (hs:SimB C st a w) :
  (draw=false∧wpOps C.P ops (fun e a' w'=>e=.panic (panL (.iface t u))∧SimB C ⟨[],[]⟩ a' w') (List.range ops.size) a w)∨(draw=true∧wpAny C.P .any ops (fun e a' w'=>e=.panic (panL (.iface t u))∧SimB C ⟨[],[]⟩ a' w') ops.size (Array.replicate ops.size false) a { w with drawn:=w.drawn+1 }):=by
 let ν:Nat→Bool:=fun s=>(look gl s).getD false
 have hν:∀ s e,look gl s=some e→ν s=e:=fun s e hl=>by simp [ν,hl]
 obtain ⟨i1,i2,i3,_⟩:=evOps_sound (C:=C) (ν:=ν) hT h hob hν
 obtain ⟨S,μ,hsim⟩:=hs
 have hj:j < ops.size:=(Array.getElem?_eq_some_iff.1 ho).1
 have hlen:trs.length=j:=by rw [i1]; simp; omega
 have hpan:∀ (A:M) a' w' S' μ',Sim C A a' w' S' μ' ν→(∀ p,p∈needOf st1.sl (slotsOf [x])→A.sl p.1=p.2)→∀ next,o.wp C.P a' w' next (fun e a' w'=>e=.panic (panL (.iface t u))∧SimB C ⟨[],[]⟩ a' w'):=fun A a' w' S' μ' hs' he next=>by
  have hneed:∀ q,q∈needOf st1.sl (slotsOf [x])→Rel w' S' μ' ν q.2 (a'.tmps.getD q.1 undef):=fun q hq=>by
   rw [← he q hq]
   exact hs'.slots q.1
  have hv:=rel_scalar rfl (rhoN_rel hs'.glob hneed (fun _ h=>by cases h) x _ hx)
  exact oper_raise hop hv ⟨rfl,S',μ',fun ν'=>⟨hs'.tmps,hs'.defers,fun t=>.any _,fun κ b hb=>(by cases hb),fun κ1 κ2 b1 b2 g c c' h1=>(by cases h1),fun κ b g c hb=>(by cases hb),hs'.stable,hs'.fresh,hs'.bound,hs'.kept⟩⟩
 have hfa0:FreshAll trs st.toM:=fun τ hτ κ hκ=>by
  simp only [List.all_eq_true] at hfr
  exact freshB_spec (hfr τ hτ κ hκ)
 cases draw with
 | false =>
  refine .inl ⟨rfl,?_⟩
  have hr:List.range ops.size=List.range' 0 trs.length++(j :: List.range' (j+1) (ops.size - j - 1)):=by
   rw [hlen,List.range_eq_range']
   have e:ops.size=j+(ops.size - j - 1+1):=by omega
   conv=>lhs; rw [e]
   rw [← List.range'_append_1,List.range'_succ]
   simp
  rw [hr]
  refine wpOps_pre (C:=C) (ν:=ν) _ trs 0 st.toM st1.toM a w S μ (by omega) (fun i τ o' h1 h2=>i2 i τ o' h1 ?_) i3 hfa0 hok (hsim ν) (fun a' w' S' μ' hs'=>?_)
  ·have hi:i < j:=by rw [← hlen]; exact (List.getElem?_eq_some_iff.1 h1).1
   rw [List.getElem?_take_of_lt hi]
   simpa using h2
  ·simp only [wpOps,ho]
   rw [if_pos (by simp [Region.wanted,hg])]
   exact .inl (hpan st1.toM a' w' S' μ' hs' (fun p hp=>(needOf_mem hp).1.symm) _)
 | true =>
  refine .inr ⟨rfl,?_⟩
  have hok:panOK ops j (trs++[⟨needOf st1.sl (slotsOf [x]),dst,.any,[],[],[],[]⟩])=true:=hok
  have hok':=hok
  simp only [panOK,Bool.and_eq_true] at hok'
  generalize hτ:(⟨needOf st1.sl (slotsOf [x]),dst,.any,[],[],[],[]⟩:Tr)=τ at hok hok'
  have hτn:τ.need=needOf st1.sl (slotsOf [x]):=by rw [← hτ]
  have hτm:τ.mem=[]:=by rw [← hτ]
  have hτc:τ.created=[]:=by rw [← hτ]; rfl
  have hτr:τ.ro=[]:=by rw [← hτ]
  have hen:En τ st1.toM:=⟨fun p hp=>(by rw [hτn] at hp; exact (needOf_mem hp).1.symm),fun p hp=>(by rw [hτr] at hp; cases hp),fun p hp=>(by rw [hτm] at hp; cases hp)⟩
  have hex:Exec (trs++[τ]) st.toM (τ.apply st1.toM):=i3.append ⟨hen,rfl⟩
  have hmap:((List.range (j+1)).map fun i=>(trs++[τ]).getD i dfT)=trs++[τ]:=by
   apply List.ext_getElem?
   intro i
   by_cases hi:i < j+1
   ·simp [hi,List.getD,List.getElem?_eq_getElem (by simp; omega:i < (trs++[τ]).length)]
   ·simp [hi,List.getElem?_eq_none (by simp; omega:(trs++[τ]).length≤i)]
  have hfa:FreshAll (trs++[τ]) st.toM:=fun σ hσ κ hκ=>by
   rcases List.mem_append.1 hσ with h' | h'
   ·exact hfa0 σ h' κ hκ
   ·rw [List.mem_singleton] at h'
    rw [h',hτc] at hκ
    cases hκ
  have hw':Sim C st.toM a { w with drawn:=w.drawn+1 } S μ ν:=(hsim ν).world (fun _ x=>x) (fun _ x=>.inl x) ⟨rfl,rfl,rfl,Nat.le_refl _,fun _ _ _=>rfl⟩
  refine wpAny_trsP (C:=C) (ν:=ν) j (trs++[τ]) hok (fun i σ o' hij h1 h2=>i2 i σ o' ?_ ?_) (fun σ o' h1 h2 A a' w' S' μ' hs' he'=>?_) (τ.apply st1.toM) ops.size (List.range (j+1)) _ st.toM a _ S μ (by simp; omega) List.pairwise_lt_range (by simp) (fun i=>?_) (fun i _ hi=>by simp [Array.getD,hi]) (by simp) (by rw [hmap]; exact hex) (by rw [hmap]; exact hfa) (by rw [hmap]; exact hok'.1.1.2) (fun m o' hm hl'=>?_) hw'
  ·rw [List.getElem?_append_left (by omega)] at h1
   exact h1
  ·rw [List.getElem?_take_of_lt hij]
   simpa using h2
  ·rw [List.getElem?_append_right (by omega),hlen,Nat.sub_self] at h1
   simp only [List.getElem?_cons_zero,Option.some.injEq] at h1
   subst h1
   obtain rfl:o=o':=by rw [ho] at h2; exact Option.some.inj h2
   exact ⟨by simp [Region.wanted,hg],hpan A a' w' S' μ' hs' (fun p hp=>he'.need p (by rw [hτn]; exact hp))⟩
  ·simp only [List.mem_range]
   refine ⟨fun hi=>⟨hi,by simp [Array.getD,show i < ops.size by omega]⟩,fun hi=>hi.1⟩
  ·exfalso
   have hm':m < ops.size:=(Array.getElem?_eq_some_iff.1 hm).1
   simp [Array.getD,hm'] at hl'
end
def Goal.PanAt (g:Goal) (st:St) (pv:Value):Prop:=∀ C a w,C.P=g.P→C.nt=g.nt→SimB C st a w→∀ b cs todo,b.fn=g.f→b.kind=.normal→b.roundOf=none→g.Z C b cs (lone { b.at a todo with mode:=.panicking (panL pv) } cs w)
def Goal.Pan (g:Goal) (pv:Value):Prop:=∀ st,g.PanAt st pv
def Goal.PanK (g:Goal) (st:St) (pv:Value):Prop:=∀ C a w,C.P=g.P→C.nt=g.nt→g.kept a.tmps→SimB C st a w→∀ b cs todo,b.fn=g.f→b.kind=.normal→b.roundOf=none→g.Z C b cs (lone { b.at a todo with mode:=.panicking (panL pv) } cs w)
theorem Goal.PanAt.k {g:Goal} {st:St} {pv:Value} (h:g.PanAt st pv):g.PanK st pv:=fun C a w h1 h2 _ hs=>h C a w h1 h2 hs
theorem Goal.PanK.le {g:Goal} {st st':St} {pv:Value} (hl:LeS st st') (h:g.PanK st' pv):g.PanK st pv:=fun C a w h1 h2 hk hs=>h C a w h1 h2 hk (hl C a w hs)
section
variable {g : Goal} {k : List Item} {st st1 : St} {lbs : List (Nat × Blk)}
theorem G.panic (hmd:g.md≠1) (hT:TOk g.P g.T) {id:Nat} {ops:Array Oper} {i:Nat} {o:Oper} {cf:Operand} {xs:Array Operand} {ts:Array TypeId} {f:FuncId} {args caps:List AV} {pv:Value} {orc orc':List Orc} {trs:List Tr} {gl:List (Nat × Bool)} {ob:Ob} {hand:List Nat}
  (h:evOps g.P g.T g.nt ops (ops.toList.take i) st [] orc=some (trs,st1,gl,orc',ob)) (hob:ob.den) (hord:ordOK trs=true) (hfr:trs.all (fun τ=>τ.created.all (freshB st))=true)
  (ho:ops[i]? = some o) (hg:o.guard=none) (hop:o.op=.call { callee:=.value cf,args:=xs,argTypes:=ts }) (hcf:rhoN (needOf st1.sl (slotsOf (cf :: xs.toList))) [] cf=some (.fn f caps)) (hargs:argsOf (rhoN (needOf st1.sl (slotsOf (cf :: xs.toList))) []) xs.toList=some args)
  (hn:noG.noGL (args++caps)=true) (hl:looks st1.lb hand=some lbs) (hfn:FnP g.P f (args++caps) lbs pv) (hr0:regR g.md g.pr ops=true) (hp:g.PanK ⟨prSl hand st1.sl g.pr,delKeys hand st1.lb⟩ pv):G g (.code (.region id ops false) :: k) st:=by
 intro C h1 h2 a w hk hs b cs hb1 hb2 hb3
 have hr:b.roundOf=none:=hb3.2 hmd
 have hw:=region_panic (C:=C) (T:=g.T) (by rw [h1]; exact hT) (by rw [h1,h2]; exact h) hob hord hfr ho hg hop hcf hargs hn hl (by rw [h1]; exact hfn) hs g.pr
 rw [h1] at hw
 obtain ⟨e,a',w',⟨⟨rfl,hs'⟩,hk'⟩,todo,hst⟩:=(wp_region (id:=id) (wpOps_actP (Goal.putOK hr0) (fun a w h=>by cases h.1) _ _ _ hk hw)) b k cs
 refine g.zs C b cs _ _ ?_ (hp C a' w' h1 h2 hk' hs' b cs todo hb1 hb2 hr)
 rw [Frame.atR_of_none hr]
 exact hst
end
section
variable {g : Goal} {k : List Item} {st st1 : St} {lbs : List (Nat × Blk)}
theorem G.panicD (hm:g.P.follows .mixedOrders=true) (hmd:g.md≠1) (hT:TOk g.P g.T) {id:Nat} {ops:Array Oper} {j:Nat} {o:Oper} {cf:Operand} {xs:Array Operand} {ts:Array TypeId} {f:FuncId} {args caps:List AV} {pv:Value} {orc orc':List Orc} {trs:List Tr} {gl:List (Nat × Bool)} {ob:Ob} {hand:List Nat} {dst:Option Nat}
  (h:evOps g.P g.T g.nt ops (ops.toList.take j) st [] orc=some (trs,st1,gl,orc',ob)) (hob:ob.den) (hfr:trs.all (fun τ=>τ.created.all (freshB st))=true)
  (ho:ops[j]? = some o) (hg:o.guard=none) (hop:o.op=.call { callee:=.value cf,args:=xs,argTypes:=ts }) (hcf:rhoN (needOf st1.sl (slotsOf (cf :: xs.toList))) [] cf=some (.fn f caps)) (hargs:argsOf (rhoN (needOf st1.sl (slotsOf (cf :: xs.toList))) []) xs.toList=some args)
  (hn:noG.noGL (args++caps)=true) (hl:looks st1.lb hand=some lbs) (hok:panOK ops j (trs++[⟨needOf st1.sl (slotsOf (cf :: xs.toList)),dst,.any,[],lbs,[],[]⟩])=true) (hfn:FnP g.P f (args++caps) lbs pv) (hp:g.PanAt ⟨[],[]⟩ pv):G g (.code (.region id ops true) :: k) st:=by
 intro C h1 h2 a w hk hs b cs hb1 hb2 hb3
 have hr:b.roundOf=none:=hb3.2 hmd
 have hw:=region_panicD (C:=C) (T:=g.T) (by rw [h1]; exact hT) (by rw [h1,h2]; exact h) hob hfr ho hg hop hcf hargs hn hl hok (by rw [h1]; exact hfn) hs
 rw [h1] at hw
 obtain ⟨e,a',w',⟨rfl,hs'⟩,todo,hst⟩:=(wp_region_any (id:=id) hm hw) b k cs
 refine g.zs C b cs _ _ ?_ (hp C a' w' h1 h2 hs' b cs todo hb1 hb2 hr)
 rw [Frame.atR_of_none hr]
 exact hst
end
section
variable {g : Goal} {k : List Item} {st st1 : St}
theorem G.raise (hm:g.P.follows .mixedOrders=true) (hmd:g.md≠1) (hT:TOk g.P g.T) {id:Nat} {ops:Array Oper} {j:Nat} {o:Oper} {x:Operand} {t:TypeId} {u:Value} {orc orc':List Orc} {trs:List Tr} {gl:List (Nat × Bool)} {ob:Ob} {draw:Bool} {dst:Option Nat}
  (h:evOps g.P g.T g.nt ops (ops.toList.take j) st [] orc=some (trs,st1,gl,orc',ob)) (hob:ob.den) (hfr:trs.all (fun τ=>τ.created.all (freshB st))=true)
  (ho:ops[j]? = some o) (hg:o.guard=none) (hop:o.op=.panic x) (hx:rhoN (needOf st1.sl (slotsOf [x])) [] x=some (.d (.v (.iface t u)))) (hok:(bif draw then panOK ops j (trs++[⟨needOf st1.sl (slotsOf [x]),dst,.any,[],[],[],[]⟩]) else ordOK trs)=true) (hp:g.PanAt ⟨[],[]⟩ (.iface t u)):G g (.code (.region id ops draw) :: k) st:=by
 intro C h1 h2 a w hk hs b cs hb1 hb2 hb3
 have hr:b.roundOf=none:=hb3.2 hmd
 have hw:=region_raise (C:=C) (T:=g.T) (by rw [h1]; exact hT) (by rw [h1,h2]; exact h) hob hfr ho hg hop hx hok hs
 rw [h1] at hw
 have hc:(Code.region id ops draw).wp g.P (fun e a' w'=>e=.panic (panL (.iface t u))∧SimB C ⟨[],[]⟩ a' w') a w:=by
  rcases hw with ⟨rfl,hw⟩ | ⟨rfl,hw⟩
  ·exact wp_region hw
  ·exact wp_region_any hm hw
 obtain ⟨e,a',w',⟨rfl,hs'⟩,todo,hst⟩:=hc b k cs
 refine g.zs C b cs _ _ ?_ (hp C a' w' h1 h2 hs' b cs todo hb1 hb2 hr)
 rw [Frame.atR_of_none hr]
 exact hst
end
section
variable {g : Goal} {k : List Item} {st : St}
theorem G.scope {c:Code} (h:G g (.code c :: .inScope c :: k) st):G g (.code (.scope c) :: k) st:=fun C h1 h2 a w hk hs=>(h C h1 h2 a w hk hs).step fun _ _=>.one (step_lone_go (by simp [stepG,stepG.exec,Frame.atR]))
theorem G.inScope {c:Code} (h:G g k st):G g (.inScope c :: k) st:=fun C h1 h2 a w hk hs=>(h C h1 h2 a w hk hs).step fun _ _=>.one (step_lone_go (by simp [stepG,stepG.exec,Frame.atR]))
end
theorem step_takenP {P:Program} {cs:List Frame}:∀ (l:List Deferred) (fr:Frame) (w:World),fr.mode≠.run→fr.defers=l→l.Nodup→(∀ d,d∈l→∃ q,d = { target:=.collected q,args:=#[] }∧w.heap[q]? = some (.deferred (some []))) →
  ∃ w',Steps P (lone fr cs w) (lone { fr with defers:=[] } cs w')∧Kept w w' (fun q=>({ target:=.collected q,args:=#[] }:Deferred)∈l)
 | [],fr,w,_,hd,_,_=>⟨w,by rw [show ({ fr with defers:=[] }:Frame)=fr by rw [← hd]]; exact .refl _ _,Kept.refl _ _⟩
 | d :: l,fr,w,hm,hd,hnd,hl=>by
  obtain ⟨q,rfl,hq⟩:=hl d (by simp)
  have h1:=step_collected (P:=P) (cs:=cs) (d:={ target:=.collected q,args:=#[] }) hm hd rfl (run_takeDeferred hq)
  have hk:Kept w (w.putObj q (.deferred none)) (fun b=>b=q):=⟨rfl,rfl,rfl,by simp [World.putObj],fun b _ hb=>World.putObj_heap_other hb⟩
  obtain ⟨w',h2,h3⟩:=step_takenP l { fr with defers:=[]++l } (w.putObj q (.deferred none)) hm rfl (List.nodup_cons.1 hnd).2 (fun d hd'=>by
   obtain ⟨p,rfl,hp⟩:=hl d (by simp [hd'])
   refine ⟨p,rfl,?_⟩
   have hne:p≠q:=fun e=>(List.nodup_cons.1 hnd).1 (e ▸ hd')
   rw [World.putObj_heap_other hne]; exact hp)
  refine ⟨w',.head h1 h2,(hk.mono' (fun b hb=>by subst hb; simp)).trans h3 (fun b _ hb=>by simp [hb])⟩
def ZX (P:Program) (f:FuncId) (res:AV) (lbs:List (Nat × Blk)) (anc:List (Nat × Nat)) (tm:Array Value) (pv:Value) (C:Cx) (_:Frame) (cs:List Frame) (m:Machine):Prop :=
 C.dx=[]→∃ e w' fr,(PostB C res lbs anc tm e w'∨(e=.panicked (panL pv)∧Kept C.w0 w' C.TD))∧Comes P m (lone fr cs w') e∧fr.fn=f∧fr.leaving P w' e
def Goal.ofX (P:Program) (T:List (Nat × TI)) (nt:Nat) (f:FuncId) (fn:Func) (res:AV) (lbs:List (Nat × Blk)) (anc:List (Nat × Nat)) (tm:Array Value) (pv:Value):Goal :=
 ⟨P,T,nt,f,fn,res,lbs,3,anc.map (·.1),tm,ZX P f res lbs anc tm pv,fun _ _ _ _ _ hs hz hd=>let ⟨e,w',fr,q1,q2,q3⟩:=hz hd; ⟨e,w',fr,q1,.of_steps hs q2,q3⟩⟩
theorem Goal.ofX_pan {P:Program} {T:List (Nat × TI)} {nt:Nat} {f:FuncId} {fn:Func} {res:AV} {lbs:List (Nat × Blk)} {anc:List (Nat × Nat)} {tm:Array Value} {pv:Value} (hf:P.funcs[f]? = some fn):(Goal.ofX P T nt f fn res lbs anc tm pv).Pan pv:=by
 intro st C a w h1 h2 ⟨S,μ,hs⟩ b cs todo hb1 hb2 hb3 hdx
 have h0:=hs fun _=>false
 obtain ⟨w',q1,q2⟩:=step_takenP (P:=P) (cs:=cs) C.dl { b.at a todo with mode:=.panicking (panL pv) } w (by simp) h0.defers C.dnd (fun d hd=>(h0.dokw d hd).elim (fun h=>by rw [hdx] at h; cases h) (fun ⟨q,e,h,_⟩=>⟨q,e,h⟩))
 refine ⟨.panicked (panL pv),w',_,.inr ⟨rfl,(h0.kept.mono' (fun _ x=>.inl x)).trans q2 (fun b _ hb=>.inr hb)⟩,q1,hb1,rfl,rfl,fn,?_⟩
 show P.funcs[b.fn]? = _
 rw [hb1]; exact hf
def badA:AV:=.d (.sl (maxLen+1) fun _=>[])
theorem badA_rel {w:World} {S:Nat→Prop} {μ:Mu} {ν:Nat→Bool} {v:Value} (h:Rel w S μ ν badA v):False:=by
 have hr:=rel_d.1 h
 generalize hn:maxLen+1=n at hr
 cases hr with
 | nil=>simp [maxLen] at hn
 | sl _ _ _ _ _ _ hc hm=>omega
theorem FnP.intro {P:Program} {T:List (Nat × TI)} {f:FuncId} {fn:Func} {body:Code} {args:List AV} {lbs:List (Nat × Blk)} {anc:List (Nat × Nat)} {pv:Value} (hf:P.funcs[f]? = some fn) (hb:fn.body=some body) (hc:callable P f=true) (hn:args.length≤fn.ntmps)
  (h:∀ tm,G (.ofX P T fn.ntmps f fn badA [] anc tm pv) [.code body] ⟨argSlots 0 args,lbs⟩):FnP P f args lbs pv:=by
 refine ⟨hc,fun w S μ vs hS hgl hargs hm hi cs=>?_⟩
 let C:Cx:=⟨P,w,S,Handed lbs μ,fn.ntmps,hgl,fun b hb ⟨κ,bk,c,q1,q2⟩=>by
  have:=hm κ bk q1
  rw [q2] at this
  exact this.at.not hb,hS,[],[],fun d h=>(by cases h),fun d h=>(by cases h),List.nodup_nil⟩
 let b:Frame:={ (default:Frame) with fn:=f,kind:=.normal,roundOf:=none }
 have hl:vs.size=args.length:=by have:=(hargs fun _=>false).1; simpa using this
 have henter:Frame.enter P f vs .normal=b.atR { tmps:=vs++Array.replicate (fn.ntmps - vs.size) undef,defers:=[] } [.code body]:=by
  simp [Frame.enter,Frame.atR,hf,hb,b]
 have hget:∀ t,t < args.length→(vs++Array.replicate (fn.ntmps - vs.size) undef).getD t undef=vs.toList.getD t undef:=fun t ht=>by
  rw [← getD_toList]
  simp only [Array.getD_eq_getD_getElem?]
  rw [Array.getElem?_append_left (by omega)]
 have hsim:SimB C ⟨argSlots 0 args,lbs⟩ { tmps:=vs++Array.replicate (fn.ntmps - vs.size) undef,defers:=[] } w:=by
  refine ⟨S,μ,fun ν=>⟨by simp [C]; omega,rfl,fun t=>?_,hm,hi,fun κ bk q c h1 h2=>.inr ⟨κ,bk,c,h1,h2⟩,fun _ hb=>hb,fun _ hb=>.inl hb,hS,Kept.refl _ _⟩⟩
  simp only [St.toM,St.get,argSlots_look,Nat.zero_le,if_true,Nat.sub_zero]
  by_cases ht:t < args.length
  ·rw [List.getElem?_eq_getElem ht]
   have h2:=(hargs ν).2 t ht
   rw [show args.getD t default=args[t] from by simp [List.getD,ht]] at h2
   rw [hget t ht]
   exact h2
  ·rw [List.getElem?_eq_none (by omega)]
   exact .any _
 obtain ⟨e,w',fr,hpost,q2,q3,q4⟩:=h (vs++Array.replicate (fn.ntmps - vs.size) undef) C rfl rfl _ _ (fun u hu=>rfl) hsim b cs rfl rfl ⟨fun _ h=>(by cases h),fun _=>rfl⟩ rfl
 rcases hpost with ⟨v,S',μ',e1,B,ha⟩ | ⟨rfl,hk⟩
 ·exact (badA_rel (B.res fun _=>false)).elim
 ·exact ⟨.panicked (panL pv),w',fr,⟨rfl,hk.mono' (fun q hq=>hq.elim id (fun h=>by cases h))⟩,by rw [henter]; exact q2,q3,q4⟩
mutual
inductive HasT (T:List (Nat × TI)):Nat→List D→Prop
 | int {t:Nat} {i:TI} {k:IntKind} (hi:look T t=some i) (hk:i.kind=.int k) (n:Int) (h:(Lit.int k n).wf=true):HasT T t [.v (.int k n)]
 | bool {t:Nat} {i:TI} (hi:look T t=some i) (hk:i.kind=.bool) (b:Bool):HasT T t [.v (.bool b)]
 | str {t:Nat} {i:TI} (hi:look T t=some i) (hk:i.kind=.str) (s:ByteArray) (h:s.size≤maxLen):HasT T t [.v (.string s)]
 | slice {t e:Nat} {i:TI} (hi:look T t=some i) (hk:i.kind=.slice e) (n:Nat) (f:Nat→List D) (h:∀ j,j < n→HasT T e (f j)):HasT T t [.sl n f]
 | struct {t:Nat} {i:TI} {fs:List (Nat × Nat)} (hi:look T t=some i) (hk:i.kind=.struct fs) (ds:List D) (h:HasFs T (fs.map (·.2)) ds):HasT T t ds
inductive HasFs (T:List (Nat × TI)):List Nat→List D→Prop
 | nil:HasFs T [] []
 | cons {t:Nat} {ts:List Nat} (p ds:List D) (h:HasT T t p) (hs:HasFs T ts ds):HasFs T (t :: ts) (p++ds)
end
def covers (T:List (Nat × TI)):Nat→List (Nat × Nat)→Option Nat
 | off,[]=>some off
 | off,(o,t) :: r=>match look T t with | some i=>bif Nat.beq o off then covers T (off+i.size) r else none | none=>none
def plain1 (T:List (Nat × TI)) (ts:List Nat) (t:Nat):Bool:=match look T t with
  | some i=>(match i.kind with
   | .int _ | .bool | .str=>true
   | .slice e=>(ts.any fun q=>Nat.beq q e)&&(match look T e with | some j=>!Nat.beq j.size 0 | none=>false)
   | .struct fs=>(match covers T 0 fs with | some n=>Nat.beq n i.size | none=>false)&&fs.all (fun f=>ts.any fun q=>Nat.beq q f.2)
   | _=>false)
  | none=>false
def closedTs (T:List (Nat × TI)) (ts:List Nat):Bool:=ts.all (plain1 T ts)
theorem any_mem {ts:List Nat} {t:Nat} (h:(ts.any fun q=>Nat.beq q t)=true):t∈ts:=by
 obtain ⟨q,hq,e⟩:=List.any_eq_true.1 h
 have:=Nat.eq_of_beq_eq_true e
 subst this
 exact hq
section
variable {H : Type} {enc : TypeId × Value → H} {P : Program} {w : World} {base : Nat} {spare : Nat → Bool} {held : Bool} {T : List (Nat × TI)}
def RdAll (w:World) (ds:List D) (cs:List Value):Prop:=ds.length=cs.length∧∀ j,j < ds.length→Rd w (fun b=>b < w.heap.size) (ds.getD j default) (cs.getD j undef)
theorem RdAll.one {d:D} {v:Value} (h:Rd w (fun b=>b < w.heap.size) d v):RdAll w [d] [v]:=⟨rfl,fun j hj=>by
 have:j=0:=by simpa using hj
 subst this
 simpa using h⟩
theorem RdAll.append {d1 d2:List D} {c1 c2:List Value} (h1:RdAll w d1 c1) (h2:RdAll w d2 c2):RdAll w (d1++d2) (c1++c2):=by
 refine ⟨by simp [h1.1,h2.1],fun j hj=>?_⟩
 by_cases h:j < d1.length
 ·have:=h1.2 j h
  have hc:j < c1.length:=by rw [← h1.1]; exact h
  simpa [List.getD,List.getElem?_append_left h,List.getElem?_append_left hc] using this
 ·have h':d1.length≤j:=Nat.le_of_not_lt h
  have hc:c1.length≤j:=by rw [← h1.1]; exact h'
  have:=h2.2 (j - d1.length) (by simp at hj; omega)
  rw [h1.1] at this
  simpa [List.getD,List.getElem?_append_right h',List.getElem?_append_right hc,h1.1] using this
theorem cellsOf_look (hT:TOk P T) {t:Nat} {i:TI} (hi:look T t=some i):P.cellsOf t=i.size:=by
 obtain ⟨j,z,F⟩:=tiOK_facts (hT _ _ hi)
 simp [Program.cellsOf,F.info,F.size]
theorem fields_has (hT:TOk P T) (cs:List Value):∀ (fs:List (Nat × Nat)) (off n:Nat),covers T off fs=some n→cs.length=n →
  (∀ f,f∈fs→∃ ds,HasT T f.2 ds∧RdAll w ds ((cs.drop f.1).take (P.cellsOf f.2)))→∃ ds,HasFs T (fs.map (·.2)) ds∧RdAll w ds (cs.drop off)
 | [],off,n,hc,hl,_=>by
  simp only [covers,Option.some.injEq] at hc
  refine ⟨[],.nil,?_⟩
  rw [List.drop_of_length_le (by omega)]
  exact ⟨rfl,fun j hj=>absurd hj (by simp)⟩
 | (o,t) :: r,off,n,hc,hl,hf=>by
  simp only [covers] at hc
  split at hc
  ·rename_i i hi
   cases hb:Nat.beq o off with
   | false=>rw [hb] at hc; cases hc
   | true =>
    rw [hb] at hc
    have ho:=Nat.eq_of_beq_eq_true hb
    subst ho
    obtain ⟨d1,t1,r1⟩:=hf (o,t) List.mem_cons_self
    obtain ⟨d2,t2,r2⟩:=fields_has hT cs r (o+i.size) n hc hl (fun f hm=>hf f (List.mem_cons_of_mem _ hm))
    refine ⟨d1++d2,.cons d1 d2 t1 t2,?_⟩
    have hsz:=cellsOf_look hT hi
    have e:cs.drop o=(cs.drop o).take (P.cellsOf t)++cs.drop (o+i.size):=by
     rw [← hsz,← List.drop_drop,List.take_append_drop]
    rw [e]
    exact r1.append r2
  ·cases hc
theorem trod_has (hT:TOk P T) {ts:List Nat} (hcl:closedTs T ts=true):∀ (n t:Nat) (cs:List Value) (x:DataW H × List MemPlace),t∈ts→DataW.trod enc P w base spare held n t cs=some x→∃ ds,HasT T t ds∧RdAll w ds cs
 | n,t,cs,x,hm,h=>by
  have hp:=List.all_eq_true.1 hcl t hm
  simp only [plain1] at hp
  split at hp
  ·rename_i i hi
   obtain ⟨tj,z,F⟩:=tiOK_facts (hT _ _ hi)
   have hk:=F.kind
   split at hp
   ·rename_i k hkind
    rw [hkind] at hk
    simp only [kindOK] at hk
    split at hk
    ·rename_i k' hu
     have:=of_decide_eq_true hk
     subst this
     obtain ⟨v,rfl,_,hw⟩:=DataW.trod_int hu h
     exact ⟨_,.int hi hkind v hw,.one (.v _ rfl)⟩
    ·cases hk
   ·rename_i hkind
    rw [hkind] at hk
    simp only [kindOK] at hk
    split at hk
    ·rename_i hu
     obtain ⟨v,rfl,_⟩:=DataW.trod_bool hu h
     exact ⟨_,.bool hi hkind v,.one (.v _ rfl)⟩
    ·cases hk
   ·rename_i hkind
    rw [hkind] at hk
    simp only [kindOK] at hk
    split at hk
    ·rename_i hu
     obtain ⟨v,rfl,_,hw⟩:=DataW.trod_string hu h
     exact ⟨_,.str hi hkind v hw,.one (.v _ rfl)⟩
    ·cases hk
   ·rename_i e hkind
    rw [hkind] at hk
    simp only [kindOK] at hk
    split at hk
    ·rename_i e' hu
     have:=beq_iff_eq.1 hk
     subst this
     simp only [Bool.and_eq_true] at hp
     obtain ⟨hpe,hsz⟩:=hp
     split at hsz
     ·rename_i je hje
      have hce:=cellsOf_look hT hje
      have hpos:0 < je.size:=by
       rcases Nat.eq_zero_or_pos je.size with h0 | h0
       ·rw [h0] at hsz; cases hsz
       ·exact h0
      rcases DataW.trod_slice hu h with ⟨rfl,_⟩ | ⟨a,len,cap,elems,rest,n',rfl,rfl,_,hb,hlc,hcm,hel,helem,_⟩
      ·exact ⟨[.sl 0 fun _=>[]],.slice hi hkind 0 _ (fun j hj=>absurd hj (Nat.not_lt_zero _)),.one (.nil _)⟩
      ·have each:∀ q,q < len→∃ cs',w.cells? base (a.add (q * P.cellsOf e)) (P.cellsOf e)=some cs'∧∃ ds,HasT T e ds∧RdAll w ds cs':=by
        intro q hq
        have hx:=helem q hq
        have hs:elems[q]? = some elems[q]:=List.getElem?_eq_getElem (by omega)
        rw [hs] at hx
        cases hc:w.cells? base (a.add (q * P.cellsOf e)) (P.cellsOf e) with
        | none=>rw [hc] at hx; cases hx
        | some cs' =>
         rw [hc] at hx
         exact ⟨cs',rfl,trod_has hT hcl n' e cs' _ (any_mem hpe) hx⟩
       classical
       let g:Nat→List D:=fun q=>if hq:q < len then (each q hq).choose_spec.2.choose else []
       let vv:Nat→List Value:=fun q=>if hq:q < len then (each q hq).choose else []
       have g1:∀ q,q < len→HasT T e (g q)∧RdAll w (g q) (vv q)∧w.cells? base (a.add (q * P.cellsOf e)) (P.cellsOf e)=some (vv q):=fun q hq=>by
        simp only [g,vv,hq,dif_pos]
        exact ⟨(each q hq).choose_spec.2.choose_spec.1,(each q hq).choose_spec.2.choose_spec.2,(each q hq).choose_spec.1⟩
       have hlen:∀ q,q < len→(g q).length=je.size:=fun q hq=>by
        obtain ⟨_,r1,c1⟩:=g1 q hq
        rw [r1.1,(World.cells?_some c1).2.1,hce]
       have hspot:len=0∨a.spot=none:=by
        rcases Nat.eq_zero_or_pos len with h0 | h0
        ·exact .inl h0
        ·right
         obtain ⟨_,_,c1⟩:=g1 0 h0
         have:=(World.cells?_some c1).2.2 0 (by omega)
         have hl:=(World.cells?_some c1).2.1
         simp only [Nat.zero_mul,Addr.add,if_true] at this
         rw [List.getElem?_eq_getElem (by omega)] at this
         unfold World.cell? at this
         cases hsp:a.spot with
         | none=>rfl
         | some s =>
          rw [hsp] at this
          split at this <;> simp at this
       refine ⟨[.sl len g],.slice hi hkind len g (fun q hq=>(g1 q hq).1),.one (.sl len g a cap je.size (fun q j=>(vv q).getD j undef) hlc hcm hspot hlen (fun q j hq hj=>?_) (fun q j hq hj=>(g1 q hq).2.1.2 j (by rw [hlen q hq]; exact hj)))⟩
       obtain ⟨_,r1,c1⟩:=g1 q hq
       have hsp:a.spot=none:=hspot.resolve_left (by omega)
       obtain ⟨ab,ao,as⟩:=a
       simp only at hsp
       subst hsp
       have hcc:=(World.cells?_some c1).2.2 j (by omega)
       have hl:=(World.cells?_some c1).2.1
       rw [addr_add,addr_add,hce,Nat.add_assoc,List.getElem?_eq_getElem (by omega)] at hcc
       refine ⟨?_,?_⟩
       ·unfold World.cell? at hcc
        split at hcc
        ·rename_i hh
         exact (Array.getElem?_eq_some_iff.1 hh).1
        ·cases hcc
       ·rw [hcc]
        simp [List.getD,List.getElem?_eq_getElem (show j < (vv q).length by omega)]
     ·cases hsz
    ·cases hk
   ·rename_i fs hkind
    rw [hkind] at hk
    simp only [kindOK] at hk
    split at hk
    ·rename_i gs hu
     have hgs:=beq_iff_eq.1 hk
     simp only [Bool.and_eq_true,List.all_eq_true] at hp
     obtain ⟨hcov,hall⟩:=hp
     split at hcov
     ·rename_i tot htot
      have htt:=Nat.eq_of_beq_eq_true hcov
      subst htt
      obtain ⟨xs,n',rfl,_,hl,hxl,hfl⟩:=DataW.trod_struct hu h
      have hfs:∀ f,f∈fs→∃ ds,HasT T f.2 ds∧RdAll w ds ((cs.drop f.1).take (P.cellsOf f.2)):=fun f hm=>by
       have hm0:=hm
       rw [← hgs] at hm
       simp only [List.mem_map] at hm
       obtain ⟨fd,hfd,rfl⟩:=hm
       obtain ⟨ix,hix,hge⟩:=List.getElem_of_mem hfd
       have hg:gs[ix]? = some fd:=by
        rw [← hge]
        simp only [Array.length_toList] at hix
        simp [hix]
       have hx:=hfl ix fd hg
       have hixx:ix < xs.length:=by rw [hxl]; simpa using hix
       rw [List.getElem?_eq_getElem hixx] at hx
       exact trod_has hT hcl n' fd.type _ _ (any_mem (hall _ hm0)) hx
      obtain ⟨ds,q1,q2⟩:=fields_has (w:=w) hT cs fs 0 i.size htot (by rw [hl,cellsOf_look hT hi]) hfs
      exact ⟨ds,.struct hi hkind ds q1,by simpa using q2⟩
     ·cases hcov
    ·cases hk
   ·cases hp
  ·cases hp
termination_by n=>n
theorem HasT.str_inv {t:Nat} {i:TI} {ds:List D} (hi:look T t=some i) (hk:i.kind=.str) (h:HasT T t ds):∃ s,ds=[.v (.string s)]∧s.size≤maxLen:=by
 cases h with
 | int hi' hk'=>rw [hi] at hi'; cases hi'; rw [hk] at hk'; cases hk'
 | bool hi' hk'=>rw [hi] at hi'; cases hi'; rw [hk] at hk'; cases hk'
 | str hi' hk' s h=>exact ⟨s,rfl,h⟩
 | slice hi' hk'=>rw [hi] at hi'; cases hi'; rw [hk] at hk'; cases hk'
 | struct hi' hk'=>rw [hi] at hi'; cases hi'; rw [hk] at hk'; cases hk'
end
section
open Go Go.ChangeShapes Go.WideShapes Go.ChangeAt Go.RowKit
def DsLe (l l':List D):Prop:=l.length=l'.length∧∀ j,j < l.length→DLe (l.getD j default) (l'.getD j default)
theorem DsLe.refl (l:List D):DsLe l l:=⟨rfl,fun _ _=>DLe.rfl'⟩
theorem DsLe.nil:DsLe [] []:=DsLe.refl _
def argAV (T:List (Nat × TI)) (t:Nat) (ds:List D):AV :=
 match look T t with
 | some i=>(match i.kind with | .struct _=>.d (.agg ds) | _=>.d (ds.getD 0 default))
 | none=>.any
def argAVs (T:List (Nat × TI)):List Nat→List (List D)→List AV
 | t :: ts,d :: ds=>argAV T t d :: argAVs T ts ds
 | _,_=>[]
def HasAll (T:List (Nat × TI)):List Nat→List (List D)→Prop
 | [],[]=>True
 | t :: ts,d :: ds=>HasT T t d∧HasAll T ts ds
 | _,_=>False
section
variable {H : Type} {enc : TypeId × Value → H} {P : Program} {W : World} {T : List (Nat × TI)}
theorem arg_rel (hT:TOk P T) {cl:List Nat} (hcl:closedTs T cl=true) {t:Nat} (hm:t∈cl) {v:Value} {d:DataW H} {ps:List MemPlace} {base:Nat} (hv:Value.okWide P W .any base t v) (h:DataW.Trod enc P W 0 (fun _=>true) true t v d ps) :
  ∃ ds,HasT T t ds∧∀ μ ν,Rel W (fun b=>b < W.heap.size) μ ν (argAV T t ds) v:=by
 obtain ⟨fuel,h⟩:=h
 obtain ⟨ds,h1,h2⟩:=trod_has hT hcl _ t _ _ hm h
 have hp:=List.all_eq_true.1 hcl t hm
 refine ⟨ds,h1,fun μ ν=>?_⟩
 ·simp only [plain1] at hp
  split at hp
  ·rename_i i hi
   obtain ⟨tj,z,F⟩:=tiOK_facts (hT _ _ hi)
   have hk:=F.kind
   have one:∀ v',v=v'→v'.cells = #[v']→Rd W (fun b=>b < W.heap.size) (ds.getD 0 default) v:=by
    rintro v' rfl hc
    rw [hc] at h2
    have:=h2.2 0 (by rw [h2.1]; simp)
    simpa using this
   simp only [argAV,hi]
   split at hp
   ·rename_i k hkind
    rw [hkind] at hk ⊢
    simp only [kindOK] at hk
    split at hk
    ·rename_i hu
     have:=of_decide_eq_true hk
     subst this
     obtain ⟨n,rfl⟩:=okWide_int hu hv
     exact .d (one _ rfl rfl)
    ·cases hk
   ·rename_i hkind
    rw [hkind] at hk ⊢
    simp only [kindOK] at hk
    split at hk
    ·rename_i hu
     obtain ⟨n,rfl⟩:=okWide_bool hu hv
     exact .d (one _ rfl rfl)
    ·cases hk
   ·rename_i hkind
    rw [hkind] at hk ⊢
    simp only [kindOK] at hk
    split at hk
    ·rename_i hu
     obtain ⟨n,rfl⟩:=okWide_string hu hv
     exact .d (one _ rfl rfl)
    ·cases hk
   ·rename_i e hkind
    rw [hkind] at hk ⊢
    simp only [kindOK] at hk
    split at hk
    ·rename_i hu
     obtain ⟨a,n,c,rfl⟩:=okWide_slice hu hv
     exact .d (one _ rfl rfl)
    ·cases hk
   ·rename_i fs hkind
    rw [hkind] at hk ⊢
    simp only [kindOK] at hk
    split at hk
    ·rename_i gs hu
     obtain ⟨cs,rfl,_⟩:=okWide_struct hu hv
     refine .d (.agg ds cs ?_ (fun j hj=>?_))
     ·have:=h2.1
      simp only [Value.cells,Array.length_toList] at this
      exact this.symm
     ·have:=h2.2 j hj
      simp only [Value.cells] at this
      simpa [List.getD,Array.getD_eq_getD_getElem?] using this
    ·cases hk
   ·cases hp
  ·cases hp
theorem args_rel (hT:TOk P T) {cl:List Nat} (hcl:closedTs T cl=true) {base:Nat}:∀ {ts:List Nat} {vs:List Value} {ds:List (DataW H)} {ps:List MemPlace},(ts.all fun t=>cl.any fun q=>Nat.beq q t)=true→(∀ (j:Nat) t v,ts[j]? = some t→vs[j]? = some v→Value.okWide P W .any base t v) →
  DataW.TrodAll enc P W 0 (fun _=>true) true ts vs ds ps→∃ dss,HasAll T ts dss∧∀ μ ν,RelL W (fun b=>b < W.heap.size) μ ν (argAVs T ts dss) vs
 | [],[],[],_,_,_,_=>⟨[],trivial,fun _ _=>⟨rfl,fun i hi=>absurd hi (by simp [argAVs])⟩⟩
 | t :: ts,v :: vs,d :: ds,ps,hp,hv,h=>by
  obtain ⟨p,q,h1,h2,rfl⟩:=h
  simp only [List.all_cons,Bool.and_eq_true] at hp
  obtain ⟨d1,x1,x2⟩:=arg_rel hT hcl (any_mem hp.1) (hv 0 t v rfl rfl) h1
  obtain ⟨dss,y1,y2⟩:=args_rel hT hcl hp.2 (fun j t v a b=>hv (j+1) t v (by simpa using a) (by simpa using b)) h2
  refine ⟨d1 :: dss,⟨x1,y1⟩,fun μ ν=>?_⟩
  have:=y2 μ ν
  refine ⟨by simp [argAVs,this.1],fun i hi=>?_⟩
  cases i with
  | zero=>simpa [argAVs] using x2 μ ν
  | succ i=>simpa [argAVs] using this.2 i (by simpa [argAVs] using hi)
 | [],_ :: _,_,_,_,_,h=>h.elim
 | [],[],_ :: _,_,_,_,h=>h.elim
 | _ :: _,[],_,_,_,_,h=>h.elim
 | _ :: _,_ :: _,[],_,_,_,h=>h.elim
theorem trodAll_stays (hl:laidOutB P=true) {W':World} (hb:Below W.heap.size W W'):∀ {ts:List Nat} {vs:List Value} {ds:List (DataW H)} {ps:List MemPlace},ts.all (fun t=>P.readableRec t&&Nat.ble (t+1) P.types.size)=true →
  (∀ p∈ps,p.block < W.heap.size)→DataW.TrodAll enc P W 0 (fun _=>true) true ts vs ds ps→DataW.TrodAll enc P W' 0 (fun b=>decide (b < W.heap.size)) true ts vs ds ps
 | [],[],[],_,_,_,h=>h
 | t :: ts,v :: vs,d :: ds,ps,hp,hlt,h=>by
  obtain ⟨p,q,h1,h2,rfl⟩:=h
  simp only [List.all_cons,Bool.and_eq_true] at hp
  exact ⟨p,q,Below.trod hl hp.1.1 (Nat.le_of_ble_eq_true hp.1.2) h1 hb (fun x hx=>hlt x (List.mem_append_left _ hx)),trodAll_stays hl hb hp.2 (fun x hx=>hlt x (List.mem_append_right _ hx)) h2,rfl⟩
 | [],_ :: _,_,_,_,_,h=>h.elim
 | [],[],_ :: _,_,_,_,h=>h.elim
 | _ :: _,[],_,_,_,_,h=>h.elim
 | _ :: _,_ :: _,[],_,_,_,h=>h.elim
theorem law_calls (hT:TOk P T) (hl:laidOutB P=true) {f:FuncId} {fn:Func} {s:ChangeSpec} {tb base:Nat} {cl:List Nat} {args:Array Value} {ds gs:List (DataW H)} {before:List MemPlace}
  (hcl:closedTs T cl=true) (hplain:(fn.params.toList.all fun t=>cl.any fun q=>Nat.beq q t)=true) (hread:fn.params.toList.all (fun t=>P.readableRec t&&Nat.ble (t+1) P.types.size)=true) (hres:fn.resultTypes = #[tb]) (hb:P.underlying tb=some .bool) (hvars:s.vars=[])
  (hval:∀ (j:Nat) t v,fn.params[j]? = some t→args[j]? = some v→Value.okWide P W .any base t v)
  (hW:DataW.Whole enc P fn.params.toList s.vars false W args.toList ds gs before)
  (hgl:GlobOK W fun b=>b < W.heap.size) (hs:(s.fn H (ds++gs)).results=[.lit (.bool true)]∧(s.fn H (ds++gs)).args=ds∧(s.fn H (ds++gs)).vars=[])
  (hlaw:∀ dss,HasAll T fn.params.toList dss→FnA P f (argAVs T fn.params.toList dss) [] (.d (.v (.bool true))) []) :
  Calls P f args W fun e W'=>∃ v,e=.returned v∧s.post enc P fn false true false false W args v W':=by
 have hlt:=hW.lt
 obtain ⟨p,q,hA,hV,hpq,hz,hn⟩:=id hW
 rw [hvars] at hV
 have hg:gs=[]∧q=[]:=by
  cases gs with
  | nil=>exact ⟨rfl,hV⟩
  | cons _ _=>exact hV.elim
 obtain ⟨dss,h1,h2⟩:=args_rel hT hcl (base:=base) hplain (fun j t v a b=>hval j t v (by simpa using a) (by simpa using b)) hA
 have hf:=hlaw dss h1
 refine Calls.mono (hf.2 W (fun b=>b < W.heap.size) (fun _=>none) args (fun _ h=>h) hgl (fun ν=>h2 _ ν) (fun κ b hb=>by simp [look] at hb) (fun κ κ' b b' g c c' hb=>by simp [look] at hb)) ?_
 rintro e W' ⟨v,S',μ',rfl,B⟩
 have hv:v=.bool true:=rel_bool (B.res fun _=>false)
 subst hv
 have hbel:Below W.heap.size W W':=⟨B.kept.os,B.kept.tape,B.kept.output,B.kept.size,fun k hk=>B.kept.block k hk (fun ⟨κ,b,c,q,_⟩=>by simp [look] at q)⟩
 refine ⟨_,rfl,ds,gs,before,[],p,[],hW,?_,?_,?_,hbel.frame _,fun h=>by cases h⟩
 ·rw [hres,hs.1]
  exact trodAll_mk1 (shut_bool hb true)
 ·rw [hs.2.1]
  exact trodAll_stays hl hbel hread (fun x hx=>hlt x (by rw [hpq]; exact List.mem_append_left _ hx)) hA
 ·rw [hs.2.2,hvars]
  exact rfl
end
end
end Go.Av
