/- Regions: one evaluation for every order. -/
import Derived.Test.YtkbkoaoolojhaaaGreatDoorLb
import Derived.OrdersIn
import Derived.RangeFuncCalls
import Derived.RangeFuncLeaves
import Derived.RangeFuncRecord
import Derived.RangeFuncKeeps
import Derived.Lib.SliceRun
import Derived.ProofKit
import Derived.Maps.RangeRun
set_option linter.unusedSimpArgs false
set_option linter.unusedVariables false
set_option linter.unusedSectionVars false
set_option maxHeartbeats 1000000
namespace Go.Av
open Go
variable [vr]
def j1 (C:Cx) (st:St) (a:Act) (w:World):Prop:=∃ S μ,∀ ν,cV C st.fB a w S μ ν
section
variable {C : Cx} {a : Act} {w : World} {S : Nat → Prop} {μ : Mu} {ν : Nat → Bool}
theorem I4 {T:List (Nat × TI)} (hT:nz C.P T) {ops:Array Oper}:∀ {l:List Oper} {st st':St} {gl TY:List (Nat × Bool)} {jN ta:List Bq} {vj:List Tr} {ob:Ob},
  TZ C.P T C.nt ops l st gl jN=some (vj,st',TY,ta,ob)→ob.den→(∀ s e,look TY s=some e→ν s=e) →
  vj.length=l.length∧(∀ (i:Nat) (τ:Tr) (o:Oper),vj[i]? = some τ→l[i]? = some o→Ln C ν ops o τ∧∀ p,p∈τ.gs→ν p.1=p.2)∧YL vj st.fB st'.fB∧∀ t x,look gl t=some x→look TY t=some x
 | [],st,st',gl,TY,jN,ta,vj,ob,h,_,_=>by
  simp only [TZ,Option.some.injEq,Prod.mk.injEq] at h
  obtain ⟨rfl,rfl,rfl,-,-⟩:=h
  exact ⟨rfl,fun i τ o h=>by simp at h,rfl,fun _ _ h=>h⟩
 | o :: r,st,st',gl,TY,jN,ta,vj,ob,h,bT,hν=>by
  simp only [TZ] at h
  split at h
  ·rename_i τ gl1 Pc BV xc
   split at h
   ·rename_i l1 nY gl2 V9 JA zW
    simp only [Option.some.injEq,Prod.mk.injEq] at h
    obtain ⟨rfl,rfl,rfl,rfl,rfl⟩:=h
    obtain ⟨i1,i2,i3,i4⟩:=I4 hT zW (Ob.cE bT).2 hν
    obtain ⟨s1,s2,s3,s4⟩:=RK hT xc (Ob.cE bT).1 (fun s e hl=>hν s e (i4 s e hl))
    refine ⟨by simp [i1],fun i τ' o' h1 h2=>?_,⟨s3,by rw [← St.Za]; exact i3⟩,fun t x hx=>i4 t x (s4 t x hx)⟩
    cases i with
    | zero =>
     simp only [List.getElem?_cons_zero,Option.some.injEq] at h1 h2
     subst h1; subst h2
     exact ⟨s1,s2⟩
    | succ i=>exact i2 i τ' o' (by simpa using h1) (by simpa using h2)
   ·cases h
  ·cases h
theorem T6 {st:St} {κ:Nat} (h:RJ st κ=true):jY st.fB κ:=by
 simp only [RJ,Bool.and_eq_true,List.all_eq_true,Bool.not_eq_true'] at h
 obtain ⟨h1,h2⟩:=h
 have ads:∀ l:List Nat,(l.any fun k=>Nat.beq k κ)=false→κ ∉ l:=fun l hl hc=>by
  have:(l.any fun k=>Nat.beq k κ)=true:=List.any_eq_true.2 ⟨κ,hc,Nat.beq_refl κ⟩
  rw [this] at hl
  cases hl
 refine ⟨fun t=>?_,?_,fun κ' b hb=>?_⟩
 ·simp only [St.fB,St.get]
  cases hl:look st.sl t with
  | none=>simp [AV.keys]
  | some x=>exact ads _ (h1 (t,x) (jd hl))
 ·simp only [St.fB]
  cases hl:look st.lb κ with
  | none=>rfl
  | some b =>
   have:=(h2 (κ,b) (jd hl)).1
   rw [Nat.beq_refl] at this
   cases this
 ·exact ads _ (h2 (κ',b) (jd hb)).2
theorem C3 {keep:Option (List Nat)}:∀ {sl:List (Nat × AV)} {t:Nat} {x:AV},tK sl=true→look (zp keep sl) t=some x→look sl t=some x∧vk x=true
 | [],t,x,_,h=>by simp [zp,look] at h
 | (k,y) :: r,t,x,hd,h=>by
  simp only [tK,Bool.and_eq_true,List.all_eq_true,Bool.not_eq_true'] at hd
  simp only [zp] at h
  rw [Bool.cond_eq_ite] at h
  by_cases hb:(vk y&&adr keep k)=true
  ·rw [if_pos hb] at h
   simp only [bC] at h
   simp only [Bool.and_eq_true] at hb
   rw [bC]
   split
   ·rename_i e
    simp only [e,if_true,Option.some.injEq] at h
    subst h
    exact ⟨rfl,hb.1⟩
   ·rename_i e
    simp only [e,if_false] at h
    exact C3 hd.2 h
  ·rw [if_neg hb] at h
   obtain ⟨h1,h2⟩:=C3 hd.2 h
   refine ⟨?_,h2⟩
   rw [bC]
   split
   ·rename_i e
    subst e
    have:=hd.1 (k,x) (jd h1)
    rw [Nat.beq_refl] at this
    cases this
   ·exact h1
theorem cV.zp {st:St} {keep:Option (List Nat)} (h:cV C st.fB a w S μ ν) (hd:tK st.sl=true) (ν':Nat→Bool):cV C (St.fB ⟨zp keep st.sl,st.lb⟩) a w S μ ν':=by
 refine ⟨h.tmps,h.defers,fun t=>?_,h.mem,h.inj,h.own,h.eB,h.fresh,h.bound,h.kept⟩
 simp only [St.fB,St.get]
 cases hl:look (Go.Av.zp keep st.sl) t with
 | none=>exact .any _
 | some x =>
  obtain ⟨h1,h2⟩:=C3 hd hl
  have:=h.dG t
  simp only [St.fB,St.get,h1] at this
  exact this.nu h2
def T7 (ops:Array Oper) (K:Array Value→Prop):Prop:=∀ (i:Nat) (o:Oper) (a:Act) (v:Value),ops[i]? = some o→K a.tmps→K (a.put o.dst v).tmps
theorem T9 {P:Program} {o:Oper} {a:Act} {w:World} {next:Act→World→Prop} {Q:Exit→Act→World→Prop} {K:Array Value→Prop} (hK:∀ (a:Act) (v:Value),K a.tmps→K (a.put o.dst v).tmps) (hq:∀ e a w,Q e a w→e=.normal) (ha:K a.tmps)
  (h:o.wp P a w next Q):o.wp P a w (fun a' w'=>next a' w'∧K a'.tmps) (fun e a' w'=>Q e a' w'∧K a'.tmps):=by
 unfold Oper.wp at *
 generalize (execOp a.eval o).run P w=r at *
 have no:¬ LetsOut Q:=fun ⟨_,_,q⟩=>by cases hq _ _ _ q
 cases r with
 | ok n w' =>
  cases n <;> simp only [Oper.upon] at h ⊢ <;>
   first
    | exact ⟨h,hK _ _ ha⟩
    | exact ⟨h,hK { a with defers:=_ :: a.defers } _ ha⟩
    | exact Calls.mono h (fun e w'' he=>by cases e <;> first | exact ⟨he,hK _ _ ha⟩ | exact absurd (hq _ _ _ he) (by simp) | exact absurd he no)
    | exact Rows.mono h (fun _ _ he=>⟨he,hK _ _ ha⟩)
 | halt x w'=>cases x <;> simp only [Oper.upon] at h ⊢ <;> first | exact h.elim | exact absurd (hq _ _ _ h) (by simp)
theorem tL {P:Program} {ops:Array Oper} {Q:Exit→Act→World→Prop} {K:Array Value→Prop} (hK:T7 ops K) (hq:∀ e a w,Q e a w→e=.normal):∀ (is:List Nat) (a:Act) (w:World),K a.tmps→wpOps P ops Q is a w→wpOps P ops (fun e a' w'=>Q e a' w'∧K a'.tmps) is a w
 | [],a,w,ha,h=>⟨h,ha⟩
 | i :: is,a,w,ha,h=>by
  simp only [wpOps] at h ⊢
  cases ho:ops[i]? with
  | none=>rw [ho] at h; exact tL hK hq is a w ha h
  | some o =>
   rw [ho] at h
   simp only at h ⊢
   split
   ·rename_i hw
    rw [if_pos hw] at h
    rcases h with h | ⟨_,_,_,q⟩
    ·exact .inl (Oper.wp_mono (fun a' w' hh=>tL hK hq is a' w' hh.2 hh.1) (T9 (fun a v=>hK i o a v ho) hq ha h))
    ·cases hq _ _ _ q
   ·rename_i hw
    rw [if_neg hw] at h
    exact tL hK hq is _ w (hK i o a undef ho ha) h
theorem Bs {P:Program} {md:Region.Mode} {ops:Array Oper} {Q:Exit→Act→World→Prop} {K:Array Value→Prop} (hK:T7 ops K) (hq:∀ e a w,Q e a w→e=.normal):∀ (n:Nat) (listed:Array Bool) (a:Act) (w:World),K a.tmps→wpAny P md ops Q n listed a w→wpAny P md ops (fun e a' w'=>Q e a' w'∧K a'.tmps) n listed a w
 | 0,listed,a,w,ha,h=>⟨h.1,h.2,ha⟩
 | n+1,listed,a,w,ha,h=>by
  refine ⟨fun hr=>⟨h.1 hr,ha⟩,fun i hi=>?_⟩
  have h:=h.2 i hi
  unfold wpOp at *
  split
  ·rename_i ho
   simp only [ho] at h
   exact Bs hK hq n _ a w ha h
  ·rename_i o ho
   simp only [ho] at h
   split
   ·rename_i hw
    rw [if_pos hw] at h
    rcases h with h | ⟨_,_,_,q⟩
    ·exact .inl (Oper.wp_mono (fun a' w' hh=>Bs hK hq n _ a' w' hh.2 hh.1) (T9 (fun a v=>hK i o a v ho) hq ha h))
    ·cases hq _ _ _ q
   ·rename_i hw
    rw [if_neg hw] at h
    exact Bs hK hq n _ _ w (hK i o a undef ho ha) h
def lU (ops:Array Oper):Bool:=ops.toList.all fun o=>match o.op with | .defer _=>false | _=>true
theorem uf {ops:Array Oper} (h:lU ops=true) {i:Nat} {o:Oper} (ho:ops[i]? = some o):∀ c,o.op≠.defer c:=by
 simp only [lU,List.all_eq_true] at h
 have:=h o (by have:=Array.getElem?_eq_some_iff.1 ho; obtain ⟨hi,rfl⟩:=this; simp)
 intro c hc
 rw [hc] at this
 cases this
theorem Ms {P:Program} {o:Oper} {a:Act} {w:World} {next next':Act→World→Prop} {Q:Exit→Act→World→Prop} {l n:Nat} (hd:∀ c,o.op≠.defer c) (hn:∀ a w,next a w→next' a w) (hq:∀ e a w,Q e a w→e=.normal) (h:o.wp P a w next Q):o.wpIn (Fence.wide.inRound l) n P a w next' Q:=by
 refine ⟨fun _ _=>trivial,?_⟩
 rw [Oper.semAt_eq _ _ _ hd]
 unfold Oper.wp at h
 generalize (execOp a.eval o).run P w=r at *
 have no:¬ LetsOut Q:=fun ⟨_,_,q⟩=>by cases hq _ _ _ q
 have hdp:((Fence.wide.inRound l).depth.isSome=true→1≤n):=fun h=>by simp [Fence.wide] at h
 cases r with
 | ok x w' =>
  cases x <;> simp only [Oper.upon,Oper.uponIn] at h ⊢ <;>
   first
    | exact hn _ _ h
    | exact ⟨hdp,(CallsIn.inRound l (callsIn_wide.2 h)).mono (fun e w'' he=>by cases e <;> first | exact hn _ _ he | exact he)⟩
    | exact ⟨hdp,fun c cs _=>by obtain ⟨v,w'',q,s⟩:=h c cs; exact ⟨v,w'',hn _ _ q,stepsIn_wide.2 s⟩⟩
 | halt x w'=>cases x <;> simp only [Oper.upon,Oper.uponIn] at h ⊢ <;> exact h
theorem vz {P:Program} {ops:Array Oper} {Q:Exit→Act→World→Prop} {l n:Nat} (hd:lU ops=true) (hq:∀ e a w,Q e a w→e=.normal):∀ (is:List Nat) (a:Act) (w:World),wpOps P ops Q is a w→wpOpsIn (Fence.wide.inRound l) n P ops Q is a w
 | [],a,w,h=>h
 | i :: is,a,w,h=>by
  simp only [wpOps,wpOpsIn] at h ⊢
  cases ho:ops[i]? with
  | none=>rw [ho] at h; exact vz hd hq is a w h
  | some o =>
   rw [ho] at h
   simp only at h ⊢
   split
   ·rename_i hw
    rw [if_pos hw] at h
    rcases h with h | ⟨_,_,_,q⟩
    ·exact Ms (uf hd ho) (fun a' w'=>vz hd hq is a' w') hq h
    ·cases hq _ _ _ q
   ·rename_i hw
    rw [if_neg hw] at h
    exact ⟨fun _ _=>trivial,vz hd hq is _ w h⟩
theorem vA {P:Program} {md:Region.Mode} {ops:Array Oper} {Q:Exit→Act→World→Prop} {l m:Nat} (hd:lU ops=true) (hq:∀ e a w,Q e a w→e=.normal):∀ (n:Nat) (listed:Array Bool) (a:Act) (w:World),wpAny P md ops Q n listed a w→wpAnyIn (Fence.wide.inRound l) m P md ops Q n listed a w
 | 0,listed,a,w,h=>h
 | n+1,listed,a,w,h=>by
  refine ⟨h.1,fun i hi=>?_⟩
  have h:=h.2 i hi
  unfold wpOp at h
  unfold wpOpIn
  split
  ·rename_i ho
   simp only [ho] at h
   exact vA hd hq n _ a w h
  ·rename_i o ho
   simp only [ho] at h
   split
   ·rename_i hw
    rw [if_pos hw] at h
    rcases h with h | ⟨_,_,_,q⟩
    ·exact Ms (uf hd ho) (fun a' w'=>vA hd hq n _ a' w') hq h
    ·cases hq _ _ _ q
   ·rename_i hw
    rw [if_neg hw] at h
    exact ⟨fun _ _=>trivial,vA hd hq n _ _ w h⟩
theorem ad7 {P:Program} {id:Nat} {ops:Array Oper} {draw:Bool} {Q:Exit→Act→World→Prop} {K:Array Value→Prop} {a:Act} {w:World} (hm:P.follows .mixedOrders=true) (hK:T7 ops K) (hq:∀ e a w,Q e a w→e=.normal) (ha:K a.tmps)
  (h:(draw=false∧wpOps P ops Q (List.range ops.size) a w)∨(draw=true∧wpAny P .any ops Q ops.size (Array.replicate ops.size false) a { w with drawn:=w.drawn+1 })) (b:Frame) (hb:b.roundOf=none∨lU ops=true) (k:List Item) (cs:List Frame) :
  ∃ a' w',Q .normal a' w'∧K a'.tmps∧Steps P (lone (b.atR a (.code (.region id ops draw) :: k)) cs w) (lone (b.atR a' k) cs w'):=by
 have Rw:∀ e a w,(Q e a w∧K a.tmps)→e=.normal:=fun e a w h=>hq e a w h.1
 have h':(draw=false∧wpOps P ops (fun e a' w'=>Q e a' w'∧K a'.tmps) (List.range ops.size) a w)∨(draw=true∧wpAny P .any ops (fun e a' w'=>Q e a' w'∧K a'.tmps) ops.size (Array.replicate ops.size false) a { w with drawn:=w.drawn+1 }):=by
  rcases h with ⟨e,h⟩ | ⟨e,h⟩
  ·exact .inl ⟨e,tL hK hq _ a w ha h⟩
  ·exact .inr ⟨e,Bs hK hq _ _ a _ ha h⟩
 cases hr:b.roundOf with
 | none =>
  have hw:(Code.region id ops draw).wp P (fun e a' w'=>Q e a' w'∧K a'.tmps) a w:=by
   rcases h' with ⟨rfl,h2⟩ | ⟨rfl,h2⟩
   ·exact wp_region h2
   ·exact wp_region_any hm h2
  obtain ⟨e,a',w',⟨q1,q2⟩,aaE⟩:=hw b k cs
  have he:=hq _ _ _ q1
  subst he
  refine ⟨a',w',q1,q2,?_⟩
  rw [Frame.atR_of_none hr,Frame.atR_of_none hr]
  exact aaE
 | some l =>
  have hd:lU ops=true:=hb.resolve_left (by rw [hr]; simp)
  have hw:(Code.region id ops draw).wpIn (Fence.wide.inRound l) 0 P (fun e a' w'=>Q e a' w'∧K a'.tmps) a w:=by
   rcases h' with ⟨rfl,h2⟩ | ⟨rfl,h2⟩
   ·exact wpIn_region (vz hd Rw _ a w h2)
   ·exact wpIn_region_any hm (vA hd Rw _ _ a _ h2)
  obtain ⟨e,a',w',⟨q1,q2⟩,aaE⟩:=hw b k cs hr trivial (room_wide _)
  have he:=hq _ _ _ q1
  subst he
  exact ⟨a',w',q1,q2,StepsIn.steps aaE⟩
theorem C4 {T:List (Nat × TI)} (hT:nz C.P T) (hm:C.P.follows .mixedOrders=true) {ops:Array Oper} {draw:Bool} {keep:Option (List Nat)} {st st':St} {jN:List Bq} {ob:Ob}
  (h:pI C.P T C.nt ops draw keep st jN=some (st',ob)) (bT:ob.den) (hs:j1 C st a w):(draw=false∧wpOps C.P ops (fun e a' w'=>e=.normal∧j1 C st' a' w') (List.range ops.size) a w)∨(draw=true∧wpAny C.P .any ops (fun e a' w'=>e=.normal∧j1 C st' a' w') ops.size (Array.replicate ops.size false) a { w with drawn:=w.drawn+1 }):=by
 unfold pI at h
 split at h
 ·rename_i vj nY gl BV hev
  rw [Bool.cond_eq_ite] at h
  by_cases hb:(aaB draw ops vj&&vj.all (fun τ=>τ.created.all (RJ st))&&tK nY.sl)=true
  case neg=>rw [if_neg hb] at h; cases h
  case pos =>
   rw [if_pos hb] at h
   simp only [Option.some.injEq,Prod.mk.injEq] at h
   obtain ⟨rfl,rfl⟩:=h
   simp only [Bool.and_eq_true] at hb
   obtain ⟨⟨Th,vi⟩,ahp⟩:=hb
   let ν:Nat→Bool:=fun s=>(look gl s).getD false
   have hν:∀ s e,look gl s=some e→ν s=e:=fun s e hl=>by simp [ν,hl]
   obtain ⟨i1,i2,i3,_⟩:=I4 (C:=C) (ν:=ν) hT hev bT hν
   obtain ⟨S,μ,cX⟩:=hs
   have hfa:Ep vj st.fB:=fun τ hτ κ hκ=>by
    simp only [List.all_eq_true] at vi
    exact T6 (vi τ hτ κ hκ)
   have hQ:∀ a' w' S' μ',cV C nY.fB a' w' S' μ' ν→(Exit.normal=.normal∧j1 C ⟨Go.Av.zp keep nY.sl,nY.lb⟩ a' w'):=fun a' w' S' μ' xb=>⟨rfl,S',μ',fun ν'=>xb.zp ahp ν'⟩
   have hlen:vj.length=ops.size:=by rw [i1]; simp
   cases draw with
   | false =>
    refine .inl ⟨rfl,?_⟩
    have:=Qj (C:=C) (ν:=ν) (ops:=ops) (Q:=fun e a' w'=>e=.normal∧j1 C ⟨Go.Av.zp keep nY.sl,nY.lb⟩ a' w') vj 0 st.fB nY.fB a w S μ (by omega) (fun i τ o h1 h2=>i2 i τ o h1 (by simpa using h2)) i3 hfa Th (cX ν) hQ
    rw [hlen] at this
    rw [List.range_eq_range']
    exact this
   | true =>
    refine .inr ⟨rfl,?_⟩
    have hw':cV C st.fB a { w with drawn:=w.drawn+1 } S μ ν:=(cX ν).world (fun _ x=>x) (fun _ x=>.inl x) ⟨rfl,rfl,rfl,Nat.le_refl _,fun _ _ _=>rfl⟩
    have aah:((List.range ops.size).map fun i=>vj.getD i ⟨[],none,.any,[],[],[],[]⟩)=vj:=by
     apply List.ext_getElem?
     intro i
     by_cases hi:i < ops.size
     ·simp [hi,List.getD,List.getElem?_eq_getElem (by omega:i < vj.length)]
     ·simp [hi,List.getElem?_eq_none (by omega:vj.length≤i)]
    refine YM (C:=C) (ν:=ν) vj Th (fun i τ o h1 h2=>i2 i τ o h1 (by simpa using h2)) nY.fB hQ ops.size (List.range ops.size) _ st.fB a _ S μ (by simp) List.pairwise_lt_range (by simp) (fun i=>?_) (by rw [aah]; exact i3) (by rw [aah]; exact hfa) ?_ (fun m o hm hl=>?_) hw'
    ·simp only [List.mem_range]
     refine ⟨fun hi=>⟨hi,by simp [Array.getD,hi]⟩,fun hi=>hi.1⟩
    ·rw [aah]
     have afF:Tg ops vj=true:=Th
     simp only [Tg,Bool.and_eq_true] at afF
     exact afF.1.2
    ·exfalso
     have Ad:m < ops.size:=(Array.getElem?_eq_some_iff.1 hm).1
     simp [Array.getD,Ad] at hl
 ·cases h
end
def Cx.TD (C:Cx) (q:Nat):Prop:=C.T0 q∨({ target:=.collected q,args:=#[] }:Deferred)∈C.dl
def RL (C:Cx) (res:AV) (cR:List (Nat × bw)) (e:Ending) (w':World):Prop:=∃ v S' μ',e=.returned v∧Rx C.w0 C.S0 C.TD res cR v S' μ' w'
structure Goal where
 P:Program
 T:List (Nat × TI)
 nt:Nat
 f:FuncId
 fn:Func
 res:AV
 cR:List (Nat × bw)
 md:Nat
 pr:List Nat
 tm:Array Value
 Z:Cx→Frame→List Frame→Machine→Prop
 zs:∀ C b cs m m',Steps P m m'→Z C b cs m'→Z C b cs m
def Goal.kept (g:Goal) (t:Array Value):Prop:=∀ u,u∈g.pr→t.getD u undef=g.tm.getD u undef
def Ua (g:Goal) (C:Cx) (todo:List Item) (a:Act) (w:World):Prop :=
 ∀ (b:Frame) (cs:List Frame),b.fn=g.f→b.kind=.normal→(b.roundOf=none↔g.md≠1)→g.Z C b cs (lone (b.atR a todo) cs w)
def G (g:Goal) (todo:List Item) (st:St):Prop:=∀ C:Cx,C.P=g.P→C.nt=g.nt→∀ a w,g.kept a.tmps→j1 C st a w→Ua g C todo a w
def OX (st st':St):Prop:=∀ C a w,j1 C st a w→j1 C st' a w
def sR (l:List Nat) (ops:Array Oper):Bool:=l.all fun t=>ops.toList.all fun o=>match o.dst with | some d=>!Nat.beq d t | none=>true
def JE (md:Nat) (pr:List Nat) (ops:Array Oper):Bool:=sR pr ops&&(!Nat.beq md 1||lU ops)
section
variable {g : Goal} {k : List Item} {st st' : St}
theorem Ua.step {C:Cx} {todo Mt:List Item} {a a':Act} {w w':World} (h:∀ (b:Frame) (cs:List Frame),Steps g.P (lone (b.atR a todo) cs w) (lone (b.atR a' Mt) cs w')) (hr:Ua g C Mt a' w'):Ua g C todo a w :=
 fun b cs h1 h2 h3=>g.zs C b cs _ _ (h b cs) (hr b cs h1 h2 h3)
theorem G.le (h:OX st st') (hg:G g k st'):G g k st:=fun C h1 h2 a w hk hs=>hg C h1 h2 a w hk (h C a w hs)
theorem G.seq {x y:Code} (h:G g (.code x :: .code y :: k) st):G g (.code (.seq x y) :: k) st:=fun C h1 h2 a w hk hs=>(h C h1 h2 a w hk hs).step fun _ _=>.one stepR_seq
theorem G.skip (h:G g k st):G g (.code .skip :: k) st:=fun C h1 h2 a w hk hs=>(h C h1 h2 a w hk hs).step fun _ _=>.one stepR_skip
theorem G.label {l:Nat} (h:G g k st):G g (.code (.label l) :: k) st:=fun C h1 h2 a w hk hs=>(h C h1 h2 a w hk hs).step fun _ _=>.one stepR_label
theorem G.block {id:Nat} {c:Code} (h:G g (.code c :: .inBlock id :: k) st):G g (.code (.block id c) :: k) st:=fun C h1 h2 a w hk hs=>(h C h1 h2 a w hk hs).step fun _ _=>.one stepR_block
theorem G.inBlock {id:Nat} (h:G g k st):G g (.inBlock id :: k) st:=fun C h1 h2 a w hk hs=>(h C h1 h2 a w hk hs).step fun _ _=>.one stepR_inBlock
theorem G.inLoop {c:Code} (h:G g (.code c :: .inLoop c :: k) st):G g (.inLoop c :: k) st:=fun C h1 h2 a w hk hs=>(h C h1 h2 a w hk hs).step fun _ _=>.one stepR_inLoop
theorem G.exit {id:Nat} {k':List Item} (he:exitTo id k=some k') (h:G g k' st):G g (.code (.exit id) :: k) st:=fun C h1 h2 a w hk hs=>(h C h1 h2 a w hk hs).step fun _ _=>.one (stepR_exit he)
theorem G.cond {c:Nat} {x y:Code} {e:Bool} (hc:St.get st.sl c=.d (.v (.bool e))) (ht:e=true→G g (.code x :: k) st) (hf:e=false→G g (.code y :: k) st):G g (.code (.cond (.tmp c) x y) :: k) st:=by
 intro C h1 h2 a w hk hs
 obtain ⟨S,μ,cX⟩:=hs
 have hr:=(cX fun _=>false).dG c
 simp only [St.fB,hc] at hr
 have he:a.eval (.tmp c)=.bool e:=nH hr
 cases e with
 | true=>exact (ht rfl C h1 h2 a w hk ⟨S,μ,cX⟩).step fun _ _=>.one (by simpa using stepR_cond (x:=x) (y:=y) he)
 | false=>exact (hf rfl C h1 h2 a w hk ⟨S,μ,cX⟩).step fun _ _=>.one (by simpa using stepR_cond (x:=x) (y:=y) he)
theorem G.afG {x y:Code} {e:Bool} (h:G g (.code (bif e then x else y) :: k) st):G g (.code (.cond (.const (.bool e)) x y) :: k) st:=by
 intro C h1 h2 a w hk hs
 have he:a.eval (.const (.bool e))=.bool e:=rfl
 cases e with
 | true=>exact (h C h1 h2 a w hk hs).step fun _ _=>.one (by simpa using stepR_cond (x:=x) (y:=y) he)
 | false=>exact (h C h1 h2 a w hk hs).step fun _ _=>.one (by simpa using stepR_cond (x:=x) (y:=y) he)
theorem Goal.afH {ops:Array Oper} (h:JE g.md g.pr ops=true):T7 ops g.kept:=by
 intro i o a v ho hk u hu
 unfold JE at h
 simp only [Bool.and_eq_true,sR,List.all_eq_true] at h
 have h1:=h.1 u hu o (by obtain ⟨hi,rfl⟩:=Array.getElem?_eq_some_iff.1 ho; simp)
 rw [← hk u hu]
 cases hd:o.dst with
 | none=>rfl
 | some d =>
  rw [hd] at h1
  exact cO _ _ _ _ (fun e=>by subst e; simp at h1)
theorem G.ops (hm:g.P.follows .mixedOrders=true) {C:Cx} {id:Nat} {ops:Array Oper} {draw:Bool} {a:Act} {w:World} {Q:Act→World→Prop} (hr:JE g.md g.pr ops=true) (ha:g.kept a.tmps)
  (h:(draw=false∧wpOps g.P ops (fun e a' w'=>e=.normal∧Q a' w') (List.range ops.size) a w)∨(draw=true∧wpAny g.P .any ops (fun e a' w'=>e=.normal∧Q a' w') ops.size (Array.replicate ops.size false) a { w with drawn:=w.drawn+1 }))
  (hg:∀ a' w',g.kept a'.tmps→Q a' w'→Ua g C k a' w'):Ua g C (.code (.region id ops draw) :: k) a w:=by
 intro b cs h1 h2 h3
 obtain ⟨a',w',q1,q2,q3⟩:=ad7 (id:=id) hm (Goal.afH hr) (fun e a w h=>h.1) ha h b (by
  by_cases hp:g.md=1
  ·unfold JE at hr; simp only [Bool.and_eq_true,hp] at hr; exact .inr (by simpa using hr.2)
  ·exact .inl (h3.2 hp)) k cs
 exact g.zs C b cs _ _ q3 (hg a' w' q2 q1.2 b cs h1 h2 h3)
theorem G.region (hT:nz g.P g.T) (hm:g.P.follows .mixedOrders=true) {id:Nat} {ops:Array Oper} {draw:Bool} {keep:Option (List Nat)} {jN:List Bq} {ob:Ob} (hr:JE g.md g.pr ops=true) (h:pI g.P g.T g.nt ops draw keep st jN=some (st',ob)) (bT:ob.den) (hg:G g k st'):G g (.code (.region id ops draw) :: k) st:=by
 intro C h1 h2 a w hk hs
 have hw:=C4 (C:=C) (T:=g.T) (by rw [h1]; exact hT) (by rw [h1]; exact hm) (by rw [h1,h2]; exact h) bT hs
 rw [h1] at hw
 exact G.ops hm hr hk hw (fun a' w' fS xb=>hg C h1 h2 a' w' fS xb)
theorem G.loop {ι:Type} (I:ι→St) (m:ι→Nat) {c:Code} (i0:ι) (h0:OX st (I i0)) (hr:∀ i,(∀ j,m j < m i→G g (.inLoop c :: k) (I j))→G g (.code c :: .inLoop c :: k) (I i)):G g (.code (.loop c) :: k) st:=by
 have key:∀ n i,m i=n→G g (.code c :: .inLoop c :: k) (I i):=by
  intro n
  induction n using Nat.strongRecOn with
  | _ n ih =>
   intro i hi
   exact hr i (fun j hj=>.inLoop (ih (m j) (hi ▸ hj) j rfl))
 intro C h1 h2 a w hk hs
 exact (key _ i0 rfl C h1 h2 a w hk (h0 C a w hs)).step fun _ _=>.one stepR_loop
end
def vB (T:List (Nat × TI)) (st:St):List ResultVar→Option (List AV × List (Nat × bw) × Ob)
 | []=>some ([],[],.tt)
 | .tmp t :: r=>(match vB T st r with | some (l,ro,ob)=>some (St.get st.sl t :: l,ro,ob) | none=>none)
 | .cell t ty :: r=>(match look T ty,pG st.lb (St.get st.sl t),vB T st r with
  | some i,some (cs,ro1,BV),some (l,ro,ob)=>(match LZ i cs with | some v=>some (v :: l,ro1++ro,BV.and ob) | none=>none)
  | _,_,_=>none)
section
variable {C : Cx} {a : Act} {w : World} {S : Nat → Prop} {μ : Mu} {ν : Nat → Bool}
def aaF:List Value→Value
 | [v]=>v
 | l=>.tuple l.toArray
def GR (tmps:Array Value):ResultVar→Sem Value
 | .tmp t=>pure (tmps.getD t undef)
 | .cell a t=>do loadVar t (← asAddr (tmps.getD a undef))
theorem qR {T:List (Nat × TI)} (hT:nz C.P T) {st:St} (hs:cV C st.fB a w S μ ν):∀ {rs:List ResultVar} {l:List AV} {ro:List (Nat × bw)} {ob:Ob},vB T st rs=some (l,ro,ob)→ob.den→∃ vs,(rs.mapM (GR a.tmps)).run C.P w=.ok vs w∧dq w S μ ν l vs
 | [],l,ro,ob,h,_=>by
  simp only [vB,Option.some.injEq,Prod.mk.injEq] at h
  obtain ⟨rfl,-,-⟩:=h
  exact ⟨[],by simp,rfl,fun i hi=>absurd hi (by simp)⟩
 | .tmp t :: r,l,ro,ob,h,bT=>by
  simp only [vB] at h
  split at h
  ·rename_i l' Qp El hr
   simp only [Option.some.injEq,Prod.mk.injEq] at h
   obtain ⟨rfl,rfl,rfl⟩:=h
   obtain ⟨vs,h1,h2⟩:=qR hT hs hr bT
   refine ⟨a.tmps.getD t undef :: vs,by simp [List.mapM_cons,GR,h1],by simp [h2.1],fun i hi=>?_⟩
   cases i with
   | zero =>
    have:=hs.dG t
    simp only [St.fB] at this
    simpa using this
   | succ i=>simpa using h2.2 i (by simpa using hi)
  ·cases h
 | .cell t ty :: r,l,ro,ob,h,bT=>by
  simp only [vB] at h
  split at h
  ·rename_i i cs ro1 BV l' Qp El hi hc hr
   split at h
   ·rename_i v hv
    simp only [Option.some.injEq,Prod.mk.injEq] at h
    obtain ⟨rfl,rfl,rfl⟩:=h
    obtain ⟨vs,h1,h2⟩:=qR hT hs hr (Ob.cE bT).2
    have Tl:=IX hc hs (fun p hp=>I3 hc p hp) (Ob.cE bT).1 (hs.dG t)
    obtain ⟨b,o,hp,RF⟩:=Tl
    obtain ⟨u,h3,h4⟩:=Ql (P:=C.P) (hT _ _ hi) hv (⟨b,o,hp,RF⟩:Ro w S μ ν cs _)
    have h5:(GR a.tmps (.cell t ty)).run C.P w=.ok u w:=by
     rw [hp] at h3
     simp only [GR,hp,asAddr,Sem.run_bind,Sem.run_pure,Result.andThen_ok]
     simpa [Instr.loadAt,Instr.sureAddr] using h3
    refine ⟨u :: vs,by simp [List.mapM_cons,h5,h1],by simp [h2.1],fun i hi=>?_⟩
    cases i with
    | zero=>simpa using h4
    | succ i=>simpa using h2.2 i (by simpa using hi)
   ·cases h
  ·cases h
theorem Wj (fn:Func) (tmps:Array Value):results fn tmps=(do let vs ← fn.results.mapM (GR tmps); pure (if h:vs.size=1 then vs[0] else .tuple vs):Sem Value):=by
 unfold results
 congr 2
theorem vC {fn:Func} {vs:List Value} (h:(fn.results.toList.mapM (GR a.tmps)).run C.P w=.ok vs w):(results fn a.tmps).run C.P w=.ok (aaF vs) w:=by
 rw [Wj,Array.mapM_eq_mapM_toList]
 simp only [Sem.run_bind,Sem.run_map,h,Result.andThen_ok,Sem.run_pure]
 congr 1
 clear h
 match vs with
 | []=>rfl
 | [v]=>rfl
 | _ :: _ :: _=>rfl
end
def lL (x y:AV):Prop:=∀ w S μ ν v,Rel w S μ ν x v→Rel w S μ ν y v
theorem lL.rfl' {x:AV}:lL x x:=fun _ _ _ _ _ h=>h
theorem lL.d {x y:D} (h:su x y):lL (.d x) (.d y):=fun w S _ _ v hr=>.d (h w S v (iK.1 hr))
def rQ:List AV→AV
 | [x]=>x
 | l=>.fj l
theorem GS {w:World} {S:Nat→Prop} {μ:Mu} {ν:Nat→Bool} {l:List AV} {vs:List Value} (h:dq w S μ ν l vs):Rel w S μ ν (rQ l) (aaF vs):=by
 match l,vs,h with
 | [x],[v],h=>simpa [rQ,aaF] using h.2 0 (by simp)
 | [],[],h=>exact .fj rfl (fun i hi=>absurd hi (by simp))
 | x :: y :: r,u :: v :: s,h=>exact .fj (by simpa using h.1) (fun i hi=>by rw [cM]; simpa using h.2 i hi)
 | [],_ :: _,h=>have:=h.1; simp at this
 | [_],[],h=>have:=h.1; simp at this
 | [_],_ :: _ :: _,h=>have:=h.1; simp at this
 | _ :: _ :: _,[],h=>have:=h.1; simp at this
 | _ :: _ :: _,[_],h=>have:=h.1; simp at this
theorem C6 {P:Program} {cs:List Frame}:∀ (l:List Deferred) (fr:Frame) (w:World),fr.mode=.returning→fr.defers=l→l.Nodup→(∀ d,d∈l→∃ q,d = { target:=.collected q,args:=#[] }∧w.heap[q]? = some (.deferred (some []))) →
  ∃ w',Steps P (lone fr cs w) (lone { fr with defers:=[] } cs w')∧Kept w w' (fun q=>({ target:=.collected q,args:=#[] }:Deferred)∈l)
 | [],fr,w,_,hd,_,_=>⟨w,by rw [show ({ fr with defers:=[] }:Frame)=fr by rw [← hd]]; exact .refl _ _,Kept.refl _ _⟩
 | d :: l,fr,w,hm,hd,hnd,hl=>by
  obtain ⟨q,rfl,hq⟩:=hl d (by simp)
  have h1:=step_collected (P:=P) (cs:=cs) (d:={ target:=.collected q,args:=#[] }) (by rw [hm]; simp) hd rfl (run_takeDeferred hq)
  have hk:Kept w (w.putObj q (.deferred none)) (fun b=>b=q):=⟨rfl,rfl,rfl,by simp [World.putObj],fun b _ hb=>World.putObj_heap_other hb⟩
  obtain ⟨w',h2,h3⟩:=C6 l { fr with defers:=[]++l } (w.putObj q (.deferred none)) hm rfl (List.nodup_cons.1 hnd).2 (fun d hd'=>by
   obtain ⟨p,rfl,hp⟩:=hl d (by simp [hd'])
   refine ⟨p,rfl,?_⟩
   have rl:p≠q:=fun e=>(List.nodup_cons.1 hnd).1 (e ▸ hd')
   rw [World.putObj_heap_other rl]; exact hp)
  refine ⟨w',.head h1 h2,(hk.zn (fun b hb=>by subst hb; simp)).trans h3 (fun b _ hb=>by simp [hb])⟩
def Cx.shut (C:Cx):Cx:={ C with T0:=C.TD,dis:=fun b hb h=>h.elim (C.dis b hb) (fun h=>(by obtain ⟨q,e,_,_,hq⟩:=C.dok _ h; cases e; exact hq hb)),dl:=[],dok:=fun d h=>(by cases h),dnd:=List.nodup_nil }
theorem dg.rR {w:World} {S:Nat→Prop} {μ:Mu} {b:bw} {g cap:Nat} {o:Option (List Deferred)} (h:dg w S μ b g cap):w.heap[g]?≠some (.deferred o):=by
 cases b with
 | box cs=>obtain ⟨cur,e,hg,_⟩:=h; rw [hg]; simp
 | row e k n f=>obtain ⟨cur,hg,_⟩:=h; rw [hg]; simp
 | mp n f=>obtain ⟨cur,hg,_⟩:=h; rw [hg]; simp
 | it mk n seen=>obtain ⟨mg,c,_,hg,_⟩:=h; rw [hg]; simp
 | mx=>obtain ⟨m,_,cur,hg,_⟩:=h; rw [hg]; simp
theorem cV.Zb {C:Cx} {A:M} {a:Act} {w:World} {S:Nat→Prop} {μ:Mu} {ν:Nat→Bool} (h:cV C A a w S μ ν):∀ d,d∈C.dl→∃ q,d = { target:=.collected q,args:=#[] }∧w.heap[q]? = some (.deferred (some []))∧¬ S q:=by
 intro d hd
 obtain ⟨q,e,h1,h2,h3⟩:=C.dok d hd
 have dK:=(Array.getElem?_eq_some_iff.1 h1).1
 refine ⟨q,e,(h.kept.block q dK h2).trans h1,fun hs=>?_⟩
 rcases h.fresh q hs with h4 | h4 | h4
 ·exact h3 h4
 ·omega
 ·exact h2 h4
theorem cV.shut {C:Cx} {A:M} {a:Act} {w w':World} {S:Nat→Prop} {μ:Mu} {ν:Nat→Bool} (h:cV C A a w S μ ν) (hk:Kept w w' (fun q=>({ target:=.collected q,args:=#[] }:Deferred)∈C.dl)):cV C.shut A { a with defers:=[] } w' S μ ν:=by
 have hw:∀ b,S b→w'.heap[b]? = w.heap[b]?:=fun b hb=>hk.block b (h.bound b hb) (fun hd=>by
  obtain ⟨q,e,_,hq⟩:=h.Zb _ hd
  cases e
  exact hq hb)
 refine ⟨h.tmps,rfl,fun t=>(h.dG t).mono (fun _ x=>x) hw (fun _ _ e=>e),fun κ b hb=>?_,h.inj,fun κ b g c h1 h2=>?_,h.eB,fun b hb=>?_,fun b hb=>Nat.lt_of_lt_of_le (h.bound b hb) hk.size,?_⟩
 ·have hm:=h.mem κ b hb
  refine hm.mono (fun _ x=>x) hw (fun _ _ e=>e) (fun g c e=>?_)
  rw [e] at hm
  refine ⟨hk.block g hm.at.lt (fun hd=>?_),hm.at.not⟩
  obtain ⟨q,e',hq,_⟩:=h.Zb _ hd
  cases e'
  exact hm.at.rR hq
 ·rcases h.own κ b g c h1 h2 with q | q
  ·exact .inl q
  ·exact .inr (.inl q)
 ·rcases h.fresh b hb with q | q | q
  ·exact .inl q
  ·exact .inr (.inl q)
  ·exact .inr (.inr (.inl q))
 ·exact (h.kept.zn (fun _ x=>.inl x)).trans hk (fun b _ hb=>.inr hb)
structure Goal.Nrm (g:Goal):Prop where
 md:g.md=0
 fin:∀ C b cs m,(∃ e w' fr,RL C g.res g.cR e w'∧Comes g.P m (lone fr cs w') e∧fr.fn=g.f∧fr.leaving g.P w' e)→g.Z C b cs m
theorem Goal.Nrm.out {g:Goal} (hg:g.Nrm) (hf:g.P.funcs[g.f]? = some g.fn) {C:Cx} (h1:C.P=g.P) {st:St} {a:Act} {w:World} (hs:j1 C st a w) (hp:∀ w',j1 C.shut st { a with defers:=[] } w'→∃ v,(results g.fn a.tmps).run C.P w'=.ok v w'∧RL C.shut g.res g.cR (.returned v) w')
  {todo:List Item} (jK:∀ (b:Frame) (cs:List Frame),b.roundOf=none→Steps g.P (lone (b.atR a todo) cs w) (lone { b.atR a todo with mode:=.returning } cs w)):Ua g C todo a w:=by
 intro b cs RM Ez Wk
 refine hg.fin C b cs _ ?_
 obtain ⟨S,μ,cX⟩:=hs
 have h0:=cX fun _=>false
 have hrd:=Wk.2 (by rw [hg.md]; decide)
 obtain ⟨w',q1,q2⟩:=C6 (P:=g.P) (cs:=cs) C.dl { b.atR a todo with mode:=.returning } w rfl h0.defers C.dnd (fun d hd=>let ⟨q,e,h,_⟩:=h0.Zb d hd; ⟨q,e,h⟩)
 obtain ⟨v,r1,r2⟩:=hp w' ⟨S,μ,fun ν=>(cX ν).shut q2⟩
 obtain ⟨v',S',μ',e,B⟩:=r2
 refine ⟨.returned v,w',_,⟨v',S',μ',e,B.XO (fun q hq=>?_)⟩,Steps.trans (jK b cs hrd) q1,RM,rfl,rfl,Ez,g.fn,?_,?_⟩
 ·rcases hq with hq | hq
  ·exact hq
  ·cases hq
 ·show g.P.funcs[b.fn]? = _
  rw [RM]; exact hf
 ·rw [← h1]; exact r1
def XX (C:Cx) (res:AV) (cR:List (Nat × bw)) (mQ:List (Nat × Nat)) (tm:Array Value) (e:Ending) (w':World):Prop:=∃ v S' μ',e=.returned v∧Rx C.w0 C.S0 C.TD res cR v S' μ' w'∧∀ p,p∈mQ→∀ ν,Rel w' S' μ' ν (.ptr p.2 0) (tm.getD p.1 undef)
structure Goal.Wl (g:Goal) (mQ:List (Nat × Nat)):Prop where
 md:g.md=3
 pr:∀ p,p∈mQ→p.1∈g.pr
 fin:∀ C b cs m,(∃ e w' fr,XX C g.res g.cR mQ g.tm e w'∧Comes g.P m (lone fr cs w') e∧fr.fn=g.f∧fr.leaving g.P w' e)→g.Z C b cs m
theorem Goal.Wl.out {g:Goal} {mQ:List (Nat × Nat)} (hg:g.Wl mQ) (hf:g.P.funcs[g.f]? = some g.fn) {C:Cx} (h1:C.P=g.P) {st:St} {a:Act} {w:World} (hs:j1 C st a w) (hp:∀ w',j1 C.shut st { a with defers:=[] } w'→∃ v,(results g.fn a.tmps).run C.P w'=.ok v w'∧XX C.shut g.res g.cR mQ g.tm (.returned v) w')
  {todo:List Item} (jK:∀ (b:Frame) (cs:List Frame),b.roundOf=none→Steps g.P (lone (b.atR a todo) cs w) (lone { b.atR a todo with mode:=.returning } cs w)):Ua g C todo a w:=by
 intro b cs RM Ez Wk
 refine hg.fin C b cs _ ?_
 obtain ⟨S,μ,cX⟩:=hs
 have h0:=cX fun _=>false
 have hrd:=Wk.2 (by rw [hg.md]; decide)
 obtain ⟨w',q1,q2⟩:=C6 (P:=g.P) (cs:=cs) C.dl { b.atR a todo with mode:=.returning } w rfl h0.defers C.dnd (fun d hd=>let ⟨q,e,h,_⟩:=h0.Zb d hd; ⟨q,e,h⟩)
 obtain ⟨v,r1,r2⟩:=hp w' ⟨S,μ,fun ν=>(cX ν).shut q2⟩
 obtain ⟨v',S',μ',e,B,ha⟩:=r2
 refine ⟨.returned v,w',_,⟨v',S',μ',e,B.XO (fun q hq=>?_),ha⟩,Steps.trans (jK b cs hrd) q1,RM,rfl,rfl,Ez,g.fn,?_,?_⟩
 ·rcases hq with hq | hq
  ·exact hq
  ·cases hq
 ·show g.P.funcs[b.fn]? = _
  rw [RM]; exact hf
 ·rw [← h1]; exact r1
theorem G.ahq {g:Goal} {st:St} {mQ:List (Nat × Nat)} (hg:g.Wl mQ) (hf:g.P.funcs[g.f]? = some g.fn) (hp:∀ (C:Cx) (a:Act) (w:World),C.P=g.P→g.kept a.tmps→j1 C st a w→∃ v,(results g.fn a.tmps).run C.P w=.ok v w∧XX C g.res g.cR mQ g.tm (.returned v) w):G g [] st∧∀ k,G g (.code .ret :: k) st :=
 ⟨fun C h1 _ a w hk hs=>hg.out hf h1 hs (fun w' xb=>hp C.shut { a with defers:=[] } w' h1 hk xb) (fun b cs hb=>.one (stepR_end hb)),
  fun k C h1 _ a w hk hs=>hg.out hf h1 hs (fun w' xb=>hp C.shut { a with defers:=[] } w' h1 hk xb) (fun b cs hb=>.one (stepR_ret hb))⟩
section
variable {g : Goal} {k : List Item} {st : St}
theorem Zc {C:Cx} {a:Act} {w:World} (hs:j1 C st a w) (hT:nz C.P g.T) (hl:g.cR=[]) {l l':List AV} {ro Qp:List (Nat × bw)} {ob El:Ob} (h:vB g.T st g.fn.results.toList=some (l,ro,ob)) (bT:ob.den) (hb:xh st.lb l=some (l',Qp,El)) (Mn:El.den) (hle:lL (rQ l') g.res) :
  ∃ v,(results g.fn a.tmps).run C.P w=.ok v w∧RL C g.res g.cR (.returned v) w:=by
 obtain ⟨S,μ,cX⟩:=hs
 have h0:=cX fun _=>false
 obtain ⟨vs,h1,h2⟩:=qR hT h0 h bT
 refine ⟨_,vC h1,?_⟩
 have h3:∀ μ' ν',dq w (fun b=>b < w.heap.size∧(C.S0 b∨C.w0.heap.size≤b∨C.T0 b)) μ' ν' l' vs:=fun μ' ν' =>
  GM h0 (fun b hb=>⟨h0.bound b hb,h0.fresh b hb⟩) (fun κ b q c h1 h2=>⟨by have:=h0.mem κ b h1; rw [h2] at this; exact this.at.lt,.inr (h0.own κ b q c h1 h2)⟩) μ' ν' hb (fun p hp=>Mp hb p hp) Mn h2
 refine ⟨_,fun b=>b < w.heap.size∧(C.S0 b∨C.w0.heap.size≤b∨C.T0 b),fun _=>none,rfl,?_⟩
 rw [hl]
 exact ⟨fun ν'=>hle _ _ _ _ _ (GS (h3 _ ν')),fun κ b hk=>by simp [look] at hk,fun κ κ' b b' q c c' hk=>by simp [look] at hk,fun κ b q c hk=>by simp [look] at hk,
  fun b hb=>⟨Nat.lt_of_lt_of_le (h0.bound b (h0.eB b hb)) (Nat.le_refl _),.inl hb⟩,fun b hb=>hb.2.imp id (Or.imp id .inl),fun b hb=>hb.1,h0.kept.zn fun _ h=>.inl h⟩
theorem G.out (hg:g.Nrm) (hf:g.P.funcs[g.f]? = some g.fn) (hp:∀ (C:Cx) (a:Act) (w:World),C.P=g.P→j1 C st a w→∃ v,(results g.fn a.tmps).run C.P w=.ok v w∧RL C g.res g.cR (.returned v) w):G g [] st∧∀ k,G g (.code .ret :: k) st :=
 ⟨fun C h1 _ a w _ hs=>hg.out hf h1 hs (fun w' xb=>hp C.shut { a with defers:=[] } w' h1 xb) (fun b cs hb=>.one (stepR_end hb)),
  fun k C h1 _ a w _ hs=>hg.out hf h1 hs (fun w' xb=>hp C.shut { a with defers:=[] } w' h1 xb) (fun b cs hb=>.one (stepR_ret hb))⟩
theorem G.ret (hg:g.Nrm) (hT:nz g.P g.T) (hf:g.P.funcs[g.f]? = some g.fn) (hl:g.cR=[]) {l l':List AV} {ro Qp:List (Nat × bw)} {ob El:Ob} (h:vB g.T st g.fn.results.toList=some (l,ro,ob)) (bT:ob.den) (hb:xh st.lb l=some (l',Qp,El)) (Mn:El.den) (hle:lL (rQ l') g.res):G g [] st∧∀ k,G g (.code .ret :: k) st :=
 G.out hg hf (fun C a w h1 hs=>Zc (g:=g) hs (by rw [h1]; exact hT) hl h bT hb Mn hle)
end
def dW:Nat→List AV→List (Nat × AV)
 | _,[]=>[]
 | n,x :: r=>(n,x) :: dW (n+1) r
theorem wg:∀ (l:List AV) (n t:Nat),look (dW n l) t=if n≤t then l[t - n]? else none
 | [],n,t=>by simp [dW,look]
 | x :: r,n,t=>by
  simp only [dW,bC,wg r (n+1) t]
  by_cases h:n=t
  ·subst h; simp
  ·simp only [h,if_false]
   by_cases h1:n+1≤t
   ·rw [if_pos h1,if_pos (by omega),show t - n=t - (n+1)+1 by omega]
    simp
   ·rw [if_neg h1,if_neg (by omega)]
def ZN (P:Program) (f:FuncId) (res:AV) (cR:List (Nat × bw)) (C:Cx) (_:Frame) (cs:List Frame) (m:Machine):Prop :=
 ∃ e w' fr,RL C res cR e w'∧Comes P m (lone fr cs w') e∧fr.fn=f∧fr.leaving P w' e
def Goal.of (P:Program) (T:List (Nat × TI)) (nt:Nat) (f:FuncId) (fn:Func) (res:AV) (cR:List (Nat × bw)):Goal :=
 ⟨P,T,nt,f,fn,res,cR,0,[],#[],ZN P f res cR,fun _ _ _ _ _ hs ⟨e,w',fr,q1,q2,q3⟩=>⟨e,w',fr,q1,.of_steps hs q2,q3⟩⟩
theorem Goal.aaG {P:Program} {T:List (Nat × TI)} {nt:Nat} {f:FuncId} {fn:Func} {res:AV} {cR:List (Nat × bw)}:(Goal.of P T nt f fn res cR).Nrm:=⟨rfl,fun _ _ _ _ h=>h⟩
theorem eC.intro {P:Program} {T:List (Nat × TI)} {f:FuncId} {fn:Func} {body:Code} {args:List AV} {cR:List (Nat × bw)} {res:AV} {gp:List (Nat × bw)} (hf:P.funcs[f]? = some fn) (hb:fn.body=some body) (hc:fq P f=true) (hn:args.length≤fn.ntmps)
  (h:G (.of P T fn.ntmps f fn res gp) [.code body] ⟨dW 0 args,cR⟩):eC P f args cR res gp:=by
 refine ⟨hc,fun w S μ vs hS hgl lT hm hi cs=>?_⟩
 let C:Cx:=⟨P,w,S,Handed cR μ,fn.ntmps,hgl,fun b hb ⟨κ,bk,c,q1,q2⟩=>by
  have:=hm κ bk q1
  rw [q2] at this
  exact this.at.not hb,hS,[],fun d h=>(by cases h),List.nodup_nil⟩
 let b:Frame:={ (default:Frame) with fn:=f,kind:=.normal,roundOf:=none }
 have hl:vs.size=args.length:=by have:=(lT fun _=>false).1; simpa using this
 have Wm:Frame.enter P f vs .normal=b.atR { tmps:=vs++Array.replicate (fn.ntmps - vs.size) undef,defers:=[] } [.code body]:=by
  simp [Frame.enter,Frame.atR,hf,hb,b]
 have cX:j1 C ⟨dW 0 args,cR⟩ { tmps:=vs++Array.replicate (fn.ntmps - vs.size) undef,defers:=[] } w:=by
  refine ⟨S,μ,fun ν=>⟨by simp [C]; omega,rfl,fun t=>?_,hm,hi,fun κ bk q c h1 h2=>.inr ⟨κ,bk,c,h1,h2⟩,fun _ hb=>hb,fun _ hb=>.inl hb,hS,Kept.refl _ _⟩⟩
  simp only [St.fB,St.get,wg,Nat.zero_le,if_true,Nat.sub_zero]
  by_cases ht:t < args.length
  ·rw [List.getElem?_eq_getElem ht]
   have h2:=(lT ν).2 t ht
   rw [show args.getD t default=args[t] from by simp [List.getD,ht]] at h2
   have e:(vs++Array.replicate (fn.ntmps - vs.size) undef).getD t undef=vs.toList.getD t undef:=by
    rw [← cM]
    simp only [Array.getD_eq_getD_getElem?]
    rw [Array.getElem?_append_left (by omega)]
   rw [e]
   exact h2
  ·rw [List.getElem?_eq_none (by omega)]
   exact .any _
 obtain ⟨e,w',fr,⟨v,S',μ',e1,B⟩,q2,q3,q4⟩:=h C rfl rfl _ _ (fun u hu=>by cases hu) cX b cs rfl rfl ⟨fun _ h=>(by cases h),fun _=>rfl⟩
 exact ⟨e,w',fr,⟨v,S',μ',e1,B.XO (fun q hq=>hq.elim id (fun h=>by cases h))⟩,by rw [Wm]; exact q2,q3,q4⟩
abbrev Ren:=List (Nat × Option Nat)
def xj (ρ:Ren) (μ:Mu):Mu:=fun k=>match look ρ k with | some (some o)=>μ o | some none=>some none | none=>none
def rS (ρ:Ren) (κ' κ:Nat):Bool:=match look ρ κ' with | some (some o)=>Nat.beq o κ | _=>false
def Ub (ρ:Ren) (κ':Nat):Bool:=match look ρ κ' with | some none=>true | _=>false
theorem Ah {ρ:Ren} {κ' κ:Nat} (h:rS ρ κ' κ=true) (μ:Mu):xj ρ μ κ'=μ κ:=by
 unfold rS at h
 unfold xj
 split at h
 ·rename_i o hl
  rw [hl]
  simp only [Nat.eq_of_beq_eq_true h]
 ·cases h
theorem aaH {ρ:Ren} {κ':Nat} (h:Ub ρ κ'=true) (μ:Mu):xj ρ μ κ'=some none:=by
 unfold Ub at h
 unfold xj
 split at h
 ·rename_i hl; rw [hl]
 ·cases h
mutual
def rT (ρ:Ren):AV→AV→Option Prop
 | _,.any=>some True
 | .d x,.d y=>some (su x y)
 | .own κ n,.own κ' n'=>bif rS ρ κ' κ then some (n=n') else none
 | .d (.v (.slice none 0 0)),.own κ' n'=>bif Ub ρ κ' then some (n'=0) else none
 | .ptr κ o,.ptr κ' o'=>bif rS ρ κ' κ&&Nat.beq o o' then some True else none
 | .ref cs,.ref C7=>some (cs=C7)
 | .fn f l,.fn f' l'=>bif Nat.beq f f' then xk ρ l l' else none
 | .fj l,.fj l'=>xk ρ l l'
 | .ag l,.ag l'=>xk ρ l l'
 | .wX κ,.wX κ'=>bif rS ρ κ' κ then some True else none
 | .Bj n f,.Bj n' f'=>some (n=n'∧f=f')
 | .zm n f,.zm n' f'=>some (n=n'∧f=f')
 | .zm n f,.d (.sl n' f')=>some (n=n'∧f=f')
 | .yh κ k i o,.yh κ' k' i' o'=>bif rS ρ κ' κ&&Nat.beq k k'&&Nat.beq o o' then some (i=i') else none
 | _,_=>none
def xk (ρ:Ren):List AV→List AV→Option Prop
 | [],[]=>some True
 | x :: r,y :: s=>(match rT ρ x y,xk ρ r s with | some a,some b=>some (a∧b) | _,_=>none)
 | _,_=>none
end
def mS (ρ:Ren):bw→bw→Option Prop
 | .box cs,.box C7=>xk ρ cs C7
 | .row e k n f,.row e' k' n' f'=>bif Nat.beq e e'&&Nat.beq k k' then some (n=n'∧∀ i,i < n→f i=f' i) else none
 | .mp n f,.mp n' f'=>some (n=n'∧f=f')
 | .it mk n s,.it mk' n' s'=>bif rS ρ mk' mk then some (n=n'∧s=s') else none
 | .mx q,.mx q'=>some (q=q')
 | _,_=>none
def Mv (ρ:Ren) (sl:List (Nat × AV)):List (Nat × AV)→Option Prop
 | []=>some True
 | (t,x) :: r=>(match rT ρ (St.get sl t) x,Mv ρ sl r with | some a,some b=>some (a∧b) | _,_=>none)
def JF (ρ:Ren) (lb:List (Nat × bw)):List (Nat × bw)→Option Prop
 | []=>some True
 | (κ,b) :: r=>(match look ρ κ,JF ρ lb r with
  | some (some o),some p=>(match look lb o with | some c=>(match mS ρ c b with | some q=>some (q∧p) | none=>none) | none=>none)
  | some none,some p=>(match b with | .row _ _ n _=>some (n=0∧p) | _=>none)
  | _,_=>none)
def EH:Ren→Bool
 | []=>true
 | (_,some o) :: r=>r.all (fun p=>match p.2 with | some q=>!Nat.beq q o | none=>true)&&EH r
 | (_,none) :: r=>EH r
section
variable {w : World} {S : Nat → Prop} {μ : Mu} {ν : Nat → Bool} {ρ : Ren}
theorem pd {α:Type} {b:Bool} {x y:α} (h:(bif b then some x else none)=some y):b=true∧x=y:=by
 cases b with
 | true=>exact ⟨rfl,Option.some.inj h⟩
 | false=>cases h
mutual
theorem xl:∀ (x y:AV) (ob:Prop),rT ρ x y=some ob→ob→∀ v,Rel w S μ ν x v→Rel w S (xj ρ μ) ν y v
 | x,y,ob,h,bT,v,hr=>by
  unfold rT at h
  split at h
  ·exact .any v
  ·simp only [Option.some.injEq] at h
   subst h
   exact .d (bT _ _ _ (iK.1 hr))
  ·obtain ⟨h1,rfl⟩:=pd h
   subst bT
   have hk:=Ah h1 μ
   cases hr with
   | cN hμ=>exact .cN (by rw [hk]; exact hμ)
   | own hμ=>exact .own (by rw [hk]; exact hμ)
  ·obtain ⟨h1,rfl⟩:=pd h
   have:=cH rfl hr
   rw [this,bT]
   exact .cN (aaH h1 μ)
  ·obtain ⟨h1,-⟩:=pd h
   simp only [Bool.and_eq_true] at h1
   have e:=Nat.eq_of_beq_eq_true h1.2
   subst e
   cases hr with
   | ptr hμ=>exact .ptr (by rw [Ah h1.1 μ]; exact hμ)
  ·simp only [Option.some.injEq] at h
   subst h
   subst bT
   cases hr with
   | ref df hc h=>exact .ref df hc h
  ·rename_i f l f' l'
   cases hb:Nat.beq f f' with
   | false=>rw [hb] at h; cases h
   | true =>
    rw [hb] at h
    have e:=Nat.eq_of_beq_eq_true hb
    subst e
    simp only [cond_true] at h
    cases hr with
    | fn hl hh =>
     obtain ⟨q1,q2⟩:=tM l l' ob h bT
     exact .fn (by omega) (fun i hi=>q2 i hi _ (hh i (by omega)))
  ·rename_i l l'
   cases hr with
   | fj hl hh =>
    obtain ⟨q1,q2⟩:=tM l l' ob h bT
    exact .fj (by omega) (fun i hi=>q2 i hi _ (hh i (by omega)))
  ·rename_i l l'
   cases hr with
   | ag hl hh =>
    obtain ⟨q1,q2⟩:=tM l l' ob h bT
    exact .ag (by omega) (fun i hi=>q2 i hi _ (hh i (by omega)))
  ·obtain ⟨h1,-⟩:=pd h
   cases hr with
   | wX hμ=>exact .wX (by rw [Ah h1 μ]; exact hμ)
  ·simp only [Option.some.injEq] at h
   subst h
   obtain ⟨rfl,rfl⟩:=bT
   cases hr with
   | Bj hd=>exact .Bj hd
  ·simp only [Option.some.injEq] at h
   subst h
   obtain ⟨rfl,rfl⟩:=bT
   cases hr with
   | zm hd=>exact .zm hd
  ·simp only [Option.some.injEq] at h
   subst h
   obtain ⟨rfl,rfl⟩:=bT
   cases hr with
   | zm hd=>exact .d hd
  ·obtain ⟨h1,rfl⟩:=pd h
   subst bT
   simp only [Bool.and_eq_true] at h1
   have e1:=Nat.eq_of_beq_eq_true h1.1.2
   have e2:=Nat.eq_of_beq_eq_true h1.2
   subst e1; subst e2
   cases hr with
   | yh hμ=>exact .yh (by rw [Ah h1.1.1 μ]; exact hμ)
  ·cases h
theorem tM:∀ (l l':List AV) (ob:Prop),xk ρ l l'=some ob→ob→l.length=l'.length∧∀ i,i < l'.length→∀ v,Rel w S μ ν (l.getD i default) v→Rel w S (xj ρ μ) ν (l'.getD i default) v
 | [],[],_,_,_=>⟨rfl,fun i hi=>absurd hi (by simp)⟩
 | x :: r,y :: s,ob,h,bT=>by
  simp only [xk] at h
  cases h1:rT ρ x y with
  | none=>rw [h1] at h; cases h
  | some a =>
   cases h2:xk ρ r s with
   | none=>rw [h1,h2] at h; cases h
   | some b =>
    rw [h1,h2] at h
    simp only [Option.some.injEq] at h
    subst h
    obtain ⟨q1,q2⟩:=tM r s b h2 bT.2
    refine ⟨by simp [q1],fun i hi=>?_⟩
    cases i with
    | zero=>simpa using xl x y a h1 bT.1
    | succ i=>simpa using q2 i (by simpa using hi)
 | [],_ :: _,_,h,_=>by simp [xk] at h
 | _ :: _,[],_,h,_=>by simp [xk] at h
end
theorem acm {b b':bw} {ob:Prop} (h:mS ρ b b'=some ob) (bT:ob) {g c:Nat} (hb:dg w S μ b g c):dg w S (xj ρ μ) b' g c:=by
 cases b with
 | box cs =>
  cases b' with
  | row=>simp [mS] at h
  | mp=>simp [mS] at h
  | it=>simp [mS] at h
  | mx=>simp [mS] at h
  | box C7 =>
   simp only [mS] at h
   obtain ⟨cur,e,h1,h2,h3,h4⟩:=hb
   have hlen:=(tM (w:=w) (S:=S) (μ:=μ) (ν:=fun _=>false) cs C7 ob h bT).1
   refine ⟨cur,e,h1,h2,by omega,fun j hj=>?_⟩
   obtain ⟨x,hx,hr⟩:=h4 j (by omega)
   exact ⟨x,hx,fun ν=>(tM (w:=w) (S:=S) (μ:=μ) (ν:=ν) cs C7 ob h bT).2 j hj x (hr ν)⟩
 | row e k n f =>
  cases b' with
  | box=>simp [mS] at h
  | mp=>simp [mS] at h
  | it=>simp [mS] at h
  | mx=>simp [mS] at h
  | row e' k' n' f' =>
   simp only [mS] at h
   obtain ⟨h1,rfl⟩:=pd h
   simp only [Bool.and_eq_true] at h1
   have e1:=Nat.eq_of_beq_eq_true h1.1
   have e2:=Nat.eq_of_beq_eq_true h1.2
   subst e1; subst e2
   obtain ⟨rfl,hf⟩:=bT
   obtain ⟨cur,q1,q2,q3,q4,q5,q6⟩:=hb
   refine ⟨cur,q1,q2,q3,q4,q5,fun i hi=>?_⟩
   rw [← hf i hi]
   exact q6 i hi
 | mp n f =>
  cases b' with
  | box=>simp [mS] at h
  | row=>simp [mS] at h
  | it=>simp [mS] at h
  | mx=>simp [mS] at h
  | mp n' f' =>
   simp only [mS,Option.some.injEq] at h
   subst h
   obtain ⟨rfl,rfl⟩:=bT
   exact hb
 | it mk n s =>
  cases b' with
  | box=>simp [mS] at h
  | row=>simp [mS] at h
  | mp=>simp [mS] at h
  | mx=>simp [mS] at h
  | it mk' n' s' =>
   simp only [mS] at h
   obtain ⟨h1,rfl⟩:=pd h
   obtain ⟨rfl,rfl⟩:=bT
   obtain ⟨mg,cc,q0,q1⟩:=hb
   exact ⟨mg,cc,by rw [Ah h1 μ]; exact q0,q1⟩
 | mx =>
  cases b' with
  | mx q' =>
   simp only [mS,Option.some.injEq] at h
   subst h
   obtain rfl:=bT
   exact hb
  | _=>simp [mS] at h
theorem acn {b b':bw} {ob:Prop} (h:mS ρ b b'=some ob) (bT:ob) {y:Option (Option (Nat × Nat))} (hb:hZ w S μ b y):hZ w S (xj ρ μ) b' y:=by
 cases y with
 | none=>cases b <;> exact hb.elim
 | some y =>
  cases y with
  | none =>
   cases b with
   | box=>exact hb.elim
   | mp=>exact hb.elim
   | it=>exact hb.elim
   | mx=>exact hb.elim
   | row e k n f =>
    cases b' with
    | box=>simp [mS] at h
    | mp=>simp [mS] at h
    | it=>simp [mS] at h
    | mx=>simp [mS] at h
    | row e' k' n' f' =>
     simp only [mS] at h
     obtain ⟨_,rfl⟩:=pd h
     have:n=0:=hb
     show n'=0
     rw [← bT.1,this]
  | some gc=>obtain ⟨g,c⟩:=gc; exact (acm h bT hb.at).ok
theorem Bt {lb:List (Nat × bw)}:∀ {lb':List (Nat × bw)} {ob:Prop},JF ρ lb lb'=some ob→ob→∀ κ b,look lb' κ=some b →
  (∃ o c q,look ρ κ=some (some o)∧look lb o=some c∧mS ρ c b=some q∧q)∨(look ρ κ=some none∧∃ e k f,b=.row e k 0 f)
 | [],_,_,_,κ,b,hl=>by simp [look] at hl
 | (κ0,b0) :: r,ob,h,bT,κ,b,hl=>by
  simp only [JF] at h
  split at h
  ·rename_i o p hρ hr
   split at h
   ·rename_i c hc
    split at h
    ·rename_i q hq
     simp only [Option.some.injEq] at h
     subst h
     rw [bC] at hl
     split at hl
     ·rename_i e
      subst e
      simp only [Option.some.injEq] at hl
      subst hl
      exact .inl ⟨o,c,q,hρ,hc,hq,bT.1⟩
     ·exact Bt hr bT.2 κ b hl
    ·cases h
   ·cases h
  ·rename_i p hρ hr
   split at h
   ·rename_i e k n f
    simp only [Option.some.injEq] at h
    subst h
    rw [bC] at hl
    split at hl
    ·rename_i e'
     subst e'
     simp only [Option.some.injEq] at hl
     subst hl
     rw [bT.1]
     exact .inr ⟨hρ,e,k,f,rfl⟩
    ·exact Bt hr bT.2 κ b hl
   ·cases h
  ·cases h
theorem GU:∀ {ρ:Ren},EH ρ=true→∀ κ κ' o,look ρ κ=some (some o)→look ρ κ'=some (some o)→κ=κ'
 | [],_,κ,κ',o,h,_=>by simp [look] at h
 | (k0,some o0) :: r,hi,κ,κ',o,h,h'=>by
  simp only [EH,Bool.and_eq_true,List.all_eq_true] at hi
  rw [bC] at h h'
  have no:∀ κ1,look r κ1=some (some o0)→False:=fun κ1 hk=>by
   have:=hi.1 (κ1,some o0) (jd hk)
   simp [Nat.beq_refl] at this
  split at h
  ·rename_i e1
   simp only [Option.some.injEq] at h
   split at h'
   ·rename_i e2; rw [← e1,← e2]
   ·rw [← h] at h'; exact (no κ' h').elim
  ·split at h'
   ·rename_i e2
    simp only [Option.some.injEq] at h'
    rw [← h'] at h
    exact (no κ h).elim
   ·exact GU hi.2 κ κ' o h h'
 | (k0,none) :: r,hi,κ,κ',o,h,h'=>by
  simp only [EH] at hi
  rw [bC] at h h'
  split at h
  ·cases h
  ·split at h'
   ·cases h'
   ·exact GU hi κ κ' o h h'
theorem Qv {sl:List (Nat × AV)}:∀ {sl':List (Nat × AV)} {ob:Prop},Mv ρ sl sl'=some ob→ob→∀ t x,look sl' t=some x→∃ q,rT ρ (St.get sl t) x=some q∧q
 | [],_,_,_,t,x,hl=>by simp [look] at hl
 | (t0,x0) :: r,ob,h,bT,t,x,hl=>by
  simp only [Mv] at h
  split at h
  ·rename_i a b h1 h2
   simp only [Option.some.injEq] at h
   subst h
   rw [bC] at hl
   split at hl
   ·rename_i e
    subst e
    simp only [Option.some.injEq] at hl
    subst hl
    exact ⟨a,h1,bT.1⟩
   ·exact Qv h2 bT.2 t x hl
  ·cases h
end
theorem Zd {ρ:Ren} {μ:Mu} {κ g c:Nat} (h:xj ρ μ κ=some (some (g,c))):∃ o,look ρ κ=some (some o)∧μ o=some (some (g,c)):=by
 unfold xj at h
 split at h
 ·rename_i o hl; exact ⟨o,hl,h⟩
 ·cases h
 ·cases h
theorem cV.le {C:Cx} {st st':St} {a:Act} {w:World} {S:Nat→Prop} {μ:Mu} {ν:Nat→Bool} (hs:cV C st.fB a w S μ ν) {ρ:Ren} {BV JA:Prop} (hi:EH ρ=true) (h1:Mv ρ st.sl st'.sl=some BV) (Ag:BV) (h2:JF ρ st.lb st'.lb=some JA) (BW:JA):cV C st'.fB a w S (xj ρ μ) ν:=by
 have old:∀ κ b,look st'.lb κ=some b→∀ g c,xj ρ μ κ=some (some (g,c))→∃ o d,look ρ κ=some (some o)∧look st.lb o=some d∧μ o=some (some (g,c)):=by
  intro κ b hb g c hm
  obtain ⟨o,ho,hμ⟩:=Zd hm
  rcases Bt h2 BW κ b hb with ⟨o',d,q,q1,q2,_⟩ | ⟨q1,_⟩
  ·rw [ho] at q1
   simp only [Option.some.injEq] at q1
   subst q1
   exact ⟨o,d,ho,q2,hμ⟩
  ·rw [ho] at q1; cases q1
 refine ⟨hs.tmps,hs.defers,fun t=>?_,fun κ b hb=>?_,fun κ κ' b b' g c c' hb mP hm Ad=>?_,fun κ b g c hb hm=>?_,hs.eB,hs.fresh,hs.bound,hs.kept⟩
 ·simp only [St.fB,St.get]
  cases hl:look st'.sl t with
  | none=>exact .any _
  | some x =>
   obtain ⟨q,q1,q2⟩:=Qv h1 Ag t x hl
   exact xl _ x q q1 q2 _ (hs.dG t)
 ·rcases Bt h2 BW κ b hb with ⟨o,d,q,q1,q2,q3,q4⟩ | ⟨q1,e,k,f,rfl⟩
  ·have hm:xj ρ μ κ=μ o:=by simp [xj,q1]
   rw [hm]
   exact acn q3 q4 (hs.mem o d q2)
  ·have hm:xj ρ μ κ=some none:=by simp [xj,q1]
   rw [hm]
   rfl
 ·obtain ⟨o,d,x1,x2,x3⟩:=old κ b hb g c hm
  obtain ⟨o',d',y1,y2,y3⟩:=old κ' b' mP g c' Ad
  have:=hs.inj o o' d d' g c c' x2 y2 x3 y3
  subst this
  exact GU hi κ κ' o x1 y1
 ·obtain ⟨o,d,x1,x2,x3⟩:=old κ b hb g c hm
  exact hs.own o d g c x2 x3
theorem OX.of {st st':St} (ρ:Ren) {BV JA:Prop} (hi:EH ρ=true) (h1:Mv ρ st.sl st'.sl=some BV) (Ag:BV) (h2:JF ρ st.lb st'.lb=some JA) (BW:JA):OX st st':=by
 rintro C a w ⟨S,μ,cX⟩
 exact ⟨S,xj ρ μ,fun ν=>(cX ν).le hi h1 Ag h2 BW⟩
theorem Uc {ρ:Ren} {sl:List (Nat × AV)}:∀ {sl':List (Nat × AV)} {ob:Prop},Mv ρ sl sl'=some ob→ob→∀ p,p∈sl'→∃ q,rT ρ (St.get sl p.1) p.2=some q∧q
 | [],_,_,_,p,hp=>by cases hp
 | (t0,x0) :: r,ob,h,bT,p,hp=>by
  simp only [Mv] at h
  split at h
  ·rename_i a b h1 h2
   simp only [Option.some.injEq] at h
   subst h
   rcases List.mem_cons.1 hp with rfl | hp
   ·exact ⟨a,h1,bT.1⟩
   ·exact Uc h2 bT.2 p hp
  ·cases h
section
variable {g : Goal} {k : List Item} {st : St}
theorem aaI {C:Cx} {a:Act} {w:World} (hs:j1 C st a w) (hT:nz C.P g.T) (ρ:Ren) {l:List AV} {ro:List (Nat × bw)} {ob:Ob} {BV JA:Prop} (h:vB g.T st g.fn.results.toList=some (l,ro,ob)) (bT:ob.den) (hi:EH ρ=true) (h1:rT ρ (rQ l) g.res=some BV) (Ag:BV) (h2:JF ρ st.lb g.cR=some JA) (BW:JA) :
  ∃ v,(results g.fn a.tmps).run C.P w=.ok v w∧RL C g.res g.cR (.returned v) w:=by
 obtain ⟨S,μ,cX⟩:=hs
 have h0:=cX fun _=>false
 obtain ⟨vs,q1,_⟩:=qR hT h0 h bT
 refine ⟨_,vC q1,_,S,xj ρ μ,rfl,?_⟩
 have hle:=h0.le (st':=⟨[],g.cR⟩) hi (by rfl) trivial h2 BW
 refine ⟨fun ν=>?_,hle.mem,hle.inj,fun κ b g c h1 h2=>(hle.own κ b g c h1 h2).imp id .inl,h0.eB,fun b hb=>(h0.fresh b hb).imp id (Or.imp id .inl),h0.bound,h0.kept.zn fun _ h=>.inl h⟩
 obtain ⟨vs',p1,p2⟩:=qR hT (cX ν) h bT
 have:vs'=vs:=by rw [q1] at p1; cases p1; rfl
 subst this
 exact xl _ _ BV h1 Ag _ (GS p2)
theorem G.ahr (hg:g.Nrm) (hT:nz g.P g.T) (hf:g.P.funcs[g.f]? = some g.fn) (ρ:Ren) {l:List AV} {ro:List (Nat × bw)} {ob:Ob} {BV JA:Prop} (h:vB g.T st g.fn.results.toList=some (l,ro,ob)) (bT:ob.den) (hi:EH ρ=true) (h1:rT ρ (rQ l) g.res=some BV) (Ag:BV) (h2:JF ρ st.lb g.cR=some JA) (BW:JA):G g [] st∧∀ k,G g (.code .ret :: k) st :=
 G.out hg hf (fun C a w c1 hs=>aaI (g:=g) hs (by rw [c1]; exact hT) ρ h bT hi h1 Ag h2 BW)
theorem Ze {mQ:List (Nat × Nat)} (hn:g.Wl mQ) {C:Cx} {a:Act} {w:World} (hk:g.kept a.tmps) (hs:j1 C st a w) (hT:nz C.P g.T) (ρ:Ren) {l:List AV} {ro:List (Nat × bw)} {ob:Ob} {BV JA ob3:Prop} (h:vB g.T st g.fn.results.toList=some (l,ro,ob)) (bT:ob.den) (hi:EH ρ=true) (h1:rT ρ (rQ l) g.res=some BV) (Ag:BV) (h2:JF ρ st.lb g.cR=some JA) (BW:JA) (h3:Mv ρ st.sl (mQ.map fun p=>(p.1,.ptr p.2 0))=some ob3) (ad8:ob3) :
  ∃ v,(results g.fn a.tmps).run C.P w=.ok v w∧XX C g.res g.cR mQ g.tm (.returned v) w:=by
 obtain ⟨S,μ,cX⟩:=hs
 have h0:=cX fun _=>false
 obtain ⟨vs,q1,_⟩:=qR hT h0 h bT
 refine ⟨_,vC q1,_,S,xj ρ μ,rfl,?_,fun p hp ν=>?_⟩
 ·have hle:=h0.le (st':=⟨[],g.cR⟩) hi (by rfl) trivial h2 BW
  refine ⟨fun ν=>?_,hle.mem,hle.inj,fun κ b g c h1 h2=>(hle.own κ b g c h1 h2).imp id .inl,h0.eB,fun b hb=>(h0.fresh b hb).imp id (Or.imp id .inl),h0.bound,h0.kept.zn fun _ h=>.inl h⟩
  obtain ⟨vs',p1,p2⟩:=qR hT (cX ν) h bT
  have:vs'=vs:=by rw [q1] at p1; cases p1; rfl
  subst this
  exact xl _ _ BV h1 Ag _ (GS p2)
 ·obtain ⟨q,e1,e2⟩:=Uc h3 ad8 (p.1,.ptr p.2 0) (List.mem_map.2 ⟨p,hp,rfl⟩)
  rw [← hk p.1 (hn.pr p hp)]
  exact xl _ _ q e1 e2 _ ((cX ν).dG p.1)
theorem G.aco {mQ:List (Nat × Nat)} (hg:g.Wl mQ) (hT:nz g.P g.T) (hf:g.P.funcs[g.f]? = some g.fn) (ρ:Ren) {l:List AV} {ro:List (Nat × bw)} {ob:Ob} {BV JA ob3:Prop} (h:vB g.T st g.fn.results.toList=some (l,ro,ob)) (bT:ob.den) (hi:EH ρ=true) (h1:rT ρ (rQ l) g.res=some BV) (Ag:BV) (h2:JF ρ st.lb g.cR=some JA) (BW:JA) (h3:Mv ρ st.sl (mQ.map fun p=>(p.1,.ptr p.2 0))=some ob3) (ad8:ob3):G g [] st∧∀ k,G g (.code .ret :: k) st :=
 G.ahq hg hf (fun C a w c1 hk hs=>Ze (g:=g) hg hk hs (by rw [c1]; exact hT) ρ h bT hi h1 Ag h2 BW h3 ad8)
end
def Zf (P:Program) (gf:FuncId) (cy:List AV) (ys:List (List AV)):Prop :=
 fq P gf=true∧∀ (w0:World) (S:Nat→Prop) (μ:Mu) (Bp:Array Value) (l:Nat) (J:Nat→(Nat→Prop)→World→Prop) (Jx:(Nat→Prop)→World→Prop) (F0:Nat→Prop),
  (∀ b,S b→b < w0.heap.size)→gM w0 S→(∀ ν,dq w0 S μ ν cy Bp.toList)→(∀ b,S b→¬ F0 b)→(∀ b,F0 b→b < w0.heap.size) →
  (∀ i F W W',J i F W→Kept W W' (fun b=>w0.heap.size≤b∧¬ F b∧¬ S b)→J i F W')→(∀ F W W',Jx F W→Kept W W' (fun b=>w0.heap.size≤b∧¬ F b∧¬ S b)→Jx F W') →
  (∀ i F W (vs:Array Value),i < ys.length→J i F W→(∀ ν,dq W (fun _=>False) (fun _=>none) ν (ys.getD i []) vs.toList)→YieldAt Fence.wide 0 P l vs W fun e W'=>∃ F',(∀ b,F' b→F b∨W.heap.size≤b)∧(∀ b,F' b→b < W'.heap.size)∧Kept W W' F∧((e=.returned (.bool true)∧J (i+1) F' W')∨(e=.returned (.bool false)∧Jx F' W'))) →
  J 0 F0 w0→Calls P gf (#[.func (.yield l) #[] #[]]++Bp) w0 fun e w'=>(∃ v,e=.returned v)∧((∃ F,J ys.length F w')∨∃ F,Jx F w')
structure Core (A:M) (tm:Array Value) (w:World) (S:Nat→Prop) (μ:Mu) (ν:Nat→Bool):Prop where
 dG:∀ t,Rel w S μ ν (A.sl t) (tm.getD t undef)
 mem:∀ κ b,A.lb κ=some b→hZ w S μ b (μ κ)
 inj:∀ κ κ' b b' g c c',A.lb κ=some b→A.lb κ'=some b'→μ κ=some (some (g,c))→μ κ'=some (some (g,c'))→κ=κ'
 bound:∀ b,S b→b < w.heap.size
def sx (A:M) (μ:Mu) (q:Nat):Prop:=∃ κ b c,A.lb κ=some b∧μ κ=some (some (q,c))
theorem cV.core {C:Cx} {A:M} {a:Act} {w:World} {S:Nat→Prop} {μ:Mu} {ν:Nat→Bool} (h:cV C A a w S μ ν):Core A a.tmps w S μ ν:=⟨h.dG,h.mem,h.inj,h.bound⟩
theorem cV.Ud {C:Cx} {A:M} {a:Act} {w:World} {S:Nat→Prop} {μ:Mu} {ν:Nat→Bool} (h:cV C A a w S μ ν) {q:Nat} (hq:sx A μ q):C.w0.heap.size≤q∨C.T0 q:=by
 obtain ⟨κ,b,c,h1,h2⟩:=hq
 exact h.own κ b q c h1 h2
theorem Core.rU {A:M} {tm:Array Value} {w:World} {S:Nat→Prop} {μ:Mu} {ν:Nat→Bool} (h:Core A tm w S μ ν) {q:Nat} (hq:sx A μ q):∃ b c,dg w S μ b q c:=by
 obtain ⟨κ,b,c,h1,h2⟩:=hq
 have:=h.mem κ b h1
 rw [h2] at this
 exact ⟨b,c,this.at⟩
theorem dg.Lx {w:World} {S:Nat→Prop} {μ:Mu} {b:bw} {g cap:Nat} {o:Loop} (h:dg w S μ b g cap):w.heap[g]?≠some (.loop o):=by
 cases b with
 | box cs=>obtain ⟨cur,e,hg,_⟩:=h; rw [hg]; simp
 | row e k n f=>obtain ⟨cur,hg,_⟩:=h; rw [hg]; simp
 | mp n f=>obtain ⟨cur,hg,_⟩:=h; rw [hg]; simp
 | it mk n seen=>obtain ⟨mg,c,_,hg,_⟩:=h; rw [hg]; simp
 | mx=>obtain ⟨m,_,cur,hg,_⟩:=h; rw [hg]; simp
theorem Core.keep {A:M} {tm tm':Array Value} {w w':World} {S:Nat→Prop} {μ:Mu} {ν:Nat→Bool} (h:Core A tm w S μ ν) (ht:∀ t,A.sl t=.any∨tm'.getD t undef=tm.getD t undef) (hS:∀ b,S b→w'.heap[b]? = w.heap[b]?) (hO:∀ q,sx A μ q→w'.heap[q]? = w.heap[q]?) (jF:w.heap.size≤w'.heap.size):Core A tm' w' S μ ν:=by
 refine ⟨fun t=>?_,fun κ b hb=>?_,h.inj,fun b hb=>Nat.lt_of_lt_of_le (h.bound b hb) jF⟩
 ·rcases ht t with e | e
  ·rw [e]; exact .any _
  ·rw [e]; exact (h.dG t).mono (fun _ x=>x) hS (fun _ _ e=>e)
 ·have hm:=h.mem κ b hb
  refine hm.mono (fun _ x=>x) hS (fun _ _ e=>e) (fun g c e=>?_)
  rw [e] at hm
  exact ⟨hO g ⟨κ,b,c,hb,e⟩,hm.at.not⟩
def Cx.at (P:Program) (nt:Nat) (w:World) (S:Nat→Prop) (A:M) (μ:Mu) (hg:gM w S) (hm:∀ κ b,A.lb κ=some b→hZ w S μ b (μ κ)) (hb:∀ b,S b→b < w.heap.size) (dl:List Deferred) (dok:∀ d,d∈dl→∃ q,d = { target:=.collected q,args:=#[] }∧w.heap[q]? = some (.deferred (some []))∧¬ S q) (dnd:dl.Nodup):Cx :=
 ⟨P,w,S,sx A μ,nt,hg,fun b hs ⟨κ,bk,c,h1,h2⟩=>by
  have:=hm κ bk h1
  rw [h2] at this
  exact this.at.not hs,hb,dl,fun d hd=>by
  obtain ⟨q,e,h1,h2⟩:=dok d hd
  refine ⟨q,e,h1,fun ⟨κ,bk,c,q1,q2⟩=>?_,h2⟩
  have:=hm κ bk q1
  rw [q2] at this
  exact this.at.rR h1,dnd⟩
theorem Core.sim {P:Program} {nt:Nat} {A:M} {a:Act} {w:World} {S:Nat→Prop} {μ:Mu} {ν:Nat→Bool} (h:Core A a.tmps w S μ ν) (hn:a.tmps.size=nt) (hg:gM w S) (hm hb dl dok dnd) (hd:a.defers=dl):cV (Cx.at P nt w S A μ hg hm hb dl dok dnd) A a w S μ ν :=
 ⟨hn,hd,h.dG,h.mem,h.inj,fun κ b g c h1 h2=>.inr ⟨κ,b,c,h1,h2⟩,fun _ x=>x,fun _ x=>.inl x,h.bound,Kept.refl _ _⟩
def pJ {σ β Y:Type} (f:σ→Y→β ⊕ σ):List Y→σ→β ⊕ σ
 | [],s=>.inr s
 | y :: r,s=>match f s y with
  | .inl b=>.inl b
  | .inr s'=>pJ f r s'
theorem Qw {σ β Y:Type} {f:σ→Y→β ⊕ σ}:∀ {l:List Y} {i:Nat} {s s1:σ} (h:i < l.length),pJ f (l.take i) s=.inr s1→pJ f (l.take (i+1)) s=f s1 l[i]∧(∀ b,f s1 l[i]=.inl b→pJ f l s=.inl b)
 | [],i,s,s1,h,_=>absurd h (by simp)
 | y :: r,0,s,s1,_,e=>by
  simp only [List.take_zero,pJ,Sum.inr.injEq] at e
  subst e
  refine ⟨?_,fun b hb=>?_⟩
  ·simp only [List.take_succ_cons,List.take_zero,pJ,List.getElem_cons_zero]
   cases f s y <;> rfl
  ·simp only [List.getElem_cons_zero] at hb
   simp only [pJ,hb]
 | y :: r,i+1,s,s1,h,e=>by
  simp only [List.take_succ_cons,pJ] at e ⊢
  cases hf:f s y with
  | inl b=>rw [hf] at e; cases e
  | inr s' =>
   rw [hf] at e
   simp only at e ⊢
   have:=Qw (l:=r) (by simpa using h) e
   simpa using this
theorem Mw {σ β Y:Type} {f:σ→Y→β ⊕ σ} {I:Nat→σ→Prop} {B:β→Prop}:∀ (l:List Y) (k:Nat),(∀ i s y,I (k+i) s→l[i]? = some y→match f s y with | .inl b=>B b | .inr s'=>I (k+i+1) s')→∀ s,I k s→match pJ f l s with | .inl b=>B b | .inr s'=>I (k+l.length) s'
 | [],k,_,s,h=>h
 | y :: r,k,hf,s,h=>by
  have h1:=hf 0 s y h (by simp)
  simp only [pJ]
  cases e:f s y with
  | inl b=>rw [e] at h1; exact h1
  | inr s' =>
   rw [e] at h1
   have:=Mw (I:=I) (B:=B) r (k+1) (fun i s y hs hy=>by
    have:=hf (i+1) s y (by rw [show k+(i+1)=k+1+i by omega]; exact hs) (by simpa using hy)
    rw [show k+(i+1)+1=k+1+i+1 by omega] at this
    exact this) s' h1
   rw [show k+(y :: r).length=k+1+r.length by simp; omega]
   exact this
structure Reb (C C':Cx):Prop where
 sub:∀ b,C.S0 b→C'.S0 b
 new:∀ b,C'.S0 b→C.S0 b∨C.w0.heap.size≤b∨C.T0 b
 kept:Kept C.w0 C'.w0 C.T0
 tk:∀ q,C'.TD q→C.TD q∨C.w0.heap.size≤q
theorem RL.reb {C C':Cx} (h:Reb C C') {res:AV} {cR:List (Nat × bw)} {e:Ending} {w:World} (hp:RL C' res cR e w):RL C res cR e w:=by
 obtain ⟨v,S',μ',rfl,B⟩:=hp
 refine ⟨v,S',μ',rfl,B.res,B.mem,B.inj,fun κ b g c h1 h2=>?_,fun b hb=>B.sub b (h.sub b hb),fun b hb=>?_,B.bound,(h.kept.zn fun _ x=>.inl x).trans B.kept fun b hb ht=>?_⟩
 ·rcases B.own κ b g c h1 h2 with q | q
  ·exact .inl (Nat.le_trans h.kept.size q)
  ·exact (h.tk g q).symm
 ·rcases B.new b hb with q | q | q
  ·exact (h.new b q).imp id (Or.imp id .inl)
  ·exact .inr (.inl (Nat.le_trans h.kept.size q))
  ·exact .inr ((h.tk b q).symm)
 ·exact (h.tk b ht).resolve_right (by omega)
theorem ZN.reb {P:Program} {f:FuncId} {res:AV} {cR:List (Nat × bw)} {C C':Cx} {b:Frame} {cs:List Frame} {m:Machine} (h:Reb C C') (hz:ZN P f res cR C' b cs m):ZN P f res cR C b cs m :=
 let ⟨e,w',fr,q1,q2⟩:=hz
 ⟨e,w',fr,q1.reb h,q2⟩
def zq:List Nat→List AV→List (Nat × AV)
 | p :: ps,x :: xs=>(p,x) :: zq ps xs
 | _,_=>[]
def Wn (nt:Nat) (prl:List Nat):List Nat→Bool
 | []=>true
 | p :: ps=>Nat.ble (p+1) nt&&!prl.any (fun q=>Nat.beq q p)&&!ps.any (fun q=>Nat.beq q p)&&Wn nt prl ps
theorem any_beq {l:List Nat} {p:Nat} (h:(!l.any fun q=>Nat.beq q p)=true):p ∉ l:=fun hp=>by
 have:(l.any fun q=>Nat.beq q p)=true:=List.any_eq_true.2 ⟨p,hp,Nat.beq_refl p⟩
 rw [this] at h
 cases h
theorem Qx {w:World} {S:Nat→Prop} {μ:Mu} {ν:Nat→Bool} {nt:Nat} {prl:List Nat}:∀ (ps:List Nat) (xs:List AV) (vs:List Value) (t:Array Value),Wn nt prl ps=true→ps.length=xs.length→t.size=nt→dq w S μ ν xs vs →
  ((ps.zip vs).foldl (fun t (p:Nat × Value)=>t.setIfInBounds p.1 p.2) t).size=nt∧(∀ u,u ∉ ps→((ps.zip vs).foldl (fun t (p:Nat × Value)=>t.setIfInBounds p.1 p.2) t).getD u undef=t.getD u undef) ∧
   ∀ u x,look (zq ps xs) u=some x→Rel w S μ ν x (((ps.zip vs).foldl (fun t (p:Nat × Value)=>t.setIfInBounds p.1 p.2) t).getD u undef)
 | [],xs,vs,t,_,_,ht,_=>⟨by simpa using ht,fun u _=>by simp,fun u x h=>by simp [zq,look] at h⟩
 | p :: ps,[],vs,t,_,h,_,_=>absurd h (by simp)
 | p :: ps,x :: xs,[],t,_,_,_,hr=>absurd hr.1 (by simp)
 | p :: ps,x :: xs,v :: vs,t,hp,hl,ht,hr=>by
  simp only [Wn,Bool.and_eq_true] at hp
  obtain ⟨⟨⟨h1,h2⟩,h3⟩,h4⟩:=hp
  have h1:=Nat.le_of_ble_eq_true h1
  have h3:=any_beq h3
  have hr':dq w S μ ν xs vs:=⟨by simpa using hr.1,fun i hi=>by simpa using hr.2 (i+1) (by simpa using hi)⟩
  obtain ⟨q1,q2,q3⟩:=Qx ps xs vs (t.setIfInBounds p v) h4 (by simpa using hl) (by simpa using ht) hr'
  simp only [List.zip_cons_cons,List.foldl_cons]
  refine ⟨q1,fun u hu=>?_,fun u y hy=>?_⟩
  ·rw [q2 u (fun h=>hu (by simp [h]))]
   exact cO _ _ _ _ (fun e=>hu (by simp [e]))
  ·simp only [zq,bC] at hy
   split at hy
   ·rename_i e
    subst e
    simp only [Option.some.injEq] at hy
    subst hy
    rw [q2 p h3,gV _ _ _ (by omega)]
    simpa using hr.2 0 (by simp)
   ·exact q3 u y hy
structure I5 (w:World) (S C8 S1:Nat→Prop) (A:M) (μ1:Mu) (r:Loop) (F:Nat→Prop) (W:World):Prop where
 zU:gM W S1
 sub:∀ b,S b→S1 b
 new:∀ b,S1 b→S b∨w.heap.size≤b∨C8 b
 own:∀ q,sx A μ1 q→C8 q∨w.heap.size≤q
 kept:Kept w W C8
 dD:W.heap[w.heap.size]? = some (.deferred (some []))
 dl:W.heap[w.heap.size+1]? = some (.loop r)
 nD:¬ S1 w.heap.size
 nl:¬ S1 (w.heap.size+1)
 F:∀ q,F q↔(sx A μ1 q∨(S1 q∧¬ S q)∨q=w.heap.size+1∨q=w.heap.size)
theorem I5.keep {w:World} {S C8 S1:Nat→Prop} {A:M} {μ1:Mu} {r:Loop} {F:Nat→Prop} {W W':World} {n:Nat} {tm:Array Value} (h:I5 w S C8 S1 A μ1 r F W) (hc:∀ ν,Core A tm W S1 μ1 ν) (hn:w.heap.size+2≤n) (hk:Kept W W' (fun b=>n≤b∧¬ F b∧¬ S b)) :
  I5 w S C8 S1 A μ1 r F W'∧∀ ν,Core A tm W' S1 μ1 ν:=by
 have hc0:=hc fun _=>false
 have hS:∀ b,S1 b→W'.heap[b]? = W.heap[b]?:=fun b hb=>hk.block b (hc0.bound b hb) (fun ⟨_,h2,h3⟩=>h2 ((h.F b).2 (.inr (.inl ⟨hb,h3⟩))))
 have hO:∀ q,sx A μ1 q→W'.heap[q]? = W.heap[q]?:=fun q hq=>hk.block q (by obtain ⟨_,_,hb⟩:=hc0.rU hq; exact hb.lt) (fun ⟨_,h2,_⟩=>h2 ((h.F q).2 (.inl hq)))
 have lt:∀ {q o},W.heap[q]? = some o→q < W.heap.size:=fun e=>(Array.getElem?_eq_some_iff.1 e).1
 exact ⟨⟨h.zU.mono (fun _ x=>x) hS,h.sub,h.new,h.own,h.kept.trans hk (fun b hb ⟨h1,_⟩=>by omega),(hk.block _ (lt h.dD) (fun ⟨h1,_⟩=>by omega)).trans h.dD,(hk.block _ (lt h.dl) (fun ⟨h1,_⟩=>by omega)).trans h.dl,h.nD,h.nl,h.F⟩,
  fun ν=>(hc ν).keep (fun t=>.inr rfl) hS hO hk.size⟩
def Goal.round (g:Goal) (prl:List Nat) (tm:Array Value) (Z:Cx→Frame→List Frame→Machine→Prop) (zs:∀ C b cs m m',Steps g.P m m'→Z C b cs m'→Z C b cs m):Goal:={ g with md:=1,pr:=prl,tm:=tm,Z:=Z,zs:=zs }
theorem Mx {w:World} {q:Nat} {o:Obj}:Kept w (w.putObj q o) (fun b=>b=q):=⟨rfl,rfl,rfl,by simp [World.putObj],fun b _ hb=>World.putObj_heap_other hb⟩
section
open Go Go.RowKit
theorem G.rf {g:Goal} {k:List Item} {st:St} (hn:g.Nrm) (hz:∀ {C C' b cs m},Reb C C'→g.Z C' b cs m→g.Z C b cs m) {t:Nat} {ps:Array Tmp} {Ly body:Code} {gf:FuncId} {cy:List AV}
    {Y σ β:Type} (ys:List Y) (enc:Y→List AV) (step:σ→Y→β ⊕ σ) (s0:σ) (I:Nat→σ→Prop) (Qy:List (Nat × AV)) (Js:σ→St) (Jb:β→St) (id:Nat) (stA:σ→Y→St)
    (VN:∀ s,(Js s).sl=Qy) (hbl:∀ b,(Jb b).sl=Qy) (h0:OX st (Js s0)) (hf:St.get Qy t=.fn gf cy) (afI:vk.nI cy=true) (hit:Zf g.P gf cy (ys.map enc))
    (hps:Wn g.nt (Qy.map (·.1)) ps.toList=true) (hpl:∀ y,y∈ys→ps.toList.length=(enc y).length) (hI0:I 0 s0) (hI:∀ i s y,I i s→ys[i]? = some y→match step s y with | .inl _=>True | .inr s'=>I (i+1) s')
    (ahs:∀ s y tm Z zs,y∈ys→G (g.round (Qy.map (·.1)) tm Z zs) [.beginRound,.code body] (stA s y)→G (g.round (Qy.map (·.1)) tm Z zs) [.code Ly,.beginRound,.code body] ⟨zq ps.toList (enc y)++Qy,(Js s).lb⟩)
    (afJ:∀ i s y tm Z zs,I i s→ys[i]? = some y→(match step s y with | .inr s'=>G (g.round (Qy.map (·.1)) tm Z zs) [] (Js s') | .inl b=>∀ k',exitTo id k'=none→G (g.round (Qy.map (·.1)) tm Z zs) (.code (.exit id) :: k') (Jb b))→G (g.round (Qy.map (·.1)) tm Z zs) [.code body] (stA s y))
    (hk:match pJ step ys s0 with | .inr s=>G g k (Js s) | .inl b=>G g (.code (.exit id) :: k) (Jb b)):G g (.code (.rangeFunc (.tmp t) ps Ly body) :: k) st:=by
  intro C c1 c2 a w RN hs b cs RM Ez Wk
  have hrd:b.roundOf=none:=Wk.2 (by rw [hn.md]; decide)
  obtain ⟨S,μ,cX⟩:=h0 C a w hs
  have GV:=cX fun _=>false
  have hnt:a.tmps.size=g.nt:=GV.tmps.trans c2
  have hv:=GV.dG t
  simp only [St.fB,VN s0,hf] at hv
  obtain ⟨Bp,hfv,hrc⟩:∃ Bp:Array Value,a.tmps.getD t undef=.func (.func gf) #[] Bp∧∀ ν,dq w S μ ν cy Bp.toList:=by
    generalize a.tmps.getD t undef=fv at hv
    cases hv with
    | @fn _ _ Bp hl hh=>exact ⟨Bp,rfl,fun ν=>dq.nu ⟨by simpa using hl,fun i hi=>by rw [← cM]; exact hh i hi⟩ afI⟩
  obtain ⟨BX,RO⟩:∃ BX:LoopState→Option Code→Loop,BX=fun s pe=>{ state:=s,pending:=pe,fn:=b.fn,tmps:=a.tmps,params:=ps,assign:=Ly,body:=body,defers:=w.heap.size }:=⟨_,rfl⟩
  obtain ⟨W1,hW1⟩:∃ W1,(w.alloc (.deferred (some []))).alloc (.loop (BX .ready none))=W1:=⟨_,rfl⟩
  have aiX:W1.heap.size=w.heap.size+2:=by rw [← hW1]; simp
  have aaJ:Kept w W1 (fun _=>False):=by
    rw [← hW1]
    exact (oT w _ _).trans (oT _ _ _) (fun _ _ x=>x)
  have hD1:W1.heap[w.heap.size]? = some (.deferred (some [])):=by
    rw [← hW1]; exact (Below.heap_alloc _ _ _ (by simp)).trans (World.alloc_heap_new w _)
  have hL1:W1.heap[w.heap.size+1]? = some (.loop (BX .ready none)):=by
    rw [← hW1]; have:=World.alloc_heap_new (w.alloc (.deferred (some []))) (.loop (BX .ready none)); rwa [World.size_alloc] at this
  let C8:Nat→Prop:=sx (Js s0).fB μ
  let J:Nat→(Nat→Prop)→World→Prop:=fun i F W=>∃ s S1 μ1,pJ step (ys.take i) s0=.inr s∧I i s∧(∀ ν,Core (Js s).fB a.tmps W S1 μ1 ν)∧I5 w S C8 S1 (Js s).fB μ1 (BX .ready none) F W
  let Jx:(Nat→Prop)→World→Prop:=fun F W=>∃ bb S1 μ1,pJ step ys s0=.inl bb∧(∀ ν,Core (Jb bb).fB a.tmps W S1 μ1 ν)∧I5 w S C8 S1 (Jb bb).fB μ1 (BX .done (some (.exit id))) F W
  have hS1:∀ b,S b→W1.heap[b]? = w.heap[b]?:=fun b hb=>aaJ.block b (GV.bound b hb) (fun x=>x)
  let F0:Nat→Prop:=fun q=>sx (Js s0).fB μ q∨(S q∧¬ S q)∨q=w.heap.size+1∨q=w.heap.size
  have ad9:∀ ν,Core (Js s0).fB a.tmps W1 S μ ν:=fun ν=>(cX ν).core.keep (fun _=>.inr rfl) hS1 (fun q hq=>aaJ.block q (by obtain ⟨_,_,hb⟩:=(cX ν).core.rU hq; exact hb.lt) (fun x=>x)) aaJ.size
  have adt:I5 w S C8 S (Js s0).fB μ (BX .ready none) F0 W1:=⟨GV.zU.mono (fun _ x=>x) hS1,fun _ x=>x,fun _ x=>.inl x,fun _ x=>.inl x,aaJ.zn (fun _ x=>x.elim),hD1,hL1,fun h=>by have:=GV.bound _ h; omega,fun h=>by have:=GV.bound _ h; omega,fun q=>Iff.rfl⟩
  -- ONE aiK
  have aea:∀ i F W (vs:Array Value),i < (ys.map enc).length→J i F W→(∀ ν,dq W (fun _=>False) (fun _=>none) ν ((ys.map enc).getD i []) vs.toList)→YieldAt Fence.wide 0 g.P (w.heap.size+1) vs W fun e W'=>∃ F',(∀ b,F' b→F b∨W.heap.size≤b)∧(∀ b,F' b→b < W'.heap.size)∧Kept W W' F∧((e=.returned (.bool true)∧J (i+1) F' W')∨(e=.returned (.bool false)∧Jx F' W')):=by
    rintro i F W vs hi ⟨s,S1,μ1,e9,hIs,ug,hinv⟩ zE
    have fp:i < ys.length:=by simpa using hi
    obtain ⟨y,hy⟩:∃ y,ys[i]=y:=⟨_,rfl⟩
    have hym:y∈ys:=hy ▸ List.getElem_mem fp
    have hyi:ys[i]? = some y:=by rw [List.getElem?_eq_getElem fp,hy]
    have hgy:(ys.map enc).getD i []=enc y:=by simp [List.getD,fp,hy]
    rw [hgy] at zE
    obtain ⟨ht1,ht2⟩:=Qw fp e9
    rw [hy] at ht1 ht2
    have hlen:ps.toList.length=(enc y).length:=hpl y hym
    have Ai:vs.size=ps.size:=by have:=(zE fun _=>false).1; simp at this hlen; omega
    have V3:=run_yield (P:=g.P) (args:=vs) hinv.dl (by rw [RO]; exact Ai)
    rw [RO] at V3
    refine ⟨_,_,_,_,V3,trivial,fun c C7 _=>?_⟩
    let br:Frame:={ (default:Frame) with fn:=b.fn,kind:=.normal,roundOf:=some (w.heap.size+1) }
    have vi:∀ tm,Frame.round (w.heap.size+1) b.fn tm Ly body .normal=br.atR { tmps:=tm,defers:=[] } [.code Ly,.beginRound,.code body]:=fun tm=>by simp [Frame.round,Frame.atR,br]
    -- it is aht to aiY back with a bool
    suffices afK:∃ v w',(∃ F',(∀ b,F' b→F b∨W.heap.size≤b)∧(∀ b,F' b→b < w'.heap.size)∧Kept W w' F∧((v=.bool true∧J (i+1) F' w')∨(v=.bool false∧Jx F' w')))∧Steps g.P (lone (br.atR { tmps:=(ps.zip vs).foldl (fun t (p,v)=>t.setIfInBounds p v) a.tmps,defers:=[] } [.code Ly,.beginRound,.code body]) (c :: C7) W) (lone (c.finish v) C7 w') by
      obtain ⟨v,w',⟨F',q1,q1b,q2,q3⟩,jK⟩:=afK
      refine ⟨.returned v,w',⟨F',q1,q1b,q2,?_⟩,?_⟩
      · rcases q3 with ⟨rfl,q⟩ | ⟨rfl,q⟩
        · exact .inl ⟨rfl,q⟩
        · exact .inr ⟨rfl,q⟩
      · rw [vi]
        exact stepsIn_wide.2 jK
    have O1:=fun ν=>Qx (w:=W) (S:=fun _=>False) (μ:=fun _=>none) (ν:=ν) ps.toList (enc y) vs.toList a.tmps hps hlen hnt (zE ν)
    have htm:(ps.zip vs).foldl (fun t (p,v)=>t.setIfInBounds p v) a.tmps=(ps.toList.zip vs.toList).foldl (fun t (p:Nat × Value)=>t.setIfInBounds p.1 p.2) a.tmps:=by
      rw [← Array.foldl_toList,Array.toList_zip]
    rw [htm]
    generalize hTM:(ps.toList.zip vs.toList).foldl (fun t (p:Nat × Value)=>t.setIfInBounds p.1 p.2) a.tmps=tm at O1 ⊢
    have afL:∀ (L:List Nat) (u:Nat),Wn g.nt (Qy.map (·.1)) L=true→u∈Qy.map (·.1)→u ∉ L:=by
      intro L
      induction L with
      | nil=>intro u _ _ h; cases h
      | cons p L ih =>
        intro u h hu hm
        simp only [Wn,Bool.and_eq_true] at h
        rcases List.mem_cons.1 hm with rfl | hm
        · exact any_beq h.1.1.2 hu
        · exact ih u h.2 hu hm
    have hpr:∀ u,u∈Qy.map (·.1)→tm.getD u undef=a.tmps.getD u undef:=fun u hu=>(O1 fun _=>false).2.1 u (afL _ u hps hu)
    -- Jw state behind Jw parameters
    have aeb:∀ ν,Core (St.fB ⟨zq ps.toList (enc y)++Qy,(Js s).lb⟩) tm W S1 μ1 ν:=fun ν=>by
      refine ⟨fun u=>?_,(ug ν).mem,(ug ν).inj,(ug ν).bound⟩
      simp only [St.fB,St.get,vx]
      cases h1:look (zq ps.toList (enc y)) u with
      | some x=>exact ((O1 ν).2.2 u x h1).mono (fun _ x=>x.elim) (fun _ x=>x.elim) (fun _ _ e=>by cases e)
      | none =>
        simp only
        cases h2:look Qy u with
        | none=>exact .any _
        | some x =>
          have:=(ug ν).dG u
          simp only [St.fB,VN,St.get,h2] at this
          rw [hpr u (qL h2)]
          exact this
    have RP:=ug fun _=>false
    have nlS:∀ {q:Nat} {r:Loop},W.heap[q]? = some (.loop r)→¬ sx (Js s).fB μ1 q:=fun e h=>by obtain ⟨_,_,hb⟩:=RP.rU h; exact hb.Lx e
    have ndS:∀ {q:Nat} {r:Option (List Deferred)},W.heap[q]? = some (.deferred r)→¬ sx (Js s).fB μ1 q:=fun e h=>by obtain ⟨_,_,hb⟩:=RP.rU h; exact hb.rR e
    have hlW:w.heap.size+1 < W.heap.size:=(Array.getElem?_eq_some_iff.1 hinv.dl).1
    let C1:Cx:=Cx.at g.P g.nt W S1 (St.fB ⟨zq ps.toList (enc y)++Qy,(Js s).lb⟩) μ1 hinv.zU RP.mem RP.bound [] (fun d h=>by cases h) List.nodup_nil
    have aaK:j1 C1 ⟨zq ps.toList (enc y)++Qy,(Js s).lb⟩ { tmps:=tm,defers:=[] } W:=⟨S1,μ1,fun ν=>(aeb ν).sim (O1 fun _=>false).1 _ _ _ _ _ _ rfl⟩
    let Rr:Value→World→Prop:=fun v w'=>∃ F',(∀ b,F' b→F b∨W.heap.size≤b)∧(∀ b,F' b→b < w'.heap.size)∧Kept W w' F∧((v=.bool true∧J (i+1) F' w')∨(v=.bool false∧Jx F' w'))
    let Z1:Cx→Frame→Cx→List Frame→Machine→Prop:=fun CC bb C' zT m=>C'=CC→zT=c :: C7→bb=br→∃ v w',Rr v w'∧Steps g.P m (lone (c.finish v) C7 w')
    have zsc:∀ CC:Cx,∀ C' bb zT m m',Steps g.P m m'→Z1 CC bb C' zT m'→Z1 CC bb C' zT m:=fun CC C' bb zT m m' jK hz e1 e2 e3=>by
      obtain ⟨v,w',q1,q2⟩:=hz e1 e2 e3
      exact ⟨v,w',q1,jK.trans q2⟩
    have afM:∀ gg:Goal,gg.md=1→(br.roundOf=none↔gg.md≠1):=fun gg h=>⟨fun e=>by simp [br] at e,fun e=>absurd h e⟩
    refine ahs s y a.tmps (fun C' bb zT m=>Z1 C1 bb C' zT m) (fun C' bb zT m m'=>zsc C1 C' bb zT m m') hym ?_ C1 rfl rfl _ W (fun u hu=>hpr u hu) aaK br (c :: C7) RM rfl (afM _ rfl) rfl rfl rfl
    intro C' e1 e2 a1 W' hk1 hs1 bb zT _ _ _ hCC we hbb
    subst hCC; subst we; subst hbb
    obtain ⟨S2,μ2,Ue⟩:=hs1
    have h2:=Ue fun _=>false
    have hkW:Kept W W' (sx (Js s).fB μ1):=h2.kept
    have O3:W'.heap[w.heap.size+1]? = some (.loop (BX .ready none)):=(hkW.block _ hlW (nlS hinv.dl)).trans hinv.dl
    have hD':W'.heap[w.heap.size]? = some (.deferred (some [])):=(hkW.block _ (by omega) (ndS hinv.dD)).trans hinv.dD
    have ahu:=run_beginRound (P:=g.P) O3 (by rw [RO])
    have acp:Steps g.P (lone (br.atR a1 [.beginRound,.code body]) (c :: C7) W') (lone (br.atR a1 [.code body]) (c :: C7) (W'.putObj (w.heap.size+1) (.loop { BX .ready none with state:=.busy }))):=.one (stepR_beginRound rfl ahu)
    obtain ⟨W2,Z6⟩:∃ W2,W'.putObj (w.heap.size+1) (.loop { BX .ready none with state:=.busy })=W2:=⟨_,rfl⟩
    rw [Z6] at acp
    have Wa:Kept W' W2 (fun q=>q=w.heap.size+1):=Z6 ▸ Mx
    have hl2:W2.heap[w.heap.size+1]? = some (.loop { BX .ready none with state:=.busy }):=by rw [← Z6]; exact World.putObj_heap_same (Array.getElem?_eq_some_iff.1 O3).1
    have aec:∀ q,S2 q→S1 q∨W.heap.size≤q∨sx (Js s).fB μ1 q:=h2.fresh
    have nl2:¬ S2 (w.heap.size+1):=fun h=>by
      rcases aec _ h with q | q | q
      · exact hinv.nl q
      · omega
      · exact nlS hinv.dl q
    have nD2:¬ S2 w.heap.size:=fun h=>by
      rcases aec _ h with q | q | q
      · exact hinv.nD q
      · omega
      · exact ndS hinv.dD q
    have aed:∀ q,sx (stA s y).fB μ2 q→W.heap.size≤q∨sx (Js s).fB μ1 q:=fun q hq=>h2.Ud hq
    have hS2:∀ q,S2 q→W2.heap[q]? = W'.heap[q]?:=fun q hq=>Wa.block q (h2.bound q hq) (fun e=>nl2 (e ▸ hq))
    have nO2:¬ sx (stA s y).fB μ2 (w.heap.size+1):=fun h=>by obtain ⟨_,_,hb⟩:=h2.core.rU h; exact hb.Lx O3
    have ahv:¬ sx (stA s y).fB μ2 w.heap.size:=fun h=>by obtain ⟨_,_,hb⟩:=h2.core.rU h; exact hb.rR hD'
    have Wo:∀ ν,Core (stA s y).fB a1.tmps W2 S2 μ2 ν:=fun ν=>(Ue ν).core.keep (fun _=>.inr rfl) hS2 (fun q hq=>Wa.block q (by obtain ⟨_,_,hb⟩:=(Ue ν).core.rU hq; exact hb.lt) (fun e=>nO2 (e ▸ hq))) Wa.size
    have aee:gM W2 S2:=h2.zU.mono (fun _ x=>x) hS2
    let C2:Cx:=Cx.at g.P g.nt W2 S2 (stA s y).fB μ2 aee (Wo fun _=>false).mem (Wo fun _=>false).bound [] (fun d h=>by cases h) List.nodup_nil
    have Uf:j1 C2 (stA s y) a1 W2:=⟨S2,μ2,fun ν=>(Wo ν).sim h2.tmps _ _ _ _ _ _ h2.defers⟩
    suffices ahw:Z1 C2 br C2 (c :: C7) (lone (br.atR a1 [.code body]) (c :: C7) W2) by
      obtain ⟨v,w',q1,q2⟩:=ahw rfl rfl rfl
      exact ⟨v,w',q1,acp.trans q2⟩
    -- how a round ends
    have acq:∀ (Ug:St) (jump:Option Code) (a3:Act) (W3:World) (S3:Nat→Prop) (μ3:Mu),Ug.sl=Qy→(∀ u,u∈Qy.map (·.1)→a3.tmps.getD u undef=a.tmps.getD u undef)→(∀ ν,cV C2 Ug.fB a3 W3 S3 μ3 ν) →
        ∃ W4 F',(Instr.endRound (w.heap.size+1) jump).run g.P W3=.ok (.bool jump.isNone) W4∧(∀ b,F' b→F b∨W.heap.size≤b)∧(∀ b,F' b→b < W4.heap.size)∧Kept W W4 F∧(∀ ν,Core Ug.fB a.tmps W4 S3 μ3 ν)∧I5 w S C8 S3 Ug.fB μ3 (BX (if jump.isNone then .ready else .done) jump) F' W4:=by
      intro Ug jump a3 W3 S3 μ3 hE ahx Uf
      have h3:=Uf fun _=>false
      have aef:Kept W2 W3 (sx (stA s y).fB μ2):=h3.kept
      have hl3:W3.heap[w.heap.size+1]? = some (.loop { BX .ready none with state:=.busy }):=(aef.block _ (Array.getElem?_eq_some_iff.1 hl2).1 nO2).trans hl2
      have hD2:W2.heap[w.heap.size]? = some (.deferred (some [])):=(Wa.block _ (by have:=hkW.size; omega) (by omega)).trans hD'
      have hD3:W3.heap[w.heap.size]? = some (.deferred (some [])):=(aef.block _ (Array.getElem?_eq_some_iff.1 hD2).1 ahv).trans hD2
      have her:=run_endRound (P:=g.P) jump hl3
      obtain ⟨W4,hW4⟩:∃ W4,W3.putObj (w.heap.size+1) (.loop { ({ BX .ready none with state:=.busy }:Loop) with state:=if jump.isNone then .ready else .done,pending:=jump })=W4:=⟨_,rfl⟩
      rw [hW4] at her
      have Zg:Kept W3 W4 (fun q=>q=w.heap.size+1):=hW4 ▸ Mx
      have afN:W.heap.size≤W2.heap.size:=Nat.le_trans hkW.size Wa.size
      have acr:∀ q,S3 q→S1 q∨W.heap.size≤q∨sx (Js s).fB μ1 q:=fun q hq=>by
        rcases h3.fresh q hq with h | h | h
        · exact aec q h
        · exact .inr (.inl (Nat.le_trans afN h))
        · exact .inr (aed q h)
      have afO:∀ q,sx Ug.fB μ3 q→W.heap.size≤q∨sx (Js s).fB μ1 q:=fun q hq=>by
        rcases h3.Ud hq with h | h
        · exact .inl (Nat.le_trans afN h)
        · exact aed q h
      have nl3:¬ S3 (w.heap.size+1):=fun h=>by
        rcases acr _ h with q | q | q
        · exact hinv.nl q
        · omega
        · exact nlS hinv.dl q
      have nD3:¬ S3 w.heap.size:=fun h=>by
        rcases acr _ h with q | q | q
        · exact hinv.nD q
        · omega
        · exact ndS hinv.dD q
      have nO3:¬ sx Ug.fB μ3 (w.heap.size+1):=fun h=>by obtain ⟨_,_,hb⟩:=h3.core.rU h; exact hb.Lx hl3
      have hS4:∀ q,S3 q→W4.heap[q]? = W3.heap[q]?:=fun q hq=>Zg.block q (h3.bound q hq) (fun e=>nl3 (e ▸ hq))
      have hwW:w.heap.size≤W.heap.size:=hinv.kept.size
      have hKF:Kept W W4 F:=by
        refine ((((hkW.zn (fun q hq=>(hinv.F q).2 (.inl hq))).trans Wa (T':=fun q=>q=w.heap.size+1) (fun q _ e=>(hinv.F q).2 (.inr (.inr (.inl e))))).trans aef (fun q hq h=>?_)).trans Zg (fun q _ e=>(hinv.F q).2 (.inr (.inr (.inl e)))))
        rcases aed q h with h | h
        · omega
        · exact (hinv.F q).2 (.inl h)
      refine ⟨W4,fun q=>sx Ug.fB μ3 q∨(S3 q∧¬ S q)∨q=w.heap.size+1∨q=w.heap.size,her,fun q hq=>?_,fun q hq=>?_,hKF,fun ν=>?_,?_⟩
      · rcases hq with h | ⟨h,sQ⟩ | h | h
        · exact (afO q h).symm.imp (fun h=>(hinv.F q).2 (.inl h)) (fun x=>x)
        · rcases acr q h with h | h | h
          · exact .inl ((hinv.F q).2 (.inr (.inl ⟨h,sQ⟩)))
          · exact .inr h
          · exact .inl ((hinv.F q).2 (.inl h))
        · exact .inl ((hinv.F q).2 (.inr (.inr (.inl h))))
        · exact .inl ((hinv.F q).2 (.inr (.inr (.inr h))))
      · have aiZ:=Zg.size
        have h3l:=(Array.getElem?_eq_some_iff.1 hl3).1
        rcases hq with h | ⟨h,_⟩ | h | h
        · obtain ⟨_,_,hb⟩:=h3.core.rU h
          have:=hb.lt
          omega
        · have:=h3.bound q h
          omega
        · omega
        · omega
      · refine (Uf ν).core.keep (fun u=>?_) hS4 (fun q hq=>Zg.block q (by obtain ⟨_,_,hb⟩:=(Uf ν).core.rU hq; exact hb.lt) (fun e=>nO3 (e ▸ hq))) Zg.size
        simp only [St.fB,hE,St.get]
        cases ym:look Qy u with
        | none=>exact .inl rfl
        | some x=>exact .inr (ahx u (qL ym)).symm
      · refine ⟨h3.zU.mono (fun _ x=>x) hS4,fun q hq=>h3.eB q (h2.eB q (hinv.sub q hq)),fun q hq=>?_,fun q hq=>?_,?_,(Zg.block _ (Array.getElem?_eq_some_iff.1 hD3).1 (by omega)).trans hD3,?_,nD3,nl3,fun q=>Iff.rfl⟩
        · rcases acr q hq with h | h | h
          · exact hinv.new q h
          · exact .inr (.inl (Nat.le_trans hwW h))
          · exact .inr (hinv.own q h).symm
        · rcases afO q hq with h | h
          · exact .inr (Nat.le_trans hwW h)
          · exact hinv.own q h
        · refine hinv.kept.trans hKF (fun q hq h=>?_)
          rcases (hinv.F q).1 h with h | ⟨h,sQ⟩ | h | h
          · exact (hinv.own q h).resolve_right (by omega)
          · rcases hinv.new q h with h | h | h
            · exact absurd h sQ
            · omega
            · exact h
          · omega
          · omega
        · rw [← hW4]
          have:=World.putObj_heap_same (o:=.loop { ({ BX .ready none with state:=.busy }:Loop) with state:=if jump.isNone then .ready else .done,pending:=jump }) (Array.getElem?_eq_some_iff.1 hl3).1
          rw [this,RO]
    refine afJ i s y a.tmps (fun C' bb zT m=>Z1 C2 bb C' zT m) (fun C' bb zT m m'=>zsc C2 C' bb zT m m') hIs hyi ?_ C2 rfl rfl a1 W2 hk1 Uf br (c :: C7) RM rfl (afM _ rfl)
    cases jK:step s y with
    | inr s' =>
      simp only
      intro C' e1 e2 a3 W3 hk3 hs3 bb zT _ _ _ hCC we hbb
      subst hCC; subst we; subst hbb
      obtain ⟨S3,μ3,Wp⟩:=hs3
      obtain ⟨W4,F',q1,q2,q2b,q3,q4,q5⟩:=acq (Js s') none a3 W3 S3 μ3 (VN s') (fun u hu=>hk3 u hu) Wp
      have ahy:I (i+1) s':=by have:=hI i s y hIs hyi; rw [jK] at this; exact this
      exact ⟨.bool true,W4,⟨F',q2,q2b,q3,.inl ⟨rfl,s',S3,μ3,by rw [ht1,jK],ahy,q4,q5⟩⟩,.one (stepR_round_end rfl rfl q1)⟩
    | inl bv =>
      simp only
      intro k' hx C' e1 e2 a3 W3 hk3 hs3 bb zT _ _ _ hCC we hbb
      subst hCC; subst we; subst hbb
      obtain ⟨S3,μ3,Wp⟩:=hs3
      obtain ⟨W4,F',q1,q2,q2b,q3,q4,q5⟩:=acq (Jb bv) (some (.exit id)) a3 W3 S3 μ3 (hbl bv) (fun u hu=>hk3 u hu) Wp
      exact ⟨.bool false,W4,⟨F',q2,q2b,q3,.inr ⟨rfl,bv,S3,μ3,ht2 bv jK,q4,q5⟩⟩,.one (stepR_round_exit rfl rfl hx q1)⟩
  -- THE ai0
  have afP:=hit.2 W1 S μ Bp (w.heap.size+1) J Jx F0 (fun b hb=>Nat.lt_of_lt_of_le (GV.bound b hb) aaJ.size) adt.zU (fun ν=>⟨(hrc ν).1,fun i hi=>((hrc ν).2 i hi).mono (fun _ x=>x) hS1 (fun _ _ e=>e)⟩)
    (fun q hq h=>by
      rcases h with h | ⟨_,h⟩ | h | h
      · obtain ⟨_,_,hb⟩:=GV.core.rU h
        exact hb.not hq
      · exact h hq
      · have:=GV.bound q hq; omega
      · have:=GV.bound q hq; omega)
    (fun q h=>by
      rcases h with h | ⟨h,h'⟩ | h | h
      · obtain ⟨_,_,hb⟩:=GV.core.rU h
        have:=hb.lt
        omega
      · exact absurd h h'
      · omega
      · omega)
    (fun i F W W' hJ sP=>by
      obtain ⟨s,S1,μ1,q1,q2,q3,q4⟩:=hJ
      obtain ⟨r1,r2⟩:=q4.keep q3 (n:=W1.heap.size) (by omega) sP
      exact ⟨s,S1,μ1,q1,q2,r2,r1⟩)
    (fun F W W' hJ sP=>by
      obtain ⟨s,S1,μ1,q1,q3,q4⟩:=hJ
      obtain ⟨r1,r2⟩:=q4.keep q3 (n:=W1.heap.size) (by omega) sP
      exact ⟨s,S1,μ1,q1,r2,r1⟩)
    aea ⟨s0,S,μ,by simp [pJ],hI0,ad9,adt⟩
  let fr1:Frame:=b.atR { a with defers:=[{ target:=.collected w.heap.size,args:=#[] }]++a.defers } (.inRangeFunc (w.heap.size+1) :: k)
  obtain ⟨e,w',fr,⟨⟨v,rfl⟩,hJJ⟩,aeg,ai1,aeh⟩:=afP (fr1 :: cs)
  have hen:(Instr.enterLoop b.fn a.tmps ps Ly body b.roundOf).run g.P w=.ok (w.heap.size+1,[{ target:=.collected w.heap.size,args:=#[] }]) W1:=by
    rw [hrd,← hW1,RO]; exact run_enterLoop_outer _ _ _ _ _
  have aan:(resolve a.eval (rangeCall (.tmp t) (w.heap.size+1)) 0).run g.P W1=.ok { target:=.fn (.func gf) Bp,args:=#[.func (.yield (w.heap.size+1)) #[] #[]] } W1:=by
    have:a.eval (.tmp t)=.func (.func gf) #[] Bp:=hfv
    simp only [resolve,this]
    simp [go_sem]
  have afQ:(invoke (.fn (.func gf) Bp) #[.func (.yield (w.heap.size+1)) #[] #[]]).run g.P W1=.ok (.enter gf (#[.func (.yield (w.heap.size+1)) #[] #[]]++Bp)) W1:=by
    have eg:=fun args=>Ey (w:=W1) hit.1 args
    simp [invoke,go_sem,eg]
  have ahz:Steps g.P (lone (b.atR a (.code (.rangeFunc (.tmp t) ps Ly body) :: k)) cs w) (lone (Frame.enter g.P gf (#[.func (.yield (w.heap.size+1)) #[] #[]]++Bp) .normal) (fr1 :: cs) W1):=.one (stepR_rangeFunc hen aan afQ)
  have acp:Steps g.P (lone (b.atR a (.code (.rangeFunc (.tmp t) ps Ly body) :: k)) cs w) (lone (b.atR { a with defers:=[{ target:=.collected w.heap.size,args:=#[] }]++a.defers } (.endRangeFunc (w.heap.size+1) :: k)) cs w'):=by
    refine ahz.trans (Steps.trans aeg (.one ?_))
    rw [← finish_atR_inRangeFunc (w.heap.size+1) v]
    exact step_leave_returned aeh
  -- YN comes then
  have aaL:∀ (Ug:St) (S1:Nat→Prop) (μ1:Mu) (r:Loop) (F:Nat→Prop) (k':List Item),(∀ ν,Core Ug.fB a.tmps w' S1 μ1 ν)→I5 w S C8 S1 Ug.fB μ1 r F w'→r.state≠.busy→(r.pending.map Item.code).toList++k=k'→G g k' Ug→g.Z C b cs (lone (b.atR a (.code (.rangeFunc (.tmp t) ps Ly body) :: k)) cs w):=by
    intro Ug S1 μ1 r F k' ug hinv afR sP hG
    have hel:=run_endLoop (P:=g.P) hinv.dl afR
    have aei:=Steps.trans acp (.one (stepR_endRangeFunc hel))
    rw [sP] at aei
    obtain ⟨W5,hW5⟩:∃ W5,w'.putObj (w.heap.size+1) (.loop { r with state:=.exhausted })=W5:=⟨_,rfl⟩
    rw [hW5] at aei
    have Wa:Kept w' W5 (fun q=>q=w.heap.size+1):=hW5 ▸ Mx
    have hc0:=ug fun _=>false
    have nO:¬ sx Ug.fB μ1 (w.heap.size+1):=fun h=>by obtain ⟨_,_,hb⟩:=hc0.rU h; exact hb.Lx hinv.dl
    have hS5:∀ q,S1 q→W5.heap[q]? = w'.heap[q]?:=fun q hq=>Wa.block q (hc0.bound q hq) (fun e=>hinv.nl (e ▸ hq))
    have Wq:∀ ν,Core Ug.fB a.tmps W5 S1 μ1 ν:=fun ν=>(ug ν).keep (fun _=>.inr rfl) hS5 (fun q hq=>Wa.block q (by obtain ⟨_,_,hb⟩:=(ug ν).rU hq; exact hb.lt) (fun e=>nO (e ▸ hq))) Wa.size
    have hk5:Kept w W5 C8:=hinv.kept.trans Wa (fun q hq e=>by omega)
    have ahA:w.heap.size < w'.heap.size:=(Array.getElem?_eq_some_iff.1 hinv.dD).1
    have ahB:∀ d,d∈[({ target:=.collected w.heap.size,args:=#[] }:Deferred)]++a.defers→∃ q,d = { target:=.collected q,args:=#[] }∧W5.heap[q]? = some (.deferred (some []))∧¬ S1 q:=by
      intro d hd
      rcases List.mem_append.1 hd with hd | hd
      · simp only [List.mem_singleton] at hd
        exact ⟨w.heap.size,hd,(Wa.block _ ahA (by omega)).trans hinv.dD,hinv.nD⟩
      · rw [GV.defers] at hd
        obtain ⟨q,e,q1,q2⟩:=GV.Zb d hd
        have hq:=(Array.getElem?_eq_some_iff.1 q1).1
        have nq:¬ C8 q:=fun h=>by obtain ⟨_,_,hb⟩:=GV.core.rU h; exact hb.rR q1
        refine ⟨q,e,(hk5.block q hq nq).trans q1,fun h=>?_⟩
        rcases hinv.new q h with h | h | h
        · exact q2 h
        · omega
        · exact nq h
    have ahC:([({ target:=.collected w.heap.size,args:=#[] }:Deferred)]++a.defers).Nodup:=by
      refine List.nodup_cons.2 ⟨fun hd=>?_,by rw [GV.defers]; exact C.dnd⟩
      rw [GV.defers] at hd
      obtain ⟨q,e,q1,q2⟩:=GV.Zb _ hd
      cases e
      have:=(Array.getElem?_eq_some_iff.1 q1).1
      omega
    let C5:Cx:=Cx.at g.P g.nt W5 S1 Ug.fB μ1 (hinv.zU.mono (fun _ x=>x) hS5) (Wq fun _=>false).mem (Wq fun _=>false).bound _ ahB ahC
    have afS:j1 C5 Ug { a with defers:=[{ target:=.collected w.heap.size,args:=#[] }]++a.defers } W5:=⟨S1,μ1,fun ν=>Core.sim (a:={ a with defers:=[{ target:=.collected w.heap.size,args:=#[] }]++a.defers }) (Wq ν) hnt _ _ _ _ _ _ rfl⟩
    have aej:∀ q,C8 q→C.w0.heap.size≤q∨C.T0 q:=fun q hq=>GV.Ud hq
    have hw0:C.w0.heap.size≤w.heap.size:=GV.kept.size
    refine g.zs C b cs _ _ aei (hz (C':=C5) ⟨fun q hq=>hinv.sub q (GV.eB q hq),fun q hq=>?_,GV.kept.trans hk5 (fun q hq h=>(aej q h).resolve_left (by omega)),fun q hq=>?_⟩ (hG C5 rfl rfl { a with defers:=[{ target:=.collected w.heap.size,args:=#[] }]++a.defers } W5 RN afS b cs RM Ez Wk))
    · rcases hinv.new q hq with h | h | h
      · exact GV.fresh q h
      · exact .inr (.inl (Nat.le_trans hw0 h))
      · exact .inr (aej q h)
    · rcases hq with h | h
      · rcases hinv.own q h with h | h
        · exact ((aej q h).imp (fun x=>x) .inl).symm
        · exact .inr (Nat.le_trans hw0 h)
      · rcases List.mem_append.1 h with h | h
        · simp only [List.mem_singleton,Deferred.mk.injEq,Target.collected.injEq,and_true] at h
          subst h
          exact .inr hw0
        · rw [GV.defers] at h
          exact .inl (.inr h)
  rcases hJJ with ⟨F,s,S1,μ1,q1,q2,q3,q4⟩ | ⟨F,bv,S1,μ1,q1,q3,q4⟩
  · have q1:pJ step ys s0=.inr s:=by
      have e:ys.take (ys.map enc).length=ys:=by simp
      rw [e] at q1; exact q1
    rw [q1] at hk
    exact aaL (Js s) S1 μ1 _ F k q3 q4 (by rw [RO]; simp) (by rw [RO]; rfl) hk
  · rw [q1] at hk
    exact aaL (Jb bv) S1 μ1 _ F _ q3 q4 (by rw [RO]; simp) (by rw [RO]; rfl) hk

end
def aaM (ops:Array Oper):Option (Nat × Nat × Nat × Nat × Nat × Nat) :=
 match ops.toList with
 | [o1,o2,o3,o4]=>(match o1.op,o1.dst,o1.guard,o2.op,o2.dst,o2.guard with
  | .move (.tmp ts),some d1,none,.move (.tmp ti),some d2,none=>(match o3.op,o3.dst,o3.guard,o4.op,o4.dst,o4.guard with
   | .slice ty (.tmp a) (some (.tmp b)) none none,some d3,none,.call { callee:=.builtin .clear,args:=xs,argTypes:=tys,.. },none,none=>(match xs.toList,tys.toList with
    | [.tmp c],[ty']=>bif Nat.beq a d1&&Nat.beq b d2&&Nat.beq c d3&&Nat.beq ty ty'&&!Nat.beq d1 d2&&!Nat.beq ti d1 then some (ts,ti,ty,d1,d2,d3) else none
    | _,_=>none)
   | _,_,_,_,_,_=>none)
  | _,_,_,_,_,_=>none)
 | _=>none
def wm (x:Nat) (f:Nat→List D) (z:List D):Nat→List D:=fun q=>if q < x then f q else z
section
variable {C : Cx} {A : M} {a : Act} {w : World} {S : Nat → Prop} {μ : Mu} {ν : Nat → Bool}
theorem Pd {P:Program} {t e ty:TypeId} {j:TypeInfo} {z:Value} {i:TI} (F:XH P e i j z) (s9:i.zero.all zD=true) (hu:P.underlying t=some (.slice e)) {g off m c:Nat} {cur:Array Value} {e':TypeId} (hm:0 < m)
  (hg:w.heap[g]? = some (.cells cur e' (0,0))) (hle:off+m * i.size≤cur.size) :
  (Builtin.clear_ #[t] ty #[.slice (some ⟨g,off,none⟩) m c]).run P w=.ok (.tuple #[]) (w.setRow g (cur.toList.take off++(Builtin.zeroCells z.cells m).toList++cur.toList.drop (off+m * i.size)).toArray):=by
 obtain ⟨q1,q2⟩:=iV (w:=w) (S:=fun _=>False) F.zok
 have hzl:z.cells.size=i.size:=by have:=q1; simp only [Array.length_toList] at this; rw [this,F.CV]
 have hlen:(Builtin.zeroCells z.cells m).toList.length=m * i.size:=by simp [Builtin.zeroCells,hzl]
 have jK:=run_storeCells_at P g off e' (Builtin.zeroCells z.cells m).toList 0 cur w hg (by rw [hlen]; omega) (fun v hv=>by
  simp only [Builtin.zeroCells,hzl] at hv
  obtain ⟨q,hq,rfl⟩:∃ q,q < m * i.size∧z.cells[q % i.size]! = v:=by simpa using hv
  have JB:0 < i.size:=by
   rcases Nat.eq_zero_or_pos i.size with h0 | h0
   ·rw [h0] at hq; simp at hq
   ·exact h0
  have dK:q % i.size < i.size:=Nat.mod_lt _ JB
  have h2:=q2 (q % i.size) (by rw [F.CV]; exact dK)
  have O4:q % i.size < z.cells.size:=by omega
  rw [getElem!_pos z.cells _ O4]
  have e1:z.cells.toList.getD (q % i.size) undef=z.cells[q % i.size]:=by simp [List.getD,O4]
  rw [e1] at h2
  simp only [List.all_eq_true] at s9
  exact Ew (s9 _ (by simp [List.getD,F.CV,dK])) h2)
 simp only [Nat.add_zero,hlen] at jK
 obtain ⟨m',rfl⟩:∃ m',m=m'+1:=⟨m - 1,by omega⟩
 simp only [Builtin.clear_,List.getElem?_toArray,List.getElem?_cons_zero,Sem.run_bind,run_underlying hu,Result.andThen_ok,zeroValue,typeInfo,run_program,F.info,Sem.run_pure,F.zero,jK]
theorem My {P:Program} {t e ty:TypeId} (hu:P.underlying t=some (.slice e)) (ad:Option Addr) (c:Nat):(Builtin.clear_ #[t] ty #[.slice ad 0 c]).run P w=.ok (.tuple #[]) w:=by
 cases ad <;> simp [Builtin.clear_,run_underlying hu]
theorem Uh {o:Oper} (h:o.guard=none) (y):Region.wanted o y=true:=by simp [Region.wanted,h]
theorem cV.ahD {st:St} (cX:∀ ν,cV C st.fB a w S μ ν) {d1 d2 d3:Nat} (v1 v2 v3:Value) :
  ∀ ν,cV C (St.fB ⟨aM [d1,d2,d3] st.sl,st.lb⟩) (((a.put (some d1) v1).put (some d2) v2).put (some d3) v3) w S μ ν:=fun ν=>by
 have h:=cX ν
 refine ⟨by simp [Act.put,h.tmps],h.defers,fun u=>?_,h.mem,h.inj,h.own,h.eB,h.fresh,h.bound,h.kept⟩
 simp only [St.fB,St.get,mn]
 by_cases hn:u∈[d1,d2,d3]
 ·rw [if_pos hn]
  exact .any _
 ·rw [if_neg hn]
  simp only [List.mem_cons,List.not_mem_nil,or_false,not_or] at hn
  simp only [Act.put]
  rw [cO _ _ _ _ hn.2.2,cO _ _ _ _ hn.2.1,cO _ _ _ _ hn.1]
  have:=h.dG u
  simp only [St.fB,St.get] at this
  exact this
end
theorem LA {P:Program} {ops:Array Oper} {Q:Exit→Act→World→Prop} {i:Nat} {rest:List Nat} {a:Act} {w w':World} {o:Oper} {v:Value} (ho:ops[i]? = some o) (hg:o.guard=none) (e9:(execOp a.eval o).run P w=.ok (.value v) w') (h:wpOps P ops Q rest (a.put o.dst v) w'):wpOps P ops Q (i :: rest) a w:=by
 simp only [wpOps,ho,Uh hg,if_true]
 left
 unfold Oper.wp
 rw [e9]
 exact h
section
variable {g : Goal}
theorem G.Qz (hT:nz g.P g.T) (hm:g.P.follows .mixedOrders=true) {K:List Item} {st:St} {id:Nat} {ops:Array Oper} {ts ti ty d1 d2 d3 κ e k n:Nat} {f:Nat→List D} {x:Int} {it i:TI} (Wi:JE g.md g.pr ops=true) (pK:aaM ops=some (ts,ti,ty,d1,d2,d3)) (LB:d1 < g.nt) (hd2:d2 < g.nt) (hd3:d3 < g.nt)
  (hs:St.get st.sl ts=.own κ n) (hi:St.get st.sl ti=.d (.v (.int .i64 x))) (hl:look st.lb κ=some (.row e k n f)) (ht:look g.T ty=some it) (hk:it.kind=.slice e) (he:look g.T e=some i) (sP:k=i.size) (s9:i.zero.all zD=true)
  (h0:0≤x) (h1:x≤n) (hg:G g K ⟨aM [d1,d2,d3] st.sl,(κ,.row e k n (wm x.toNat f i.zero)) :: aM [κ] st.lb⟩):G g (.code (.region id ops false) :: K) st:=by
 intro C c1 c2 a w RN hsb
 suffices hw:wpOps C.P ops (fun e' a' w'=>e'=.normal∧j1 C ⟨aM [d1,d2,d3] st.sl,(κ,.row e k n (wm x.toNat f i.zero)) :: aM [κ] st.lb⟩ a' w') (List.range ops.size) a w by
  rw [c1] at hw
  exact G.ops hm Wi RN (.inl ⟨rfl,hw⟩) (fun a' w' fS xb=>hg C c1 c2 a' w' fS xb)
 obtain ⟨S,μ,cX⟩:=hsb
 have hz:=cX fun _=>false
 rw [← c2] at LB hd2 hd3
 rw [← c1] at hT
 subst sP
 unfold aaM at pK
 split at pK
 ·rename_i o1 o2 o3 o4 hol
  split at pK
  ·rename_i XY Z7 ti' d2' q1 q2 q3 q4 q5 q6
   split at pK
   ·rename_i tyq a' b' d3' xs tys r1 r2 r3 r4 r5 r6
    split at pK
    ·rename_i c' ty2 hx RQ
     rw [Bool.cond_eq_ite] at pK
     split at pK
     ·rename_i hbb
      simp only [Bool.and_eq_true,Bool.not_eq_true'] at hbb
      obtain ⟨⟨⟨⟨⟨b1,b2⟩,b3⟩,b4⟩,b5⟩,b6⟩:=hbb
      have b1:=Nat.eq_of_beq_eq_true b1
      have b2:=Nat.eq_of_beq_eq_true b2
      have b3:=Nat.eq_of_beq_eq_true b3
      have b4:=Nat.eq_of_beq_eq_true b4
      subst b1; subst b2; subst b3; subst b4
      simp only [Option.some.injEq,Prod.mk.injEq] at pK
      obtain ⟨rfl,rfl,rfl,rfl,rfl,rfl⟩:=pK
      have n5:a'≠b':=fun e=>by rw [e,Nat.beq_refl] at b5; cases b5
      have n6:ti'≠a':=fun e=>by rw [e,Nat.beq_refl] at b6; cases b6
      have pK:ops = #[o1,o2,o3,o4]:=by cases ops; simpa using hol
      have hxs:xs = #[.tmp c']:=by cases xs; simpa using hx
      have ahE:tys = #[tyq]:=by cases tys; simpa using RQ
      subst pK; subst hxs; subst ahE
      show wpOps C.P #[o1,o2,o3,o4] _ [0,1,2,3] a w
      have jF:∀ (a:Act) (d:Option Nat) (x:Value),(a.put d x).tmps.size=a.tmps.size:=fun a d x=>by cases d <;> simp [Act.put]
      have Zh:∀ (a:Act) (d:Nat) (x:Value),a.tmps.size=C.nt→d < C.nt→(a.put (some d) x).eval (.tmp d)=x:=fun a d x h1 h2=>by
       show (a.tmps.setIfInBounds d x).getD d undef=x
       exact gV _ _ _ (by rw [h1]; exact h2)
      have afT:∀ (a:Act) (d u:Nat) (x:Value),u≠d→(a.put (some d) x).eval (.tmp u)=a.eval (.tmp u):=fun a d u x h=>by
       show (a.tmps.setIfInBounds d x).getD u undef=a.tmps.getD u undef
       exact cO _ _ _ _ h
      have tsz:=hz.tmps
      have hsv:=hz.dG XY
      simp only [St.fB,hs] at hsv
      have hsv:Rel w S μ (fun _=>false) (.own κ n) (a.eval (.tmp XY)):=hsv
      have Z3:=hz.dG ti'
      simp only [St.fB,hi] at Z3
      have Z3:a.eval (.tmp ti')=.int .i64 x:=dL Z3
      obtain ⟨tj,z,F⟩:=aB (hT _ _ ht)
      have sP:=F.kind
      rw [hk] at sP
      have hu:=dU sP
      obtain ⟨ej,ez,E⟩:=aB (hT _ _ he)
      refine LA (o:=o1) rfl q3 (v:=a.eval (.tmp XY)) (w':=w) (by simp [execOp,q1]) ?_
      rw [q2]
      refine LA (o:=o2) rfl q6 (v:=.int .i64 x) (w':=w) (by simp [execOp,q4,afT _ _ _ _ n6,Z3]) ?_
      rw [q5]
      have ea:((a.put (some a') (a.eval (.tmp XY))).put (some b') (.int .i64 x)).eval (.tmp a')=a.eval (.tmp XY):=by rw [afT _ _ _ _ n5,Zh _ _ _ tsz LB]
      have eb:((a.put (some a') (a.eval (.tmp XY))).put (some b') (.int .i64 x)).eval (.tmp b')=.int .i64 x:=Zh _ _ _ (by rw [jF]; exact tsz) hd2
      have j0:=hz.mem κ _ hl
      have jK:(St.fB ⟨st.sl,(κ,.row e i.size n (wm x.toNat f i.zero)) :: aM [κ] st.lb⟩)=st.fB.set κ (some (.row e i.size n (wm x.toNat f i.zero))):=by
       unfold St.fB M.set
       congr 1
       funext q
       rw [bC,mn]
       by_cases hq:κ=q
       ·subst hq; simp
       ·have:q ∉ [κ]:=by simp; exact fun e=>hq e.symm
        have Rw:¬ q=κ:=fun e=>hq e.symm
        simp [hq,Rw]
      have fin:∀ (v3:Value) (w':World),(∀ ν,cV C (st.fB.set κ (some (.row e i.size n (wm x.toNat f i.zero)))) a w' S μ ν)→j1 C ⟨aM [a',b',c'] st.sl,(κ,.row e i.size n (wm x.toNat f i.zero)) :: aM [κ] st.lb⟩ (((a.put (some a') (a.eval (.tmp XY))).put (some b') (.int .i64 x)).put (some c') v3) w':=fun v3 w' h =>
       ⟨S,μ,cV.ahD (st:=⟨st.sl,(κ,.row e i.size n (wm x.toNat f i.zero)) :: aM [κ] st.lb⟩) (fun ν=>by rw [jK]; exact h ν) _ _ v3⟩
      have same:x.toNat=n→∀ ν,cV C (st.fB.set κ (some (.row e i.size n (wm x.toNat f i.zero)))) a w S μ ν:=fun hxn ν=>by
       refine (cX ν).weaken (fun t v hv=>hv) (fun κ' b' mP=>?_)
       simp only [M.set] at mP
       by_cases hq:κ'=κ
       ·simp only [hq,if_true,Option.some.injEq] at mP
        subst mP
        refine ⟨.row e i.size n f,by rw [hq]; exact hl,fun y hy=>?_⟩
        cases y with
        | none=>exact hy
        | some y =>
         cases y with
         | none=>exact hy
         | some gc =>
          obtain ⟨gg,cap⟩:=gc
          obtain ⟨cur,y1,y2,y3,y4,y5,y6⟩:=hy.at
          refine dg.ok (b:=.row e i.size n _) ⟨cur,y1,y2,y3,y4,y5,fun q Rw=>?_⟩
          have:wm x.toNat f i.zero q=f q:=by simp only [wm]; rw [if_pos (by omega)]
          rw [this]
          exact y6 q Rw
       ·simp only [hq,if_false] at mP
        exact ⟨b',mP,fun _ hy=>hy⟩
      have Jz:∀ w,(sizeOf e).run C.P w=.ok i.size w:=fun w=>by simp [sizeOf,typeInfo,E.info,E.size]
      have VN:∀ (ad:Option Addr) (m cap:Nat),x≤m→m≤cap→(Instr.sliceAt tyq (.slice ad m cap) (some (.int .i64 x)) none none).run C.P w=.ok (.slice (if cap=x.toNat then ad else ad.map (·.add (x.toNat * i.size))) (m - x.toNat) (cap - x.toNat)) w:=fun ad m cap Bu hx2=>by
       have q1:∀ (k:IntKind) (i:Int) (y:Nat) (c:BoundsCode),0≤i→i≤y→(Instr.sliceBound (.int k i) y c).run C.P w=.ok i.toNat w:=fun k i y c h0 h1=>run_sliceBound w k i y c h0 h1
       simp (disch:=omega) [Instr.sliceAt,run_underlying hu,Instr.slice,Instr.sliceBounds,q1,Jz]
      have afU:∀ v,(Instr.sliceAt tyq (a.eval (.tmp XY)) (some (.int .i64 x)) none none).run C.P w=.ok v w→(execOp ((a.put (some a') (a.eval (.tmp XY))).put (some b') (.int .i64 x)).eval o3).run C.P w=.ok (.value v) w:=fun v hv=>by
       simp only [execOp,r1,ea,eb,Option.map_some,Option.map_none,Sem.run_bind,hv,Result.andThen_ok,Sem.run_pure]
      have ec:∀ v3,(((a.put (some a') (a.eval (.tmp XY))).put (some b') (.int .i64 x)).put (some c') v3).eval (.tmp c')=v3:=fun v3=>Zh _ _ _ (by rw [jF,jF]; exact tsz) hd3
      have afV:∀ v3 w',(Builtin.clear_ #[tyq] o4.type #[v3]).run C.P w=.ok (.tuple #[]) w'→(execOp (((a.put (some a') (a.eval (.tmp XY))).put (some b') (.int .i64 x)).put (some c') v3).eval o4).run C.P w=.ok (.value (.tuple #[])) w':=fun v3 w' hv=>by
       simp [execOp,r4,resolve,invoke,ec,builtin,hv]
      have done:∀ v3 w',(Instr.sliceAt tyq (a.eval (.tmp XY)) (some (.int .i64 x)) none none).run C.P w=.ok v3 w→(Builtin.clear_ #[tyq] o4.type #[v3]).run C.P w=.ok (.tuple #[]) w'→(∀ ν,cV C (st.fB.set κ (some (.row e i.size n (wm x.toNat f i.zero)))) a w' S μ ν) →
        wpOps C.P #[o1,o2,o3,o4] (fun e' aa w'=>e'=.normal∧j1 C ⟨aM [a',b',c'] st.sl,(κ,.row e i.size n (wm x.toNat f i.zero)) :: aM [κ] st.lb⟩ aa w') [2,3] ((a.put (some a') (a.eval (.tmp XY))).put (some b') (.int .i64 x)) w:=fun v3 w' x1 x2 x3=>by
       refine LA (o:=o3) rfl r3 (afU v3 x1) ?_
       rw [r2]
       refine LA (o:=o4) rfl r6 (afV v3 w' x2) ?_
       rw [r5]
       exact ⟨rfl,fin v3 w' x3⟩
      generalize ai2:a.eval (.tmp XY)=sv at hsv done
      cases hsv with
      | @cN _ ad hμ =>
       refine done _ w (VN ad 0 0 (by omega) (Nat.le_refl _)) ?_ (same (by omega))
       have:0 - x.toNat=0:=by omega
       rw [this]
       exact My hu _ _
      | @own _ _ gg cap hμ =>
       rw [hμ] at j0
       obtain ⟨cur,XR,sQ,we,Ls,O8,oU⟩:=j0.at
       rcases Nat.lt_or_ge x.toNat n with dK | hge
       ·have e3:(if cap=x.toNat then some (⟨gg,0,none⟩:Addr) else (some (⟨gg,0,none⟩:Addr)).map (·.add (x.toNat * i.size)))=some ⟨gg,x.toNat * i.size,none⟩:=by
         rw [if_neg (by omega)]
         simp [ia]
        have hmul:x.toNat * i.size+(n - x.toNat) * i.size=n * i.size:=by rw [← Nat.add_mul]; congr 1; omega
        have hle:x.toNat * i.size+(n - x.toNat) * i.size≤cur.size:=by rw [hmul,we]; exact Nat.mul_le_mul_right _ Ls
        have acs:ez.cells.size=i.size:=by have:=(iV (w:=w) (S:=S) E.zok).1; simp only [Array.length_toList] at this; rw [this,E.CV]
        have adu:(Builtin.zeroCells ez.cells (n - x.toNat)).toList.length=(n - x.toNat) * i.size:=by simp [Builtin.zeroCells,acs]
        have e9:=Pd (P:=C.P) (t:=tyq) (ty:=o4.type) (c:=cap - x.toNat) E s9 hu (by omega:0 < n - x.toNat) XR hle
        refine done _ _ ((VN _ n cap h1 Ls).trans (by rw [e3])) e9 (fun ν=>(cX ν).write hl hμ (b':=.row e i.size n _) ⟨_,setRow_heap w gg cur _ e _ XR,sQ,?_,Ls,O8,fun q hq=>⟨?_,fun j hj=>?_⟩⟩)
        ·simp only [List.size_toArray,List.length_append,List.length_take,List.length_drop,Array.length_toList,adu]
         have:n * i.size≤cap * i.size:=Nat.mul_le_mul_right _ Ls
         omega
        ·simp only [wm]
         split
         ·exact (oU q hq).1
         ·exact E.CV
        ·have hqj:q * i.size+j < n * i.size:=by
          calc q * i.size+j < q * i.size+i.size:=by omega
           _=(q+1) * i.size:=by rw [Nat.add_mul,Nat.one_mul]
           _≤n * i.size:=Nat.mul_le_mul_right _ hq
         rw [List.getElem?_toArray]
         by_cases hqx:q < x.toNat
         ·have ahF:q * i.size+j < x.toNat * i.size:=by
           calc q * i.size+j < q * i.size+i.size:=by omega
            _=(q+1) * i.size:=by rw [Nat.add_mul,Nat.one_mul]
            _≤x.toNat * i.size:=Nat.mul_le_mul_right _ hqx
          obtain ⟨u,hu1,hu2⟩:=(oU q hq).2 j hj
          refine ⟨u,?_,?_⟩
          ·rw [List.append_assoc,List.getElem?_append_left (by simp; omega),List.getElem?_take,if_pos ahF]
           simpa using hu1
          ·have:wm x.toNat f i.zero q=f q:=by simp only [wm]; rw [if_pos hqx]
           rw [this]
           exact hu2.mono (fun _ x=>x) (fun b hb=>setRow_other w gg b _ (fun e=>sQ (e ▸ hb)))
         ·have hxq:x.toNat * i.size≤q * i.size:=Nat.mul_le_mul_right _ (by omega)
          have GK:q * i.size+j - x.toNat * i.size < (n - x.toNat) * i.size:=by omega
          have Y2:(q * i.size+j - x.toNat * i.size) % ez.cells.size=j:=by
           rw [acs,show q * i.size+j - x.toNat * i.size=i.size * (q - x.toNat)+j from by rw [Nat.mul_sub,Nat.mul_comm i.size q,Nat.mul_comm i.size x.toNat]; omega,Nat.mul_add_mod,Nat.mod_eq_of_lt hj]
          have Ek:j < ez.cells.size:=by omega
          obtain ⟨_,z2⟩:=iV (w:=w.setRow gg (cur.toList.take (x.toNat * i.size)++(Builtin.zeroCells ez.cells (n - x.toNat)).toList++cur.toList.drop (x.toNat * i.size+(n - x.toNat) * i.size)).toArray) (S:=S) E.zok
          refine ⟨ez.cells[j],?_,?_⟩
          ·rw [List.append_assoc,List.getElem?_append_right (by simp; omega),List.getElem?_append_left (by rw [adu]; simp; omega)]
           have:(List.take (x.toNat * i.size) cur.toList).length=x.toNat * i.size:=by simp; omega
           rw [this]
           simp only [Builtin.zeroCells,Array.getElem?_toList,Array.getElem?_map,Array.getElem?_range,acs,GK,if_true,Option.map_some]
           rw [← acs] at Y2 ⊢
           rw [Y2,getElem!_pos ez.cells j Ek]
          ·have:wm x.toNat f i.zero q=i.zero:=by simp only [wm]; rw [if_neg hqx]
           rw [this]
           have:=z2 j (by rw [E.CV]; exact hj)
           rwa [show ez.cells.toList.getD j undef=ez.cells[j] from by simp [List.getD,Ek]] at this
       ·refine done _ w (VN _ n cap h1 Ls) ?_ (same (by omega))
        have:n - x.toNat=0:=by omega
        rw [this]
        exact My hu _ _
     ·cases pK
    ·cases pK
   ·cases pK
  ·cases pK
 ·cases pK
end
def mR {α:Type} [Inhabited α] (cells:α→List D) (l:List α):D:=.sl l.length fun i=>cells (l.getD i default)
def bS (n:Int):List D:=[.v (.int .i64 n)]
def kJ (s:ByteArray):List D:=[.v (.string s)]
def pL (b:Bool):List D:=[.v (.bool b)]
theorem Zi {n:Int} (h1 : -9223372036854775808≤n) (h2:n≤9223372036854775807):IntKind.i64.wrap n=n:=IntWalk.i64_in n ⟨h1,h2⟩
theorem acu {α:Type} [Inhabited α] (cells:α→List D) (L M:List α) :
  (L.length+M.length=(L++M).length)∧∀ i,i < L.length+M.length→(if i < L.length then cells (L.getD i default) else cells (M.getD (i - L.length) default))=cells ((L++M).getD i default):=by
 refine ⟨by simp,fun i hi=>?_⟩
 split
 ·rename_i h
  simp [List.getD,List.getElem?_append_left h]
 ·rename_i h
  simp [List.getD,List.getElem?_append_right (Nat.le_of_not_lt h)]
def uh:List AV→List AV→Prop
 | [],[]=>True
 | x :: r,y :: s=>lL x y∧uh r s
 | _,_=>False
theorem uh.rel {w:World} {S:Nat→Prop} {μ:Mu} {ν:Nat→Bool}:∀ {l l':List AV} {vs:List Value},uh l l'→dq w S μ ν l vs→dq w S μ ν l' vs
 | [],[],_,_,h=>h
 | x :: r,y :: s,vs,h,hr=>by
  obtain ⟨h1,h2⟩:=h
  cases vs with
  | nil=>exact absurd hr.1 (by simp)
  | cons v vs =>
   have ht:dq w S μ ν r vs:=⟨by simpa using hr.1,fun i hi=>by simpa using hr.2 (i+1) (by simpa using hi)⟩
   have:=uh.rel h2 ht
   refine ⟨by simpa using this.1,fun i hi=>?_⟩
   cases i with
   | zero=>exact h1 _ _ _ _ _ (by simpa using hr.2 0 (by simp))
   | succ i=>simpa using this.2 i (by simpa using hi)
 | [],_ :: _,_,h,_=>h.elim
 | _ :: _,[],_,h,_=>h.elim
theorem eC.Mz {P:Program} {f:FuncId} {args I2:List AV} {cR gp:List (Nat × bw)} {res:AV} (h:eC P f I2 cR res gp) (hle:uh args I2):eC P f args cR res gp :=
 ⟨h.1,fun w S μ vs h1 hg h2 h3 h4=>h.2 w S μ vs h1 hg (fun ν=>hle.rel (h2 ν)) h3 h4⟩
mutual
inductive dw (T:List (Nat × TI)):Nat→List D→Prop
 | int {t:Nat} {i:TI} {k:IntKind} (hi:look T t=some i) (hk:i.kind=.int k) (n:Int) (h:(Lit.int k n).wf=true):dw T t [.v (.int k n)]
 | bool {t:Nat} {i:TI} (hi:look T t=some i) (hk:i.kind=.bool) (b:Bool):dw T t [.v (.bool b)]
 | str {t:Nat} {i:TI} (hi:look T t=some i) (hk:i.kind=.str) (s:ByteArray) (h:s.size≤maxLen):dw T t [.v (.string s)]
 | slice {t e:Nat} {i:TI} (hi:look T t=some i) (hk:i.kind=.slice e) (n:Nat) (f:Nat→List D) (h:∀ j,j < n→dw T e (f j)):dw T t [.sl n f]
 | struct {t:Nat} {i:TI} {fs:List (Nat × Nat)} (hi:look T t=some i) (hk:i.kind=.struct fs) (ds:List D) (h:Aj T (fs.map (·.2)) ds):dw T t ds
inductive Aj (T:List (Nat × TI)):List Nat→List D→Prop
 | nil:Aj T [] []
 | cons {t:Nat} {ts:List Nat} (p ds:List D) (h:dw T t p) (hs:Aj T ts ds):Aj T (t :: ts) (p++ds)
end
def C9 (T:List (Nat × TI)):Nat→List (Nat × Nat)→Option Nat
 | off,[]=>some off
 | off,(o,t) :: r=>match look T t with | some i=>bif Nat.beq o off then C9 T (off+i.size) r else none | none=>none
def Wr (T:List (Nat × TI)) (ts:List Nat) (t:Nat):Bool:=match look T t with
  | some i=>(match i.kind with
   | .int _ | .bool | .str=>true
   | .slice e=>(ts.any fun q=>Nat.beq q e)&&(match look T e with | some j=>!Nat.beq j.size 0 | none=>false)
   | .struct fs=>(match C9 T 0 fs with | some n=>Nat.beq n i.size | none=>false)&&fs.all (fun f=>ts.any fun q=>Nat.beq q f.2)
   | _=>false)
  | none=>false
def EI (T:List (Nat × TI)) (ts:List Nat):Bool:=ts.all (Wr T ts)
theorem RR {ts:List Nat} {t:Nat} (h:(ts.any fun q=>Nat.beq q t)=true):t∈ts:=by
 obtain ⟨q,hq,e⟩:=List.any_eq_true.1 h
 have:=Nat.eq_of_beq_eq_true e
 subst this
 exact hq
section
variable {H : Type} {enc : TypeId × Value → H} {P : Program} {w : World} {base : Nat} {spare : Nat → Bool} {held : Bool} {T : List (Nat × TI)}
def zr (w:World) (ds:List D) (cs:List Value):Prop:=ds.length=cs.length∧∀ j,j < ds.length→Rd w (fun b=>b < w.heap.size) (ds.getD j default) (cs.getD j undef)
theorem zr.one {d:D} {v:Value} (h:Rd w (fun b=>b < w.heap.size) d v):zr w [d] [v]:=⟨rfl,fun j hj=>by
 have:j=0:=by simpa using hj
 subst this
 simpa using h⟩
theorem zr.append {d1 d2:List D} {c1 c2:List Value} (h1:zr w d1 c1) (h2:zr w d2 c2):zr w (d1++d2) (c1++c2):=by
 refine ⟨by simp [h1.1,h2.1],fun j hj=>?_⟩
 by_cases h:j < d1.length
 ·have:=h1.2 j h
  have hc:j < c1.length:=by rw [← h1.1]; exact h
  simpa [List.getD,List.getElem?_append_left h,List.getElem?_append_left hc] using this
 ·have h':d1.length≤j:=Nat.le_of_not_lt h
  have hc:c1.length≤j:=by rw [← h1.1]; exact h'
  have:=h2.2 (j - d1.length) (by simp at hj; omega)
  rw [h1.1] at this
  simpa [List.getD,List.getElem?_append_right h',List.getElem?_append_right hc,h1.1] using this
theorem yx (hT:nz P T) {t:Nat} {i:TI} (hi:look T t=some i):P.cellsOf t=i.size:=by
 obtain ⟨j,z,F⟩:=aB (hT _ _ hi)
 simp [Program.cellsOf,F.info,F.size]
theorem MA (hT:nz P T) (cs:List Value):∀ (fs:List (Nat × Nat)) (off n:Nat),C9 T off fs=some n→cs.length=n →
  (∀ f,f∈fs→∃ ds,dw T f.2 ds∧zr w ds ((cs.drop f.1).take (P.cellsOf f.2)))→∃ ds,Aj T (fs.map (·.2)) ds∧zr w ds (cs.drop off)
 | [],off,n,hc,hl,_=>by
  simp only [C9,Option.some.injEq] at hc
  refine ⟨[],.nil,?_⟩
  rw [List.drop_of_length_le (by omega)]
  exact ⟨rfl,fun j hj=>absurd hj (by simp)⟩
 | (o,t) :: r,off,n,hc,hl,hf=>by
  simp only [C9] at hc
  split at hc
  ·rename_i i hi
   cases hb:Nat.beq o off with
   | false=>rw [hb] at hc; cases hc
   | true =>
    rw [hb] at hc
    have ho:=Nat.eq_of_beq_eq_true hb
    subst ho
    obtain ⟨d1,t1,r1⟩:=hf (o,t) List.mem_cons_self
    obtain ⟨d2,t2,r2⟩:=MA hT cs r (o+i.size) n hc hl (fun f hm=>hf f (List.mem_cons_of_mem _ hm))
    refine ⟨d1++d2,.cons d1 d2 t1 t2,?_⟩
    have jF:=yx hT hi
    have e:cs.drop o=(cs.drop o).take (P.cellsOf t)++cs.drop (o+i.size):=by
     rw [← jF,← List.drop_drop,List.take_append_drop]
    rw [e]
    exact r1.append r2
  ·cases hc
theorem MB (hT:nz P T) {ts:List Nat} (nG:EI T ts=true):∀ (n t:Nat) (cs:List Value) (x:DataW H × List MemPlace),t∈ts→DataW.trod enc P w base spare held n t cs=some x→∃ ds,dw T t ds∧zr w ds cs
 | n,t,cs,x,hm,h=>by
  have hp:=List.all_eq_true.1 nG t hm
  simp only [Wr] at hp
  split at hp
  ·rename_i i hi
   obtain ⟨tj,z,F⟩:=aB (hT _ _ hi)
   have hk:=F.kind
   split at hp
   ·rename_i k k9
    rw [k9] at hk
    simp only [dp] at hk
    split at hk
    ·rename_i k' hu
     have:=of_decide_eq_true hk
     subst this
     obtain ⟨v,rfl,_,hw⟩:=DataW.trod_int hu h
     exact ⟨_,.int hi k9 v hw,.one (.v _ rfl)⟩
    ·cases hk
   ·rename_i k9
    rw [k9] at hk
    simp only [dp] at hk
    split at hk
    ·rename_i hu
     obtain ⟨v,rfl,_⟩:=DataW.trod_bool hu h
     exact ⟨_,.bool hi k9 v,.one (.v _ rfl)⟩
    ·cases hk
   ·rename_i k9
    rw [k9] at hk
    simp only [dp] at hk
    split at hk
    ·rename_i hu
     obtain ⟨v,rfl,_,hw⟩:=DataW.trod_string hu h
     exact ⟨_,.str hi k9 v hw,.one (.v _ rfl)⟩
    ·cases hk
   ·rename_i e k9
    rw [k9] at hk
    simp only [dp] at hk
    split at hk
    ·rename_i e' hu
     have:=beq_iff_eq.1 hk
     subst this
     simp only [Bool.and_eq_true] at hp
     obtain ⟨hpe,jF⟩:=hp
     split at jF
     ·rename_i je hje
      have hce:=yx hT hje
      have JB:0 < je.size:=by
       rcases Nat.eq_zero_or_pos je.size with h0 | h0
       ·rw [h0] at jF; cases jF
       ·exact h0
      rcases DataW.trod_slice hu h with ⟨rfl,_⟩ | ⟨a,len,cap,elems,rest,n',rfl,rfl,_,hb,hlc,O8,hel,afW,_⟩
      ·exact ⟨[.sl 0 fun _=>[]],.slice hi k9 0 _ (fun j hj=>absurd hj (Nat.not_lt_zero _)),.one (.nil _)⟩
      ·have each:∀ q,q < len→∃ C7,w.cells? base (a.add (q * P.cellsOf e)) (P.cellsOf e)=some C7∧∃ ds,dw T e ds∧zr w ds C7:=by
        intro q hq
        have hx:=afW q hq
        have hs:elems[q]? = some elems[q]:=List.getElem?_eq_getElem (by omega)
        rw [hs] at hx
        cases hc:w.cells? base (a.add (q * P.cellsOf e)) (P.cellsOf e) with
        | none=>rw [hc] at hx; cases hx
        | some C7 =>
         rw [hc] at hx
         exact ⟨C7,rfl,MB hT nG n' e C7 _ (RR hpe) hx⟩
       classical
       let g:Nat→List D:=fun q=>if hq:q < len then (each q hq).choose_spec.2.choose else []
       let vv:Nat→List Value:=fun q=>if hq:q < len then (each q hq).choose else []
       have g1:∀ q,q < len→dw T e (g q)∧zr w (g q) (vv q)∧w.cells? base (a.add (q * P.cellsOf e)) (P.cellsOf e)=some (vv q):=fun q hq=>by
        simp only [g,vv,hq,dif_pos]
        exact ⟨(each q hq).choose_spec.2.choose_spec.1,(each q hq).choose_spec.2.choose_spec.2,(each q hq).choose_spec.1⟩
       have hlen:∀ q,q < len→(g q).length=je.size:=fun q hq=>by
        obtain ⟨_,r1,c1⟩:=g1 q hq
        rw [r1.1,(World.cells?_some c1).2.1,hce]
       have adv:len=0∨a.spot=none:=by
        rcases Nat.eq_zero_or_pos len with h0 | h0
        ·exact .inl h0
        ·right
         obtain ⟨_,_,c1⟩:=g1 0 h0
         have:=(World.cells?_some c1).2.2 0 (by omega)
         have hl:=(World.cells?_some c1).2.1
         simp only [Nat.zero_mul,Addr.add,if_true] at this
         rw [List.getElem?_eq_getElem (by omega)] at this
         unfold World.cell? at this
         cases O1:a.spot with
         | none=>rfl
         | some s =>
          rw [O1] at this
          split at this <;> simp at this
       refine ⟨[.sl len g],.slice hi k9 len g (fun q hq=>(g1 q hq).1),.one (.sl len g a cap je.size (fun q j=>(vv q).getD j undef) hlc O8 adv hlen (fun q j hq hj=>?_) (fun q j hq hj=>(g1 q hq).2.1.2 j (by rw [hlen q hq]; exact hj)))⟩
       obtain ⟨_,r1,c1⟩:=g1 q hq
       have O1:a.spot=none:=adv.resolve_left (by omega)
       obtain ⟨ab,ao,as⟩:=a
       simp only at O1
       subst O1
       have QA:=(World.cells?_some c1).2.2 j (by omega)
       have hl:=(World.cells?_some c1).2.1
       rw [ia,ia,hce,Nat.add_assoc,List.getElem?_eq_getElem (by omega)] at QA
       refine ⟨?_,?_⟩
       ·unfold World.cell? at QA
        split at QA
        ·rename_i hh
         exact (Array.getElem?_eq_some_iff.1 hh).1
        ·cases QA
       ·rw [QA]
        simp [List.getD,List.getElem?_eq_getElem (show j < (vv q).length by omega)]
     ·cases jF
    ·cases hk
   ·rename_i fs k9
    rw [k9] at hk
    simp only [dp] at hk
    split at hk
    ·rename_i gs hu
     have YR:=beq_iff_eq.1 hk
     simp only [Bool.and_eq_true,List.all_eq_true] at hp
     obtain ⟨aek,mf⟩:=hp
     split at aek
     ·rename_i tot ahG
      have htt:=Nat.eq_of_beq_eq_true aek
      subst htt
      obtain ⟨xs,n',rfl,_,hl,YY,XN⟩:=DataW.trod_struct hu h
      have hfs:∀ f,f∈fs→∃ ds,dw T f.2 ds∧zr w ds ((cs.drop f.1).take (P.cellsOf f.2)):=fun f hm=>by
       have hm0:=hm
       rw [← YR] at hm
       simp only [List.mem_map] at hm
       obtain ⟨fd,hfd,rfl⟩:=hm
       obtain ⟨ix,JD,hge⟩:=List.getElem_of_mem hfd
       have hg:gs[ix]? = some fd:=by
        rw [← hge]
        simp only [Array.length_toList] at JD
        simp [JD]
       have hx:=XN ix fd hg
       have ahH:ix < xs.length:=by rw [YY]; simpa using JD
       rw [List.getElem?_eq_getElem ahH] at hx
       exact MB hT nG n' fd.type _ _ (RR (mf _ hm0)) hx
      obtain ⟨ds,q1,q2⟩:=MA (w:=w) hT cs fs 0 i.size ahG (by rw [hl,yx hT hi]) hfs
      exact ⟨ds,.struct hi k9 ds q1,by simpa using q2⟩
     ·cases aek
    ·cases hk
   ·cases hp
  ·cases hp
termination_by n=>n
theorem dw.nZ {t:Nat} {i:TI} {k:IntKind} {ds:List D} (hi:look T t=some i) (hk:i.kind=.int k) (h:dw T t ds):∃ n,ds=[.v (.int k n)]∧(Lit.int k n).wf=true:=by
 cases h with
 | int fp fS n h=>rw [hi] at fp; cases fp; rw [hk] at fS; cases fS; exact ⟨n,rfl,h⟩
 | bool fp fS=>rw [hi] at fp; cases fp; rw [hk] at fS; cases fS
 | str fp fS=>rw [hi] at fp; cases fp; rw [hk] at fS; cases fS
 | slice fp fS=>rw [hi] at fp; cases fp; rw [hk] at fS; cases fS
 | struct fp fS=>rw [hi] at fp; cases fp; rw [hk] at fS; cases fS
theorem dw.aaN {t:Nat} {i:TI} {ds:List D} (hi:look T t=some i) (hk:i.kind=.bool) (h:dw T t ds):∃ b,ds=[.v (.bool b)]:=by
 cases h with
 | int fp fS=>rw [hi] at fp; cases fp; rw [hk] at fS; cases fS
 | bool fp fS b=>exact ⟨b,rfl⟩
 | str fp fS=>rw [hi] at fp; cases fp; rw [hk] at fS; cases fS
 | slice fp fS=>rw [hi] at fp; cases fp; rw [hk] at fS; cases fS
 | struct fp fS=>rw [hi] at fp; cases fp; rw [hk] at fS; cases fS
theorem dw.acv {t:Nat} {i:TI} {ds:List D} (hi:look T t=some i) (hk:i.kind=.str) (h:dw T t ds):∃ s,ds=[.v (.string s)]∧s.size≤maxLen:=by
 cases h with
 | int fp fS=>rw [hi] at fp; cases fp; rw [hk] at fS; cases fS
 | bool fp fS=>rw [hi] at fp; cases fp; rw [hk] at fS; cases fS
 | str fp fS s h=>exact ⟨s,rfl,h⟩
 | slice fp fS=>rw [hi] at fp; cases fp; rw [hk] at fS; cases fS
 | struct fp fS=>rw [hi] at fp; cases fp; rw [hk] at fS; cases fS
theorem dw.fC {t e:Nat} {i:TI} {ds:List D} (hi:look T t=some i) (hk:i.kind=.slice e) (h:dw T t ds):∃ n f,ds=[.sl n f]∧∀ j,j < n→dw T e (f j):=by
 cases h with
 | int fp fS=>rw [hi] at fp; cases fp; rw [hk] at fS; cases fS
 | bool fp fS=>rw [hi] at fp; cases fp; rw [hk] at fS; cases fS
 | str fp fS=>rw [hi] at fp; cases fp; rw [hk] at fS; cases fS
 | slice fp fS n f h=>rw [hi] at fp; cases fp; rw [hk] at fS; cases fS; exact ⟨n,f,rfl,h⟩
 | struct fp fS=>rw [hi] at fp; cases fp; rw [hk] at fS; cases fS
theorem dw.cU {t:Nat} {i:TI} {fs:List (Nat × Nat)} {ds:List D} (hi:look T t=some i) (hk:i.kind=.struct fs) (h:dw T t ds):Aj T (fs.map (·.2)) ds:=by
 cases h with
 | int fp fS=>rw [hi] at fp; cases fp; rw [hk] at fS; cases fS
 | bool fp fS=>rw [hi] at fp; cases fp; rw [hk] at fS; cases fS
 | str fp fS=>rw [hi] at fp; cases fp; rw [hk] at fS; cases fS
 | slice fp fS=>rw [hi] at fp; cases fp; rw [hk] at fS; cases fS
 | struct fp fS ds h=>rw [hi] at fp; cases fp; rw [hk] at fS; cases fS; exact h
theorem Aj.cons_inv {t:Nat} {ts:List Nat} {ds:List D} (h:Aj T (t :: ts) ds):∃ p r,ds=p++r∧dw T t p∧Aj T ts r:=by
 cases h with
 | cons p r h hs=>exact ⟨p,r,rfl,h,hs⟩
theorem Aj.iC {ds:List D} (h:Aj T [] ds):ds=[]:=by cases h; rfl
end
section
open Go Go.ChangeShapes Go.WideShapes Go.ChangeAt Go.RowKit
def aF (l l':List D):Prop:=l.length=l'.length∧∀ j,j < l.length→su (l.getD j default) (l'.getD j default)
theorem aF.refl (l:List D):aF l l:=⟨rfl,fun _ _=>su.rfl'⟩
theorem aF.nil:aF [] []:=.refl _
theorem aF.one {d d':D} (h:su d d'):aF [d] [d']:=⟨rfl,fun j hj=>by
 have:j=0:=by simpa using hj
 subst this
 simpa using h⟩
theorem aF.append {p p' r r':List D} (h1:aF p p') (h2:aF r r'):aF (p++r) (p'++r'):=by
 refine ⟨by simp [h1.1,h2.1],fun j hj=>?_⟩
 by_cases h:j < p.length
 ·have h':j < p'.length:=by rw [← h1.1]; exact h
  simpa [List.getD,List.getElem?_append_left h,List.getElem?_append_left h'] using h1.2 j h
 ·have hh:p.length≤j:=Nat.le_of_not_lt h
  have h':p'.length≤j:=by rw [← h1.1]; exact hh
  have:=h2.2 (j - p.length) (by simp at hj; omega)
  rw [List.getD,List.getD,List.getElem?_append_right hh,List.getElem?_append_right h',← h1.1]
  exact this
theorem aF.cons {d d':D} {r r':List D} (h1:su d d') (h2:aF r r'):aF ([d]++r) (d' :: r'):=aF.append (aF.one h1) h2
theorem aF.agg {l l':List D} (h:aF l l'):su (.agg l) (.agg l'):=su.agg h.1 h.2
theorem su.adw {n:Nat} {f g:Nat→List D} (h:∀ i,i < n→aF (f i) (g i)):su (.sl n f) (.sl n g):=by
 intro w S x hr
 cases hr with
 | nil=>exact .nil g
 | sl _ _ a cap k df hc hm hs hk bL hh =>
  exact .sl n g a cap k df hc hm hs (fun i hi=>by rw [← (h i hi).1]; exact hk i hi) bL (fun i j hi hj=>(h i hi).2 j (by rw [hk i hi]; exact hj) w S _ (hh i j hi hj))
theorem kK {T:List (Nat × TI)} {α:Type} [Inhabited α] (cells:α→List D) (ok:α→Prop) {e:Nat} (hof:∀ ds,dw T e ds→∃ c,aF ds (cells c)∧ok c) {n:Nat} {f:Nat→List D} (h:∀ j,j < n→dw T e (f j)) :
  ∃ l:List α,su (.sl n f) (mR cells l)∧l.length=n∧∀ x,x∈l→ok x:=by
 classical
 let g:Nat→α:=fun j=>if hj:j < n then (hof _ (h j hj)).choose else default
 have hg:∀ j,j < n→aF (f j) (cells (g j))∧ok (g j):=fun j hj=>by
  simp only [g,hj,dif_pos]
  exact (hof _ (h j hj)).choose_spec
 refine ⟨(List.range n).map g,?_,by simp,fun x hx=>?_⟩
 ·have e:mR cells ((List.range n).map g)=.sl n fun i=>cells (((List.range n).map g).getD i default):=by simp [mR]
  rw [e]
  refine su.adw fun i hi=>?_
  have:((List.range n).map g).getD i default=g i:=by simp [List.getD,hi]
  rw [this]
  exact (hg i hi).1
 ·simp only [List.mem_map,List.mem_range] at hx
  obtain ⟨j,hj,rfl⟩:=hx
  exact (hg j hj).2
def cY (n:Int):Prop:=-9223372036854775808≤n∧n≤9223372036854775807
theorem acw {n:Int} (h:(Lit.int .i64 n).wf=true):cY n:=by
 simpa [Lit.wf,IntKind.min,IntKind.max,cY,IntKind.bits,IntKind.signed] using h
def aaO (T:List (Nat × TI)) (t:Nat) (ds:List D):AV :=
 match look T t with
 | some i=>(match i.kind with | .struct _=>.d (.agg ds) | _=>.d (ds.getD 0 default))
 | none=>.any
def sy (T:List (Nat × TI)):List Nat→List (List D)→List AV
 | t :: ts,d :: ds=>aaO T t d :: sy T ts ds
 | _,_=>[]
def Da (T:List (Nat × TI)):List Nat→List (List D)→Prop
 | [],[]=>True
 | t :: ts,d :: ds=>dw T t d∧Da T ts ds
 | _,_=>False
section
variable {H : Type} {enc : TypeId × Value → H} {P : Program} {W : World} {T : List (Nat × TI)}
theorem acx (hT:nz P T) {cl:List Nat} (nG:EI T cl=true) {t:Nat} (hm:t∈cl) {v:Value} {d:DataW H} {ps:List MemPlace} {base:Nat} (hv:Value.okWide P W .any base t v) (h:DataW.Trod enc P W 0 (fun _=>true) true t v d ps) :
  ∃ ds,dw T t ds∧∀ μ ν,Rel W (fun b=>b < W.heap.size) μ ν (aaO T t ds) v:=by
 obtain ⟨fuel,h⟩:=h
 obtain ⟨ds,h1,h2⟩:=MB hT nG _ t _ _ hm h
 have hp:=List.all_eq_true.1 nG t hm
 refine ⟨ds,h1,fun μ ν=>?_⟩
 ·simp only [Wr] at hp
  split at hp
  ·rename_i i hi
   obtain ⟨tj,z,F⟩:=aB (hT _ _ hi)
   have hk:=F.kind
   have one:∀ v',v=v'→v'.cells = #[v']→Rd W (fun b=>b < W.heap.size) (ds.getD 0 default) v:=by
    rintro v' rfl hc
    rw [hc] at h2
    have:=h2.2 0 (by rw [h2.1]; simp)
    simpa using this
   simp only [aaO,hi]
   split at hp
   ·rename_i k k9
    rw [k9] at hk ⊢
    simp only [dp] at hk
    split at hk
    ·rename_i hu
     have:=of_decide_eq_true hk
     subst this
     obtain ⟨n,rfl⟩:=okWide_int hu hv
     exact .d (one _ rfl rfl)
    ·cases hk
   ·rename_i k9
    rw [k9] at hk ⊢
    simp only [dp] at hk
    split at hk
    ·rename_i hu
     obtain ⟨n,rfl⟩:=okWide_bool hu hv
     exact .d (one _ rfl rfl)
    ·cases hk
   ·rename_i k9
    rw [k9] at hk ⊢
    simp only [dp] at hk
    split at hk
    ·rename_i hu
     obtain ⟨n,rfl⟩:=okWide_string hu hv
     exact .d (one _ rfl rfl)
    ·cases hk
   ·rename_i e k9
    rw [k9] at hk ⊢
    simp only [dp] at hk
    split at hk
    ·rename_i hu
     obtain ⟨a,n,c,rfl⟩:=okWide_slice hu hv
     exact .d (one _ rfl rfl)
    ·cases hk
   ·rename_i fs k9
    rw [k9] at hk ⊢
    simp only [dp] at hk
    split at hk
    ·rename_i gs hu
     obtain ⟨cs,rfl,_⟩:=okWide_struct hu hv
     refine .d (.agg ds cs ?_ (fun j hj=>?_))
     ·have:=h2.1
      simp only [Value.cells,Array.length_toList] at this
      exact this.symm
     ·have:=h2.2 j hj
      simp only [Value.cells] at this
      simpa [List.getD,Array.getD_eq_getD_getElem?] using this
    ·cases hk
   ·cases hp
  ·cases hp
theorem Ui (hT:nz P T) {cl:List Nat} (nG:EI T cl=true) {base:Nat}:∀ {ts:List Nat} {vs:List Value} {ds:List (DataW H)} {ps:List MemPlace},(ts.all fun t=>cl.any fun q=>Nat.beq q t)=true→(∀ (j:Nat) t v,ts[j]? = some t→vs[j]? = some v→Value.okWide P W .any base t v) →
  DataW.TrodAll enc P W 0 (fun _=>true) true ts vs ds ps→∃ zG,Da T ts zG∧∀ μ ν,dq W (fun b=>b < W.heap.size) μ ν (sy T ts zG) vs
 | [],[],[],_,_,_,_=>⟨[],trivial,fun _ _=>⟨rfl,fun i hi=>absurd hi (by simp [sy])⟩⟩
 | t :: ts,v :: vs,d :: ds,ps,hp,hv,h=>by
  obtain ⟨p,q,h1,h2,rfl⟩:=h
  simp only [List.all_cons,Bool.and_eq_true] at hp
  obtain ⟨d1,x1,x2⟩:=acx hT nG (RR hp.1) (hv 0 t v rfl rfl) h1
  obtain ⟨zG,y1,y2⟩:=Ui hT nG hp.2 (fun j t v a b=>hv (j+1) t v (by simpa using a) (by simpa using b)) h2
  refine ⟨d1 :: zG,⟨x1,y1⟩,fun μ ν=>?_⟩
  have:=y2 μ ν
  refine ⟨by simp [sy,this.1],fun i hi=>?_⟩
  cases i with
  | zero=>simpa [sy] using x2 μ ν
  | succ i=>simpa [sy] using this.2 i (by simpa [sy] using hi)
 | [],_ :: _,_,_,_,_,h=>h.elim
 | [],[],_ :: _,_,_,_,h=>h.elim
 | _ :: _,[],_,_,_,_,h=>h.elim
 | _ :: _,_ :: _,[],_,_,_,h=>h.elim
theorem CF (hl:laidOutB P=true) {W':World} (hb:Below W.heap.size W W'):∀ {ts:List Nat} {vs:List Value} {ds:List (DataW H)} {ps:List MemPlace},ts.all (fun t=>P.readableRec t&&Nat.ble (t+1) P.types.size)=true →
  (∀ p∈ps,p.block < W.heap.size)→DataW.TrodAll enc P W 0 (fun _=>true) true ts vs ds ps→DataW.TrodAll enc P W' 0 (fun b=>decide (b < W.heap.size)) true ts vs ds ps
 | [],[],[],_,_,_,h=>h
 | t :: ts,v :: vs,d :: ds,ps,hp,dK,h=>by
  obtain ⟨p,q,h1,h2,rfl⟩:=h
  simp only [List.all_cons,Bool.and_eq_true] at hp
  exact ⟨p,q,Below.trod hl hp.1.1 (Nat.le_of_ble_eq_true hp.1.2) h1 hb (fun x hx=>dK x (List.mem_append_left _ hx)),CF hl hb hp.2 (fun x hx=>dK x (List.mem_append_right _ hx)) h2,rfl⟩
 | [],_ :: _,_,_,_,_,h=>h.elim
 | [],[],_ :: _,_,_,_,h=>h.elim
 | _ :: _,[],_,_,_,_,h=>h.elim
 | _ :: _,_ :: _,[],_,_,_,h=>h.elim
theorem Bv (hT:nz P T) (hl:laidOutB P=true) {f:FuncId} {fn:Func} {s:ChangeSpec} {tb base:Nat} {cl:List Nat} {args:Array Value} {ds gs:List (DataW H)} {before:List MemPlace}
  (nG:EI T cl=true) (ael:(fn.params.toList.all fun t=>cl.any fun q=>Nat.beq q t)=true) (afX:fn.params.toList.all (fun t=>P.readableRec t&&Nat.ble (t+1) P.types.size)=true) (aan:fn.resultTypes = #[tb]) (hb:P.underlying tb=some .bool) (adx:s.vars=[])
  (MC:∀ (j:Nat) t v,fn.params[j]? = some t→args[j]? = some v→Value.okWide P W .any base t v)
  (hW:DataW.Whole enc P fn.params.toList s.vars false W args.toList ds gs before)
  (hgl:gM W fun b=>b < W.heap.size) (hs:(s.fn H (ds++gs)).results=[.lit (.bool true)]∧(s.fn H (ds++gs)).args=ds∧(s.fn H (ds++gs)).vars=[])
  (RS:∀ zG,Da T fn.params.toList zG→eC P f (sy T fn.params.toList zG) [] (.d (.v (.bool true))) []) :
  Calls P f args W fun e W'=>∃ v,e=.returned v∧s.post enc P fn false true false false W args v W':=by
 have dK:=hW.lt
 obtain ⟨p,q,hA,hV,hpq,hz,hn⟩:=id hW
 rw [adx] at hV
 have hg:gs=[]∧q=[]:=by
  cases gs with
  | nil=>exact ⟨rfl,hV⟩
  | cons _ _=>exact hV.elim
 obtain ⟨zG,h1,h2⟩:=Ui hT nG (base:=base) ael (fun j t v a b=>MC j t v (by simpa using a) (by simpa using b)) hA
 have hf:=RS zG h1
 refine Calls.mono (hf.2 W (fun b=>b < W.heap.size) (fun _=>none) args (fun _ h=>h) hgl (fun ν=>h2 _ ν) (fun κ b hb=>by simp [look] at hb) (fun κ κ' b b' g c c' hb=>by simp [look] at hb)) ?_
 rintro e W' ⟨v,S',μ',rfl,B⟩
 have hv:v=.bool true:=nH (B.res fun _=>false)
 subst hv
 have Db:Below W.heap.size W W':=⟨B.kept.os,B.kept.tape,B.kept.output,B.kept.size,fun k hk=>B.kept.block k hk (fun ⟨κ,b,c,q,_⟩=>by simp [look] at q)⟩
 refine ⟨_,rfl,ds,gs,before,[],p,[],hW,?_,?_,?_,Db.frame _,fun h=>by cases h⟩
 ·rw [aan,hs.1]
  exact trodAll_mk1 (shut_bool hb true)
 ·rw [hs.2.1]
  exact CF hl Db afX (fun x hx=>dK x (by rw [hpq]; exact List.mem_append_left _ hx)) hA
 ·rw [hs.2.2,adx]
  exact rfl
end
end
inductive CT:Type 1 where
 | nil
 | bad
 | bb (a b:Bool)
 | nn (a b:Nat)
 | zz (a b:Int)
 | dd (a b:D)
 | ll (a b:List D)
 | vv (a b:AV)
 | ff (f g:Nat→List D)
 | mm (f g:Nat→Value × D)
 | ss (a b:List Nat)
 | po (a b:Option Prop)
 | td (a b:List Item)
 | qq (a b:List (Int × Int)→Prop)
 | two (a b:CT)
 | pi {β:Type} (f:β→CT)
def CT.ok:CT→Prop
 | .nil=>True
 | .bad=>False
 | .bb a b=>a=b
 | .nn a b=>a=b
 | .zz a b=>a=b
 | .dd a b=>a=b
 | .ll a b=>a=b
 | .vv a b=>a=b
 | .ff f g=>f=g
 | .mm f g=>f=g
 | .ss a b=>a=b
 | .po a b=>a=b
 | .td a b=>a=b
 | .qq a b=>a=b
 | .two a b=>a.ok∧b.ok
 | .pi f=>∀ b,(f b).ok
def CT.diag:CT→CT
 | .nil=>.nil
 | .bad=>.nil
 | .bb _ b=>.bb b b
 | .nn _ b=>.nn b b
 | .zz _ b=>.zz b b
 | .dd _ b=>.dd b b
 | .ll _ b=>.ll b b
 | .vv _ b=>.vv b b
 | .ff _ g=>.ff g g
 | .mm _ g=>.mm g g
 | .ss _ b=>.ss b b
 | .po _ b=>.po b b
 | .td _ b=>.td b b
 | .qq _ b=>.qq b b
 | .two a b=>.two a.diag b.diag
 | .pi f=>.pi fun b=>(f b).diag
theorem CT.Ak:∀ {t:CT},t=t.diag→t.ok
 | .nil,_=>trivial
 | .bad,h=>by cases h
 | .bb a b,h=>by simpa [CT.diag,CT.ok] using h
 | .nn a b,h=>by simpa [CT.diag,CT.ok] using h
 | .zz a b,h=>by simpa [CT.diag,CT.ok] using h
 | .dd a b,h=>by simpa [CT.diag,CT.ok] using h
 | .ll a b,h=>by simpa [CT.diag,CT.ok] using h
 | .vv a b,h=>by simpa [CT.diag,CT.ok] using h
 | .ff a b,h=>by simpa [CT.diag,CT.ok] using h
 | .mm a b,h=>by simpa [CT.diag,CT.ok] using h
 | .ss a b,h=>by simpa [CT.diag,CT.ok] using h
 | .po a b,h=>by simp only [CT.diag,CT.po.injEq] at h; exact h.1
 | .td a b,h=>by simpa [CT.diag,CT.ok] using h
 | .qq a b,h=>by simpa [CT.diag,CT.ok] using h
 | .two a b,h=>by
  simp only [CT.diag,CT.two.injEq] at h
  exact ⟨CT.Ak h.1,CT.Ak h.2⟩
 | .pi f,h=>by
  simp only [CT.diag] at h
  have h1:f=fun b=>(f b).diag:=by injection h
  exact fun b=>CT.Ak (congrFun h1 b)
def Ob.eqs:Ob→CT
 | .tt=>.nil
 | .pr _=>.nil
 | .be a b=>.bb a b
 | .ne a b=>.nn a b
 | .ze a b=>.zz a b
 | .fe f g=>.ff f g
 | .me f g=>.mm f g
 | .ve a b=>.vv a b
 | .two a b=>.two a.eqs b.eqs
 | .wh _ _ a=>a.eqs
def GW:Option Prop→Option Prop→Option Prop
 | none,x=>x
 | x,none=>x
 | some p,some q=>some (p∧q)
def Ob.prop:Ob→Option Prop
 | .pr p=>some p
 | .two a b=>GW a.prop b.prop
 | .wh e w a=>(match a.prop with | none=>none | some p=>some (e=w→p))
 | _=>none
theorem XZ {x y:Option Prop} (h:∀ p,GW x y=some p→p):(∀ p,x=some p→p)∧∀ p,y=some p→p:=by
 cases x with
 | none=>exact ⟨fun p hp=>(by cases hp),fun p hp=>h p (by simpa [GW] using hp)⟩
 | some a =>
  cases y with
  | none=>exact ⟨fun p hp=>h p (by simpa [GW] using hp),fun p hp=>(by cases hp)⟩
  | some b =>
   have:=h (a∧b) rfl
   exact ⟨fun p hp=>(by cases hp; exact this.1),fun p hp=>(by cases hp; exact this.2)⟩
theorem Ob.GX:∀ {ob:Ob},ob.eqs.ok→(∀ p,ob.prop=some p→p)→ob.den
 | .tt,_,_=>trivial
 | .pr p,_,h=>h p rfl
 | .be _ _,h,_=>h
 | .ne _ _,h,_=>h
 | .ze _ _,h,_=>h
 | .fe _ _,h,_=>h
 | .me _ _,h,_=>h
 | .ve _ _,h,_=>h
 | .two a b,h,hp=>⟨Ob.GX h.1 (XZ hp).1,Ob.GX h.2 (XZ hp).2⟩
 | .wh e w a,h,hp=>fun he=>Ob.GX h (fun p hq=>hp (e=w→p) (by simp [Ob.prop,hq]) he)
def Dc (ob:Ob):CT:=match ob.prop with | none=>ob.eqs | some _=>.bad
theorem ui {ob:Ob} (h:(Dc ob).ok):ob.den:=by
 unfold Dc at h
 split at h
 ·rename_i hn
  exact Ob.GX h (fun p hp=>by rw [hn] at hp; cases hp)
 ·exact h.elim
def cEq:D→D→CT
 | .v (.slice none 0 0),.sl n _=>.nn n 0
 | x,y=>.dd x y
def RT:List D→List D→CT
 | [],[]=>.nil
 | c :: cs,d :: ds=>.two (cEq c d) (RT cs ds)
 | _,_=>.bad
def dEq:D→D→CT
 | .agg cs,.agg ds=>RT cs ds
 | x,y=>cEq x y
theorem aaP {x y:D} (h:(cEq x y).ok):su x y:=by
 unfold cEq at h
 split at h
 ·have h:_=0:=h
  subst h
  exact su.nil _
 ·exact su.of_eq h
theorem Bw:∀ {cs ds:List D},(RT cs ds).ok→cs.length=ds.length∧∀ i,i < cs.length→su (cs.getD i default) (ds.getD i default)
 | [],[],_=>⟨rfl,fun i hi=>absurd hi (by simp)⟩
 | c :: cs,d :: ds,h=>by
  obtain ⟨h1,h2⟩:=Bw h.2
  refine ⟨by simp [h1],fun i hi=>?_⟩
  cases i with
  | zero=>simpa using aaP h.1
  | succ i=>simpa using h2 i (by simpa using hi)
 | [],_ :: _,h=>h.elim
 | _ :: _,[],h=>h.elim
theorem aem {x y:D} (h:(dEq x y).ok):su x y:=by
 unfold dEq at h
 split at h
 ·exact su.agg (Bw h).1 (Bw h).2
 ·exact aaP h
mutual
def Ws (ρ:Ren):AV→AV→CT
 | _,.any=>.nil
 | .d x,.d y=>dEq x y
 | .own κ n,.own κ' n'=>.two (.bb (rS ρ κ' κ) true) (.nn n n')
 | .d (.v (.slice none 0 0)),.own κ' n'=>.two (.bb (Ub ρ κ') true) (.nn n' 0)
 | .ptr κ o,.ptr κ' o'=>.bb (rS ρ κ' κ&&Nat.beq o o') true
 | .ref cs,.ref C7=>.ll cs C7
 | .fn f l,.fn f' l'=>.two (.bb (Nat.beq f f') true) (EJ ρ l l')
 | .fj l,.fj l'=>EJ ρ l l'
 | .ag l,.ag l'=>EJ ρ l l'
 | .wX κ,.wX κ'=>.bb (rS ρ κ' κ) true
 | .Bj n f,.Bj n' f'=>.two (.nn n n') (.mm f f')
 | .zm n f,.zm n' f'=>.two (.nn n n') (.ff f f')
 | .zm n f,.d (.sl n' f')=>.two (.nn n n') (.ff f f')
 | .yh κ k i o,.yh κ' k' i' o'=>.two (.bb (rS ρ κ' κ&&Nat.beq k k'&&Nat.beq o o') true) (.nn i i')
 | _,_=>.bad
def EJ (ρ:Ren):List AV→List AV→CT
 | [],[]=>.nil
 | x :: r,y :: s=>.two (Ws ρ x y) (EJ ρ r s)
 | _,_=>.bad
end
def aen (ρ:Ren):bw→bw→CT
 | .box cs,.box C7=>EJ ρ cs C7
 | .row e k n f,.row e' k' n' f'=>.two (.bb (Nat.beq e e'&&Nat.beq k k') true) (.two (.nn n n') (.ff f f'))
 | .mp n f,.mp n' f'=>.two (.nn n n') (.mm f f')
 | .it mk n s,.it mk' n' s'=>.two (.bb (rS ρ mk' mk) true) (.two (.nn n n') (.ss s s'))
 | .mx q,.mx q'=>.qq q q'
 | _,_=>.bad
def acy (ρ:Ren) (sl:List (Nat × AV)):List (Nat × AV)→CT
 | []=>.nil
 | (t,x) :: r=>.two (Ws ρ (St.get sl t) x) (acy ρ sl r)
def Wt (ρ:Ren) (lb:List (Nat × bw)):List (Nat × bw)→CT
 | []=>.nil
 | (κ,b) :: r=>(match look ρ κ with
  | some (some o)=>(match look lb o with | some c=>.two (aen ρ c b) (Wt ρ lb r) | none=>.bad)
  | some none=>(match b with | .row _ _ n _=>.two (.nn n 0) (Wt ρ lb r) | _=>.bad)
  | none=>.bad)
mutual
theorem EK {ρ:Ren}:∀ (x y:AV),(Ws ρ x y).ok→∃ p,rT ρ x y=some p∧p
 | x,y,h=>by
  unfold Ws at h
  split at h
  ·exact ⟨True,by unfold rT; rfl,trivial⟩
  ·exact ⟨_,by unfold rT; rfl,aem h⟩
  ·obtain ⟨h1,h2⟩:=h
   have h1:rS ρ _ _=true:=h1
   exact ⟨_,by unfold rT; rw [h1]; rfl,h2⟩
  ·obtain ⟨h1,h2⟩:=h
   have h1:Ub ρ _=true:=h1
   exact ⟨_=0,by simp [rT,h1],h2⟩
  ·have h:(rS ρ _ _&&Nat.beq _ _)=true:=h
   exact ⟨True,by unfold rT; rw [h]; rfl,trivial⟩
  ·exact ⟨_,by unfold rT; rfl,h⟩
  ·rename_i f l f' l'
   obtain ⟨h1,h2⟩:=h
   have h1:Nat.beq f f'=true:=h1
   obtain ⟨p,hp,hq⟩:=Al l l' h2
   exact ⟨p,by unfold rT; rw [h1]; exact hp,hq⟩
  ·rename_i l l'
   obtain ⟨p,hp,hq⟩:=Al l l' h
   exact ⟨p,by unfold rT; exact hp,hq⟩
  ·rename_i l l'
   obtain ⟨p,hp,hq⟩:=Al l l' h
   exact ⟨p,by unfold rT; exact hp,hq⟩
  ·have h:rS ρ _ _=true:=h
   exact ⟨True,by unfold rT; rw [h]; rfl,trivial⟩
  ·rename_i n f n' f'
   exact ⟨n=n'∧f=f',by unfold rT; rfl,h.1,h.2⟩
  ·rename_i n f n' f'
   exact ⟨n=n'∧f=f',by unfold rT; rfl,h.1,h.2⟩
  ·rename_i n f n' f'
   exact ⟨n=n'∧f=f',by unfold rT; rfl,h.1,h.2⟩
  ·rename_i κ k i o κ' k' i' o'
   obtain ⟨h1,h2⟩:=h
   have h1:(rS ρ κ' κ&&Nat.beq k k'&&Nat.beq o o')=true:=h1
   exact ⟨i=i',by unfold rT; rw [h1]; rfl,h2⟩
  ·exact h.elim
theorem Al {ρ:Ren}:∀ (x y:List AV),(EJ ρ x y).ok→∃ p,xk ρ x y=some p∧p
 | [],[],_=>⟨True,by unfold xk; rfl,trivial⟩
 | x :: r,y :: s,h=>by
  unfold EJ at h
  obtain ⟨p,h1,h2⟩:=EK x y h.1
  obtain ⟨q,h3,h4⟩:=Al r s h.2
  exact ⟨p∧q,by unfold xk; rw [h1,h3],h2,h4⟩
 | [],_ :: _,h=>by unfold EJ at h; exact h.elim
 | _ :: _,[],h=>by unfold EJ at h; exact h.elim
end
theorem acz {ρ:Ren} {b c:bw} (h:(aen ρ b c).ok):∃ p,mS ρ b c=some p∧p:=by
 unfold aen at h
 split at h
 ·rename_i cs C7
  obtain ⟨p,h1,h2⟩:=Al cs C7 h
  exact ⟨p,h1,h2⟩
 ·rename_i e k n f e' k' n' f'
  obtain ⟨h1,h2,h3⟩:=h
  have h1:(Nat.beq e e'&&Nat.beq k k')=true:=h1
  have h3:f=f':=h3
  exact ⟨n=n'∧∀ i,i < n→f i=f' i,by unfold mS; dsimp only; rw [h1]; rfl,h2,fun i _=>by rw [h3]⟩
 ·rename_i n f n' f'
  exact ⟨n=n'∧f=f',rfl,h.1,h.2⟩
 ·rename_i mk n s mk' n' s'
  obtain ⟨h1,h2,h3⟩:=h
  have h1:rS ρ mk' mk=true:=h1
  exact ⟨n=n'∧s=s',by unfold mS; dsimp only; rw [h1]; rfl,h2,h3⟩
 ·rename_i q q'
  exact ⟨q=q',rfl,h⟩
 ·exact h.elim
theorem RU {ρ:Ren} {sl:List (Nat × AV)}:∀ {l:List (Nat × AV)},(acy ρ sl l).ok→∃ p,Mv ρ sl l=some p∧p
 | [],_=>⟨True,rfl,trivial⟩
 | (t,x) :: r,h=>by
  obtain ⟨p,h1,h2⟩:=EK _ _ h.1
  obtain ⟨q,h3,h4⟩:=RU h.2
  exact ⟨p∧q,by unfold Mv; rw [h1,h3],h2,h4⟩
theorem EL {ρ:Ren} {lb:List (Nat × bw)}:∀ {l:List (Nat × bw)},(Wt ρ lb l).ok→∃ p,JF ρ lb l=some p∧p
 | [],_=>⟨True,rfl,trivial⟩
 | (κ,b) :: r,h=>by
  unfold Wt at h
  split at h
  ·rename_i o ho
   split at h
   ·rename_i c hc
    obtain ⟨p,h1,h2⟩:=acz h.1
    obtain ⟨q,h3,h4⟩:=EL h.2
    exact ⟨p∧q,by unfold JF; rw [ho,h3]; simp only [hc,h1],h2,h4⟩
   ·exact h.elim
  ·rename_i ho
   split at h
   ·obtain ⟨q,h3,h4⟩:=EL h.2
    exact ⟨_∧q,by unfold JF; rw [ho,h3]; rfl,h.1,h4⟩
   ·exact h.elim
  ·exact h.elim
def GY (κ:Nat) (o:Option Nat) (ρ:Ren):Ren:=match look ρ κ with | some _=>ρ | none=>(κ,o) :: ρ
mutual
def QB:AV→AV→Ren→Ren
 | .own κ _,.own κ' _,ρ=>GY κ' (some κ) ρ
 | .d _,.own κ' _,ρ=>GY κ' none ρ
 | .ptr κ _,.ptr κ' _,ρ=>GY κ' (some κ) ρ
 | .wX κ,.wX κ',ρ=>GY κ' (some κ) ρ
 | .yh κ _ _ _,.yh κ' _ _ _,ρ=>GY κ' (some κ) ρ
 | .fn _ l,.fn _ l',ρ=>MD l l' ρ
 | .fj l,.fj l',ρ=>MD l l' ρ
 | .ag l,.ag l',ρ=>MD l l' ρ
 | _,_,ρ=>ρ
def MD:List AV→List AV→Ren→Ren
 | x :: r,y :: s,ρ=>MD r s (QB x y ρ)
 | _,_,ρ=>ρ
end
def aaQ (sl:List (Nat × AV)):List (Nat × AV)→Ren→Ren
 | [],ρ=>ρ
 | (t,x) :: r,ρ=>aaQ sl r (QB (St.get sl t) x ρ)
def ME (lb:List (Nat × bw)):List (Nat × bw)→Ren→Ren
 | [],ρ=>ρ
 | (κ,b) :: r,ρ=>ME lb r (match look ρ κ with
  | some (some o)=>(match look lb o,b with | some (.box cs),.box C7=>MD cs C7 ρ | some (.it m _ _),.it m' _ _=>GY m' (some m) ρ | _,_=>ρ)
  | _=>ρ)
def aaR (st st':St):Ren:=ME st.lb st'.lb (ME st.lb st'.lb (aaQ st.sl st'.sl []))
def Pe (st st':St):CT:=.two (.bb (EH (aaR st st')) true) (.two (acy (aaR st st') st.sl st'.sl) (Wt (aaR st st') st.lb st'.lb))
theorem vD {st st':St} (h:(Pe st st').ok):OX st st':=by
 obtain ⟨h1,h2,h3⟩:=h
 obtain ⟨p,q1,q2⟩:=RU h2
 obtain ⟨p',q3,q4⟩:=EL h3
 exact OX.of _ h1 q1 q2 q3 q4
def aeo (t:Nat):Nat:=Nat.shiftLeft 1 t
def MF:Operand→Nat
 | .tmp t=>aeo t
 | _=>0
def QC:List Operand→Nat
 | []=>0
 | x :: r=>Nat.lor (MF x) (QC r)
def aaS:List Oper→Nat
 | []=>0
 | o :: r=>Nat.lor (QC o.op.operands.toList) (aaS r)
def CG:Code→Nat
 | .region _ ops _=>aaS ops.toList
 | .seq a b=>Nat.lor (CG a) (CG b)
 | .cond c a b=>Nat.lor (MF c) (Nat.lor (CG a) (CG b))
 | .block _ c=>CG c
 | .loop c=>CG c
 | .rangeFunc f _ a b=>Nat.lor (MF f) (Nat.lor (CG a) (CG b))
 | _=>0
def ld:List Item→Nat
 | []=>0
 | .code c :: r=>Nat.lor (CG c) (ld r)
 | .inLoop c :: r=>Nat.lor (CG c) (ld r)
 | _ :: r=>ld r
def EM:List ResultVar→Nat
 | []=>0
 | .tmp t :: r=>Nat.lor (aeo t) (EM r)
 | .cell t _ :: r=>Nat.lor (aeo t) (EM r)
def MG (m t:Nat):Bool:=Nat.beq (Nat.land (Nat.shiftRight m t) 1) 1
def sS (m:Nat):List (Nat × AV)→List (Nat × AV)
 | []=>[]
 | (t,x) :: r=>bif MG m t then (t,x) :: sS m r else sS m r
theorem MH (m:Nat):∀ (l:List (Nat × AV)) (t:Nat),look (sS m l) t=bif MG m t then look l t else none
 | [],t=>by cases MG m t <;> rfl
 | (k,x) :: r,t=>by
  have ih:=MH m r t
  simp only [sS]
  cases hk:MG m k with
  | true =>
   simp only [cond_true,bC]
   by_cases e:k=t
   ·subst e; simp [hk]
   ·simp only [e,if_false]; exact ih
  | false =>
   simp only [cond_false,bC]
   by_cases e:k=t
   ·subst e; rw [ih,hk]; rfl
   ·simp only [e,if_false]; exact ih
def St.keep (m:Nat) (st:St):St:=⟨sS m st.sl,st.lb⟩
theorem OX.keep (m:Nat) (st:St):OX st (st.keep m):=by
 rintro C a w ⟨S,μ,hs⟩
 refine ⟨S,μ,fun ν=>(hs ν).weaken (fun t v hv=>?_) (fun κ b hb=>⟨b,hb,fun _ h=>h⟩)⟩
 simp only [St.fB,St.get,St.keep,MH] at hv ⊢
 cases MG m t with
 | true=>exact hv
 | false=>exact .any _
def RV (lb:List (Nat × bw)):List Nat→List Nat
 | []=>[]
 | k :: r=>(match look lb k with | some b=>b.keys++RV lb r | none=>RV lb r)
def aaT:List (Nat × AV)→List Nat
 | []=>[]
 | (_,x) :: r=>x.keys++aaT r
def MI (ks:List Nat):List (Nat × bw)→List (Nat × bw)
 | []=>[]
 | (k,b) :: r=>bif ks.any (fun q=>Nat.beq q k) then (k,b) :: MI ks r else MI ks r
structure Z8 where
 sl:List (Nat × AV):=[]
 lb:List (Nat × bw):=[]
def St.Em (st:St) (m:Nat) (u:Z8):St :=
 let sl:=u.sl++sS m (aM (u.sl.map (·.1)) st.sl)
 let lb:=u.lb++aM (u.lb.map (·.1)) st.lb
 let k0:=aaT sl
 let k1:=RV lb k0
 let k2:=RV lb k1
 ⟨sl,MI (k0++k1++k2) lb⟩
structure bn (β:Type) where
 v:β
 jN:β→List Bq
 jL:β→Option Prop
 pre:Prop
 pf:pre→∀ p,jL v=some p→p
 post:β→Prop
 hp:post v
def iter {α ι:Type} (f:ι→α ⊕ ι) (d:α):Nat→ι→α
 | 0,_=>d
 | n+1,i=>match f i with | .inl a=>a | .inr j=>iter f d n j
def j2 {α β:Type}:α ⊕ β→(β→α)→α
 | .inl a,_=>a
 | .inr b,f=>f b
def qE {α β:Type} (L:α→Prop) (J:β→Prop):α ⊕ β→Prop
 | .inl a=>L a
 | .inr b=>J b
def gW {α ι:Type} (L:α→Prop) (J:ι→Prop):α ⊕ ι→Prop
 | .inl a=>L a
 | .inr j=>J j
structure ItC (Y:Type) where
 P:Program
 gf:FuncId
 cy:List AV
 ys:List Y
 enc:Y→List AV
 pre:Prop
 pf:pre→Zf P gf cy (ys.map enc)
inductive Sk:Type→Type 1 where
 | fin {α:Type} (a:α):Sk α
 | br {α:Type} (e:Bool) (x y:Sk α):Sk α
 | r {α β:Type} (id:Nat) (c:bn β) (k:β→Sk α):Sk α
 | wi {α:Type} (t:Nat) (m n:Int) (k:Sk α):Sk α
 | wn {α:Type} (κ n n':Nat) (k:Sk α):Sk α
 | JG {α:Type} (k:Sk α):Sk α
 | JH {α:Type} (k:Sk α):Sk α
 | dead {α:Type} (a:α):Sk α
 | Eo {α:Type} (t j n:Nat) (k:Sk α):Sk α
 | Uj {α:Type} (t:Nat) (c:Bool) (x y:AV) (k1 k2:Sk α):Sk α
 | Uk {α:Type} (t n:Nat) (k1 k2:Sk α):Sk α
 | fz {α:Type} (κ:Nat) (k:Sk α):Sk α
 | op {α:Type} (κ:Nat) (k:List (Int × Int)→Sk α):Sk α
 | cl {α:Type} (κ:Nat) (m:List (Int × Int)) (k:Sk α):Sk α
 | oq {α:Type} (κ:Nat) (q:List (Int × Int)→Prop) (k:List (Int × Int)→Sk α):Sk α
 | cq {α:Type} (κ:Nat) (m:List (Int × Int)) (q:List (Int × Int)→Prop) (k:Sk α):Sk α
 | Qz {α:Type} (id:Nat) (x:Int) (c:qD) (k:Sk α):Sk α
 | mr {α γ:Type} (n:Nat) (V:γ→Prop) (init:γ) (u:γ→List Nat→Z8) (v:γ→Z8) (b:γ→Nat→Sk γ) (k:γ→Sk α):Sk α
 | bind {α β:Type} (blk:Bool) (J:β→Prop) (s:Sk (α ⊕ β)) (u:β→Z8) (k:β→Sk α):Sk α
 | loop {α ι:Type} (d:α) (I:ι→Prop) (m:ι→Nat) (i0:ι) (u:ι→Z8) (b:ι→Sk (α ⊕ ι)):Sk α
 | rf {α σ β Y:Type} (it:ItC Y) (I:Nat→σ→Prop) (B:β→Prop) (id:Nat) (s0:σ) (u:σ→List (Nat × bw)) (v:β→List (Nat × bw)) (b:σ→Y→Sk (β ⊕ σ)) (k:β ⊕ σ→Sk α):Sk α
abbrev Sk.bt {α β:Type} (s:Sk (α ⊕ β)) (u:β→Z8) (k:β→Sk α):Sk α:=.bind true (fun _=>True) s u k
abbrev Sk.lt {α:Type} (t j i n:Nat) (x y:Sk α):Sk α:=.Eo t j n (.br (decide ((i:Int) < (n:Int))) x y)
noncomputable def canon (q:List (Int × Int)→Prop):List (Int × Int):=open Classical in if h:∃ m,q m then h.choose else []
theorem Wu {q:List (Int × Int)→Prop} (h:∃ m,q m):q (canon q):=by
 unfold canon
 rw [dif_pos h]
 exact h.choose_spec
abbrev mxT:List (Int × Int)→Prop:=fun _=>True
noncomputable def Sk.val:{α:Type}→Sk α→α
 | _,.fin a=>a
 | _,.br e x y=>bif e then x.val else y.val
 | _,.r _ c k=>(k c.v).val
 | _,.wi _ _ _ k=>k.val
 | _,.wn _ _ _ k=>k.val
 | _,.JG k=>k.val
 | _,.JH k=>k.val
 | _,.dead a=>a
 | _,.Eo _ _ _ k=>k.val
 | _,.Uj _ c _ _ x y=>bif c then x.val else y.val
 | _,.Uk _ _ _ k=>k.val
 | _,.fz _ k=>k.val
 | _,.op _ k=>(k []).val
 | _,.cl _ _ k=>k.val
 | _,.oq _ q k=>(k (canon q)).val
 | _,.cq _ _ _ k=>k.val
 | _,.Qz _ _ _ k=>k.val
 | _,.mr n _ init _ _ b k=>(k ((List.range n).foldr (fun i g=>(b g i).val) init)).val
 | _,.bind _ _ s _ k=>j2 s.val fun b=>(k b).val
 | _,.loop d _ m i0 _ b=>iter (fun i=>(b i).val) d (m i0+1) i0
 | _,.rf it _ _ _ s0 _ _ b k=>(k (pJ (fun s y=>(b s y).val) it.ys s0)).val
def Sk.cC:{α:Type}→Sk α→(α→Prop)→Prop
 | _,.fin a,L=>L a
 | _,.br e x y,L=>(e=true→x.cC L)∧(e=false→y.cC L)
 | _,.r _ c k,L=>∀ x,x=c.v→c.post x→(k x).cC L
 | _,.wi _ _ _ k,L=>k.cC L
 | _,.wn _ _ _ k,L=>k.cC L
 | _,.JG k,L=>k.cC L
 | _,.JH k,L=>k.cC L
 | _,.dead a,L=>L a
 | _,.Eo _ _ _ k,L=>k.cC L
 | _,.Uj _ c _ _ x y,L=>(c=true→x.cC L)∧(c=false→y.cC L)
 | _,.Uk _ _ _ k,L=>k.cC L
 | _,.fz _ k,L=>k.cC L
 | _,.op _ k,L=>(k []).cC L
 | _,.cl _ _ k,L=>k.cC L
 | _,.oq _ q k,L=>(∃ m,q m)∧∀ m,q m→(k m).cC L
 | _,.cq _ _ _ k,L=>k.cC L
 | _,.Qz _ _ _ k,L=>k.cC L
 | _,.mr n V init _ _ b k,L=>V init∧(∀ g i,V g→i < n→(b g i).cC V)∧∀ g,g=(List.range n).foldr (fun i g=>(b g i).val) init→V g→(k g).cC L
 | _,.bind _ J s _ k,L=>s.cC (qE L J)∧∀ b,s.val=.inr b→J b→(k b).cC L
 | _,.loop _ I m i0 _ b,L=>I i0∧∀ i,I i→(b i).cC (gW L fun j=>I j∧m j < m i)
 | _,.rf it I B _ s0 _ _ b k,L=>I 0 s0∧(∀ i s y,I i s→it.ys[i]? = some y→(b s y).cC (gW B (I (i+1))))∧∀ r,r=pJ (fun s y=>(b s y).val) it.ys s0→gW B (I it.ys.length) r→(k r).cC L
def Sk.a6:{α:Type}→Sk α→(α→Prop)→Prop
 | _,.fin a,L=>L a
 | _,.br e x y,L=>(e=true→x.a6 L)∧(e=false→y.a6 L)
 | _,.r _ c k,L=>c.pre∧∀ x,x=c.v→c.post x→(k x).a6 L
 | _,.wi _ m n k,L=>m=n∧k.a6 L
 | _,.wn _ n n' k,L=>n=n'∧k.a6 L
 | _,.JG k,L=>k.a6 L
 | _,.JH k,L=>k.a6 L
 | _,.dead _,_=>False
 | _,.Eo _ _ n k,L=>n≤maxLen→k.a6 L
 | _,.Uj _ c _ _ x y,L=>(c=true→x.a6 L)∧(c=false→y.a6 L)
 | _,.Uk _ n k1 k2,L=>(n=0→k1.a6 L∧k1.val=k2.val)∧k2.a6 L
 | _,.fz _ k,L=>k.a6 L
 | _,.op _ k,L=>∀ m,(k m).val=(k []).val∧(k m).a6 L
 | _,.cl _ _ k,L=>k.a6 L
 | _,.oq _ q k,L=>∀ m,q m→(k m).val=(k (canon q)).val∧(k m).a6 L
 | _,.cq _ m q k,L=>q m∧k.a6 L
 | _,.Qz _ x c k,L=>(0≤x∧x≤(c.n:Int))∧k.a6 L
 | _,.mr n V init _ _ b k,L=>V init∧(∀ g i,V g→i < n→(b g i).cC V∧(b g i).a6 fun _=>True)∧(∀ g i j,V g→i < n→j < n→i≠j→(b (b g j).val i).val=(b (b g i).val j).val)∧∀ g,g=(List.range n).foldr (fun i g=>(b g i).val) init→V g→(k g).a6 L
 | _,.bind _ J s _ k,L=>s.a6 (qE L J)∧∀ b,s.val=.inr b→J b→(k b).a6 L
 | _,.loop _ I m i0 _ b,L=>I i0∧∀ i,I i→(b i).a6 (gW L fun j=>I j∧m j < m i)
 | _,.rf it I B _ s0 _ _ b k,L=>it.pre∧I 0 s0∧(∀ i s y,I i s→it.ys[i]? = some y→(b s y).cC (gW B (I (i+1)))∧(b s y).a6 (gW B (I (i+1))))∧∀ r,r=pJ (fun s y=>(b s y).val) it.ys s0→gW B (I it.ys.length) r→(k r).a6 L
theorem QD {σ β Y:Type} {f:σ→Y→β ⊕ σ} {I:Nat→σ→Prop} {B:β→Prop} (l:List Y) (h:∀ i s y,I i s→l[i]? = some y→gW B (I (i+1)) (f s y)) (s:σ) (hs:I 0 s):gW B (I l.length) (pJ f l s):=by
 have:=Mw (f:=f) (I:=I) (B:=B) l 0 (fun i s y hs hy=>by
  rw [Nat.zero_add] at hs ⊢
  have:=h i s y hs hy
  cases e:f s y <;> rw [e] at this <;> exact this) s hs
 rw [Nat.zero_add] at this
 cases e:pJ f l s <;> rw [e] at this <;> exact this
theorem xm {γ:Type} {V:γ→Prop} {f:γ→Nat→γ} {n:Nat} (hf:∀ g i,V g→i < n→V (f g i)) {init:γ} (h0:V init):∀ (s:List Nat),(∀ i,i∈s→i < n)→V (s.foldr (fun i g=>f g i) init)
 | [],_=>h0
 | i :: s,h=>hf _ i (xm hf h0 s (fun j hj=>h j (List.mem_cons_of_mem _ hj))) (h i List.mem_cons_self)
theorem Wv {γ:Type} {V:γ→Prop} {f:γ→Nat→γ} {n:Nat} (hf:∀ g i,V g→i < n→V (f g i)) (hc:∀ g i j,V g→i < n→j < n→i≠j→f (f g j) i=f (f g i) j) {init:γ} (h0:V init) {s t:List Nat} (h:s.Perm t) :
  (∀ i,i∈s→i < n)→s.foldr (fun i g=>f g i) init=t.foldr (fun i g=>f g i) init:=by
 induction h with
 | nil=>intro _; rfl
 | cons x _ ih=>intro hs; simp only [List.foldr_cons]; rw [ih (fun i hi=>hs i (List.mem_cons_of_mem _ hi))]
 | swap x y l =>
  intro hs
  simp only [List.foldr_cons]
  by_cases e:x=y
  ·rw [e]
  ·exact hc _ y x (xm hf h0 l (fun i hi=>hs i (by simp [hi]))) (hs y (by simp)) (hs x (by simp)) (fun e'=>e e'.symm)
 | trans h1 _ ih1 ih2=>intro hs; rw [ih1 hs,ih2 (fun i hi=>hs i (h1.mem_iff.2 hi))]
theorem QE {α ι:Type} {f:ι→α ⊕ ι} {d:α} {L:α→Prop} {I:ι→Prop} {m:ι→Nat} (h:∀ i,I i→gW L (fun j=>I j∧m j < m i) (f i)):∀ (n:Nat) (i:ι),I i→m i < n→L (iter f d n i)
 | 0,i,_,hn=>absurd hn (by omega)
 | n+1,i,hi,hn=>by
  have:=h i hi
  simp only [iter]
  cases hf:f i with
  | inl a=>rw [hf] at this; exact this
  | inr j=>rw [hf] at this; exact QE h n j this.1 (by have:=this.2; omega)
theorem Sk.cI:{α:Type}→(s:Sk α)→{L:α→Prop}→s.cC L→L s.val
 | _,.fin a,_,h=>h
 | _,.br e x y,L,h=>by
  cases e with
  | true=>exact x.cI (h.1 rfl)
  | false=>exact y.cI (h.2 rfl)
 | _,.r _ c k,L,h=>(k c.v).cI (h _ rfl c.hp)
 | _,.wi _ _ _ k,L,h=>k.cI (L:=L) h
 | _,.wn _ _ _ k,L,h=>k.cI (L:=L) h
 | _,.JG k,L,h=>k.cI (L:=L) h
 | _,.JH k,L,h=>k.cI (L:=L) h
 | _,.dead _,_,h=>h
 | _,.Eo _ _ n k,L,h=>k.cI (L:=L) h
 | _,.Uj _ c _ _ x y,L,h=>by
  cases c with
  | true=>exact x.cI (h.1 rfl)
  | false=>exact y.cI (h.2 rfl)
 | _,.Uk _ _ _ k,L,h=>k.cI (L:=L) h
 | _,.fz _ k,L,h=>k.cI (L:=L) h
 | _,.op _ k,L,h=>(k []).cI (L:=L) h
 | _,.cl _ _ k,L,h=>k.cI (L:=L) h
 | _,.oq _ q k,L,h=>(k (canon q)).cI (L:=L) (h.2 _ (Wu h.1))
 | _,.cq _ _ _ k,L,h=>k.cI (L:=L) h
 | _,.Qz _ _ _ k,L,h=>k.cI (L:=L) h
 | _,.mr n V init _ _ b k,L,h=>(k _).cI (h.2.2 _ rfl (xm (fun g i hg hi=>(b g i).cI (h.2.1 g i hg hi)) h.1 _ (fun i hi=>List.mem_range.1 hi)))
 | _,.bind _ J s _ k,L,h=>by
  have h1:=s.cI h.1
  show L (j2 s.val fun b=>(k b).val)
  cases hs:s.val with
  | inl a=>rw [hs] at h1; exact h1
  | inr b=>rw [hs] at h1; exact (k b).cI (h.2 b hs h1)
 | _,.loop d I m i0 _ b,L,h=>QE (f:=fun i=>(b i).val) (fun i hi=>(b i).cI (h.2 i hi)) (m i0+1) i0 h.1 (Nat.lt_succ_self _)
 | _,.rf it I B _ s0 _ _ b k,L,h=>(k _).cI (h.2.2 _ rfl (QD it.ys (fun i s y hs hy=>(b s y).cI (h.2.1 i s y hs hy)) s0 h.1))
def wnA (κ n':Nat):AV→AV
 | .own k m=>bif Nat.beq k κ then .own k n' else .own k m
 | x=>x
def wnC (κ n:Nat):AV→CT
 | .own k m=>bif Nat.beq k κ then .nn m n else .nil
 | _=>.nil
def acA (κ n':Nat):List AV→List AV
 | []=>[]
 | x :: r=>wnA κ n' x :: acA κ n' r
def aep (κ n:Nat):List AV→CT
 | []=>.nil
 | x :: r=>.two (wnC κ n x) (aep κ n r)
def acB (κ n':Nat):List (Nat × AV)→List (Nat × AV)
 | []=>[]
 | (t,x) :: r=>(t,wnA κ n' x) :: acB κ n' r
def aaU (κ n:Nat):List (Nat × AV)→CT
 | []=>.nil
 | (_,x) :: r=>.two (wnC κ n x) (aaU κ n r)
def Pf (κ n':Nat):List (Nat × bw)→List (Nat × bw)
 | []=>[]
 | (k,.box cs) :: r=>(k,.box (acA κ n' cs)) :: Pf κ n' r
 | (k,.row e q n f) :: r=>(k,.row e q (bif Nat.beq k κ then n' else n) f) :: Pf κ n' r
 | (k,b) :: r=>(k,b) :: Pf κ n' r
def I6 (κ n:Nat) (n':Nat):List (Nat × bw)→CT
 | []=>.nil
 | (_,.box cs) :: r=>.two (aep κ n cs) (I6 κ n n' r)
 | (k,.row _ _ m _) :: r=>.two (bif Nat.beq k κ then .nn m n' else .nil) (I6 κ n n' r)
 | (_,_) :: r=>I6 κ n n' r
theorem aaV {κ n:Nat} {x:AV} (h:(wnC κ n x).ok):wnA κ n x=x:=by
 unfold wnC at h
 split at h
 ·rename_i k m
  show (bif Nat.beq k κ then AV.own k n else AV.own k m)=AV.own k m
  cases hb:Nat.beq k κ with
  | true =>
   rw [hb] at h
   have h:m=n:=h
   subst h
   rfl
  | false=>rfl
 ·rename_i YX
  cases x <;> first | rfl | exact absurd rfl (YX _ _)
theorem X0 {κ n:Nat}:∀ {l:List AV},(aep κ n l).ok→acA κ n l=l
 | [],_=>rfl
 | x :: r,h=>by simp only [acA,aaV h.1,X0 h.2]
theorem X1 {κ n:Nat}:∀ {l:List (Nat × AV)},(aaU κ n l).ok→acB κ n l=l
 | [],_=>rfl
 | (t,x) :: r,h=>by simp only [acB,aaV h.1,X1 h.2]
theorem Bx {κ n:Nat}:∀ {l:List (Nat × bw)},(I6 κ n n l).ok→Pf κ n l=l
 | [],_=>rfl
 | (k,.box cs) :: r,h=>by simp only [Pf,X0 h.1,Bx h.2]
 | (k,.row e q m f) :: r,h=>by
  simp only [Pf,Bx h.2]
  have h1:=h.1
  cases hb:Nat.beq k κ with
  | false=>rfl
  | true =>
   rw [hb] at h1
   have h1:m=n:=h1
   subst h1
   rfl
 | (k,.mp _ _) :: r,h=>by have h:(I6 κ n n r).ok:=h; simp only [Pf,Bx h]
 | (k,.it _ _ _) :: r,h=>by have h:(I6 κ n n r).ok:=h; simp only [Pf,Bx h]
 | (k,.mx _) :: r,h=>by have h:(I6 κ n n r).ok:=h; simp only [Pf,Bx h]
def QF (lb:List (Nat × bw)):AV→Option Nat
 | .d (.sl q _)=>some q
 | .own κ _=>(match look lb κ with | some (.row _ _ q _)=>some q | _=>none)
 | _=>none
def Ul (st:St) (t j:Nat):Option Nat :=
 match St.get st.sl t with
 | .ptr κ _=>(match look st.lb κ with | some (.box cs)=>bif Nat.ble (j+1) cs.length then QF st.lb (cs.getD j default) else none | _=>none)
 | .ref cs=>bif Nat.ble (j+1) cs.length then QF st.lb (.d (cs.getD j default)) else none
 | .d (.agg cs)=>bif Nat.ble (j+1) cs.length then QF st.lb (.d (cs.getD j default)) else none
 | x=>QF st.lb x
def fzA (κ:Nat) (f:Nat→List D):AV→AV
 | .own k m=>bif Nat.beq k κ then .d (.sl m f) else .own k m
 | x=>x
def fzC (κ n:Nat):AV→CT
 | .own k m=>bif Nat.beq k κ then .nn m n else .nil
 | x=>.bb (x.keys.any fun k=>Nat.beq k κ) false
def Ww (κ:Nat) (f:Nat→List D):List AV→List AV
 | []=>[]
 | x :: r=>fzA κ f x :: Ww κ f r
def aeq (κ n:Nat):List AV→CT
 | []=>.nil
 | x :: r=>.two (fzC κ n x) (aeq κ n r)
def aaW (κ:Nat) (f:Nat→List D):List (Nat × AV)→List (Nat × AV)
 | []=>[]
 | (t,x) :: r=>(t,fzA κ f x) :: aaW κ f r
def X2 (κ n:Nat):List (Nat × AV)→CT
 | []=>.nil
 | (_,x) :: r=>.two (fzC κ n x) (X2 κ n r)
def fzB (κ:Nat) (f:Nat→List D):bw→bw
 | .box cs=>.box (Ww κ f cs)
 | b=>b
def afY (κ n:Nat):bw→CT
 | .box cs=>aeq κ n cs
 | .it m _ _=>.bb (Nat.beq m κ) false
 | _=>.nil
def Wx (κ:Nat) (f:Nat→List D):List (Nat × bw)→List (Nat × bw)
 | []=>[]
 | (k,b) :: r=>bif Nat.beq k κ then Wx κ f r else (k,fzB κ f b) :: Wx κ f r
def X3 (κ n:Nat):List (Nat × bw)→CT
 | []=>.nil
 | (k,b) :: r=>.two (bif Nat.beq k κ then .nil else afY κ n b) (X3 κ n r)
theorem Um (κ n:Nat) (f:Nat→List D):∀ (l:List (Nat × AV)) (t:Nat),(X2 κ n l).ok→St.get (aaW κ f l) t=fzA κ f (St.get l t)∧(fzC κ n (St.get l t)).ok
 | [],t,_=>⟨rfl,rfl⟩
 | (k,x) :: r,t,h=>by
  obtain ⟨i1,i2⟩:=Um κ n f r t h.2
  simp only [St.get,aaW,bC] at i1 i2 ⊢
  by_cases e:k=t
  ·simp only [e,if_true]
   exact ⟨trivial,h.1⟩
  ·simp only [e,if_false]
   exact ⟨i1,i2⟩
theorem tN (κ n:Nat) (f:Nat→List D):∀ (l:List (Nat × bw)) (κ':Nat) (b:bw),(X3 κ n l).ok→look (Wx κ f l) κ'=some b→κ'≠κ∧∃ c,look l κ'=some c∧b=fzB κ f c∧(afY κ n c).ok
 | [],κ',b,_,h=>by simp [Wx,look] at h
 | (k,c) :: r,κ',b,h,hl=>by
  have h1:=h.1
  simp only [Wx] at hl
  cases hb:Nat.beq k κ with
  | true =>
   rw [hb] at hl
   simp only [cond_true] at hl
   obtain ⟨q1,d,q2,q3⟩:=tN κ n f r κ' b h.2 hl
   have hk:=Nat.eq_of_beq_eq_true hb
   refine ⟨q1,d,?_,q3⟩
   rw [bC,if_neg (fun e=>q1 (by omega))]
   exact q2
  | false =>
   rw [hb] at hl h1
   simp only [cond_false,bC] at hl h1
   split at hl
   ·rename_i e
    subst e
    simp only [Option.some.injEq] at hl
    subst hl
    refine ⟨fun e=>(by rw [e,Nat.beq_refl] at hb; cases hb),c,(by rw [bC,if_pos rfl]),rfl,h1⟩
   ·rename_i e
    obtain ⟨q1,d,q2,q3⟩:=tN κ n f r κ' b h.2 hl
    exact ⟨q1,d,by rw [bC,if_neg e]; exact q2,q3⟩
theorem OX.fz {st:St} {κ e k n:Nat} {f:Nat→List D} (hl:look st.lb κ=some (.row e k n f)) (h1:(X2 κ n st.sl).ok) (h2:(X3 κ n st.lb).ok):OX st ⟨aaW κ f st.sl,Wx κ f st.lb⟩:=by
 rintro C a w ⟨S,μ,hs⟩
 have GV:=hs fun _=>false
 have hm:=GV.mem κ _ hl
 let S':Nat→Prop:=fun q=>S q∨∃ c,μ κ=some (some (q,c))
 have hS:∀ q,S q→S' q:=fun _ h=>.inl h
 have main:∀ {ν:Nat→Bool} {x:AV} {v:Value},(fzC κ n x).ok→Rel w S μ ν x v→Rel w S' μ ν (fzA κ f x) v:=by
  intro ν x v hc hr
  have other:fzA κ f x=x→Rel w S' μ ν (fzA κ f x) v:=fun e=>by rw [e]; exact hr.mono hS (fun _ _=>rfl) (fun _ _ e=>e)
  cases x with
  | own q m =>
   cases hb:Nat.beq q κ with
   | false=>exact other (by simp [fzA,hb])
   | true =>
    have e:=Nat.eq_of_beq_eq_true hb
    subst e
    simp only [fzC,hb,cond_true] at hc
    have hc:m=n:=hc
    subst hc
    simp only [fzA,hb,cond_true]
    cases hr with
    | @cN _ ad hμ =>
     cases ad with
     | none=>exact .d (.nil f)
     | some ad=>exact .d (.sl 0 f ad 0 0 (fun _ _=>undef) (Nat.le_refl _) (by simp [maxLen]) (.inl rfl) (fun i hi=>absurd hi (by omega)) (fun i j hi=>absurd hi (by omega)) (fun i j hi=>absurd hi (by omega)))
    | @own _ _ g cap hμ =>
     rw [hμ] at hm
     obtain ⟨cur,hg,_,jF,hn,hcp,oU⟩:=hm.at
     refine .d (.sl m f ⟨g,0,none⟩ cap k (fun i j=>(cur[i * k+j]?).getD undef) hn hcp (.inr rfl) (fun i hi=>(oU i hi).1) (fun i j hi hj=>⟨.inr ⟨cap,hμ⟩,?_⟩) (fun i j hi hj=>?_))
     ·obtain ⟨u,hu,_⟩:=(oU i hi).2 j hj
      rw [Nat.zero_add,gG w g _ cur e _ hg,hu]
      rfl
     ·obtain ⟨u,hu,V2⟩:=(oU i hi).2 j hj
      rw [hu]
      exact V2.mono hS (fun _ _=>rfl)
  | any=>exact other rfl
  | d=>exact other rfl
  | ptr=>exact other rfl
  | yh=>exact other rfl
  | ref=>exact other rfl
  | zm=>exact other rfl
  | wX=>exact other rfl
  | Bj=>exact other rfl
  | fn=>exact other rfl
  | fj=>exact other rfl
  | ag=>exact other rfl
  | g=>exact other rfl
 refine ⟨S',μ,fun ν=>?_⟩
 have Z9:=hs ν
 refine ⟨Z9.tmps,Z9.defers,fun t=>?_,fun κ' b hb=>?_,fun κ1 κ2 b1 b2 g c c' q1 q2 q3 q4=>?_,fun κ' b g c q1 q2=>?_,fun b hb=>.inl (Z9.eB b hb),fun b hb=>?_,fun b hb=>?_,Z9.kept⟩
 ·obtain ⟨e1,e2⟩:=Um κ n f st.sl t h1
  simp only [St.fB]
  rw [e1]
  exact main e2 (Z9.dG t)
 ·obtain ⟨rl,c,hc,rfl,Th⟩:=tN κ n f st.lb κ' b h2 hb
  have Ad:=Z9.mem κ' c hc
  have hnS:∀ g cc,μ κ'=some (some (g,cc))→¬ S' g:=fun g cc hμ' hS'=>by
   rcases hS' with h | ⟨c2,CW⟩
   ·rw [hμ'] at Ad; exact Ad.at.not h
   ·exact rl (Z9.inj κ' κ c _ g cc c2 hc hl hμ' CW)
  have X4:=Ad.mono (S':=S') hS (fun _ _=>rfl) (fun _ _ e=>e) (fun g cc e=>⟨rfl,hnS g cc e⟩)
  cases c with
  | box cs =>
   cases hμ':μ κ' with
   | none=>rw [hμ'] at Ad; exact Ad.elim
   | some y =>
    cases y with
    | none=>rw [hμ'] at Ad; exact Ad.elim
    | some gc =>
     obtain ⟨g,cc⟩:=gc
     rw [hμ'] at Ad
     obtain ⟨cur,e0,x1,x2,x3,x4⟩:=Ad.at
     have hlen:∀ (l:List AV),(Ww κ f l).length=l.length:=fun l=>by induction l with | nil=>rfl | cons _ _ ih=>simp [Ww,ih]
     have V6:∀ (l:List AV) (j:Nat),j < l.length→(aeq κ n l).ok→(Ww κ f l).getD j default=fzA κ f (l.getD j default)∧(fzC κ n (l.getD j default)).ok:=fun l=>by
      induction l with
      | nil=>intro j hj; exact absurd hj (by simp)
      | cons x r ih =>
       intro j hj hk
       cases j with
       | zero=>exact ⟨rfl,hk.1⟩
       | succ j=>simpa [Ww] using ih j (by simpa using hj) hk.2
     refine dg.ok (b:=.box (Ww κ f cs)) ⟨cur,e0,x1,hnS g cc hμ',by rw [hlen]; exact x3,fun j hj=>?_⟩
     rw [hlen] at hj
     obtain ⟨x,y1,y2⟩:=x4 j hj
     obtain ⟨z1,z2⟩:=V6 cs j hj Th
     exact ⟨x,y1,fun ν'=>by rw [z1]; exact main z2 (y2 ν')⟩
  | row=>exact X4
  | mp=>exact X4
  | it=>exact X4
  | mx=>exact X4
 ·obtain ⟨_,d1,e1,_⟩:=tN κ n f st.lb κ1 b1 h2 q1
  obtain ⟨_,d2,e2,_⟩:=tN κ n f st.lb κ2 b2 h2 q2
  exact Z9.inj κ1 κ2 d1 d2 g c c' e1 e2 q3 q4
 ·obtain ⟨_,d1,e1,_⟩:=tN κ n f st.lb κ' b h2 q1
  exact Z9.own κ' d1 g c e1 q2
 ·rcases hb with h | ⟨c,hc⟩
  ·exact Z9.fresh b h
  ·rcases Z9.own κ _ b c hl hc with h | h
   ·exact .inr (.inl h)
   ·exact .inr (.inr h)
 ·rcases hb with h | ⟨c,hc⟩
  ·exact Z9.bound b h
  ·rw [hc] at hm
   exact hm.at.lt
def Wy (ops:Array Oper):Option (Nat × Nat × Nat) :=
 match ops.toList with
 | [o1,o2]=>(match o1.op,o1.dst,o1.guard,o2.op,o2.dst,o2.guard with
  | .next (.tmp it) false,some d1,none,.extract (.tmp Z7) 0,some d2,none=>bif Nat.beq d1 Z7 then some (it,d1,d2) else none
  | _,_,_,_,_,_=>none)
 | _=>none
def pg:Code→Option (Array Oper × List Item)
 | .seq x y=>(match pg x with | some (ops,l)=>some (ops,l++[.code y]) | none=>none)
 | .region _ ops false=>some (ops,[])
 | _=>none
def Wz (st:St) (d1 d2 κi κ n i:Nat) (s:List Nat):St:=⟨(d2,.d (.v (.bool true))) :: aM [d1,d2] st.sl,(κi,.it κ n (i :: s)) :: aM [κi] st.lb⟩
def MJ (st:St) (d1 d2 it:Nat):St:=⟨(d2,.d (.v (.bool false))) :: aM [d1,d2,it] st.sl,st.lb⟩
inductive aaX where
 | ret (x:AV) (cR:List (Nat × bw))
 | aco (x:AV) (cR:List (Nat × bw)) (mQ:List (Nat × Nat))
 | go (todo:List Item) (st:St)
 | brk (id:Nat) (st:St)
def WA (g:Goal):aaX→Prop
 | .ret x cR=>g.Nrm∧g.res=x∧g.cR=cR
 | .aco x cR mQ=>g.Wl mQ∧g.res=x∧g.cR=cR
 | .go todo st=>G g todo st
 | .brk id st=>∀ k,exitTo id k=none→G g (.code (.exit id) :: k) st
def acC (T:List (Nat × TI)) (rs:List ResultVar) (st:St) (x:AV) (cR:List (Nat × bw)):CT :=
 match vB T st rs with
 | some (l,_,ob)=>(match cR with
  | []=>(match xh st.lb l with | some (l',_,El)=>.two (Dc ob) (.two (Dc El) (Ws [] (rQ l') x)) | none=>.bad)
  | cR=>.two (Dc ob) (.two (.bb (EH (ME st.lb cR (QB (rQ l) x []))) true) (.two (Ws (ME st.lb cR (QB (rQ l) x [])) (rQ l) x) (Wt (ME st.lb cR (QB (rQ l) x [])) st.lb cR))))
 | none=>.bad
def afZ (mQ:List (Nat × Nat)):List (Nat × AV):=mQ.map fun p=>(p.1,.ptr p.2 0)
def acD (st:St) (x:AV) (cR:List (Nat × bw)) (mQ:List (Nat × Nat)) (l:List AV):Ren:=ME st.lb cR (aaQ st.sl (afZ mQ) (QB (rQ l) x []))
def X5 (T:List (Nat × TI)) (rs:List ResultVar) (st:St) (x:AV) (cR:List (Nat × bw)) (mQ:List (Nat × Nat)):CT :=
 match vB T st rs with
 | some (l,_,ob)=>.two (Dc ob) (.two (.bb (EH (acD st x cR mQ l)) true) (.two (Ws (acD st x cR mQ l) (rQ l) x) (.two (acy (acD st x cR mQ l) st.sl (afZ mQ)) (Wt (acD st x cR mQ l) st.lb cR))))
 | none=>.bad
def ph (P:Program) (T:List (Nat × TI)) (nt:Nat) (rm:Nat) (md:Nat) (pr:List Nat) (todo:List Item) (st:St):Option (List Item × St × CT) :=
 match todo with
 | .code (.seq x y) :: k=>some (.code x :: .code y :: k,st,.nil)
 | .code .skip :: k=>some (k,st,.nil)
 | .code (.label _) :: k=>some (k,st,.nil)
 | .code (.cond (.const (.bool e)) x y) :: k=>some (.code (bif e then x else y) :: k,st,.nil)
 | .code (.block id c) :: k=>some (.code c :: .inBlock id :: k,st,.nil)
 | .inBlock _ :: k=>some (k,st,.nil)
 | .code (.exit id) :: k=>(match exitTo id k with | some k'=>some (k',st,.nil) | none=>none)
 | .code (.region _ ops draw) :: k=>(match pI P T nt ops draw none st [] with
  | some (st',ob)=>some (k,st'.keep (Nat.lor rm (ld k)),.two (.bb (JE md pr ops) true) (Dc ob))
  | none=>none)
 | _=>none
def acE (c:Bool):AV→AV→AV
 | .d x,.d y=>.d (bif c then x else y)
 | x,y=>bif c then x else y
theorem acF (c:Bool) (x y:AV):acE c x y=bif c then x else y:=by
 unfold acE
 split
 ·cases c <;> rfl
 ·rfl
def Ta (rm:Nat) (todo:List Item):Nat:=Nat.lor rm (ld todo)
def aaY (P:Program) (T:List (Nat × TI)) (nt:Nat) (rm:Nat) (md:Nat) (pr:List Nat):Nat→List Item→St→Option (List Item × St × CT)
 | 0,_,_=>none
 | n+1,todo,st=>(match todo with
  | .beginRound :: k=>some (.beginRound :: k,st,.nil)
  | todo=>(match ph P T nt rm md pr todo st with
   | some (k,nY,c)=>(match aaY P T nt rm md pr n k nY with
    | some (k',st2,c')=>some (k',st2,.two c c')
    | none=>none)
   | none=>none))
def aaZ (P:Program) (T:List (Nat × TI)) (nt:Nat) (rm:Nat) (md:Nat) (pr:List Nat) (n:Nat) (todo:List Item) (st:St):St:=match aaY P T nt rm md pr n todo st with | some (_,st2,_)=>st2 | none=>⟨[],[]⟩
def af0 (P:Program) (T:List (Nat × TI)) (nt:Nat) (rm:Nat) (md:Nat) (pr:List Nat) (n:Nat) (todo:List Item) (st:St) (k:List Item):CT:=match aaY P T nt rm md pr n todo st with | some (k',_,c)=>.two c (.td k' k) | none=>.bad
def mxf (m:List (Int × Int)):Nat→Value × D:=fun i=>(.int .i64 (m.getD i default).1,.v (.int .i64 (m.getD i default).2))
def pE (P:Program) (T:List (Nat × TI)) (nt:Nat) (rs:List ResultVar) (rm:Nat) (md:Nat) (pr:List Nat):Nat→{α:Type}→List Item→St→(α→aaX)→Sk α→CT
 | 0,_,_,_,_,_=>.bad
 | n+1,_,todo,st,L,sk =>
  match sk with
  | .op κ k=>(match look st.lb κ with
   | some (.mx _)=>.pi fun m=>pE P T nt rs rm md pr n todo ⟨st.sl,(κ,.mp m.length (mxf m)) :: aM [κ] st.lb⟩ L (k m)
   | _=>.bad)
  | .oq κ q k=>(match look st.lb κ with
   | some (.mx q')=>.two (.qq q' q) (.pi fun m=>pE P T nt rs rm md pr n todo ⟨st.sl,(κ,.mp m.length (mxf m)) :: aM [κ] st.lb⟩ L (k m))
   | _=>.bad)
  | .cq κ m q' k=>(match look st.lb κ with
   | some (.mp q f)=>.two (.nn q m.length) (.two (.mm f (mxf m)) (pE P T nt rs rm md pr n todo ⟨st.sl,(κ,.mx q') :: aM [κ] st.lb⟩ L k))
   | _=>.bad)
  | .cl κ m k=>(match look st.lb κ with
   | some (.mp q f)=>.two (.nn q m.length) (.two (.mm f (mxf m)) (pE P T nt rs rm md pr n todo ⟨st.sl,(κ,.mx mxT) :: aM [κ] st.lb⟩ L k))
   | _=>.bad)
  | .Qz id x c k=>(match todo with
   | .code (.region i ops false) :: K=>bif Nat.beq i id then (match aaM ops with
    | some (ts,ti,ty,d1,d2,d3)=>(match St.get st.sl ts,St.get st.sl ti,look T ty with
     | .own κ m,.d (.v (.int .i64 xx)),some { kind:=.slice e',.. }=>(match look st.lb κ,look T e' with
      | some (.row e q m2 f),some i=>.two (.bb (Nat.ble (d1+1) nt&&Nat.ble (d2+1) nt&&Nat.ble (d3+1) nt&&JE md pr ops&&Nat.beq e e'&&Nat.beq q i.size&&i.zero.all zD&&!Nat.beq ts d1&&!Nat.beq ts d2&&!Nat.beq ts d3) true)
        (.two (.zz xx x) (.two (.nn m m2) (.two (.nn m c.n) (.two (.ff (wm xx.toNat f i.zero) c.f)
        (pE P T nt rs rm md pr n K (St.keep (Nat.lor rm (ld K)) ⟨(ts,.own κ c.n') :: aM [ts,d1,d2,d3] st.sl,(κ,.row e q c.n' c.f') :: aM [κ] st.lb⟩) L k)))))
      | _,_=>.bad)
     | _,_,_=>.bad)
    | none=>.bad)
    else (match ph P T nt rm md pr (.code (.region i ops false) :: K) st with | some (k0,nY,c0)=>.two c0 (pE P T nt rs rm md pr n k0 nY L (.Qz id x c k)) | none=>.bad)
   | todo=>(match ph P T nt rm md pr todo st with | some (k0,nY,c0)=>.two c0 (pE P T nt rs rm md pr n k0 nY L (.Qz id x c k)) | none=>.bad))
  | .wi t a b k=>.two (.vv (St.get st.sl t) (.d (.v (.int .i64 a)))) (pE P T nt rs rm md pr n todo ⟨(t,.d (.v (.int .i64 b))) :: aM [t] st.sl,st.lb⟩ L k)
  | .Eo t j m k=>(match Ul st t j with
   | some q=>.two (.nn q m) (pE P T nt rs rm md pr n todo st L k)
   | none=>.bad)
  | .wn κ a b k=>.two (aaU κ a st.sl) (.two (I6 κ a b st.lb) (pE P T nt rs rm md pr n todo ⟨acB κ b st.sl,Pf κ b st.lb⟩ L k))
  | .dead _=>.nil
  | .Uk t m k1 k2=>(match St.get st.sl t with
   | .d (.sl q f)=>.two (.nn q m) (.two (pE P T nt rs rm md pr n todo ⟨(t,.d (.v (.slice none 0 0))) :: aM [t] st.sl,st.lb⟩ L k1) (pE P T nt rs rm md pr n todo ⟨(t,.zm q f) :: aM [t] st.sl,st.lb⟩ L k2))
   | _=>.bad)
  | .fz κ k=>(match look st.lb κ with
   | some (.row _ _ q f)=>.two (X2 κ q st.sl) (.two (X3 κ q st.lb) (pE P T nt rs rm md pr n todo ⟨aaW κ f st.sl,Wx κ f st.lb⟩ L k))
   | _=>.bad)
  | .mr m V init u v b k=>(match todo with
   | .code (.loop c) :: K=>(match pg c with
    | some (ops,l)=>(match Wy ops with
     | some (it,d1,d2)=>bif Nat.ble (d1+1) nt&&Nat.ble (d2+1) nt&&JE md pr ops then
       .two (Pe st (st.Em (Nat.lor rm (ld (.inLoop c :: K))) (u init [])))
       (.two (.pi fun g=>.pi fun s=>(match St.get (st.Em (Nat.lor rm (ld (.inLoop c :: K))) (u g s)).sl it with
        | .ptr κi 0=>(match look (st.Em (Nat.lor rm (ld (.inLoop c :: K))) (u g s)).lb κi with
         | some (.it κ m1 s1)=>(match look (st.Em (Nat.lor rm (ld (.inLoop c :: K))) (u g s)).lb κ with
          | some (.mp m2 _)=>.two (.nn m1 m) (.two (.nn m2 m) (.two (.ss s1 s) (.two
            (Pe (MJ (st.Em (Nat.lor rm (ld (.inLoop c :: K))) (u g s)) d1 d2 it) ((MJ st d1 d2 it).Em (Nat.lor rm (ld (l++.inLoop c :: K))) (v g)))
            (.pi fun i=>pE P T nt rs rm md pr n (l++.inLoop c :: K) (Wz (st.Em (Nat.lor rm (ld (.inLoop c :: K))) (u g s)) d1 d2 κi κ m i s) (fun g'=>.go (.inLoop c :: K) (st.Em (Nat.lor rm (ld (.inLoop c :: K))) (u g' (i :: s)))) (b g i)))))
          | _=>.bad)
         | _=>.bad)
        | _=>.bad))
       (.pi fun g=>pE P T nt rs rm md pr n (l++.inLoop c :: K) ((MJ st d1 d2 it).Em (Nat.lor rm (ld (l++.inLoop c :: K))) (v g)) L (k g))) else .bad
     | none=>.bad)
    | none=>.bad)
   | todo=>(match ph P T nt rm md pr todo st with | some (k0,nY,c)=>.two c (pE P T nt rs rm md pr n k0 nY L (.mr m V init u v b k)) | none=>.bad))
  | .JG x=>(match todo with
   | .code (.cond (.tmp c) p _) :: k=>.two (.vv (St.get st.sl c) (.d (.v (.bool true)))) (pE P T nt rs rm md pr n (.code p :: k) st L x)
   | todo=>(match ph P T nt rm md pr todo st with | some (k,nY,c)=>.two c (pE P T nt rs rm md pr n k nY L (.JG x)) | none=>.bad))
  | .JH x=>(match todo with
   | .code (.cond (.tmp c) _ q) :: k=>.two (.vv (St.get st.sl c) (.d (.v (.bool false)))) (pE P T nt rs rm md pr n (.code q :: k) st L x)
   | todo=>(match ph P T nt rm md pr todo st with | some (k,nY,c)=>.two c (pE P T nt rs rm md pr n k nY L (.JH x)) | none=>.bad))
  | .Uj t c x y k1 k2=>.two (.vv (St.get st.sl t) (acE c x y)) (.two (pE P T nt rs rm md pr n todo ⟨(t,x) :: aM [t] st.sl,st.lb⟩ L k1) (pE P T nt rs rm md pr n todo ⟨(t,y) :: aM [t] st.sl,st.lb⟩ L k2))
  | .fin a=>(match L a with
   | .go Mt st'=>bif Nat.beq todo.length Mt.length then .two (.td todo Mt) (Pe st st') else
     (match ph P T nt rm md pr todo st with | some (k,nY,c)=>.two c (pE P T nt rs rm md pr n k nY L (.fin a)) | none=>.bad)
   | .brk id st'=>(match todo with
    | .code (.exit id') :: k=>bif Nat.beq id id'&&(exitTo id' k).isNone then Pe st st' else
     (match ph P T nt rm md pr (.code (.exit id') :: k) st with | some (k,nY,c)=>.two c (pE P T nt rs rm md pr n k nY L (.fin a)) | none=>.bad)
    | todo=>(match ph P T nt rm md pr todo st with | some (k,nY,c)=>.two c (pE P T nt rs rm md pr n k nY L (.fin a)) | none=>.bad))
   | .ret x cR=>(match todo with
    | []=>acC T rs st x cR
    | .code .ret :: _=>acC T rs st x cR
    | todo=>(match ph P T nt rm md pr todo st with | some (k,nY,c)=>.two c (pE P T nt rs rm md pr n k nY L (.fin a)) | none=>.bad))
   | .aco x cR mQ=>(match todo with
    | []=>X5 T rs st x cR mQ
    | .code .ret :: _=>X5 T rs st x cR mQ
    | todo=>(match ph P T nt rm md pr todo st with | some (k,nY,c)=>.two c (pE P T nt rs rm md pr n k nY L (.fin a)) | none=>.bad)))
  | .br e x y=>(match todo with
   | .code (.cond (.tmp c) p q) :: k=>.two (.vv (St.get st.sl c) (.d (.v (.bool e)))) (.two (pE P T nt rs rm md pr n (.code p :: k) st L x) (pE P T nt rs rm md pr n (.code q :: k) st L y))
   | todo=>(match ph P T nt rm md pr todo st with | some (k,nY,c)=>.two c (pE P T nt rs rm md pr n k nY L (.br e x y)) | none=>.bad))
  | .r id cl kk=>(match todo with
   | .code (.region i ops draw) :: k=>bif Nat.beq i id then
     .pi fun x=>(match pI P T nt ops draw none st (cl.jN x) with
      | some (st',ob)=>.two (.bb (JE md pr ops) true) <| .two ob.eqs (.two (.po ob.prop (cl.jL x)) (pE P T nt rs rm md pr n k (st'.keep (Nat.lor rm (ld k))) L (kk x)))
      | none=>.bad)
    else (match ph P T nt rm md pr (.code (.region i ops draw) :: k) st with | some (k,nY,c)=>.two c (pE P T nt rs rm md pr n k nY L (.r id cl kk)) | none=>.bad)
   | todo=>(match ph P T nt rm md pr todo st with | some (k,nY,c)=>.two c (pE P T nt rs rm md pr n k nY L (.r id cl kk)) | none=>.bad))
  | .bind true J s u kk=>(match todo with
   | .code (.block id c) :: k=>.two (pE P T nt rs rm md pr n (.code c :: .inBlock id :: k) st (fun q=>match q with | .inl a=>L a | .inr b=>.go k (st.Em (Nat.lor rm (ld k)) (u b))) s) (.pi fun b=>pE P T nt rs rm md pr n k (st.Em (Nat.lor rm (ld k)) (u b)) L (kk b))
   | todo=>(match ph P T nt rm md pr todo st with | some (k,nY,c)=>.two c (pE P T nt rs rm md pr n k nY L (.bind true J s u kk)) | none=>.bad))
  | .bind false J s u kk=>(match todo with
   | .code (.cond (.tmp c) p q) :: k=>.two (pE P T nt rs rm md pr n (.code (.cond (.tmp c) p q) :: k) st (fun q=>match q with | .inl a=>L a | .inr b=>.go k (st.Em (Nat.lor rm (ld k)) (u b))) s) (.pi fun b=>pE P T nt rs rm md pr n k (st.Em (Nat.lor rm (ld k)) (u b)) L (kk b))
   | todo=>(match ph P T nt rm md pr todo st with | some (k,nY,c)=>.two c (pE P T nt rs rm md pr n k nY L (.bind false J s u kk)) | none=>.bad))
  | .loop d I m i0 u b=>(match todo with
   | .code (.loop c) :: k=>.two (Pe st (st.Em (Nat.lor rm (ld (.inLoop c :: k))) (u i0))) (.pi fun i=>pE P T nt rs rm md pr n (.code c :: .inLoop c :: k) (st.Em (Nat.lor rm (ld (.inLoop c :: k))) (u i)) (fun q=>match q with | .inl a=>L a | .inr j=>.go (.inLoop c :: k) (st.Em (Nat.lor rm (ld (.inLoop c :: k))) (u j))) (b i))
   | todo=>(match ph P T nt rm md pr todo st with | some (k,nY,c)=>.two c (pE P T nt rs rm md pr n k nY L (.loop d I m i0 u b)) | none=>.bad))
  | .rf it I B id s0 u v b kk=>(match todo with
   | .code (.rangeFunc (.tmp t) ps Ly body) :: k =>
     .two (.bb (Nat.beq md 0) true) <|
     .two (.vv (St.get (sS (Ta rm todo) (aM [] st.sl)) t) (.fn it.gf it.cy)) <|
     .two (.bb (vk.nI it.cy) true) <|
     .two (.po (some (Zf P it.gf it.cy (it.ys.map it.enc))) (some (Zf it.P it.gf it.cy (it.ys.map it.enc)))) <|
     .two (.bb (Wn nt ((sS (Ta rm todo) (aM [] st.sl)).map (·.1)) ps.toList) true) <|
     .two (Pe st (st.Em (Ta rm todo) ⟨[],u s0⟩)) <|
     .two (.pi fun y=>.nn ps.toList.length (it.enc y).length) <|
     .two (.pi fun s=>.pi fun y=>.two
      (af0 P T nt (Ta rm todo) 1 ((sS (Ta rm todo) (aM [] st.sl)).map (·.1)) n [.code Ly,.beginRound,.code body] ⟨zq ps.toList (it.enc y)++sS (Ta rm todo) (aM [] st.sl),(st.Em (Ta rm todo) ⟨[],u s⟩).lb⟩ [.beginRound,.code body])
      (pE P T nt rs (Ta rm todo) 1 ((sS (Ta rm todo) (aM [] st.sl)).map (·.1)) n [.code body] (aaZ P T nt (Ta rm todo) 1 ((sS (Ta rm todo) (aM [] st.sl)).map (·.1)) n [.code Ly,.beginRound,.code body] ⟨zq ps.toList (it.enc y)++sS (Ta rm todo) (aM [] st.sl),(st.Em (Ta rm todo) ⟨[],u s⟩).lb⟩)
       (fun q=>match q with | .inl a=>.brk id (st.Em (Ta rm todo) ⟨[],v a⟩) | .inr j=>.go [] (st.Em (Ta rm todo) ⟨[],u j⟩)) (b s y))) <|
     .two (.pi fun s=>pE P T nt rs rm md pr n k (st.Em (Ta rm todo) ⟨[],u s⟩) L (kk (.inr s))) (.pi fun a=>pE P T nt rs rm md pr n (.code (.exit id) :: k) (st.Em (Ta rm todo) ⟨[],v a⟩) L (kk (.inl a)))
   | todo=>(match ph P T nt rm md pr todo st with | some (k,nY,c)=>.two c (pE P T nt rs rm md pr n k nY L (.rf it I B id s0 u v b kk)) | none=>.bad))
section
variable {g : Goal}
theorem G.keep (m:Nat) {k:List Item} {st:St} (h:G g k (st.keep m)):G g k st:=.le (.keep m st) h
theorem X6 (hn:g.Nrm) (hT:nz g.P g.T) (hf:g.P.funcs[g.f]? = some g.fn) {st:St} {x:AV} {cR:List (Nat × bw)} (h:(acC g.T g.fn.results.toList st x cR).ok) (hx:g.res=x) (hl:g.cR=cR):G g [] st∧∀ k,G g (.code .ret :: k) st:=by
 subst hx
 subst hl
 unfold acC at h
 split at h
 ·rename_i l ro ob hr
  split at h
  ·rename_i hl
   split at h
   ·rename_i l' Qp El hb
    obtain ⟨h1,h2,h3⟩:=h
    obtain ⟨p,q1,q2⟩:=EK _ _ h3
    have hle:lL (rQ l') g.res:=fun w S μ ν v hv=>by
     exact (xl (ρ:=[]) (rQ l') g.res p q1 q2 v hv).mono (fun _ h=>h) (fun _ _=>rfl) (fun k y hk=>by simp [xj,look] at hk)
    exact G.ret hn hT hf hl hr (ui h1) hb (ui h2) hle
   ·exact h.elim
  ·obtain ⟨h1,h2,h3,h4⟩:=h
   obtain ⟨p,q1,q2⟩:=EK _ _ h3
   obtain ⟨p',q3,q4⟩:=EL h4
   exact G.ahr hn hT hf _ hr (ui h1) h2 q1 q2 q3 q4
 ·exact h.elim
theorem Un {mQ:List (Nat × Nat)} (hn:g.Wl mQ) (hT:nz g.P g.T) (hf:g.P.funcs[g.f]? = some g.fn) {st:St} {x:AV} {cR:List (Nat × bw)} (h:(X5 g.T g.fn.results.toList st x cR mQ).ok) (hx:g.res=x) (hl:g.cR=cR):G g [] st∧∀ k,G g (.code .ret :: k) st:=by
 subst hx
 subst hl
 unfold X5 at h
 split at h
 ·rename_i l ro ob hr
  obtain ⟨h1,h2,h3,h4,h5⟩:=h
  obtain ⟨p,q1,q2⟩:=EK _ _ h3
  obtain ⟨p',q3,q4⟩:=EL h5
  obtain ⟨p'',q5,q6⟩:=RU h4
  exact G.aco hn hT hf _ hr (ui h1) h2 q1 q2 q3 q4 q5 q6
 ·exact h.elim
theorem fx (hT:nz g.P g.T) (hm:g.P.follows .mixedOrders=true) {rm:Nat} {todo k:List Item} {st st':St} {c:CT} (h:ph g.P g.T g.nt rm g.md g.pr todo st=some (k,st',c)) (hc:c.ok) (hg:G g k st'):G g todo st:=by
 unfold ph at h
 split at h
 ·simp only [Option.some.injEq,Prod.mk.injEq] at h; obtain ⟨rfl,rfl,-⟩:=h; exact .seq hg
 ·simp only [Option.some.injEq,Prod.mk.injEq] at h; obtain ⟨rfl,rfl,-⟩:=h; exact .skip hg
 ·simp only [Option.some.injEq,Prod.mk.injEq] at h; obtain ⟨rfl,rfl,-⟩:=h; exact .label hg
 ·simp only [Option.some.injEq,Prod.mk.injEq] at h; obtain ⟨rfl,rfl,-⟩:=h; exact .afG hg
 ·simp only [Option.some.injEq,Prod.mk.injEq] at h; obtain ⟨rfl,rfl,-⟩:=h; exact .block hg
 ·simp only [Option.some.injEq,Prod.mk.injEq] at h; obtain ⟨rfl,rfl,-⟩:=h; exact .inBlock hg
 ·split at h
  ·rename_i k' he
   simp only [Option.some.injEq,Prod.mk.injEq] at h; obtain ⟨rfl,rfl,-⟩:=h; exact .exit he hg
  ·cases h
 ·split at h
  ·rename_i nY ob hr
   simp only [Option.some.injEq,Prod.mk.injEq] at h
   obtain ⟨rfl,rfl,rfl⟩:=h
   exact .region hT hm hc.1 hr (ui hc.2) (.keep _ hg)
  ·cases h
 ·cases h
theorem OX.put {st:St} (t:Nat) {x y:AV} (hx:St.get st.sl t=x) (h:lL x y):OX st ⟨(t,y) :: aM [t] st.sl,st.lb⟩:=by
 rintro C a w ⟨S,μ,hs⟩
 refine ⟨S,μ,fun ν=>(hs ν).weaken (fun u v hv=>?_) (fun κ b hb=>⟨b,hb,fun _ h=>h⟩)⟩
 simp only [St.fB] at hv ⊢
 rw [Lw]
 split
 ·rename_i e
  subst e
  rw [hx] at hv
  exact h _ _ _ _ _ hv
 ·exact hv
theorem EN {C:Cx} {A:M} {a:Act} {w:World} {S:Nat→Prop} {μ:Mu} {ν:Nat→Bool} {lb:List (Nat × bw)} (hs:cV C A a w S μ ν) (hA:A.lb=look lb) {x:AV} {v:Value} {q:Nat} (h:QF lb x=some q) (hr:Rel w S μ ν x v):q≤maxLen:=by
 unfold QF at h
 split at h
 ·simp only [Option.some.injEq] at h
  subst h
  cases iK.1 hr with
  | nil=>simp [maxLen]
  | sl _ _ _ _ _ _ hc hm=>omega
 ·rename_i κ n
  split at h
  ·rename_i e k q' f hl
   simp only [Option.some.injEq] at h
   subst h
   have hm:=hs.mem κ _ (by rw [hA]; exact hl)
   cases hμ:μ κ with
   | none=>rw [hμ] at hm; exact hm.elim
   | some y =>
    rw [hμ] at hm
    cases y with
    | none=>have:q'=0:=hm; simp [this]
    | some gc =>
     obtain ⟨g,c⟩:=gc
     obtain ⟨cur,_,_,_,q4,q5,_⟩:=hm.at
     omega
  ·cases h
 ·cases h
theorem cV.Uo {C:Cx} {A B:M} {a:Act} {w:World} {S:Nat→Prop} {μ:Mu} {ν:Nat→Bool} (h:cV C A a w S μ ν) (VN:∀ t,B.sl t=A.sl t) (VP:∀ κ b',B.lb κ=some b'→∃ b,A.lb κ=some b∧(hZ w S μ b (μ κ)→hZ w S μ b' (μ κ))):cV C B a w S μ ν:=by
 refine ⟨h.tmps,h.defers,fun t=>by rw [VN]; exact h.dG t,fun κ b hb=>?_,fun κ κ' b b' g c c' hb mP hm Ad=>?_,fun κ b g c hb hm=>?_,h.eB,h.fresh,h.bound,h.kept⟩
 ·obtain ⟨d,h1,h2⟩:=VP κ b hb
  exact h2 (h.mem κ d h1)
 ·obtain ⟨d,h1,_⟩:=VP κ b hb
  obtain ⟨d',h1',_⟩:=VP κ' b' mP
  exact h.inj κ κ' d d' g c c' h1 h1' hm Ad
 ·obtain ⟨d,h1,_⟩:=VP κ b hb
  exact h.own κ d g c h1 hm
theorem ady (st:St) (κ:Nat) (b:bw) (k:Nat):(St.fB ⟨st.sl,(κ,b) :: aM [κ] st.lb⟩).lb k=if κ=k then some b else st.fB.lb k:=by
 simp only [St.fB,bC,mn]
 split
 ·rfl
 ·rename_i h
  rw [if_neg (by simp; exact fun e=>h e.symm)]
theorem G.cl {g:Goal} {k:List Item} {st:St} {κ n:Nat} {f:Nat→Value × D} {m:List (Int × Int)} {q:List (Int × Int)→Prop} (hl:look st.lb κ=some (.mp n f)) (hn:n=m.length) (hf:f=mxf m) (hq:q m) (h:G g k ⟨st.sl,(κ,.mx q) :: aM [κ] st.lb⟩):G g k st:=by
 subst hn
 subst hf
 refine .le (fun C a w hs=>?_) h
 obtain ⟨S,μ,hs⟩:=hs
 refine ⟨S,μ,fun ν=>(hs ν).Uo (fun _=>rfl) (fun κ' b' hb=>?_)⟩
 rw [ady] at hb
 split at hb
 ·rename_i e
  subst e
  simp only [Option.some.injEq] at hb
  subst hb
  refine ⟨_,hl,fun hy=>?_⟩
  generalize μ κ=y at hy ⊢
  match y,hy with
  | some (some (g,c)),hy=>exact ⟨m,hq,hy⟩
 ·exact ⟨b',hb,fun h=>h⟩
theorem G.op {g:Goal} {k:List Item} {st:St} {κ:Nat} {q:List (Int × Int)→Prop} (hl:look st.lb κ=some (.mx q)) (h:∀ m,q m→G g k ⟨st.sl,(κ,.mp m.length (mxf m)) :: aM [κ] st.lb⟩):G g k st:=by
 intro C h1 h2 a w RN hs
 obtain ⟨S,μ,hs⟩:=hs
 have hm:=(hs fun _=>false).mem κ _ hl
 obtain ⟨m,hq,Ad⟩:∃ m:List (Int × Int),q m∧hZ w S μ (.mp m.length (mxf m)) (μ κ):=by
  generalize μ κ=y at hm ⊢
  match y,hm with
  | some (some (g,c)),hm=>obtain ⟨m,hq,hm⟩:=hm; exact ⟨m,hq,hm⟩
 refine h m hq C h1 h2 a w RN ⟨S,μ,fun ν=>(hs ν).Uo (fun _=>rfl) (fun κ' b' hb=>?_)⟩
 rw [ady] at hb
 split at hb
 ·rename_i e
  subst e
  simp only [Option.some.injEq] at hb
  subst hb
  exact ⟨_,hl,fun _=>Ad⟩
 ·exact ⟨b',hb,fun h=>h⟩
theorem G.Ul {k:List Item} {st:St} {t j q:Nat} (h:Ul st t j=some q) (hg:q≤maxLen→G g k st):G g k st:=by
 intro C h1 h2 a w RN hs
 have GV:=hs
 obtain ⟨S,μ,cX⟩:=hs
 refine hg ?_ C h1 h2 a w RN GV
 have hs:=cX fun _=>false
 have hr:=hs.dG t
 simp only [St.fB] at hr
 unfold Go.Av.Ul at h
 split at h
 ·rename_i κ o hx
  split at h
  ·rename_i cs hl
   rw [Bool.cond_eq_ite] at h
   split at h
   ·rename_i hj
    have hj:=Nat.le_of_ble_eq_true hj
    rw [hx] at hr
    generalize a.tmps.getD t undef=v at hr
    cases hr with
    | ptr hμ =>
     have hm:=hs.mem κ _ hl
     rw [hμ] at hm
     obtain ⟨cur,e,_,_,jF,hc⟩:=hm.at
     obtain ⟨x,_,hx⟩:=hc j hj
     exact EN hs rfl h (hx fun _=>false)
   ·cases h
  ·cases h
 ·rename_i cs hx
  rw [Bool.cond_eq_ite] at h
  split at h
  ·rename_i hj
   have hj:=Nat.le_of_ble_eq_true hj
   rw [hx] at hr
   generalize a.tmps.getD t undef=v at hr
   cases hr with
   | ref df bL hh=>exact EN hs rfl h (.d (hh j hj))
  ·cases h
 ·rename_i cs hx
  rw [Bool.cond_eq_ite] at h
  split at h
  ·rename_i hj
   have hj:=Nat.le_of_ble_eq_true hj
   rw [hx] at hr
   generalize a.tmps.getD t undef=v at hr
   cases iK.1 hr with
   | agg _ vs hl hh=>exact EN hs rfl h (.d (hh j hj))
  ·cases h
 ·exact EN hs rfl h hr
theorem G.Uk {k:List Item} {st:St} {t n:Nat} {f:Nat→List D} (ht:St.get st.sl t=.d (.sl n f)) (h1:n=0→G g k ⟨(t,.d (.v (.slice none 0 0))) :: aM [t] st.sl,st.lb⟩) (h2:G g k ⟨(t,.zm n f) :: aM [t] st.sl,st.lb⟩):G g k st:=by
 intro C c1 c2 a w RN hs
 obtain ⟨S,μ,cX⟩:=hs
 have hr:=(cX fun _=>false).dG t
 simp only [St.fB,ht] at hr
 have put:∀ y:AV,(∀ ν,Rel w S μ ν y (a.tmps.getD t undef))→j1 C ⟨(t,y) :: aM [t] st.sl,st.lb⟩ a w:=fun y hy=>by
  refine ⟨S,μ,fun ν=>?_⟩
  have h:=cX ν
  refine ⟨h.tmps,h.defers,fun u=>?_,h.mem,h.inj,h.own,h.eB,h.fresh,h.bound,h.kept⟩
  simp only [St.fB]
  rw [Lw]
  split
  ·rename_i e
   subst e
   exact hy ν
  ·exact h.dG u
 cases hv:a.tmps.getD t undef with
 | slice ad m cap =>
  rw [hv] at hr
  cases ad with
  | none =>
   cases iK.1 hr with
   | nil=>exact h1 rfl C c1 c2 a w RN (put _ (fun ν=>by rw [hv]; exact gF rfl))
  | some ad=>exact h2 C c1 c2 a w RN (put _ (fun ν=>by rw [hv]; exact .zm (iK.1 hr)))
 | _=>rw [hv] at hr; cases iK.1 hr
theorem G.pg:∀ {c:Code} {ops:Array Oper} {l K:List Item} {st:St},Go.Av.pg c=some (ops,l)→(∀ id,G g (.code (.region id ops false) :: (l++K)) st)→G g (.code c :: K) st
 | .seq x y,ops,l,K,st,h,hg=>by
  simp only [Go.Av.pg] at h
  split at h
  ·rename_i ahI l' hx
   simp only [Option.some.injEq,Prod.mk.injEq] at h
   obtain ⟨rfl,rfl⟩:=h
   exact .seq (G.pg hx (fun id=>by have:=hg id; rwa [List.append_assoc] at this))
  ·cases h
 | .region id ahI false,ops,l,K,st,h,hg=>by
  simp only [Go.Av.pg,Option.some.injEq,Prod.mk.injEq] at h
  obtain ⟨rfl,rfl⟩:=h
  exact hg id
 | .region _ _ true,_,_,_,_,h,_=>by simp [Go.Av.pg] at h
 | .skip,_,_,_,_,h,_=>by simp [Go.Av.pg] at h
 | .cond ..,_,_,_,_,h,_=>by simp [Go.Av.pg] at h
 | .block ..,_,_,_,_,h,_=>by simp [Go.Av.pg] at h
 | .loop ..,_,_,_,_,h,_=>by simp [Go.Av.pg] at h
 | .rangeFunc ..,_,_,_,_,h,_=>by simp [Go.Av.pg] at h
 | .exit ..,_,_,_,_,h,_=>by simp [Go.Av.pg] at h
 | .scope ..,_,_,_,_,h,_=>by simp [Go.Av.pg] at h
 | .label ..,_,_,_,_,h,_=>by simp [Go.Av.pg] at h
 | .goto ..,_,_,_,_,h,_=>by simp [Go.Av.pg] at h
 | .ret,_,_,_,_,h,_=>by simp [Go.Av.pg] at h
 | .refuse ..,_,_,_,_,h,_=>by simp [Go.Av.pg] at h
theorem j1.af1 {C:Cx} {st:St} {a:Act} {w:World} {S:Nat→Prop} {μ:Mu} (cX:∀ ν,cV C st.fB a w S μ ν) {d1 d2:Nat} (LB:d1 < C.nt) (hd2:d2 < C.nt) (x:Value) (b:Bool) (ds:List Nat) (h1:d1∈ds) (h2:d2∈ds) :
  ∀ ν,cV C (St.fB ⟨(d2,.d (.v (.bool b))) :: aM ds st.sl,st.lb⟩) ((a.put (some d1) x).put (some d2) (.bool b)) w S μ ν:=fun ν=>by
 have h:=cX ν
 refine ⟨by simp [Act.put,h.tmps],h.defers,fun u=>?_,h.mem,h.inj,h.own,h.eB,h.fresh,h.bound,h.kept⟩
 simp only [St.fB,St.get,bC]
 by_cases c2:d2=u
 ·subst c2
  simp only [if_true,Act.put]
  rw [gV _ _ _ (by simp [h.tmps]; exact hd2)]
  exact gF rfl
 ·simp only [c2,if_false,mn]
  split
  ·rename_i x hx
   split at hx
   ·cases hx
   ·rename_i hn
    have n1:u≠d1:=fun e=>hn (e ▸ h1)
    have n2:u≠d2:=fun e=>hn (e ▸ h2)
    simp only [Act.put]
    rw [cO _ _ _ _ n2,cO _ _ _ _ n1]
    have:=h.dG u
    simp only [St.fB,St.get,hx] at this
    exact this
  ·exact .any _
theorem G.next (hm:g.P.follows .mixedOrders=true) {K:List Item} {st:St} {id:Nat} {ops:Array Oper} {it d1 d2 κi κ n:Nat} {f:Nat→Value × D} {s:List Nat} (Wi:JE g.md g.pr ops=true) (pK:Wy ops=some (it,d1,d2)) (LB:d1 < g.nt) (hd2:d2 < g.nt)
  (hit:St.get st.sl it=.ptr κi 0) (VQ:look st.lb κi=some (.it κ n s)) (hl:look st.lb κ=some (.mp n f))
  (xc:∀ i,i < n→i ∉ s→G g K (Wz st d1 d2 κi κ n i s)) (acq:(∀ i,i < n→i∈s)→G g K (MJ st d1 d2 it)):G g (.code (.region id ops false) :: K) st:=by
 intro C c1 c2 a w RN hs
 suffices hw:wpOps C.P ops (fun e a' w'=>e=.normal∧((∃ i,i < n∧i ∉ s∧j1 C (Wz st d1 d2 κi κ n i s) a' w')∨((∀ i,i < n→i∈s)∧j1 C (MJ st d1 d2 it) a' w'))) (List.range ops.size) a w by
  rw [c1] at hw
  refine G.ops hm Wi RN (.inl ⟨rfl,hw⟩) (fun a' w' fS xb=>?_)
  rcases xb with ⟨i,hi,hn,xb⟩ | ⟨he,xb⟩
  ·exact xc i hi hn C c1 c2 a' w' fS xb
  ·exact acq he C c1 c2 a' w' fS xb
 obtain ⟨S,μ,cX⟩:=hs
 have h0:=cX fun _=>false
 rw [← c2] at LB hd2
 unfold Wy at pK
 split at pK
 ·rename_i o1 o2 hol
  split at pK
  ·rename_i it' Z7 e1 d2' q1 q2 q3 q4 q5 q6
   rw [Bool.cond_eq_ite] at pK
   split at pK
   ·rename_i heq
    have heq:=Nat.eq_of_beq_eq_true heq
    subst heq
    simp only [Option.some.injEq,Prod.mk.injEq] at pK
    obtain ⟨rfl,rfl,rfl⟩:=pK
    have pK:ops = #[o1,o2]:=by cases ops; simpa using hol
    subst pK
    show wpOps C.P #[o1,o2] _ [0,1] a w
    have w1:∀ y,Region.wanted o1 y=true:=fun y=>by simp [Region.wanted,q3]
    have w2:∀ y,Region.wanted o2 y=true:=fun y=>by simp [Region.wanted,q6]
    have hr:=h0.dG it'
    simp only [St.fB,hit] at hr
    generalize Z3:a.tmps.getD it' undef=iv at hr
    cases hr with
    | @ptr _ _ gi ci hμi =>
     have hmi:=h0.mem κi _ VQ
     rw [hμi] at hmi
     have ahJ:=hmi.at
     obtain ⟨mg,c,hμ,hgi,afz⟩:=ahJ
     have Pb:=h0.mem κ _ hl
     rw [hμ] at Pb
     obtain ⟨cur,hg,sQ,jF,bL⟩:=Pb.at
     have hev:a.eval (.tmp it')=.pointer (some ⟨gi,0,none⟩):=Z3
     have adz:∀ x,x∈cur.toList→x.born < n:=fun x hx=>by
      obtain ⟨q,hq,rfl⟩:=List.getElem_of_mem hx
      have hqn:q < n:=by simpa [jF] using hq
      obtain ⟨e,y1,_,_,y4,_⟩:=bL q hqn
      have:cur.toList[q]=e:=by simpa using (Array.getElem?_eq_some_iff.1 y1).2
      rw [this,y4]; exact hqn
     have ext:∀ (a':Act) (w':World) (b:Bool) (rest:List Value),a'.eval (.tmp Z7)=.tuple (#[.bool b]++rest.toArray)→(execOp a'.eval o2).run C.P w'=.ok (.value (.bool b)) w':=fun a' w' b rest hh=>by
      simp [execOp,q4,hh,Instr.extract]
     have Zh:∀ (x:Value),(a.put (some Z7) x).eval (.tmp Z7)=x:=fun x=>by
      show (a.tmps.setIfInBounds Z7 x).getD Z7 undef=x
      exact gV _ _ _ (by rw [h0.tmps]; exact LB)
     rcases run_next_at (P:=C.P) w o1.type gi mg n n s.reverse.toArray cur n hgi hg adz (Nat.le_refl _) with ⟨hz,e9⟩ | ⟨e,he,wd,hwd,e9⟩
     ·simp only [wpOps,List.getElem?_toArray,List.getElem?_cons_zero,List.getElem?_cons_succ,w1,w2,if_true]
      left
      unfold Oper.wp
      have hx:(execOp a.eval o1).run C.P w=.ok (.value (.tuple #[.bool false])) w:=by
       simp only [execOp,q1,hev,Sem.run_bind,e9,Result.andThen_ok,Sem.run_pure]
      rw [hx,Oper.upon_value,q2]
      left
      rw [ext (a.put (some Z7) (.tuple #[.bool false])) w false [] (by rw [Zh]; rfl),Oper.upon_value,q5]
      refine ⟨trivial,.inr ⟨fun i hi=>?_,⟨S,μ,j1.af1 cX LB hd2 _ false [Z7,d2',it'] (by simp) (by simp)⟩⟩⟩
      have:∀ x,x∈cur.toList→x.born∈s:=fun x hx=>by
       have hz':leftOf cur s.reverse.toArray = #[]:=Array.eq_empty_of_size_eq_zero hz
       unfold leftOf at hz'
       rw [Array.filter_eq_empty_iff] at hz'
       have:=hz' x (by simpa using hx)
       simpa using this
      obtain ⟨e,y1,_,_,y4,_⟩:=bL i hi
      have hm:e∈cur.toList:=by
       have:=(Array.getElem?_eq_some_iff.1 y1)
       obtain ⟨dK,rfl⟩:=this
       simp
      have:=this e hm
      rwa [y4] at this
     ·simp only [wpOps,List.getElem?_toArray,List.getElem?_cons_zero,List.getElem?_cons_succ,w1,w2,if_true]
      left
      unfold Oper.wp
      have hx:(execOp a.eval o1).run C.P w=.ok (.value (.tuple #[.bool true,e.key,e.val])) (ChangeMaps.setBlock wd gi (.mapIter (some mg) n (s.reverse.toArray.push e.born) n)):=by
       simp only [execOp,q1,hev,Sem.run_bind,e9,Result.andThen_ok,Sem.run_pure]
      rw [hx,Oper.upon_value,q2]
      left
      rw [ext (a.put (some Z7) (.tuple #[.bool true,e.key,e.val])) _ true [e.key,e.val] (by rw [Zh]; rfl),Oper.upon_value,q5]
      have j0:e∈cur.toList∧e.born ∉ s:=by
       unfold leftOf at he
       simpa using he
      refine ⟨trivial,.inl ⟨e.born,adz e j0.1,j0.2,?_⟩⟩
      have ahK:Kept w wd (fun _=>False):=by
       rcases hwd with rfl | rfl
       ·exact Kept.refl _ _
       ·exact ⟨rfl,rfl,rfl,Nat.le_refl _,fun _ _ _=>rfl⟩
      have ahL:wd.heap[gi]? = some (.mapIter (some mg) n s.reverse.toArray n):=by rcases hwd with rfl | rfl <;> exact hgi
      have aaK:∀ ν,cV C st.fB a wd S μ ν:=fun ν=>(cX ν).world (fun _ x=>x) (fun _ x=>.inl x) ahK
      have ahM:ChangeMaps.setBlock wd gi (.mapIter (some mg) n (s.reverse.toArray.push e.born) n)=World.CX wd gi (.mapIter (some mg) n (s.reverse.toArray.push e.born) n):=rfl
      rw [ahM]
      have Ue:∀ ν,cV C (st.fB.set κi (some (.it κ n (e.born :: s)))) a (World.CX wd gi (.mapIter (some mg) n (s.reverse.toArray.push e.born) n)) S μ ν:=fun ν=>(aaK ν).RC (b:=.it κ n s) VQ hμi (tJ gi _) ⟨mg,c,hμ,by rw [Lt _ ahL]; simp,afz⟩
      have jK:(St.fB ⟨st.sl,(κi,.it κ n (e.born :: s)) :: aM [κi] st.lb⟩)=st.fB.set κi (some (.it κ n (e.born :: s))):=by
       unfold St.fB M.set
       congr 1
       funext q
       rw [bC,mn]
       by_cases hq:κi=q
       ·subst hq; simp
       ·have:q ∉ [κi]:=by simp; exact fun e=>hq e.symm
        have Rw:¬ q=κi:=fun e=>hq e.symm
        simp [hq,Rw]
      exact ⟨S,μ,j1.af1 (st:=⟨st.sl,(κi,.it κ n (e.born :: s)) :: aM [κi] st.lb⟩) (fun ν=>by rw [jK]; exact Ue ν) LB hd2 _ true [Z7,d2'] (by simp) (by simp)⟩
   ·cases pK
  ·cases pK
 ·cases pK
theorem X7 (hT:nz g.P g.T) (hm:g.P.follows .mixedOrders=true) {rm:Nat}:∀ (n:Nat) {todo k:List Item} {st st':St} {c:CT},aaY g.P g.T g.nt rm g.md g.pr n todo st=some (k,st',c)→c.ok→G g k st'→G g todo st
 | 0,_,_,_,_,_,h,_,_=>by cases h
 | n+1,todo,k,st,st',c,h,hc,hg=>by
  unfold aaY at h
  split at h
  ·simp only [Option.some.injEq,Prod.mk.injEq] at h
   obtain ⟨rfl,rfl,rfl⟩:=h
   exact hg
  ·split at h
   ·rename_i k1 nY c1 hs
    split at h
    ·rename_i k2 st2 c2 hr
     simp only [Option.some.injEq,Prod.mk.injEq] at h
     obtain ⟨rfl,rfl,rfl⟩:=h
     exact fx hT hm hs hc.1 (X7 hT hm n hr hc.2 hg)
    ·cases h
   ·cases h
theorem Bz:∀ (n:Nat) {g:Goal} (hT:nz g.P g.T) (hm:g.P.follows .mixedOrders=true) (hf:g.P.funcs[g.f]? = some g.fn) (hz:g.md=0→g.Nrm∧∀ {C C' b cs m},Reb C C'→g.Z C' b cs m→g.Z C b cs m) (rm:Nat) {α:Type} (todo:List Item) (st:St) (L:α→aaX) (sk:Sk α) (lp:α→Prop),
  (pE g.P g.T g.nt g.fn.results.toList rm g.md g.pr n todo st L sk).ok→sk.a6 lp→(∀ a,a=sk.val→lp a→WA g (L a))→G g todo st
 | 0,_,_,_,_,_,_,_,todo,st,L,sk,lp,h,_,_=>h.elim
 | n+1,g,hT,hm,hf,hz,rm,α,todo,st,L,sk,lp,h,ho,hL=>by
  have ih:=fun {α:Type}=>Bz n hT hm hf hz rm (α:=α)
  unfold pE at h
  split at h
  ·-- op
   rename_i κ k
   split at h
   ·rename_i hl
    exact G.op hl fun m _=>ih _ _ L (k m) lp (h m) (ho m).2 (fun a ha=>hL a (ha.trans (ho m).1))
   ·exact h.elim
  ·-- oq
   rename_i κ q k
   split at h
   ·rename_i q' hl
    obtain ⟨h0,h⟩:=h
    have h0:q'=q:=h0
    subst h0
    exact G.op hl fun m hm=>ih _ _ L (k m) lp (h m) (ho m hm).2 (fun a ha=>hL a (ha.trans (ho m hm).1))
   ·exact h.elim
  ·-- cq
   rename_i κ m q' k
   split at h
   ·rename_i q f hl
    obtain ⟨h1,h2,h3⟩:=h
    exact G.cl hl h1 h2 ho.1 (ih _ _ L k lp h3 ho.2 hL)
   ·exact h.elim
  ·-- cl
   rename_i κ m k
   split at h
   ·rename_i q f hl
    obtain ⟨h1,h2,h3⟩:=h
    exact G.cl hl h1 h2 (q:=mxT) trivial (ih _ _ L k lp h3 ho hL)
   ·exact h.elim
  ·-- Qz
   rename_i id x c k
   split at h
   ·rename_i i ops K
    rw [Bool.cond_eq_ite] at h
    split at h
    ·split at h
     ·rename_i ts ti ty d1 d2 d3 nG
      split at h
      ·rename_i κ m xx e' _ _ _ _ hts hti RQ
       split at h
       ·rename_i e q m2 f ii hl he
        obtain ⟨h0,h1,h2,h3,h4,h5⟩:=h
        have h0:(Nat.ble (d1+1) g.nt&&Nat.ble (d2+1) g.nt&&Nat.ble (d3+1) g.nt&&JE g.md g.pr ops&&Nat.beq e e'&&Nat.beq q ii.size&&ii.zero.all zD&&!Nat.beq ts d1&&!Nat.beq ts d2&&!Nat.beq ts d3)=true:=h0
        simp only [Bool.and_eq_true,Bool.not_eq_true'] at h0
        obtain ⟨⟨⟨⟨⟨⟨⟨⟨⟨b1,b2⟩,b3⟩,b4⟩,b5⟩,b6⟩,b7⟩,b8⟩,b9⟩,Up⟩:=h0
        have h1:xx=x:=h1
        have h2:m=m2:=h2
        have h3:m=c.n:=h3
        have h4:wm xx.toNat f ii.zero=c.f:=h4
        have b5:=Nat.eq_of_beq_eq_true b5
        have b6:=Nat.eq_of_beq_eq_true b6
        subst h1; subst h2; subst b5
        obtain ⟨⟨o1,o2⟩,o3⟩:=ho
        have ne:∀ d,Nat.beq ts d=false→¬ ts=d:=fun d hd e=>by rw [e,Nat.beq_refl] at hd; cases hd
        refine G.Qz hT hm b4 nG (Nat.le_of_ble_eq_true b1) (Nat.le_of_ble_eq_true b2) (Nat.le_of_ble_eq_true b3) hts hti hl RQ rfl he b6 b7 o1 (by rw [h3]; exact o2) (.le ?_ (.keep _ (ih _ _ L k lp h5 o3 hL)))
        have hcn:m=c.n':=h3.trans c.eq.1
        rintro C a w ⟨S,μ,cX⟩
        refine ⟨S,μ,fun ν=>(cX ν).weaken (fun t v hv=>?_) (fun κ' b' mP=>?_)⟩
        ·simp only [St.fB,St.get,bC,mn] at hv ⊢
         by_cases ht:ts=t
         ·subst ht
          simp only [if_true]
          rw [if_neg (by simp only [List.mem_cons,List.not_mem_nil,or_false,not_or]; exact ⟨ne _ b8,ne _ b9,ne _ Up⟩)] at hv
          simp only [St.get] at hts
          rw [hts,hcn] at hv
          exact hv
         ·have e1:(t∈[ts,d1,d2,d3])↔(t∈[d1,d2,d3]):=by
           rw [List.mem_cons]
           exact ⟨fun h=>h.elim (fun e=>absurd e.symm ht) (fun h=>h),.inr⟩
          simp only [ht,if_false,e1]
          exact hv
        ·simp only [St.fB,bC,mn] at mP ⊢
         by_cases hk:κ=κ'
         ·simp only [hk,if_true,Option.some.injEq] at mP ⊢
          subst mP
          refine ⟨_,rfl,fun y hy=>?_⟩
          rw [h4] at hy
          exact aay hcn (fun i hi=>c.eq.2 i (by rw [← h3]; exact hi)) y hy
         ·simp only [hk,if_false] at mP ⊢
          exact ⟨b',mP,fun _ h=>h⟩
       ·exact h.elim
      ·exact h.elim
     ·exact h.elim
    ·split at h
     ·rename_i k0 nY c0 hs
      exact fx hT hm hs h.1 (ih _ _ L (.Qz id x c k) lp h.2 ho hL)
     ·exact h.elim
   ·split at h
    ·rename_i k0 nY c0 hs
     exact fx hT hm hs h.1 (ih _ _ L (.Qz id x c k) lp h.2 ho hL)
    ·exact h.elim
  ·-- wi
   rename_i t a b k
   obtain ⟨h1,h2⟩:=h
   obtain ⟨o1,o2⟩:=ho
   refine .le (OX.put t h1 (y:=.d (.v (.int .i64 b))) ?_) (ih _ _ L k lp h2 o2 hL)
   subst o1
   exact lL.rfl'
  ·-- Eo
   rename_i t j m k
   split at h
   ·rename_i q hq
    obtain ⟨h1,h2⟩:=h
    have h1:q=m:=h1
    subst h1
    exact G.Ul hq fun hb=>ih _ _ L k lp h2 (ho hb) hL
   ·exact h.elim
  ·-- wn
   rename_i κ a b k
   obtain ⟨h1,h2,h3⟩:=h
   obtain ⟨o1,o2⟩:=ho
   subst o1
   rw [X1 h1,Bx h2] at h3
   exact ih _ _ L k lp h3 o2 hL
  ·exact (ho:False).elim
  ·-- Uk
   rename_i t m k1 k2
   split at h
   ·rename_i q f hq
    obtain ⟨h1,h2,h3⟩:=h
    have h1:q=m:=h1
    subst h1
    refine G.Uk hq (fun h0=>?_) (ih _ _ L k2 lp h3 ho.2 hL)
    exact ih _ _ L k1 lp h2 (ho.1 h0).1 (fun a ha=>hL a (by rw [ha,(ho.1 h0).2]; rfl))
   ·exact h.elim
  ·-- fz
   rename_i κ k
   split at h
   ·rename_i e0 k0 q f hq
    exact .le (OX.fz hq h.1 h.2.1) (ih _ _ L k lp h.2.2 ho hL)
   ·exact h.elim
  ·-- mr
   rename_i γ m V init u v b k
   split at h
   ·rename_i c K
    split at h
    ·rename_i ops l hh
     split at h
     ·rename_i it d1 d2 hn
      rw [Bool.cond_eq_ite] at h
      split at h
      ·rename_i hb
       simp only [Bool.and_eq_true] at hb
       have LB:=Nat.le_of_ble_eq_true hb.1.1
       have hd2:=Nat.le_of_ble_eq_true hb.1.2
       obtain ⟨h1,h2,h3⟩:=h
       obtain ⟨oi,ob,oc,o3⟩:=ho
       have hV:∀ g i,V g→i < m→V ((b g i).val):=fun g i hg hi=>(b g i).cI (ob g i hg hi).1
       have o1:∀ s:List Nat,s.Perm (List.range m)→s.foldr (fun i g=>(b g i).val) init=(List.range m).foldr (fun i g=>(b g i).val) init:=fun s hs=>Wv (f:=fun g i=>(b g i).val) hV oc oi hs (fun i hi=>List.mem_range.1 (hs.mem_iff.1 hi))
       have o2:∀ (s:List Nat) (i:Nat),(∀ j,j∈s→j < m)→i < m→(b (s.foldr (fun i g=>(b g i).val) init) i).a6 fun _=>True:=fun s i hs hi=>(ob _ i (xm (f:=fun g i=>(b g i).val) hV oi s hs) hi).2
       have key:∀ (q:Nat) (s:List Nat),s.Nodup→(∀ j,j∈s→j < m)→m - s.length < q→G g (.code c :: .inLoop c :: K) (st.Em (Nat.lor rm (ld (.inLoop c :: K))) (u (s.foldr (fun i g=>(b g i).val) init) s)):=by
        intro q
        induction q with
        | zero=>intro s _ _ dK; omega
        | succ q ihq =>
         intro s hnd dK hq
         have h2:=h2 (s.foldr (fun i g=>(b g i).val) init) s
         dsimp only at h2
         split at h2
         ·rename_i κi hit
          split at h2
          ·rename_i κ m1 s1 VQ
           split at h2
           ·rename_i m2 f hl
            obtain ⟨e1,e2,e3,e4,e5⟩:=h2
            have e1:m1=m:=e1
            have e2:m2=m:=e2
            have e3:s1=s:=e3
            subst e1; subst e2; subst e3
            refine G.pg hh (fun id=>G.next hm hb.2 hn LB hd2 hit VQ hl (fun i hi hni=>?_) (fun mf=>?_))
            ·refine ih _ _ _ (b _ i) _ (e5 i) (o2 s1 i dK hi) (fun g' hg' _=>?_)
             subst hg'
             refine .inLoop (ihq (i :: s1) (List.nodup_cons.2 ⟨hni,hnd⟩) (fun j hj=>?_) ?_)
             ·rcases List.mem_cons.1 hj with rfl | hj
              ·exact hi
              ·exact dK j hj
             ·have hle:(i :: s1).length≤m2:=by
               have:=List.Nodup.length_le_of_subset (l₁:=i :: s1) (l₂:=List.range m2) (List.nodup_cons.2 ⟨hni,hnd⟩) (fun j hj=>by
                rcases List.mem_cons.1 hj with rfl | hj
                ·exact List.mem_range.2 hi
                ·exact List.mem_range.2 (dK j hj))
               simpa using this
              simp only [List.length_cons] at hle ⊢
              omega
            ·have hp:s1.Perm (List.range m2):=(List.perm_ext_iff_of_nodup hnd List.nodup_range).2 (fun j=>⟨fun hj=>List.mem_range.2 (dK j hj),fun hj=>mf j (List.mem_range.1 hj)⟩)
             refine .le (vD e4) ?_
             rw [o1 s1 hp]
             exact ih _ _ L (k _) lp (h3 _) (o3 _ rfl (xm (f:=fun g i=>(b g i).val) hV oi _ (fun i hi=>List.mem_range.1 hi))) hL
           ·exact h2.elim
          ·exact h2.elim
         ·exact h2.elim
       intro C c1 c2 a w RN hs
       exact (key (m+1) [] List.nodup_nil (fun j hj=>by cases hj) (by simp) C c1 c2 a w RN (vD h1 C a w hs)).step fun _ _=>.one stepR_loop
      ·exact h.elim
     ·exact h.elim
    ·exact h.elim
   ·split at h
    ·rename_i k0 nY c hs
     exact fx hT hm hs h.1 (ih _ _ L (.mr m V init u v b k) lp h.2 ho hL)
    ·exact h.elim
  ·-- JG
   rename_i x
   split at h
   ·exact .cond h.1 (fun _=>ih _ _ L x lp h.2 ho hL) (fun he=>by cases he)
   ·split at h
    ·rename_i k nY c hs
     exact fx hT hm hs h.1 (ih _ _ L (.JG x) lp h.2 ho hL)
    ·exact h.elim
  ·-- JH
   rename_i x
   split at h
   ·exact .cond h.1 (fun he=>by cases he) (fun _=>ih _ _ L x lp h.2 ho hL)
   ·split at h
    ·rename_i k nY c hs
     exact fx hT hm hs h.1 (ih _ _ L (.JH x) lp h.2 ho hL)
    ·exact h.elim
  ·-- Uj
   rename_i t c x y k1 k2
   obtain ⟨h1,h2,h3⟩:=h
   have h1:St.get st.sl t=acE c x y:=h1
   rw [acF] at h1
   cases c with
   | true=>exact .le (OX.put t h1 lL.rfl') (ih _ _ L k1 lp h2 (ho.1 rfl) hL)
   | false=>exact .le (OX.put t h1 lL.rfl') (ih _ _ L k2 lp h3 (ho.2 rfl) hL)
  ·-- fin
   rename_i a
   have Pg:=hL a rfl ho
   split at h
   ·rename_i Mt st' hl
    rw [hl] at Pg
    rw [Bool.cond_eq_ite] at h
    split at h
    ·obtain ⟨h1,h2⟩:=h
     have h1:todo=Mt:=h1
     subst h1
     exact .le (vD h2) Pg
    ·split at h
     ·rename_i k nY c hs
      exact fx hT hm hs h.1 (ih _ _ L (.fin a) lp h.2 ho hL)
     ·exact h.elim
   ·rename_i id st' hl
    rw [hl] at Pg
    split at h
    ·rename_i id' k
     rw [Bool.cond_eq_ite] at h
     split at h
     ·rename_i hb
      simp only [Bool.and_eq_true,Option.isNone_iff_eq_none] at hb
      obtain rfl:=Nat.eq_of_beq_eq_true hb.1
      exact .le (vD h) (Pg k hb.2)
     ·split at h
      ·rename_i k nY c hs
       exact fx hT hm hs h.1 (ih _ _ L (.fin a) lp h.2 ho hL)
      ·exact h.elim
    ·split at h
     ·rename_i k nY c hs
      exact fx hT hm hs h.1 (ih _ _ L (.fin a) lp h.2 ho hL)
     ·exact h.elim
   ·rename_i x cR hl
    rw [hl] at Pg
    split at h
    ·exact (X6 Pg.1 hT hf h Pg.2.1 Pg.2.2).1
    ·exact (X6 Pg.1 hT hf h Pg.2.1 Pg.2.2).2 _
    ·split at h
     ·rename_i k nY c hs
      exact fx hT hm hs h.1 (ih _ _ L (.fin a) lp h.2 ho hL)
     ·exact h.elim
   ·rename_i x cR mQ hl
    rw [hl] at Pg
    split at h
    ·exact (Un Pg.1 hT hf h Pg.2.1 Pg.2.2).1
    ·exact (Un Pg.1 hT hf h Pg.2.1 Pg.2.2).2 _
    ·split at h
     ·rename_i k nY c hs
      exact fx hT hm hs h.1 (ih _ _ L (.fin a) lp h.2 ho hL)
     ·exact h.elim
  ·-- br
   rename_i e x y
   split at h
   ·rename_i c p q k
    obtain ⟨h1,h2,h3⟩:=h
    refine .cond h1 (fun he=>?_) (fun he=>?_)
    ·exact ih _ _ L x lp h2 (ho.1 he) (fun a ha=>hL a (by rw [ha]; simp [Sk.val,he]))
    ·exact ih _ _ L y lp h3 (ho.2 he) (fun a ha=>hL a (by rw [ha]; simp [Sk.val,he]))
   ·split at h
    ·rename_i k nY c hs
     exact fx hT hm hs h.1 (ih _ _ L (.br e x y) lp h.2 ho hL)
    ·exact h.elim
  ·-- r
   rename_i β id cl kk
   split at h
   ·rename_i i ops draw k
    rw [Bool.cond_eq_ite] at h
    split at h
    ·have h:=h cl.v
     dsimp only at h
     split at h
     ·rename_i st' ob hr
      obtain ⟨h0,h1,h2,h3⟩:=h
      have h2:ob.prop=cl.jL cl.v:=h2
      exact .region hT hm h0 hr (Ob.GX h1 (fun p hp=>cl.pf ho.1 p (h2 ▸ hp))) (.keep _ (ih _ _ L (kk cl.v) lp h3 (ho.2 _ rfl cl.hp) hL))
     ·exact h.elim
    ·split at h
     ·rename_i k nY c hs
      exact fx hT hm hs h.1 (ih _ _ L (.r id cl kk) lp h.2 ho hL)
     ·exact h.elim
   ·split at h
    ·rename_i k nY c hs
     exact fx hT hm hs h.1 (ih _ _ L (.r id cl kk) lp h.2 ho hL)
    ·exact h.elim
  ·-- bind at a block
   rename_i β J s u kk
   split at h
   ·rename_i id c k
    obtain ⟨h1,h2⟩:=h
    refine .block (ih _ _ _ s _ h1 ho.1 (fun q hq hlq=>?_))
    cases q with
    | inl a=>exact hL a (by simp only [Sk.val,← hq,j2]) hlq
    | inr b=>exact ih _ _ L (kk b) lp (h2 b) (ho.2 b hq.symm hlq) (fun a ha=>hL a (by rw [ha]; simp only [Sk.val,← hq,j2]))
   ·split at h
    ·rename_i k nY c hs
     exact fx hT hm hs h.1 (ih _ _ L (.bind true J s u kk) lp h.2 ho hL)
    ·exact h.elim
  ·-- bind at a choice
   rename_i β J s u kk
   split at h
   ·rename_i c p q k
    obtain ⟨h1,h2⟩:=h
    refine ih _ _ _ s _ h1 ho.1 (fun q hq hlq=>?_)
    cases q with
    | inl a=>exact hL a (by simp only [Sk.val,← hq,j2]) hlq
    | inr b=>exact ih _ _ L (kk b) lp (h2 b) (ho.2 b hq.symm hlq) (fun a ha=>hL a (by rw [ha]; simp only [Sk.val,← hq,j2]))
   ·split at h
    ·rename_i k nY c hs
     exact fx hT hm hs h.1 (ih _ _ L (.bind false J s u kk) lp h.2 ho hL)
    ·exact h.elim
  ·-- loop
   rename_i ι d I m i0 u b
   split at h
   ·rename_i c k
    obtain ⟨h1,h2⟩:=h
    obtain ⟨o1,o2⟩:=ho
    have key:∀ (q:Nat) (i:ι),I i→m i < q→(∀ a,a=iter (fun i=>(b i).val) d q i→lp a→WA g (L a))→G g (.code c :: .inLoop c :: k) (st.Em (Nat.lor rm (ld (.inLoop c :: k))) (u i)):=by
     intro q
     induction q with
     | zero=>intro i _ dK; omega
     | succ q ihq =>
      intro i hi dK Pg
      refine ih _ _ _ (b i) _ (h2 i) (o2 i hi) (fun r hr hlr=>?_)
      cases r with
      | inl a=>exact Pg a (by simp only [iter,← hr]) hlr
      | inr j=>exact .inLoop (ihq j hlr.1 (by have:=hlr.2; omega) (fun a ha=>Pg a (by rw [ha]; simp only [iter,← hr])))
    intro C c1 c2 a w RN hs
    exact (key (m i0+1) i0 o1 (Nat.lt_succ_self _) hL C c1 c2 a w RN (vD h1 C a w hs)).step fun _ _=>.one stepR_loop
   ·split at h
    ·rename_i k nY c hs
     exact fx hT hm hs h.1 (ih _ _ L (.loop d I m i0 u b) lp h.2 ho hL)
    ·exact h.elim
  ·-- rf
   rename_i σ β Y it I B id s0 u v b kk
   split at h
   ·rename_i t ps Ly body k
    obtain ⟨h1,h2,h3,h4,h5,h6,h7,h8,h9,h10⟩:=h
    obtain ⟨o1,o2,o3,o4⟩:=ho
    have hpr:g.md=0:=Nat.eq_of_beq_eq_true h1
    obtain ⟨hn,ahN⟩:=hz hpr
    have h4:some (Zf g.P it.gf it.cy (it.ys.map it.enc))=some (Zf it.P it.gf it.cy (it.ys.map it.enc)):=h4
    have hit:Zf g.P it.gf it.cy (it.ys.map it.enc):=by rw [Option.some.inj h4]; exact it.pf o1
    have adA:=fun i s y hs hy=>(b s y).cI (o3 i s y hs hy).1
    generalize hmm:Ta rm (Item.code (.rangeFunc (.tmp t) ps Ly body) :: k)=mm at *
    refine G.rf hn ahN it.ys it.enc (fun s y=>(b s y).val) s0 I (sS mm (aM [] st.sl)) (fun s=>st.Em mm ⟨[],u s⟩) (fun a=>st.Em mm ⟨[],v a⟩) id
     (fun s y=>aaZ g.P g.T g.nt mm 1 ((sS mm (aM [] st.sl)).map (·.1)) n [.code Ly,.beginRound,.code body] ⟨zq ps.toList (it.enc y)++sS mm (aM [] st.sl),(st.Em mm ⟨[],u s⟩).lb⟩)
     (fun _=>rfl) (fun _=>rfl) (vD h6) h2 h3 hit h5 (fun y _=>h7 y) o2 (fun i s y hs hy=>?_) (fun s y tm Z zs hy hg=>?_) (fun i s y tm Z zs hs hy hg=>?_) ?_
    ·have:=adA i s y hs hy
     show match (b s y).val with | .inl _=>True | .inr s'=>I (i+1) s'
     cases e:(b s y).val with
     | inl a=>trivial
     | inr s'=>rw [e] at this; exact this
    ·have h8:=(h8 s y).1
     unfold af0 at h8
     unfold aaZ at hg
     split at h8
     ·rename_i k' st2 c ha
      rw [ha] at hg
      have hk:k'=[.beginRound,.code body]:=h8.2
      subst hk
      exact X7 (g:=g.round _ tm Z zs) hT hm n ha h8.1 hg
     ·exact h8.elim
    ·have h8:=(h8 s y).2
     refine Bz n (g:=g.round _ tm Z zs) hT hm hf (fun e=>by cases e) mm _ _ _ (b s y) (gW B (I (i+1))) h8 (o3 i s y hs hy).2 (fun q hq hlq=>?_)
     have hg:(match (b s y).val with | .inr s'=>G (g.round _ tm Z zs) [] (st.Em mm ⟨[],u s'⟩) | .inl b=>∀ k',exitTo id k'=none→G (g.round _ tm Z zs) (.code (.exit id) :: k') (st.Em mm ⟨[],v b⟩)):=hg
     cases q with
     | inl a=>rw [← hq] at hg; exact hg
     | inr j=>rw [← hq] at hg; exact hg
    ·have hr:=o4 _ rfl (QD it.ys adA s0 o2)
     cases e:pJ (fun s y=>(b s y).val) it.ys s0 with
     | inr s =>
      rw [e] at hr
      exact ih _ _ L (kk (.inr s)) lp (h9 s) hr (fun a ha=>hL a (by rw [ha]; simp only [Sk.val,e]))
     | inl a =>
      rw [e] at hr
      exact ih _ _ L (kk (.inl a)) lp (h10 a) hr (fun a' ha=>hL a' (by rw [ha]; simp only [Sk.val,e]))
   ·split at h
    ·rename_i k nY c hs
     exact fx hT hm hs h.1 (ih _ _ L (.rf it I B id s0 u v b kk) lp h.2 ho hL)
    ·exact h.elim
end
theorem eC.sk {P:Program} {T:List (Nat × TI)} (hT:nz P T) (hm:P.follows .mixedOrders=true) {f:FuncId} {fn:Func} {body:Code} {args:List AV} {cR:List (Nat × bw)} {α:Type} (enc:α→AV) (BZ:α→List (Nat × bw)) (hf:P.funcs[f]? = some fn) (hb:fn.body=some body)
  (hc:(fq P f&&Nat.ble args.length fn.ntmps)=true) (n:Nat) (sk:Sk α) (h:pE P T fn.ntmps fn.results.toList (EM fn.results.toList) 0 [] n [.code body] ⟨dW 0 args,cR⟩ (fun a=>.ret (enc a) (BZ a)) sk=(pE P T fn.ntmps fn.results.toList (EM fn.results.toList) 0 [] n [.code body] ⟨dW 0 args,cR⟩ (fun a=>.ret (enc a) (BZ a)) sk).diag)
  (ho:sk.a6 fun _=>True):eC P f args cR (enc sk.val) (BZ sk.val):=by
 simp only [Bool.and_eq_true] at hc
 refine eC.intro (T:=T) hf hb hc.1 (Nat.le_of_ble_eq_true hc.2) ?_
 exact Bz n (g:=.of P T fn.ntmps f fn (enc sk.val) (BZ sk.val)) hT hm hf (fun _=>⟨Goal.aaG,fun {_ _ b _ _} hr hz=>ZN.reb (b:=b) hr hz⟩) _ _ _ _ sk _ (CT.Ak h) ho (fun a ha _=>by subst ha; exact ⟨Goal.aaG,rfl,rfl⟩)
end Go.Av
