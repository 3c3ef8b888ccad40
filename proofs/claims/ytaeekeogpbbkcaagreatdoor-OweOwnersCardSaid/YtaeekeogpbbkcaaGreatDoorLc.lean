/- Regions: one evaluation for every order. -/
import Derived.Test.YtaeekeogpbbkcaaGreatDoorLb
import Derived.OrdersIn
import Derived.RangeFuncCalls
import Derived.RangeFuncLeaves
import Derived.RangeFuncRecord
import Derived.RangeFuncKeeps
import Derived.Lib.SliceRun
import Derived.ProofKit
import Derived.Maps.RangeRun
set_option linter.unusedSimpArgs false
set_option linter.unusedVariables false
set_option linter.unusedSectionVars false
set_option maxHeartbeats 1000000
namespace Go.Av
open Go
variable [Ea]
def ku (C:Cx) (st:St) (a:Act) (w:World):Prop:=∃ S μ,∀ ν,dA C st.gb a w S μ ν
section
variable {C : Cx} {a : Act} {w : World} {S : Nat → Prop} {μ : Mu} {ν : Nat → Bool}
theorem IJ {T:List (Nat × TI)} (hT:og C.P T) {ops:Array Oper}:∀ {l:List Oper} {st st':St} {gl Tz:List (Nat × Bool)} {j8 uF:List Df} {wH:List Tr} {ob:Ob},
  TA C.P T C.nt ops l st gl j8=some (wH,st',Tz,uF,ob)→ob.den→(∀ s e,look Tz s=some e→ν s=e) →
  wH.length=l.length∧(∀ (i:Nat) (τ:Tr) (o:Oper),wH[i]? = some τ→l[i]? = some o→Kl C ν ops o τ∧∀ p,p∈τ.gs→ν p.1=p.2)∧YT wH st.gb st'.gb∧∀ t x,look gl t=some x→look Tz t=some x
 | [],st,st',gl,Tz,j8,uF,wH,ob,h,_,_=>by
  simp only [TA,Option.some.injEq,Prod.mk.injEq] at h
  obtain ⟨rfl,rfl,rfl,-,-⟩:=h
  exact ⟨rfl,fun i τ o h=>by simp at h,rfl,fun _ _ h=>h⟩
 | o :: r,st,st',gl,Tz,j8,uF,wH,ob,h,cm,hν=>by
  simp only [TA] at h
  split at h
  ·rename_i τ gl1 Nz DJ yH
   split at h
   ·rename_i l1 pa gl2 Wf Jj yG
    simp only [Option.some.injEq,Prod.mk.injEq] at h
    obtain ⟨rfl,rfl,rfl,rfl,rfl⟩:=h
    obtain ⟨i1,i2,i3,i4⟩:=IJ hT yG (Ob.db cm).2 hν
    obtain ⟨s1,s2,s3,s4⟩:=QU hT yH (Ob.db cm).1 (fun s e hl=>hν s e (i4 s e hl))
    refine ⟨by simp [i1],fun i τ' o' h1 h2=>?_,⟨s3,by rw [← St.Zk]; exact i3⟩,fun t x hx=>i4 t x (s4 t x hx)⟩
    cases i with
    | zero =>
     simp only [List.getElem?_cons_zero,Option.some.injEq] at h1 h2
     subst h1; subst h2
     exact ⟨s1,s2⟩
    | succ i=>exact i2 i τ' o' (by simpa using h1) (by simpa using h2)
   ·cases h
  ·cases h
theorem TH {st:St} {κ:Nat} (h:QT st κ=true):km st.gb κ:=by
 simp only [QT,Bool.and_eq_true,List.all_eq_true,Bool.not_eq_true'] at h
 obtain ⟨h1,h2⟩:=h
 have adA:∀ l:List Nat,(l.any fun k=>Nat.beq k κ)=false→κ ∉ l:=fun l hl hc=>by
  have:(l.any fun k=>Nat.beq k κ)=true:=List.any_eq_true.2 ⟨κ,hc,Nat.beq_refl κ⟩
  rw [this] at hl
  cases hl
 refine ⟨fun t=>?_,?_,fun κ' b hb=>?_⟩
 ·simp only [St.gb,St.get]
  cases hl:look st.sl t with
  | none=>simp [AV.keys]
  | some x=>exact adA _ (h1 (t,x) (jt hl))
 ·simp only [St.gb]
  cases hl:look st.lb κ with
  | none=>rfl
  | some b =>
   have:=(h2 (κ,b) (jt hl)).1
   rw [Nat.beq_refl] at this
   cases this
 ·exact adA _ (h2 (κ',b) (jt hb)).2
theorem Ez {keep:Option (List Nat)}:∀ {sl:List (Nat × AV)} {t:Nat} {x:AV},vf sl=true→look (Bc keep sl) t=some x→look sl t=some x∧wJ x=true
 | [],t,x,_,h=>by simp [Bc,look] at h
 | (k,y) :: r,t,x,hd,h=>by
  simp only [vf,Bool.and_eq_true,List.all_eq_true,Bool.not_eq_true'] at hd
  simp only [Bc] at h
  rw [Bool.cond_eq_ite] at h
  by_cases hb:(wJ y&&adz keep k)=true
  ·rw [if_pos hb] at h
   simp only [cw] at h
   simp only [Bool.and_eq_true] at hb
   rw [cw]
   split
   ·rename_i e
    simp only [e,if_true,Option.some.injEq] at h
    subst h
    exact ⟨rfl,hb.1⟩
   ·rename_i e
    simp only [e,if_false] at h
    exact Ez hd.2 h
  ·rw [if_neg hb] at h
   obtain ⟨h1,h2⟩:=Ez hd.2 h
   refine ⟨?_,h2⟩
   rw [cw]
   split
   ·rename_i e
    subst e
    have:=hd.1 (k,x) (jt h1)
    rw [Nat.beq_refl] at this
    cases this
   ·exact h1
theorem dA.Bc {st:St} {keep:Option (List Nat)} (h:dA C st.gb a w S μ ν) (hd:vf st.sl=true) (ν':Nat→Bool):dA C (St.gb ⟨Bc keep st.sl,st.lb⟩) a w S μ ν':=by
 refine ⟨h.tmps,h.defers,fun t=>?_,h.mem,h.inj,h.own,h.fA,h.fresh,h.bound,h.kept⟩
 simp only [St.gb,St.get]
 cases hl:look (Go.Av.Bc keep st.sl) t with
 | none=>exact .any _
 | some x =>
  obtain ⟨h1,h2⟩:=Ez hd hl
  have:=h.eJ t
  simp only [St.gb,St.get,h1] at this
  exact this.nu h2
def TJ (ops:Array Oper) (K:Array Value→Prop):Prop:=∀ (i:Nat) (o:Oper) (a:Act) (v:Value),ops[i]? = some o→K a.tmps→K (a.put o.dst v).tmps
theorem TL {P:Program} {o:Oper} {a:Act} {w:World} {next:Act→World→Prop} {Q:Exit→Act→World→Prop} {K:Array Value→Prop} (hK:∀ (a:Act) (v:Value),K a.tmps→K (a.put o.dst v).tmps) (hq:∀ e a w,Q e a w→e=.normal) (ha:K a.tmps)
  (h:o.wp P a w next Q):o.wp P a w (fun a' w'=>next a' w'∧K a'.tmps) (fun e a' w'=>Q e a' w'∧K a'.tmps):=by
 unfold Oper.wp at *
 generalize (execOp a.eval o).run P w=r at *
 have no:¬ LetsOut Q:=fun ⟨_,_,q⟩=>by cases hq _ _ _ q
 cases r with
 | ok n w' =>
  cases n <;> simp only [Oper.upon] at h ⊢ <;>
   first
    | exact ⟨h,hK _ _ ha⟩
    | exact ⟨h,hK { a with defers:=_ :: a.defers } _ ha⟩
    | exact Calls.mono h (fun e w'' he=>by cases e <;> first | exact ⟨he,hK _ _ ha⟩ | exact absurd (hq _ _ _ he) (by simp) | exact absurd he no)
    | exact Rows.mono h (fun _ _ he=>⟨he,hK _ _ ha⟩)
 | halt x w'=>cases x <;> simp only [Oper.upon] at h ⊢ <;> first | exact h.elim | exact absurd (hq _ _ _ h) (by simp)
theorem vg {P:Program} {ops:Array Oper} {Q:Exit→Act→World→Prop} {K:Array Value→Prop} (hK:TJ ops K) (hq:∀ e a w,Q e a w→e=.normal):∀ (is:List Nat) (a:Act) (w:World),K a.tmps→wpOps P ops Q is a w→wpOps P ops (fun e a' w'=>Q e a' w'∧K a'.tmps) is a w
 | [],a,w,ha,h=>⟨h,ha⟩
 | i :: is,a,w,ha,h=>by
  simp only [wpOps] at h ⊢
  cases ho:ops[i]? with
  | none=>rw [ho] at h; exact vg hK hq is a w ha h
  | some o =>
   rw [ho] at h
   simp only at h ⊢
   split
   ·rename_i hw
    rw [if_pos hw] at h
    rcases h with h | ⟨_,_,_,q⟩
    ·exact .inl (Oper.wp_mono (fun a' w' hh=>vg hK hq is a' w' hh.2 hh.1) (TL (fun a v=>hK i o a v ho) hq ha h))
    ·cases hq _ _ _ q
   ·rename_i hw
    rw [if_neg hw] at h
    exact vg hK hq is _ w (hK i o a undef ho ha) h
theorem Dh {P:Program} {md:Region.Mode} {ops:Array Oper} {Q:Exit→Act→World→Prop} {K:Array Value→Prop} (hK:TJ ops K) (hq:∀ e a w,Q e a w→e=.normal):∀ (n:Nat) (listed:Array Bool) (a:Act) (w:World),K a.tmps→wpAny P md ops Q n listed a w→wpAny P md ops (fun e a' w'=>Q e a' w'∧K a'.tmps) n listed a w
 | 0,listed,a,w,ha,h=>⟨h.1,h.2,ha⟩
 | n+1,listed,a,w,ha,h=>by
  refine ⟨fun hr=>⟨h.1 hr,ha⟩,fun i hi=>?_⟩
  have h:=h.2 i hi
  unfold wpOp at *
  split
  ·rename_i ho
   simp only [ho] at h
   exact Dh hK hq n _ a w ha h
  ·rename_i o ho
   simp only [ho] at h
   split
   ·rename_i hw
    rw [if_pos hw] at h
    rcases h with h | ⟨_,_,_,q⟩
    ·exact .inl (Oper.wp_mono (fun a' w' hh=>Dh hK hq n _ a' w' hh.2 hh.1) (TL (fun a v=>hK i o a v ho) hq ha h))
    ·cases hq _ _ _ q
   ·rename_i hw
    rw [if_neg hw] at h
    exact Dh hK hq n _ _ w (hK i o a undef ho ha) h
def mc (ops:Array Oper):Bool:=ops.toList.all fun o=>match o.op with | .defer _=>false | _=>true
theorem vw {ops:Array Oper} (h:mc ops=true) {i:Nat} {o:Oper} (ho:ops[i]? = some o):∀ c,o.op≠.defer c:=by
 simp only [mc,List.all_eq_true] at h
 have:=h o (by have:=Array.getElem?_eq_some_iff.1 ho; obtain ⟨hi,rfl⟩:=this; simp)
 intro c hc
 rw [hc] at this
 cases this
theorem Ld {P:Program} {o:Oper} {a:Act} {w:World} {next next':Act→World→Prop} {Q:Exit→Act→World→Prop} {l n:Nat} (hd:∀ c,o.op≠.defer c) (hn:∀ a w,next a w→next' a w) (hq:∀ e a w,Q e a w→e=.normal) (h:o.wp P a w next Q):o.wpIn (Fence.wide.inRound l) n P a w next' Q:=by
 refine ⟨fun _ _=>trivial,?_⟩
 rw [Oper.semAt_eq _ _ _ hd]
 unfold Oper.wp at h
 generalize (execOp a.eval o).run P w=r at *
 have no:¬ LetsOut Q:=fun ⟨_,_,q⟩=>by cases hq _ _ _ q
 have hdp:((Fence.wide.inRound l).depth.isSome=true→1≤n):=fun h=>by simp [Fence.wide] at h
 cases r with
 | ok x w' =>
  cases x <;> simp only [Oper.upon,Oper.uponIn] at h ⊢ <;>
   first
    | exact hn _ _ h
    | exact ⟨hdp,(CallsIn.inRound l (callsIn_wide.2 h)).mono (fun e w'' he=>by cases e <;> first | exact hn _ _ he | exact he)⟩
    | exact ⟨hdp,fun c cs _=>by obtain ⟨v,w'',q,s⟩:=h c cs; exact ⟨v,w'',hn _ _ q,stepsIn_wide.2 s⟩⟩
 | halt x w'=>cases x <;> simp only [Oper.upon,Oper.uponIn] at h ⊢ <;> exact h
theorem wV {P:Program} {ops:Array Oper} {Q:Exit→Act→World→Prop} {l n:Nat} (hd:mc ops=true) (hq:∀ e a w,Q e a w→e=.normal):∀ (is:List Nat) (a:Act) (w:World),wpOps P ops Q is a w→wpOpsIn (Fence.wide.inRound l) n P ops Q is a w
 | [],a,w,h=>h
 | i :: is,a,w,h=>by
  simp only [wpOps,wpOpsIn] at h ⊢
  cases ho:ops[i]? with
  | none=>rw [ho] at h; exact wV hd hq is a w h
  | some o =>
   rw [ho] at h
   simp only at h ⊢
   split
   ·rename_i hw
    rw [if_pos hw] at h
    rcases h with h | ⟨_,_,_,q⟩
    ·exact Ld (vw hd ho) (fun a' w'=>wV hd hq is a' w') hq h
    ·cases hq _ _ _ q
   ·rename_i hw
    rw [if_neg hw] at h
    exact ⟨fun _ _=>trivial,wV hd hq is _ w h⟩
theorem wW {P:Program} {md:Region.Mode} {ops:Array Oper} {Q:Exit→Act→World→Prop} {l m:Nat} (hd:mc ops=true) (hq:∀ e a w,Q e a w→e=.normal):∀ (n:Nat) (listed:Array Bool) (a:Act) (w:World),wpAny P md ops Q n listed a w→wpAnyIn (Fence.wide.inRound l) m P md ops Q n listed a w
 | 0,listed,a,w,h=>h
 | n+1,listed,a,w,h=>by
  refine ⟨h.1,fun i hi=>?_⟩
  have h:=h.2 i hi
  unfold wpOp at h
  unfold wpOpIn
  split
  ·rename_i ho
   simp only [ho] at h
   exact wW hd hq n _ a w h
  ·rename_i o ho
   simp only [ho] at h
   split
   ·rename_i hw
    rw [if_pos hw] at h
    rcases h with h | ⟨_,_,_,q⟩
    ·exact Ld (vw hd ho) (fun a' w'=>wW hd hq n _ a' w') hq h
    ·cases hq _ _ _ q
   ·rename_i hw
    rw [if_neg hw] at h
    exact ⟨fun _ _=>trivial,wW hd hq n _ _ w h⟩
theorem ael {P:Program} {id:Nat} {ops:Array Oper} {draw:Bool} {Q:Exit→Act→World→Prop} {K:Array Value→Prop} {a:Act} {w:World} (hm:P.follows .mixedOrders=true) (hK:TJ ops K) (hq:∀ e a w,Q e a w→e=.normal) (ha:K a.tmps)
  (h:(draw=false∧wpOps P ops Q (List.range ops.size) a w)∨(draw=true∧wpAny P .any ops Q ops.size (Array.replicate ops.size false) a { w with drawn:=w.drawn+1 })) (b:Frame) (hb:b.roundOf=none∨mc ops=true) (k:List Item) (cs:List Frame) :
  ∃ a' w',Q .normal a' w'∧K a'.tmps∧Steps P (lone (b.atR a (.code (.region id ops draw) :: k)) cs w) (lone (b.atR a' k) cs w'):=by
 have XZ:∀ e a w,(Q e a w∧K a.tmps)→e=.normal:=fun e a w h=>hq e a w h.1
 have h':(draw=false∧wpOps P ops (fun e a' w'=>Q e a' w'∧K a'.tmps) (List.range ops.size) a w)∨(draw=true∧wpAny P .any ops (fun e a' w'=>Q e a' w'∧K a'.tmps) ops.size (Array.replicate ops.size false) a { w with drawn:=w.drawn+1 }):=by
  rcases h with ⟨e,h⟩ | ⟨e,h⟩
  ·exact .inl ⟨e,vg hK hq _ a w ha h⟩
  ·exact .inr ⟨e,Dh hK hq _ _ a _ ha h⟩
 cases hr:b.roundOf with
 | none =>
  have hw:(Code.region id ops draw).wp P (fun e a' w'=>Q e a' w'∧K a'.tmps) a w:=by
   rcases h' with ⟨rfl,h2⟩ | ⟨rfl,h2⟩
   ·exact wp_region h2
   ·exact wp_region_any hm h2
  obtain ⟨e,a',w',⟨q1,q2⟩,aaR⟩:=hw b k cs
  have he:=hq _ _ _ q1
  subst he
  refine ⟨a',w',q1,q2,?_⟩
  rw [Frame.atR_of_none hr,Frame.atR_of_none hr]
  exact aaR
 | some l =>
  have hd:mc ops=true:=hb.resolve_left (by rw [hr]; simp)
  have hw:(Code.region id ops draw).wpIn (Fence.wide.inRound l) 0 P (fun e a' w'=>Q e a' w'∧K a'.tmps) a w:=by
   rcases h' with ⟨rfl,h2⟩ | ⟨rfl,h2⟩
   ·exact wpIn_region (wV hd XZ _ a w h2)
   ·exact wpIn_region_any hm (wW hd XZ _ _ a _ h2)
  obtain ⟨e,a',w',⟨q1,q2⟩,aaR⟩:=hw b k cs hr trivial (room_wide _)
  have he:=hq _ _ _ q1
  subst he
  exact ⟨a',w',q1,q2,StepsIn.steps aaR⟩
theorem EA {T:List (Nat × TI)} (hT:og C.P T) (hm:C.P.follows .mixedOrders=true) {ops:Array Oper} {draw:Bool} {keep:Option (List Nat)} {st st':St} {j8:List Df} {ob:Ob}
  (h:qo C.P T C.nt ops draw keep st j8=some (st',ob)) (cm:ob.den) (hs:ku C st a w):(draw=false∧wpOps C.P ops (fun e a' w'=>e=.normal∧ku C st' a' w') (List.range ops.size) a w)∨(draw=true∧wpAny C.P .any ops (fun e a' w'=>e=.normal∧ku C st' a' w') ops.size (Array.replicate ops.size false) a { w with drawn:=w.drawn+1 }):=by
 unfold qo at h
 split at h
 ·rename_i wH pa gl DJ hev
  rw [Bool.cond_eq_ite] at h
  by_cases hb:(aaO draw ops wH&&wH.all (fun τ=>τ.created.all (QT st))&&vf pa.sl)=true
  case neg=>rw [if_neg hb] at h; cases h
  case pos =>
   rw [if_pos hb] at h
   simp only [Option.some.injEq,Prod.mk.injEq] at h
   obtain ⟨rfl,rfl⟩:=h
   simp only [Bool.and_eq_true] at hb
   obtain ⟨⟨XT,yD⟩,ahO⟩:=hb
   let ν:Nat→Bool:=fun s=>(look gl s).getD false
   have hν:∀ s e,look gl s=some e→ν s=e:=fun s e hl=>by simp [ν,hl]
   obtain ⟨i1,i2,i3,_⟩:=IJ (C:=C) (ν:=ν) hT hev cm hν
   obtain ⟨S,μ,dE⟩:=hs
   have hfa:Fp wH st.gb:=fun τ hτ κ hκ=>by
    simp only [List.all_eq_true] at yD
    exact TH (yD τ hτ κ hκ)
   have hQ:∀ a' w' S' μ',dA C pa.gb a' w' S' μ' ν→(Exit.normal=.normal∧ku C ⟨Go.Av.Bc keep pa.sl,pa.lb⟩ a' w'):=fun a' w' S' μ' BI=>⟨rfl,S',μ',fun ν'=>BI.Bc ahO ν'⟩
   have hlen:wH.length=ops.size:=by rw [i1]; simp
   cases draw with
   | false =>
    refine .inl ⟨rfl,?_⟩
    have:=Pt (C:=C) (ν:=ν) (ops:=ops) (Q:=fun e a' w'=>e=.normal∧ku C ⟨Go.Av.Bc keep pa.sl,pa.lb⟩ a' w') wH 0 st.gb pa.gb a w S μ (by omega) (fun i τ o h1 h2=>i2 i τ o h1 (by simpa using h2)) i3 hfa XT (dE ν) hQ
    rw [hlen] at this
    rw [List.range_eq_range']
    exact this
   | true =>
    refine .inr ⟨rfl,?_⟩
    have hw':dA C st.gb a { w with drawn:=w.drawn+1 } S μ ν:=(dE ν).world (fun _ x=>x) (fun _ x=>.inl x) ⟨rfl,rfl,rfl,Nat.le_refl _,fun _ _ _=>rfl⟩
    have aas:((List.range ops.size).map fun i=>wH.getD i ⟨[],none,.any,[],[],[],[]⟩)=wH:=by
     apply List.ext_getElem?
     intro i
     by_cases hi:i < ops.size
     ·simp [hi,List.getD,List.getElem?_eq_getElem (by omega:i < wH.length)]
     ·simp [hi,List.getElem?_eq_none (by omega:wH.length≤i)]
    refine YU (C:=C) (ν:=ν) wH XT (fun i τ o h1 h2=>i2 i τ o h1 (by simpa using h2)) pa.gb hQ ops.size (List.range ops.size) _ st.gb a _ S μ (by simp) List.pairwise_lt_range (by simp) (fun i=>?_) (by rw [aas]; exact i3) (by rw [aas]; exact hfa) ?_ (fun m o hm hl=>?_) hw'
    ·simp only [List.mem_range]
     refine ⟨fun hi=>⟨hi,by simp [Array.getD,hi]⟩,fun hi=>hi.1⟩
    ·rw [aas]
     have afV:SS ops wH=true:=XT
     simp only [SS,Bool.and_eq_true] at afV
     exact afV.1.2
    ·exfalso
     have IH:m < ops.size:=(Array.getElem?_eq_some_iff.1 hm).1
     simp [Array.getD,IH] at hl
 ·cases h
end
def Cx.TD (C:Cx) (q:Nat):Prop:=C.T0 q∨({ target:=.collected q,args:=#[] }:Deferred)∈C.dl
def QV (C:Cx) (res:AV) (dz:List (Nat × bQ)) (e:Ending) (w':World):Prop:=∃ v S' μ',e=.returned v∧Tj C.w0 C.S0 C.TD res dz v S' μ' w'
structure Goal where
 P:Program
 T:List (Nat × TI)
 nt:Nat
 f:FuncId
 fn:Func
 res:AV
 dz:List (Nat × bQ)
 md:Nat
 pr:List Nat
 tm:Array Value
 Z:Cx→Frame→List Frame→Machine→Prop
 zs:∀ C b cs m m',Steps P m m'→Z C b cs m'→Z C b cs m
def Goal.kept (g:Goal) (t:Array Value):Prop:=∀ u,u∈g.pr→t.getD u undef=g.tm.getD u undef
def TM (g:Goal) (C:Cx) (todo:List Item) (a:Act) (w:World):Prop :=
 ∀ (b:Frame) (cs:List Frame),b.fn=g.f→b.kind=.normal→(b.roundOf=none↔g.md≠1)→g.Z C b cs (lone (b.atR a todo) cs w)
def G (g:Goal) (todo:List Item) (st:St):Prop:=∀ C:Cx,C.P=g.P→C.nt=g.nt→∀ a w,g.kept a.tmps→ku C st a w→TM g C todo a w
def Nr (st st':St):Prop:=∀ C a w,ku C st a w→ku C st' a w
def um (l:List Nat) (ops:Array Oper):Bool:=l.all fun t=>ops.toList.all fun o=>match o.dst with | some d=>!Nat.beq d t | none=>true
def Jm (md:Nat) (pr:List Nat) (ops:Array Oper):Bool:=um pr ops&&(!Nat.beq md 1||mc ops)
section
variable {g : Goal} {k : List Item} {st st' : St}
theorem TM.step {C:Cx} {todo Le:List Item} {a a':Act} {w w':World} (h:∀ (b:Frame) (cs:List Frame),Steps g.P (lone (b.atR a todo) cs w) (lone (b.atR a' Le) cs w')) (hr:TM g C Le a' w'):TM g C todo a w :=
 fun b cs h1 h2 h3=>g.zs C b cs _ _ (h b cs) (hr b cs h1 h2 h3)
theorem G.le (h:Nr st st') (hg:G g k st'):G g k st:=fun C h1 h2 a w hk hs=>hg C h1 h2 a w hk (h C a w hs)
theorem G.seq {x y:Code} (h:G g (.code x :: .code y :: k) st):G g (.code (.seq x y) :: k) st:=fun C h1 h2 a w hk hs=>(h C h1 h2 a w hk hs).step fun _ _=>.one stepR_seq
theorem G.skip (h:G g k st):G g (.code .skip :: k) st:=fun C h1 h2 a w hk hs=>(h C h1 h2 a w hk hs).step fun _ _=>.one stepR_skip
theorem G.label {l:Nat} (h:G g k st):G g (.code (.label l) :: k) st:=fun C h1 h2 a w hk hs=>(h C h1 h2 a w hk hs).step fun _ _=>.one stepR_label
theorem G.block {id:Nat} {c:Code} (h:G g (.code c :: .inBlock id :: k) st):G g (.code (.block id c) :: k) st:=fun C h1 h2 a w hk hs=>(h C h1 h2 a w hk hs).step fun _ _=>.one stepR_block
theorem G.inBlock {id:Nat} (h:G g k st):G g (.inBlock id :: k) st:=fun C h1 h2 a w hk hs=>(h C h1 h2 a w hk hs).step fun _ _=>.one stepR_inBlock
theorem G.inLoop {c:Code} (h:G g (.code c :: .inLoop c :: k) st):G g (.inLoop c :: k) st:=fun C h1 h2 a w hk hs=>(h C h1 h2 a w hk hs).step fun _ _=>.one stepR_inLoop
theorem G.exit {id:Nat} {k':List Item} (he:exitTo id k=some k') (h:G g k' st):G g (.code (.exit id) :: k) st:=fun C h1 h2 a w hk hs=>(h C h1 h2 a w hk hs).step fun _ _=>.one (stepR_exit he)
theorem G.cond {c:Nat} {x y:Code} {e:Bool} (hc:St.get st.sl c=.d (.v (.bool e))) (ht:e=true→G g (.code x :: k) st) (hf:e=false→G g (.code y :: k) st):G g (.code (.cond (.tmp c) x y) :: k) st:=by
 intro C h1 h2 a w hk hs
 obtain ⟨S,μ,dE⟩:=hs
 have hr:=(dE fun _=>false).eJ c
 simp only [St.gb,hc] at hr
 have he:a.eval (.tmp c)=.bool e:=oj hr
 cases e with
 | true=>exact (ht rfl C h1 h2 a w hk ⟨S,μ,dE⟩).step fun _ _=>.one (by simpa using stepR_cond (x:=x) (y:=y) he)
 | false=>exact (hf rfl C h1 h2 a w hk ⟨S,μ,dE⟩).step fun _ _=>.one (by simpa using stepR_cond (x:=x) (y:=y) he)
theorem G.afW {x y:Code} {e:Bool} (h:G g (.code (bif e then x else y) :: k) st):G g (.code (.cond (.const (.bool e)) x y) :: k) st:=by
 intro C h1 h2 a w hk hs
 have he:a.eval (.const (.bool e))=.bool e:=rfl
 cases e with
 | true=>exact (h C h1 h2 a w hk hs).step fun _ _=>.one (by simpa using stepR_cond (x:=x) (y:=y) he)
 | false=>exact (h C h1 h2 a w hk hs).step fun _ _=>.one (by simpa using stepR_cond (x:=x) (y:=y) he)
theorem Goal.afX {ops:Array Oper} (h:Jm g.md g.pr ops=true):TJ ops g.kept:=by
 intro i o a v ho hk u hu
 unfold Jm at h
 simp only [Bool.and_eq_true,um,List.all_eq_true] at h
 have h1:=h.1 u hu o (by obtain ⟨hi,rfl⟩:=Array.getElem?_eq_some_iff.1 ho; simp)
 rw [← hk u hu]
 cases hd:o.dst with
 | none=>rfl
 | some d =>
  rw [hd] at h1
  exact dt _ _ _ _ (fun e=>by subst e; simp at h1)
theorem G.ops (hm:g.P.follows .mixedOrders=true) {C:Cx} {id:Nat} {ops:Array Oper} {draw:Bool} {a:Act} {w:World} {Q:Act→World→Prop} (hr:Jm g.md g.pr ops=true) (ha:g.kept a.tmps)
  (h:(draw=false∧wpOps g.P ops (fun e a' w'=>e=.normal∧Q a' w') (List.range ops.size) a w)∨(draw=true∧wpAny g.P .any ops (fun e a' w'=>e=.normal∧Q a' w') ops.size (Array.replicate ops.size false) a { w with drawn:=w.drawn+1 }))
  (hg:∀ a' w',g.kept a'.tmps→Q a' w'→TM g C k a' w'):TM g C (.code (.region id ops draw) :: k) a w:=by
 intro b cs h1 h2 h3
 obtain ⟨a',w',q1,q2,q3⟩:=ael (id:=id) hm (Goal.afX hr) (fun e a w h=>h.1) ha h b (by
  by_cases hp:g.md=1
  ·unfold Jm at hr; simp only [Bool.and_eq_true,hp] at hr; exact .inr (by simpa using hr.2)
  ·exact .inl (h3.2 hp)) k cs
 exact g.zs C b cs _ _ q3 (hg a' w' q2 q1.2 b cs h1 h2 h3)
theorem G.region (hT:og g.P g.T) (hm:g.P.follows .mixedOrders=true) {id:Nat} {ops:Array Oper} {draw:Bool} {keep:Option (List Nat)} {j8:List Df} {ob:Ob} (hr:Jm g.md g.pr ops=true) (h:qo g.P g.T g.nt ops draw keep st j8=some (st',ob)) (cm:ob.den) (hg:G g k st'):G g (.code (.region id ops draw) :: k) st:=by
 intro C h1 h2 a w hk hs
 have hw:=EA (C:=C) (T:=g.T) (by rw [h1]; exact hT) (by rw [h1]; exact hm) (by rw [h1,h2]; exact h) cm hs
 rw [h1] at hw
 exact G.ops hm hr hk hw (fun a' w' gE BI=>hg C h1 h2 a' w' gE BI)
theorem G.loop {ι:Type} (I:ι→St) (m:ι→Nat) {c:Code} (i0:ι) (h0:Nr st (I i0)) (hr:∀ i,(∀ j,m j < m i→G g (.inLoop c :: k) (I j))→G g (.code c :: .inLoop c :: k) (I i)):G g (.code (.loop c) :: k) st:=by
 have key:∀ n i,m i=n→G g (.code c :: .inLoop c :: k) (I i):=by
  intro n
  induction n using Nat.strongRecOn with
  | _ n ih =>
   intro i hi
   exact hr i (fun j hj=>.inLoop (ih (m j) (hi ▸ hj) j rfl))
 intro C h1 h2 a w hk hs
 exact (key _ i0 rfl C h1 h2 a w hk (h0 C a w hs)).step fun _ _=>.one stepR_loop
end
def wX (T:List (Nat × TI)) (st:St):List ResultVar→Option (List AV × List (Nat × bQ) × Ob)
 | []=>some ([],[],.tt)
 | .tmp t :: r=>(match wX T st r with | some (l,ro,ob)=>some (St.get st.sl t :: l,ro,ob) | none=>none)
 | .cell t ty :: r=>(match look T ty,ql st.lb (St.get st.sl t),wX T st r with
  | some i,some (cs,ro1,DJ),some (l,ro,ob)=>(match KK i cs with | some v=>some (v :: l,ro1++ro,DJ.and ob) | none=>none)
  | _,_,_=>none)
section
variable {C : Cx} {a : Act} {w : World} {S : Nat → Prop} {μ : Mu} {ν : Nat → Bool}
def aaS:List Value→Value
 | [v]=>v
 | l=>.tuple l.toArray
def Hk (tmps:Array Value):ResultVar→Sem Value
 | .tmp t=>pure (tmps.getD t undef)
 | .cell a t=>do loadVar t (← asAddr (tmps.getD a undef))
theorem rN {T:List (Nat × TI)} (hT:og C.P T) {st:St} (hs:dA C st.gb a w S μ ν):∀ {rs:List ResultVar} {l:List AV} {ro:List (Nat × bQ)} {ob:Ob},wX T st rs=some (l,ro,ob)→ob.den→∃ vs,(rs.mapM (Hk a.tmps)).run C.P w=.ok vs w∧dV w S μ ν l vs
 | [],l,ro,ob,h,_=>by
  simp only [wX,Option.some.injEq,Prod.mk.injEq] at h
  obtain ⟨rfl,-,-⟩:=h
  exact ⟨[],by simp,rfl,fun i hi=>absurd hi (by simp)⟩
 | .tmp t :: r,l,ro,ob,h,cm=>by
  simp only [wX] at h
  split at h
  ·rename_i l' PA Fl hr
   simp only [Option.some.injEq,Prod.mk.injEq] at h
   obtain ⟨rfl,rfl,rfl⟩:=h
   obtain ⟨vs,h1,h2⟩:=rN hT hs hr cm
   refine ⟨a.tmps.getD t undef :: vs,by simp [List.mapM_cons,Hk,h1],by simp [h2.1],fun i hi=>?_⟩
   cases i with
   | zero =>
    have:=hs.eJ t
    simp only [St.gb] at this
    simpa using this
   | succ i=>simpa using h2.2 i (by simpa using hi)
  ·cases h
 | .cell t ty :: r,l,ro,ob,h,cm=>by
  simp only [wX] at h
  split at h
  ·rename_i i cs ro1 DJ l' PA Fl hi hc hr
   split at h
   ·rename_i v hv
    simp only [Option.some.injEq,Prod.mk.injEq] at h
    obtain ⟨rfl,rfl,rfl⟩:=h
    obtain ⟨vs,h1,h2⟩:=rN hT hs hr (Ob.db cm).2
    have V2:=Iz hc hs (fun p hp=>II hc p hp) (Ob.db cm).1 (hs.eJ t)
    obtain ⟨b,o,hp,QP⟩:=V2
    obtain ⟨u,h3,h4⟩:=Pw (P:=C.P) (hT _ _ hi) hv (⟨b,o,hp,QP⟩:QC w S μ ν cs _)
    have h5:(Hk a.tmps (.cell t ty)).run C.P w=.ok u w:=by
     rw [hp] at h3
     simp only [Hk,hp,asAddr,Sem.run_bind,Sem.run_pure,Result.andThen_ok]
     simpa [Instr.loadAt,Instr.sureAddr] using h3
    refine ⟨u :: vs,by simp [List.mapM_cons,h5,h1],by simp [h2.1],fun i hi=>?_⟩
    cases i with
    | zero=>simpa using h4
    | succ i=>simpa using h2.2 i (by simpa using hi)
   ·cases h
  ·cases h
theorem Wo (fn:Func) (tmps:Array Value):results fn tmps=(do let vs ← fn.results.mapM (Hk tmps); pure (if h:vs.size=1 then vs[0] else .tuple vs):Sem Value):=by
 unfold results
 congr 2
theorem wY {fn:Func} {vs:List Value} (h:(fn.results.toList.mapM (Hk a.tmps)).run C.P w=.ok vs w):(results fn a.tmps).run C.P w=.ok (aaS vs) w:=by
 rw [Wo,Array.mapM_eq_mapM_toList]
 simp only [Sem.run_bind,Sem.run_map,h,Result.andThen_ok,Sem.run_pure]
 congr 1
 clear h
 match vs with
 | []=>rfl
 | [v]=>rfl
 | _ :: _ :: _=>rfl
end
def vx (x y:AV):Prop:=∀ w S μ ν v,Rel w S μ ν x v→Rel w S μ ν y v
theorem vx.rfl' {x:AV}:vx x x:=fun _ _ _ _ _ h=>h
theorem vx.d {x y:D} (h:tU x y):vx (.d x) (.d y):=fun w S _ _ v hr=>.d (h w S v (jd.1 hr))
def tg:List AV→AV
 | [x]=>x
 | l=>.fb l
theorem Hl {w:World} {S:Nat→Prop} {μ:Mu} {ν:Nat→Bool} {l:List AV} {vs:List Value} (h:dV w S μ ν l vs):Rel w S μ ν (tg l) (aaS vs):=by
 match l,vs,h with
 | [x],[v],h=>simpa [tg,aaS] using h.2 0 (by simp)
 | [],[],h=>exact .fb rfl (fun i hi=>absurd hi (by simp))
 | x :: y :: r,u :: v :: s,h=>exact .fb (by simpa using h.1) (fun i hi=>by rw [dm]; simpa using h.2 i hi)
 | [],_ :: _,h=>have:=h.1; simp at this
 | [_],[],h=>have:=h.1; simp at this
 | [_],_ :: _ :: _,h=>have:=h.1; simp at this
 | _ :: _ :: _,[],h=>have:=h.1; simp at this
 | _ :: _ :: _,[_],h=>have:=h.1; simp at this
theorem EB {P:Program} {cs:List Frame}:∀ (l:List Deferred) (fr:Frame) (w:World),fr.mode=.returning→fr.defers=l→l.Nodup→(∀ d,d∈l→∃ q,d = { target:=.collected q,args:=#[] }∧w.heap[q]? = some (.deferred (some []))) →
  ∃ w',Steps P (lone fr cs w) (lone { fr with defers:=[] } cs w')∧Kept w w' (fun q=>({ target:=.collected q,args:=#[] }:Deferred)∈l)
 | [],fr,w,_,hd,_,_=>⟨w,by rw [show ({ fr with defers:=[] }:Frame)=fr by rw [← hd]]; exact .refl _ _,Kept.refl _ _⟩
 | d :: l,fr,w,hm,hd,hnd,hl=>by
  obtain ⟨q,rfl,hq⟩:=hl d (by simp)
  have h1:=step_collected (P:=P) (cs:=cs) (d:={ target:=.collected q,args:=#[] }) (by rw [hm]; simp) hd rfl (run_takeDeferred hq)
  have hk:Kept w (w.putObj q (.deferred none)) (fun b=>b=q):=⟨rfl,rfl,rfl,by simp [World.putObj],fun b _ hb=>World.putObj_heap_other hb⟩
  obtain ⟨w',h2,h3⟩:=EB l { fr with defers:=[]++l } (w.putObj q (.deferred none)) hm rfl (List.nodup_cons.1 hnd).2 (fun d hd'=>by
   obtain ⟨p,rfl,hp⟩:=hl d (by simp [hd'])
   refine ⟨p,rfl,?_⟩
   have A9:p≠q:=fun e=>(List.nodup_cons.1 hnd).1 (e ▸ hd')
   rw [World.putObj_heap_other A9]; exact hp)
  refine ⟨w',.head h1 h2,(hk.BF (fun b hb=>by subst hb; simp)).trans h3 (fun b _ hb=>by simp [hb])⟩
def Cx.shut (C:Cx):Cx:={ C with T0:=C.TD,dis:=fun b hb h=>h.elim (C.dis b hb) (fun h=>(by obtain ⟨q,e,_,_,hq⟩:=C.dok _ h; cases e; exact hq hb)),dl:=[],dok:=fun d h=>(by cases h),dnd:=List.nodup_nil }
theorem eA.th {w:World} {S:Nat→Prop} {μ:Mu} {b:bQ} {g cap:Nat} {o:Option (List Deferred)} (h:eA w S μ b g cap):w.heap[g]?≠some (.deferred o):=by
 cases b with
 | box cs=>obtain ⟨cur,e,hg,_⟩:=h; rw [hg]; simp
 | row e k n f=>obtain ⟨cur,hg,_⟩:=h; rw [hg]; simp
 | mp n f=>obtain ⟨cur,hg,_⟩:=h; rw [hg]; simp
 | it mk n seen=>obtain ⟨mg,c,_,hg,_⟩:=h; rw [hg]; simp
 | mx=>obtain ⟨m,_,cur,hg,_⟩:=h; rw [hg]; simp
theorem dA.Zl {C:Cx} {A:M} {a:Act} {w:World} {S:Nat→Prop} {μ:Mu} {ν:Nat→Bool} (h:dA C A a w S μ ν):∀ d,d∈C.dl→∃ q,d = { target:=.collected q,args:=#[] }∧w.heap[q]? = some (.deferred (some []))∧¬ S q:=by
 intro d hd
 obtain ⟨q,e,h1,h2,h3⟩:=C.dok d hd
 have gJ:=(Array.getElem?_eq_some_iff.1 h1).1
 refine ⟨q,e,(h.kept.block q gJ h2).trans h1,fun hs=>?_⟩
 rcases h.fresh q hs with h4 | h4 | h4
 ·exact h3 h4
 ·omega
 ·exact h2 h4
theorem dA.shut {C:Cx} {A:M} {a:Act} {w w':World} {S:Nat→Prop} {μ:Mu} {ν:Nat→Bool} (h:dA C A a w S μ ν) (hk:Kept w w' (fun q=>({ target:=.collected q,args:=#[] }:Deferred)∈C.dl)):dA C.shut A { a with defers:=[] } w' S μ ν:=by
 have hw:∀ b,S b→w'.heap[b]? = w.heap[b]?:=fun b hb=>hk.block b (h.bound b hb) (fun hd=>by
  obtain ⟨q,e,_,hq⟩:=h.Zl _ hd
  cases e
  exact hq hb)
 refine ⟨h.tmps,rfl,fun t=>(h.eJ t).mono (fun _ x=>x) hw (fun _ _ e=>e),fun κ b hb=>?_,h.inj,fun κ b g c h1 h2=>?_,h.fA,fun b hb=>?_,fun b hb=>Nat.lt_of_lt_of_le (h.bound b hb) hk.size,?_⟩
 ·have hm:=h.mem κ b hb
  refine hm.mono (fun _ x=>x) hw (fun _ _ e=>e) (fun g c e=>?_)
  rw [e] at hm
  refine ⟨hk.block g hm.at.lt (fun hd=>?_),hm.at.not⟩
  obtain ⟨q,e',hq,_⟩:=h.Zl _ hd
  cases e'
  exact hm.at.th hq
 ·rcases h.own κ b g c h1 h2 with q | q
  ·exact .inl q
  ·exact .inr (.inl q)
 ·rcases h.fresh b hb with q | q | q
  ·exact .inl q
  ·exact .inr (.inl q)
  ·exact .inr (.inr (.inl q))
 ·exact (h.kept.BF (fun _ x=>.inl x)).trans hk (fun b _ hb=>.inr hb)
structure Goal.Nrm (g:Goal):Prop where
 md:g.md=0
 fin:∀ C b cs m,(∃ e w' fr,QV C g.res g.dz e w'∧Comes g.P m (lone fr cs w') e∧fr.fn=g.f∧fr.leaving g.P w' e)→g.Z C b cs m
theorem Goal.Nrm.out {g:Goal} (hg:g.Nrm) (hf:g.P.funcs[g.f]? = some g.fn) {C:Cx} (h1:C.P=g.P) {st:St} {a:Act} {w:World} (hs:ku C st a w) (hp:∀ w',ku C.shut st { a with defers:=[] } w'→∃ v,(results g.fn a.tmps).run C.P w'=.ok v w'∧QV C.shut g.res g.dz (.returned v) w')
  {todo:List Item} (oh:∀ (b:Frame) (cs:List Frame),b.roundOf=none→Steps g.P (lone (b.atR a todo) cs w) (lone { b.atR a todo with mode:=.returning } cs w)):TM g C todo a w:=by
 intro b cs Hb Bb Jn
 refine hg.fin C b cs _ ?_
 obtain ⟨S,μ,dE⟩:=hs
 have h0:=dE fun _=>false
 have hrd:=Jn.2 (by rw [hg.md]; decide)
 obtain ⟨w',q1,q2⟩:=EB (P:=g.P) (cs:=cs) C.dl { b.atR a todo with mode:=.returning } w rfl h0.defers C.dnd (fun d hd=>let ⟨q,e,h,_⟩:=h0.Zl d hd; ⟨q,e,h⟩)
 obtain ⟨v,r1,r2⟩:=hp w' ⟨S,μ,fun ν=>(dE ν).shut q2⟩
 obtain ⟨v',S',μ',e,B⟩:=r2
 refine ⟨.returned v,w',_,⟨v',S',μ',e,B.aaA (fun q hq=>?_)⟩,Steps.trans (oh b cs hrd) q1,Hb,rfl,rfl,Bb,g.fn,?_,?_⟩
 ·rcases hq with hq | hq
  ·exact hq
  ·cases hq
 ·show g.P.funcs[b.fn]? = _
  rw [Hb]; exact hf
 ·rw [← h1]; exact r1
def Yb (C:Cx) (res:AV) (dz:List (Nat × bQ)) (nw:List (Nat × Nat)) (tm:Array Value) (e:Ending) (w':World):Prop:=∃ v S' μ',e=.returned v∧Tj C.w0 C.S0 C.TD res dz v S' μ' w'∧∀ p,p∈nw→∀ ν,Rel w' S' μ' ν (.ptr p.2 0) (tm.getD p.1 undef)
structure Goal.Wp (g:Goal) (nw:List (Nat × Nat)):Prop where
 md:g.md=3
 pr:∀ p,p∈nw→p.1∈g.pr
 fin:∀ C b cs m,(∃ e w' fr,Yb C g.res g.dz nw g.tm e w'∧Comes g.P m (lone fr cs w') e∧fr.fn=g.f∧fr.leaving g.P w' e)→g.Z C b cs m
theorem Goal.Wp.out {g:Goal} {nw:List (Nat × Nat)} (hg:g.Wp nw) (hf:g.P.funcs[g.f]? = some g.fn) {C:Cx} (h1:C.P=g.P) {st:St} {a:Act} {w:World} (hs:ku C st a w) (hp:∀ w',ku C.shut st { a with defers:=[] } w'→∃ v,(results g.fn a.tmps).run C.P w'=.ok v w'∧Yb C.shut g.res g.dz nw g.tm (.returned v) w')
  {todo:List Item} (oh:∀ (b:Frame) (cs:List Frame),b.roundOf=none→Steps g.P (lone (b.atR a todo) cs w) (lone { b.atR a todo with mode:=.returning } cs w)):TM g C todo a w:=by
 intro b cs Hb Bb Jn
 refine hg.fin C b cs _ ?_
 obtain ⟨S,μ,dE⟩:=hs
 have h0:=dE fun _=>false
 have hrd:=Jn.2 (by rw [hg.md]; decide)
 obtain ⟨w',q1,q2⟩:=EB (P:=g.P) (cs:=cs) C.dl { b.atR a todo with mode:=.returning } w rfl h0.defers C.dnd (fun d hd=>let ⟨q,e,h,_⟩:=h0.Zl d hd; ⟨q,e,h⟩)
 obtain ⟨v,r1,r2⟩:=hp w' ⟨S,μ,fun ν=>(dE ν).shut q2⟩
 obtain ⟨v',S',μ',e,B,ha⟩:=r2
 refine ⟨.returned v,w',_,⟨v',S',μ',e,B.aaA (fun q hq=>?_),ha⟩,Steps.trans (oh b cs hrd) q1,Hb,rfl,rfl,Bb,g.fn,?_,?_⟩
 ·rcases hq with hq | hq
  ·exact hq
  ·cases hq
 ·show g.P.funcs[b.fn]? = _
  rw [Hb]; exact hf
 ·rw [← h1]; exact r1
theorem G.ahP {g:Goal} {st:St} {nw:List (Nat × Nat)} (hg:g.Wp nw) (hf:g.P.funcs[g.f]? = some g.fn) (hp:∀ (C:Cx) (a:Act) (w:World),C.P=g.P→g.kept a.tmps→ku C st a w→∃ v,(results g.fn a.tmps).run C.P w=.ok v w∧Yb C g.res g.dz nw g.tm (.returned v) w):G g [] st∧∀ k,G g (.code .ret :: k) st :=
 ⟨fun C h1 _ a w hk hs=>hg.out hf h1 hs (fun w' BI=>hp C.shut { a with defers:=[] } w' h1 hk BI) (fun b cs hb=>.one (stepR_end hb)),
  fun k C h1 _ a w hk hs=>hg.out hf h1 hs (fun w' BI=>hp C.shut { a with defers:=[] } w' h1 hk BI) (fun b cs hb=>.one (stepR_ret hb))⟩
section
variable {g : Goal} {k : List Item} {st : St}
theorem Zm {C:Cx} {a:Act} {w:World} (hs:ku C st a w) (hT:og C.P g.T) (hl:g.dz=[]) {l l':List AV} {ro PA:List (Nat × bQ)} {ob Fl:Ob} (h:wX g.T st g.fn.results.toList=some (l,ro,ob)) (cm:ob.den) (hb:yK st.lb l=some (l',PA,Fl)) (K8:Fl.den) (hle:vx (tg l') g.res) :
  ∃ v,(results g.fn a.tmps).run C.P w=.ok v w∧QV C g.res g.dz (.returned v) w:=by
 obtain ⟨S,μ,dE⟩:=hs
 have h0:=dE fun _=>false
 obtain ⟨vs,h1,h2⟩:=rN hT h0 h cm
 refine ⟨_,wY h1,?_⟩
 have h3:∀ μ' ν',dV w (fun b=>b < w.heap.size∧(C.S0 b∨C.w0.heap.size≤b∨C.T0 b)) μ' ν' l' vs:=fun μ' ν' =>
  Hg h0 (fun b hb=>⟨h0.bound b hb,h0.fresh b hb⟩) (fun κ b q c h1 h2=>⟨by have:=h0.mem κ b h1; rw [h2] at this; exact this.at.lt,.inr (h0.own κ b q c h1 h2)⟩) μ' ν' hb (fun p hp=>La hb p hp) K8 h2
 refine ⟨_,fun b=>b < w.heap.size∧(C.S0 b∨C.w0.heap.size≤b∨C.T0 b),fun _=>none,rfl,?_⟩
 rw [hl]
 exact ⟨fun ν'=>hle _ _ _ _ _ (Hl (h3 _ ν')),fun κ b hk=>by simp [look] at hk,fun κ κ' b b' q c c' hk=>by simp [look] at hk,fun κ b q c hk=>by simp [look] at hk,
  fun b hb=>⟨Nat.lt_of_lt_of_le (h0.bound b (h0.fA b hb)) (Nat.le_refl _),.inl hb⟩,fun b hb=>hb.2.imp id (Or.imp id .inl),fun b hb=>hb.1,h0.kept.BF fun _ h=>.inl h⟩
theorem G.out (hg:g.Nrm) (hf:g.P.funcs[g.f]? = some g.fn) (hp:∀ (C:Cx) (a:Act) (w:World),C.P=g.P→ku C st a w→∃ v,(results g.fn a.tmps).run C.P w=.ok v w∧QV C g.res g.dz (.returned v) w):G g [] st∧∀ k,G g (.code .ret :: k) st :=
 ⟨fun C h1 _ a w _ hs=>hg.out hf h1 hs (fun w' BI=>hp C.shut { a with defers:=[] } w' h1 BI) (fun b cs hb=>.one (stepR_end hb)),
  fun k C h1 _ a w _ hs=>hg.out hf h1 hs (fun w' BI=>hp C.shut { a with defers:=[] } w' h1 BI) (fun b cs hb=>.one (stepR_ret hb))⟩
theorem G.ret (hg:g.Nrm) (hT:og g.P g.T) (hf:g.P.funcs[g.f]? = some g.fn) (hl:g.dz=[]) {l l':List AV} {ro PA:List (Nat × bQ)} {ob Fl:Ob} (h:wX g.T st g.fn.results.toList=some (l,ro,ob)) (cm:ob.den) (hb:yK st.lb l=some (l',PA,Fl)) (K8:Fl.den) (hle:vx (tg l') g.res):G g [] st∧∀ k,G g (.code .ret :: k) st :=
 G.out hg hf (fun C a w h1 hs=>Zm (g:=g) hs (by rw [h1]; exact hT) hl h cm hb K8 hle)
end
def fc:Nat→List AV→List (Nat × AV)
 | _,[]=>[]
 | n,x :: r=>(n,x) :: fc (n+1) r
theorem xS:∀ (l:List AV) (n t:Nat),look (fc n l) t=if n≤t then l[t - n]? else none
 | [],n,t=>by simp [fc,look]
 | x :: r,n,t=>by
  simp only [fc,cw,xS r (n+1) t]
  by_cases h:n=t
  ·subst h; simp
  ·simp only [h,if_false]
   by_cases h1:n+1≤t
   ·rw [if_pos h1,if_pos (by omega),show t - n=t - (n+1)+1 by omega]
    simp
   ·rw [if_neg h1,if_neg (by omega)]
def ZN (P:Program) (f:FuncId) (res:AV) (dz:List (Nat × bQ)) (C:Cx) (_:Frame) (cs:List Frame) (m:Machine):Prop :=
 ∃ e w' fr,QV C res dz e w'∧Comes P m (lone fr cs w') e∧fr.fn=f∧fr.leaving P w' e
def Goal.of (P:Program) (T:List (Nat × TI)) (nt:Nat) (f:FuncId) (fn:Func) (res:AV) (dz:List (Nat × bQ)):Goal :=
 ⟨P,T,nt,f,fn,res,dz,0,[],#[],ZN P f res dz,fun _ _ _ _ _ hs ⟨e,w',fr,q1,q2,q3⟩=>⟨e,w',fr,q1,.of_steps hs q2,q3⟩⟩
theorem Goal.aaT {P:Program} {T:List (Nat × TI)} {nt:Nat} {f:FuncId} {fn:Func} {res:AV} {dz:List (Nat × bQ)}:(Goal.of P T nt f fn res dz).Nrm:=⟨rfl,fun _ _ _ _ h=>h⟩
theorem jl.intro {P:Program} {T:List (Nat × TI)} {f:FuncId} {fn:Func} {body:Code} {args:List AV} {dz:List (Nat × bQ)} {res:AV} {ij:List (Nat × bQ)} (hf:P.funcs[f]? = some fn) (hb:fn.body=some body) (hc:gF P f=true) (hn:args.length≤fn.ntmps)
  (h:G (.of P T fn.ntmps f fn res ij) [.code body] ⟨fc 0 args,dz⟩):jl P f args dz res ij:=by
 refine ⟨hc,fun w S μ vs hS hgl mb hm hi cs=>?_⟩
 let C:Cx:=⟨P,w,S,Handed dz μ,fn.ntmps,hgl,fun b hb ⟨κ,bk,c,q1,q2⟩=>by
  have:=hm κ bk q1
  rw [q2] at this
  exact this.at.not hb,hS,[],fun d h=>(by cases h),List.nodup_nil⟩
 let b:Frame:={ (default:Frame) with fn:=f,kind:=.normal,roundOf:=none }
 have hl:vs.size=args.length:=by have:=(mb fun _=>false).1; simpa using this
 have Wq:Frame.enter P f vs .normal=b.atR { tmps:=vs++Array.replicate (fn.ntmps - vs.size) undef,defers:=[] } [.code body]:=by
  simp [Frame.enter,Frame.atR,hf,hb,b]
 have dE:ku C ⟨fc 0 args,dz⟩ { tmps:=vs++Array.replicate (fn.ntmps - vs.size) undef,defers:=[] } w:=by
  refine ⟨S,μ,fun ν=>⟨by simp [C]; omega,rfl,fun t=>?_,hm,hi,fun κ bk q c h1 h2=>.inr ⟨κ,bk,c,h1,h2⟩,fun _ hb=>hb,fun _ hb=>.inl hb,hS,Kept.refl _ _⟩⟩
  simp only [St.gb,St.get,xS,Nat.zero_le,if_true,Nat.sub_zero]
  by_cases ht:t < args.length
  ·rw [List.getElem?_eq_getElem ht]
   have h2:=(mb ν).2 t ht
   rw [show args.getD t default=args[t] from by simp [List.getD,ht]] at h2
   have e:(vs++Array.replicate (fn.ntmps - vs.size) undef).getD t undef=vs.toList.getD t undef:=by
    rw [← dm]
    simp only [Array.getD_eq_getD_getElem?]
    rw [Array.getElem?_append_left (by omega)]
   rw [e]
   exact h2
  ·rw [List.getElem?_eq_none (by omega)]
   exact .any _
 obtain ⟨e,w',fr,⟨v,S',μ',e1,B⟩,q2,q3,q4⟩:=h C rfl rfl _ _ (fun u hu=>by cases hu) dE b cs rfl rfl ⟨fun _ h=>(by cases h),fun _=>rfl⟩
 exact ⟨e,w',fr,⟨v,S',μ',e1,B.aaA (fun q hq=>hq.elim id (fun h=>by cases h))⟩,by rw [Wq]; exact q2,q3,q4⟩
abbrev Ren:=List (Nat × Option Nat)
def yM (ρ:Ren) (μ:Mu):Mu:=fun k=>match look ρ k with | some (some o)=>μ o | some none=>some none | none=>none
def tl (ρ:Ren) (κ' κ:Nat):Bool:=match look ρ κ' with | some (some o)=>Nat.beq o κ | _=>false
def TN (ρ:Ren) (κ':Nat):Bool:=match look ρ κ' with | some none=>true | _=>false
theorem BW {ρ:Ren} {κ' κ:Nat} (h:tl ρ κ' κ=true) (μ:Mu):yM ρ μ κ'=μ κ:=by
 unfold tl at h
 unfold yM
 split at h
 ·rename_i o hl
  rw [hl]
  simp only [Nat.eq_of_beq_eq_true h]
 ·cases h
theorem aaU {ρ:Ren} {κ':Nat} (h:TN ρ κ'=true) (μ:Mu):yM ρ μ κ'=some none:=by
 unfold TN at h
 unfold yM
 split at h
 ·rename_i hl; rw [hl]
 ·cases h
mutual
def tn (ρ:Ren):AV→AV→Option Prop
 | _,.any=>some True
 | .d x,.d y=>some (tU x y)
 | .own κ n,.own κ' n'=>bif tl ρ κ' κ then some (n=n') else none
 | .d (.v (.slice none 0 0)),.own κ' n'=>bif TN ρ κ' then some (n'=0) else none
 | .ptr κ o,.ptr κ' o'=>bif tl ρ κ' κ&&Nat.beq o o' then some True else none
 | .ref cs,.ref EC=>some (cs=EC)
 | .fn f l,.fn f' l'=>bif Nat.beq f f' then yN ρ l l' else none
 | .fb l,.fb l'=>yN ρ l l'
 | .ag l,.ag l'=>yN ρ l l'
 | .yC κ,.yC κ'=>bif tl ρ κ' κ then some True else none
 | .C8 n f,.C8 n' f'=>some (n=n'∧f=f')
 | .A8 n f,.A8 n' f'=>some (n=n'∧f=f')
 | .A8 n f,.d (.sl n' f')=>some (n=n'∧f=f')
 | .zI κ k i o,.zI κ' k' i' o'=>bif tl ρ κ' κ&&Nat.beq k k'&&Nat.beq o o' then some (i=i') else none
 | _,_=>none
def yN (ρ:Ren):List AV→List AV→Option Prop
 | [],[]=>some True
 | x :: r,y :: s=>(match tn ρ x y,yN ρ r s with | some a,some b=>some (a∧b) | _,_=>none)
 | _,_=>none
end
def ny (ρ:Ren):bQ→bQ→Option Prop
 | .box cs,.box EC=>yN ρ cs EC
 | .row e k n f,.row e' k' n' f'=>bif Nat.beq e e'&&Nat.beq k k' then some (n=n'∧∀ i,i < n→f i=f' i) else none
 | .mp n f,.mp n' f'=>some (n=n'∧f=f')
 | .it mk n s,.it mk' n' s'=>bif tl ρ mk' mk then some (n=n'∧s=s') else none
 | .mx q,.mx q'=>some (q=q')
 | _,_=>none
def Lf (ρ:Ren) (sl:List (Nat × AV)):List (Nat × AV)→Option Prop
 | []=>some True
 | (t,x) :: r=>(match tn ρ (St.get sl t) x,Lf ρ sl r with | some a,some b=>some (a∧b) | _,_=>none)
def Jo (ρ:Ren) (lb:List (Nat × bQ)):List (Nat × bQ)→Option Prop
 | []=>some True
 | (κ,b) :: r=>(match look ρ κ,Jo ρ lb r with
  | some (some o),some p=>(match look lb o with | some c=>(match ny ρ c b with | some q=>some (q∧p) | none=>none) | none=>none)
  | some none,some p=>(match b with | .row _ _ n _=>some (n=0∧p) | _=>none)
  | _,_=>none)
def FJ:Ren→Bool
 | []=>true
 | (_,some o) :: r=>r.all (fun p=>match p.2 with | some q=>!Nat.beq q o | none=>true)&&FJ r
 | (_,none) :: r=>FJ r
section
variable {w : World} {S : Nat → Prop} {μ : Mu} {ν : Nat → Bool} {ρ : Ren}
theorem pT {α:Type} {b:Bool} {x y:α} (h:(bif b then some x else none)=some y):b=true∧x=y:=by
 cases b with
 | true=>exact ⟨rfl,Option.some.inj h⟩
 | false=>cases h
mutual
theorem yO:∀ (x y:AV) (ob:Prop),tn ρ x y=some ob→ob→∀ v,Rel w S μ ν x v→Rel w S (yM ρ μ) ν y v
 | x,y,ob,h,cm,v,hr=>by
  unfold tn at h
  split at h
  ·exact .any v
  ·simp only [Option.some.injEq] at h
   subst h
   exact .d (cm _ _ _ (jd.1 hr))
  ·obtain ⟨h1,rfl⟩:=pT h
   subst cm
   have hk:=BW h1 μ
   cases hr with
   | eI hμ=>exact .eI (by rw [hk]; exact hμ)
   | own hμ=>exact .own (by rw [hk]; exact hμ)
  ·obtain ⟨h1,rfl⟩:=pT h
   have:=dg rfl hr
   rw [this,cm]
   exact .eI (aaU h1 μ)
  ·obtain ⟨h1,-⟩:=pT h
   simp only [Bool.and_eq_true] at h1
   have e:=Nat.eq_of_beq_eq_true h1.2
   subst e
   cases hr with
   | ptr hμ=>exact .ptr (by rw [BW h1.1 μ]; exact hμ)
  ·simp only [Option.some.injEq] at h
   subst h
   subst cm
   cases hr with
   | ref gu hc h=>exact .ref gu hc h
  ·rename_i f l f' l'
   cases hb:Nat.beq f f' with
   | false=>rw [hb] at h; cases h
   | true =>
    rw [hb] at h
    have e:=Nat.eq_of_beq_eq_true hb
    subst e
    simp only [cond_true] at h
    cases hr with
    | fn hl hh =>
     obtain ⟨q1,q2⟩:=vh l l' ob h cm
     exact .fn (by omega) (fun i hi=>q2 i hi _ (hh i (by omega)))
  ·rename_i l l'
   cases hr with
   | fb hl hh =>
    obtain ⟨q1,q2⟩:=vh l l' ob h cm
    exact .fb (by omega) (fun i hi=>q2 i hi _ (hh i (by omega)))
  ·rename_i l l'
   cases hr with
   | ag hl hh =>
    obtain ⟨q1,q2⟩:=vh l l' ob h cm
    exact .ag (by omega) (fun i hi=>q2 i hi _ (hh i (by omega)))
  ·obtain ⟨h1,-⟩:=pT h
   cases hr with
   | yC hμ=>exact .yC (by rw [BW h1 μ]; exact hμ)
  ·simp only [Option.some.injEq] at h
   subst h
   obtain ⟨rfl,rfl⟩:=cm
   cases hr with
   | C8 hd=>exact .C8 hd
  ·simp only [Option.some.injEq] at h
   subst h
   obtain ⟨rfl,rfl⟩:=cm
   cases hr with
   | A8 hd=>exact .A8 hd
  ·simp only [Option.some.injEq] at h
   subst h
   obtain ⟨rfl,rfl⟩:=cm
   cases hr with
   | A8 hd=>exact .d hd
  ·obtain ⟨h1,rfl⟩:=pT h
   subst cm
   simp only [Bool.and_eq_true] at h1
   have e1:=Nat.eq_of_beq_eq_true h1.1.2
   have e2:=Nat.eq_of_beq_eq_true h1.2
   subst e1; subst e2
   cases hr with
   | zI hμ=>exact .zI (by rw [BW h1.1.1 μ]; exact hμ)
  ·cases h
theorem vh:∀ (l l':List AV) (ob:Prop),yN ρ l l'=some ob→ob→l.length=l'.length∧∀ i,i < l'.length→∀ v,Rel w S μ ν (l.getD i default) v→Rel w S (yM ρ μ) ν (l'.getD i default) v
 | [],[],_,_,_=>⟨rfl,fun i hi=>absurd hi (by simp)⟩
 | x :: r,y :: s,ob,h,cm=>by
  simp only [yN] at h
  cases h1:tn ρ x y with
  | none=>rw [h1] at h; cases h
  | some a =>
   cases h2:yN ρ r s with
   | none=>rw [h1,h2] at h; cases h
   | some b =>
    rw [h1,h2] at h
    simp only [Option.some.injEq] at h
    subst h
    obtain ⟨q1,q2⟩:=vh r s b h2 cm.2
    refine ⟨by simp [q1],fun i hi=>?_⟩
    cases i with
    | zero=>simpa using yO x y a h1 cm.1
    | succ i=>simpa using q2 i (by simpa using hi)
 | [],_ :: _,_,h,_=>by simp [yN] at h
 | _ :: _,[],_,h,_=>by simp [yN] at h
end
theorem acE {b b':bQ} {ob:Prop} (h:ny ρ b b'=some ob) (cm:ob) {g c:Nat} (hb:eA w S μ b g c):eA w S (yM ρ μ) b' g c:=by
 cases b with
 | box cs =>
  cases b' with
  | row=>simp [ny] at h
  | mp=>simp [ny] at h
  | it=>simp [ny] at h
  | mx=>simp [ny] at h
  | box EC =>
   simp only [ny] at h
   obtain ⟨cur,e,h1,h2,h3,h4⟩:=hb
   have hlen:=(vh (w:=w) (S:=S) (μ:=μ) (ν:=fun _=>false) cs EC ob h cm).1
   refine ⟨cur,e,h1,h2,by omega,fun j hj=>?_⟩
   obtain ⟨x,hx,hr⟩:=h4 j (by omega)
   exact ⟨x,hx,fun ν=>(vh (w:=w) (S:=S) (μ:=μ) (ν:=ν) cs EC ob h cm).2 j hj x (hr ν)⟩
 | row e k n f =>
  cases b' with
  | box=>simp [ny] at h
  | mp=>simp [ny] at h
  | it=>simp [ny] at h
  | mx=>simp [ny] at h
  | row e' k' n' f' =>
   simp only [ny] at h
   obtain ⟨h1,rfl⟩:=pT h
   simp only [Bool.and_eq_true] at h1
   have e1:=Nat.eq_of_beq_eq_true h1.1
   have e2:=Nat.eq_of_beq_eq_true h1.2
   subst e1; subst e2
   obtain ⟨rfl,hf⟩:=cm
   obtain ⟨cur,q1,q2,q3,q4,q5,q6⟩:=hb
   refine ⟨cur,q1,q2,q3,q4,q5,fun i hi=>?_⟩
   rw [← hf i hi]
   exact q6 i hi
 | mp n f =>
  cases b' with
  | box=>simp [ny] at h
  | row=>simp [ny] at h
  | it=>simp [ny] at h
  | mx=>simp [ny] at h
  | mp n' f' =>
   simp only [ny,Option.some.injEq] at h
   subst h
   obtain ⟨rfl,rfl⟩:=cm
   exact hb
 | it mk n s =>
  cases b' with
  | box=>simp [ny] at h
  | row=>simp [ny] at h
  | mp=>simp [ny] at h
  | mx=>simp [ny] at h
  | it mk' n' s' =>
   simp only [ny] at h
   obtain ⟨h1,rfl⟩:=pT h
   obtain ⟨rfl,rfl⟩:=cm
   obtain ⟨mg,cc,q0,q1⟩:=hb
   exact ⟨mg,cc,by rw [BW h1 μ]; exact q0,q1⟩
 | mx =>
  cases b' with
  | mx q' =>
   simp only [ny,Option.some.injEq] at h
   subst h
   obtain rfl:=cm
   exact hb
  | _=>simp [ny] at h
theorem acF {b b':bQ} {ob:Prop} (h:ny ρ b b'=some ob) (cm:ob) {y:Option (Option (Nat × Nat))} (hb:iM w S μ b y):iM w S (yM ρ μ) b' y:=by
 cases y with
 | none=>cases b <;> exact hb.elim
 | some y =>
  cases y with
  | none =>
   cases b with
   | box=>exact hb.elim
   | mp=>exact hb.elim
   | it=>exact hb.elim
   | mx=>exact hb.elim
   | row e k n f =>
    cases b' with
    | box=>simp [ny] at h
    | mp=>simp [ny] at h
    | it=>simp [ny] at h
    | mx=>simp [ny] at h
    | row e' k' n' f' =>
     simp only [ny] at h
     obtain ⟨_,rfl⟩:=pT h
     have:n=0:=hb
     show n'=0
     rw [← cm.1,this]
  | some gc=>obtain ⟨g,c⟩:=gc; exact (acE h cm hb.at).ok
theorem Di {lb:List (Nat × bQ)}:∀ {lb':List (Nat × bQ)} {ob:Prop},Jo ρ lb lb'=some ob→ob→∀ κ b,look lb' κ=some b →
  (∃ o c q,look ρ κ=some (some o)∧look lb o=some c∧ny ρ c b=some q∧q)∨(look ρ κ=some none∧∃ e k f,b=.row e k 0 f)
 | [],_,_,_,κ,b,hl=>by simp [look] at hl
 | (κ0,b0) :: r,ob,h,cm,κ,b,hl=>by
  simp only [Jo] at h
  split at h
  ·rename_i o p hρ hr
   split at h
   ·rename_i c hc
    split at h
    ·rename_i q hq
     simp only [Option.some.injEq] at h
     subst h
     rw [cw] at hl
     split at hl
     ·rename_i e
      subst e
      simp only [Option.some.injEq] at hl
      subst hl
      exact .inl ⟨o,c,q,hρ,hc,hq,cm.1⟩
     ·exact Di hr cm.2 κ b hl
    ·cases h
   ·cases h
  ·rename_i p hρ hr
   split at h
   ·rename_i e k n f
    simp only [Option.some.injEq] at h
    subst h
    rw [cw] at hl
    split at hl
    ·rename_i e'
     subst e'
     simp only [Option.some.injEq] at hl
     subst hl
     rw [cm.1]
     exact .inr ⟨hρ,e,k,f,rfl⟩
    ·exact Di hr cm.2 κ b hl
   ·cases h
  ·cases h
theorem Hm:∀ {ρ:Ren},FJ ρ=true→∀ κ κ' o,look ρ κ=some (some o)→look ρ κ'=some (some o)→κ=κ'
 | [],_,κ,κ',o,h,_=>by simp [look] at h
 | (k0,some o0) :: r,hi,κ,κ',o,h,h'=>by
  simp only [FJ,Bool.and_eq_true,List.all_eq_true] at hi
  rw [cw] at h h'
  have no:∀ κ1,look r κ1=some (some o0)→False:=fun κ1 hk=>by
   have:=hi.1 (κ1,some o0) (jt hk)
   simp [Nat.beq_refl] at this
  split at h
  ·rename_i e1
   simp only [Option.some.injEq] at h
   split at h'
   ·rename_i e2; rw [← e1,← e2]
   ·rw [← h] at h'; exact (no κ' h').elim
  ·split at h'
   ·rename_i e2
    simp only [Option.some.injEq] at h'
    rw [← h'] at h
    exact (no κ h).elim
   ·exact Hm hi.2 κ κ' o h h'
 | (k0,none) :: r,hi,κ,κ',o,h,h'=>by
  simp only [FJ] at hi
  rw [cw] at h h'
  split at h
  ·cases h
  ·split at h'
   ·cases h'
   ·exact Hm hi κ κ' o h h'
theorem PF {sl:List (Nat × AV)}:∀ {sl':List (Nat × AV)} {ob:Prop},Lf ρ sl sl'=some ob→ob→∀ t x,look sl' t=some x→∃ q,tn ρ (St.get sl t) x=some q∧q
 | [],_,_,_,t,x,hl=>by simp [look] at hl
 | (t0,x0) :: r,ob,h,cm,t,x,hl=>by
  simp only [Lf] at h
  split at h
  ·rename_i a b h1 h2
   simp only [Option.some.injEq] at h
   subst h
   rw [cw] at hl
   split at hl
   ·rename_i e
    subst e
    simp only [Option.some.injEq] at hl
    subst hl
    exact ⟨a,h1,cm.1⟩
   ·exact PF h2 cm.2 t x hl
  ·cases h
end
theorem Zn {ρ:Ren} {μ:Mu} {κ g c:Nat} (h:yM ρ μ κ=some (some (g,c))):∃ o,look ρ κ=some (some o)∧μ o=some (some (g,c)):=by
 unfold yM at h
 split at h
 ·rename_i o hl; exact ⟨o,hl,h⟩
 ·cases h
 ·cases h
theorem dA.le {C:Cx} {st st':St} {a:Act} {w:World} {S:Nat→Prop} {μ:Mu} {ν:Nat→Bool} (hs:dA C st.gb a w S μ ν) {ρ:Ren} {DJ Jj:Prop} (hi:FJ ρ=true) (h1:Lf ρ st.sl st'.sl=some DJ) (BV:DJ) (h2:Jo ρ st.lb st'.lb=some Jj) (DK:Jj):dA C st'.gb a w S (yM ρ μ) ν:=by
 have old:∀ κ b,look st'.lb κ=some b→∀ g c,yM ρ μ κ=some (some (g,c))→∃ o d,look ρ κ=some (some o)∧look st.lb o=some d∧μ o=some (some (g,c)):=by
  intro κ b hb g c hm
  obtain ⟨o,ho,hμ⟩:=Zn hm
  rcases Di h2 DK κ b hb with ⟨o',d,q,q1,q2,_⟩ | ⟨q1,_⟩
  ·rw [ho] at q1
   simp only [Option.some.injEq] at q1
   subst q1
   exact ⟨o,d,ho,q2,hμ⟩
  ·rw [ho] at q1; cases q1
 refine ⟨hs.tmps,hs.defers,fun t=>?_,fun κ b hb=>?_,fun κ κ' b b' g c c' hb od hm IH=>?_,fun κ b g c hb hm=>?_,hs.fA,hs.fresh,hs.bound,hs.kept⟩
 ·simp only [St.gb,St.get]
  cases hl:look st'.sl t with
  | none=>exact .any _
  | some x =>
   obtain ⟨q,q1,q2⟩:=PF h1 BV t x hl
   exact yO _ x q q1 q2 _ (hs.eJ t)
 ·rcases Di h2 DK κ b hb with ⟨o,d,q,q1,q2,q3,q4⟩ | ⟨q1,e,k,f,rfl⟩
  ·have hm:yM ρ μ κ=μ o:=by simp [yM,q1]
   rw [hm]
   exact acF q3 q4 (hs.mem o d q2)
  ·have hm:yM ρ μ κ=some none:=by simp [yM,q1]
   rw [hm]
   rfl
 ·obtain ⟨o,d,x1,x2,x3⟩:=old κ b hb g c hm
  obtain ⟨o',d',y1,y2,y3⟩:=old κ' b' od g c' IH
  have:=hs.inj o o' d d' g c c' x2 y2 x3 y3
  subst this
  exact Hm hi κ κ' o x1 y1
 ·obtain ⟨o,d,x1,x2,x3⟩:=old κ b hb g c hm
  exact hs.own o d g c x2 x3
theorem Nr.of {st st':St} (ρ:Ren) {DJ Jj:Prop} (hi:FJ ρ=true) (h1:Lf ρ st.sl st'.sl=some DJ) (BV:DJ) (h2:Jo ρ st.lb st'.lb=some Jj) (DK:Jj):Nr st st':=by
 rintro C a w ⟨S,μ,dE⟩
 exact ⟨S,yM ρ μ,fun ν=>(dE ν).le hi h1 BV h2 DK⟩
theorem TP {ρ:Ren} {sl:List (Nat × AV)}:∀ {sl':List (Nat × AV)} {ob:Prop},Lf ρ sl sl'=some ob→ob→∀ p,p∈sl'→∃ q,tn ρ (St.get sl p.1) p.2=some q∧q
 | [],_,_,_,p,hp=>by cases hp
 | (t0,x0) :: r,ob,h,cm,p,hp=>by
  simp only [Lf] at h
  split at h
  ·rename_i a b h1 h2
   simp only [Option.some.injEq] at h
   subst h
   rcases List.mem_cons.1 hp with rfl | hp
   ·exact ⟨a,h1,cm.1⟩
   ·exact TP h2 cm.2 p hp
  ·cases h
section
variable {g : Goal} {k : List Item} {st : St}
theorem aaV {C:Cx} {a:Act} {w:World} (hs:ku C st a w) (hT:og C.P g.T) (ρ:Ren) {l:List AV} {ro:List (Nat × bQ)} {ob:Ob} {DJ Jj:Prop} (h:wX g.T st g.fn.results.toList=some (l,ro,ob)) (cm:ob.den) (hi:FJ ρ=true) (h1:tn ρ (tg l) g.res=some DJ) (BV:DJ) (h2:Jo ρ st.lb g.dz=some Jj) (DK:Jj) :
  ∃ v,(results g.fn a.tmps).run C.P w=.ok v w∧QV C g.res g.dz (.returned v) w:=by
 obtain ⟨S,μ,dE⟩:=hs
 have h0:=dE fun _=>false
 obtain ⟨vs,q1,_⟩:=rN hT h0 h cm
 refine ⟨_,wY q1,_,S,yM ρ μ,rfl,?_⟩
 have hle:=h0.le (st':=⟨[],g.dz⟩) hi (by rfl) trivial h2 DK
 refine ⟨fun ν=>?_,hle.mem,hle.inj,fun κ b g c h1 h2=>(hle.own κ b g c h1 h2).imp id .inl,h0.fA,fun b hb=>(h0.fresh b hb).imp id (Or.imp id .inl),h0.bound,h0.kept.BF fun _ h=>.inl h⟩
 obtain ⟨vs',p1,p2⟩:=rN hT (dE ν) h cm
 have:vs'=vs:=by rw [q1] at p1; cases p1; rfl
 subst this
 exact yO _ _ DJ h1 BV _ (Hl p2)
theorem G.ahQ (hg:g.Nrm) (hT:og g.P g.T) (hf:g.P.funcs[g.f]? = some g.fn) (ρ:Ren) {l:List AV} {ro:List (Nat × bQ)} {ob:Ob} {DJ Jj:Prop} (h:wX g.T st g.fn.results.toList=some (l,ro,ob)) (cm:ob.den) (hi:FJ ρ=true) (h1:tn ρ (tg l) g.res=some DJ) (BV:DJ) (h2:Jo ρ st.lb g.dz=some Jj) (DK:Jj):G g [] st∧∀ k,G g (.code .ret :: k) st :=
 G.out hg hf (fun C a w c1 hs=>aaV (g:=g) hs (by rw [c1]; exact hT) ρ h cm hi h1 BV h2 DK)
theorem Zo {nw:List (Nat × Nat)} (hn:g.Wp nw) {C:Cx} {a:Act} {w:World} (hk:g.kept a.tmps) (hs:ku C st a w) (hT:og C.P g.T) (ρ:Ren) {l:List AV} {ro:List (Nat × bQ)} {ob:Ob} {DJ Jj ob3:Prop} (h:wX g.T st g.fn.results.toList=some (l,ro,ob)) (cm:ob.den) (hi:FJ ρ=true) (h1:tn ρ (tg l) g.res=some DJ) (BV:DJ) (h2:Jo ρ st.lb g.dz=some Jj) (DK:Jj) (h3:Lf ρ st.sl (nw.map fun p=>(p.1,.ptr p.2 0))=some ob3) (aem:ob3) :
  ∃ v,(results g.fn a.tmps).run C.P w=.ok v w∧Yb C g.res g.dz nw g.tm (.returned v) w:=by
 obtain ⟨S,μ,dE⟩:=hs
 have h0:=dE fun _=>false
 obtain ⟨vs,q1,_⟩:=rN hT h0 h cm
 refine ⟨_,wY q1,_,S,yM ρ μ,rfl,?_,fun p hp ν=>?_⟩
 ·have hle:=h0.le (st':=⟨[],g.dz⟩) hi (by rfl) trivial h2 DK
  refine ⟨fun ν=>?_,hle.mem,hle.inj,fun κ b g c h1 h2=>(hle.own κ b g c h1 h2).imp id .inl,h0.fA,fun b hb=>(h0.fresh b hb).imp id (Or.imp id .inl),h0.bound,h0.kept.BF fun _ h=>.inl h⟩
  obtain ⟨vs',p1,p2⟩:=rN hT (dE ν) h cm
  have:vs'=vs:=by rw [q1] at p1; cases p1; rfl
  subst this
  exact yO _ _ DJ h1 BV _ (Hl p2)
 ·obtain ⟨q,e1,e2⟩:=TP h3 aem (p.1,.ptr p.2 0) (List.mem_map.2 ⟨p,hp,rfl⟩)
  rw [← hk p.1 (hn.pr p hp)]
  exact yO _ _ q e1 e2 _ ((dE ν).eJ p.1)
theorem G.acG {nw:List (Nat × Nat)} (hg:g.Wp nw) (hT:og g.P g.T) (hf:g.P.funcs[g.f]? = some g.fn) (ρ:Ren) {l:List AV} {ro:List (Nat × bQ)} {ob:Ob} {DJ Jj ob3:Prop} (h:wX g.T st g.fn.results.toList=some (l,ro,ob)) (cm:ob.den) (hi:FJ ρ=true) (h1:tn ρ (tg l) g.res=some DJ) (BV:DJ) (h2:Jo ρ st.lb g.dz=some Jj) (DK:Jj) (h3:Lf ρ st.sl (nw.map fun p=>(p.1,.ptr p.2 0))=some ob3) (aem:ob3):G g [] st∧∀ k,G g (.code .ret :: k) st :=
 G.ahP hg hf (fun C a w c1 hk hs=>Zo (g:=g) hg hk hs (by rw [c1]; exact hT) ρ h cm hi h1 BV h2 DK h3 aem)
end
def Zp (P:Program) (gf:FuncId) (cS:List AV) (ys:List (List AV)):Prop :=
 gF P gf=true∧∀ (w0:World) (S:Nat→Prop) (μ:Mu) (De:Array Value) (l:Nat) (J:Nat→(Nat→Prop)→World→Prop) (Jx:(Nat→Prop)→World→Prop) (F0:Nat→Prop),
  (∀ b,S b→b < w0.heap.size)→jU w0 S→(∀ ν,dV w0 S μ ν cS De.toList)→(∀ b,S b→¬ F0 b)→(∀ b,F0 b→b < w0.heap.size) →
  (∀ i F W W',J i F W→Kept W W' (fun b=>w0.heap.size≤b∧¬ F b∧¬ S b)→J i F W')→(∀ F W W',Jx F W→Kept W W' (fun b=>w0.heap.size≤b∧¬ F b∧¬ S b)→Jx F W') →
  (∀ i F W (vs:Array Value),i < ys.length→J i F W→(∀ ν,dV W (fun _=>False) (fun _=>none) ν (ys.getD i []) vs.toList)→YieldAt Fence.wide 0 P l vs W fun e W'=>∃ F',(∀ b,F' b→F b∨W.heap.size≤b)∧(∀ b,F' b→b < W'.heap.size)∧Kept W W' F∧((e=.returned (.bool true)∧J (i+1) F' W')∨(e=.returned (.bool false)∧Jx F' W'))) →
  J 0 F0 w0→Calls P gf (#[.func (.yield l) #[] #[]]++De) w0 fun e w'=>(∃ v,e=.returned v)∧((∃ F,J ys.length F w')∨∃ F,Jx F w')
structure Core (A:M) (tm:Array Value) (w:World) (S:Nat→Prop) (μ:Mu) (ν:Nat→Bool):Prop where
 eJ:∀ t,Rel w S μ ν (A.sl t) (tm.getD t undef)
 mem:∀ κ b,A.lb κ=some b→iM w S μ b (μ κ)
 inj:∀ κ κ' b b' g c c',A.lb κ=some b→A.lb κ'=some b'→μ κ=some (some (g,c))→μ κ'=some (some (g,c'))→κ=κ'
 bound:∀ b,S b→b < w.heap.size
def tY (A:M) (μ:Mu) (q:Nat):Prop:=∃ κ b c,A.lb κ=some b∧μ κ=some (some (q,c))
theorem dA.core {C:Cx} {A:M} {a:Act} {w:World} {S:Nat→Prop} {μ:Mu} {ν:Nat→Bool} (h:dA C A a w S μ ν):Core A a.tmps w S μ ν:=⟨h.eJ,h.mem,h.inj,h.bound⟩
theorem dA.TQ {C:Cx} {A:M} {a:Act} {w:World} {S:Nat→Prop} {μ:Mu} {ν:Nat→Bool} (h:dA C A a w S μ ν) {q:Nat} (hq:tY A μ q):C.w0.heap.size≤q∨C.T0 q:=by
 obtain ⟨κ,b,c,h1,h2⟩:=hq
 exact h.own κ b q c h1 h2
theorem Core.tp {A:M} {tm:Array Value} {w:World} {S:Nat→Prop} {μ:Mu} {ν:Nat→Bool} (h:Core A tm w S μ ν) {q:Nat} (hq:tY A μ q):∃ b c,eA w S μ b q c:=by
 obtain ⟨κ,b,c,h1,h2⟩:=hq
 have:=h.mem κ b h1
 rw [h2] at this
 exact ⟨b,c,this.at⟩
theorem eA.Kv {w:World} {S:Nat→Prop} {μ:Mu} {b:bQ} {g cap:Nat} {o:Loop} (h:eA w S μ b g cap):w.heap[g]?≠some (.loop o):=by
 cases b with
 | box cs=>obtain ⟨cur,e,hg,_⟩:=h; rw [hg]; simp
 | row e k n f=>obtain ⟨cur,hg,_⟩:=h; rw [hg]; simp
 | mp n f=>obtain ⟨cur,hg,_⟩:=h; rw [hg]; simp
 | it mk n seen=>obtain ⟨mg,c,_,hg,_⟩:=h; rw [hg]; simp
 | mx=>obtain ⟨m,_,cur,hg,_⟩:=h; rw [hg]; simp
theorem Core.keep {A:M} {tm tm':Array Value} {w w':World} {S:Nat→Prop} {μ:Mu} {ν:Nat→Bool} (h:Core A tm w S μ ν) (ht:∀ t,A.sl t=.any∨tm'.getD t undef=tm.getD t undef) (hS:∀ b,S b→w'.heap[b]? = w.heap[b]?) (hO:∀ q,tY A μ q→w'.heap[q]? = w.heap[q]?) (jT:w.heap.size≤w'.heap.size):Core A tm' w' S μ ν:=by
 refine ⟨fun t=>?_,fun κ b hb=>?_,h.inj,fun b hb=>Nat.lt_of_lt_of_le (h.bound b hb) jT⟩
 ·rcases ht t with e | e
  ·rw [e]; exact .any _
  ·rw [e]; exact (h.eJ t).mono (fun _ x=>x) hS (fun _ _ e=>e)
 ·have hm:=h.mem κ b hb
  refine hm.mono (fun _ x=>x) hS (fun _ _ e=>e) (fun g c e=>?_)
  rw [e] at hm
  exact ⟨hO g ⟨κ,b,c,hb,e⟩,hm.at.not⟩
def Cx.at (P:Program) (nt:Nat) (w:World) (S:Nat→Prop) (A:M) (μ:Mu) (hg:jU w S) (hm:∀ κ b,A.lb κ=some b→iM w S μ b (μ κ)) (hb:∀ b,S b→b < w.heap.size) (dl:List Deferred) (dok:∀ d,d∈dl→∃ q,d = { target:=.collected q,args:=#[] }∧w.heap[q]? = some (.deferred (some []))∧¬ S q) (dnd:dl.Nodup):Cx :=
 ⟨P,w,S,tY A μ,nt,hg,fun b hs ⟨κ,bk,c,h1,h2⟩=>by
  have:=hm κ bk h1
  rw [h2] at this
  exact this.at.not hs,hb,dl,fun d hd=>by
  obtain ⟨q,e,h1,h2⟩:=dok d hd
  refine ⟨q,e,h1,fun ⟨κ,bk,c,q1,q2⟩=>?_,h2⟩
  have:=hm κ bk q1
  rw [q2] at this
  exact this.at.th h1,dnd⟩
theorem Core.sim {P:Program} {nt:Nat} {A:M} {a:Act} {w:World} {S:Nat→Prop} {μ:Mu} {ν:Nat→Bool} (h:Core A a.tmps w S μ ν) (hn:a.tmps.size=nt) (hg:jU w S) (hm hb dl dok dnd) (hd:a.defers=dl):dA (Cx.at P nt w S A μ hg hm hb dl dok dnd) A a w S μ ν :=
 ⟨hn,hd,h.eJ,h.mem,h.inj,fun κ b g c h1 h2=>.inr ⟨κ,b,c,h1,h2⟩,fun _ x=>x,fun _ x=>.inl x,h.bound,Kept.refl _ _⟩
def ou {σ β Y:Type} (f:σ→Y→β ⊕ σ):List Y→σ→β ⊕ σ
 | [],s=>.inr s
 | y :: r,s=>match f s y with
  | .inl b=>.inl b
  | .inr s'=>ou f r s'
theorem PG {σ β Y:Type} {f:σ→Y→β ⊕ σ}:∀ {l:List Y} {i:Nat} {s s1:σ} (h:i < l.length),ou f (l.take i) s=.inr s1→ou f (l.take (i+1)) s=f s1 l[i]∧(∀ b,f s1 l[i]=.inl b→ou f l s=.inl b)
 | [],i,s,s1,h,_=>absurd h (by simp)
 | y :: r,0,s,s1,_,e=>by
  simp only [List.take_zero,ou,Sum.inr.injEq] at e
  subst e
  refine ⟨?_,fun b hb=>?_⟩
  ·simp only [List.take_succ_cons,List.take_zero,ou,List.getElem_cons_zero]
   cases f s y <;> rfl
  ·simp only [List.getElem_cons_zero] at hb
   simp only [ou,hb]
 | y :: r,i+1,s,s1,h,e=>by
  simp only [List.take_succ_cons,ou] at e ⊢
  cases hf:f s y with
  | inl b=>rw [hf] at e; cases e
  | inr s' =>
   rw [hf] at e
   simp only at e ⊢
   have:=PG (l:=r) (by simpa using h) e
   simpa using this
theorem Lg {σ β Y:Type} {f:σ→Y→β ⊕ σ} {I:Nat→σ→Prop} {B:β→Prop}:∀ (l:List Y) (k:Nat),(∀ i s y,I (k+i) s→l[i]? = some y→match f s y with | .inl b=>B b | .inr s'=>I (k+i+1) s')→∀ s,I k s→match ou f l s with | .inl b=>B b | .inr s'=>I (k+l.length) s'
 | [],k,_,s,h=>h
 | y :: r,k,hf,s,h=>by
  have h1:=hf 0 s y h (by simp)
  simp only [ou]
  cases e:f s y with
  | inl b=>rw [e] at h1; exact h1
  | inr s' =>
   rw [e] at h1
   have:=Lg (I:=I) (B:=B) r (k+1) (fun i s y hs hy=>by
    have:=hf (i+1) s y (by rw [show k+(i+1)=k+1+i by omega]; exact hs) (by simpa using hy)
    rw [show k+(i+1)+1=k+1+i+1 by omega] at this
    exact this) s' h1
   rw [show k+(y :: r).length=k+1+r.length by simp; omega]
   exact this
structure Reb (C C':Cx):Prop where
 sub:∀ b,C.S0 b→C'.S0 b
 new:∀ b,C'.S0 b→C.S0 b∨C.w0.heap.size≤b∨C.T0 b
 kept:Kept C.w0 C'.w0 C.T0
 tk:∀ q,C'.TD q→C.TD q∨C.w0.heap.size≤q
theorem QV.reb {C C':Cx} (h:Reb C C') {res:AV} {dz:List (Nat × bQ)} {e:Ending} {w:World} (hp:QV C' res dz e w):QV C res dz e w:=by
 obtain ⟨v,S',μ',rfl,B⟩:=hp
 refine ⟨v,S',μ',rfl,B.res,B.mem,B.inj,fun κ b g c h1 h2=>?_,fun b hb=>B.sub b (h.sub b hb),fun b hb=>?_,B.bound,(h.kept.BF fun _ x=>.inl x).trans B.kept fun b hb ht=>?_⟩
 ·rcases B.own κ b g c h1 h2 with q | q
  ·exact .inl (Nat.le_trans h.kept.size q)
  ·exact (h.tk g q).symm
 ·rcases B.new b hb with q | q | q
  ·exact (h.new b q).imp id (Or.imp id .inl)
  ·exact .inr (.inl (Nat.le_trans h.kept.size q))
  ·exact .inr ((h.tk b q).symm)
 ·exact (h.tk b ht).resolve_right (by omega)
theorem ZN.reb {P:Program} {f:FuncId} {res:AV} {dz:List (Nat × bQ)} {C C':Cx} {b:Frame} {cs:List Frame} {m:Machine} (h:Reb C C') (hz:ZN P f res dz C' b cs m):ZN P f res dz C b cs m :=
 let ⟨e,w',fr,q1,q2⟩:=hz
 ⟨e,w',fr,q1.reb h,q2⟩
def Bd:List Nat→List AV→List (Nat × AV)
 | p :: ps,x :: xs=>(p,x) :: Bd ps xs
 | _,_=>[]
def Wr (nt:Nat) (prl:List Nat):List Nat→Bool
 | []=>true
 | p :: ps=>Nat.ble (p+1) nt&&!prl.any (fun q=>Nat.beq q p)&&!ps.any (fun q=>Nat.beq q p)&&Wr nt prl ps
theorem any_beq {l:List Nat} {p:Nat} (h:(!l.any fun q=>Nat.beq q p)=true):p ∉ l:=fun hp=>by
 have:(l.any fun q=>Nat.beq q p)=true:=List.any_eq_true.2 ⟨p,hp,Nat.beq_refl p⟩
 rw [this] at h
 cases h
theorem PH {w:World} {S:Nat→Prop} {μ:Mu} {ν:Nat→Bool} {nt:Nat} {prl:List Nat}:∀ (ps:List Nat) (xs:List AV) (vs:List Value) (t:Array Value),Wr nt prl ps=true→ps.length=xs.length→t.size=nt→dV w S μ ν xs vs →
  ((ps.zip vs).foldl (fun t (p:Nat × Value)=>t.setIfInBounds p.1 p.2) t).size=nt∧(∀ u,u ∉ ps→((ps.zip vs).foldl (fun t (p:Nat × Value)=>t.setIfInBounds p.1 p.2) t).getD u undef=t.getD u undef) ∧
   ∀ u x,look (Bd ps xs) u=some x→Rel w S μ ν x (((ps.zip vs).foldl (fun t (p:Nat × Value)=>t.setIfInBounds p.1 p.2) t).getD u undef)
 | [],xs,vs,t,_,_,ht,_=>⟨by simpa using ht,fun u _=>by simp,fun u x h=>by simp [Bd,look] at h⟩
 | p :: ps,[],vs,t,_,h,_,_=>absurd h (by simp)
 | p :: ps,x :: xs,[],t,_,_,_,hr=>absurd hr.1 (by simp)
 | p :: ps,x :: xs,v :: vs,t,hp,hl,ht,hr=>by
  simp only [Wr,Bool.and_eq_true] at hp
  obtain ⟨⟨⟨h1,h2⟩,h3⟩,h4⟩:=hp
  have h1:=Nat.le_of_ble_eq_true h1
  have h3:=any_beq h3
  have hr':dV w S μ ν xs vs:=⟨by simpa using hr.1,fun i hi=>by simpa using hr.2 (i+1) (by simpa using hi)⟩
  obtain ⟨q1,q2,q3⟩:=PH ps xs vs (t.setIfInBounds p v) h4 (by simpa using hl) (by simpa using ht) hr'
  simp only [List.zip_cons_cons,List.foldl_cons]
  refine ⟨q1,fun u hu=>?_,fun u y hy=>?_⟩
  ·rw [q2 u (fun h=>hu (by simp [h]))]
   exact dt _ _ _ _ (fun e=>hu (by simp [e]))
  ·simp only [Bd,cw] at hy
   split at hy
   ·rename_i e
    subst e
    simp only [Option.some.injEq] at hy
    subst hy
    rw [q2 p h3,iy _ _ _ (by omega)]
    simpa using hr.2 0 (by simp)
   ·exact q3 u y hy
structure IK (w:World) (S ED S1:Nat→Prop) (A:M) (μ1:Mu) (r:Loop) (F:Nat→Prop) (W:World):Prop where
 BG:jU W S1
 sub:∀ b,S b→S1 b
 new:∀ b,S1 b→S b∨w.heap.size≤b∨ED b
 own:∀ q,tY A μ1 q→ED q∨w.heap.size≤q
 kept:Kept w W ED
 dD:W.heap[w.heap.size]? = some (.deferred (some []))
 dl:W.heap[w.heap.size+1]? = some (.loop r)
 nD:¬ S1 w.heap.size
 nl:¬ S1 (w.heap.size+1)
 F:∀ q,F q↔(tY A μ1 q∨(S1 q∧¬ S q)∨q=w.heap.size+1∨q=w.heap.size)
theorem IK.keep {w:World} {S ED S1:Nat→Prop} {A:M} {μ1:Mu} {r:Loop} {F:Nat→Prop} {W W':World} {n:Nat} {tm:Array Value} (h:IK w S ED S1 A μ1 r F W) (hc:∀ ν,Core A tm W S1 μ1 ν) (hn:w.heap.size+2≤n) (hk:Kept W W' (fun b=>n≤b∧¬ F b∧¬ S b)) :
  IK w S ED S1 A μ1 r F W'∧∀ ν,Core A tm W' S1 μ1 ν:=by
 have hc0:=hc fun _=>false
 have hS:∀ b,S1 b→W'.heap[b]? = W.heap[b]?:=fun b hb=>hk.block b (hc0.bound b hb) (fun ⟨_,h2,h3⟩=>h2 ((h.F b).2 (.inr (.inl ⟨hb,h3⟩))))
 have hO:∀ q,tY A μ1 q→W'.heap[q]? = W.heap[q]?:=fun q hq=>hk.block q (by obtain ⟨_,_,hb⟩:=hc0.tp hq; exact hb.lt) (fun ⟨_,h2,_⟩=>h2 ((h.F q).2 (.inl hq)))
 have lt:∀ {q o},W.heap[q]? = some o→q < W.heap.size:=fun e=>(Array.getElem?_eq_some_iff.1 e).1
 exact ⟨⟨h.BG.mono (fun _ x=>x) hS,h.sub,h.new,h.own,h.kept.trans hk (fun b hb ⟨h1,_⟩=>by omega),(hk.block _ (lt h.dD) (fun ⟨h1,_⟩=>by omega)).trans h.dD,(hk.block _ (lt h.dl) (fun ⟨h1,_⟩=>by omega)).trans h.dl,h.nD,h.nl,h.F⟩,
  fun ν=>(hc ν).keep (fun t=>.inr rfl) hS hO hk.size⟩
def Goal.round (g:Goal) (prl:List Nat) (tm:Array Value) (Z:Cx→Frame→List Frame→Machine→Prop) (zs:∀ C b cs m m',Steps g.P m m'→Z C b cs m'→Z C b cs m):Goal:={ g with md:=1,pr:=prl,tm:=tm,Z:=Z,zs:=zs }
theorem Lh {w:World} {q:Nat} {o:Obj}:Kept w (w.putObj q o) (fun b=>b=q):=⟨rfl,rfl,rfl,by simp [World.putObj],fun b _ hb=>World.putObj_heap_other hb⟩
section
open Go Go.RowKit
theorem G.rf {g:Goal} {k:List Item} {st:St} (hn:g.Nrm) (hz:∀ {C C' b cs m},Reb C C'→g.Z C' b cs m→g.Z C b cs m) {t:Nat} {ps:Array Tmp} {QW body:Code} {gf:FuncId} {cS:List AV}
    {Y σ β:Type} (ys:List Y) (enc:Y→List AV) (step:σ→Y→β ⊕ σ) (s0:σ) (I:Nat→σ→Prop) (PI:List (Nat × AV)) (Js:σ→St) (Jb:β→St) (id:Nat) (stA:σ→Y→St)
    (Tb:∀ s,(Js s).sl=PI) (hbl:∀ b,(Jb b).sl=PI) (h0:Nr st (Js s0)) (hf:St.get PI t=.fn gf cS) (afY:wJ.oo cS=true) (hit:Zp g.P gf cS (ys.map enc))
    (hps:Wr g.nt (PI.map (·.1)) ps.toList=true) (Y1:∀ y,y∈ys→ps.toList.length=(enc y).length) (hI0:I 0 s0) (hI:∀ i s y,I i s→ys[i]? = some y→match step s y with | .inl _=>True | .inr s'=>I (i+1) s')
    (ahR:∀ s y tm Z zs,y∈ys→G (g.round (PI.map (·.1)) tm Z zs) [.beginRound,.code body] (stA s y)→G (g.round (PI.map (·.1)) tm Z zs) [.code QW,.beginRound,.code body] ⟨Bd ps.toList (enc y)++PI,(Js s).lb⟩)
    (afZ:∀ i s y tm Z zs,I i s→ys[i]? = some y→(match step s y with | .inr s'=>G (g.round (PI.map (·.1)) tm Z zs) [] (Js s') | .inl b=>∀ k',exitTo id k'=none→G (g.round (PI.map (·.1)) tm Z zs) (.code (.exit id) :: k') (Jb b))→G (g.round (PI.map (·.1)) tm Z zs) [.code body] (stA s y))
    (hk:match ou step ys s0 with | .inr s=>G g k (Js s) | .inl b=>G g (.code (.exit id) :: k) (Jb b)):G g (.code (.rangeFunc (.tmp t) ps QW body) :: k) st:=by
  intro C c1 c2 a w VT hs b cs Hb Bb Jn
  have hrd:b.roundOf=none:=Jn.2 (by rw [hn.md]; decide)
  obtain ⟨S,μ,dE⟩:=h0 C a w hs
  have Hn:=dE fun _=>false
  have hnt:a.tmps.size=g.nt:=Hn.tmps.trans c2
  have hv:=Hn.eJ t
  simp only [St.gb,Tb s0,hf] at hv
  obtain ⟨De,hfv,hrc⟩:∃ De:Array Value,a.tmps.getD t undef=.func (.func gf) #[] De∧∀ ν,dV w S μ ν cS De.toList:=by
    generalize a.tmps.getD t undef=fv at hv
    cases hv with
    | @fn _ _ De hl hh=>exact ⟨De,rfl,fun ν=>dV.nu ⟨by simpa using hl,fun i hi=>by rw [← dm]; exact hh i hi⟩ afY⟩
  obtain ⟨DL,QX⟩:∃ DL:LoopState→Option Code→Loop,DL=fun s pe=>{ state:=s,pending:=pe,fn:=b.fn,tmps:=a.tmps,params:=ps,assign:=QW,body:=body,defers:=w.heap.size }:=⟨_,rfl⟩
  obtain ⟨W1,hW1⟩:∃ W1,(w.alloc (.deferred (some []))).alloc (.loop (DL .ready none))=W1:=⟨_,rfl⟩
  have aji:W1.heap.size=w.heap.size+2:=by rw [← hW1]; simp
  have aaW:Kept w W1 (fun _=>False):=by
    rw [← hW1]
    exact (pH w _ _).trans (pH _ _ _) (fun _ _ x=>x)
  have hD1:W1.heap[w.heap.size]? = some (.deferred (some [])):=by
    rw [← hW1]; exact (Below.heap_alloc _ _ _ (by simp)).trans (World.alloc_heap_new w _)
  have hL1:W1.heap[w.heap.size+1]? = some (.loop (DL .ready none)):=by
    rw [← hW1]; have:=World.alloc_heap_new (w.alloc (.deferred (some []))) (.loop (DL .ready none)); rwa [World.size_alloc] at this
  let ED:Nat→Prop:=tY (Js s0).gb μ
  let J:Nat→(Nat→Prop)→World→Prop:=fun i F W=>∃ s S1 μ1,ou step (ys.take i) s0=.inr s∧I i s∧(∀ ν,Core (Js s).gb a.tmps W S1 μ1 ν)∧IK w S ED S1 (Js s).gb μ1 (DL .ready none) F W
  let Jx:(Nat→Prop)→World→Prop:=fun F W=>∃ bb S1 μ1,ou step ys s0=.inl bb∧(∀ ν,Core (Jb bb).gb a.tmps W S1 μ1 ν)∧IK w S ED S1 (Jb bb).gb μ1 (DL .done (some (.exit id))) F W
  have hS1:∀ b,S b→W1.heap[b]? = w.heap[b]?:=fun b hb=>aaW.block b (Hn.bound b hb) (fun x=>x)
  let F0:Nat→Prop:=fun q=>tY (Js s0).gb μ q∨(S q∧¬ S q)∨q=w.heap.size+1∨q=w.heap.size
  have aen:∀ ν,Core (Js s0).gb a.tmps W1 S μ ν:=fun ν=>(dE ν).core.keep (fun _=>.inr rfl) hS1 (fun q hq=>aaW.block q (by obtain ⟨_,_,hb⟩:=(dE ν).core.tp hq; exact hb.lt) (fun x=>x)) aaW.size
  have adB:IK w S ED S (Js s0).gb μ (DL .ready none) F0 W1:=⟨Hn.BG.mono (fun _ x=>x) hS1,fun _ x=>x,fun _ x=>.inl x,fun _ x=>.inl x,aaW.BF (fun _ x=>x.elim),hD1,hL1,fun h=>by have:=Hn.bound _ h; omega,fun h=>by have:=Hn.bound _ h; omega,fun q=>Iff.rfl⟩
  -- ONE ai4
  have aeo:∀ i F W (vs:Array Value),i < (ys.map enc).length→J i F W→(∀ ν,dV W (fun _=>False) (fun _=>none) ν ((ys.map enc).getD i []) vs.toList)→YieldAt Fence.wide 0 g.P (w.heap.size+1) vs W fun e W'=>∃ F',(∀ b,F' b→F b∨W.heap.size≤b)∧(∀ b,F' b→b < W'.heap.size)∧Kept W W' F∧((e=.returned (.bool true)∧J (i+1) F' W')∨(e=.returned (.bool false)∧Jx F' W')):=by
    rintro i F W vs hi ⟨s,S1,μ1,g5,hIs,vy,hinv⟩ hvs
    have gv:i < ys.length:=by simpa using hi
    obtain ⟨y,hy⟩:∃ y,ys[i]=y:=⟨_,rfl⟩
    have hym:y∈ys:=hy ▸ List.getElem_mem gv
    have hyi:ys[i]? = some y:=by rw [List.getElem?_eq_getElem gv,hy]
    have hgy:(ys.map enc).getD i []=enc y:=by simp [List.getD,gv,hy]
    rw [hgy] at hvs
    obtain ⟨ht1,ht2⟩:=PG gv g5
    rw [hy] at ht1 ht2
    have hlen:ps.toList.length=(enc y).length:=Y1 y hym
    have hvl:vs.size=ps.size:=by have:=(hvs fun _=>false).1; simp at this hlen; omega
    have X0:=run_yield (P:=g.P) (args:=vs) hinv.dl (by rw [QX]; exact hvl)
    rw [QX] at X0
    refine ⟨_,_,_,_,X0,trivial,fun c EC _=>?_⟩
    let br:Frame:={ (default:Frame) with fn:=b.fn,kind:=.normal,roundOf:=some (w.heap.size+1) }
    have yD:∀ tm,Frame.round (w.heap.size+1) b.fn tm QW body .normal=br.atR { tmps:=tm,defers:=[] } [.code QW,.beginRound,.code body]:=fun tm=>by simp [Frame.round,Frame.atR,br]
    -- it is ahS to ajj back with a bool
    suffices af0:∃ v w',(∃ F',(∀ b,F' b→F b∨W.heap.size≤b)∧(∀ b,F' b→b < w'.heap.size)∧Kept W w' F∧((v=.bool true∧J (i+1) F' w')∨(v=.bool false∧Jx F' w')))∧Steps g.P (lone (br.atR { tmps:=(ps.zip vs).foldl (fun t (p,v)=>t.setIfInBounds p v) a.tmps,defers:=[] } [.code QW,.beginRound,.code body]) (c :: EC) W) (lone (c.finish v) EC w') by
      obtain ⟨v,w',⟨F',q1,q1b,q2,q3⟩,oh⟩:=af0
      refine ⟨.returned v,w',⟨F',q1,q1b,q2,?_⟩,?_⟩
      · rcases q3 with ⟨rfl,q⟩ | ⟨rfl,q⟩
        · exact .inl ⟨rfl,q⟩
        · exact .inr ⟨rfl,q⟩
      · rw [yD]
        exact stepsIn_wide.2 oh
    have SL:=fun ν=>PH (w:=W) (S:=fun _=>False) (μ:=fun _=>none) (ν:=ν) ps.toList (enc y) vs.toList a.tmps hps hlen hnt (hvs ν)
    have htm:(ps.zip vs).foldl (fun t (p,v)=>t.setIfInBounds p v) a.tmps=(ps.toList.zip vs.toList).foldl (fun t (p:Nat × Value)=>t.setIfInBounds p.1 p.2) a.tmps:=by
      rw [← Array.foldl_toList,Array.toList_zip]
    rw [htm]
    generalize hTM:(ps.toList.zip vs.toList).foldl (fun t (p:Nat × Value)=>t.setIfInBounds p.1 p.2) a.tmps=tm at SL ⊢
    have af1:∀ (L:List Nat) (u:Nat),Wr g.nt (PI.map (·.1)) L=true→u∈PI.map (·.1)→u ∉ L:=by
      intro L
      induction L with
      | nil=>intro u _ _ h; cases h
      | cons p L ih =>
        intro u h hu hm
        simp only [Wr,Bool.and_eq_true] at h
        rcases List.mem_cons.1 hm with rfl | hm
        · exact any_beq h.1.1.2 hu
        · exact ih u h.2 hu hm
    have hpr:∀ u,u∈PI.map (·.1)→tm.getD u undef=a.tmps.getD u undef:=fun u hu=>(SL fun _=>false).2.1 u (af1 _ u hps hu)
    -- Pv state behind Pv parameters
    have aep:∀ ν,Core (St.gb ⟨Bd ps.toList (enc y)++PI,(Js s).lb⟩) tm W S1 μ1 ν:=fun ν=>by
      refine ⟨fun u=>?_,(vy ν).mem,(vy ν).inj,(vy ν).bound⟩
      simp only [St.gb,St.get,wU]
      cases h1:look (Bd ps.toList (enc y)) u with
      | some x=>exact ((SL ν).2.2 u x h1).mono (fun _ x=>x.elim) (fun _ x=>x.elim) (fun _ _ e=>by cases e)
      | none =>
        simp only
        cases h2:look PI u with
        | none=>exact .any _
        | some x =>
          have:=(vy ν).eJ u
          simp only [St.gb,Tb,St.get,h2] at this
          rw [hpr u (rI h2)]
          exact this
    have QY:=vy fun _=>false
    have nlS:∀ {q:Nat} {r:Loop},W.heap[q]? = some (.loop r)→¬ tY (Js s).gb μ1 q:=fun e h=>by obtain ⟨_,_,hb⟩:=QY.tp h; exact hb.Kv e
    have ndS:∀ {q:Nat} {r:Option (List Deferred)},W.heap[q]? = some (.deferred r)→¬ tY (Js s).gb μ1 q:=fun e h=>by obtain ⟨_,_,hb⟩:=QY.tp h; exact hb.th e
    have hlW:w.heap.size+1 < W.heap.size:=(Array.getElem?_eq_some_iff.1 hinv.dl).1
    let C1:Cx:=Cx.at g.P g.nt W S1 (St.gb ⟨Bd ps.toList (enc y)++PI,(Js s).lb⟩) μ1 hinv.BG QY.mem QY.bound [] (fun d h=>by cases h) List.nodup_nil
    have aaX:ku C1 ⟨Bd ps.toList (enc y)++PI,(Js s).lb⟩ { tmps:=tm,defers:=[] } W:=⟨S1,μ1,fun ν=>(aep ν).sim (SL fun _=>false).1 _ _ _ _ _ _ rfl⟩
    let Rr:Value→World→Prop:=fun v w'=>∃ F',(∀ b,F' b→F b∨W.heap.size≤b)∧(∀ b,F' b→b < w'.heap.size)∧Kept W w' F∧((v=.bool true∧J (i+1) F' w')∨(v=.bool false∧Jx F' w'))
    let Z1:Cx→Frame→Cx→List Frame→Machine→Prop:=fun CC bb C' NA m=>C'=CC→NA=c :: EC→bb=br→∃ v w',Rr v w'∧Steps g.P m (lone (c.finish v) EC w')
    have zsc:∀ CC:Cx,∀ C' bb NA m m',Steps g.P m m'→Z1 CC bb C' NA m'→Z1 CC bb C' NA m:=fun CC C' bb NA m m' oh hz e1 e2 e3=>by
      obtain ⟨v,w',q1,q2⟩:=hz e1 e2 e3
      exact ⟨v,w',q1,oh.trans q2⟩
    have af2:∀ gg:Goal,gg.md=1→(br.roundOf=none↔gg.md≠1):=fun gg h=>⟨fun e=>by simp [br] at e,fun e=>absurd h e⟩
    refine ahR s y a.tmps (fun C' bb NA m=>Z1 C1 bb C' NA m) (fun C' bb NA m m'=>zsc C1 C' bb NA m m') hym ?_ C1 rfl rfl _ W (fun u hu=>hpr u hu) aaX br (c :: EC) Hb rfl (af2 _ rfl) rfl rfl rfl
    intro C' e1 e2 a1 W' hk1 hs1 bb NA _ _ _ hCC Fv hbb
    subst hCC; subst Fv; subst hbb
    obtain ⟨S2,μ2,TS⟩:=hs1
    have h2:=TS fun _=>false
    have hkW:Kept W W' (tY (Js s).gb μ1):=h2.kept
    have SM:W'.heap[w.heap.size+1]? = some (.loop (DL .ready none)):=(hkW.block _ hlW (nlS hinv.dl)).trans hinv.dl
    have hD':W'.heap[w.heap.size]? = some (.deferred (some [])):=(hkW.block _ (by omega) (ndS hinv.dD)).trans hinv.dD
    have ahT:=run_beginRound (P:=g.P) SM (by rw [QX])
    have acH:Steps g.P (lone (br.atR a1 [.beginRound,.code body]) (c :: EC) W') (lone (br.atR a1 [.code body]) (c :: EC) (W'.putObj (w.heap.size+1) (.loop { DL .ready none with state:=.busy }))):=.one (stepR_beginRound rfl ahT)
    obtain ⟨W2,hW2⟩:∃ W2,W'.putObj (w.heap.size+1) (.loop { DL .ready none with state:=.busy })=W2:=⟨_,rfl⟩
    rw [hW2] at acH
    have X9:Kept W' W2 (fun q=>q=w.heap.size+1):=hW2 ▸ Lh
    have hl2:W2.heap[w.heap.size+1]? = some (.loop { DL .ready none with state:=.busy }):=by rw [← hW2]; exact World.putObj_heap_same (Array.getElem?_eq_some_iff.1 SM).1
    have aeq:∀ q,S2 q→S1 q∨W.heap.size≤q∨tY (Js s).gb μ1 q:=h2.fresh
    have nl2:¬ S2 (w.heap.size+1):=fun h=>by
      rcases aeq _ h with q | q | q
      · exact hinv.nl q
      · omega
      · exact nlS hinv.dl q
    have nD2:¬ S2 w.heap.size:=fun h=>by
      rcases aeq _ h with q | q | q
      · exact hinv.nD q
      · omega
      · exact ndS hinv.dD q
    have aer:∀ q,tY (stA s y).gb μ2 q→W.heap.size≤q∨tY (Js s).gb μ1 q:=fun q hq=>h2.TQ hq
    have hS2:∀ q,S2 q→W2.heap[q]? = W'.heap[q]?:=fun q hq=>X9.block q (h2.bound q hq) (fun e=>nl2 (e ▸ hq))
    have nO2:¬ tY (stA s y).gb μ2 (w.heap.size+1):=fun h=>by obtain ⟨_,_,hb⟩:=h2.core.tp h; exact hb.Kv SM
    have ahU:¬ tY (stA s y).gb μ2 w.heap.size:=fun h=>by obtain ⟨_,_,hb⟩:=h2.core.tp h; exact hb.th hD'
    have Ws:∀ ν,Core (stA s y).gb a1.tmps W2 S2 μ2 ν:=fun ν=>(TS ν).core.keep (fun _=>.inr rfl) hS2 (fun q hq=>X9.block q (by obtain ⟨_,_,hb⟩:=(TS ν).core.tp hq; exact hb.lt) (fun e=>nO2 (e ▸ hq))) X9.size
    have aes:jU W2 S2:=h2.BG.mono (fun _ x=>x) hS2
    let C2:Cx:=Cx.at g.P g.nt W2 S2 (stA s y).gb μ2 aes (Ws fun _=>false).mem (Ws fun _=>false).bound [] (fun d h=>by cases h) List.nodup_nil
    have TU:ku C2 (stA s y) a1 W2:=⟨S2,μ2,fun ν=>(Ws ν).sim h2.tmps _ _ _ _ _ _ h2.defers⟩
    suffices ahV:Z1 C2 br C2 (c :: EC) (lone (br.atR a1 [.code body]) (c :: EC) W2) by
      obtain ⟨v,w',q1,q2⟩:=ahV rfl rfl rfl
      exact ⟨v,w',q1,acH.trans q2⟩
    -- how a round ends
    have acI:∀ (TV:St) (jump:Option Code) (a3:Act) (W3:World) (S3:Nat→Prop) (μ3:Mu),TV.sl=PI→(∀ u,u∈PI.map (·.1)→a3.tmps.getD u undef=a.tmps.getD u undef)→(∀ ν,dA C2 TV.gb a3 W3 S3 μ3 ν) →
        ∃ W4 F',(Instr.endRound (w.heap.size+1) jump).run g.P W3=.ok (.bool jump.isNone) W4∧(∀ b,F' b→F b∨W.heap.size≤b)∧(∀ b,F' b→b < W4.heap.size)∧Kept W W4 F∧(∀ ν,Core TV.gb a.tmps W4 S3 μ3 ν)∧IK w S ED S3 TV.gb μ3 (DL (if jump.isNone then .ready else .done) jump) F' W4:=by
      intro TV jump a3 W3 S3 μ3 hE ahW TU
      have h3:=TU fun _=>false
      have aet:Kept W2 W3 (tY (stA s y).gb μ2):=h3.kept
      have hl3:W3.heap[w.heap.size+1]? = some (.loop { DL .ready none with state:=.busy }):=(aet.block _ (Array.getElem?_eq_some_iff.1 hl2).1 nO2).trans hl2
      have hD2:W2.heap[w.heap.size]? = some (.deferred (some [])):=(X9.block _ (by have:=hkW.size; omega) (by omega)).trans hD'
      have hD3:W3.heap[w.heap.size]? = some (.deferred (some [])):=(aet.block _ (Array.getElem?_eq_some_iff.1 hD2).1 ahU).trans hD2
      have her:=run_endRound (P:=g.P) jump hl3
      obtain ⟨W4,hW4⟩:∃ W4,W3.putObj (w.heap.size+1) (.loop { ({ DL .ready none with state:=.busy }:Loop) with state:=if jump.isNone then .ready else .done,pending:=jump })=W4:=⟨_,rfl⟩
      rw [hW4] at her
      have Zq:Kept W3 W4 (fun q=>q=w.heap.size+1):=hW4 ▸ Lh
      have af3:W.heap.size≤W2.heap.size:=Nat.le_trans hkW.size X9.size
      have acJ:∀ q,S3 q→S1 q∨W.heap.size≤q∨tY (Js s).gb μ1 q:=fun q hq=>by
        rcases h3.fresh q hq with h | h | h
        · exact aeq q h
        · exact .inr (.inl (Nat.le_trans af3 h))
        · exact .inr (aer q h)
      have af4:∀ q,tY TV.gb μ3 q→W.heap.size≤q∨tY (Js s).gb μ1 q:=fun q hq=>by
        rcases h3.TQ hq with h | h
        · exact .inl (Nat.le_trans af3 h)
        · exact aer q h
      have nl3:¬ S3 (w.heap.size+1):=fun h=>by
        rcases acJ _ h with q | q | q
        · exact hinv.nl q
        · omega
        · exact nlS hinv.dl q
      have nD3:¬ S3 w.heap.size:=fun h=>by
        rcases acJ _ h with q | q | q
        · exact hinv.nD q
        · omega
        · exact ndS hinv.dD q
      have nO3:¬ tY TV.gb μ3 (w.heap.size+1):=fun h=>by obtain ⟨_,_,hb⟩:=h3.core.tp h; exact hb.Kv hl3
      have hS4:∀ q,S3 q→W4.heap[q]? = W3.heap[q]?:=fun q hq=>Zq.block q (h3.bound q hq) (fun e=>nl3 (e ▸ hq))
      have hwW:w.heap.size≤W.heap.size:=hinv.kept.size
      have hKF:Kept W W4 F:=by
        refine ((((hkW.BF (fun q hq=>(hinv.F q).2 (.inl hq))).trans X9 (T':=fun q=>q=w.heap.size+1) (fun q _ e=>(hinv.F q).2 (.inr (.inr (.inl e))))).trans aet (fun q hq h=>?_)).trans Zq (fun q _ e=>(hinv.F q).2 (.inr (.inr (.inl e)))))
        rcases aer q h with h | h
        · omega
        · exact (hinv.F q).2 (.inl h)
      refine ⟨W4,fun q=>tY TV.gb μ3 q∨(S3 q∧¬ S q)∨q=w.heap.size+1∨q=w.heap.size,her,fun q hq=>?_,fun q hq=>?_,hKF,fun ν=>?_,?_⟩
      · rcases hq with h | ⟨h,tV⟩ | h | h
        · exact (af4 q h).symm.imp (fun h=>(hinv.F q).2 (.inl h)) (fun x=>x)
        · rcases acJ q h with h | h | h
          · exact .inl ((hinv.F q).2 (.inr (.inl ⟨h,tV⟩)))
          · exact .inr h
          · exact .inl ((hinv.F q).2 (.inl h))
        · exact .inl ((hinv.F q).2 (.inr (.inr (.inl h))))
        · exact .inl ((hinv.F q).2 (.inr (.inr (.inr h))))
      · have ajk:=Zq.size
        have h3l:=(Array.getElem?_eq_some_iff.1 hl3).1
        rcases hq with h | ⟨h,_⟩ | h | h
        · obtain ⟨_,_,hb⟩:=h3.core.tp h
          have:=hb.lt
          omega
        · have:=h3.bound q h
          omega
        · omega
        · omega
      · refine (TU ν).core.keep (fun u=>?_) hS4 (fun q hq=>Zq.block q (by obtain ⟨_,_,hb⟩:=(TU ν).core.tp hq; exact hb.lt) (fun e=>nO3 (e ▸ hq))) Zq.size
        simp only [St.gb,hE,St.get]
        cases zM:look PI u with
        | none=>exact .inl rfl
        | some x=>exact .inr (ahW u (rI zM)).symm
      · refine ⟨h3.BG.mono (fun _ x=>x) hS4,fun q hq=>h3.fA q (h2.fA q (hinv.sub q hq)),fun q hq=>?_,fun q hq=>?_,?_,(Zq.block _ (Array.getElem?_eq_some_iff.1 hD3).1 (by omega)).trans hD3,?_,nD3,nl3,fun q=>Iff.rfl⟩
        · rcases acJ q hq with h | h | h
          · exact hinv.new q h
          · exact .inr (.inl (Nat.le_trans hwW h))
          · exact .inr (hinv.own q h).symm
        · rcases af4 q hq with h | h
          · exact .inr (Nat.le_trans hwW h)
          · exact hinv.own q h
        · refine hinv.kept.trans hKF (fun q hq h=>?_)
          rcases (hinv.F q).1 h with h | ⟨h,tV⟩ | h | h
          · exact (hinv.own q h).resolve_right (by omega)
          · rcases hinv.new q h with h | h | h
            · exact absurd h tV
            · omega
            · exact h
          · omega
          · omega
        · rw [← hW4]
          have:=World.putObj_heap_same (o:=.loop { ({ DL .ready none with state:=.busy }:Loop) with state:=if jump.isNone then .ready else .done,pending:=jump }) (Array.getElem?_eq_some_iff.1 hl3).1
          rw [this,QX]
    refine afZ i s y a.tmps (fun C' bb NA m=>Z1 C2 bb C' NA m) (fun C' bb NA m m'=>zsc C2 C' bb NA m m') hIs hyi ?_ C2 rfl rfl a1 W2 hk1 TU br (c :: EC) Hb rfl (af2 _ rfl)
    cases oh:step s y with
    | inr s' =>
      simp only
      intro C' e1 e2 a3 W3 hk3 hs3 bb NA _ _ _ hCC Fv hbb
      subst hCC; subst Fv; subst hbb
      obtain ⟨S3,μ3,Wt⟩:=hs3
      obtain ⟨W4,F',q1,q2,q2b,q3,q4,q5⟩:=acI (Js s') none a3 W3 S3 μ3 (Tb s') (fun u hu=>hk3 u hu) Wt
      have ahX:I (i+1) s':=by have:=hI i s y hIs hyi; rw [oh] at this; exact this
      exact ⟨.bool true,W4,⟨F',q2,q2b,q3,.inl ⟨rfl,s',S3,μ3,by rw [ht1,oh],ahX,q4,q5⟩⟩,.one (stepR_round_end rfl rfl q1)⟩
    | inl bv =>
      simp only
      intro k' hx C' e1 e2 a3 W3 hk3 hs3 bb NA _ _ _ hCC Fv hbb
      subst hCC; subst Fv; subst hbb
      obtain ⟨S3,μ3,Wt⟩:=hs3
      obtain ⟨W4,F',q1,q2,q2b,q3,q4,q5⟩:=acI (Jb bv) (some (.exit id)) a3 W3 S3 μ3 (hbl bv) (fun u hu=>hk3 u hu) Wt
      exact ⟨.bool false,W4,⟨F',q2,q2b,q3,.inr ⟨rfl,bv,S3,μ3,ht2 bv oh,q4,q5⟩⟩,.one (stepR_round_exit rfl rfl hx q1)⟩
  -- THE ajl
  have af5:=hit.2 W1 S μ De (w.heap.size+1) J Jx F0 (fun b hb=>Nat.lt_of_lt_of_le (Hn.bound b hb) aaW.size) adB.BG (fun ν=>⟨(hrc ν).1,fun i hi=>((hrc ν).2 i hi).mono (fun _ x=>x) hS1 (fun _ _ e=>e)⟩)
    (fun q hq h=>by
      rcases h with h | ⟨_,h⟩ | h | h
      · obtain ⟨_,_,hb⟩:=Hn.core.tp h
        exact hb.not hq
      · exact h hq
      · have:=Hn.bound q hq; omega
      · have:=Hn.bound q hq; omega)
    (fun q h=>by
      rcases h with h | ⟨h,h'⟩ | h | h
      · obtain ⟨_,_,hb⟩:=Hn.core.tp h
        have:=hb.lt
        omega
      · exact absurd h h'
      · omega
      · omega)
    (fun i F W W' hJ wI=>by
      obtain ⟨s,S1,μ1,q1,q2,q3,q4⟩:=hJ
      obtain ⟨r1,r2⟩:=q4.keep q3 (n:=W1.heap.size) (by omega) wI
      exact ⟨s,S1,μ1,q1,q2,r2,r1⟩)
    (fun F W W' hJ wI=>by
      obtain ⟨s,S1,μ1,q1,q3,q4⟩:=hJ
      obtain ⟨r1,r2⟩:=q4.keep q3 (n:=W1.heap.size) (by omega) wI
      exact ⟨s,S1,μ1,q1,r2,r1⟩)
    aeo ⟨s0,S,μ,by simp [ou],hI0,aen,adB⟩
  let fr1:Frame:=b.atR { a with defers:=[{ target:=.collected w.heap.size,args:=#[] }]++a.defers } (.inRangeFunc (w.heap.size+1) :: k)
  obtain ⟨e,w',fr,⟨⟨v,rfl⟩,hJJ⟩,aeu,ajm,aev⟩:=af5 (fr1 :: cs)
  have hen:(Instr.enterLoop b.fn a.tmps ps QW body b.roundOf).run g.P w=.ok (w.heap.size+1,[{ target:=.collected w.heap.size,args:=#[] }]) W1:=by
    rw [hrd,← hW1,QX]; exact run_enterLoop_outer _ _ _ _ _
  have aaz:(resolve a.eval (rangeCall (.tmp t) (w.heap.size+1)) 0).run g.P W1=.ok { target:=.fn (.func gf) De,args:=#[.func (.yield (w.heap.size+1)) #[] #[]] } W1:=by
    have:a.eval (.tmp t)=.func (.func gf) #[] De:=hfv
    simp only [resolve,this]
    simp [go_sem]
  have af6:(invoke (.fn (.func gf) De) #[.func (.yield (w.heap.size+1)) #[] #[]]).run g.P W1=.ok (.enter gf (#[.func (.yield (w.heap.size+1)) #[] #[]]++De)) W1:=by
    have eg:=fun args=>FB (w:=W1) hit.1 args
    simp [invoke,go_sem,eg]
  have ahY:Steps g.P (lone (b.atR a (.code (.rangeFunc (.tmp t) ps QW body) :: k)) cs w) (lone (Frame.enter g.P gf (#[.func (.yield (w.heap.size+1)) #[] #[]]++De) .normal) (fr1 :: cs) W1):=.one (stepR_rangeFunc hen aaz af6)
  have acH:Steps g.P (lone (b.atR a (.code (.rangeFunc (.tmp t) ps QW body) :: k)) cs w) (lone (b.atR { a with defers:=[{ target:=.collected w.heap.size,args:=#[] }]++a.defers } (.endRangeFunc (w.heap.size+1) :: k)) cs w'):=by
    refine ahY.trans (Steps.trans aeu (.one ?_))
    rw [← finish_atR_inRangeFunc (w.heap.size+1) v]
    exact step_leave_returned aev
  -- ad7 comes then
  have aaY:∀ (TV:St) (S1:Nat→Prop) (μ1:Mu) (r:Loop) (F:Nat→Prop) (k':List Item),(∀ ν,Core TV.gb a.tmps w' S1 μ1 ν)→IK w S ED S1 TV.gb μ1 r F w'→r.state≠.busy→(r.pending.map Item.code).toList++k=k'→G g k' TV→g.Z C b cs (lone (b.atR a (.code (.rangeFunc (.tmp t) ps QW body) :: k)) cs w):=by
    intro TV S1 μ1 r F k' vy hinv af7 wI hG
    have hel:=run_endLoop (P:=g.P) hinv.dl af7
    have aew:=Steps.trans acH (.one (stepR_endRangeFunc hel))
    rw [wI] at aew
    obtain ⟨W5,hW5⟩:∃ W5,w'.putObj (w.heap.size+1) (.loop { r with state:=.exhausted })=W5:=⟨_,rfl⟩
    rw [hW5] at aew
    have X9:Kept w' W5 (fun q=>q=w.heap.size+1):=hW5 ▸ Lh
    have hc0:=vy fun _=>false
    have nO:¬ tY TV.gb μ1 (w.heap.size+1):=fun h=>by obtain ⟨_,_,hb⟩:=hc0.tp h; exact hb.Kv hinv.dl
    have hS5:∀ q,S1 q→W5.heap[q]? = w'.heap[q]?:=fun q hq=>X9.block q (hc0.bound q hq) (fun e=>hinv.nl (e ▸ hq))
    have Wu:∀ ν,Core TV.gb a.tmps W5 S1 μ1 ν:=fun ν=>(vy ν).keep (fun _=>.inr rfl) hS5 (fun q hq=>X9.block q (by obtain ⟨_,_,hb⟩:=(vy ν).tp hq; exact hb.lt) (fun e=>nO (e ▸ hq))) X9.size
    have hk5:Kept w W5 ED:=hinv.kept.trans X9 (fun q hq e=>by omega)
    have ahZ:w.heap.size < w'.heap.size:=(Array.getElem?_eq_some_iff.1 hinv.dD).1
    have ah0:∀ d,d∈[({ target:=.collected w.heap.size,args:=#[] }:Deferred)]++a.defers→∃ q,d = { target:=.collected q,args:=#[] }∧W5.heap[q]? = some (.deferred (some []))∧¬ S1 q:=by
      intro d hd
      rcases List.mem_append.1 hd with hd | hd
      · simp only [List.mem_singleton] at hd
        exact ⟨w.heap.size,hd,(X9.block _ ahZ (by omega)).trans hinv.dD,hinv.nD⟩
      · rw [Hn.defers] at hd
        obtain ⟨q,e,q1,q2⟩:=Hn.Zl d hd
        have hq:=(Array.getElem?_eq_some_iff.1 q1).1
        have nq:¬ ED q:=fun h=>by obtain ⟨_,_,hb⟩:=Hn.core.tp h; exact hb.th q1
        refine ⟨q,e,(hk5.block q hq nq).trans q1,fun h=>?_⟩
        rcases hinv.new q h with h | h | h
        · exact q2 h
        · omega
        · exact nq h
    have ah1:([({ target:=.collected w.heap.size,args:=#[] }:Deferred)]++a.defers).Nodup:=by
      refine List.nodup_cons.2 ⟨fun hd=>?_,by rw [Hn.defers]; exact C.dnd⟩
      rw [Hn.defers] at hd
      obtain ⟨q,e,q1,q2⟩:=Hn.Zl _ hd
      cases e
      have:=(Array.getElem?_eq_some_iff.1 q1).1
      omega
    let C5:Cx:=Cx.at g.P g.nt W5 S1 TV.gb μ1 (hinv.BG.mono (fun _ x=>x) hS5) (Wu fun _=>false).mem (Wu fun _=>false).bound _ ah0 ah1
    have af8:ku C5 TV { a with defers:=[{ target:=.collected w.heap.size,args:=#[] }]++a.defers } W5:=⟨S1,μ1,fun ν=>Core.sim (a:={ a with defers:=[{ target:=.collected w.heap.size,args:=#[] }]++a.defers }) (Wu ν) hnt _ _ _ _ _ _ rfl⟩
    have aex:∀ q,ED q→C.w0.heap.size≤q∨C.T0 q:=fun q hq=>Hn.TQ hq
    have hw0:C.w0.heap.size≤w.heap.size:=Hn.kept.size
    refine g.zs C b cs _ _ aew (hz (C':=C5) ⟨fun q hq=>hinv.sub q (Hn.fA q hq),fun q hq=>?_,Hn.kept.trans hk5 (fun q hq h=>(aex q h).resolve_left (by omega)),fun q hq=>?_⟩ (hG C5 rfl rfl { a with defers:=[{ target:=.collected w.heap.size,args:=#[] }]++a.defers } W5 VT af8 b cs Hb Bb Jn))
    · rcases hinv.new q hq with h | h | h
      · exact Hn.fresh q h
      · exact .inr (.inl (Nat.le_trans hw0 h))
      · exact .inr (aex q h)
    · rcases hq with h | h
      · rcases hinv.own q h with h | h
        · exact ((aex q h).imp (fun x=>x) .inl).symm
        · exact .inr (Nat.le_trans hw0 h)
      · rcases List.mem_append.1 h with h | h
        · simp only [List.mem_singleton,Deferred.mk.injEq,Target.collected.injEq,and_true] at h
          subst h
          exact .inr hw0
        · rw [Hn.defers] at h
          exact .inl (.inr h)
  rcases hJJ with ⟨F,s,S1,μ1,q1,q2,q3,q4⟩ | ⟨F,bv,S1,μ1,q1,q3,q4⟩
  · have q1:ou step ys s0=.inr s:=by
      have e:ys.take (ys.map enc).length=ys:=by simp
      rw [e] at q1; exact q1
    rw [q1] at hk
    exact aaY (Js s) S1 μ1 _ F k q3 q4 (by rw [QX]; simp) (by rw [QX]; rfl) hk
  · rw [q1] at hk
    exact aaY (Jb bv) S1 μ1 _ F _ q3 q4 (by rw [QX]; simp) (by rw [QX]; rfl) hk

end
def aaZ (ops:Array Oper):Option (Nat × Nat × Nat × Nat × Nat × Nat) :=
 match ops.toList with
 | [o1,o2,o3,o4]=>(match o1.op,o1.dst,o1.guard,o2.op,o2.dst,o2.guard with
  | .move (.tmp ts),some d1,none,.move (.tmp ti),some d2,none=>(match o3.op,o3.dst,o3.guard,o4.op,o4.dst,o4.guard with
   | .slice ty (.tmp a) (some (.tmp b)) none none,some d3,none,.call { callee:=.builtin .clear,args:=xs,argTypes:=tys,.. },none,none=>(match xs.toList,tys.toList with
    | [.tmp c],[ty']=>bif Nat.beq a d1&&Nat.beq b d2&&Nat.beq c d3&&Nat.beq ty ty'&&!Nat.beq d1 d2&&!Nat.beq ti d1 then some (ts,ti,ty,d1,d2,d3) else none
    | _,_=>none)
   | _,_,_,_,_,_=>none)
  | _,_,_,_,_,_=>none)
 | _=>none
def zU (x:Nat) (f:Nat→List D) (z:List D):Nat→List D:=fun q=>if q < x then f q else z
section
variable {C : Cx} {A : M} {a : Act} {w : World} {S : Nat → Prop} {μ : Mu} {ν : Nat → Bool}
theorem NB {P:Program} {t e ty:TypeId} {j:TypeInfo} {z:Value} {i:TI} (F:XV P e i j z) (Fy:i.zero.all Bu=true) (hu:P.underlying t=some (.slice e)) {g off m c:Nat} {cur:Array Value} {e':TypeId} (hm:0 < m)
  (hg:w.heap[g]? = some (.cells cur e' (0,0))) (hle:off+m * i.size≤cur.size) :
  (Builtin.clear_ #[t] ty #[.slice (some ⟨g,off,none⟩) m c]).run P w=.ok (.tuple #[]) (w.setRow g (cur.toList.take off++(Builtin.zeroCells z.cells m).toList++cur.toList.drop (off+m * i.size)).toArray):=by
 obtain ⟨q1,q2⟩:=ko (w:=w) (S:=fun _=>False) F.zok
 have hzl:z.cells.size=i.size:=by have:=q1; simp only [Array.length_toList] at this; rw [this,F.Eu]
 have hlen:(Builtin.zeroCells z.cells m).toList.length=m * i.size:=by simp [Builtin.zeroCells,hzl]
 have oh:=run_storeCells_at P g off e' (Builtin.zeroCells z.cells m).toList 0 cur w hg (by rw [hlen]; omega) (fun v hv=>by
  simp only [Builtin.zeroCells,hzl] at hv
  obtain ⟨q,hq,rfl⟩:∃ q,q < m * i.size∧z.cells[q % i.size]! = v:=by simpa using hv
  have QK:0 < i.size:=by
   rcases Nat.eq_zero_or_pos i.size with h0 | h0
   ·rw [h0] at hq; simp at hq
   ·exact h0
  have gJ:q % i.size < i.size:=Nat.mod_lt _ QK
  have h2:=q2 (q % i.size) (by rw [F.Eu]; exact gJ)
  have Nu:q % i.size < z.cells.size:=by omega
  rw [getElem!_pos z.cells _ Nu]
  have e1:z.cells.toList.getD (q % i.size) undef=z.cells[q % i.size]:=by simp [List.getD,Nu]
  rw [e1] at h2
  simp only [List.all_eq_true] at Fy
  exact Fx (Fy _ (by simp [List.getD,F.Eu,gJ])) h2)
 simp only [Nat.add_zero,hlen] at oh
 obtain ⟨m',rfl⟩:∃ m',m=m'+1:=⟨m - 1,by omega⟩
 simp only [Builtin.clear_,List.getElem?_toArray,List.getElem?_cons_zero,Sem.run_bind,run_underlying hu,Result.andThen_ok,zeroValue,typeInfo,run_program,F.info,Sem.run_pure,F.zero,oh]
theorem Li {P:Program} {t e ty:TypeId} (hu:P.underlying t=some (.slice e)) (ad:Option Addr) (c:Nat):(Builtin.clear_ #[t] ty #[.slice ad 0 c]).run P w=.ok (.tuple #[]) w:=by
 cases ad <;> simp [Builtin.clear_,run_underlying hu]
theorem TW {o:Oper} (h:o.guard=none) (y):Region.wanted o y=true:=by simp [Region.wanted,h]
theorem dA.ah2 {st:St} (dE:∀ ν,dA C st.gb a w S μ ν) {d1 d2 d3:Nat} (v1 v2 v3:Value) :
  ∀ ν,dA C (St.gb ⟨ba [d1,d2,d3] st.sl,st.lb⟩) (((a.put (some d1) v1).put (some d2) v2).put (some d3) v3) w S μ ν:=fun ν=>by
 have h:=dE ν
 refine ⟨by simp [Act.put,h.tmps],h.defers,fun u=>?_,h.mem,h.inj,h.own,h.fA,h.fresh,h.bound,h.kept⟩
 simp only [St.gb,St.get,mM]
 by_cases hn:u∈[d1,d2,d3]
 ·rw [if_pos hn]
  exact .any _
 ·rw [if_neg hn]
  simp only [List.mem_cons,List.not_mem_nil,or_false,not_or] at hn
  simp only [Act.put]
  rw [dt _ _ _ _ hn.2.2,dt _ _ _ _ hn.2.1,dt _ _ _ _ hn.1]
  have:=h.eJ u
  simp only [St.gb,St.get] at this
  exact this
end
theorem Kw {P:Program} {ops:Array Oper} {Q:Exit→Act→World→Prop} {i:Nat} {rest:List Nat} {a:Act} {w w':World} {o:Oper} {v:Value} (ho:ops[i]? = some o) (hg:o.guard=none) (g5:(execOp a.eval o).run P w=.ok (.value v) w') (h:wpOps P ops Q rest (a.put o.dst v) w'):wpOps P ops Q (i :: rest) a w:=by
 simp only [wpOps,ho,TW hg,if_true]
 left
 unfold Oper.wp
 rw [g5]
 exact h
section
variable {g : Goal}
theorem G.QZ (hT:og g.P g.T) (hm:g.P.follows .mixedOrders=true) {K:List Item} {st:St} {id:Nat} {ops:Array Oper} {ts ti ty d1 d2 d3 κ e k n:Nat} {f:Nat→List D} {x:Int} {it i:TI} (Wn:Jm g.md g.pr ops=true) (qp:aaZ ops=some (ts,ti,ty,d1,d2,d3)) (hd1:d1 < g.nt) (hd2:d2 < g.nt) (hd3:d3 < g.nt)
  (hs:St.get st.sl ts=.own κ n) (hi:St.get st.sl ti=.d (.v (.int .i64 x))) (hl:look st.lb κ=some (.row e k n f)) (ht:look g.T ty=some it) (hk:it.kind=.slice e) (he:look g.T e=some i) (wI:k=i.size) (Fy:i.zero.all Bu=true)
  (h0:0≤x) (h1:x≤n) (hg:G g K ⟨ba [d1,d2,d3] st.sl,(κ,.row e k n (zU x.toNat f i.zero)) :: ba [κ] st.lb⟩):G g (.code (.region id ops false) :: K) st:=by
 intro C c1 c2 a w VT hsb
 suffices hw:wpOps C.P ops (fun e' a' w'=>e'=.normal∧ku C ⟨ba [d1,d2,d3] st.sl,(κ,.row e k n (zU x.toNat f i.zero)) :: ba [κ] st.lb⟩ a' w') (List.range ops.size) a w by
  rw [c1] at hw
  exact G.ops hm Wn VT (.inl ⟨rfl,hw⟩) (fun a' w' gE BI=>hg C c1 c2 a' w' gE BI)
 obtain ⟨S,μ,dE⟩:=hsb
 have hz:=dE fun _=>false
 rw [← c2] at hd1 hd2 hd3
 rw [← c1] at hT
 subst wI
 unfold aaZ at qp
 split at qp
 ·rename_i o1 o2 o3 o4 hol
  split at qp
  ·rename_i Yc d1' ti' d2' q1 q2 q3 q4 q5 q6
   split at qp
   ·rename_i tyq a' b' d3' xs tys r1 r2 r3 r4 r5 r6
    split at qp
    ·rename_i c' ty2 hx Q0
     rw [Bool.cond_eq_ite] at qp
     split at qp
     ·rename_i hbb
      simp only [Bool.and_eq_true,Bool.not_eq_true'] at hbb
      obtain ⟨⟨⟨⟨⟨b1,b2⟩,b3⟩,b4⟩,b5⟩,b6⟩:=hbb
      have b1:=Nat.eq_of_beq_eq_true b1
      have b2:=Nat.eq_of_beq_eq_true b2
      have b3:=Nat.eq_of_beq_eq_true b3
      have b4:=Nat.eq_of_beq_eq_true b4
      subst b1; subst b2; subst b3; subst b4
      simp only [Option.some.injEq,Prod.mk.injEq] at qp
      obtain ⟨rfl,rfl,rfl,rfl,rfl,rfl⟩:=qp
      have n5:a'≠b':=fun e=>by rw [e,Nat.beq_refl] at b5; cases b5
      have n6:ti'≠a':=fun e=>by rw [e,Nat.beq_refl] at b6; cases b6
      have qp:ops = #[o1,o2,o3,o4]:=by cases ops; simpa using hol
      have hxs:xs = #[.tmp c']:=by cases xs; simpa using hx
      have ah3:tys = #[tyq]:=by cases tys; simpa using Q0
      subst qp; subst hxs; subst ah3
      show wpOps C.P #[o1,o2,o3,o4] _ [0,1,2,3] a w
      have jT:∀ (a:Act) (d:Option Nat) (x:Value),(a.put d x).tmps.size=a.tmps.size:=fun a d x=>by cases d <;> simp [Act.put]
      have Zr:∀ (a:Act) (d:Nat) (x:Value),a.tmps.size=C.nt→d < C.nt→(a.put (some d) x).eval (.tmp d)=x:=fun a d x h1 h2=>by
       show (a.tmps.setIfInBounds d x).getD d undef=x
       exact iy _ _ _ (by rw [h1]; exact h2)
      have af9:∀ (a:Act) (d u:Nat) (x:Value),u≠d→(a.put (some d) x).eval (.tmp u)=a.eval (.tmp u):=fun a d u x h=>by
       show (a.tmps.setIfInBounds d x).getD u undef=a.tmps.getD u undef
       exact dt _ _ _ _ h
      have tsz:=hz.tmps
      have hsv:=hz.eJ Yc
      simp only [St.gb,hs] at hsv
      have hsv:Rel w S μ (fun _=>false) (.own κ n) (a.eval (.tmp Yc)):=hsv
      have hiv:=hz.eJ ti'
      simp only [St.gb,hi] at hiv
      have hiv:a.eval (.tmp ti')=.int .i64 x:=eT hiv
      obtain ⟨tj,z,F⟩:=aH (hT _ _ ht)
      have wI:=F.kind
      rw [hk] at wI
      have hu:=e9 wI
      obtain ⟨ej,ez,E⟩:=aH (hT _ _ he)
      refine Kw (o:=o1) rfl q3 (v:=a.eval (.tmp Yc)) (w':=w) (by simp [execOp,q1]) ?_
      rw [q2]
      refine Kw (o:=o2) rfl q6 (v:=.int .i64 x) (w':=w) (by simp [execOp,q4,af9 _ _ _ _ n6,hiv]) ?_
      rw [q5]
      have ea:((a.put (some a') (a.eval (.tmp Yc))).put (some b') (.int .i64 x)).eval (.tmp a')=a.eval (.tmp Yc):=by rw [af9 _ _ _ _ n5,Zr _ _ _ tsz hd1]
      have eb:((a.put (some a') (a.eval (.tmp Yc))).put (some b') (.int .i64 x)).eval (.tmp b')=.int .i64 x:=Zr _ _ _ (by rw [jT]; exact tsz) hd2
      have kr:=hz.mem κ _ hl
      have oh:(St.gb ⟨st.sl,(κ,.row e i.size n (zU x.toNat f i.zero)) :: ba [κ] st.lb⟩)=st.gb.set κ (some (.row e i.size n (zU x.toNat f i.zero))):=by
       unfold St.gb M.set
       congr 1
       funext q
       rw [cw,mM]
       by_cases hq:κ=q
       ·subst hq; simp
       ·have:q ∉ [κ]:=by simp; exact fun e=>hq e.symm
        have XZ:¬ q=κ:=fun e=>hq e.symm
        simp [hq,XZ]
      have fin:∀ (v3:Value) (w':World),(∀ ν,dA C (st.gb.set κ (some (.row e i.size n (zU x.toNat f i.zero)))) a w' S μ ν)→ku C ⟨ba [a',b',c'] st.sl,(κ,.row e i.size n (zU x.toNat f i.zero)) :: ba [κ] st.lb⟩ (((a.put (some a') (a.eval (.tmp Yc))).put (some b') (.int .i64 x)).put (some c') v3) w':=fun v3 w' h =>
       ⟨S,μ,dA.ah2 (st:=⟨st.sl,(κ,.row e i.size n (zU x.toNat f i.zero)) :: ba [κ] st.lb⟩) (fun ν=>by rw [oh]; exact h ν) _ _ v3⟩
      have same:x.toNat=n→∀ ν,dA C (st.gb.set κ (some (.row e i.size n (zU x.toNat f i.zero)))) a w S μ ν:=fun hxn ν=>by
       refine (dE ν).weaken (fun t v hv=>hv) (fun κ' b' od=>?_)
       simp only [M.set] at od
       by_cases hq:κ'=κ
       ·simp only [hq,if_true,Option.some.injEq] at od
        subst od
        refine ⟨.row e i.size n f,by rw [hq]; exact hl,fun y hy=>?_⟩
        cases y with
        | none=>exact hy
        | some y =>
         cases y with
         | none=>exact hy
         | some gc =>
          obtain ⟨gg,cap⟩:=gc
          obtain ⟨cur,y1,y2,y3,y4,y5,y6⟩:=hy.at
          refine eA.ok (b:=.row e i.size n _) ⟨cur,y1,y2,y3,y4,y5,fun q XZ=>?_⟩
          have:zU x.toNat f i.zero q=f q:=by simp only [zU]; rw [if_pos (by omega)]
          rw [this]
          exact y6 q XZ
       ·simp only [hq,if_false] at od
        exact ⟨b',od,fun _ hy=>hy⟩
      have Ji:∀ w,(sizeOf e).run C.P w=.ok i.size w:=fun w=>by simp [sizeOf,typeInfo,E.info,E.size]
      have Tb:∀ (ad:Option Addr) (m cap:Nat),x≤m→m≤cap→(Instr.sliceAt tyq (.slice ad m cap) (some (.int .i64 x)) none none).run C.P w=.ok (.slice (if cap=x.toNat then ad else ad.map (·.add (x.toNat * i.size))) (m - x.toNat) (cap - x.toNat)) w:=fun ad m cap VU hx2=>by
       have q1:∀ (k:IntKind) (i:Int) (y:Nat) (c:BoundsCode),0≤i→i≤y→(Instr.sliceBound (.int k i) y c).run C.P w=.ok i.toNat w:=fun k i y c h0 h1=>run_sliceBound w k i y c h0 h1
       simp (disch:=omega) [Instr.sliceAt,run_underlying hu,Instr.slice,Instr.sliceBounds,q1,Ji]
      have aga:∀ v,(Instr.sliceAt tyq (a.eval (.tmp Yc)) (some (.int .i64 x)) none none).run C.P w=.ok v w→(execOp ((a.put (some a') (a.eval (.tmp Yc))).put (some b') (.int .i64 x)).eval o3).run C.P w=.ok (.value v) w:=fun v hv=>by
       simp only [execOp,r1,ea,eb,Option.map_some,Option.map_none,Sem.run_bind,hv,Result.andThen_ok,Sem.run_pure]
      have ec:∀ v3,(((a.put (some a') (a.eval (.tmp Yc))).put (some b') (.int .i64 x)).put (some c') v3).eval (.tmp c')=v3:=fun v3=>Zr _ _ _ (by rw [jT,jT]; exact tsz) hd3
      have agb:∀ v3 w',(Builtin.clear_ #[tyq] o4.type #[v3]).run C.P w=.ok (.tuple #[]) w'→(execOp (((a.put (some a') (a.eval (.tmp Yc))).put (some b') (.int .i64 x)).put (some c') v3).eval o4).run C.P w=.ok (.value (.tuple #[])) w':=fun v3 w' hv=>by
       simp [execOp,r4,resolve,invoke,ec,builtin,hv]
      have done:∀ v3 w',(Instr.sliceAt tyq (a.eval (.tmp Yc)) (some (.int .i64 x)) none none).run C.P w=.ok v3 w→(Builtin.clear_ #[tyq] o4.type #[v3]).run C.P w=.ok (.tuple #[]) w'→(∀ ν,dA C (st.gb.set κ (some (.row e i.size n (zU x.toNat f i.zero)))) a w' S μ ν) →
        wpOps C.P #[o1,o2,o3,o4] (fun e' aa w'=>e'=.normal∧ku C ⟨ba [a',b',c'] st.sl,(κ,.row e i.size n (zU x.toNat f i.zero)) :: ba [κ] st.lb⟩ aa w') [2,3] ((a.put (some a') (a.eval (.tmp Yc))).put (some b') (.int .i64 x)) w:=fun v3 w' x1 x2 x3=>by
       refine Kw (o:=o3) rfl r3 (aga v3 x1) ?_
       rw [r2]
       refine Kw (o:=o4) rfl r6 (agb v3 w' x2) ?_
       rw [r5]
       exact ⟨rfl,fin v3 w' x3⟩
      generalize ajn:a.eval (.tmp Yc)=sv at hsv done
      cases hsv with
      | @eI _ ad hμ =>
       refine done _ w (Tb ad 0 0 (by omega) (Nat.le_refl _)) ?_ (same (by omega))
       have:0 - x.toNat=0:=by omega
       rw [this]
       exact Li hu _ _
      | @own _ _ gg cap hμ =>
       rw [hμ] at kr
       obtain ⟨cur,hgc,tV,Fv,V9,SN,qm⟩:=kr.at
       rcases Nat.lt_or_ge x.toNat n with gJ | hge
       ·have e3:(if cap=x.toNat then some (⟨gg,0,none⟩:Addr) else (some (⟨gg,0,none⟩:Addr)).map (·.add (x.toNat * i.size)))=some ⟨gg,x.toNat * i.size,none⟩:=by
         rw [if_neg (by omega)]
         simp [iO]
        have hmul:x.toNat * i.size+(n - x.toNat) * i.size=n * i.size:=by rw [← Nat.add_mul]; congr 1; omega
        have hle:x.toNat * i.size+(n - x.toNat) * i.size≤cur.size:=by rw [hmul,Fv]; exact Nat.mul_le_mul_right _ V9
        have acK:ez.cells.size=i.size:=by have:=(ko (w:=w) (S:=S) E.zok).1; simp only [Array.length_toList] at this; rw [this,E.Eu]
        have adC:(Builtin.zeroCells ez.cells (n - x.toNat)).toList.length=(n - x.toNat) * i.size:=by simp [Builtin.zeroCells,acK]
        have g5:=NB (P:=C.P) (t:=tyq) (ty:=o4.type) (c:=cap - x.toNat) E Fy hu (by omega:0 < n - x.toNat) hgc hle
        refine done _ _ ((Tb _ n cap h1 V9).trans (by rw [e3])) g5 (fun ν=>(dE ν).write hl hμ (b':=.row e i.size n _) ⟨_,setRow_heap w gg cur _ e _ hgc,tV,?_,V9,SN,fun q hq=>⟨?_,fun j hj=>?_⟩⟩)
        ·simp only [List.size_toArray,List.length_append,List.length_take,List.length_drop,Array.length_toList,adC]
         have:n * i.size≤cap * i.size:=Nat.mul_le_mul_right _ V9
         omega
        ·simp only [zU]
         split
         ·exact (qm q hq).1
         ·exact E.Eu
        ·have hqj:q * i.size+j < n * i.size:=by
          calc q * i.size+j < q * i.size+i.size:=by omega
           _=(q+1) * i.size:=by rw [Nat.add_mul,Nat.one_mul]
           _≤n * i.size:=Nat.mul_le_mul_right _ hq
         rw [List.getElem?_toArray]
         by_cases hqx:q < x.toNat
         ·have ah4:q * i.size+j < x.toNat * i.size:=by
           calc q * i.size+j < q * i.size+i.size:=by omega
            _=(q+1) * i.size:=by rw [Nat.add_mul,Nat.one_mul]
            _≤x.toNat * i.size:=Nat.mul_le_mul_right _ hqx
          obtain ⟨u,hu1,hu2⟩:=(qm q hq).2 j hj
          refine ⟨u,?_,?_⟩
          ·rw [List.append_assoc,List.getElem?_append_left (by simp; omega),List.getElem?_take,if_pos ah4]
           simpa using hu1
          ·have:zU x.toNat f i.zero q=f q:=by simp only [zU]; rw [if_pos hqx]
           rw [this]
           exact hu2.mono (fun _ x=>x) (fun b hb=>setRow_other w gg b _ (fun e=>tV (e ▸ hb)))
         ·have hxq:x.toNat * i.size≤q * i.size:=Nat.mul_le_mul_right _ (by omega)
          have V6:q * i.size+j - x.toNat * i.size < (n - x.toNat) * i.size:=by omega
          have Tk:(q * i.size+j - x.toNat * i.size) % ez.cells.size=j:=by
           rw [acK,show q * i.size+j - x.toNat * i.size=i.size * (q - x.toNat)+j from by rw [Nat.mul_sub,Nat.mul_comm i.size q,Nat.mul_comm i.size x.toNat]; omega,Nat.mul_add_mod,Nat.mod_eq_of_lt hj]
          have IA:j < ez.cells.size:=by omega
          obtain ⟨_,z2⟩:=ko (w:=w.setRow gg (cur.toList.take (x.toNat * i.size)++(Builtin.zeroCells ez.cells (n - x.toNat)).toList++cur.toList.drop (x.toNat * i.size+(n - x.toNat) * i.size)).toArray) (S:=S) E.zok
          refine ⟨ez.cells[j],?_,?_⟩
          ·rw [List.append_assoc,List.getElem?_append_right (by simp; omega),List.getElem?_append_left (by rw [adC]; simp; omega)]
           have:(List.take (x.toNat * i.size) cur.toList).length=x.toNat * i.size:=by simp; omega
           rw [this]
           simp only [Builtin.zeroCells,Array.getElem?_toList,Array.getElem?_map,Array.getElem?_range,acK,V6,if_true,Option.map_some]
           rw [← acK] at Tk ⊢
           rw [Tk,getElem!_pos ez.cells j IA]
          ·have:zU x.toNat f i.zero q=i.zero:=by simp only [zU]; rw [if_neg hqx]
           rw [this]
           have:=z2 j (by rw [E.Eu]; exact hj)
           rwa [show ez.cells.toList.getD j undef=ez.cells[j] from by simp [List.getD,IA]] at this
       ·refine done _ w (Tb _ n cap h1 V9) ?_ (same (by omega))
        have:n - x.toNat=0:=by omega
        rw [this]
        exact Li hu _ _
     ·cases qp
    ·cases qp
   ·cases qp
  ·cases qp
 ·cases qp
end
def mN {α:Type} [Inhabited α] (cells:α→List D) (l:List α):D:=.sl l.length fun i=>cells (l.getD i default)
def bJ (n:Int):List D:=[.v (.int .i64 n)]
def jV (s:ByteArray):List D:=[.v (.string s)]
def pU (b:Bool):List D:=[.v (.bool b)]
theorem Zs {n:Int} (h1 : -9223372036854775808≤n) (h2:n≤9223372036854775807):IntKind.i64.wrap n=n:=IntWalk.i64_in n ⟨h1,h2⟩
theorem acL {α:Type} [Inhabited α] (cells:α→List D) (L M:List α) :
  (L.length+M.length=(L++M).length)∧∀ i,i < L.length+M.length→(if i < L.length then cells (L.getD i default) else cells (M.getD (i - L.length) default))=cells ((L++M).getD i default):=by
 refine ⟨by simp,fun i hi=>?_⟩
 split
 ·rename_i h
  simp [List.getD,List.getElem?_append_left h]
 ·rename_i h
  simp [List.getD,List.getElem?_append_right (Nat.le_of_not_lt h)]
def vz:List AV→List AV→Prop
 | [],[]=>True
 | x :: r,y :: s=>vx x y∧vz r s
 | _,_=>False
theorem vz.rel {w:World} {S:Nat→Prop} {μ:Mu} {ν:Nat→Bool}:∀ {l l':List AV} {vs:List Value},vz l l'→dV w S μ ν l vs→dV w S μ ν l' vs
 | [],[],_,_,h=>h
 | x :: r,y :: s,vs,h,hr=>by
  obtain ⟨h1,h2⟩:=h
  cases vs with
  | nil=>exact absurd hr.1 (by simp)
  | cons v vs =>
   have ht:dV w S μ ν r vs:=⟨by simpa using hr.1,fun i hi=>by simpa using hr.2 (i+1) (by simpa using hi)⟩
   have:=vz.rel h2 ht
   refine ⟨by simpa using this.1,fun i hi=>?_⟩
   cases i with
   | zero=>exact h1 _ _ _ _ _ (by simpa using hr.2 0 (by simp))
   | succ i=>simpa using this.2 i (by simpa using hi)
 | [],_ :: _,_,h,_=>h.elim
 | _ :: _,[],_,h,_=>h.elim
theorem jl.Yd {P:Program} {f:FuncId} {args IG:List AV} {dz ij:List (Nat × bQ)} {res:AV} (h:jl P f IG dz res ij) (hle:vz args IG):jl P f args dz res ij :=
 ⟨h.1,fun w S μ vs h1 hg h2 h3 h4=>h.2 w S μ vs h1 hg (fun ν=>hle.rel (h2 ν)) h3 h4⟩
theorem Wv {α:Type} [Inhabited α] (cells:α→List D) (M:List α) :
  (0+M.length=M.length)∧∀ i,i < 0+M.length→(if i < 0 then [] else cells (M.getD (i - 0) default))=cells (M.getD i default) :=
 ⟨Nat.zero_add _,fun i hi=>by simp⟩
mutual
inductive eD (T:List (Nat × TI)):Nat→List D→Prop
 | int {t:Nat} {i:TI} {k:IntKind} (hi:look T t=some i) (hk:i.kind=.int k) (n:Int) (h:(Lit.int k n).wf=true):eD T t [.v (.int k n)]
 | bool {t:Nat} {i:TI} (hi:look T t=some i) (hk:i.kind=.bool) (b:Bool):eD T t [.v (.bool b)]
 | str {t:Nat} {i:TI} (hi:look T t=some i) (hk:i.kind=.str) (s:ByteArray) (h:s.size≤maxLen):eD T t [.v (.string s)]
 | slice {t e:Nat} {i:TI} (hi:look T t=some i) (hk:i.kind=.slice e) (n:Nat) (f:Nat→List D) (h:∀ j,j < n→eD T e (f j)):eD T t [.sl n f]
 | struct {t:Nat} {i:TI} {fs:List (Nat × Nat)} (hi:look T t=some i) (hk:i.kind=.struct fs) (ds:List D) (h:BX T (fs.map (·.2)) ds):eD T t ds
inductive BX (T:List (Nat × TI)):List Nat→List D→Prop
 | nil:BX T [] []
 | cons {t:Nat} {ts:List Nat} (p ds:List D) (h:eD T t p) (hs:BX T ts ds):BX T (t :: ts) (p++ds)
end
def Lj (T:List (Nat × TI)):Nat→List (Nat × Nat)→Option Nat
 | off,[]=>some off
 | off,(o,t) :: r=>match look T t with | some i=>bif Nat.beq o off then Lj T (off+i.size) r else none | none=>none
def Ww (T:List (Nat × TI)) (ts:List Nat) (t:Nat):Bool:=match look T t with
  | some i=>(match i.kind with
   | .int _ | .bool | .str=>true
   | .slice e=>(ts.any fun q=>Nat.beq q e)&&(match look T e with | some j=>!Nat.beq j.size 0 | none=>false)
   | .struct fs=>(match Lj T 0 fs with | some n=>Nat.beq n i.size | none=>false)&&fs.all (fun f=>ts.any fun q=>Nat.beq q f.2)
   | _=>false)
  | none=>false
def FK (T:List (Nat × TI)) (ts:List Nat):Bool:=ts.all (Ww T ts)
theorem Q1 {ts:List Nat} {t:Nat} (h:(ts.any fun q=>Nat.beq q t)=true):t∈ts:=by
 obtain ⟨q,hq,e⟩:=List.any_eq_true.1 h
 have:=Nat.eq_of_beq_eq_true e
 subst this
 exact hq
section
variable {H : Type} {enc : TypeId × Value → H} {P : Program} {w : World} {base : Nat} {spare : Nat → Bool} {held : Bool} {T : List (Nat × TI)}
def Be (w:World) (ds:List D) (cs:List Value):Prop:=ds.length=cs.length∧∀ j,j < ds.length→Rd w (fun b=>b < w.heap.size) (ds.getD j default) (cs.getD j undef)
theorem Be.one {d:D} {v:Value} (h:Rd w (fun b=>b < w.heap.size) d v):Be w [d] [v]:=⟨rfl,fun j hj=>by
 have:j=0:=by simpa using hj
 subst this
 simpa using h⟩
theorem Be.append {d1 d2:List D} {c1 c2:List Value} (h1:Be w d1 c1) (h2:Be w d2 c2):Be w (d1++d2) (c1++c2):=by
 refine ⟨by simp [h1.1,h2.1],fun j hj=>?_⟩
 by_cases h:j < d1.length
 ·have:=h1.2 j h
  have hc:j < c1.length:=by rw [← h1.1]; exact h
  simpa [List.getD,List.getElem?_append_left h,List.getElem?_append_left hc] using this
 ·have h':d1.length≤j:=Nat.le_of_not_lt h
  have hc:c1.length≤j:=by rw [← h1.1]; exact h'
  have:=h2.2 (j - d1.length) (by simp at hj; omega)
  rw [h1.1] at this
  simpa [List.getD,List.getElem?_append_right h',List.getElem?_append_right hc,h1.1] using this
theorem zV (hT:og P T) {t:Nat} {i:TI} (hi:look T t=some i):P.cellsOf t=i.size:=by
 obtain ⟨j,z,F⟩:=aH (hT _ _ hi)
 simp [Program.cellsOf,F.info,F.size]
theorem Lk (hT:og P T) (cs:List Value):∀ (fs:List (Nat × Nat)) (off n:Nat),Lj T off fs=some n→cs.length=n →
  (∀ f,f∈fs→∃ ds,eD T f.2 ds∧Be w ds ((cs.drop f.1).take (P.cellsOf f.2)))→∃ ds,BX T (fs.map (·.2)) ds∧Be w ds (cs.drop off)
 | [],off,n,hc,hl,_=>by
  simp only [Lj,Option.some.injEq] at hc
  refine ⟨[],.nil,?_⟩
  rw [List.drop_of_length_le (by omega)]
  exact ⟨rfl,fun j hj=>absurd hj (by simp)⟩
 | (o,t) :: r,off,n,hc,hl,hf=>by
  simp only [Lj] at hc
  split at hc
  ·rename_i i hi
   cases hb:Nat.beq o off with
   | false=>rw [hb] at hc; cases hc
   | true =>
    rw [hb] at hc
    have ho:=Nat.eq_of_beq_eq_true hb
    subst ho
    obtain ⟨d1,t1,r1⟩:=hf (o,t) List.mem_cons_self
    obtain ⟨d2,t2,r2⟩:=Lk hT cs r (o+i.size) n hc hl (fun f hm=>hf f (List.mem_cons_of_mem _ hm))
    refine ⟨d1++d2,.cons d1 d2 t1 t2,?_⟩
    have jT:=zV hT hi
    have e:cs.drop o=(cs.drop o).take (P.cellsOf t)++cs.drop (o+i.size):=by
     rw [← jT,← List.drop_drop,List.take_append_drop]
    rw [e]
    exact r1.append r2
  ·cases hc
theorem Ll (hT:og P T) {ts:List Nat} (DG:FK T ts=true):∀ (n t:Nat) (cs:List Value) (x:DataW H × List MemPlace),t∈ts→DataW.trod enc P w base spare held n t cs=some x→∃ ds,eD T t ds∧Be w ds cs
 | n,t,cs,x,hm,h=>by
  have hp:=List.all_eq_true.1 DG t hm
  simp only [Ww] at hp
  split at hp
  ·rename_i i hi
   obtain ⟨tj,z,F⟩:=aH (hT _ _ hi)
   have hk:=F.kind
   split at hp
   ·rename_i k lA
    rw [lA] at hk
    simp only [dU] at hk
    split at hk
    ·rename_i k' hu
     have:=of_decide_eq_true hk
     subst this
     obtain ⟨v,rfl,_,hw⟩:=DataW.trod_int hu h
     exact ⟨_,.int hi lA v hw,.one (.v _ rfl)⟩
    ·cases hk
   ·rename_i lA
    rw [lA] at hk
    simp only [dU] at hk
    split at hk
    ·rename_i hu
     obtain ⟨v,rfl,_⟩:=DataW.trod_bool hu h
     exact ⟨_,.bool hi lA v,.one (.v _ rfl)⟩
    ·cases hk
   ·rename_i lA
    rw [lA] at hk
    simp only [dU] at hk
    split at hk
    ·rename_i hu
     obtain ⟨v,rfl,_,hw⟩:=DataW.trod_string hu h
     exact ⟨_,.str hi lA v hw,.one (.v _ rfl)⟩
    ·cases hk
   ·rename_i e lA
    rw [lA] at hk
    simp only [dU] at hk
    split at hk
    ·rename_i e' hu
     have:=beq_iff_eq.1 hk
     subst this
     simp only [Bool.and_eq_true] at hp
     obtain ⟨hpe,jT⟩:=hp
     split at jT
     ·rename_i je hje
      have hce:=zV hT hje
      have QK:0 < je.size:=by
       rcases Nat.eq_zero_or_pos je.size with h0 | h0
       ·rw [h0] at jT; cases jT
       ·exact h0
      rcases DataW.trod_slice hu h with ⟨rfl,_⟩ | ⟨a,len,cap,elems,rest,n',rfl,rfl,_,hb,hlc,SN,hel,agc,_⟩
      ·exact ⟨[.sl 0 fun _=>[]],.slice hi lA 0 _ (fun j hj=>absurd hj (Nat.not_lt_zero _)),.one (.nil _)⟩
      ·have each:∀ q,q < len→∃ EC,w.cells? base (a.add (q * P.cellsOf e)) (P.cellsOf e)=some EC∧∃ ds,eD T e ds∧Be w ds EC:=by
        intro q hq
        have hx:=agc q hq
        have hs:elems[q]? = some elems[q]:=List.getElem?_eq_getElem (by omega)
        rw [hs] at hx
        cases hc:w.cells? base (a.add (q * P.cellsOf e)) (P.cellsOf e) with
        | none=>rw [hc] at hx; cases hx
        | some EC =>
         rw [hc] at hx
         exact ⟨EC,rfl,Ll hT DG n' e EC _ (Q1 hpe) hx⟩
       classical
       let g:Nat→List D:=fun q=>if hq:q < len then (each q hq).choose_spec.2.choose else []
       let vv:Nat→List Value:=fun q=>if hq:q < len then (each q hq).choose else []
       have g1:∀ q,q < len→eD T e (g q)∧Be w (g q) (vv q)∧w.cells? base (a.add (q * P.cellsOf e)) (P.cellsOf e)=some (vv q):=fun q hq=>by
        simp only [g,vv,hq,dif_pos]
        exact ⟨(each q hq).choose_spec.2.choose_spec.1,(each q hq).choose_spec.2.choose_spec.2,(each q hq).choose_spec.1⟩
       have hlen:∀ q,q < len→(g q).length=je.size:=fun q hq=>by
        obtain ⟨_,r1,c1⟩:=g1 q hq
        rw [r1.1,(World.cells?_some c1).2.1,hce]
       have adD:len=0∨a.spot=none:=by
        rcases Nat.eq_zero_or_pos len with h0 | h0
        ·exact .inl h0
        ·right
         obtain ⟨_,_,c1⟩:=g1 0 h0
         have:=(World.cells?_some c1).2.2 0 (by omega)
         have hl:=(World.cells?_some c1).2.1
         simp only [Nat.zero_mul,Addr.add,if_true] at this
         rw [List.getElem?_eq_getElem (by omega)] at this
         unfold World.cell? at this
         cases SL:a.spot with
         | none=>rfl
         | some s =>
          rw [SL] at this
          split at this <;> simp at this
       refine ⟨[.sl len g],.slice hi lA len g (fun q hq=>(g1 q hq).1),.one (.sl len g a cap je.size (fun q j=>(vv q).getD j undef) hlc SN adD hlen (fun q j hq hj=>?_) (fun q j hq hj=>(g1 q hq).2.1.2 j (by rw [hlen q hq]; exact hj)))⟩
       obtain ⟨_,r1,c1⟩:=g1 q hq
       have SL:a.spot=none:=adD.resolve_left (by omega)
       obtain ⟨ab,ao,as⟩:=a
       simp only at SL
       subst SL
       have hcc:=(World.cells?_some c1).2.2 j (by omega)
       have hl:=(World.cells?_some c1).2.1
       rw [iO,iO,hce,Nat.add_assoc,List.getElem?_eq_getElem (by omega)] at hcc
       refine ⟨?_,?_⟩
       ·unfold World.cell? at hcc
        split at hcc
        ·rename_i hh
         exact (Array.getElem?_eq_some_iff.1 hh).1
        ·cases hcc
       ·rw [hcc]
        simp [List.getD,List.getElem?_eq_getElem (show j < (vv q).length by omega)]
     ·cases jT
    ·cases hk
   ·rename_i fs lA
    rw [lA] at hk
    simp only [dU] at hk
    split at hk
    ·rename_i gs hu
     have Y0:=beq_iff_eq.1 hk
     simp only [Bool.and_eq_true,List.all_eq_true] at hp
     obtain ⟨aey,pF⟩:=hp
     split at aey
     ·rename_i tot ah5
      have htt:=Nat.eq_of_beq_eq_true aey
      subst htt
      obtain ⟨xs,n',rfl,_,hl,Y7,hfl⟩:=DataW.trod_struct hu h
      have hfs:∀ f,f∈fs→∃ ds,eD T f.2 ds∧Be w ds ((cs.drop f.1).take (P.cellsOf f.2)):=fun f hm=>by
       have hm0:=hm
       rw [← Y0] at hm
       simp only [List.mem_map] at hm
       obtain ⟨fd,hfd,rfl⟩:=hm
       obtain ⟨ix,Jl,hge⟩:=List.getElem_of_mem hfd
       have hg:gs[ix]? = some fd:=by
        rw [← hge]
        simp only [Array.length_toList] at Jl
        simp [Jl]
       have hx:=hfl ix fd hg
       have ah6:ix < xs.length:=by rw [Y7]; simpa using Jl
       rw [List.getElem?_eq_getElem ah6] at hx
       exact Ll hT DG n' fd.type _ _ (Q1 (pF _ hm0)) hx
      obtain ⟨ds,q1,q2⟩:=Lk (w:=w) hT cs fs 0 i.size ah5 (by rw [hl,zV hT hi]) hfs
      exact ⟨ds,.struct hi lA ds q1,by simpa using q2⟩
     ·cases aey
    ·cases hk
   ·cases hp
  ·cases hp
termination_by n=>n
theorem eD.Dj {t:Nat} {i:TI} {k:IntKind} {ds:List D} (hi:look T t=some i) (hk:i.kind=.int k) (h:eD T t ds):∃ n,ds=[.v (.int k n)]∧(Lit.int k n).wf=true:=by
 cases h with
 | int gv gE n h=>rw [hi] at gv; cases gv; rw [hk] at gE; cases gE; exact ⟨n,rfl,h⟩
 | bool gv gE=>rw [hi] at gv; cases gv; rw [hk] at gE; cases gE
 | str gv gE=>rw [hi] at gv; cases gv; rw [hk] at gE; cases gE
 | slice gv gE=>rw [hi] at gv; cases gv; rw [hk] at gE; cases gE
 | struct gv gE=>rw [hi] at gv; cases gv; rw [hk] at gE; cases gE
theorem eD.aa0 {t:Nat} {i:TI} {ds:List D} (hi:look T t=some i) (hk:i.kind=.bool) (h:eD T t ds):∃ b,ds=[.v (.bool b)]:=by
 cases h with
 | int gv gE=>rw [hi] at gv; cases gv; rw [hk] at gE; cases gE
 | bool gv gE b=>exact ⟨b,rfl⟩
 | str gv gE=>rw [hi] at gv; cases gv; rw [hk] at gE; cases gE
 | slice gv gE=>rw [hi] at gv; cases gv; rw [hk] at gE; cases gE
 | struct gv gE=>rw [hi] at gv; cases gv; rw [hk] at gE; cases gE
theorem eD.acM {t:Nat} {i:TI} {ds:List D} (hi:look T t=some i) (hk:i.kind=.str) (h:eD T t ds):∃ s,ds=[.v (.string s)]∧s.size≤maxLen:=by
 cases h with
 | int gv gE=>rw [hi] at gv; cases gv; rw [hk] at gE; cases gE
 | bool gv gE=>rw [hi] at gv; cases gv; rw [hk] at gE; cases gE
 | str gv gE s h=>exact ⟨s,rfl,h⟩
 | slice gv gE=>rw [hi] at gv; cases gv; rw [hk] at gE; cases gE
 | struct gv gE=>rw [hi] at gv; cases gv; rw [hk] at gE; cases gE
theorem eD.gd {t e:Nat} {i:TI} {ds:List D} (hi:look T t=some i) (hk:i.kind=.slice e) (h:eD T t ds):∃ n f,ds=[.sl n f]∧∀ j,j < n→eD T e (f j):=by
 cases h with
 | int gv gE=>rw [hi] at gv; cases gv; rw [hk] at gE; cases gE
 | bool gv gE=>rw [hi] at gv; cases gv; rw [hk] at gE; cases gE
 | str gv gE=>rw [hi] at gv; cases gv; rw [hk] at gE; cases gE
 | slice gv gE n f h=>rw [hi] at gv; cases gv; rw [hk] at gE; cases gE; exact ⟨n,f,rfl,h⟩
 | struct gv gE=>rw [hi] at gv; cases gv; rw [hk] at gE; cases gE
theorem eD.dH {t:Nat} {i:TI} {fs:List (Nat × Nat)} {ds:List D} (hi:look T t=some i) (hk:i.kind=.struct fs) (h:eD T t ds):BX T (fs.map (·.2)) ds:=by
 cases h with
 | int gv gE=>rw [hi] at gv; cases gv; rw [hk] at gE; cases gE
 | bool gv gE=>rw [hi] at gv; cases gv; rw [hk] at gE; cases gE
 | str gv gE=>rw [hi] at gv; cases gv; rw [hk] at gE; cases gE
 | slice gv gE=>rw [hi] at gv; cases gv; rw [hk] at gE; cases gE
 | struct gv gE ds h=>rw [hi] at gv; cases gv; rw [hk] at gE; cases gE; exact h
theorem BX.cons_inv {t:Nat} {ts:List Nat} {ds:List D} (h:BX T (t :: ts) ds):∃ p r,ds=p++r∧eD T t p∧BX T ts r:=by
 cases h with
 | cons p r h hs=>exact ⟨p,r,rfl,h,hs⟩
theorem BX.jv {ds:List D} (h:BX T [] ds):ds=[]:=by cases h; rfl
end
section
open Go Go.ChangeShapes Go.WideShapes Go.ChangeAt Go.RowKit
def aX (l l':List D):Prop:=l.length=l'.length∧∀ j,j < l.length→tU (l.getD j default) (l'.getD j default)
theorem aX.refl (l:List D):aX l l:=⟨rfl,fun _ _=>tU.rfl'⟩
theorem aX.nil:aX [] []:=.refl _
theorem aX.one {d d':D} (h:tU d d'):aX [d] [d']:=⟨rfl,fun j hj=>by
 have:j=0:=by simpa using hj
 subst this
 simpa using h⟩
theorem aX.append {p p' r r':List D} (h1:aX p p') (h2:aX r r'):aX (p++r) (p'++r'):=by
 refine ⟨by simp [h1.1,h2.1],fun j hj=>?_⟩
 by_cases h:j < p.length
 ·have h':j < p'.length:=by rw [← h1.1]; exact h
  simpa [List.getD,List.getElem?_append_left h,List.getElem?_append_left h'] using h1.2 j h
 ·have hh:p.length≤j:=Nat.le_of_not_lt h
  have h':p'.length≤j:=by rw [← h1.1]; exact hh
  have:=h2.2 (j - p.length) (by simp at hj; omega)
  rw [List.getD,List.getD,List.getElem?_append_right hh,List.getElem?_append_right h',← h1.1]
  exact this
theorem aX.cons {d d':D} {r r':List D} (h1:tU d d') (h2:aX r r'):aX ([d]++r) (d' :: r'):=aX.append (aX.one h1) h2
theorem aX.agg {l l':List D} (h:aX l l'):tU (.agg l) (.agg l'):=tU.agg h.1 h.2
theorem tU.adE {n:Nat} {f g:Nat→List D} (h:∀ i,i < n→aX (f i) (g i)):tU (.sl n f) (.sl n g):=by
 intro w S x hr
 cases hr with
 | nil=>exact .nil g
 | sl _ _ a cap k gu hc hm hs hk ck hh =>
  exact .sl n g a cap k gu hc hm hs (fun i hi=>by rw [← (h i hi).1]; exact hk i hi) ck (fun i j hi hj=>(h i hi).2 j (by rw [hk i hi]; exact hj) w S _ (hh i j hi hj))
theorem k5 {T:List (Nat × TI)} {α:Type} [Inhabited α] (cells:α→List D) (ok:α→Prop) {e:Nat} (hof:∀ ds,eD T e ds→∃ c,aX ds (cells c)∧ok c) {n:Nat} {f:Nat→List D} (h:∀ j,j < n→eD T e (f j)) :
  ∃ l:List α,tU (.sl n f) (mN cells l)∧l.length=n∧∀ x,x∈l→ok x:=by
 classical
 let g:Nat→α:=fun j=>if hj:j < n then (hof _ (h j hj)).choose else default
 have hg:∀ j,j < n→aX (f j) (cells (g j))∧ok (g j):=fun j hj=>by
  simp only [g,hj,dif_pos]
  exact (hof _ (h j hj)).choose_spec
 refine ⟨(List.range n).map g,?_,by simp,fun x hx=>?_⟩
 ·have e:mN cells ((List.range n).map g)=.sl n fun i=>cells (((List.range n).map g).getD i default):=by simp [mN]
  rw [e]
  refine tU.adE fun i hi=>?_
  have:((List.range n).map g).getD i default=g i:=by simp [List.getD,hi]
  rw [this]
  exact (hg i hi).1
 ·simp only [List.mem_map,List.mem_range] at hx
  obtain ⟨j,hj,rfl⟩:=hx
  exact (hg j hj).2
def eK (n:Int):Prop:=-9223372036854775808≤n∧n≤9223372036854775807
theorem acN {n:Int} (h:(Lit.int .i64 n).wf=true):eK n:=by
 simpa [Lit.wf,IntKind.min,IntKind.max,eK,IntKind.bits,IntKind.signed] using h
def aa1 (T:List (Nat × TI)) (t:Nat) (ds:List D):AV :=
 match look T t with
 | some i=>(match i.kind with | .struct _=>.d (.agg ds) | _=>.d (ds.getD 0 default))
 | none=>.any
def zW (T:List (Nat × TI)):List Nat→List (List D)→List AV
 | t :: ts,d :: ds=>aa1 T t d :: zW T ts ds
 | _,_=>[]
def Q2 (T:List (Nat × TI)):List Nat→List (List D)→Prop
 | [],[]=>True
 | t :: ts,d :: ds=>eD T t d∧Q2 T ts ds
 | _,_=>False
section
variable {H : Type} {enc : TypeId × Value → H} {P : Program} {W : World} {T : List (Nat × TI)}
theorem acO (hT:og P T) {cl:List Nat} (DG:FK T cl=true) {t:Nat} (hm:t∈cl) {v:Value} {d:DataW H} {ps:List MemPlace} {base:Nat} (hv:Value.okWide P W .any base t v) (h:DataW.Trod enc P W 0 (fun _=>true) true t v d ps) :
  ∃ ds,eD T t ds∧∀ μ ν,Rel W (fun b=>b < W.heap.size) μ ν (aa1 T t ds) v:=by
 obtain ⟨fuel,h⟩:=h
 obtain ⟨ds,h1,h2⟩:=Ll hT DG _ t _ _ hm h
 have hp:=List.all_eq_true.1 DG t hm
 refine ⟨ds,h1,fun μ ν=>?_⟩
 ·simp only [Ww] at hp
  split at hp
  ·rename_i i hi
   obtain ⟨tj,z,F⟩:=aH (hT _ _ hi)
   have hk:=F.kind
   have one:∀ v',v=v'→v'.cells = #[v']→Rd W (fun b=>b < W.heap.size) (ds.getD 0 default) v:=by
    rintro v' rfl hc
    rw [hc] at h2
    have:=h2.2 0 (by rw [h2.1]; simp)
    simpa using this
   simp only [aa1,hi]
   split at hp
   ·rename_i k lA
    rw [lA] at hk ⊢
    simp only [dU] at hk
    split at hk
    ·rename_i hu
     have:=of_decide_eq_true hk
     subst this
     obtain ⟨n,rfl⟩:=okWide_int hu hv
     exact .d (one _ rfl rfl)
    ·cases hk
   ·rename_i lA
    rw [lA] at hk ⊢
    simp only [dU] at hk
    split at hk
    ·rename_i hu
     obtain ⟨n,rfl⟩:=okWide_bool hu hv
     exact .d (one _ rfl rfl)
    ·cases hk
   ·rename_i lA
    rw [lA] at hk ⊢
    simp only [dU] at hk
    split at hk
    ·rename_i hu
     obtain ⟨n,rfl⟩:=okWide_string hu hv
     exact .d (one _ rfl rfl)
    ·cases hk
   ·rename_i e lA
    rw [lA] at hk ⊢
    simp only [dU] at hk
    split at hk
    ·rename_i hu
     obtain ⟨a,n,c,rfl⟩:=okWide_slice hu hv
     exact .d (one _ rfl rfl)
    ·cases hk
   ·rename_i fs lA
    rw [lA] at hk ⊢
    simp only [dU] at hk
    split at hk
    ·rename_i gs hu
     obtain ⟨cs,rfl,_⟩:=okWide_struct hu hv
     refine .d (.agg ds cs ?_ (fun j hj=>?_))
     ·have:=h2.1
      simp only [Value.cells,Array.length_toList] at this
      exact this.symm
     ·have:=h2.2 j hj
      simp only [Value.cells] at this
      simpa [List.getD,Array.getD_eq_getD_getElem?] using this
    ·cases hk
   ·cases hp
  ·cases hp
theorem TX (hT:og P T) {cl:List Nat} (DG:FK T cl=true) {base:Nat}:∀ {ts:List Nat} {vs:List Value} {ds:List (DataW H)} {ps:List MemPlace},(ts.all fun t=>cl.any fun q=>Nat.beq q t)=true→(∀ (j:Nat) t v,ts[j]? = some t→vs[j]? = some v→Value.okWide P W .any base t v) →
  DataW.TrodAll enc P W 0 (fun _=>true) true ts vs ds ps→∃ VV,Q2 T ts VV∧∀ μ ν,dV W (fun b=>b < W.heap.size) μ ν (zW T ts VV) vs
 | [],[],[],_,_,_,_=>⟨[],trivial,fun _ _=>⟨rfl,fun i hi=>absurd hi (by simp [zW])⟩⟩
 | t :: ts,v :: vs,d :: ds,ps,hp,hv,h=>by
  obtain ⟨p,q,h1,h2,rfl⟩:=h
  simp only [List.all_cons,Bool.and_eq_true] at hp
  obtain ⟨d1,x1,x2⟩:=acO hT DG (Q1 hp.1) (hv 0 t v rfl rfl) h1
  obtain ⟨VV,y1,y2⟩:=TX hT DG hp.2 (fun j t v a b=>hv (j+1) t v (by simpa using a) (by simpa using b)) h2
  refine ⟨d1 :: VV,⟨x1,y1⟩,fun μ ν=>?_⟩
  have:=y2 μ ν
  refine ⟨by simp [zW,this.1],fun i hi=>?_⟩
  cases i with
  | zero=>simpa [zW] using x2 μ ν
  | succ i=>simpa [zW] using this.2 i (by simpa [zW] using hi)
 | [],_ :: _,_,_,_,_,h=>h.elim
 | [],[],_ :: _,_,_,_,h=>h.elim
 | _ :: _,[],_,_,_,_,h=>h.elim
 | _ :: _,_ :: _,[],_,_,_,h=>h.elim
theorem Ed (hl:laidOutB P=true) {W':World} (hb:Below W.heap.size W W'):∀ {ts:List Nat} {vs:List Value} {ds:List (DataW H)} {ps:List MemPlace},ts.all (fun t=>P.readableRec t&&Nat.ble (t+1) P.types.size)=true →
  (∀ p∈ps,p.block < W.heap.size)→DataW.TrodAll enc P W 0 (fun _=>true) true ts vs ds ps→DataW.TrodAll enc P W' 0 (fun b=>decide (b < W.heap.size)) true ts vs ds ps
 | [],[],[],_,_,_,h=>h
 | t :: ts,v :: vs,d :: ds,ps,hp,gJ,h=>by
  obtain ⟨p,q,h1,h2,rfl⟩:=h
  simp only [List.all_cons,Bool.and_eq_true] at hp
  exact ⟨p,q,Below.trod hl hp.1.1 (Nat.le_of_ble_eq_true hp.1.2) h1 hb (fun x hx=>gJ x (List.mem_append_left _ hx)),Ed hl hb hp.2 (fun x hx=>gJ x (List.mem_append_right _ hx)) h2,rfl⟩
 | [],_ :: _,_,_,_,_,h=>h.elim
 | [],[],_ :: _,_,_,_,h=>h.elim
 | _ :: _,[],_,_,_,_,h=>h.elim
 | _ :: _,_ :: _,[],_,_,_,h=>h.elim
theorem Zt (hT:og P T) (hl:laidOutB P=true) {f:FuncId} {fn:Func} {s:ChangeSpec} {tb base:Nat} {cl:List Nat} {args:Array Value} {ds gs:List (DataW H)} {before:List MemPlace}
  (DG:FK T cl=true) (aez:(fn.params.toList.all fun t=>cl.any fun q=>Nat.beq q t)=true) (agd:fn.params.toList.all (fun t=>P.readableRec t&&Nat.ble (t+1) P.types.size)=true) (aaz:fn.resultTypes = #[tb]) (hb:P.underlying tb=some .bool) (adF:s.vars=[])
  (aa2:∀ (j:Nat) t v,fn.params[j]? = some t→args[j]? = some v→Value.okWide P W .any base t v)
  (hW:DataW.Whole enc P fn.params.toList s.vars false W args.toList ds gs before)
  (hgl:jU W fun b=>b < W.heap.size) (hs:(s.fn H (ds++gs)).results=[.lit (.bool true)]∧(s.fn H (ds++gs)).args=ds∧(s.fn H (ds++gs)).vars=[])
  (aeA:∀ VV,Q2 T fn.params.toList VV→jl P f (zW T fn.params.toList VV) [] (.d (.v (.bool true))) []) :
  Calls P f args W fun e W'=>∃ v,e=.returned v∧s.post enc P fn false true false false W args v W':=by
 have gJ:=hW.lt
 obtain ⟨p,q,hA,hV,hpq,hz,hn⟩:=id hW
 rw [adF] at hV
 have hg:gs=[]∧q=[]:=by
  cases gs with
  | nil=>exact ⟨rfl,hV⟩
  | cons _ _=>exact hV.elim
 obtain ⟨VV,h1,h2⟩:=TX hT DG (base:=base) aez (fun j t v a b=>aa2 j t v (by simpa using a) (by simpa using b)) hA
 have hf:=aeA VV h1
 refine Calls.mono (hf.2 W (fun b=>b < W.heap.size) (fun _=>none) args (fun _ h=>h) hgl (fun ν=>h2 _ ν) (fun κ b hb=>by simp [look] at hb) (fun κ κ' b b' g c c' hb=>by simp [look] at hb)) ?_
 rintro e W' ⟨v,S',μ',rfl,B⟩
 have hv:v=.bool true:=oj (B.res fun _=>false)
 subst hv
 have EE:Below W.heap.size W W':=⟨B.kept.os,B.kept.tape,B.kept.output,B.kept.size,fun k hk=>B.kept.block k hk (fun ⟨κ,b,c,q,_⟩=>by simp [look] at q)⟩
 refine ⟨_,rfl,ds,gs,before,[],p,[],hW,?_,?_,?_,EE.frame _,fun h=>by cases h⟩
 ·rw [aaz,hs.1]
  exact trodAll_mk1 (shut_bool hb true)
 ·rw [hs.2.1]
  exact Ed hl EE agd (fun x hx=>gJ x (by rw [hpq]; exact List.mem_append_left _ hx)) hA
 ·rw [hs.2.2,adF]
  exact rfl
end
end
inductive CT:Type 1 where
 | nil
 | bad
 | bb (a b:Bool)
 | nn (a b:Nat)
 | zz (a b:Int)
 | dd (a b:D)
 | ll (a b:List D)
 | vv (a b:AV)
 | ff (f g:Nat→List D)
 | mm (f g:Nat→Value × D)
 | ss (a b:List Nat)
 | po (a b:Option Prop)
 | td (a b:List Item)
 | qq (a b:List (Int × Int)→Prop)
 | two (a b:CT)
 | pi {β:Type} (f:β→CT)
def CT.ok:CT→Prop
 | .nil=>True
 | .bad=>False
 | .bb a b=>a=b
 | .nn a b=>a=b
 | .zz a b=>a=b
 | .dd a b=>a=b
 | .ll a b=>a=b
 | .vv a b=>a=b
 | .ff f g=>f=g
 | .mm f g=>f=g
 | .ss a b=>a=b
 | .po a b=>a=b
 | .td a b=>a=b
 | .qq a b=>a=b
 | .two a b=>a.ok∧b.ok
 | .pi f=>∀ b,(f b).ok
def CT.diag:CT→CT
 | .nil=>.nil
 | .bad=>.nil
 | .bb _ b=>.bb b b
 | .nn _ b=>.nn b b
 | .zz _ b=>.zz b b
 | .dd _ b=>.dd b b
 | .ll _ b=>.ll b b
 | .vv _ b=>.vv b b
 | .ff _ g=>.ff g g
 | .mm _ g=>.mm g g
 | .ss _ b=>.ss b b
 | .po _ b=>.po b b
 | .td _ b=>.td b b
 | .qq _ b=>.qq b b
 | .two a b=>.two a.diag b.diag
 | .pi f=>.pi fun b=>(f b).diag
theorem CT.Ee:∀ {t:CT},t=t.diag→t.ok
 | .nil,_=>trivial
 | .bad,h=>by cases h
 | .bb a b,h=>by simpa [CT.diag,CT.ok] using h
 | .nn a b,h=>by simpa [CT.diag,CT.ok] using h
 | .zz a b,h=>by simpa [CT.diag,CT.ok] using h
 | .dd a b,h=>by simpa [CT.diag,CT.ok] using h
 | .ll a b,h=>by simpa [CT.diag,CT.ok] using h
 | .vv a b,h=>by simpa [CT.diag,CT.ok] using h
 | .ff a b,h=>by simpa [CT.diag,CT.ok] using h
 | .mm a b,h=>by simpa [CT.diag,CT.ok] using h
 | .ss a b,h=>by simpa [CT.diag,CT.ok] using h
 | .po a b,h=>by simp only [CT.diag,CT.po.injEq] at h; exact h.1
 | .td a b,h=>by simpa [CT.diag,CT.ok] using h
 | .qq a b,h=>by simpa [CT.diag,CT.ok] using h
 | .two a b,h=>by
  simp only [CT.diag,CT.two.injEq] at h
  exact ⟨CT.Ee h.1,CT.Ee h.2⟩
 | .pi f,h=>by
  simp only [CT.diag] at h
  have h1:f=fun b=>(f b).diag:=by injection h
  exact fun b=>CT.Ee (congrFun h1 b)
def Ob.eqs:Ob→CT
 | .tt=>.nil
 | .pr _=>.nil
 | .be a b=>.bb a b
 | .ne a b=>.nn a b
 | .ze a b=>.zz a b
 | .fe f g=>.ff f g
 | .me f g=>.mm f g
 | .ve a b=>.vv a b
 | .two a b=>.two a.eqs b.eqs
 | .wh _ _ a=>a.eqs
def Ho:Option Prop→Option Prop→Option Prop
 | none,x=>x
 | x,none=>x
 | some p,some q=>some (p∧q)
def Ob.prop:Ob→Option Prop
 | .pr p=>some p
 | .two a b=>Ho a.prop b.prop
 | .wh e w a=>(match a.prop with | none=>none | some p=>some (e=w→p))
 | _=>none
theorem Ye {x y:Option Prop} (h:∀ p,Ho x y=some p→p):(∀ p,x=some p→p)∧∀ p,y=some p→p:=by
 cases x with
 | none=>exact ⟨fun p hp=>(by cases hp),fun p hp=>h p (by simpa [Ho] using hp)⟩
 | some a =>
  cases y with
  | none=>exact ⟨fun p hp=>h p (by simpa [Ho] using hp),fun p hp=>(by cases hp)⟩
  | some b =>
   have:=h (a∧b) rfl
   exact ⟨fun p hp=>(by cases hp; exact this.1),fun p hp=>(by cases hp; exact this.2)⟩
theorem Ob.Hp:∀ {ob:Ob},ob.eqs.ok→(∀ p,ob.prop=some p→p)→ob.den
 | .tt,_,_=>trivial
 | .pr p,_,h=>h p rfl
 | .be _ _,h,_=>h
 | .ne _ _,h,_=>h
 | .ze _ _,h,_=>h
 | .fe _ _,h,_=>h
 | .me _ _,h,_=>h
 | .ve _ _,h,_=>h
 | .two a b,h,hp=>⟨Ob.Hp h.1 (Ye hp).1,Ob.Hp h.2 (Ye hp).2⟩
 | .wh e w a,h,hp=>fun he=>Ob.Hp h (fun p hq=>hp (e=w→p) (by simp [Ob.prop,hq]) he)
def EF (ob:Ob):CT:=match ob.prop with | none=>ob.eqs | some _=>.bad
theorem vA {ob:Ob} (h:(EF ob).ok):ob.den:=by
 unfold EF at h
 split at h
 ·rename_i hn
  exact Ob.Hp h (fun p hp=>by rw [hn] at hp; cases hp)
 ·exact h.elim
def cEq:D→D→CT
 | .v (.slice none 0 0),.sl n _=>.nn n 0
 | x,y=>.dd x y
def Wx:List D→List D→CT
 | [],[]=>.nil
 | c :: cs,d :: ds=>.two (cEq c d) (Wx cs ds)
 | _,_=>.bad
def dEq:D→D→CT
 | .agg cs,.agg ds=>Wx cs ds
 | x,y=>cEq x y
theorem aa3 {x y:D} (h:(cEq x y).ok):tU x y:=by
 unfold cEq at h
 split at h
 ·have h:_=0:=h
  subst h
  exact tU.nil _
 ·exact tU.of_eq h
theorem FL:∀ {cs ds:List D},(Wx cs ds).ok→cs.length=ds.length∧∀ i,i < cs.length→tU (cs.getD i default) (ds.getD i default)
 | [],[],_=>⟨rfl,fun i hi=>absurd hi (by simp)⟩
 | c :: cs,d :: ds,h=>by
  obtain ⟨h1,h2⟩:=FL h.2
  refine ⟨by simp [h1],fun i hi=>?_⟩
  cases i with
  | zero=>simpa using aa3 h.1
  | succ i=>simpa using h2 i (by simpa using hi)
 | [],_ :: _,h=>h.elim
 | _ :: _,[],h=>h.elim
theorem aeB {x y:D} (h:(dEq x y).ok):tU x y:=by
 unfold dEq at h
 split at h
 ·exact tU.agg (FL h).1 (FL h).2
 ·exact aa3 h
mutual
def Wy (ρ:Ren):AV→AV→CT
 | _,.any=>.nil
 | .d x,.d y=>dEq x y
 | .own κ n,.own κ' n'=>.two (.bb (tl ρ κ' κ) true) (.nn n n')
 | .d (.v (.slice none 0 0)),.own κ' n'=>.two (.bb (TN ρ κ') true) (.nn n' 0)
 | .ptr κ o,.ptr κ' o'=>.bb (tl ρ κ' κ&&Nat.beq o o') true
 | .ref cs,.ref EC=>.ll cs EC
 | .fn f l,.fn f' l'=>.two (.bb (Nat.beq f f') true) (FM ρ l l')
 | .fb l,.fb l'=>FM ρ l l'
 | .ag l,.ag l'=>FM ρ l l'
 | .yC κ,.yC κ'=>.bb (tl ρ κ' κ) true
 | .C8 n f,.C8 n' f'=>.two (.nn n n') (.mm f f')
 | .A8 n f,.A8 n' f'=>.two (.nn n n') (.ff f f')
 | .A8 n f,.d (.sl n' f')=>.two (.nn n n') (.ff f f')
 | .zI κ k i o,.zI κ' k' i' o'=>.two (.bb (tl ρ κ' κ&&Nat.beq k k'&&Nat.beq o o') true) (.nn i i')
 | _,_=>.bad
def FM (ρ:Ren):List AV→List AV→CT
 | [],[]=>.nil
 | x :: r,y :: s=>.two (Wy ρ x y) (FM ρ r s)
 | _,_=>.bad
end
def aeC (ρ:Ren):bQ→bQ→CT
 | .box cs,.box EC=>FM ρ cs EC
 | .row e k n f,.row e' k' n' f'=>.two (.bb (Nat.beq e e'&&Nat.beq k k') true) (.two (.nn n n') (.ff f f'))
 | .mp n f,.mp n' f'=>.two (.nn n n') (.mm f f')
 | .it mk n s,.it mk' n' s'=>.two (.bb (tl ρ mk' mk) true) (.two (.nn n n') (.ss s s'))
 | .mx q,.mx q'=>.qq q q'
 | _,_=>.bad
def acP (ρ:Ren) (sl:List (Nat × AV)):List (Nat × AV)→CT
 | []=>.nil
 | (t,x) :: r=>.two (Wy ρ (St.get sl t) x) (acP ρ sl r)
def Wz (ρ:Ren) (lb:List (Nat × bQ)):List (Nat × bQ)→CT
 | []=>.nil
 | (κ,b) :: r=>(match look ρ κ with
  | some (some o)=>(match look lb o with | some c=>.two (aeC ρ c b) (Wz ρ lb r) | none=>.bad)
  | some none=>(match b with | .row _ _ n _=>.two (.nn n 0) (Wz ρ lb r) | _=>.bad)
  | none=>.bad)
mutual
theorem FN {ρ:Ren}:∀ (x y:AV),(Wy ρ x y).ok→∃ p,tn ρ x y=some p∧p
 | x,y,h=>by
  unfold Wy at h
  split at h
  ·exact ⟨True,by unfold tn; rfl,trivial⟩
  ·exact ⟨_,by unfold tn; rfl,aeB h⟩
  ·obtain ⟨h1,h2⟩:=h
   have h1:tl ρ _ _=true:=h1
   exact ⟨_,by unfold tn; rw [h1]; rfl,h2⟩
  ·obtain ⟨h1,h2⟩:=h
   have h1:TN ρ _=true:=h1
   exact ⟨_=0,by simp [tn,h1],h2⟩
  ·have h:(tl ρ _ _&&Nat.beq _ _)=true:=h
   exact ⟨True,by unfold tn; rw [h]; rfl,trivial⟩
  ·exact ⟨_,by unfold tn; rfl,h⟩
  ·rename_i f l f' l'
   obtain ⟨h1,h2⟩:=h
   have h1:Nat.beq f f'=true:=h1
   obtain ⟨p,hp,hq⟩:=BZ l l' h2
   exact ⟨p,by unfold tn; rw [h1]; exact hp,hq⟩
  ·rename_i l l'
   obtain ⟨p,hp,hq⟩:=BZ l l' h
   exact ⟨p,by unfold tn; exact hp,hq⟩
  ·rename_i l l'
   obtain ⟨p,hp,hq⟩:=BZ l l' h
   exact ⟨p,by unfold tn; exact hp,hq⟩
  ·have h:tl ρ _ _=true:=h
   exact ⟨True,by unfold tn; rw [h]; rfl,trivial⟩
  ·rename_i n f n' f'
   exact ⟨n=n'∧f=f',by unfold tn; rfl,h.1,h.2⟩
  ·rename_i n f n' f'
   exact ⟨n=n'∧f=f',by unfold tn; rfl,h.1,h.2⟩
  ·rename_i n f n' f'
   exact ⟨n=n'∧f=f',by unfold tn; rfl,h.1,h.2⟩
  ·rename_i κ k i o κ' k' i' o'
   obtain ⟨h1,h2⟩:=h
   have h1:(tl ρ κ' κ&&Nat.beq k k'&&Nat.beq o o')=true:=h1
   exact ⟨i=i',by unfold tn; rw [h1]; rfl,h2⟩
  ·exact h.elim
theorem BZ {ρ:Ren}:∀ (x y:List AV),(FM ρ x y).ok→∃ p,yN ρ x y=some p∧p
 | [],[],_=>⟨True,by unfold yN; rfl,trivial⟩
 | x :: r,y :: s,h=>by
  unfold FM at h
  obtain ⟨p,h1,h2⟩:=FN x y h.1
  obtain ⟨q,h3,h4⟩:=BZ r s h.2
  exact ⟨p∧q,by unfold yN; rw [h1,h3],h2,h4⟩
 | [],_ :: _,h=>by unfold FM at h; exact h.elim
 | _ :: _,[],h=>by unfold FM at h; exact h.elim
end
theorem acQ {ρ:Ren} {b c:bQ} (h:(aeC ρ b c).ok):∃ p,ny ρ b c=some p∧p:=by
 unfold aeC at h
 split at h
 ·rename_i cs EC
  obtain ⟨p,h1,h2⟩:=BZ cs EC h
  exact ⟨p,h1,h2⟩
 ·rename_i e k n f e' k' n' f'
  obtain ⟨h1,h2,h3⟩:=h
  have h1:(Nat.beq e e'&&Nat.beq k k')=true:=h1
  have h3:f=f':=h3
  exact ⟨n=n'∧∀ i,i < n→f i=f' i,by unfold ny; dsimp only; rw [h1]; rfl,h2,fun i _=>by rw [h3]⟩
 ·rename_i n f n' f'
  exact ⟨n=n'∧f=f',rfl,h.1,h.2⟩
 ·rename_i mk n s mk' n' s'
  obtain ⟨h1,h2,h3⟩:=h
  have h1:tl ρ mk' mk=true:=h1
  exact ⟨n=n'∧s=s',by unfold ny; dsimp only; rw [h1]; rfl,h2,h3⟩
 ·rename_i q q'
  exact ⟨q=q',rfl,h⟩
 ·exact h.elim
theorem Q3 {ρ:Ren} {sl:List (Nat × AV)}:∀ {l:List (Nat × AV)},(acP ρ sl l).ok→∃ p,Lf ρ sl l=some p∧p
 | [],_=>⟨True,rfl,trivial⟩
 | (t,x) :: r,h=>by
  obtain ⟨p,h1,h2⟩:=FN _ _ h.1
  obtain ⟨q,h3,h4⟩:=Q3 h.2
  exact ⟨p∧q,by unfold Lf; rw [h1,h3],h2,h4⟩
theorem FO {ρ:Ren} {lb:List (Nat × bQ)}:∀ {l:List (Nat × bQ)},(Wz ρ lb l).ok→∃ p,Jo ρ lb l=some p∧p
 | [],_=>⟨True,rfl,trivial⟩
 | (κ,b) :: r,h=>by
  unfold Wz at h
  split at h
  ·rename_i o ho
   split at h
   ·rename_i c hc
    obtain ⟨p,h1,h2⟩:=acQ h.1
    obtain ⟨q,h3,h4⟩:=FO h.2
    exact ⟨p∧q,by unfold Jo; rw [ho,h3]; simp only [hc,h1],h2,h4⟩
   ·exact h.elim
  ·rename_i ho
   split at h
   ·obtain ⟨q,h3,h4⟩:=FO h.2
    exact ⟨_∧q,by unfold Jo; rw [ho,h3]; rfl,h.1,h4⟩
   ·exact h.elim
  ·exact h.elim
def Hq (κ:Nat) (o:Option Nat) (ρ:Ren):Ren:=match look ρ κ with | some _=>ρ | none=>(κ,o) :: ρ
mutual
def PJ:AV→AV→Ren→Ren
 | .own κ _,.own κ' _,ρ=>Hq κ' (some κ) ρ
 | .d _,.own κ' _,ρ=>Hq κ' none ρ
 | .ptr κ _,.ptr κ' _,ρ=>Hq κ' (some κ) ρ
 | .yC κ,.yC κ',ρ=>Hq κ' (some κ) ρ
 | .zI κ _ _ _,.zI κ' _ _ _,ρ=>Hq κ' (some κ) ρ
 | .fn _ l,.fn _ l',ρ=>Lm l l' ρ
 | .fb l,.fb l',ρ=>Lm l l' ρ
 | .ag l,.ag l',ρ=>Lm l l' ρ
 | _,_,ρ=>ρ
def Lm:List AV→List AV→Ren→Ren
 | x :: r,y :: s,ρ=>Lm r s (PJ x y ρ)
 | _,_,ρ=>ρ
end
def aa4 (sl:List (Nat × AV)):List (Nat × AV)→Ren→Ren
 | [],ρ=>ρ
 | (t,x) :: r,ρ=>aa4 sl r (PJ (St.get sl t) x ρ)
def Ln (lb:List (Nat × bQ)):List (Nat × bQ)→Ren→Ren
 | [],ρ=>ρ
 | (κ,b) :: r,ρ=>Ln lb r (match look ρ κ with
  | some (some o)=>(match look lb o,b with | some (.box cs),.box EC=>Lm cs EC ρ | some (.it m _ _),.it m' _ _=>Hq m' (some m) ρ | _,_=>ρ)
  | _=>ρ)
def aa5 (st st':St):Ren:=Ln st.lb st'.lb (Ln st.lb st'.lb (aa4 st.sl st'.sl []))
def NC (st st':St):CT:=.two (.bb (FJ (aa5 st st')) true) (.two (acP (aa5 st st') st.sl st'.sl) (Wz (aa5 st st') st.lb st'.lb))
theorem wZ {st st':St} (h:(NC st st').ok):Nr st st':=by
 obtain ⟨h1,h2,h3⟩:=h
 obtain ⟨p,q1,q2⟩:=Q3 h2
 obtain ⟨p',q3,q4⟩:=FO h3
 exact Nr.of _ h1 q1 q2 q3 q4
def aeD (t:Nat):Nat:=Nat.shiftLeft 1 t
def Lo:Operand→Nat
 | .tmp t=>aeD t
 | _=>0
def PK:List Operand→Nat
 | []=>0
 | x :: r=>Nat.lor (Lo x) (PK r)
def aa6:List Oper→Nat
 | []=>0
 | o :: r=>Nat.lor (PK o.op.operands.toList) (aa6 r)
def Ef:Code→Nat
 | .region _ ops _=>aa6 ops.toList
 | .seq a b=>Nat.lor (Ef a) (Ef b)
 | .cond c a b=>Nat.lor (Lo c) (Nat.lor (Ef a) (Ef b))
 | .block _ c=>Ef c
 | .loop c=>Ef c
 | .rangeFunc f _ a b=>Nat.lor (Lo f) (Nat.lor (Ef a) (Ef b))
 | _=>0
def lB:List Item→Nat
 | []=>0
 | .code c :: r=>Nat.lor (Ef c) (lB r)
 | .inLoop c :: r=>Nat.lor (Ef c) (lB r)
 | _ :: r=>lB r
def FP:List ResultVar→Nat
 | []=>0
 | .tmp t :: r=>Nat.lor (aeD t) (FP r)
 | .cell t _ :: r=>Nat.lor (aeD t) (FP r)
def Lp (m t:Nat):Bool:=Nat.beq (Nat.land (Nat.shiftRight m t) 1) 1
def uo (m:Nat):List (Nat × AV)→List (Nat × AV)
 | []=>[]
 | (t,x) :: r=>bif Lp m t then (t,x) :: uo m r else uo m r
theorem Lq (m:Nat):∀ (l:List (Nat × AV)) (t:Nat),look (uo m l) t=bif Lp m t then look l t else none
 | [],t=>by cases Lp m t <;> rfl
 | (k,x) :: r,t=>by
  have ih:=Lq m r t
  simp only [uo]
  cases hk:Lp m k with
  | true =>
   simp only [cond_true,cw]
   by_cases e:k=t
   ·subst e; simp [hk]
   ·simp only [e,if_false]; exact ih
  | false =>
   simp only [cond_false,cw]
   by_cases e:k=t
   ·subst e; rw [ih,hk]; rfl
   ·simp only [e,if_false]; exact ih
def St.keep (m:Nat) (st:St):St:=⟨uo m st.sl,st.lb⟩
theorem Nr.keep (m:Nat) (st:St):Nr st (st.keep m):=by
 rintro C a w ⟨S,μ,hs⟩
 refine ⟨S,μ,fun ν=>(hs ν).weaken (fun t v hv=>?_) (fun κ b hb=>⟨b,hb,fun _ h=>h⟩)⟩
 simp only [St.gb,St.get,St.keep,Lq] at hv ⊢
 cases Lp m t with
 | true=>exact hv
 | false=>exact .any _
def Q4 (lb:List (Nat × bQ)):List Nat→List Nat
 | []=>[]
 | k :: r=>(match look lb k with | some b=>b.keys++Q4 lb r | none=>Q4 lb r)
def aa7:List (Nat × AV)→List Nat
 | []=>[]
 | (_,x) :: r=>x.keys++aa7 r
def Lr (ks:List Nat):List (Nat × bQ)→List (Nat × bQ)
 | []=>[]
 | (k,b) :: r=>bif ks.any (fun q=>Nat.beq q k) then (k,b) :: Lr ks r else Lr ks r
structure Upd where
 sl:List (Nat × AV):=[]
 lb:List (Nat × bQ):=[]
def St.Fm (st:St) (m:Nat) (u:Upd):St :=
 let sl:=u.sl++uo m (ba (u.sl.map (·.1)) st.sl)
 let lb:=u.lb++ba (u.lb.map (·.1)) st.lb
 let k0:=aa7 sl
 let k1:=Q4 lb k0
 let k2:=Q4 lb k1
 ⟨sl,Lr (k0++k1++k2) lb⟩
structure bH (β:Type) where
 v:β
 j8:β→List Df
 mf:β→Option Prop
 pre:Prop
 pf:pre→∀ p,mf v=some p→p
 post:β→Prop
 hp:post v
def iter {α ι:Type} (f:ι→α ⊕ ι) (d:α):Nat→ι→α
 | 0,_=>d
 | n+1,i=>match f i with | .inl a=>a | .inr j=>iter f d n j
def bO {α β:Type}:α ⊕ β→(β→α)→α
 | .inl a,_=>a
 | .inr b,f=>f b
def rC {α β:Type} (L:α→Prop) (J:β→Prop):α ⊕ β→Prop
 | .inl a=>L a
 | .inr b=>J b
def iz {α ι:Type} (L:α→Prop) (J:ι→Prop):α ⊕ ι→Prop
 | .inl a=>L a
 | .inr j=>J j
structure ItC (Y:Type) where
 P:Program
 gf:FuncId
 cS:List AV
 ys:List Y
 enc:Y→List AV
 pre:Prop
 pf:pre→Zp P gf cS (ys.map enc)
inductive Sk:Type→Type 1 where
 | fin {α:Type} (a:α):Sk α
 | br {α:Type} (e:Bool) (x y:Sk α):Sk α
 | r {α β:Type} (id:Nat) (c:bH β) (k:β→Sk α):Sk α
 | wi {α:Type} (t:Nat) (m n:Int) (k:Sk α):Sk α
 | wn {α:Type} (κ n n':Nat) (k:Sk α):Sk α
 | PL {α:Type} (k:Sk α):Sk α
 | PM {α:Type} (k:Sk α):Sk α
 | dead {α:Type} (a:α):Sk α
 | Eb {α:Type} (t j n:Nat) (k:Sk α):Sk α
 | Yf {α:Type} (t:Nat) (c:Bool) (x y:AV) (k1 k2:Sk α):Sk α
 | WA {α:Type} (t n:Nat) (k1 k2:Sk α):Sk α
 | fz {α:Type} (κ:Nat) (k:Sk α):Sk α
 | op {α:Type} (κ:Nat) (k:List (Int × Int)→Sk α):Sk α
 | cl {α:Type} (κ:Nat) (m:List (Int × Int)) (k:Sk α):Sk α
 | oq {α:Type} (κ:Nat) (q:List (Int × Int)→Prop) (k:List (Int × Int)→Sk α):Sk α
 | cq {α:Type} (κ:Nat) (m:List (Int × Int)) (q:List (Int × Int)→Prop) (k:Sk α):Sk α
 | QZ {α:Type} (id:Nat) (x:Int) (c:rB) (k:Sk α):Sk α
 | mr {α γ:Type} (n:Nat) (V:γ→Prop) (init:γ) (u:γ→List Nat→Upd) (v:γ→Upd) (b:γ→Nat→Sk γ) (k:γ→Sk α):Sk α
 | bind {α β:Type} (blk:Bool) (J:β→Prop) (s:Sk (α ⊕ β)) (u:β→Upd) (k:β→Sk α):Sk α
 | loop {α ι:Type} (d:α) (I:ι→Prop) (m:ι→Nat) (i0:ι) (u:ι→Upd) (b:ι→Sk (α ⊕ ι)):Sk α
 | rf {α σ β Y:Type} (it:ItC Y) (I:Nat→σ→Prop) (B:β→Prop) (id:Nat) (s0:σ) (u:σ→List (Nat × bQ)) (v:β→List (Nat × bQ)) (b:σ→Y→Sk (β ⊕ σ)) (k:β ⊕ σ→Sk α):Sk α
abbrev Sk.bt {α β:Type} (s:Sk (α ⊕ β)) (u:β→Upd) (k:β→Sk α):Sk α:=.bind true (fun _=>True) s u k
abbrev Sk.lt {α:Type} (t j i n:Nat) (x y:Sk α):Sk α:=.Eb t j n (.br (decide ((i:Int) < (n:Int))) x y)
noncomputable def canon (q:List (Int × Int)→Prop):List (Int × Int):=open Classical in if h:∃ m,q m then h.choose else []
theorem WB {q:List (Int × Int)→Prop} (h:∃ m,q m):q (canon q):=by
 unfold canon
 rw [dif_pos h]
 exact h.choose_spec
abbrev mxT:List (Int × Int)→Prop:=fun _=>True
noncomputable def Sk.val:{α:Type}→Sk α→α
 | _,.fin a=>a
 | _,.br e x y=>bif e then x.val else y.val
 | _,.r _ c k=>(k c.v).val
 | _,.wi _ _ _ k=>k.val
 | _,.wn _ _ _ k=>k.val
 | _,.PL k=>k.val
 | _,.PM k=>k.val
 | _,.dead a=>a
 | _,.Eb _ _ _ k=>k.val
 | _,.Yf _ c _ _ x y=>bif c then x.val else y.val
 | _,.WA _ _ _ k=>k.val
 | _,.fz _ k=>k.val
 | _,.op _ k=>(k []).val
 | _,.cl _ _ k=>k.val
 | _,.oq _ q k=>(k (canon q)).val
 | _,.cq _ _ _ k=>k.val
 | _,.QZ _ _ _ k=>k.val
 | _,.mr n _ init _ _ b k=>(k ((List.range n).foldr (fun i g=>(b g i).val) init)).val
 | _,.bind _ _ s _ k=>bO s.val fun b=>(k b).val
 | _,.loop d _ m i0 _ b=>iter (fun i=>(b i).val) d (m i0+1) i0
 | _,.rf it _ _ _ s0 _ _ b k=>(k (ou (fun s y=>(b s y).val) it.ys s0)).val
def Sk.dq:{α:Type}→Sk α→(α→Prop)→Prop
 | _,.fin a,L=>L a
 | _,.br e x y,L=>(e=true→x.dq L)∧(e=false→y.dq L)
 | _,.r _ c k,L=>∀ x,x=c.v→c.post x→(k x).dq L
 | _,.wi _ _ _ k,L=>k.dq L
 | _,.wn _ _ _ k,L=>k.dq L
 | _,.PL k,L=>k.dq L
 | _,.PM k,L=>k.dq L
 | _,.dead a,L=>L a
 | _,.Eb _ _ _ k,L=>k.dq L
 | _,.Yf _ c _ _ x y,L=>(c=true→x.dq L)∧(c=false→y.dq L)
 | _,.WA _ _ _ k,L=>k.dq L
 | _,.fz _ k,L=>k.dq L
 | _,.op _ k,L=>(k []).dq L
 | _,.cl _ _ k,L=>k.dq L
 | _,.oq _ q k,L=>(∃ m,q m)∧∀ m,q m→(k m).dq L
 | _,.cq _ _ _ k,L=>k.dq L
 | _,.QZ _ _ _ k,L=>k.dq L
 | _,.mr n V init _ _ b k,L=>V init∧(∀ g i,V g→i < n→(b g i).dq V)∧∀ g,g=(List.range n).foldr (fun i g=>(b g i).val) init→V g→(k g).dq L
 | _,.bind _ J s _ k,L=>s.dq (rC L J)∧∀ b,s.val=.inr b→J b→(k b).dq L
 | _,.loop _ I m i0 _ b,L=>I i0∧∀ i,I i→(b i).dq (iz L fun j=>I j∧m j < m i)
 | _,.rf it I B _ s0 _ _ b k,L=>I 0 s0∧(∀ i s y,I i s→it.ys[i]? = some y→(b s y).dq (iz B (I (i+1))))∧∀ r,r=ou (fun s y=>(b s y).val) it.ys s0→iz B (I it.ys.length) r→(k r).dq L
def Sk.bq:{α:Type}→Sk α→(α→Prop)→Prop
 | _,.fin a,L=>L a
 | _,.br e x y,L=>(e=true→x.bq L)∧(e=false→y.bq L)
 | _,.r _ c k,L=>c.pre∧∀ x,x=c.v→c.post x→(k x).bq L
 | _,.wi _ m n k,L=>m=n∧k.bq L
 | _,.wn _ n n' k,L=>n=n'∧k.bq L
 | _,.PL k,L=>k.bq L
 | _,.PM k,L=>k.bq L
 | _,.dead _,_=>False
 | _,.Eb _ _ n k,L=>n≤maxLen→k.bq L
 | _,.Yf _ c _ _ x y,L=>(c=true→x.bq L)∧(c=false→y.bq L)
 | _,.WA _ n k1 k2,L=>(n=0→k1.bq L∧k1.val=k2.val)∧k2.bq L
 | _,.fz _ k,L=>k.bq L
 | _,.op _ k,L=>∀ m,(k m).val=(k []).val∧(k m).bq L
 | _,.cl _ _ k,L=>k.bq L
 | _,.oq _ q k,L=>∀ m,q m→(k m).val=(k (canon q)).val∧(k m).bq L
 | _,.cq _ m q k,L=>q m∧k.bq L
 | _,.QZ _ x c k,L=>(0≤x∧x≤(c.n:Int))∧k.bq L
 | _,.mr n V init _ _ b k,L=>V init∧(∀ g i,V g→i < n→(b g i).dq V∧(b g i).bq fun _=>True)∧(∀ g i j,V g→i < n→j < n→i≠j→(b (b g j).val i).val=(b (b g i).val j).val)∧∀ g,g=(List.range n).foldr (fun i g=>(b g i).val) init→V g→(k g).bq L
 | _,.bind _ J s _ k,L=>s.bq (rC L J)∧∀ b,s.val=.inr b→J b→(k b).bq L
 | _,.loop _ I m i0 _ b,L=>I i0∧∀ i,I i→(b i).bq (iz L fun j=>I j∧m j < m i)
 | _,.rf it I B _ s0 _ _ b k,L=>it.pre∧I 0 s0∧(∀ i s y,I i s→it.ys[i]? = some y→(b s y).dq (iz B (I (i+1)))∧(b s y).bq (iz B (I (i+1))))∧∀ r,r=ou (fun s y=>(b s y).val) it.ys s0→iz B (I it.ys.length) r→(k r).bq L
theorem PN {σ β Y:Type} {f:σ→Y→β ⊕ σ} {I:Nat→σ→Prop} {B:β→Prop} (l:List Y) (h:∀ i s y,I i s→l[i]? = some y→iz B (I (i+1)) (f s y)) (s:σ) (hs:I 0 s):iz B (I l.length) (ou f l s):=by
 have:=Lg (f:=f) (I:=I) (B:=B) l 0 (fun i s y hs hy=>by
  rw [Nat.zero_add] at hs ⊢
  have:=h i s y hs hy
  cases e:f s y <;> rw [e] at this <;> exact this) s hs
 rw [Nat.zero_add] at this
 cases e:ou f l s <;> rw [e] at this <;> exact this
theorem yP {γ:Type} {V:γ→Prop} {f:γ→Nat→γ} {n:Nat} (hf:∀ g i,V g→i < n→V (f g i)) {init:γ} (h0:V init):∀ (s:List Nat),(∀ i,i∈s→i < n)→V (s.foldr (fun i g=>f g i) init)
 | [],_=>h0
 | i :: s,h=>hf _ i (yP hf h0 s (fun j hj=>h j (List.mem_cons_of_mem _ hj))) (h i List.mem_cons_self)
theorem WC {γ:Type} {V:γ→Prop} {f:γ→Nat→γ} {n:Nat} (hf:∀ g i,V g→i < n→V (f g i)) (hc:∀ g i j,V g→i < n→j < n→i≠j→f (f g j) i=f (f g i) j) {init:γ} (h0:V init) {s t:List Nat} (h:s.Perm t) :
  (∀ i,i∈s→i < n)→s.foldr (fun i g=>f g i) init=t.foldr (fun i g=>f g i) init:=by
 induction h with
 | nil=>intro _; rfl
 | cons x _ ih=>intro hs; simp only [List.foldr_cons]; rw [ih (fun i hi=>hs i (List.mem_cons_of_mem _ hi))]
 | swap x y l =>
  intro hs
  simp only [List.foldr_cons]
  by_cases e:x=y
  ·rw [e]
  ·exact hc _ y x (yP hf h0 l (fun i hi=>hs i (by simp [hi]))) (hs y (by simp)) (hs x (by simp)) (fun e'=>e e'.symm)
 | trans h1 _ ih1 ih2=>intro hs; rw [ih1 hs,ih2 (fun i hi=>hs i (h1.mem_iff.2 hi))]
theorem Hr {α ι:Type} {f:ι→α ⊕ ι} {d:α} {L:α→Prop} {I:ι→Prop} {m:ι→Nat} (h:∀ i,I i→iz L (fun j=>I j∧m j < m i) (f i)):∀ (n:Nat) (i:ι),I i→m i < n→L (iter f d n i)
 | 0,i,_,hn=>absurd hn (by omega)
 | n+1,i,hi,hn=>by
  have:=h i hi
  simp only [iter]
  cases hf:f i with
  | inl a=>rw [hf] at this; exact this
  | inr j=>rw [hf] at this; exact Hr h n j this.1 (by have:=this.2; omega)
theorem Sk.dc:{α:Type}→(s:Sk α)→{L:α→Prop}→s.dq L→L s.val
 | _,.fin a,_,h=>h
 | _,.br e x y,L,h=>by
  cases e with
  | true=>exact x.dc (h.1 rfl)
  | false=>exact y.dc (h.2 rfl)
 | _,.r _ c k,L,h=>(k c.v).dc (h _ rfl c.hp)
 | _,.wi _ _ _ k,L,h=>k.dc (L:=L) h
 | _,.wn _ _ _ k,L,h=>k.dc (L:=L) h
 | _,.PL k,L,h=>k.dc (L:=L) h
 | _,.PM k,L,h=>k.dc (L:=L) h
 | _,.dead _,_,h=>h
 | _,.Eb _ _ n k,L,h=>k.dc (L:=L) h
 | _,.Yf _ c _ _ x y,L,h=>by
  cases c with
  | true=>exact x.dc (h.1 rfl)
  | false=>exact y.dc (h.2 rfl)
 | _,.WA _ _ _ k,L,h=>k.dc (L:=L) h
 | _,.fz _ k,L,h=>k.dc (L:=L) h
 | _,.op _ k,L,h=>(k []).dc (L:=L) h
 | _,.cl _ _ k,L,h=>k.dc (L:=L) h
 | _,.oq _ q k,L,h=>(k (canon q)).dc (L:=L) (h.2 _ (WB h.1))
 | _,.cq _ _ _ k,L,h=>k.dc (L:=L) h
 | _,.QZ _ _ _ k,L,h=>k.dc (L:=L) h
 | _,.mr n V init _ _ b k,L,h=>(k _).dc (h.2.2 _ rfl (yP (fun g i hg hi=>(b g i).dc (h.2.1 g i hg hi)) h.1 _ (fun i hi=>List.mem_range.1 hi)))
 | _,.bind _ J s _ k,L,h=>by
  have h1:=s.dc h.1
  show L (bO s.val fun b=>(k b).val)
  cases hs:s.val with
  | inl a=>rw [hs] at h1; exact h1
  | inr b=>rw [hs] at h1; exact (k b).dc (h.2 b hs h1)
 | _,.loop d I m i0 _ b,L,h=>Hr (f:=fun i=>(b i).val) (fun i hi=>(b i).dc (h.2 i hi)) (m i0+1) i0 h.1 (Nat.lt_succ_self _)
 | _,.rf it I B _ s0 _ _ b k,L,h=>(k _).dc (h.2.2 _ rfl (PN it.ys (fun i s y hs hy=>(b s y).dc (h.2.1 i s y hs hy)) s0 h.1))
def wnA (κ n':Nat):AV→AV
 | .own k m=>bif Nat.beq k κ then .own k n' else .own k m
 | x=>x
def wnC (κ n:Nat):AV→CT
 | .own k m=>bif Nat.beq k κ then .nn m n else .nil
 | _=>.nil
def acR (κ n':Nat):List AV→List AV
 | []=>[]
 | x :: r=>wnA κ n' x :: acR κ n' r
def aeE (κ n:Nat):List AV→CT
 | []=>.nil
 | x :: r=>.two (wnC κ n x) (aeE κ n r)
def acS (κ n':Nat):List (Nat × AV)→List (Nat × AV)
 | []=>[]
 | (t,x) :: r=>(t,wnA κ n' x) :: acS κ n' r
def aa8 (κ n:Nat):List (Nat × AV)→CT
 | []=>.nil
 | (_,x) :: r=>.two (wnC κ n x) (aa8 κ n r)
def ND (κ n':Nat):List (Nat × bQ)→List (Nat × bQ)
 | []=>[]
 | (k,.box cs) :: r=>(k,.box (acR κ n' cs)) :: ND κ n' r
 | (k,.row e q n f) :: r=>(k,.row e q (bif Nat.beq k κ then n' else n) f) :: ND κ n' r
 | (k,b) :: r=>(k,b) :: ND κ n' r
def IL (κ n:Nat) (n':Nat):List (Nat × bQ)→CT
 | []=>.nil
 | (_,.box cs) :: r=>.two (aeE κ n cs) (IL κ n n' r)
 | (k,.row _ _ m _) :: r=>.two (bif Nat.beq k κ then .nn m n' else .nil) (IL κ n n' r)
 | (_,_) :: r=>IL κ n n' r
theorem aa9 {κ n:Nat} {x:AV} (h:(wnC κ n x).ok):wnA κ n x=x:=by
 unfold wnC at h
 split at h
 ·rename_i k m
  show (bif Nat.beq k κ then AV.own k n else AV.own k m)=AV.own k m
  cases hb:Nat.beq k κ with
  | true =>
   rw [hb] at h
   have h:m=n:=h
   subst h
   rfl
  | false=>rfl
 ·rename_i Y6
  cases x <;> first | rfl | exact absurd rfl (Y6 _ _)
theorem Yg {κ n:Nat}:∀ {l:List AV},(aeE κ n l).ok→acR κ n l=l
 | [],_=>rfl
 | x :: r,h=>by simp only [acR,aa9 h.1,Yg h.2]
theorem Yh {κ n:Nat}:∀ {l:List (Nat × AV)},(aa8 κ n l).ok→acS κ n l=l
 | [],_=>rfl
 | (t,x) :: r,h=>by simp only [acS,aa9 h.1,Yh h.2]
theorem Dk {κ n:Nat}:∀ {l:List (Nat × bQ)},(IL κ n n l).ok→ND κ n l=l
 | [],_=>rfl
 | (k,.box cs) :: r,h=>by simp only [ND,Yg h.1,Dk h.2]
 | (k,.row e q m f) :: r,h=>by
  simp only [ND,Dk h.2]
  have h1:=h.1
  cases hb:Nat.beq k κ with
  | false=>rfl
  | true =>
   rw [hb] at h1
   have h1:m=n:=h1
   subst h1
   rfl
 | (k,.mp _ _) :: r,h=>by have h:(IL κ n n r).ok:=h; simp only [ND,Dk h]
 | (k,.it _ _ _) :: r,h=>by have h:(IL κ n n r).ok:=h; simp only [ND,Dk h]
 | (k,.mx _) :: r,h=>by have h:(IL κ n n r).ok:=h; simp only [ND,Dk h]
def PO (lb:List (Nat × bQ)):AV→Option Nat
 | .d (.sl q _)=>some q
 | .own κ _=>(match look lb κ with | some (.row _ _ q _)=>some q | _=>none)
 | _=>none
def TY (st:St) (t j:Nat):Option Nat :=
 match St.get st.sl t with
 | .ptr κ _=>(match look st.lb κ with | some (.box cs)=>bif Nat.ble (j+1) cs.length then PO st.lb (cs.getD j default) else none | _=>none)
 | .ref cs=>bif Nat.ble (j+1) cs.length then PO st.lb (.d (cs.getD j default)) else none
 | .d (.agg cs)=>bif Nat.ble (j+1) cs.length then PO st.lb (.d (cs.getD j default)) else none
 | x=>PO st.lb x
def fzA (κ:Nat) (f:Nat→List D):AV→AV
 | .own k m=>bif Nat.beq k κ then .d (.sl m f) else .own k m
 | x=>x
def fzC (κ n:Nat):AV→CT
 | .own k m=>bif Nat.beq k κ then .nn m n else .nil
 | x=>.bb (x.keys.any fun k=>Nat.beq k κ) false
def WD (κ:Nat) (f:Nat→List D):List AV→List AV
 | []=>[]
 | x :: r=>fzA κ f x :: WD κ f r
def aeF (κ n:Nat):List AV→CT
 | []=>.nil
 | x :: r=>.two (fzC κ n x) (aeF κ n r)
def aba (κ:Nat) (f:Nat→List D):List (Nat × AV)→List (Nat × AV)
 | []=>[]
 | (t,x) :: r=>(t,fzA κ f x) :: aba κ f r
def Yi (κ n:Nat):List (Nat × AV)→CT
 | []=>.nil
 | (_,x) :: r=>.two (fzC κ n x) (Yi κ n r)
def fzB (κ:Nat) (f:Nat→List D):bQ→bQ
 | .box cs=>.box (WD κ f cs)
 | b=>b
def age (κ n:Nat):bQ→CT
 | .box cs=>aeF κ n cs
 | .it m _ _=>.bb (Nat.beq m κ) false
 | _=>.nil
def WE (κ:Nat) (f:Nat→List D):List (Nat × bQ)→List (Nat × bQ)
 | []=>[]
 | (k,b) :: r=>bif Nat.beq k κ then WE κ f r else (k,fzB κ f b) :: WE κ f r
def Yj (κ n:Nat):List (Nat × bQ)→CT
 | []=>.nil
 | (k,b) :: r=>.two (bif Nat.beq k κ then .nil else age κ n b) (Yj κ n r)
theorem TZ (κ n:Nat) (f:Nat→List D):∀ (l:List (Nat × AV)) (t:Nat),(Yi κ n l).ok→St.get (aba κ f l) t=fzA κ f (St.get l t)∧(fzC κ n (St.get l t)).ok
 | [],t,_=>⟨rfl,rfl⟩
 | (k,x) :: r,t,h=>by
  obtain ⟨i1,i2⟩:=TZ κ n f r t h.2
  simp only [St.get,aba,cw] at i1 i2 ⊢
  by_cases e:k=t
  ·simp only [e,if_true]
   exact ⟨trivial,h.1⟩
  ·simp only [e,if_false]
   exact ⟨i1,i2⟩
theorem vi (κ n:Nat) (f:Nat→List D):∀ (l:List (Nat × bQ)) (κ':Nat) (b:bQ),(Yj κ n l).ok→look (WE κ f l) κ'=some b→κ'≠κ∧∃ c,look l κ'=some c∧b=fzB κ f c∧(age κ n c).ok
 | [],κ',b,_,h=>by simp [WE,look] at h
 | (k,c) :: r,κ',b,h,hl=>by
  have h1:=h.1
  simp only [WE] at hl
  cases hb:Nat.beq k κ with
  | true =>
   rw [hb] at hl
   simp only [cond_true] at hl
   obtain ⟨q1,d,q2,q3⟩:=vi κ n f r κ' b h.2 hl
   have hk:=Nat.eq_of_beq_eq_true hb
   refine ⟨q1,d,?_,q3⟩
   rw [cw,if_neg (fun e=>q1 (by omega))]
   exact q2
  | false =>
   rw [hb] at hl h1
   simp only [cond_false,cw] at hl h1
   split at hl
   ·rename_i e
    subst e
    simp only [Option.some.injEq] at hl
    subst hl
    refine ⟨fun e=>(by rw [e,Nat.beq_refl] at hb; cases hb),c,(by rw [cw,if_pos rfl]),rfl,h1⟩
   ·rename_i e
    obtain ⟨q1,d,q2,q3⟩:=vi κ n f r κ' b h.2 hl
    exact ⟨q1,d,by rw [cw,if_neg e]; exact q2,q3⟩
theorem Nr.fz {st:St} {κ e k n:Nat} {f:Nat→List D} (hl:look st.lb κ=some (.row e k n f)) (h1:(Yi κ n st.sl).ok) (h2:(Yj κ n st.lb).ok):Nr st ⟨aba κ f st.sl,WE κ f st.lb⟩:=by
 rintro C a w ⟨S,μ,hs⟩
 have Hn:=hs fun _=>false
 have hm:=Hn.mem κ _ hl
 let S':Nat→Prop:=fun q=>S q∨∃ c,μ κ=some (some (q,c))
 have hS:∀ q,S q→S' q:=fun _ h=>.inl h
 have main:∀ {ν:Nat→Bool} {x:AV} {v:Value},(fzC κ n x).ok→Rel w S μ ν x v→Rel w S' μ ν (fzA κ f x) v:=by
  intro ν x v hc hr
  have other:fzA κ f x=x→Rel w S' μ ν (fzA κ f x) v:=fun e=>by rw [e]; exact hr.mono hS (fun _ _=>rfl) (fun _ _ e=>e)
  cases x with
  | own q m =>
   cases hb:Nat.beq q κ with
   | false=>exact other (by simp [fzA,hb])
   | true =>
    have e:=Nat.eq_of_beq_eq_true hb
    subst e
    simp only [fzC,hb,cond_true] at hc
    have hc:m=n:=hc
    subst hc
    simp only [fzA,hb,cond_true]
    cases hr with
    | @eI _ ad hμ =>
     cases ad with
     | none=>exact .d (.nil f)
     | some ad=>exact .d (.sl 0 f ad 0 0 (fun _ _=>undef) (Nat.le_refl _) (by simp [maxLen]) (.inl rfl) (fun i hi=>absurd hi (by omega)) (fun i j hi=>absurd hi (by omega)) (fun i j hi=>absurd hi (by omega)))
    | @own _ _ g cap hμ =>
     rw [hμ] at hm
     obtain ⟨cur,hg,_,jT,hn,hcp,qm⟩:=hm.at
     refine .d (.sl m f ⟨g,0,none⟩ cap k (fun i j=>(cur[i * k+j]?).getD undef) hn hcp (.inr rfl) (fun i hi=>(qm i hi).1) (fun i j hi hj=>⟨.inr ⟨cap,hμ⟩,?_⟩) (fun i j hi hj=>?_))
     ·obtain ⟨u,hu,_⟩:=(qm i hi).2 j hj
      rw [Nat.zero_add,g8 w g _ cur e _ hg,hu]
      rfl
     ·obtain ⟨u,hu,V8⟩:=(qm i hi).2 j hj
      rw [hu]
      exact V8.mono hS (fun _ _=>rfl)
  | any=>exact other rfl
  | d=>exact other rfl
  | ptr=>exact other rfl
  | zI=>exact other rfl
  | ref=>exact other rfl
  | A8=>exact other rfl
  | yC=>exact other rfl
  | C8=>exact other rfl
  | fn=>exact other rfl
  | fb=>exact other rfl
  | ag=>exact other rfl
  | g=>exact other rfl
 refine ⟨S',μ,fun ν=>?_⟩
 have hsν:=hs ν
 refine ⟨hsν.tmps,hsν.defers,fun t=>?_,fun κ' b hb=>?_,fun κ1 κ2 b1 b2 g c c' q1 q2 q3 q4=>?_,fun κ' b g c q1 q2=>?_,fun b hb=>.inl (hsν.fA b hb),fun b hb=>?_,fun b hb=>?_,hsν.kept⟩
 ·obtain ⟨e1,e2⟩:=TZ κ n f st.sl t h1
  simp only [St.gb]
  rw [e1]
  exact main e2 (hsν.eJ t)
 ·obtain ⟨A9,c,hc,rfl,XT⟩:=vi κ n f st.lb κ' b h2 hb
  have IH:=hsν.mem κ' c hc
  have hnS:∀ g cc,μ κ'=some (some (g,cc))→¬ S' g:=fun g cc hμ' hS'=>by
   rcases hS' with h | ⟨c2,uE⟩
   ·rw [hμ'] at IH; exact IH.at.not h
   ·exact A9 (hsν.inj κ' κ c _ g cc c2 hc hl hμ' uE)
  have Yk:=IH.mono (S':=S') hS (fun _ _=>rfl) (fun _ _ e=>e) (fun g cc e=>⟨rfl,hnS g cc e⟩)
  cases c with
  | box cs =>
   cases hμ':μ κ' with
   | none=>rw [hμ'] at IH; exact IH.elim
   | some y =>
    cases y with
    | none=>rw [hμ'] at IH; exact IH.elim
    | some gc =>
     obtain ⟨g,cc⟩:=gc
     rw [hμ'] at IH
     obtain ⟨cur,e0,x1,x2,x3,x4⟩:=IH.at
     have hlen:∀ (l:List AV),(WD κ f l).length=l.length:=fun l=>by induction l with | nil=>rfl | cons _ _ ih=>simp [WD,ih]
     have Wc:∀ (l:List AV) (j:Nat),j < l.length→(aeF κ n l).ok→(WD κ f l).getD j default=fzA κ f (l.getD j default)∧(fzC κ n (l.getD j default)).ok:=fun l=>by
      induction l with
      | nil=>intro j hj; exact absurd hj (by simp)
      | cons x r ih =>
       intro j hj hk
       cases j with
       | zero=>exact ⟨rfl,hk.1⟩
       | succ j=>simpa [WD] using ih j (by simpa using hj) hk.2
     refine eA.ok (b:=.box (WD κ f cs)) ⟨cur,e0,x1,hnS g cc hμ',by rw [hlen]; exact x3,fun j hj=>?_⟩
     rw [hlen] at hj
     obtain ⟨x,y1,y2⟩:=x4 j hj
     obtain ⟨z1,z2⟩:=Wc cs j hj XT
     exact ⟨x,y1,fun ν'=>by rw [z1]; exact main z2 (y2 ν')⟩
  | row=>exact Yk
  | mp=>exact Yk
  | it=>exact Yk
  | mx=>exact Yk
 ·obtain ⟨_,d1,e1,_⟩:=vi κ n f st.lb κ1 b1 h2 q1
  obtain ⟨_,d2,e2,_⟩:=vi κ n f st.lb κ2 b2 h2 q2
  exact hsν.inj κ1 κ2 d1 d2 g c c' e1 e2 q3 q4
 ·obtain ⟨_,d1,e1,_⟩:=vi κ n f st.lb κ' b h2 q1
  exact hsν.own κ' d1 g c e1 q2
 ·rcases hb with h | ⟨c,hc⟩
  ·exact hsν.fresh b h
  ·rcases hsν.own κ _ b c hl hc with h | h
   ·exact .inr (.inl h)
   ·exact .inr (.inr h)
 ·rcases hb with h | ⟨c,hc⟩
  ·exact hsν.bound b h
  ·rw [hc] at hm
   exact hm.at.lt
def WG (ops:Array Oper):Option (Nat × Nat × Nat) :=
 match ops.toList with
 | [o1,o2]=>(match o1.op,o1.dst,o1.guard,o2.op,o2.dst,o2.guard with
  | .next (.tmp it) false,some d1,none,.extract (.tmp d1') 0,some d2,none=>bif Nat.beq d1 d1' then some (it,d1,d2) else none
  | _,_,_,_,_,_=>none)
 | _=>none
def pV:Code→Option (Array Oper × List Item)
 | .seq x y=>(match pV x with | some (ops,l)=>some (ops,l++[.code y]) | none=>none)
 | .region _ ops false=>some (ops,[])
 | _=>none
def WH (st:St) (d1 d2 κi κ n i:Nat) (s:List Nat):St:=⟨(d2,.d (.v (.bool true))) :: ba [d1,d2] st.sl,(κi,.it κ n (i :: s)) :: ba [κi] st.lb⟩
def Ls (st:St) (d1 d2 it:Nat):St:=⟨(d2,.d (.v (.bool false))) :: ba [d1,d2,it] st.sl,st.lb⟩
inductive abb where
 | ret (x:AV) (dz:List (Nat × bQ))
 | acG (x:AV) (dz:List (Nat × bQ)) (nw:List (Nat × Nat))
 | go (todo:List Item) (st:St)
 | brk (id:Nat) (st:St)
def WI (g:Goal):abb→Prop
 | .ret x dz=>g.Nrm∧g.res=x∧g.dz=dz
 | .acG x dz nw=>g.Wp nw∧g.res=x∧g.dz=dz
 | .go todo st=>G g todo st
 | .brk id st=>∀ k,exitTo id k=none→G g (.code (.exit id) :: k) st
def acT (T:List (Nat × TI)) (rs:List ResultVar) (st:St) (x:AV) (dz:List (Nat × bQ)):CT :=
 match wX T st rs with
 | some (l,_,ob)=>(match dz with
  | []=>(match yK st.lb l with | some (l',_,Fl)=>.two (EF ob) (.two (EF Fl) (Wy [] (tg l') x)) | none=>.bad)
  | dz=>.two (EF ob) (.two (.bb (FJ (Ln st.lb dz (PJ (tg l) x []))) true) (.two (Wy (Ln st.lb dz (PJ (tg l) x [])) (tg l) x) (Wz (Ln st.lb dz (PJ (tg l) x [])) st.lb dz))))
 | none=>.bad
def agf (nw:List (Nat × Nat)):List (Nat × AV):=nw.map fun p=>(p.1,.ptr p.2 0)
def acU (st:St) (x:AV) (dz:List (Nat × bQ)) (nw:List (Nat × Nat)) (l:List AV):Ren:=Ln st.lb dz (aa4 st.sl (agf nw) (PJ (tg l) x []))
def Yl (T:List (Nat × TI)) (rs:List ResultVar) (st:St) (x:AV) (dz:List (Nat × bQ)) (nw:List (Nat × Nat)):CT :=
 match wX T st rs with
 | some (l,_,ob)=>.two (EF ob) (.two (.bb (FJ (acU st x dz nw l)) true) (.two (Wy (acU st x dz nw l) (tg l) x) (.two (acP (acU st x dz nw l) st.sl (agf nw)) (Wz (acU st x dz nw l) st.lb dz))))
 | none=>.bad
def pW (P:Program) (T:List (Nat × TI)) (nt:Nat) (rm:Nat) (md:Nat) (pr:List Nat) (todo:List Item) (st:St):Option (List Item × St × CT) :=
 match todo with
 | .code (.seq x y) :: k=>some (.code x :: .code y :: k,st,.nil)
 | .code .skip :: k=>some (k,st,.nil)
 | .code (.label _) :: k=>some (k,st,.nil)
 | .code (.cond (.const (.bool e)) x y) :: k=>some (.code (bif e then x else y) :: k,st,.nil)
 | .code (.block id c) :: k=>some (.code c :: .inBlock id :: k,st,.nil)
 | .inBlock _ :: k=>some (k,st,.nil)
 | .code (.exit id) :: k=>(match exitTo id k with | some k'=>some (k',st,.nil) | none=>none)
 | .code (.region _ ops draw) :: k=>(match qo P T nt ops draw none st [] with
  | some (st',ob)=>some (k,st'.keep (Nat.lor rm (lB k)),.two (.bb (Jm md pr ops) true) (EF ob))
  | none=>none)
 | _=>none
def acV (c:Bool):AV→AV→AV
 | .d x,.d y=>.d (bif c then x else y)
 | x,y=>bif c then x else y
theorem acW (c:Bool) (x y:AV):acV c x y=bif c then x else y:=by
 unfold acV
 split
 ·cases c <;> rfl
 ·rfl
def SO (rm:Nat) (todo:List Item):Nat:=Nat.lor rm (lB todo)
def abc (P:Program) (T:List (Nat × TI)) (nt:Nat) (rm:Nat) (md:Nat) (pr:List Nat):Nat→List Item→St→Option (List Item × St × CT)
 | 0,_,_=>none
 | n+1,todo,st=>(match todo with
  | .beginRound :: k=>some (.beginRound :: k,st,.nil)
  | todo=>(match pW P T nt rm md pr todo st with
   | some (k,pa,c)=>(match abc P T nt rm md pr n k pa with
    | some (k',st2,c')=>some (k',st2,.two c c')
    | none=>none)
   | none=>none))
def abd (P:Program) (T:List (Nat × TI)) (nt:Nat) (rm:Nat) (md:Nat) (pr:List Nat) (n:Nat) (todo:List Item) (st:St):St:=match abc P T nt rm md pr n todo st with | some (_,st2,_)=>st2 | none=>⟨[],[]⟩
def agh (P:Program) (T:List (Nat × TI)) (nt:Nat) (rm:Nat) (md:Nat) (pr:List Nat) (n:Nat) (todo:List Item) (st:St) (k:List Item):CT:=match abc P T nt rm md pr n todo st with | some (k',_,c)=>.two c (.td k' k) | none=>.bad
def mxf (m:List (Int × Int)):Nat→Value × D:=fun i=>(.int .i64 (m.getD i default).1,.v (.int .i64 (m.getD i default).2))
def qi (P:Program) (T:List (Nat × TI)) (nt:Nat) (rs:List ResultVar) (rm:Nat) (md:Nat) (pr:List Nat):Nat→{α:Type}→List Item→St→(α→abb)→Sk α→CT
 | 0,_,_,_,_,_=>.bad
 | n+1,_,todo,st,L,sk =>
  match sk with
  | .op κ k=>(match look st.lb κ with
   | some (.mx _)=>.pi fun m=>qi P T nt rs rm md pr n todo ⟨st.sl,(κ,.mp m.length (mxf m)) :: ba [κ] st.lb⟩ L (k m)
   | _=>.bad)
  | .oq κ q k=>(match look st.lb κ with
   | some (.mx q')=>.two (.qq q' q) (.pi fun m=>qi P T nt rs rm md pr n todo ⟨st.sl,(κ,.mp m.length (mxf m)) :: ba [κ] st.lb⟩ L (k m))
   | _=>.bad)
  | .cq κ m q' k=>(match look st.lb κ with
   | some (.mp q f)=>.two (.nn q m.length) (.two (.mm f (mxf m)) (qi P T nt rs rm md pr n todo ⟨st.sl,(κ,.mx q') :: ba [κ] st.lb⟩ L k))
   | _=>.bad)
  | .cl κ m k=>(match look st.lb κ with
   | some (.mp q f)=>.two (.nn q m.length) (.two (.mm f (mxf m)) (qi P T nt rs rm md pr n todo ⟨st.sl,(κ,.mx mxT) :: ba [κ] st.lb⟩ L k))
   | _=>.bad)
  | .QZ id x c k=>(match todo with
   | .code (.region i ops false) :: K=>bif Nat.beq i id then (match aaZ ops with
    | some (ts,ti,ty,d1,d2,d3)=>(match St.get st.sl ts,St.get st.sl ti,look T ty with
     | .own κ m,.d (.v (.int .i64 xx)),some { kind:=.slice e',.. }=>(match look st.lb κ,look T e' with
      | some (.row e q m2 f),some i=>.two (.bb (Nat.ble (d1+1) nt&&Nat.ble (d2+1) nt&&Nat.ble (d3+1) nt&&Jm md pr ops&&Nat.beq e e'&&Nat.beq q i.size&&i.zero.all Bu&&!Nat.beq ts d1&&!Nat.beq ts d2&&!Nat.beq ts d3) true)
        (.two (.zz xx x) (.two (.nn m m2) (.two (.nn m c.n) (.two (.ff (zU xx.toNat f i.zero) c.f)
        (qi P T nt rs rm md pr n K (St.keep (Nat.lor rm (lB K)) ⟨(ts,.own κ c.n') :: ba [ts,d1,d2,d3] st.sl,(κ,.row e q c.n' c.f') :: ba [κ] st.lb⟩) L k)))))
      | _,_=>.bad)
     | _,_,_=>.bad)
    | none=>.bad)
    else (match pW P T nt rm md pr (.code (.region i ops false) :: K) st with | some (k0,pa,c0)=>.two c0 (qi P T nt rs rm md pr n k0 pa L (.QZ id x c k)) | none=>.bad)
   | todo=>(match pW P T nt rm md pr todo st with | some (k0,pa,c0)=>.two c0 (qi P T nt rs rm md pr n k0 pa L (.QZ id x c k)) | none=>.bad))
  | .wi t a b k=>.two (.vv (St.get st.sl t) (.d (.v (.int .i64 a)))) (qi P T nt rs rm md pr n todo ⟨(t,.d (.v (.int .i64 b))) :: ba [t] st.sl,st.lb⟩ L k)
  | .Eb t j m k=>(match TY st t j with
   | some q=>.two (.nn q m) (qi P T nt rs rm md pr n todo st L k)
   | none=>.bad)
  | .wn κ a b k=>.two (aa8 κ a st.sl) (.two (IL κ a b st.lb) (qi P T nt rs rm md pr n todo ⟨acS κ b st.sl,ND κ b st.lb⟩ L k))
  | .dead _=>.nil
  | .WA t m k1 k2=>(match St.get st.sl t with
   | .d (.sl q f)=>.two (.nn q m) (.two (qi P T nt rs rm md pr n todo ⟨(t,.d (.v (.slice none 0 0))) :: ba [t] st.sl,st.lb⟩ L k1) (qi P T nt rs rm md pr n todo ⟨(t,.A8 q f) :: ba [t] st.sl,st.lb⟩ L k2))
   | _=>.bad)
  | .fz κ k=>(match look st.lb κ with
   | some (.row _ _ q f)=>.two (Yi κ q st.sl) (.two (Yj κ q st.lb) (qi P T nt rs rm md pr n todo ⟨aba κ f st.sl,WE κ f st.lb⟩ L k))
   | _=>.bad)
  | .mr m V init u v b k=>(match todo with
   | .code (.loop c) :: K=>(match pV c with
    | some (ops,l)=>(match WG ops with
     | some (it,d1,d2)=>bif Nat.ble (d1+1) nt&&Nat.ble (d2+1) nt&&Jm md pr ops then
       .two (NC st (st.Fm (Nat.lor rm (lB (.inLoop c :: K))) (u init [])))
       (.two (.pi fun g=>.pi fun s=>(match St.get (st.Fm (Nat.lor rm (lB (.inLoop c :: K))) (u g s)).sl it with
        | .ptr κi 0=>(match look (st.Fm (Nat.lor rm (lB (.inLoop c :: K))) (u g s)).lb κi with
         | some (.it κ m1 s1)=>(match look (st.Fm (Nat.lor rm (lB (.inLoop c :: K))) (u g s)).lb κ with
          | some (.mp m2 _)=>.two (.nn m1 m) (.two (.nn m2 m) (.two (.ss s1 s) (.two
            (NC (Ls (st.Fm (Nat.lor rm (lB (.inLoop c :: K))) (u g s)) d1 d2 it) ((Ls st d1 d2 it).Fm (Nat.lor rm (lB (l++.inLoop c :: K))) (v g)))
            (.pi fun i=>qi P T nt rs rm md pr n (l++.inLoop c :: K) (WH (st.Fm (Nat.lor rm (lB (.inLoop c :: K))) (u g s)) d1 d2 κi κ m i s) (fun g'=>.go (.inLoop c :: K) (st.Fm (Nat.lor rm (lB (.inLoop c :: K))) (u g' (i :: s)))) (b g i)))))
          | _=>.bad)
         | _=>.bad)
        | _=>.bad))
       (.pi fun g=>qi P T nt rs rm md pr n (l++.inLoop c :: K) ((Ls st d1 d2 it).Fm (Nat.lor rm (lB (l++.inLoop c :: K))) (v g)) L (k g))) else .bad
     | none=>.bad)
    | none=>.bad)
   | todo=>(match pW P T nt rm md pr todo st with | some (k0,pa,c)=>.two c (qi P T nt rs rm md pr n k0 pa L (.mr m V init u v b k)) | none=>.bad))
  | .PL x=>(match todo with
   | .code (.cond (.tmp c) p _) :: k=>.two (.vv (St.get st.sl c) (.d (.v (.bool true)))) (qi P T nt rs rm md pr n (.code p :: k) st L x)
   | todo=>(match pW P T nt rm md pr todo st with | some (k,pa,c)=>.two c (qi P T nt rs rm md pr n k pa L (.PL x)) | none=>.bad))
  | .PM x=>(match todo with
   | .code (.cond (.tmp c) _ q) :: k=>.two (.vv (St.get st.sl c) (.d (.v (.bool false)))) (qi P T nt rs rm md pr n (.code q :: k) st L x)
   | todo=>(match pW P T nt rm md pr todo st with | some (k,pa,c)=>.two c (qi P T nt rs rm md pr n k pa L (.PM x)) | none=>.bad))
  | .Yf t c x y k1 k2=>.two (.vv (St.get st.sl t) (acV c x y)) (.two (qi P T nt rs rm md pr n todo ⟨(t,x) :: ba [t] st.sl,st.lb⟩ L k1) (qi P T nt rs rm md pr n todo ⟨(t,y) :: ba [t] st.sl,st.lb⟩ L k2))
  | .fin a=>(match L a with
   | .go Le st'=>bif Nat.beq todo.length Le.length then .two (.td todo Le) (NC st st') else
     (match pW P T nt rm md pr todo st with | some (k,pa,c)=>.two c (qi P T nt rs rm md pr n k pa L (.fin a)) | none=>.bad)
   | .brk id st'=>(match todo with
    | .code (.exit id') :: k=>bif Nat.beq id id'&&(exitTo id' k).isNone then NC st st' else
     (match pW P T nt rm md pr (.code (.exit id') :: k) st with | some (k,pa,c)=>.two c (qi P T nt rs rm md pr n k pa L (.fin a)) | none=>.bad)
    | todo=>(match pW P T nt rm md pr todo st with | some (k,pa,c)=>.two c (qi P T nt rs rm md pr n k pa L (.fin a)) | none=>.bad))
   | .ret x dz=>(match todo with
    | []=>acT T rs st x dz
    | .code .ret :: _=>acT T rs st x dz
    | todo=>(match pW P T nt rm md pr todo st with | some (k,pa,c)=>.two c (qi P T nt rs rm md pr n k pa L (.fin a)) | none=>.bad))
   | .acG x dz nw=>(match todo with
    | []=>Yl T rs st x dz nw
    | .code .ret :: _=>Yl T rs st x dz nw
    | todo=>(match pW P T nt rm md pr todo st with | some (k,pa,c)=>.two c (qi P T nt rs rm md pr n k pa L (.fin a)) | none=>.bad)))
  | .br e x y=>(match todo with
   | .code (.cond (.tmp c) p q) :: k=>.two (.vv (St.get st.sl c) (.d (.v (.bool e)))) (.two (qi P T nt rs rm md pr n (.code p :: k) st L x) (qi P T nt rs rm md pr n (.code q :: k) st L y))
   | todo=>(match pW P T nt rm md pr todo st with | some (k,pa,c)=>.two c (qi P T nt rs rm md pr n k pa L (.br e x y)) | none=>.bad))
  | .r id cl kk=>(match todo with
   | .code (.region i ops draw) :: k=>bif Nat.beq i id then
     .pi fun x=>(match qo P T nt ops draw none st (cl.j8 x) with
      | some (st',ob)=>.two (.bb (Jm md pr ops) true) <| .two ob.eqs (.two (.po ob.prop (cl.mf x)) (qi P T nt rs rm md pr n k (st'.keep (Nat.lor rm (lB k))) L (kk x)))
      | none=>.bad)
    else (match pW P T nt rm md pr (.code (.region i ops draw) :: k) st with | some (k,pa,c)=>.two c (qi P T nt rs rm md pr n k pa L (.r id cl kk)) | none=>.bad)
   | todo=>(match pW P T nt rm md pr todo st with | some (k,pa,c)=>.two c (qi P T nt rs rm md pr n k pa L (.r id cl kk)) | none=>.bad))
  | .bind true J s u kk=>(match todo with
   | .code (.block id c) :: k=>.two (qi P T nt rs rm md pr n (.code c :: .inBlock id :: k) st (fun q=>match q with | .inl a=>L a | .inr b=>.go k (st.Fm (Nat.lor rm (lB k)) (u b))) s) (.pi fun b=>qi P T nt rs rm md pr n k (st.Fm (Nat.lor rm (lB k)) (u b)) L (kk b))
   | todo=>(match pW P T nt rm md pr todo st with | some (k,pa,c)=>.two c (qi P T nt rs rm md pr n k pa L (.bind true J s u kk)) | none=>.bad))
  | .bind false J s u kk=>(match todo with
   | .code (.cond (.tmp c) p q) :: k=>.two (qi P T nt rs rm md pr n (.code (.cond (.tmp c) p q) :: k) st (fun q=>match q with | .inl a=>L a | .inr b=>.go k (st.Fm (Nat.lor rm (lB k)) (u b))) s) (.pi fun b=>qi P T nt rs rm md pr n k (st.Fm (Nat.lor rm (lB k)) (u b)) L (kk b))
   | todo=>(match pW P T nt rm md pr todo st with | some (k,pa,c)=>.two c (qi P T nt rs rm md pr n k pa L (.bind false J s u kk)) | none=>.bad))
  | .loop d I m i0 u b=>(match todo with
   | .code (.loop c) :: k=>.two (NC st (st.Fm (Nat.lor rm (lB (.inLoop c :: k))) (u i0))) (.pi fun i=>qi P T nt rs rm md pr n (.code c :: .inLoop c :: k) (st.Fm (Nat.lor rm (lB (.inLoop c :: k))) (u i)) (fun q=>match q with | .inl a=>L a | .inr j=>.go (.inLoop c :: k) (st.Fm (Nat.lor rm (lB (.inLoop c :: k))) (u j))) (b i))
   | todo=>(match pW P T nt rm md pr todo st with | some (k,pa,c)=>.two c (qi P T nt rs rm md pr n k pa L (.loop d I m i0 u b)) | none=>.bad))
  | .rf it I B id s0 u v b kk=>(match todo with
   | .code (.rangeFunc (.tmp t) ps QW body) :: k =>
     .two (.bb (Nat.beq md 0) true) <|
     .two (.vv (St.get (uo (SO rm todo) (ba [] st.sl)) t) (.fn it.gf it.cS)) <|
     .two (.bb (wJ.oo it.cS) true) <|
     .two (.po (some (Zp P it.gf it.cS (it.ys.map it.enc))) (some (Zp it.P it.gf it.cS (it.ys.map it.enc)))) <|
     .two (.bb (Wr nt ((uo (SO rm todo) (ba [] st.sl)).map (·.1)) ps.toList) true) <|
     .two (NC st (st.Fm (SO rm todo) ⟨[],u s0⟩)) <|
     .two (.pi fun y=>.nn ps.toList.length (it.enc y).length) <|
     .two (.pi fun s=>.pi fun y=>.two
      (agh P T nt (SO rm todo) 1 ((uo (SO rm todo) (ba [] st.sl)).map (·.1)) n [.code QW,.beginRound,.code body] ⟨Bd ps.toList (it.enc y)++uo (SO rm todo) (ba [] st.sl),(st.Fm (SO rm todo) ⟨[],u s⟩).lb⟩ [.beginRound,.code body])
      (qi P T nt rs (SO rm todo) 1 ((uo (SO rm todo) (ba [] st.sl)).map (·.1)) n [.code body] (abd P T nt (SO rm todo) 1 ((uo (SO rm todo) (ba [] st.sl)).map (·.1)) n [.code QW,.beginRound,.code body] ⟨Bd ps.toList (it.enc y)++uo (SO rm todo) (ba [] st.sl),(st.Fm (SO rm todo) ⟨[],u s⟩).lb⟩)
       (fun q=>match q with | .inl a=>.brk id (st.Fm (SO rm todo) ⟨[],v a⟩) | .inr j=>.go [] (st.Fm (SO rm todo) ⟨[],u j⟩)) (b s y))) <|
     .two (.pi fun s=>qi P T nt rs rm md pr n k (st.Fm (SO rm todo) ⟨[],u s⟩) L (kk (.inr s))) (.pi fun a=>qi P T nt rs rm md pr n (.code (.exit id) :: k) (st.Fm (SO rm todo) ⟨[],v a⟩) L (kk (.inl a)))
   | todo=>(match pW P T nt rm md pr todo st with | some (k,pa,c)=>.two c (qi P T nt rs rm md pr n k pa L (.rf it I B id s0 u v b kk)) | none=>.bad))
section
variable {g : Goal}
theorem G.keep (m:Nat) {k:List Item} {st:St} (h:G g k (st.keep m)):G g k st:=.le (.keep m st) h
theorem Ym (hn:g.Nrm) (hT:og g.P g.T) (hf:g.P.funcs[g.f]? = some g.fn) {st:St} {x:AV} {dz:List (Nat × bQ)} (h:(acT g.T g.fn.results.toList st x dz).ok) (hx:g.res=x) (hl:g.dz=dz):G g [] st∧∀ k,G g (.code .ret :: k) st:=by
 subst hx
 subst hl
 unfold acT at h
 split at h
 ·rename_i l ro ob hr
  split at h
  ·rename_i hl
   split at h
   ·rename_i l' PA Fl hb
    obtain ⟨h1,h2,h3⟩:=h
    obtain ⟨p,q1,q2⟩:=FN _ _ h3
    have hle:vx (tg l') g.res:=fun w S μ ν v hv=>by
     exact (yO (ρ:=[]) (tg l') g.res p q1 q2 v hv).mono (fun _ h=>h) (fun _ _=>rfl) (fun k y hk=>by simp [yM,look] at hk)
    exact G.ret hn hT hf hl hr (vA h1) hb (vA h2) hle
   ·exact h.elim
  ·obtain ⟨h1,h2,h3,h4⟩:=h
   obtain ⟨p,q1,q2⟩:=FN _ _ h3
   obtain ⟨p',q3,q4⟩:=FO h4
   exact G.ahQ hn hT hf _ hr (vA h1) h2 q1 q2 q3 q4
 ·exact h.elim
theorem T1 {nw:List (Nat × Nat)} (hn:g.Wp nw) (hT:og g.P g.T) (hf:g.P.funcs[g.f]? = some g.fn) {st:St} {x:AV} {dz:List (Nat × bQ)} (h:(Yl g.T g.fn.results.toList st x dz nw).ok) (hx:g.res=x) (hl:g.dz=dz):G g [] st∧∀ k,G g (.code .ret :: k) st:=by
 subst hx
 subst hl
 unfold Yl at h
 split at h
 ·rename_i l ro ob hr
  obtain ⟨h1,h2,h3,h4,h5⟩:=h
  obtain ⟨p,q1,q2⟩:=FN _ _ h3
  obtain ⟨p',q3,q4⟩:=FO h5
  obtain ⟨p'',q5,q6⟩:=Q3 h4
  exact G.acG hn hT hf _ hr (vA h1) h2 q1 q2 q3 q4 q5 q6
 ·exact h.elim
theorem fW (hT:og g.P g.T) (hm:g.P.follows .mixedOrders=true) {rm:Nat} {todo k:List Item} {st st':St} {c:CT} (h:pW g.P g.T g.nt rm g.md g.pr todo st=some (k,st',c)) (hc:c.ok) (hg:G g k st'):G g todo st:=by
 unfold pW at h
 split at h
 ·simp only [Option.some.injEq,Prod.mk.injEq] at h; obtain ⟨rfl,rfl,-⟩:=h; exact .seq hg
 ·simp only [Option.some.injEq,Prod.mk.injEq] at h; obtain ⟨rfl,rfl,-⟩:=h; exact .skip hg
 ·simp only [Option.some.injEq,Prod.mk.injEq] at h; obtain ⟨rfl,rfl,-⟩:=h; exact .label hg
 ·simp only [Option.some.injEq,Prod.mk.injEq] at h; obtain ⟨rfl,rfl,-⟩:=h; exact .afW hg
 ·simp only [Option.some.injEq,Prod.mk.injEq] at h; obtain ⟨rfl,rfl,-⟩:=h; exact .block hg
 ·simp only [Option.some.injEq,Prod.mk.injEq] at h; obtain ⟨rfl,rfl,-⟩:=h; exact .inBlock hg
 ·split at h
  ·rename_i k' he
   simp only [Option.some.injEq,Prod.mk.injEq] at h; obtain ⟨rfl,rfl,-⟩:=h; exact .exit he hg
  ·cases h
 ·split at h
  ·rename_i pa ob hr
   simp only [Option.some.injEq,Prod.mk.injEq] at h
   obtain ⟨rfl,rfl,rfl⟩:=h
   exact .region hT hm hc.1 hr (vA hc.2) (.keep _ hg)
  ·cases h
 ·cases h
theorem Nr.put {st:St} (t:Nat) {x y:AV} (hx:St.get st.sl t=x) (h:vx x y):Nr st ⟨(t,y) :: ba [t] st.sl,st.lb⟩:=by
 rintro C a w ⟨S,μ,hs⟩
 refine ⟨S,μ,fun ν=>(hs ν).weaken (fun u v hv=>?_) (fun κ b hb=>⟨b,hb,fun _ h=>h⟩)⟩
 simp only [St.gb] at hv ⊢
 rw [Ku]
 split
 ·rename_i e
  subst e
  rw [hx] at hv
  exact h _ _ _ _ _ hv
 ·exact hv
theorem FQ {C:Cx} {A:M} {a:Act} {w:World} {S:Nat→Prop} {μ:Mu} {ν:Nat→Bool} {lb:List (Nat × bQ)} (hs:dA C A a w S μ ν) (hA:A.lb=look lb) {x:AV} {v:Value} {q:Nat} (h:PO lb x=some q) (hr:Rel w S μ ν x v):q≤maxLen:=by
 unfold PO at h
 split at h
 ·simp only [Option.some.injEq] at h
  subst h
  cases jd.1 hr with
  | nil=>simp [maxLen]
  | sl _ _ _ _ _ _ hc hm=>omega
 ·rename_i κ n
  split at h
  ·rename_i e k q' f hl
   simp only [Option.some.injEq] at h
   subst h
   have hm:=hs.mem κ _ (by rw [hA]; exact hl)
   cases hμ:μ κ with
   | none=>rw [hμ] at hm; exact hm.elim
   | some y =>
    rw [hμ] at hm
    cases y with
    | none=>have:q'=0:=hm; simp [this]
    | some gc =>
     obtain ⟨g,c⟩:=gc
     obtain ⟨cur,_,_,_,q4,q5,_⟩:=hm.at
     omega
  ·cases h
 ·cases h
theorem dA.T2 {C:Cx} {A B:M} {a:Act} {w:World} {S:Nat→Prop} {μ:Mu} {ν:Nat→Bool} (h:dA C A a w S μ ν) (Tb:∀ t,B.sl t=A.sl t) (VS:∀ κ b',B.lb κ=some b'→∃ b,A.lb κ=some b∧(iM w S μ b (μ κ)→iM w S μ b' (μ κ))):dA C B a w S μ ν:=by
 refine ⟨h.tmps,h.defers,fun t=>by rw [Tb]; exact h.eJ t,fun κ b hb=>?_,fun κ κ' b b' g c c' hb od hm IH=>?_,fun κ b g c hb hm=>?_,h.fA,h.fresh,h.bound,h.kept⟩
 ·obtain ⟨d,h1,h2⟩:=VS κ b hb
  exact h2 (h.mem κ d h1)
 ·obtain ⟨d,h1,_⟩:=VS κ b hb
  obtain ⟨d',h1',_⟩:=VS κ' b' od
  exact h.inj κ κ' d d' g c c' h1 h1' hm IH
 ·obtain ⟨d,h1,_⟩:=VS κ b hb
  exact h.own κ d g c h1 hm
theorem adG (st:St) (κ:Nat) (b:bQ) (k:Nat):(St.gb ⟨st.sl,(κ,b) :: ba [κ] st.lb⟩).lb k=if κ=k then some b else st.gb.lb k:=by
 simp only [St.gb,cw,mM]
 split
 ·rfl
 ·rename_i h
  rw [if_neg (by simp; exact fun e=>h e.symm)]
theorem G.cl {g:Goal} {k:List Item} {st:St} {κ n:Nat} {f:Nat→Value × D} {m:List (Int × Int)} {q:List (Int × Int)→Prop} (hl:look st.lb κ=some (.mp n f)) (hn:n=m.length) (hf:f=mxf m) (hq:q m) (h:G g k ⟨st.sl,(κ,.mx q) :: ba [κ] st.lb⟩):G g k st:=by
 subst hn
 subst hf
 refine .le (fun C a w hs=>?_) h
 obtain ⟨S,μ,hs⟩:=hs
 refine ⟨S,μ,fun ν=>(hs ν).T2 (fun _=>rfl) (fun κ' b' hb=>?_)⟩
 rw [adG] at hb
 split at hb
 ·rename_i e
  subst e
  simp only [Option.some.injEq] at hb
  subst hb
  refine ⟨_,hl,fun hy=>?_⟩
  generalize μ κ=y at hy ⊢
  match y,hy with
  | some (some (g,c)),hy=>exact ⟨m,hq,hy⟩
 ·exact ⟨b',hb,fun h=>h⟩
theorem G.op {g:Goal} {k:List Item} {st:St} {κ:Nat} {q:List (Int × Int)→Prop} (hl:look st.lb κ=some (.mx q)) (h:∀ m,q m→G g k ⟨st.sl,(κ,.mp m.length (mxf m)) :: ba [κ] st.lb⟩):G g k st:=by
 intro C h1 h2 a w VT hs
 obtain ⟨S,μ,hs⟩:=hs
 have hm:=(hs fun _=>false).mem κ _ hl
 obtain ⟨m,hq,IH⟩:∃ m:List (Int × Int),q m∧iM w S μ (.mp m.length (mxf m)) (μ κ):=by
  generalize μ κ=y at hm ⊢
  match y,hm with
  | some (some (g,c)),hm=>obtain ⟨m,hq,hm⟩:=hm; exact ⟨m,hq,hm⟩
 refine h m hq C h1 h2 a w VT ⟨S,μ,fun ν=>(hs ν).T2 (fun _=>rfl) (fun κ' b' hb=>?_)⟩
 rw [adG] at hb
 split at hb
 ·rename_i e
  subst e
  simp only [Option.some.injEq] at hb
  subst hb
  exact ⟨_,hl,fun _=>IH⟩
 ·exact ⟨b',hb,fun h=>h⟩
theorem G.TY {k:List Item} {st:St} {t j q:Nat} (h:TY st t j=some q) (hg:q≤maxLen→G g k st):G g k st:=by
 intro C h1 h2 a w VT hs
 have Hn:=hs
 obtain ⟨S,μ,dE⟩:=hs
 refine hg ?_ C h1 h2 a w VT Hn
 have hs:=dE fun _=>false
 have hr:=hs.eJ t
 simp only [St.gb] at hr
 unfold Go.Av.TY at h
 split at h
 ·rename_i κ o hx
  split at h
  ·rename_i cs hl
   rw [Bool.cond_eq_ite] at h
   split at h
   ·rename_i hj
    have hj:=Nat.le_of_ble_eq_true hj
    rw [hx] at hr
    generalize a.tmps.getD t undef=v at hr
    cases hr with
    | ptr hμ =>
     have hm:=hs.mem κ _ hl
     rw [hμ] at hm
     obtain ⟨cur,e,_,_,jT,hc⟩:=hm.at
     obtain ⟨x,_,hx⟩:=hc j hj
     exact FQ hs rfl h (hx fun _=>false)
   ·cases h
  ·cases h
 ·rename_i cs hx
  rw [Bool.cond_eq_ite] at h
  split at h
  ·rename_i hj
   have hj:=Nat.le_of_ble_eq_true hj
   rw [hx] at hr
   generalize a.tmps.getD t undef=v at hr
   cases hr with
   | ref gu ck hh=>exact FQ hs rfl h (.d (hh j hj))
  ·cases h
 ·rename_i cs hx
  rw [Bool.cond_eq_ite] at h
  split at h
  ·rename_i hj
   have hj:=Nat.le_of_ble_eq_true hj
   rw [hx] at hr
   generalize a.tmps.getD t undef=v at hr
   cases jd.1 hr with
   | agg _ vs hl hh=>exact FQ hs rfl h (.d (hh j hj))
  ·cases h
 ·exact FQ hs rfl h hr
theorem G.WA {k:List Item} {st:St} {t n:Nat} {f:Nat→List D} (ht:St.get st.sl t=.d (.sl n f)) (h1:n=0→G g k ⟨(t,.d (.v (.slice none 0 0))) :: ba [t] st.sl,st.lb⟩) (h2:G g k ⟨(t,.A8 n f) :: ba [t] st.sl,st.lb⟩):G g k st:=by
 intro C c1 c2 a w VT hs
 obtain ⟨S,μ,dE⟩:=hs
 have hr:=(dE fun _=>false).eJ t
 simp only [St.gb,ht] at hr
 have put:∀ y:AV,(∀ ν,Rel w S μ ν y (a.tmps.getD t undef))→ku C ⟨(t,y) :: ba [t] st.sl,st.lb⟩ a w:=fun y hy=>by
  refine ⟨S,μ,fun ν=>?_⟩
  have h:=dE ν
  refine ⟨h.tmps,h.defers,fun u=>?_,h.mem,h.inj,h.own,h.fA,h.fresh,h.bound,h.kept⟩
  simp only [St.gb]
  rw [Ku]
  split
  ·rename_i e
   subst e
   exact hy ν
  ·exact h.eJ u
 cases hv:a.tmps.getD t undef with
 | slice ad m cap =>
  rw [hv] at hr
  cases ad with
  | none =>
   cases jd.1 hr with
   | nil=>exact h1 rfl C c1 c2 a w VT (put _ (fun ν=>by rw [hv]; exact g7 rfl))
  | some ad=>exact h2 C c1 c2 a w VT (put _ (fun ν=>by rw [hv]; exact .A8 (jd.1 hr)))
 | _=>rw [hv] at hr; cases jd.1 hr
theorem G.pV:∀ {c:Code} {ops:Array Oper} {l K:List Item} {st:St},Go.Av.pV c=some (ops,l)→(∀ id,G g (.code (.region id ops false) :: (l++K)) st)→G g (.code c :: K) st
 | .seq x y,ops,l,K,st,h,hg=>by
  simp only [Go.Av.pV] at h
  split at h
  ·rename_i ah7 l' hx
   simp only [Option.some.injEq,Prod.mk.injEq] at h
   obtain ⟨rfl,rfl⟩:=h
   exact .seq (G.pV hx (fun id=>by have:=hg id; rwa [List.append_assoc] at this))
  ·cases h
 | .region id ah7 false,ops,l,K,st,h,hg=>by
  simp only [Go.Av.pV,Option.some.injEq,Prod.mk.injEq] at h
  obtain ⟨rfl,rfl⟩:=h
  exact hg id
 | .region _ _ true,_,_,_,_,h,_=>by simp [Go.Av.pV] at h
 | .skip,_,_,_,_,h,_=>by simp [Go.Av.pV] at h
 | .cond ..,_,_,_,_,h,_=>by simp [Go.Av.pV] at h
 | .block ..,_,_,_,_,h,_=>by simp [Go.Av.pV] at h
 | .loop ..,_,_,_,_,h,_=>by simp [Go.Av.pV] at h
 | .rangeFunc ..,_,_,_,_,h,_=>by simp [Go.Av.pV] at h
 | .exit ..,_,_,_,_,h,_=>by simp [Go.Av.pV] at h
 | .scope ..,_,_,_,_,h,_=>by simp [Go.Av.pV] at h
 | .label ..,_,_,_,_,h,_=>by simp [Go.Av.pV] at h
 | .goto ..,_,_,_,_,h,_=>by simp [Go.Av.pV] at h
 | .ret,_,_,_,_,h,_=>by simp [Go.Av.pV] at h
 | .refuse ..,_,_,_,_,h,_=>by simp [Go.Av.pV] at h
theorem ku.agi {C:Cx} {st:St} {a:Act} {w:World} {S:Nat→Prop} {μ:Mu} (dE:∀ ν,dA C st.gb a w S μ ν) {d1 d2:Nat} (hd1:d1 < C.nt) (hd2:d2 < C.nt) (x:Value) (b:Bool) (ds:List Nat) (h1:d1∈ds) (h2:d2∈ds) :
  ∀ ν,dA C (St.gb ⟨(d2,.d (.v (.bool b))) :: ba ds st.sl,st.lb⟩) ((a.put (some d1) x).put (some d2) (.bool b)) w S μ ν:=fun ν=>by
 have h:=dE ν
 refine ⟨by simp [Act.put,h.tmps],h.defers,fun u=>?_,h.mem,h.inj,h.own,h.fA,h.fresh,h.bound,h.kept⟩
 simp only [St.gb,St.get,cw]
 by_cases c2:d2=u
 ·subst c2
  simp only [if_true,Act.put]
  rw [iy _ _ _ (by simp [h.tmps]; exact hd2)]
  exact g7 rfl
 ·simp only [c2,if_false,mM]
  split
  ·rename_i x hx
   split at hx
   ·cases hx
   ·rename_i hn
    have n1:u≠d1:=fun e=>hn (e ▸ h1)
    have n2:u≠d2:=fun e=>hn (e ▸ h2)
    simp only [Act.put]
    rw [dt _ _ _ _ n2,dt _ _ _ _ n1]
    have:=h.eJ u
    simp only [St.gb,St.get,hx] at this
    exact this
  ·exact .any _
theorem G.next (hm:g.P.follows .mixedOrders=true) {K:List Item} {st:St} {id:Nat} {ops:Array Oper} {it d1 d2 κi κ n:Nat} {f:Nat→Value × D} {s:List Nat} (Wn:Jm g.md g.pr ops=true) (qp:WG ops=some (it,d1,d2)) (hd1:d1 < g.nt) (hd2:d2 < g.nt)
  (hit:St.get st.sl it=.ptr κi 0) (hli:look st.lb κi=some (.it κ n s)) (hl:look st.lb κ=some (.mp n f))
  (yH:∀ i,i < n→i ∉ s→G g K (WH st d1 d2 κi κ n i s)) (acI:(∀ i,i < n→i∈s)→G g K (Ls st d1 d2 it)):G g (.code (.region id ops false) :: K) st:=by
 intro C c1 c2 a w VT hs
 suffices hw:wpOps C.P ops (fun e a' w'=>e=.normal∧((∃ i,i < n∧i ∉ s∧ku C (WH st d1 d2 κi κ n i s) a' w')∨((∀ i,i < n→i∈s)∧ku C (Ls st d1 d2 it) a' w'))) (List.range ops.size) a w by
  rw [c1] at hw
  refine G.ops hm Wn VT (.inl ⟨rfl,hw⟩) (fun a' w' gE BI=>?_)
  rcases BI with ⟨i,hi,hn,BI⟩ | ⟨he,BI⟩
  ·exact yH i hi hn C c1 c2 a' w' gE BI
  ·exact acI he C c1 c2 a' w' gE BI
 obtain ⟨S,μ,dE⟩:=hs
 have h0:=dE fun _=>false
 rw [← c2] at hd1 hd2
 unfold WG at qp
 split at qp
 ·rename_i o1 o2 hol
  split at qp
  ·rename_i it' d1' e1 d2' q1 q2 q3 q4 q5 q6
   rw [Bool.cond_eq_ite] at qp
   split at qp
   ·rename_i heq
    have heq:=Nat.eq_of_beq_eq_true heq
    subst heq
    simp only [Option.some.injEq,Prod.mk.injEq] at qp
    obtain ⟨rfl,rfl,rfl⟩:=qp
    have qp:ops = #[o1,o2]:=by cases ops; simpa using hol
    subst qp
    show wpOps C.P #[o1,o2] _ [0,1] a w
    have w1:∀ y,Region.wanted o1 y=true:=fun y=>by simp [Region.wanted,q3]
    have w2:∀ y,Region.wanted o2 y=true:=fun y=>by simp [Region.wanted,q6]
    have hr:=h0.eJ it'
    simp only [St.gb,hit] at hr
    generalize hiv:a.tmps.getD it' undef=iv at hr
    cases hr with
    | @ptr _ _ gi ci hμi =>
     have hmi:=h0.mem κi _ hli
     rw [hμi] at hmi
     have ah8:=hmi.at
     obtain ⟨mg,c,hμ,hgi,afP⟩:=ah8
     have Ny:=h0.mem κ _ hl
     rw [hμ] at Ny
     obtain ⟨cur,hg,tV,jT,ck⟩:=Ny.at
     have hev:a.eval (.tmp it')=.pointer (some ⟨gi,0,none⟩):=hiv
     have adH:∀ x,x∈cur.toList→x.born < n:=fun x hx=>by
      obtain ⟨q,hq,rfl⟩:=List.getElem_of_mem hx
      have hqn:q < n:=by simpa [jT] using hq
      obtain ⟨e,y1,_,_,y4,_⟩:=ck q hqn
      have:cur.toList[q]=e:=by simpa using (Array.getElem?_eq_some_iff.1 y1).2
      rw [this,y4]; exact hqn
     have ext:∀ (a':Act) (w':World) (b:Bool) (rest:List Value),a'.eval (.tmp d1')=.tuple (#[.bool b]++rest.toArray)→(execOp a'.eval o2).run C.P w'=.ok (.value (.bool b)) w':=fun a' w' b rest hh=>by
      simp [execOp,q4,hh,Instr.extract]
     have Zr:∀ (x:Value),(a.put (some d1') x).eval (.tmp d1')=x:=fun x=>by
      show (a.tmps.setIfInBounds d1' x).getD d1' undef=x
      exact iy _ _ _ (by rw [h0.tmps]; exact hd1)
     rcases run_next_at (P:=C.P) w o1.type gi mg n n s.reverse.toArray cur n hgi hg adH (Nat.le_refl _) with ⟨hz,g5⟩ | ⟨e,he,wd,hwd,g5⟩
     ·simp only [wpOps,List.getElem?_toArray,List.getElem?_cons_zero,List.getElem?_cons_succ,w1,w2,if_true]
      left
      unfold Oper.wp
      have hx:(execOp a.eval o1).run C.P w=.ok (.value (.tuple #[.bool false])) w:=by
       simp only [execOp,q1,hev,Sem.run_bind,g5,Result.andThen_ok,Sem.run_pure]
      rw [hx,Oper.upon_value,q2]
      left
      rw [ext (a.put (some d1') (.tuple #[.bool false])) w false [] (by rw [Zr]; rfl),Oper.upon_value,q5]
      refine ⟨trivial,.inr ⟨fun i hi=>?_,⟨S,μ,ku.agi dE hd1 hd2 _ false [d1',d2',it'] (by simp) (by simp)⟩⟩⟩
      have:∀ x,x∈cur.toList→x.born∈s:=fun x hx=>by
       have hz':leftOf cur s.reverse.toArray = #[]:=Array.eq_empty_of_size_eq_zero hz
       unfold leftOf at hz'
       rw [Array.filter_eq_empty_iff] at hz'
       have:=hz' x (by simpa using hx)
       simpa using this
      obtain ⟨e,y1,_,_,y4,_⟩:=ck i hi
      have hm:e∈cur.toList:=by
       have:=(Array.getElem?_eq_some_iff.1 y1)
       obtain ⟨gJ,rfl⟩:=this
       simp
      have:=this e hm
      rwa [y4] at this
     ·simp only [wpOps,List.getElem?_toArray,List.getElem?_cons_zero,List.getElem?_cons_succ,w1,w2,if_true]
      left
      unfold Oper.wp
      have hx:(execOp a.eval o1).run C.P w=.ok (.value (.tuple #[.bool true,e.key,e.val])) (ChangeMaps.setBlock wd gi (.mapIter (some mg) n (s.reverse.toArray.push e.born) n)):=by
       simp only [execOp,q1,hev,Sem.run_bind,g5,Result.andThen_ok,Sem.run_pure]
      rw [hx,Oper.upon_value,q2]
      left
      rw [ext (a.put (some d1') (.tuple #[.bool true,e.key,e.val])) _ true [e.key,e.val] (by rw [Zr]; rfl),Oper.upon_value,q5]
      have kr:e∈cur.toList∧e.born ∉ s:=by
       unfold leftOf at he
       simpa using he
      refine ⟨trivial,.inl ⟨e.born,adH e kr.1,kr.2,?_⟩⟩
      have ah9:Kept w wd (fun _=>False):=by
       rcases hwd with rfl | rfl
       ·exact Kept.refl _ _
       ·exact ⟨rfl,rfl,rfl,Nat.le_refl _,fun _ _ _=>rfl⟩
      have aia:wd.heap[gi]? = some (.mapIter (some mg) n s.reverse.toArray n):=by rcases hwd with rfl | rfl <;> exact hgi
      have aaX:∀ ν,dA C st.gb a wd S μ ν:=fun ν=>(dE ν).world (fun _ x=>x) (fun _ x=>.inl x) ah9
      have aib:ChangeMaps.setBlock wd gi (.mapIter (some mg) n (s.reverse.toArray.push e.born) n)=World.Ev wd gi (.mapIter (some mg) n (s.reverse.toArray.push e.born) n):=rfl
      rw [aib]
      have TS:∀ ν,dA C (st.gb.set κi (some (.it κ n (e.born :: s)))) a (World.Ev wd gi (.mapIter (some mg) n (s.reverse.toArray.push e.born) n)) S μ ν:=fun ν=>(aaX ν).QM (b:=.it κ n s) hli hμi (vd gi _) ⟨mg,c,hμ,by rw [Kr _ aia]; simp,afP⟩
      have oh:(St.gb ⟨st.sl,(κi,.it κ n (e.born :: s)) :: ba [κi] st.lb⟩)=st.gb.set κi (some (.it κ n (e.born :: s))):=by
       unfold St.gb M.set
       congr 1
       funext q
       rw [cw,mM]
       by_cases hq:κi=q
       ·subst hq; simp
       ·have:q ∉ [κi]:=by simp; exact fun e=>hq e.symm
        have XZ:¬ q=κi:=fun e=>hq e.symm
        simp [hq,XZ]
      exact ⟨S,μ,ku.agi (st:=⟨st.sl,(κi,.it κ n (e.born :: s)) :: ba [κi] st.lb⟩) (fun ν=>by rw [oh]; exact TS ν) hd1 hd2 _ true [d1',d2'] (by simp) (by simp)⟩
   ·cases qp
  ·cases qp
 ·cases qp
theorem Yn (hT:og g.P g.T) (hm:g.P.follows .mixedOrders=true) {rm:Nat}:∀ (n:Nat) {todo k:List Item} {st st':St} {c:CT},abc g.P g.T g.nt rm g.md g.pr n todo st=some (k,st',c)→c.ok→G g k st'→G g todo st
 | 0,_,_,_,_,_,h,_,_=>by cases h
 | n+1,todo,k,st,st',c,h,hc,hg=>by
  unfold abc at h
  split at h
  ·simp only [Option.some.injEq,Prod.mk.injEq] at h
   obtain ⟨rfl,rfl,rfl⟩:=h
   exact hg
  ·split at h
   ·rename_i k1 pa c1 hs
    split at h
    ·rename_i k2 st2 c2 hr
     simp only [Option.some.injEq,Prod.mk.injEq] at h
     obtain ⟨rfl,rfl,rfl⟩:=h
     exact fW hT hm hs hc.1 (Yn hT hm n hr hc.2 hg)
    ·cases h
   ·cases h
theorem Dl:∀ (n:Nat) {g:Goal} (hT:og g.P g.T) (hm:g.P.follows .mixedOrders=true) (hf:g.P.funcs[g.f]? = some g.fn) (hz:g.md=0→g.Nrm∧∀ {C C' b cs m},Reb C C'→g.Z C' b cs m→g.Z C b cs m) (rm:Nat) {α:Type} (todo:List Item) (st:St) (L:α→abb) (sk:Sk α) (lp:α→Prop),
  (qi g.P g.T g.nt g.fn.results.toList rm g.md g.pr n todo st L sk).ok→sk.bq lp→(∀ a,a=sk.val→lp a→WI g (L a))→G g todo st
 | 0,_,_,_,_,_,_,_,todo,st,L,sk,lp,h,_,_=>h.elim
 | n+1,g,hT,hm,hf,hz,rm,α,todo,st,L,sk,lp,h,ho,hL=>by
  have ih:=fun {α:Type}=>Dl n hT hm hf hz rm (α:=α)
  unfold qi at h
  split at h
  ·-- op
   rename_i κ k
   split at h
   ·rename_i hl
    exact G.op hl fun m _=>ih _ _ L (k m) lp (h m) (ho m).2 (fun a ha=>hL a (ha.trans (ho m).1))
   ·exact h.elim
  ·-- oq
   rename_i κ q k
   split at h
   ·rename_i q' hl
    obtain ⟨h0,h⟩:=h
    have h0:q'=q:=h0
    subst h0
    exact G.op hl fun m hm=>ih _ _ L (k m) lp (h m) (ho m hm).2 (fun a ha=>hL a (ha.trans (ho m hm).1))
   ·exact h.elim
  ·-- cq
   rename_i κ m q' k
   split at h
   ·rename_i q f hl
    obtain ⟨h1,h2,h3⟩:=h
    exact G.cl hl h1 h2 ho.1 (ih _ _ L k lp h3 ho.2 hL)
   ·exact h.elim
  ·-- cl
   rename_i κ m k
   split at h
   ·rename_i q f hl
    obtain ⟨h1,h2,h3⟩:=h
    exact G.cl hl h1 h2 (q:=mxT) trivial (ih _ _ L k lp h3 ho hL)
   ·exact h.elim
  ·-- QZ
   rename_i id x c k
   split at h
   ·rename_i i ops K
    rw [Bool.cond_eq_ite] at h
    split at h
    ·split at h
     ·rename_i ts ti ty d1 d2 d3 DG
      split at h
      ·rename_i κ m xx e' _ _ _ _ hts hti Q0
       split at h
       ·rename_i e q m2 f ii hl he
        obtain ⟨h0,h1,h2,h3,h4,h5⟩:=h
        have h0:(Nat.ble (d1+1) g.nt&&Nat.ble (d2+1) g.nt&&Nat.ble (d3+1) g.nt&&Jm g.md g.pr ops&&Nat.beq e e'&&Nat.beq q ii.size&&ii.zero.all Bu&&!Nat.beq ts d1&&!Nat.beq ts d2&&!Nat.beq ts d3)=true:=h0
        simp only [Bool.and_eq_true,Bool.not_eq_true'] at h0
        obtain ⟨⟨⟨⟨⟨⟨⟨⟨⟨b1,b2⟩,b3⟩,b4⟩,b5⟩,b6⟩,b7⟩,b8⟩,b9⟩,b10⟩:=h0
        have h1:xx=x:=h1
        have h2:m=m2:=h2
        have h3:m=c.n:=h3
        have h4:zU xx.toNat f ii.zero=c.f:=h4
        have b5:=Nat.eq_of_beq_eq_true b5
        have b6:=Nat.eq_of_beq_eq_true b6
        subst h1; subst h2; subst b5
        obtain ⟨⟨o1,o2⟩,o3⟩:=ho
        have ne:∀ d,Nat.beq ts d=false→¬ ts=d:=fun d hd e=>by rw [e,Nat.beq_refl] at hd; cases hd
        refine G.QZ hT hm b4 DG (Nat.le_of_ble_eq_true b1) (Nat.le_of_ble_eq_true b2) (Nat.le_of_ble_eq_true b3) hts hti hl Q0 rfl he b6 b7 o1 (by rw [h3]; exact o2) (.le ?_ (.keep _ (ih _ _ L k lp h5 o3 hL)))
        have hcn:m=c.n':=h3.trans c.eq.1
        rintro C a w ⟨S,μ,dE⟩
        refine ⟨S,μ,fun ν=>(dE ν).weaken (fun t v hv=>?_) (fun κ' b' od=>?_)⟩
        ·simp only [St.gb,St.get,cw,mM] at hv ⊢
         by_cases ht:ts=t
         ·subst ht
          simp only [if_true]
          rw [if_neg (by simp only [List.mem_cons,List.not_mem_nil,or_false,not_or]; exact ⟨ne _ b8,ne _ b9,ne _ b10⟩)] at hv
          simp only [St.get] at hts
          rw [hts,hcn] at hv
          exact hv
         ·have e1:(t∈[ts,d1,d2,d3])↔(t∈[d1,d2,d3]):=by
           rw [List.mem_cons]
           exact ⟨fun h=>h.elim (fun e=>absurd e.symm ht) (fun h=>h),.inr⟩
          simp only [ht,if_false,e1]
          exact hv
        ·simp only [St.gb,cw,mM] at od ⊢
         by_cases hk:κ=κ'
         ·simp only [hk,if_true,Option.some.injEq] at od ⊢
          subst od
          refine ⟨_,rfl,fun y hy=>?_⟩
          rw [h4] at hy
          exact aaL hcn (fun i hi=>c.eq.2 i (by rw [← h3]; exact hi)) y hy
         ·simp only [hk,if_false] at od ⊢
          exact ⟨b',od,fun _ h=>h⟩
       ·exact h.elim
      ·exact h.elim
     ·exact h.elim
    ·split at h
     ·rename_i k0 pa c0 hs
      exact fW hT hm hs h.1 (ih _ _ L (.QZ id x c k) lp h.2 ho hL)
     ·exact h.elim
   ·split at h
    ·rename_i k0 pa c0 hs
     exact fW hT hm hs h.1 (ih _ _ L (.QZ id x c k) lp h.2 ho hL)
    ·exact h.elim
  ·-- wi
   rename_i t a b k
   obtain ⟨h1,h2⟩:=h
   obtain ⟨o1,o2⟩:=ho
   refine .le (Nr.put t h1 (y:=.d (.v (.int .i64 b))) ?_) (ih _ _ L k lp h2 o2 hL)
   subst o1
   exact vx.rfl'
  ·-- Eb
   rename_i t j m k
   split at h
   ·rename_i q hq
    obtain ⟨h1,h2⟩:=h
    have h1:q=m:=h1
    subst h1
    exact G.TY hq fun hb=>ih _ _ L k lp h2 (ho hb) hL
   ·exact h.elim
  ·-- wn
   rename_i κ a b k
   obtain ⟨h1,h2,h3⟩:=h
   obtain ⟨o1,o2⟩:=ho
   subst o1
   rw [Yh h1,Dk h2] at h3
   exact ih _ _ L k lp h3 o2 hL
  ·exact (ho:False).elim
  ·-- WA
   rename_i t m k1 k2
   split at h
   ·rename_i q f hq
    obtain ⟨h1,h2,h3⟩:=h
    have h1:q=m:=h1
    subst h1
    refine G.WA hq (fun h0=>?_) (ih _ _ L k2 lp h3 ho.2 hL)
    exact ih _ _ L k1 lp h2 (ho.1 h0).1 (fun a ha=>hL a (by rw [ha,(ho.1 h0).2]; rfl))
   ·exact h.elim
  ·-- fz
   rename_i κ k
   split at h
   ·rename_i e0 k0 q f hq
    exact .le (Nr.fz hq h.1 h.2.1) (ih _ _ L k lp h.2.2 ho hL)
   ·exact h.elim
  ·-- mr
   rename_i γ m V init u v b k
   split at h
   ·rename_i c K
    split at h
    ·rename_i ops l hh
     split at h
     ·rename_i it d1 d2 hn
      rw [Bool.cond_eq_ite] at h
      split at h
      ·rename_i hb
       simp only [Bool.and_eq_true] at hb
       have hd1:=Nat.le_of_ble_eq_true hb.1.1
       have hd2:=Nat.le_of_ble_eq_true hb.1.2
       obtain ⟨h1,h2,h3⟩:=h
       obtain ⟨oi,ob,oc,o3⟩:=ho
       have hV:∀ g i,V g→i < m→V ((b g i).val):=fun g i hg hi=>(b g i).dc (ob g i hg hi).1
       have o1:∀ s:List Nat,s.Perm (List.range m)→s.foldr (fun i g=>(b g i).val) init=(List.range m).foldr (fun i g=>(b g i).val) init:=fun s hs=>WC (f:=fun g i=>(b g i).val) hV oc oi hs (fun i hi=>List.mem_range.1 (hs.mem_iff.1 hi))
       have o2:∀ (s:List Nat) (i:Nat),(∀ j,j∈s→j < m)→i < m→(b (s.foldr (fun i g=>(b g i).val) init) i).bq fun _=>True:=fun s i hs hi=>(ob _ i (yP (f:=fun g i=>(b g i).val) hV oi s hs) hi).2
       have key:∀ (q:Nat) (s:List Nat),s.Nodup→(∀ j,j∈s→j < m)→m - s.length < q→G g (.code c :: .inLoop c :: K) (st.Fm (Nat.lor rm (lB (.inLoop c :: K))) (u (s.foldr (fun i g=>(b g i).val) init) s)):=by
        intro q
        induction q with
        | zero=>intro s _ _ gJ; omega
        | succ q ihq =>
         intro s hnd gJ hq
         have h2:=h2 (s.foldr (fun i g=>(b g i).val) init) s
         dsimp only at h2
         split at h2
         ·rename_i κi hit
          split at h2
          ·rename_i κ m1 s1 hli
           split at h2
           ·rename_i m2 f hl
            obtain ⟨e1,e2,e3,e4,e5⟩:=h2
            have e1:m1=m:=e1
            have e2:m2=m:=e2
            have e3:s1=s:=e3
            subst e1; subst e2; subst e3
            refine G.pV hh (fun id=>G.next hm hb.2 hn hd1 hd2 hit hli hl (fun i hi hni=>?_) (fun pF=>?_))
            ·refine ih _ _ _ (b _ i) _ (e5 i) (o2 s1 i gJ hi) (fun g' hg' _=>?_)
             subst hg'
             refine .inLoop (ihq (i :: s1) (List.nodup_cons.2 ⟨hni,hnd⟩) (fun j hj=>?_) ?_)
             ·rcases List.mem_cons.1 hj with rfl | hj
              ·exact hi
              ·exact gJ j hj
             ·have hle:(i :: s1).length≤m2:=by
               have:=List.Nodup.length_le_of_subset (l₁:=i :: s1) (l₂:=List.range m2) (List.nodup_cons.2 ⟨hni,hnd⟩) (fun j hj=>by
                rcases List.mem_cons.1 hj with rfl | hj
                ·exact List.mem_range.2 hi
                ·exact List.mem_range.2 (gJ j hj))
               simpa using this
              simp only [List.length_cons] at hle ⊢
              omega
            ·have hp:s1.Perm (List.range m2):=(List.perm_ext_iff_of_nodup hnd List.nodup_range).2 (fun j=>⟨fun hj=>List.mem_range.2 (gJ j hj),fun hj=>pF j (List.mem_range.1 hj)⟩)
             refine .le (wZ e4) ?_
             rw [o1 s1 hp]
             exact ih _ _ L (k _) lp (h3 _) (o3 _ rfl (yP (f:=fun g i=>(b g i).val) hV oi _ (fun i hi=>List.mem_range.1 hi))) hL
           ·exact h2.elim
          ·exact h2.elim
         ·exact h2.elim
       intro C c1 c2 a w VT hs
       exact (key (m+1) [] List.nodup_nil (fun j hj=>by cases hj) (by simp) C c1 c2 a w VT (wZ h1 C a w hs)).step fun _ _=>.one stepR_loop
      ·exact h.elim
     ·exact h.elim
    ·exact h.elim
   ·split at h
    ·rename_i k0 pa c hs
     exact fW hT hm hs h.1 (ih _ _ L (.mr m V init u v b k) lp h.2 ho hL)
    ·exact h.elim
  ·-- PL
   rename_i x
   split at h
   ·exact .cond h.1 (fun _=>ih _ _ L x lp h.2 ho hL) (fun he=>by cases he)
   ·split at h
    ·rename_i k pa c hs
     exact fW hT hm hs h.1 (ih _ _ L (.PL x) lp h.2 ho hL)
    ·exact h.elim
  ·-- PM
   rename_i x
   split at h
   ·exact .cond h.1 (fun he=>by cases he) (fun _=>ih _ _ L x lp h.2 ho hL)
   ·split at h
    ·rename_i k pa c hs
     exact fW hT hm hs h.1 (ih _ _ L (.PM x) lp h.2 ho hL)
    ·exact h.elim
  ·-- Yf
   rename_i t c x y k1 k2
   obtain ⟨h1,h2,h3⟩:=h
   have h1:St.get st.sl t=acV c x y:=h1
   rw [acW] at h1
   cases c with
   | true=>exact .le (Nr.put t h1 vx.rfl') (ih _ _ L k1 lp h2 (ho.1 rfl) hL)
   | false=>exact .le (Nr.put t h1 vx.rfl') (ih _ _ L k2 lp h3 (ho.2 rfl) hL)
  ·-- fin
   rename_i a
   have NF:=hL a rfl ho
   split at h
   ·rename_i Le st' hl
    rw [hl] at NF
    rw [Bool.cond_eq_ite] at h
    split at h
    ·obtain ⟨h1,h2⟩:=h
     have h1:todo=Le:=h1
     subst h1
     exact .le (wZ h2) NF
    ·split at h
     ·rename_i k pa c hs
      exact fW hT hm hs h.1 (ih _ _ L (.fin a) lp h.2 ho hL)
     ·exact h.elim
   ·rename_i id st' hl
    rw [hl] at NF
    split at h
    ·rename_i id' k
     rw [Bool.cond_eq_ite] at h
     split at h
     ·rename_i hb
      simp only [Bool.and_eq_true,Option.isNone_iff_eq_none] at hb
      obtain rfl:=Nat.eq_of_beq_eq_true hb.1
      exact .le (wZ h) (NF k hb.2)
     ·split at h
      ·rename_i k pa c hs
       exact fW hT hm hs h.1 (ih _ _ L (.fin a) lp h.2 ho hL)
      ·exact h.elim
    ·split at h
     ·rename_i k pa c hs
      exact fW hT hm hs h.1 (ih _ _ L (.fin a) lp h.2 ho hL)
     ·exact h.elim
   ·rename_i x dz hl
    rw [hl] at NF
    split at h
    ·exact (Ym NF.1 hT hf h NF.2.1 NF.2.2).1
    ·exact (Ym NF.1 hT hf h NF.2.1 NF.2.2).2 _
    ·split at h
     ·rename_i k pa c hs
      exact fW hT hm hs h.1 (ih _ _ L (.fin a) lp h.2 ho hL)
     ·exact h.elim
   ·rename_i x dz nw hl
    rw [hl] at NF
    split at h
    ·exact (T1 NF.1 hT hf h NF.2.1 NF.2.2).1
    ·exact (T1 NF.1 hT hf h NF.2.1 NF.2.2).2 _
    ·split at h
     ·rename_i k pa c hs
      exact fW hT hm hs h.1 (ih _ _ L (.fin a) lp h.2 ho hL)
     ·exact h.elim
  ·-- br
   rename_i e x y
   split at h
   ·rename_i c p q k
    obtain ⟨h1,h2,h3⟩:=h
    refine .cond h1 (fun he=>?_) (fun he=>?_)
    ·exact ih _ _ L x lp h2 (ho.1 he) (fun a ha=>hL a (by rw [ha]; simp [Sk.val,he]))
    ·exact ih _ _ L y lp h3 (ho.2 he) (fun a ha=>hL a (by rw [ha]; simp [Sk.val,he]))
   ·split at h
    ·rename_i k pa c hs
     exact fW hT hm hs h.1 (ih _ _ L (.br e x y) lp h.2 ho hL)
    ·exact h.elim
  ·-- r
   rename_i β id cl kk
   split at h
   ·rename_i i ops draw k
    rw [Bool.cond_eq_ite] at h
    split at h
    ·have h:=h cl.v
     dsimp only at h
     split at h
     ·rename_i st' ob hr
      obtain ⟨h0,h1,h2,h3⟩:=h
      have h2:ob.prop=cl.mf cl.v:=h2
      exact .region hT hm h0 hr (Ob.Hp h1 (fun p hp=>cl.pf ho.1 p (h2 ▸ hp))) (.keep _ (ih _ _ L (kk cl.v) lp h3 (ho.2 _ rfl cl.hp) hL))
     ·exact h.elim
    ·split at h
     ·rename_i k pa c hs
      exact fW hT hm hs h.1 (ih _ _ L (.r id cl kk) lp h.2 ho hL)
     ·exact h.elim
   ·split at h
    ·rename_i k pa c hs
     exact fW hT hm hs h.1 (ih _ _ L (.r id cl kk) lp h.2 ho hL)
    ·exact h.elim
  ·-- bind at a block
   rename_i β J s u kk
   split at h
   ·rename_i id c k
    obtain ⟨h1,h2⟩:=h
    refine .block (ih _ _ _ s _ h1 ho.1 (fun q hq hlq=>?_))
    cases q with
    | inl a=>exact hL a (by simp only [Sk.val,← hq,bO]) hlq
    | inr b=>exact ih _ _ L (kk b) lp (h2 b) (ho.2 b hq.symm hlq) (fun a ha=>hL a (by rw [ha]; simp only [Sk.val,← hq,bO]))
   ·split at h
    ·rename_i k pa c hs
     exact fW hT hm hs h.1 (ih _ _ L (.bind true J s u kk) lp h.2 ho hL)
    ·exact h.elim
  ·-- bind at a choice
   rename_i β J s u kk
   split at h
   ·rename_i c p q k
    obtain ⟨h1,h2⟩:=h
    refine ih _ _ _ s _ h1 ho.1 (fun q hq hlq=>?_)
    cases q with
    | inl a=>exact hL a (by simp only [Sk.val,← hq,bO]) hlq
    | inr b=>exact ih _ _ L (kk b) lp (h2 b) (ho.2 b hq.symm hlq) (fun a ha=>hL a (by rw [ha]; simp only [Sk.val,← hq,bO]))
   ·split at h
    ·rename_i k pa c hs
     exact fW hT hm hs h.1 (ih _ _ L (.bind false J s u kk) lp h.2 ho hL)
    ·exact h.elim
  ·-- loop
   rename_i ι d I m i0 u b
   split at h
   ·rename_i c k
    obtain ⟨h1,h2⟩:=h
    obtain ⟨o1,o2⟩:=ho
    have key:∀ (q:Nat) (i:ι),I i→m i < q→(∀ a,a=iter (fun i=>(b i).val) d q i→lp a→WI g (L a))→G g (.code c :: .inLoop c :: k) (st.Fm (Nat.lor rm (lB (.inLoop c :: k))) (u i)):=by
     intro q
     induction q with
     | zero=>intro i _ gJ; omega
     | succ q ihq =>
      intro i hi gJ NF
      refine ih _ _ _ (b i) _ (h2 i) (o2 i hi) (fun r hr hlr=>?_)
      cases r with
      | inl a=>exact NF a (by simp only [iter,← hr]) hlr
      | inr j=>exact .inLoop (ihq j hlr.1 (by have:=hlr.2; omega) (fun a ha=>NF a (by rw [ha]; simp only [iter,← hr])))
    intro C c1 c2 a w VT hs
    exact (key (m i0+1) i0 o1 (Nat.lt_succ_self _) hL C c1 c2 a w VT (wZ h1 C a w hs)).step fun _ _=>.one stepR_loop
   ·split at h
    ·rename_i k pa c hs
     exact fW hT hm hs h.1 (ih _ _ L (.loop d I m i0 u b) lp h.2 ho hL)
    ·exact h.elim
  ·-- rf
   rename_i σ β Y it I B id s0 u v b kk
   split at h
   ·rename_i t ps QW body k
    obtain ⟨h1,h2,h3,h4,h5,h6,h7,h8,h9,h10⟩:=h
    obtain ⟨o1,o2,o3,o4⟩:=ho
    have hpr:g.md=0:=Nat.eq_of_beq_eq_true h1
    obtain ⟨hn,aic⟩:=hz hpr
    have h4:some (Zp g.P it.gf it.cS (it.ys.map it.enc))=some (Zp it.P it.gf it.cS (it.ys.map it.enc)):=h4
    have hit:Zp g.P it.gf it.cS (it.ys.map it.enc):=by rw [Option.some.inj h4]; exact it.pf o1
    have adI:=fun i s y hs hy=>(b s y).dc (o3 i s y hs hy).1
    generalize hmm:SO rm (Item.code (.rangeFunc (.tmp t) ps QW body) :: k)=mm at *
    refine G.rf hn aic it.ys it.enc (fun s y=>(b s y).val) s0 I (uo mm (ba [] st.sl)) (fun s=>st.Fm mm ⟨[],u s⟩) (fun a=>st.Fm mm ⟨[],v a⟩) id
     (fun s y=>abd g.P g.T g.nt mm 1 ((uo mm (ba [] st.sl)).map (·.1)) n [.code QW,.beginRound,.code body] ⟨Bd ps.toList (it.enc y)++uo mm (ba [] st.sl),(st.Fm mm ⟨[],u s⟩).lb⟩)
     (fun _=>rfl) (fun _=>rfl) (wZ h6) h2 h3 hit h5 (fun y _=>h7 y) o2 (fun i s y hs hy=>?_) (fun s y tm Z zs hy hg=>?_) (fun i s y tm Z zs hs hy hg=>?_) ?_
    ·have:=adI i s y hs hy
     show match (b s y).val with | .inl _=>True | .inr s'=>I (i+1) s'
     cases e:(b s y).val with
     | inl a=>trivial
     | inr s'=>rw [e] at this; exact this
    ·have h8:=(h8 s y).1
     unfold agh at h8
     unfold abd at hg
     split at h8
     ·rename_i k' st2 c ha
      rw [ha] at hg
      have hk:k'=[.beginRound,.code body]:=h8.2
      subst hk
      exact Yn (g:=g.round _ tm Z zs) hT hm n ha h8.1 hg
     ·exact h8.elim
    ·have h8:=(h8 s y).2
     refine Dl n (g:=g.round _ tm Z zs) hT hm hf (fun e=>by cases e) mm _ _ _ (b s y) (iz B (I (i+1))) h8 (o3 i s y hs hy).2 (fun q hq hlq=>?_)
     have hg:(match (b s y).val with | .inr s'=>G (g.round _ tm Z zs) [] (st.Fm mm ⟨[],u s'⟩) | .inl b=>∀ k',exitTo id k'=none→G (g.round _ tm Z zs) (.code (.exit id) :: k') (st.Fm mm ⟨[],v b⟩)):=hg
     cases q with
     | inl a=>rw [← hq] at hg; exact hg
     | inr j=>rw [← hq] at hg; exact hg
    ·have hr:=o4 _ rfl (PN it.ys adI s0 o2)
     cases e:ou (fun s y=>(b s y).val) it.ys s0 with
     | inr s =>
      rw [e] at hr
      exact ih _ _ L (kk (.inr s)) lp (h9 s) hr (fun a ha=>hL a (by rw [ha]; simp only [Sk.val,e]))
     | inl a =>
      rw [e] at hr
      exact ih _ _ L (kk (.inl a)) lp (h10 a) hr (fun a' ha=>hL a' (by rw [ha]; simp only [Sk.val,e]))
   ·split at h
    ·rename_i k pa c hs
     exact fW hT hm hs h.1 (ih _ _ L (.rf it I B id s0 u v b kk) lp h.2 ho hL)
    ·exact h.elim
end
theorem jl.sk {P:Program} {T:List (Nat × TI)} (hT:og P T) (hm:P.follows .mixedOrders=true) {f:FuncId} {fn:Func} {body:Code} {args:List AV} {dz:List (Nat × bQ)} {α:Type} (enc:α→AV) (DM:α→List (Nat × bQ)) (hf:P.funcs[f]? = some fn) (hb:fn.body=some body)
  (hc:(gF P f&&Nat.ble args.length fn.ntmps)=true) (n:Nat) (sk:Sk α) (h:qi P T fn.ntmps fn.results.toList (FP fn.results.toList) 0 [] n [.code body] ⟨fc 0 args,dz⟩ (fun a=>.ret (enc a) (DM a)) sk=(qi P T fn.ntmps fn.results.toList (FP fn.results.toList) 0 [] n [.code body] ⟨fc 0 args,dz⟩ (fun a=>.ret (enc a) (DM a)) sk).diag)
  (ho:sk.bq fun _=>True):jl P f args dz (enc sk.val) (DM sk.val):=by
 simp only [Bool.and_eq_true] at hc
 refine jl.intro (T:=T) hf hb hc.1 (Nat.le_of_ble_eq_true hc.2) ?_
 exact Dl n (g:=.of P T fn.ntmps f fn (enc sk.val) (DM sk.val)) hT hm hf (fun _=>⟨Goal.aaT,fun {_ _ b _ _} hr hz=>ZN.reb (b:=b) hr hz⟩) _ _ _ _ sk _ (CT.Ee h) ho (fun a ha _=>by subst ha; exact ⟨Goal.aaT,rfl,rfl⟩)
end Go.Av
