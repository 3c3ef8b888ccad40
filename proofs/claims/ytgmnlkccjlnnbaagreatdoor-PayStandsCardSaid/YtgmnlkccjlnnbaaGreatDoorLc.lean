/- Regions: one evaluation for every order. -/
import Derived.Test.YtgmnlkccjlnnbaaGreatDoorLb
import Derived.OrdersIn
import Derived.RangeFuncCalls
import Derived.RangeFuncLeaves
import Derived.RangeFuncRecord
import Derived.RangeFuncKeeps
import Derived.Lib.SliceRun
import Derived.ProofKit
set_option linter.unusedSimpArgs false
set_option linter.unusedVariables false
set_option linter.unusedSectionVars false
set_option maxHeartbeats 1000000
namespace Go.Av
open Go
variable [zl]
def iH (C:Cx) (st:St) (a:Act) (w:World):Prop:=∃ S μ,∀ ν,cE C st.eE a w S μ ν
section
variable {C : Cx} {a : Act} {w : World} {S : Nat → Prop} {μ : Mu} {ν : Nat → Bool}
theorem DE {T:List (Nat × TI)} (hT:la C.P T) {ops:Array Oper}:∀ {l:List Oper} {st st':St} {gl M0:List (Nat × Bool)} {ij qp:List yn} {sm:List Tr} {ob:Ob},
  M1 C.P T C.nt ops l st gl ij=some (sm,st',M0,qp,ob)→ob.den→(∀ s e,look M0 s=some e→ν s=e) →
  sm.length=l.length∧(∀ (i:Nat) (τ:Tr) (o:Oper),sm[i]? = some τ→l[i]? = some o→E2 C ν ops o τ∧∀ p,p∈τ.gs→ν p.1=p.2)∧RL sm st.eE st'.eE∧∀ t x,look gl t=some x→look M0 t=some x
 | [],st,st',gl,M0,ij,qp,sm,ob,h,_,_=>by
  simp only [M1,Option.some.injEq,Prod.mk.injEq] at h
  obtain ⟨rfl,rfl,rfl,-,-⟩:=h
  exact ⟨rfl,fun i τ o h=>by simp at h,rfl,fun _ _ h=>h⟩
 | o :: r,st,st',gl,M0,ij,qp,sm,ob,h,bH,hν=>by
  simp only [M1] at h
  split at h
  ·rename_i τ T3 Ic yJ tU
   split at h
   ·rename_i l1 st1 ZC Pl D5 wN
    simp only [Option.some.injEq,Prod.mk.injEq] at h
    obtain ⟨rfl,rfl,rfl,rfl,rfl⟩:=h
    obtain ⟨i1,i2,i3,i4⟩:=DE hT wN (Ob.cg bH).2 hν
    obtain ⟨s1,s2,s3,s4⟩:=KX hT tU (Ob.cg bH).1 (fun s e hl=>hν s e (i4 s e hl))
    refine ⟨by simp [i1],fun i τ' o' h1 h2=>?_,⟨s3,by rw [← St.Sb]; exact i3⟩,fun t x hx=>i4 t x (s4 t x hx)⟩
    cases i with
    | zero =>
     simp only [List.getElem?_cons_zero,Option.some.injEq] at h1 h2
     subst h1; subst h2
     exact ⟨s1,s2⟩
    | succ i=>exact i2 i τ' o' (by simpa using h1) (by simpa using h2)
   ·cases h
  ·cases h
theorem M8 {st:St} {κ:Nat} (h:KW st κ=true):iC st.eE κ:=by
 simp only [KW,Bool.and_eq_true,List.all_eq_true,Bool.not_eq_true'] at h
 obtain ⟨h1,h2⟩:=h
 have Xo:∀ l:List Nat,(l.any fun k=>Nat.beq k κ)=false→κ ∉ l:=fun l hl hc=>by
  have:(l.any fun k=>Nat.beq k κ)=true:=List.any_eq_true.2 ⟨κ,hc,Nat.beq_refl κ⟩
  rw [this] at hl
  cases hl
 refine ⟨fun t=>?_,?_,fun κ' b hb=>?_⟩
 ·simp only [St.eE,St.get]
  cases hl:look st.sl t with
  | none=>simp [AV.keys]
  | some x=>exact Xo _ (h1 (t,x) (gB hl))
 ·simp only [St.eE]
  cases hl:look st.lb κ with
  | none=>rfl
  | some b =>
   have:=(h2 (κ,b) (gB hl)).1
   rw [Nat.beq_refl] at this
   cases this
 ·exact Xo _ (h2 (κ',b) (gB hb)).2
theorem zN {keep:Option (List Nat)}:∀ {sl:List (Nat × AV)} {t:Nat} {x:AV},qN sl=true→look (vY keep sl) t=some x→look sl t=some x∧so x=true
 | [],t,x,_,h=>by simp [vY,look] at h
 | (k,y) :: r,t,x,hd,h=>by
  simp only [qN,Bool.and_eq_true,List.all_eq_true,Bool.not_eq_true'] at hd
  simp only [vY] at h
  rw [Bool.cond_eq_ite] at h
  by_cases hb:(so y&&Xn keep k)=true
  ·rw [if_pos hb] at h
   simp only [bq] at h
   simp only [Bool.and_eq_true] at hb
   rw [bq]
   split
   ·rename_i e
    simp only [e,if_true,Option.some.injEq] at h
    subst h
    exact ⟨rfl,hb.1⟩
   ·rename_i e
    simp only [e,if_false] at h
    exact zN hd.2 h
  ·rw [if_neg hb] at h
   obtain ⟨h1,h2⟩:=zN hd.2 h
   refine ⟨?_,h2⟩
   rw [bq]
   split
   ·rename_i e
    subst e
    have:=hd.1 (k,x) (gB h1)
    rw [Nat.beq_refl] at this
    cases this
   ·exact h1
theorem cE.vY {st:St} {keep:Option (List Nat)} (h:cE C st.eE a w S μ ν) (hd:qN st.sl=true) (ν':Nat→Bool):cE C (St.eE ⟨vY keep st.sl,st.lb⟩) a w S μ ν':=by
 refine ⟨h.tmps,h.defers,fun t=>?_,h.mem,h.inj,h.own,h.dG,h.fresh,h.bound,h.kept⟩
 simp only [St.eE,St.get]
 cases hl:look (Go.Av.vY keep st.sl) t with
 | none=>exact .any _
 | some x =>
  obtain ⟨h1,h2⟩:=zN hd hl
  have:=h.df t
  simp only [St.eE,St.get,h1] at this
  exact this.nu h2
def vZ (ops:Array Oper) (K:Array Value→Prop):Prop:=∀ (i:Nat) (o:Oper) (a:Act) (v:Value),ops[i]? = some o→K a.tmps→K (a.put o.dst v).tmps
theorem M9 {P:Program} {o:Oper} {a:Act} {w:World} {next:Act→World→Prop} {Q:Exit→Act→World→Prop} {K:Array Value→Prop} (hK:∀ (a:Act) (v:Value),K a.tmps→K (a.put o.dst v).tmps) (hq:∀ e a w,Q e a w→e=.normal) (ha:K a.tmps)
  (h:o.wp P a w next Q):o.wp P a w (fun a' w'=>next a' w'∧K a'.tmps) (fun e a' w'=>Q e a' w'∧K a'.tmps):=by
 unfold Oper.wp at *
 generalize (execOp a.eval o).run P w=r at *
 have no:¬ LetsOut Q:=fun ⟨_,_,q⟩=>by cases hq _ _ _ q
 cases r with
 | ok n w' =>
  cases n <;> simp only [Oper.upon] at h ⊢ <;>
   first
    | exact ⟨h,hK _ _ ha⟩
    | exact ⟨h,hK { a with defers:=_ :: a.defers } _ ha⟩
    | exact Calls.mono h (fun e Tj he=>by cases e <;> first | exact ⟨he,hK _ _ ha⟩ | exact absurd (hq _ _ _ he) (by simp) | exact absurd he no)
    | exact Rows.mono h (fun _ _ he=>⟨he,hK _ _ ha⟩)
 | halt x w'=>cases x <;> simp only [Oper.upon] at h ⊢ <;> first | exact h.elim | exact absurd (hq _ _ _ h) (by simp)
theorem qO {P:Program} {ops:Array Oper} {Q:Exit→Act→World→Prop} {K:Array Value→Prop} (hK:vZ ops K) (hq:∀ e a w,Q e a w→e=.normal):∀ (is:List Nat) (a:Act) (w:World),K a.tmps→wpOps P ops Q is a w→wpOps P ops (fun e a' w'=>Q e a' w'∧K a'.tmps) is a w
 | [],a,w,ha,h=>⟨h,ha⟩
 | i :: is,a,w,ha,h=>by
  simp only [wpOps] at h ⊢
  cases ho:ops[i]? with
  | none=>rw [ho] at h; exact qO hK hq is a w ha h
  | some o =>
   rw [ho] at h
   simp only at h ⊢
   split
   ·rename_i hw
    rw [if_pos hw] at h
    rcases h with h | ⟨_,_,_,q⟩
    ·exact .inl (Oper.wp_mono (fun a' w' hh=>qO hK hq is a' w' hh.2 hh.1) (M9 (fun a v=>hK i o a v ho) hq ha h))
    ·cases hq _ _ _ q
   ·rename_i hw
    rw [if_neg hw] at h
    exact qO hK hq is _ w (hK i o a undef ho ha) h
theorem yp {P:Program} {md:Region.Mode} {ops:Array Oper} {Q:Exit→Act→World→Prop} {K:Array Value→Prop} (hK:vZ ops K) (hq:∀ e a w,Q e a w→e=.normal):∀ (n:Nat) (listed:Array Bool) (a:Act) (w:World),K a.tmps→wpAny P md ops Q n listed a w→wpAny P md ops (fun e a' w'=>Q e a' w'∧K a'.tmps) n listed a w
 | 0,listed,a,w,ha,h=>⟨h.1,h.2,ha⟩
 | n+1,listed,a,w,ha,h=>by
  refine ⟨fun hr=>⟨h.1 hr,ha⟩,fun i hi=>?_⟩
  have h:=h.2 i hi
  unfold wpOp at *
  split
  ·rename_i ho
   simp only [ho] at h
   exact yp hK hq n _ a w ha h
  ·rename_i o ho
   simp only [ho] at h
   split
   ·rename_i hw
    rw [if_pos hw] at h
    rcases h with h | ⟨_,_,_,q⟩
    ·exact .inl (Oper.wp_mono (fun a' w' hh=>yp hK hq n _ a' w' hh.2 hh.1) (M9 (fun a v=>hK i o a v ho) hq ha h))
    ·cases hq _ _ _ q
   ·rename_i hw
    rw [if_neg hw] at h
    exact yp hK hq n _ _ w (hK i o a undef ho ha) h
def jQ (ops:Array Oper):Bool:=ops.toList.all fun o=>match o.op with | .defer _=>false | _=>true
theorem ri {ops:Array Oper} (h:jQ ops=true) {i:Nat} {o:Oper} (ho:ops[i]? = some o):∀ c,o.op≠.defer c:=by
 simp only [jQ,List.all_eq_true] at h
 have:=h o (by have:=Array.getElem?_eq_some_iff.1 ho; obtain ⟨hi,rfl⟩:=this; simp)
 intro c hc
 rw [hc] at this
 cases this
theorem FX {P:Program} {o:Oper} {a:Act} {w:World} {next next':Act→World→Prop} {Q:Exit→Act→World→Prop} {l n:Nat} (hd:∀ c,o.op≠.defer c) (hn:∀ a w,next a w→next' a w) (hq:∀ e a w,Q e a w→e=.normal) (h:o.wp P a w next Q):o.wpIn (Fence.wide.inRound l) n P a w next' Q:=by
 refine ⟨fun _ _=>trivial,?_⟩
 rw [Oper.semAt_eq _ _ _ hd]
 unfold Oper.wp at h
 generalize (execOp a.eval o).run P w=r at *
 have no:¬ LetsOut Q:=fun ⟨_,_,q⟩=>by cases hq _ _ _ q
 have hdp:((Fence.wide.inRound l).depth.isSome=true→1≤n):=fun h=>by simp [Fence.wide] at h
 cases r with
 | ok x w' =>
  cases x <;> simp only [Oper.upon,Oper.uponIn] at h ⊢ <;>
   first
    | exact hn _ _ h
    | exact ⟨hdp,(CallsIn.inRound l (callsIn_wide.2 h)).mono (fun e Tj he=>by cases e <;> first | exact hn _ _ he | exact he)⟩
    | exact ⟨hdp,fun c cs _=>by obtain ⟨v,Tj,q,s⟩:=h c cs; exact ⟨v,Tj,hn _ _ q,stepsIn_wide.2 s⟩⟩
 | halt x w'=>cases x <;> simp only [Oper.upon,Oper.uponIn] at h ⊢ <;> exact h
theorem sE {P:Program} {ops:Array Oper} {Q:Exit→Act→World→Prop} {l n:Nat} (hd:jQ ops=true) (hq:∀ e a w,Q e a w→e=.normal):∀ (is:List Nat) (a:Act) (w:World),wpOps P ops Q is a w→wpOpsIn (Fence.wide.inRound l) n P ops Q is a w
 | [],a,w,h=>h
 | i :: is,a,w,h=>by
  simp only [wpOps,wpOpsIn] at h ⊢
  cases ho:ops[i]? with
  | none=>rw [ho] at h; exact sE hd hq is a w h
  | some o =>
   rw [ho] at h
   simp only at h ⊢
   split
   ·rename_i hw
    rw [if_pos hw] at h
    rcases h with h | ⟨_,_,_,q⟩
    ·exact FX (ri hd ho) (fun a' w'=>sE hd hq is a' w') hq h
    ·cases hq _ _ _ q
   ·rename_i hw
    rw [if_neg hw] at h
    exact ⟨fun _ _=>trivial,sE hd hq is _ w h⟩
theorem sF {P:Program} {md:Region.Mode} {ops:Array Oper} {Q:Exit→Act→World→Prop} {l m:Nat} (hd:jQ ops=true) (hq:∀ e a w,Q e a w→e=.normal):∀ (n:Nat) (listed:Array Bool) (a:Act) (w:World),wpAny P md ops Q n listed a w→wpAnyIn (Fence.wide.inRound l) m P md ops Q n listed a w
 | 0,listed,a,w,h=>h
 | n+1,listed,a,w,h=>by
  refine ⟨h.1,fun i hi=>?_⟩
  have h:=h.2 i hi
  unfold wpOp at h
  unfold wpOpIn
  split
  ·rename_i ho
   simp only [ho] at h
   exact sF hd hq n _ a w h
  ·rename_i o ho
   simp only [ho] at h
   split
   ·rename_i hw
    rw [if_pos hw] at h
    rcases h with h | ⟨_,_,_,q⟩
    ·exact FX (ri hd ho) (fun a' w'=>sF hd hq n _ a' w') hq h
    ·cases hq _ _ _ q
   ·rename_i hw
    rw [if_neg hw] at h
    exact ⟨fun _ _=>trivial,sF hd hq n _ _ w h⟩
theorem Yd {P:Program} {id:Nat} {ops:Array Oper} {draw:Bool} {Q:Exit→Act→World→Prop} {K:Array Value→Prop} {a:Act} {w:World} (hm:P.follows .mixedOrders=true) (hK:vZ ops K) (hq:∀ e a w,Q e a w→e=.normal) (ha:K a.tmps)
  (h:(draw=false∧wpOps P ops Q (List.range ops.size) a w)∨(draw=true∧wpAny P .any ops Q ops.size (Array.replicate ops.size false) a { w with drawn:=w.drawn+1 })) (b:Frame) (hb:b.roundOf=none∨jQ ops=true) (k:List Item) (cs:List Frame) :
  ∃ a' w',Q .normal a' w'∧K a'.tmps∧Steps P (lone (b.atR a (.code (.region id ops draw) :: k)) cs w) (lone (b.atR a' k) cs w'):=by
 have D4:∀ e a w,(Q e a w∧K a.tmps)→e=.normal:=fun e a w h=>hq e a w h.1
 have h':(draw=false∧wpOps P ops (fun e a' w'=>Q e a' w'∧K a'.tmps) (List.range ops.size) a w)∨(draw=true∧wpAny P .any ops (fun e a' w'=>Q e a' w'∧K a'.tmps) ops.size (Array.replicate ops.size false) a { w with drawn:=w.drawn+1 }):=by
  rcases h with ⟨e,h⟩ | ⟨e,h⟩
  ·exact .inl ⟨e,qO hK hq _ a w ha h⟩
  ·exact .inr ⟨e,yp hK hq _ _ a _ ha h⟩
 cases hr:b.roundOf with
 | none =>
  have hw:(Code.region id ops draw).wp P (fun e a' w'=>Q e a' w'∧K a'.tmps) a w:=by
   rcases h' with ⟨rfl,h2⟩ | ⟨rfl,h2⟩
   ·exact wp_region h2
   ·exact wp_region_any hm h2
  obtain ⟨e,a',w',⟨q1,q2⟩,T7⟩:=hw b k cs
  have he:=hq _ _ _ q1
  subst he
  refine ⟨a',w',q1,q2,?_⟩
  rw [Frame.atR_of_none hr,Frame.atR_of_none hr]
  exact T7
 | some l =>
  have hd:jQ ops=true:=hb.resolve_left (by rw [hr]; simp)
  have hw:(Code.region id ops draw).wpIn (Fence.wide.inRound l) 0 P (fun e a' w'=>Q e a' w'∧K a'.tmps) a w:=by
   rcases h' with ⟨rfl,h2⟩ | ⟨rfl,h2⟩
   ·exact wpIn_region (sE hd D4 _ a w h2)
   ·exact wpIn_region_any hm (sF hd D4 _ _ a _ h2)
  obtain ⟨e,a',w',⟨q1,q2⟩,T7⟩:=hw b k cs hr trivial (room_wide _)
  have he:=hq _ _ _ q1
  subst he
  exact ⟨a',w',q1,q2,StepsIn.steps T7⟩
theorem zO {T:List (Nat × TI)} (hT:la C.P T) (hm:C.P.follows .mixedOrders=true) {ops:Array Oper} {draw:Bool} {keep:Option (List Nat)} {st st':St} {ij:List yn} {ob:Ob}
  (h:mR C.P T C.nt ops draw keep st ij=some (st',ob)) (bH:ob.den) (hs:iH C st a w):(draw=false∧wpOps C.P ops (fun e a' w'=>e=.normal∧iH C st' a' w') (List.range ops.size) a w)∨(draw=true∧wpAny C.P .any ops (fun e a' w'=>e=.normal∧iH C st' a' w') ops.size (Array.replicate ops.size false) a { w with drawn:=w.drawn+1 }):=by
 unfold mR at h
 split at h
 ·rename_i sm st1 gl yJ Yc
  rw [Bool.cond_eq_ite] at h
  by_cases hb:(T4 draw ops sm&&sm.all (fun τ=>τ.created.all (KW st))&&qN st1.sl)=true
  case neg=>rw [if_neg hb] at h; cases h
  case pos =>
   rw [if_pos hb] at h
   simp only [Option.some.injEq,Prod.mk.injEq] at h
   obtain ⟨rfl,rfl⟩:=h
   simp only [Bool.and_eq_true] at hb
   obtain ⟨⟨Mp,tR⟩,acf⟩:=hb
   let ν:Nat→Bool:=fun s=>(look gl s).getD false
   have hν:∀ s e,look gl s=some e→ν s=e:=fun s e hl=>by simp [ν,hl]
   obtain ⟨i1,i2,i3,_⟩:=DE (C:=C) (ν:=ν) hT Yc bH hν
   obtain ⟨S,μ,cG⟩:=hs
   have hfa:AG sm st.eE:=fun τ hτ κ hκ=>by
    simp only [List.all_eq_true] at tR
    exact M8 (tR τ hτ κ hκ)
   have hQ:∀ a' w' S' μ',cE C st1.eE a' w' S' μ' ν→(Exit.normal=.normal∧iH C ⟨Go.Av.vY keep st1.sl,st1.lb⟩ a' w'):=fun a' w' S' μ' wO=>⟨rfl,S',μ',fun ν'=>wO.vY acf ν'⟩
   have hlen:sm.length=ops.size:=by rw [i1]; simp
   cases draw with
   | false =>
    refine .inl ⟨rfl,?_⟩
    have:=JQ (C:=C) (ν:=ν) (ops:=ops) (Q:=fun e a' w'=>e=.normal∧iH C ⟨Go.Av.vY keep st1.sl,st1.lb⟩ a' w') sm 0 st.eE st1.eE a w S μ (by omega) (fun i τ o h1 h2=>i2 i τ o h1 (by simpa using h2)) i3 hfa Mp (cG ν) hQ
    rw [hlen] at this
    rw [List.range_eq_range']
    exact this
   | true =>
    refine .inr ⟨rfl,?_⟩
    have hw':cE C st.eE a { w with drawn:=w.drawn+1 } S μ ν:=(cG ν).world (fun _ x=>x) (fun _ x=>.inl x) ⟨rfl,rfl,rfl,Nat.le_refl _,fun _ _ _=>rfl⟩
    have Tw:((List.range ops.size).map fun i=>sm.getD i ⟨[],none,.any,[],[],[],[]⟩)=sm:=by
     apply List.ext_getElem?
     intro i
     by_cases hi:i < ops.size
     ·simp [hi,List.getD,List.getElem?_eq_getElem (by omega:i < sm.length)]
     ·simp [hi,List.getElem?_eq_none (by omega:sm.length≤i)]
    refine RM (C:=C) (ν:=ν) sm Mp (fun i τ o h1 h2=>i2 i τ o h1 (by simpa using h2)) st1.eE hQ ops.size (List.range ops.size) _ st.eE a _ S μ (by simp) List.pairwise_lt_range (by simp) (fun i=>?_) (by rw [Tw]; exact i3) (by rw [Tw]; exact hfa) ?_ (fun m o hm hl=>?_) hw'
    ·simp only [List.mem_range]
     refine ⟨fun hi=>⟨hi,by simp [Array.getD,hi]⟩,fun hi=>hi.1⟩
    ·rw [Tw]
     have aan:Mo ops sm=true:=Mp
     simp only [Mo,Bool.and_eq_true] at aan
     exact aan.1.2
    ·exfalso
     have zo:m < ops.size:=(Array.getElem?_eq_some_iff.1 hm).1
     simp [Array.getD,zo] at hl
 ·cases h
end
def Cx.TD (C:Cx) (q:Nat):Prop:=C.T0 q∨({ target:=.collected q,args:=#[] }:Deferred)∈C.dl
def KY (C:Cx) (res:AV) (cz:List (Nat × ba)) (e:Ending) (w':World):Prop:=∃ v S' μ',e=.returned v∧MN C.w0 C.S0 C.TD res cz v S' μ' w'
structure Goal where
 P:Program
 T:List (Nat × TI)
 nt:Nat
 f:FuncId
 fn:Func
 res:AV
 cz:List (Nat × ba)
 md:Nat
 pr:List Nat
 tm:Array Value
 Z:Cx→Frame→List Frame→Machine→Prop
 zs:∀ C b cs m m',Steps P m m'→Z C b cs m'→Z C b cs m
def Goal.kept (g:Goal) (t:Array Value):Prop:=∀ u,u∈g.pr→t.getD u undef=g.tm.getD u undef
def Na (g:Goal) (C:Cx) (todo:List Item) (a:Act) (w:World):Prop :=
 ∀ (b:Frame) (cs:List Frame),b.fn=g.f→b.kind=.normal→(b.roundOf=none↔g.md≠1)→g.Z C b cs (lone (b.atR a todo) cs w)
def G (g:Goal) (todo:List Item) (st:St):Prop:=∀ C:Cx,C.P=g.P→C.nt=g.nt→∀ a w,g.kept a.tmps→iH C st a w→Na g C todo a w
def HW (st st':St):Prop:=∀ C a w,iH C st a w→iH C st' a w
def qd (l:List Nat) (ops:Array Oper):Bool:=l.all fun t=>ops.toList.all fun o=>match o.dst with | some d=>!Nat.beq d t | none=>true
def D8 (md:Nat) (pr:List Nat) (ops:Array Oper):Bool:=qd pr ops&&(!Nat.beq md 1||jQ ops)
section
variable {g : Goal} {k : List Item} {st st' : St}
theorem Na.step {C:Cx} {todo FY:List Item} {a a':Act} {w w':World} (h:∀ (b:Frame) (cs:List Frame),Steps g.P (lone (b.atR a todo) cs w) (lone (b.atR a' FY) cs w')) (hr:Na g C FY a' w'):Na g C todo a w :=
 fun b cs h1 h2 h3=>g.zs C b cs _ _ (h b cs) (hr b cs h1 h2 h3)
theorem G.le (h:HW st st') (hg:G g k st'):G g k st:=fun C h1 h2 a w hk hs=>hg C h1 h2 a w hk (h C a w hs)
theorem G.seq {x y:Code} (h:G g (.code x :: .code y :: k) st):G g (.code (.seq x y) :: k) st:=fun C h1 h2 a w hk hs=>(h C h1 h2 a w hk hs).step fun _ _=>.one stepR_seq
theorem G.skip (h:G g k st):G g (.code .skip :: k) st:=fun C h1 h2 a w hk hs=>(h C h1 h2 a w hk hs).step fun _ _=>.one stepR_skip
theorem G.label {l:Nat} (h:G g k st):G g (.code (.label l) :: k) st:=fun C h1 h2 a w hk hs=>(h C h1 h2 a w hk hs).step fun _ _=>.one stepR_label
theorem G.block {id:Nat} {c:Code} (h:G g (.code c :: .inBlock id :: k) st):G g (.code (.block id c) :: k) st:=fun C h1 h2 a w hk hs=>(h C h1 h2 a w hk hs).step fun _ _=>.one stepR_block
theorem G.inBlock {id:Nat} (h:G g k st):G g (.inBlock id :: k) st:=fun C h1 h2 a w hk hs=>(h C h1 h2 a w hk hs).step fun _ _=>.one stepR_inBlock
theorem G.inLoop {c:Code} (h:G g (.code c :: .inLoop c :: k) st):G g (.inLoop c :: k) st:=fun C h1 h2 a w hk hs=>(h C h1 h2 a w hk hs).step fun _ _=>.one stepR_inLoop
theorem G.exit {id:Nat} {k':List Item} (he:exitTo id k=some k') (h:G g k' st):G g (.code (.exit id) :: k) st:=fun C h1 h2 a w hk hs=>(h C h1 h2 a w hk hs).step fun _ _=>.one (stepR_exit he)
theorem G.cond {c:Nat} {x y:Code} {e:Bool} (hc:St.get st.sl c=.d (.v (.bool e))) (ht:e=true→G g (.code x :: k) st) (hf:e=false→G g (.code y :: k) st):G g (.code (.cond (.tmp c) x y) :: k) st:=by
 intro C h1 h2 a w hk hs
 obtain ⟨S,μ,cG⟩:=hs
 have hr:=(cG fun _=>false).df c
 simp only [St.eE,hc] at hr
 have he:a.eval (.tmp c)=.bool e:=lu hr
 cases e with
 | true=>exact (ht rfl C h1 h2 a w hk ⟨S,μ,cG⟩).step fun _ _=>.one (by simpa using stepR_cond (x:=x) (y:=y) he)
 | false=>exact (hf rfl C h1 h2 a w hk ⟨S,μ,cG⟩).step fun _ _=>.one (by simpa using stepR_cond (x:=x) (y:=y) he)
theorem G.aao {x y:Code} {e:Bool} (h:G g (.code (bif e then x else y) :: k) st):G g (.code (.cond (.const (.bool e)) x y) :: k) st:=by
 intro C h1 h2 a w hk hs
 have he:a.eval (.const (.bool e))=.bool e:=rfl
 cases e with
 | true=>exact (h C h1 h2 a w hk hs).step fun _ _=>.one (by simpa using stepR_cond (x:=x) (y:=y) he)
 | false=>exact (h C h1 h2 a w hk hs).step fun _ _=>.one (by simpa using stepR_cond (x:=x) (y:=y) he)
theorem Goal.aap {ops:Array Oper} (h:D8 g.md g.pr ops=true):vZ ops g.kept:=by
 intro i o a v ho hk u hu
 unfold D8 at h
 simp only [Bool.and_eq_true,qd,List.all_eq_true] at h
 have h1:=h.1 u hu o (by obtain ⟨hi,rfl⟩:=Array.getElem?_eq_some_iff.1 ho; simp)
 rw [← hk u hu]
 cases hd:o.dst with
 | none=>rfl
 | some d =>
  rw [hd] at h1
  exact cw _ _ _ _ (fun e=>by subst e; simp at h1)
theorem G.ops (hm:g.P.follows .mixedOrders=true) {C:Cx} {id:Nat} {ops:Array Oper} {draw:Bool} {a:Act} {w:World} {Q:Act→World→Prop} (hr:D8 g.md g.pr ops=true) (ha:g.kept a.tmps)
  (h:(draw=false∧wpOps g.P ops (fun e a' w'=>e=.normal∧Q a' w') (List.range ops.size) a w)∨(draw=true∧wpAny g.P .any ops (fun e a' w'=>e=.normal∧Q a' w') ops.size (Array.replicate ops.size false) a { w with drawn:=w.drawn+1 }))
  (hg:∀ a' w',g.kept a'.tmps→Q a' w'→Na g C k a' w'):Na g C (.code (.region id ops draw) :: k) a w:=by
 intro b cs h1 h2 h3
 obtain ⟨a',w',q1,q2,q3⟩:=Yd (id:=id) hm (Goal.aap hr) (fun e a w h=>h.1) ha h b (by
  by_cases hp:g.md=1
  ·unfold D8 at hr; simp only [Bool.and_eq_true,hp] at hr; exact .inr (by simpa using hr.2)
  ·exact .inl (h3.2 hp)) k cs
 exact g.zs C b cs _ _ q3 (hg a' w' q2 q1.2 b cs h1 h2 h3)
theorem G.region (hT:la g.P g.T) (hm:g.P.follows .mixedOrders=true) {id:Nat} {ops:Array Oper} {draw:Bool} {keep:Option (List Nat)} {ij:List yn} {ob:Ob} (hr:D8 g.md g.pr ops=true) (h:mR g.P g.T g.nt ops draw keep st ij=some (st',ob)) (bH:ob.den) (hg:G g k st'):G g (.code (.region id ops draw) :: k) st:=by
 intro C h1 h2 a w hk hs
 have hw:=zO (C:=C) (T:=g.T) (by rw [h1]; exact hT) (by rw [h1]; exact hm) (by rw [h1,h2]; exact h) bH hs
 rw [h1] at hw
 exact G.ops hm hr hk hw (fun a' w' eW wO=>hg C h1 h2 a' w' eW wO)
theorem G.loop {ι:Type} (I:ι→St) (m:ι→Nat) {c:Code} (i0:ι) (h0:HW st (I i0)) (hr:∀ i,(∀ j,m j < m i→G g (.inLoop c :: k) (I j))→G g (.code c :: .inLoop c :: k) (I i)):G g (.code (.loop c) :: k) st:=by
 have key:∀ n i,m i=n→G g (.code c :: .inLoop c :: k) (I i):=by
  intro n
  induction n using Nat.strongRecOn with
  | _ n ih =>
   intro i hi
   exact hr i (fun j hj=>.inLoop (ih (m j) (hi ▸ hj) j rfl))
 intro C h1 h2 a w hk hs
 exact (key _ i0 rfl C h1 h2 a w hk (h0 C a w hs)).step fun _ _=>.one stepR_loop
end
def sG (T:List (Nat × TI)) (st:St):List ResultVar→Option (List AV × List (Nat × ba) × Ob)
 | []=>some ([],[],.tt)
 | .tmp t :: r=>(match sG T st r with | some (l,ro,ob)=>some (St.get st.sl t :: l,ro,ob) | none=>none)
 | .cell t ty :: r=>(match look T ty,mP st.lb (St.get st.sl t),sG T st r with
  | some i,some (cs,Zw,yJ),some (l,ro,ob)=>(match Ft i cs with | some v=>some (v :: l,Zw++ro,yJ.and ob) | none=>none)
  | _,_,_=>none)
section
variable {C : Cx} {a : Act} {w : World} {S : Nat → Prop} {μ : Mu} {ν : Nat → Bool}
def T9:List Value→Value
 | [v]=>v
 | l=>.tuple l.toArray
def Cj (tmps:Array Value):ResultVar→Sem Value
 | .tmp t=>pure (tmps.getD t undef)
 | .cell a t=>do loadVar t (← asAddr (tmps.getD a undef))
theorem od {T:List (Nat × TI)} (hT:la C.P T) {st:St} (hs:cE C st.eE a w S μ ν):∀ {rs:List ResultVar} {l:List AV} {ro:List (Nat × ba)} {ob:Ob},sG T st rs=some (l,ro,ob)→ob.den→∃ vs,(rs.mapM (Cj a.tmps)).run C.P w=.ok vs w∧cP w S μ ν l vs
 | [],l,ro,ob,h,_=>by
  simp only [sG,Option.some.injEq,Prod.mk.injEq] at h
  obtain ⟨rfl,-,-⟩:=h
  exact ⟨[],by simp,rfl,fun i hi=>absurd hi (by simp)⟩
 | .tmp t :: r,l,ro,ob,h,bH=>by
  simp only [sG] at h
  split at h
  ·rename_i l' JX AE hr
   simp only [Option.some.injEq,Prod.mk.injEq] at h
   obtain ⟨rfl,rfl,rfl⟩:=h
   obtain ⟨vs,h1,h2⟩:=od hT hs hr bH
   refine ⟨a.tmps.getD t undef :: vs,by simp [List.mapM_cons,Cj,h1],by simp [h2.1],fun i hi=>?_⟩
   cases i with
   | zero =>
    have:=hs.df t
    simp only [St.eE] at this
    simpa using this
   | succ i=>simpa using h2.2 i (by simpa using hi)
  ·cases h
 | .cell t ty :: r,l,ro,ob,h,bH=>by
  simp only [sG] at h
  split at h
  ·rename_i i cs Zw yJ l' JX AE hi hc hr
   split at h
   ·rename_i v hv
    simp only [Option.some.injEq,Prod.mk.injEq] at h
    obtain ⟨rfl,rfl,rfl⟩:=h
    obtain ⟨vs,h1,h2⟩:=od hT hs hr (Ob.cg bH).2
    have KG:=Dx hc hs (fun p hp=>DD hc p hp) (Ob.cg bH).1 (hs.df t)
    obtain ⟨b,o,hp,KS⟩:=KG
    obtain ⟨u,h3,h4⟩:=JT (P:=C.P) (hT _ _ hi) hv (⟨b,o,hp,KS⟩:KF w S μ ν cs _)
    have h5:(Cj a.tmps (.cell t ty)).run C.P w=.ok u w:=by
     rw [hp] at h3
     simp only [Cj,hp,asAddr,Sem.run_bind,Sem.run_pure,Result.andThen_ok]
     simpa [Instr.loadAt,Instr.sureAddr] using h3
    refine ⟨u :: vs,by simp [List.mapM_cons,h5,h1],by simp [h2.1],fun i hi=>?_⟩
    cases i with
    | zero=>simpa using h4
    | succ i=>simpa using h2.2 i (by simpa using hi)
   ·cases h
  ·cases h
theorem Pu (fn:Func) (tmps:Array Value):results fn tmps=(do let vs ← fn.results.mapM (Cj tmps); pure (if h:vs.size=1 then vs[0] else .tuple vs):Sem Value):=by
 unfold results
 congr 2
theorem sH {fn:Func} {vs:List Value} (h:(fn.results.toList.mapM (Cj a.tmps)).run C.P w=.ok vs w):(results fn a.tmps).run C.P w=.ok (T9 vs) w:=by
 rw [Pu,Array.mapM_eq_mapM_toList]
 simp only [Sem.run_bind,Sem.run_map,h,Result.andThen_ok,Sem.run_pure]
 congr 1
 clear h
 match vs with
 | []=>rfl
 | [v]=>rfl
 | _ :: _ :: _=>rfl
end
def sq (x y:AV):Prop:=∀ w S μ ν v,Rel w S μ ν x v→Rel w S μ ν y v
theorem sq.rfl' {x:AV}:sq x x:=fun _ _ _ _ _ h=>h
theorem sq.d {x y:D} (h:pQ x y):sq (.d x) (.d y):=fun w S _ _ v hr=>.d (h w S v (gq.1 hr))
def pv:List AV→AV
 | [x]=>x
 | l=>.eD l
theorem Ck {w:World} {S:Nat→Prop} {μ:Mu} {ν:Nat→Bool} {l:List AV} {vs:List Value} (h:cP w S μ ν l vs):Rel w S μ ν (pv l) (T9 vs):=by
 match l,vs,h with
 | [x],[v],h=>simpa [pv,T9] using h.2 0 (by simp)
 | [],[],h=>exact .eD rfl (fun i hi=>absurd hi (by simp))
 | x :: y :: r,u :: v :: s,h=>exact .eD (by simpa using h.1) (fun i hi=>by rw [ct]; simpa using h.2 i hi)
 | [],_ :: _,h=>have:=h.1; simp at this
 | [_],[],h=>have:=h.1; simp at this
 | [_],_ :: _ :: _,h=>have:=h.1; simp at this
 | _ :: _ :: _,[],h=>have:=h.1; simp at this
 | _ :: _ :: _,[_],h=>have:=h.1; simp at this
theorem zP {P:Program} {cs:List Frame}:∀ (l:List Deferred) (fr:Frame) (w:World),fr.mode=.returning→fr.defers=l→l.Nodup→(∀ d,d∈l→∃ q,d = { target:=.collected q,args:=#[] }∧w.heap[q]? = some (.deferred (some []))) →
  ∃ w',Steps P (lone fr cs w) (lone { fr with defers:=[] } cs w')∧Kept w w' (fun q=>({ target:=.collected q,args:=#[] }:Deferred)∈l)
 | [],fr,w,_,hd,_,_=>⟨w,by rw [show ({ fr with defers:=[] }:Frame)=fr by rw [← hd]]; exact .refl _ _,Kept.refl _ _⟩
 | d :: l,fr,w,hm,hd,Xd,hl=>by
  obtain ⟨q,rfl,hq⟩:=hl d (by simp)
  have h1:=step_collected (P:=P) (cs:=cs) (d:={ target:=.collected q,args:=#[] }) (by rw [hm]; simp) hd rfl (run_takeDeferred hq)
  have hk:Kept w (w.putObj q (.deferred none)) (fun b=>b=q):=⟨rfl,rfl,rfl,by simp [World.putObj],fun b _ hb=>World.putObj_heap_other hb⟩
  obtain ⟨w',h2,h3⟩:=zP l { fr with defers:=[]++l } (w.putObj q (.deferred none)) hm rfl (List.nodup_cons.1 Xd).2 (fun d hd'=>by
   obtain ⟨p,rfl,hp⟩:=hl d (by simp [hd'])
   refine ⟨p,rfl,?_⟩
   have qW:p≠q:=fun e=>(List.nodup_cons.1 Xd).1 (e ▸ hd')
   rw [World.putObj_heap_other qW]; exact hp)
  refine ⟨w',.head h1 h2,(hk.vV (fun b hb=>by subst hb; simp)).trans h3 (fun b _ hb=>by simp [hb])⟩
def Cx.shut (C:Cx):Cx:={ C with T0:=C.TD,Zp:=fun b hb h=>h.elim (C.Zp b hb) (fun h=>(by obtain ⟨q,e,_,_,hq⟩:=C.XO _ h; cases e; exact hq hb)),dl:=[],XO:=fun d h=>(by cases h),Xc:=List.nodup_nil }
theorem cD.px {w:World} {S:Nat→Prop} {μ:Mu} {b:ba} {g cap:Nat} {o:Option (List Deferred)} (h:cD w S μ b g cap):w.heap[g]?≠some (.deferred o):=by
 cases b with
 | box cs=>obtain ⟨cur,e,hg,_⟩:=h; rw [hg]; simp
 | row e k n f=>obtain ⟨cur,hg,_⟩:=h; rw [hg]; simp
 | mp n f=>obtain ⟨cur,hg,_⟩:=h; rw [hg]; simp
 | it mk n seen=>obtain ⟨mg,c,_,hg,_⟩:=h; rw [hg]; simp
 | mx=>obtain ⟨m,_,cur,hg,_⟩:=h; rw [hg]; simp
theorem cE.Sc {C:Cx} {A:M} {a:Act} {w:World} {S:Nat→Prop} {μ:Mu} {ν:Nat→Bool} (h:cE C A a w S μ ν):∀ d,d∈C.dl→∃ q,d = { target:=.collected q,args:=#[] }∧w.heap[q]? = some (.deferred (some []))∧¬ S q:=by
 intro d hd
 obtain ⟨q,e,h1,h2,h3⟩:=C.XO d hd
 have di:=(Array.getElem?_eq_some_iff.1 h1).1
 refine ⟨q,e,(h.kept.block q di h2).trans h1,fun hs=>?_⟩
 rcases h.fresh q hs with h4 | h4 | h4
 ·exact h3 h4
 ·omega
 ·exact h2 h4
theorem cE.shut {C:Cx} {A:M} {a:Act} {w w':World} {S:Nat→Prop} {μ:Mu} {ν:Nat→Bool} (h:cE C A a w S μ ν) (hk:Kept w w' (fun q=>({ target:=.collected q,args:=#[] }:Deferred)∈C.dl)):cE C.shut A { a with defers:=[] } w' S μ ν:=by
 have hw:∀ b,S b→w'.heap[b]? = w.heap[b]?:=fun b hb=>hk.block b (h.bound b hb) (fun hd=>by
  obtain ⟨q,e,_,hq⟩:=h.Sc _ hd
  cases e
  exact hq hb)
 refine ⟨h.tmps,rfl,fun t=>(h.df t).mono (fun _ x=>x) hw (fun _ _ e=>e),fun κ b hb=>?_,h.inj,fun κ b g c h1 h2=>?_,h.dG,fun b hb=>?_,fun b hb=>Nat.lt_of_lt_of_le (h.bound b hb) hk.size,?_⟩
 ·have hm:=h.mem κ b hb
  refine hm.mono (fun _ x=>x) hw (fun _ _ e=>e) (fun g c e=>?_)
  rw [e] at hm
  refine ⟨hk.block g hm.at.lt (fun hd=>?_),hm.at.not⟩
  obtain ⟨q,e',hq,_⟩:=h.Sc _ hd
  cases e'
  exact hm.at.px hq
 ·rcases h.own κ b g c h1 h2 with q | q
  ·exact .inl q
  ·exact .inr (.inl q)
 ·rcases h.fresh b hb with q | q | q
  ·exact .inl q
  ·exact .inr (.inl q)
  ·exact .inr (.inr (.inl q))
 ·exact (h.kept.vV (fun _ x=>.inl x)).trans hk (fun b _ hb=>.inr hb)
structure Goal.Vw (g:Goal):Prop where
 md:g.md=0
 fin:∀ C b cs m,(∃ e w' fr,KY C g.res g.cz e w'∧Comes g.P m (lone fr cs w') e∧fr.fn=g.f∧fr.leaving g.P w' e)→g.Z C b cs m
theorem Goal.Vw.out {g:Goal} (hg:g.Vw) (hf:g.P.funcs[g.f]? = some g.fn) {C:Cx} (h1:C.P=g.P) {st:St} {a:Act} {w:World} (hs:iH C st a w) (hp:∀ w',iH C.shut st { a with defers:=[] } w'→∃ v,(results g.fn a.tmps).run C.P w'=.ok v w'∧KY C.shut g.res g.cz (.returned v) w')
  {todo:List Item} (kE:∀ (b:Frame) (cs:List Frame),b.roundOf=none→Steps g.P (lone (b.atR a todo) cs w) (lone { b.atR a todo with mode:=.returning } cs w)):Na g C todo a w:=by
 intro b cs HX wI Fb
 refine hg.fin C b cs _ ?_
 obtain ⟨S,μ,cG⟩:=hs
 have h0:=cG fun _=>false
 have TM:=Fb.2 (by rw [hg.md]; decide)
 obtain ⟨w',q1,q2⟩:=zP (P:=g.P) (cs:=cs) C.dl { b.atR a todo with mode:=.returning } w rfl h0.defers C.Xc (fun d hd=>let ⟨q,e,h,_⟩:=h0.Sc d hd; ⟨q,e,h⟩)
 obtain ⟨v,r1,r2⟩:=hp w' ⟨S,μ,fun ν=>(cG ν).shut q2⟩
 obtain ⟨v',S',μ',e,B⟩:=r2
 refine ⟨.returned v,w',_,⟨v',S',μ',e,B.QT (fun q hq=>?_)⟩,Steps.trans (kE b cs TM) q1,HX,rfl,rfl,wI,g.fn,?_,?_⟩
 ·rcases hq with hq | hq
  ·exact hq
  ·cases hq
 ·show g.P.funcs[b.fn]? = _
  rw [HX]; exact hf
 ·rw [← h1]; exact r1
def Q2 (C:Cx) (res:AV) (cz:List (Nat × ba)) (kD:List (Nat × Nat)) (tm:Array Value) (e:Ending) (w':World):Prop:=∃ v S' μ',e=.returned v∧MN C.w0 C.S0 C.TD res cz v S' μ' w'∧∀ p,p∈kD→∀ ν,Rel w' S' μ' ν (.ptr p.2 0) (tm.getD p.1 undef)
structure Goal.Pv (g:Goal) (kD:List (Nat × Nat)):Prop where
 md:g.md=3
 pr:∀ p,p∈kD→p.1∈g.pr
 fin:∀ C b cs m,(∃ e w' fr,Q2 C g.res g.cz kD g.tm e w'∧Comes g.P m (lone fr cs w') e∧fr.fn=g.f∧fr.leaving g.P w' e)→g.Z C b cs m
theorem Goal.Pv.out {g:Goal} {kD:List (Nat × Nat)} (hg:g.Pv kD) (hf:g.P.funcs[g.f]? = some g.fn) {C:Cx} (h1:C.P=g.P) {st:St} {a:Act} {w:World} (hs:iH C st a w) (hp:∀ w',iH C.shut st { a with defers:=[] } w'→∃ v,(results g.fn a.tmps).run C.P w'=.ok v w'∧Q2 C.shut g.res g.cz kD g.tm (.returned v) w')
  {todo:List Item} (kE:∀ (b:Frame) (cs:List Frame),b.roundOf=none→Steps g.P (lone (b.atR a todo) cs w) (lone { b.atR a todo with mode:=.returning } cs w)):Na g C todo a w:=by
 intro b cs HX wI Fb
 refine hg.fin C b cs _ ?_
 obtain ⟨S,μ,cG⟩:=hs
 have h0:=cG fun _=>false
 have TM:=Fb.2 (by rw [hg.md]; decide)
 obtain ⟨w',q1,q2⟩:=zP (P:=g.P) (cs:=cs) C.dl { b.atR a todo with mode:=.returning } w rfl h0.defers C.Xc (fun d hd=>let ⟨q,e,h,_⟩:=h0.Sc d hd; ⟨q,e,h⟩)
 obtain ⟨v,r1,r2⟩:=hp w' ⟨S,μ,fun ν=>(cG ν).shut q2⟩
 obtain ⟨v',S',μ',e,B,ha⟩:=r2
 refine ⟨.returned v,w',_,⟨v',S',μ',e,B.QT (fun q hq=>?_),ha⟩,Steps.trans (kE b cs TM) q1,HX,rfl,rfl,wI,g.fn,?_,?_⟩
 ·rcases hq with hq | hq
  ·exact hq
  ·cases hq
 ·show g.P.funcs[b.fn]? = _
  rw [HX]; exact hf
 ·rw [← h1]; exact r1
theorem G.acg {g:Goal} {st:St} {kD:List (Nat × Nat)} (hg:g.Pv kD) (hf:g.P.funcs[g.f]? = some g.fn) (hp:∀ (C:Cx) (a:Act) (w:World),C.P=g.P→g.kept a.tmps→iH C st a w→∃ v,(results g.fn a.tmps).run C.P w=.ok v w∧Q2 C g.res g.cz kD g.tm (.returned v) w):G g [] st∧∀ k,G g (.code .ret :: k) st :=
 ⟨fun C h1 _ a w hk hs=>hg.out hf h1 hs (fun w' wO=>hp C.shut { a with defers:=[] } w' h1 hk wO) (fun b cs hb=>.one (stepR_end hb)),
  fun k C h1 _ a w hk hs=>hg.out hf h1 hs (fun w' wO=>hp C.shut { a with defers:=[] } w' h1 hk wO) (fun b cs hb=>.one (stepR_ret hb))⟩
section
variable {g : Goal} {k : List Item} {st : St}
theorem Sd {C:Cx} {a:Act} {w:World} (hs:iH C st a w) (hT:la C.P g.T) (hl:g.cz=[]) {l l':List AV} {ro JX:List (Nat × ba)} {ob AE:Ob} (h:sG g.T st g.fn.results.toList=some (l,ro,ob)) (bH:ob.den) (hb:tW st.lb l=some (l',JX,AE)) (FR:AE.den) (hle:sq (pv l') g.res) :
  ∃ v,(results g.fn a.tmps).run C.P w=.ok v w∧KY C g.res g.cz (.returned v) w:=by
 obtain ⟨S,μ,cG⟩:=hs
 have h0:=cG fun _=>false
 obtain ⟨vs,h1,h2⟩:=od hT h0 h bH
 refine ⟨_,sH h1,?_⟩
 have h3:∀ μ' ν',cP w (fun b=>b < w.heap.size∧(C.S0 b∨C.w0.heap.size≤b∨C.T0 b)) μ' ν' l' vs:=fun μ' ν' =>
  Cf h0 (fun b hb=>⟨h0.bound b hb,h0.fresh b hb⟩) (fun κ b q c h1 h2=>⟨by have:=h0.mem κ b h1; rw [h2] at this; exact this.at.lt,.inr (h0.own κ b q c h1 h2)⟩) μ' ν' hb (fun p hp=>FU hb p hp) FR h2
 refine ⟨_,fun b=>b < w.heap.size∧(C.S0 b∨C.w0.heap.size≤b∨C.T0 b),fun _=>none,rfl,?_⟩
 rw [hl]
 exact ⟨fun ν'=>hle _ _ _ _ _ (Ck (h3 _ ν')),fun κ b hk=>by simp [look] at hk,fun κ κ' b b' q c c' hk=>by simp [look] at hk,fun κ b q c hk=>by simp [look] at hk,
  fun b hb=>⟨Nat.lt_of_lt_of_le (h0.bound b (h0.dG b hb)) (Nat.le_refl _),.inl hb⟩,fun b hb=>hb.2.imp id (Or.imp id .inl),fun b hb=>hb.1,h0.kept.vV fun _ h=>.inl h⟩
theorem G.out (hg:g.Vw) (hf:g.P.funcs[g.f]? = some g.fn) (hp:∀ (C:Cx) (a:Act) (w:World),C.P=g.P→iH C st a w→∃ v,(results g.fn a.tmps).run C.P w=.ok v w∧KY C g.res g.cz (.returned v) w):G g [] st∧∀ k,G g (.code .ret :: k) st :=
 ⟨fun C h1 _ a w _ hs=>hg.out hf h1 hs (fun w' wO=>hp C.shut { a with defers:=[] } w' h1 wO) (fun b cs hb=>.one (stepR_end hb)),
  fun k C h1 _ a w _ hs=>hg.out hf h1 hs (fun w' wO=>hp C.shut { a with defers:=[] } w' h1 wO) (fun b cs hb=>.one (stepR_ret hb))⟩
theorem G.ret (hg:g.Vw) (hT:la g.P g.T) (hf:g.P.funcs[g.f]? = some g.fn) (hl:g.cz=[]) {l l':List AV} {ro JX:List (Nat × ba)} {ob AE:Ob} (h:sG g.T st g.fn.results.toList=some (l,ro,ob)) (bH:ob.den) (hb:tW st.lb l=some (l',JX,AE)) (FR:AE.den) (hle:sq (pv l') g.res):G g [] st∧∀ k,G g (.code .ret :: k) st :=
 G.out hg hf (fun C a w h1 hs=>Sd (g:=g) hs (by rw [h1]; exact hT) hl h bH hb FR hle)
end
def du:Nat→List AV→List (Nat × AV)
 | _,[]=>[]
 | n,x :: r=>(n,x) :: du (n+1) r
theorem th:∀ (l:List AV) (n t:Nat),look (du n l) t=if n≤t then l[t - n]? else none
 | [],n,t=>by simp [du,look]
 | x :: r,n,t=>by
  simp only [du,bq,th r (n+1) t]
  by_cases h:n=t
  ·subst h; simp
  ·simp only [h,if_false]
   by_cases h1:n+1≤t
   ·rw [if_pos h1,if_pos (by omega),show t - n=t - (n+1)+1 by omega]
    simp
   ·rw [if_neg h1,if_neg (by omega)]
def ZN (P:Program) (f:FuncId) (res:AV) (cz:List (Nat × ba)) (C:Cx) (_:Frame) (cs:List Frame) (m:Machine):Prop :=
 ∃ e w' fr,KY C res cz e w'∧Comes P m (lone fr cs w') e∧fr.fn=f∧fr.leaving P w' e
def Goal.of (P:Program) (T:List (Nat × TI)) (nt:Nat) (f:FuncId) (fn:Func) (res:AV) (cz:List (Nat × ba)):Goal :=
 ⟨P,T,nt,f,fn,res,cz,0,[],#[],ZN P f res cz,fun _ _ _ _ _ hs ⟨e,w',fr,q1,q2,q3⟩=>⟨e,w',fr,q1,.of_steps hs q2,q3⟩⟩
theorem Goal.Ua {P:Program} {T:List (Nat × TI)} {nt:Nat} {f:FuncId} {fn:Func} {res:AV} {cz:List (Nat × ba)}:(Goal.of P T nt f fn res cz).Vw:=⟨rfl,fun _ _ _ _ h=>h⟩
theorem fA.intro {P:Program} {T:List (Nat × TI)} {f:FuncId} {fn:Func} {body:Code} {args:List AV} {cz:List (Nat × ba)} {res:AV} {fh:List (Nat × ba)} (hf:P.funcs[f]? = some fn) (hb:fn.body=some body) (hc:ev P f=true) (hn:args.length≤fn.ntmps)
  (h:G (.of P T fn.ntmps f fn res fh) [.code body] ⟨du 0 args,cz⟩):fA P f args cz res fh:=by
 refine ⟨hc,fun w S μ vs hS Tv jP hm hi cs=>?_⟩
 let C:Cx:=⟨P,w,S,Handed cz μ,fn.ntmps,Tv,fun b hb ⟨κ,bk,c,q1,q2⟩=>by
  have:=hm κ bk q1
  rw [q2] at this
  exact this.at.not hb,hS,[],fun d h=>(by cases h),List.nodup_nil⟩
 let b:Frame:={ (default:Frame) with fn:=f,kind:=.normal,roundOf:=none }
 have hl:vs.size=args.length:=by have:=(jP fun _=>false).1; simpa using this
 have Pw:Frame.enter P f vs .normal=b.atR { tmps:=vs++Array.replicate (fn.ntmps - vs.size) undef,defers:=[] } [.code body]:=by
  simp [Frame.enter,Frame.atR,hf,hb,b]
 have cG:iH C ⟨du 0 args,cz⟩ { tmps:=vs++Array.replicate (fn.ntmps - vs.size) undef,defers:=[] } w:=by
  refine ⟨S,μ,fun ν=>⟨by simp [C]; omega,rfl,fun t=>?_,hm,hi,fun κ bk q c h1 h2=>.inr ⟨κ,bk,c,h1,h2⟩,fun _ hb=>hb,fun _ hb=>.inl hb,hS,Kept.refl _ _⟩⟩
  simp only [St.eE,St.get,th,Nat.zero_le,if_true,Nat.sub_zero]
  by_cases ht:t < args.length
  ·rw [List.getElem?_eq_getElem ht]
   have h2:=(jP ν).2 t ht
   rw [show args.getD t default=args[t] from by simp [List.getD,ht]] at h2
   have e:(vs++Array.replicate (fn.ntmps - vs.size) undef).getD t undef=vs.toList.getD t undef:=by
    rw [← ct]
    simp only [Array.getD_eq_getD_getElem?]
    rw [Array.getElem?_append_left (by omega)]
   rw [e]
   exact h2
  ·rw [List.getElem?_eq_none (by omega)]
   exact .any _
 obtain ⟨e,w',fr,⟨v,S',μ',e1,B⟩,q2,q3,q4⟩:=h C rfl rfl _ _ (fun u hu=>by cases hu) cG b cs rfl rfl ⟨fun _ h=>(by cases h),fun _=>rfl⟩
 exact ⟨e,w',fr,⟨v,S',μ',e1,B.QT (fun q hq=>hq.elim id (fun h=>by cases h))⟩,by rw [Pw]; exact q2,q3,q4⟩
abbrev Ren:=List (Nat × Option Nat)
def tY (ρ:Ren) (μ:Mu):Mu:=fun k=>match look ρ k with | some (some o)=>μ o | some none=>some none | none=>none
def py (ρ:Ren) (κ' κ:Nat):Bool:=match look ρ κ' with | some (some o)=>Nat.beq o κ | _=>false
def Nb (ρ:Ren) (κ':Nat):Bool:=match look ρ κ' with | some none=>true | _=>false
theorem xc {ρ:Ren} {κ' κ:Nat} (h:py ρ κ' κ=true) (μ:Mu):tY ρ μ κ'=μ κ:=by
 unfold py at h
 unfold tY
 split at h
 ·rename_i o hl
  rw [hl]
  simp only [Nat.eq_of_beq_eq_true h]
 ·cases h
theorem Ub {ρ:Ren} {κ':Nat} (h:Nb ρ κ'=true) (μ:Mu):tY ρ μ κ'=some none:=by
 unfold Nb at h
 unfold tY
 split at h
 ·rename_i hl; rw [hl]
 ·cases h
mutual
def pz (ρ:Ren):AV→AV→Option Prop
 | _,.any=>some True
 | .d x,.d y=>some (pQ x y)
 | .own κ n,.own κ' n'=>bif py ρ κ' κ then some (n=n') else none
 | .d (.v (.slice none 0 0)),.own κ' n'=>bif Nb ρ κ' then some (n'=0) else none
 | .ptr κ o,.ptr κ' o'=>bif py ρ κ' κ&&Nat.beq o o' then some True else none
 | .ref cs,.ref zQ=>some (cs=zQ)
 | .fn f l,.fn f' l'=>bif Nat.beq f f' then tZ ρ l l' else none
 | .eD l,.eD l'=>tZ ρ l l'
 | .ag l,.ag l'=>tZ ρ l l'
 | .sj κ,.sj κ'=>bif py ρ κ' κ then some True else none
 | .yg n f,.yg n' f'=>some (n=n'∧f=f')
 | .wG n f,.wG n' f'=>some (n=n'∧f=f')
 | .wG n f,.d (.sl n' f')=>some (n=n'∧f=f')
 | .uS κ k i o,.uS κ' k' i' o'=>bif py ρ κ' κ&&Nat.beq k k'&&Nat.beq o o' then some (i=i') else none
 | _,_=>none
def tZ (ρ:Ren):List AV→List AV→Option Prop
 | [],[]=>some True
 | x :: r,y :: s=>(match pz ρ x y,tZ ρ r s with | some a,some b=>some (a∧b) | _,_=>none)
 | _,_=>none
end
def kF (ρ:Ren):ba→ba→Option Prop
 | .box cs,.box zQ=>tZ ρ cs zQ
 | .row e k n f,.row e' k' n' f'=>bif Nat.beq e e'&&Nat.beq k k' then some (n=n'∧∀ i,i < n→f i=f' i) else none
 | .mp n f,.mp n' f'=>some (n=n'∧f=f')
 | .it mk n s,.it mk' n' s'=>bif py ρ mk' mk then some (n=n'∧s=s') else none
 | .mx q,.mx q'=>some (q=q')
 | _,_=>none
def FZ (ρ:Ren) (sl:List (Nat × AV)):List (Nat × AV)→Option Prop
 | []=>some True
 | (t,x) :: r=>(match pz ρ (St.get sl t) x,FZ ρ sl r with | some a,some b=>some (a∧b) | _,_=>none)
def D9 (ρ:Ren) (lb:List (Nat × ba)):List (Nat × ba)→Option Prop
 | []=>some True
 | (κ,b) :: r=>(match look ρ κ,D9 ρ lb r with
  | some (some o),some p=>(match look lb o with | some c=>(match kF ρ c b with | some q=>some (q∧p) | none=>none) | none=>none)
  | some none,some p=>(match b with | .row _ _ n _=>some (n=0∧p) | _=>none)
  | _,_=>none)
def AZ:Ren→Bool
 | []=>true
 | (_,some o) :: r=>r.all (fun p=>match p.2 with | some q=>!Nat.beq q o | none=>true)&&AZ r
 | (_,none) :: r=>AZ r
section
variable {w : World} {S : Nat → Prop} {μ : Mu} {ν : Nat → Bool} {ρ : Ren}
theorem mn {α:Type} {b:Bool} {x y:α} (h:(bif b then some x else none)=some y):b=true∧x=y:=by
 cases b with
 | true=>exact ⟨rfl,Option.some.inj h⟩
 | false=>cases h
mutual
theorem ua:∀ (x y:AV) (ob:Prop),pz ρ x y=some ob→ob→∀ v,Rel w S μ ν x v→Rel w S (tY ρ μ) ν y v
 | x,y,ob,h,bH,v,hr=>by
  unfold pz at h
  split at h
  ·exact .any v
  ·simp only [Option.some.injEq] at h
   subst h
   exact .d (bH _ _ _ (gq.1 hr))
  ·obtain ⟨h1,rfl⟩:=mn h
   subst bH
   have hk:=xc h1 μ
   cases hr with
   | cu hμ=>exact .cu (by rw [hk]; exact hμ)
   | own hμ=>exact .own (by rw [hk]; exact hμ)
  ·obtain ⟨h1,rfl⟩:=mn h
   have:=cm rfl hr
   rw [this,bH]
   exact .cu (Ub h1 μ)
  ·obtain ⟨h1,-⟩:=mn h
   simp only [Bool.and_eq_true] at h1
   have e:=Nat.eq_of_beq_eq_true h1.2
   subst e
   cases hr with
   | ptr hμ=>exact .ptr (by rw [xc h1.1 μ]; exact hμ)
  ·simp only [Option.some.injEq] at h
   subst h
   subst bH
   cases hr with
   | ref eV hc h=>exact .ref eV hc h
  ·rename_i f l f' l'
   cases hb:Nat.beq f f' with
   | false=>rw [hb] at h; cases h
   | true =>
    rw [hb] at h
    have e:=Nat.eq_of_beq_eq_true hb
    subst e
    simp only [cond_true] at h
    cases hr with
    | fn hl hh =>
     obtain ⟨q1,q2⟩:=qP l l' ob h bH
     exact .fn (by omega) (fun i hi=>q2 i hi _ (hh i (by omega)))
  ·rename_i l l'
   cases hr with
   | eD hl hh =>
    obtain ⟨q1,q2⟩:=qP l l' ob h bH
    exact .eD (by omega) (fun i hi=>q2 i hi _ (hh i (by omega)))
  ·rename_i l l'
   cases hr with
   | ag hl hh =>
    obtain ⟨q1,q2⟩:=qP l l' ob h bH
    exact .ag (by omega) (fun i hi=>q2 i hi _ (hh i (by omega)))
  ·obtain ⟨h1,-⟩:=mn h
   cases hr with
   | sj hμ=>exact .sj (by rw [xc h1 μ]; exact hμ)
  ·simp only [Option.some.injEq] at h
   subst h
   obtain ⟨rfl,rfl⟩:=bH
   cases hr with
   | yg hd=>exact .yg hd
  ·simp only [Option.some.injEq] at h
   subst h
   obtain ⟨rfl,rfl⟩:=bH
   cases hr with
   | wG hd=>exact .wG hd
  ·simp only [Option.some.injEq] at h
   subst h
   obtain ⟨rfl,rfl⟩:=bH
   cases hr with
   | wG hd=>exact .d hd
  ·obtain ⟨h1,rfl⟩:=mn h
   subst bH
   simp only [Bool.and_eq_true] at h1
   have e1:=Nat.eq_of_beq_eq_true h1.1.2
   have e2:=Nat.eq_of_beq_eq_true h1.2
   subst e1; subst e2
   cases hr with
   | uS hμ=>exact .uS (by rw [xc h1.1.1 μ]; exact hμ)
  ·cases h
theorem qP:∀ (l l':List AV) (ob:Prop),tZ ρ l l'=some ob→ob→l.length=l'.length∧∀ i,i < l'.length→∀ v,Rel w S μ ν (l.getD i default) v→Rel w S (tY ρ μ) ν (l'.getD i default) v
 | [],[],_,_,_=>⟨rfl,fun i hi=>absurd hi (by simp)⟩
 | x :: r,y :: s,ob,h,bH=>by
  simp only [tZ] at h
  cases h1:pz ρ x y with
  | none=>rw [h1] at h; cases h
  | some a =>
   cases h2:tZ ρ r s with
   | none=>rw [h1,h2] at h; cases h
   | some b =>
    rw [h1,h2] at h
    simp only [Option.some.injEq] at h
    subst h
    obtain ⟨q1,q2⟩:=qP r s b h2 bH.2
    refine ⟨by simp [q1],fun i hi=>?_⟩
    cases i with
    | zero=>simpa using ua x y a h1 bH.1
    | succ i=>simpa using q2 i (by simpa using hi)
 | [],_ :: _,_,h,_=>by simp [tZ] at h
 | _ :: _,[],_,h,_=>by simp [tZ] at h
end
theorem V0 {b b':ba} {ob:Prop} (h:kF ρ b b'=some ob) (bH:ob) {g c:Nat} (hb:cD w S μ b g c):cD w S (tY ρ μ) b' g c:=by
 cases b with
 | box cs =>
  cases b' with
  | row=>simp [kF] at h
  | mp=>simp [kF] at h
  | it=>simp [kF] at h
  | mx=>simp [kF] at h
  | box zQ =>
   simp only [kF] at h
   obtain ⟨cur,e,h1,h2,h3,h4⟩:=hb
   have hlen:=(qP (w:=w) (S:=S) (μ:=μ) (ν:=fun _=>false) cs zQ ob h bH).1
   refine ⟨cur,e,h1,h2,by omega,fun j hj=>?_⟩
   obtain ⟨x,hx,hr⟩:=h4 j (by omega)
   exact ⟨x,hx,fun ν=>(qP (w:=w) (S:=S) (μ:=μ) (ν:=ν) cs zQ ob h bH).2 j hj x (hr ν)⟩
 | row e k n f =>
  cases b' with
  | box=>simp [kF] at h
  | mp=>simp [kF] at h
  | it=>simp [kF] at h
  | mx=>simp [kF] at h
  | row e' k' n' f' =>
   simp only [kF] at h
   obtain ⟨h1,rfl⟩:=mn h
   simp only [Bool.and_eq_true] at h1
   have e1:=Nat.eq_of_beq_eq_true h1.1
   have e2:=Nat.eq_of_beq_eq_true h1.2
   subst e1; subst e2
   obtain ⟨rfl,hf⟩:=bH
   obtain ⟨cur,q1,q2,q3,q4,q5,q6⟩:=hb
   refine ⟨cur,q1,q2,q3,q4,q5,fun i hi=>?_⟩
   rw [← hf i hi]
   exact q6 i hi
 | mp n f =>
  cases b' with
  | box=>simp [kF] at h
  | row=>simp [kF] at h
  | it=>simp [kF] at h
  | mx=>simp [kF] at h
  | mp n' f' =>
   simp only [kF,Option.some.injEq] at h
   subst h
   obtain ⟨rfl,rfl⟩:=bH
   exact hb
 | it mk n s =>
  cases b' with
  | box=>simp [kF] at h
  | row=>simp [kF] at h
  | mp=>simp [kF] at h
  | mx=>simp [kF] at h
  | it mk' n' s' =>
   simp only [kF] at h
   obtain ⟨h1,rfl⟩:=mn h
   obtain ⟨rfl,rfl⟩:=bH
   obtain ⟨mg,cc,q0,q1⟩:=hb
   exact ⟨mg,cc,by rw [xc h1 μ]; exact q0,q1⟩
 | mx =>
  cases b' with
  | mx q' =>
   simp only [kF,Option.some.injEq] at h
   subst h
   obtain rfl:=bH
   exact hb
  | _=>simp [kF] at h
theorem V1 {b b':ba} {ob:Prop} (h:kF ρ b b'=some ob) (bH:ob) {y:Option (Option (Nat × Nat))} (hb:fT w S μ b y):fT w S (tY ρ μ) b' y:=by
 cases y with
 | none=>cases b <;> exact hb.elim
 | some y =>
  cases y with
  | none =>
   cases b with
   | box=>exact hb.elim
   | mp=>exact hb.elim
   | it=>exact hb.elim
   | mx=>exact hb.elim
   | row e k n f =>
    cases b' with
    | box=>simp [kF] at h
    | mp=>simp [kF] at h
    | it=>simp [kF] at h
    | mx=>simp [kF] at h
    | row e' k' n' f' =>
     simp only [kF] at h
     obtain ⟨_,rfl⟩:=mn h
     have:n=0:=hb
     show n'=0
     rw [← bH.1,this]
  | some gc=>obtain ⟨g,c⟩:=gc; exact (V0 h bH hb.at).ok
theorem yq {lb:List (Nat × ba)}:∀ {lb':List (Nat × ba)} {ob:Prop},D9 ρ lb lb'=some ob→ob→∀ κ b,look lb' κ=some b →
  (∃ o c q,look ρ κ=some (some o)∧look lb o=some c∧kF ρ c b=some q∧q)∨(look ρ κ=some none∧∃ e k f,b=.row e k 0 f)
 | [],_,_,_,κ,b,hl=>by simp [look] at hl
 | (κ0,b0) :: r,ob,h,bH,κ,b,hl=>by
  simp only [D9] at h
  split at h
  ·rename_i o p hρ hr
   split at h
   ·rename_i c hc
    split at h
    ·rename_i q hq
     simp only [Option.some.injEq] at h
     subst h
     rw [bq] at hl
     split at hl
     ·rename_i e
      subst e
      simp only [Option.some.injEq] at hl
      subst hl
      exact .inl ⟨o,c,q,hρ,hc,hq,bH.1⟩
     ·exact yq hr bH.2 κ b hl
    ·cases h
   ·cases h
  ·rename_i p hρ hr
   split at h
   ·rename_i e k n f
    simp only [Option.some.injEq] at h
    subst h
    rw [bq] at hl
    split at hl
    ·rename_i e'
     subst e'
     simp only [Option.some.injEq] at hl
     subst hl
     rw [bH.1]
     exact .inr ⟨hρ,e,k,f,rfl⟩
    ·exact yq hr bH.2 κ b hl
   ·cases h
  ·cases h
theorem Cl:∀ {ρ:Ren},AZ ρ=true→∀ κ κ' o,look ρ κ=some (some o)→look ρ κ'=some (some o)→κ=κ'
 | [],_,κ,κ',o,h,_=>by simp [look] at h
 | (k0,some o0) :: r,hi,κ,κ',o,h,h'=>by
  simp only [AZ,Bool.and_eq_true,List.all_eq_true] at hi
  rw [bq] at h h'
  have no:∀ κ1,look r κ1=some (some o0)→False:=fun κ1 hk=>by
   have:=hi.1 (κ1,some o0) (gB hk)
   simp [Nat.beq_refl] at this
  split at h
  ·rename_i e1
   simp only [Option.some.injEq] at h
   split at h'
   ·rename_i e2; rw [← e1,← e2]
   ·rw [← h] at h'; exact (no κ' h').elim
  ·split at h'
   ·rename_i e2
    simp only [Option.some.injEq] at h'
    rw [← h'] at h
    exact (no κ h).elim
   ·exact Cl hi.2 κ κ' o h h'
 | (k0,none) :: r,hi,κ,κ',o,h,h'=>by
  simp only [AZ] at hi
  rw [bq] at h h'
  split at h
  ·cases h
  ·split at h'
   ·cases h'
   ·exact Cl hi κ κ' o h h'
theorem J2 {sl:List (Nat × AV)}:∀ {sl':List (Nat × AV)} {ob:Prop},FZ ρ sl sl'=some ob→ob→∀ t x,look sl' t=some x→∃ q,pz ρ (St.get sl t) x=some q∧q
 | [],_,_,_,t,x,hl=>by simp [look] at hl
 | (t0,x0) :: r,ob,h,bH,t,x,hl=>by
  simp only [FZ] at h
  split at h
  ·rename_i a b h1 h2
   simp only [Option.some.injEq] at h
   subst h
   rw [bq] at hl
   split at hl
   ·rename_i e
    subst e
    simp only [Option.some.injEq] at hl
    subst hl
    exact ⟨a,h1,bH.1⟩
   ·exact J2 h2 bH.2 t x hl
  ·cases h
end
theorem Se {ρ:Ren} {μ:Mu} {κ g c:Nat} (h:tY ρ μ κ=some (some (g,c))):∃ o,look ρ κ=some (some o)∧μ o=some (some (g,c)):=by
 unfold tY at h
 split at h
 ·rename_i o hl; exact ⟨o,hl,h⟩
 ·cases h
 ·cases h
theorem cE.le {C:Cx} {st st':St} {a:Act} {w:World} {S:Nat→Prop} {μ:Mu} {ν:Nat→Bool} (hs:cE C st.eE a w S μ ν) {ρ:Ren} {yJ D5:Prop} (hi:AZ ρ=true) (h1:FZ ρ st.sl st'.sl=some yJ) (xb:yJ) (h2:D9 ρ st.lb st'.lb=some D5) (yK:D5):cE C st'.eE a w S (tY ρ μ) ν:=by
 have old:∀ κ b,look st'.lb κ=some b→∀ g c,tY ρ μ κ=some (some (g,c))→∃ o d,look ρ κ=some (some o)∧look st.lb o=some d∧μ o=some (some (g,c)):=by
  intro κ b hb g c hm
  obtain ⟨o,ho,hμ⟩:=Se hm
  rcases yq h2 yK κ b hb with ⟨o',d,q,q1,q2,_⟩ | ⟨q1,_⟩
  ·rw [ho] at q1
   simp only [Option.some.injEq] at q1
   subst q1
   exact ⟨o,d,ho,q2,hμ⟩
  ·rw [ho] at q1; cases q1
 refine ⟨hs.tmps,hs.defers,fun t=>?_,fun κ b hb=>?_,fun κ κ' b b' g c c' hb kC hm zo=>?_,fun κ b g c hb hm=>?_,hs.dG,hs.fresh,hs.bound,hs.kept⟩
 ·simp only [St.eE,St.get]
  cases hl:look st'.sl t with
  | none=>exact .any _
  | some x =>
   obtain ⟨q,q1,q2⟩:=J2 h1 xb t x hl
   exact ua _ x q q1 q2 _ (hs.df t)
 ·rcases yq h2 yK κ b hb with ⟨o,d,q,q1,q2,q3,q4⟩ | ⟨q1,e,k,f,rfl⟩
  ·have hm:tY ρ μ κ=μ o:=by simp [tY,q1]
   rw [hm]
   exact V1 q3 q4 (hs.mem o d q2)
  ·have hm:tY ρ μ κ=some none:=by simp [tY,q1]
   rw [hm]
   rfl
 ·obtain ⟨o,d,x1,x2,x3⟩:=old κ b hb g c hm
  obtain ⟨o',d',y1,y2,y3⟩:=old κ' b' kC g c' zo
  have:=hs.inj o o' d d' g c c' x2 y2 x3 y3
  subst this
  exact Cl hi κ κ' o x1 y1
 ·obtain ⟨o,d,x1,x2,x3⟩:=old κ b hb g c hm
  exact hs.own o d g c x2 x3
theorem HW.of {st st':St} (ρ:Ren) {yJ D5:Prop} (hi:AZ ρ=true) (h1:FZ ρ st.sl st'.sl=some yJ) (xb:yJ) (h2:D9 ρ st.lb st'.lb=some D5) (yK:D5):HW st st':=by
 rintro C a w ⟨S,μ,cG⟩
 exact ⟨S,tY ρ μ,fun ν=>(cG ν).le hi h1 xb h2 yK⟩
theorem Nc {ρ:Ren} {sl:List (Nat × AV)}:∀ {sl':List (Nat × AV)} {ob:Prop},FZ ρ sl sl'=some ob→ob→∀ p,p∈sl'→∃ q,pz ρ (St.get sl p.1) p.2=some q∧q
 | [],_,_,_,p,hp=>by cases hp
 | (t0,x0) :: r,ob,h,bH,p,hp=>by
  simp only [FZ] at h
  split at h
  ·rename_i a b h1 h2
   simp only [Option.some.injEq] at h
   subst h
   rcases List.mem_cons.1 hp with rfl | hp
   ·exact ⟨a,h1,bH.1⟩
   ·exact Nc h2 bH.2 p hp
  ·cases h
section
variable {g : Goal} {k : List Item} {st : St}
theorem Uc {C:Cx} {a:Act} {w:World} (hs:iH C st a w) (hT:la C.P g.T) (ρ:Ren) {l:List AV} {ro:List (Nat × ba)} {ob:Ob} {yJ D5:Prop} (h:sG g.T st g.fn.results.toList=some (l,ro,ob)) (bH:ob.den) (hi:AZ ρ=true) (h1:pz ρ (pv l) g.res=some yJ) (xb:yJ) (h2:D9 ρ st.lb g.cz=some D5) (yK:D5) :
  ∃ v,(results g.fn a.tmps).run C.P w=.ok v w∧KY C g.res g.cz (.returned v) w:=by
 obtain ⟨S,μ,cG⟩:=hs
 have h0:=cG fun _=>false
 obtain ⟨vs,q1,_⟩:=od hT h0 h bH
 refine ⟨_,sH q1,_,S,tY ρ μ,rfl,?_⟩
 have hle:=h0.le (st':=⟨[],g.cz⟩) hi (by rfl) trivial h2 yK
 refine ⟨fun ν=>?_,hle.mem,hle.inj,fun κ b g c h1 h2=>(hle.own κ b g c h1 h2).imp id .inl,h0.dG,fun b hb=>(h0.fresh b hb).imp id (Or.imp id .inl),h0.bound,h0.kept.vV fun _ h=>.inl h⟩
 obtain ⟨vs',p1,p2⟩:=od hT (cG ν) h bH
 have:vs'=vs:=by rw [q1] at p1; cases p1; rfl
 subst this
 exact ua _ _ yJ h1 xb _ (Ck p2)
theorem G.ach (hg:g.Vw) (hT:la g.P g.T) (hf:g.P.funcs[g.f]? = some g.fn) (ρ:Ren) {l:List AV} {ro:List (Nat × ba)} {ob:Ob} {yJ D5:Prop} (h:sG g.T st g.fn.results.toList=some (l,ro,ob)) (bH:ob.den) (hi:AZ ρ=true) (h1:pz ρ (pv l) g.res=some yJ) (xb:yJ) (h2:D9 ρ st.lb g.cz=some D5) (yK:D5):G g [] st∧∀ k,G g (.code .ret :: k) st :=
 G.out hg hf (fun C a w c1 hs=>Uc (g:=g) hs (by rw [c1]; exact hT) ρ h bH hi h1 xb h2 yK)
theorem Sf {kD:List (Nat × Nat)} (hn:g.Pv kD) {C:Cx} {a:Act} {w:World} (hk:g.kept a.tmps) (hs:iH C st a w) (hT:la C.P g.T) (ρ:Ren) {l:List AV} {ro:List (Nat × ba)} {ob:Ob} {yJ D5 ob3:Prop} (h:sG g.T st g.fn.results.toList=some (l,ro,ob)) (bH:ob.den) (hi:AZ ρ=true) (h1:pz ρ (pv l) g.res=some yJ) (xb:yJ) (h2:D9 ρ st.lb g.cz=some D5) (yK:D5) (h3:FZ ρ st.sl (kD.map fun p=>(p.1,.ptr p.2 0))=some ob3) (Ye:ob3) :
  ∃ v,(results g.fn a.tmps).run C.P w=.ok v w∧Q2 C g.res g.cz kD g.tm (.returned v) w:=by
 obtain ⟨S,μ,cG⟩:=hs
 have h0:=cG fun _=>false
 obtain ⟨vs,q1,_⟩:=od hT h0 h bH
 refine ⟨_,sH q1,_,S,tY ρ μ,rfl,?_,fun p hp ν=>?_⟩
 ·have hle:=h0.le (st':=⟨[],g.cz⟩) hi (by rfl) trivial h2 yK
  refine ⟨fun ν=>?_,hle.mem,hle.inj,fun κ b g c h1 h2=>(hle.own κ b g c h1 h2).imp id .inl,h0.dG,fun b hb=>(h0.fresh b hb).imp id (Or.imp id .inl),h0.bound,h0.kept.vV fun _ h=>.inl h⟩
  obtain ⟨vs',p1,p2⟩:=od hT (cG ν) h bH
  have:vs'=vs:=by rw [q1] at p1; cases p1; rfl
  subst this
  exact ua _ _ yJ h1 xb _ (Ck p2)
 ·obtain ⟨q,e1,e2⟩:=Nc h3 Ye (p.1,.ptr p.2 0) (List.mem_map.2 ⟨p,hp,rfl⟩)
  rw [← hk p.1 (hn.pr p hp)]
  exact ua _ _ q e1 e2 _ ((cG ν).df p.1)
theorem G.V2 {kD:List (Nat × Nat)} (hg:g.Pv kD) (hT:la g.P g.T) (hf:g.P.funcs[g.f]? = some g.fn) (ρ:Ren) {l:List AV} {ro:List (Nat × ba)} {ob:Ob} {yJ D5 ob3:Prop} (h:sG g.T st g.fn.results.toList=some (l,ro,ob)) (bH:ob.den) (hi:AZ ρ=true) (h1:pz ρ (pv l) g.res=some yJ) (xb:yJ) (h2:D9 ρ st.lb g.cz=some D5) (yK:D5) (h3:FZ ρ st.sl (kD.map fun p=>(p.1,.ptr p.2 0))=some ob3) (Ye:ob3):G g [] st∧∀ k,G g (.code .ret :: k) st :=
 G.acg hg hf (fun C a w c1 hk hs=>Sf (g:=g) hg hk hs (by rw [c1]; exact hT) ρ h bH hi h1 xb h2 yK h3 Ye)
end
def Sg (P:Program) (gf:FuncId) (bZ:List AV) (ys:List (List AV)):Prop :=
 ev P gf=true∧∀ (w0:World) (S:Nat→Prop) (μ:Mu) (wH:Array Value) (l:Nat) (J:Nat→(Nat→Prop)→World→Prop) (Jx:(Nat→Prop)→World→Prop) (F0:Nat→Prop),
  (∀ b,S b→b < w0.heap.size)→gT w0 S→(∀ ν,cP w0 S μ ν bZ wH.toList)→(∀ b,S b→¬ F0 b)→(∀ b,F0 b→b < w0.heap.size) →
  (∀ i F W W',J i F W→Kept W W' (fun b=>w0.heap.size≤b∧¬ F b∧¬ S b)→J i F W')→(∀ F W W',Jx F W→Kept W W' (fun b=>w0.heap.size≤b∧¬ F b∧¬ S b)→Jx F W') →
  (∀ i F W (vs:Array Value),i < ys.length→J i F W→(∀ ν,cP W (fun _=>False) (fun _=>none) ν (ys.getD i []) vs.toList)→YieldAt Fence.wide 0 P l vs W fun e W'=>∃ F',(∀ b,F' b→F b∨W.heap.size≤b)∧(∀ b,F' b→b < W'.heap.size)∧Kept W W' F∧((e=.returned (.bool true)∧J (i+1) F' W')∨(e=.returned (.bool false)∧Jx F' W'))) →
  J 0 F0 w0→Calls P gf (#[.func (.yield l) #[] #[]]++wH) w0 fun e w'=>(∃ v,e=.returned v)∧((∃ F,J ys.length F w')∨∃ F,Jx F w')
structure Core (A:M) (tm:Array Value) (w:World) (S:Nat→Prop) (μ:Mu) (ν:Nat→Bool):Prop where
 df:∀ t,Rel w S μ ν (A.sl t) (tm.getD t undef)
 mem:∀ κ b,A.lb κ=some b→fT w S μ b (μ κ)
 inj:∀ κ κ' b b' g c c',A.lb κ=some b→A.lb κ'=some b'→μ κ=some (some (g,c))→μ κ'=some (some (g,c'))→κ=κ'
 bound:∀ b,S b→b < w.heap.size
def pS (A:M) (μ:Mu) (q:Nat):Prop:=∃ κ b c,A.lb κ=some b∧μ κ=some (some (q,c))
theorem cE.core {C:Cx} {A:M} {a:Act} {w:World} {S:Nat→Prop} {μ:Mu} {ν:Nat→Bool} (h:cE C A a w S μ ν):Core A a.tmps w S μ ν:=⟨h.df,h.mem,h.inj,h.bound⟩
theorem cE.Nd {C:Cx} {A:M} {a:Act} {w:World} {S:Nat→Prop} {μ:Mu} {ν:Nat→Bool} (h:cE C A a w S μ ν) {q:Nat} (hq:pS A μ q):C.w0.heap.size≤q∨C.T0 q:=by
 obtain ⟨κ,b,c,h1,h2⟩:=hq
 exact h.own κ b q c h1 h2
theorem Core.pA {A:M} {tm:Array Value} {w:World} {S:Nat→Prop} {μ:Mu} {ν:Nat→Bool} (h:Core A tm w S μ ν) {q:Nat} (hq:pS A μ q):∃ b c,cD w S μ b q c:=by
 obtain ⟨κ,b,c,h1,h2⟩:=hq
 have:=h.mem κ b h1
 rw [h2] at this
 exact ⟨b,c,this.at⟩
theorem cD.Fc {w:World} {S:Nat→Prop} {μ:Mu} {b:ba} {g cap:Nat} {o:Loop} (h:cD w S μ b g cap):w.heap[g]?≠some (.loop o):=by
 cases b with
 | box cs=>obtain ⟨cur,e,hg,_⟩:=h; rw [hg]; simp
 | row e k n f=>obtain ⟨cur,hg,_⟩:=h; rw [hg]; simp
 | mp n f=>obtain ⟨cur,hg,_⟩:=h; rw [hg]; simp
 | it mk n seen=>obtain ⟨mg,c,_,hg,_⟩:=h; rw [hg]; simp
 | mx=>obtain ⟨m,_,cur,hg,_⟩:=h; rw [hg]; simp
theorem Core.keep {A:M} {tm tm':Array Value} {w w':World} {S:Nat→Prop} {μ:Mu} {ν:Nat→Bool} (h:Core A tm w S μ ν) (ht:∀ t,A.sl t=.any∨tm'.getD t undef=tm.getD t undef) (hS:∀ b,S b→w'.heap[b]? = w.heap[b]?) (hO:∀ q,pS A μ q→w'.heap[q]? = w.heap[q]?) (gS:w.heap.size≤w'.heap.size):Core A tm' w' S μ ν:=by
 refine ⟨fun t=>?_,fun κ b hb=>?_,h.inj,fun b hb=>Nat.lt_of_lt_of_le (h.bound b hb) gS⟩
 ·rcases ht t with e | e
  ·rw [e]; exact .any _
  ·rw [e]; exact (h.df t).mono (fun _ x=>x) hS (fun _ _ e=>e)
 ·have hm:=h.mem κ b hb
  refine hm.mono (fun _ x=>x) hS (fun _ _ e=>e) (fun g c e=>?_)
  rw [e] at hm
  exact ⟨hO g ⟨κ,b,c,hb,e⟩,hm.at.not⟩
def Cx.at (P:Program) (nt:Nat) (w:World) (S:Nat→Prop) (A:M) (μ:Mu) (hg:gT w S) (hm:∀ κ b,A.lb κ=some b→fT w S μ b (μ κ)) (hb:∀ b,S b→b < w.heap.size) (dl:List Deferred) (XO:∀ d,d∈dl→∃ q,d = { target:=.collected q,args:=#[] }∧w.heap[q]? = some (.deferred (some []))∧¬ S q) (Xc:dl.Nodup):Cx :=
 ⟨P,w,S,pS A μ,nt,hg,fun b hs ⟨κ,bk,c,h1,h2⟩=>by
  have:=hm κ bk h1
  rw [h2] at this
  exact this.at.not hs,hb,dl,fun d hd=>by
  obtain ⟨q,e,h1,h2⟩:=XO d hd
  refine ⟨q,e,h1,fun ⟨κ,bk,c,q1,q2⟩=>?_,h2⟩
  have:=hm κ bk q1
  rw [q2] at this
  exact this.at.px h1,Xc⟩
theorem Core.sim {P:Program} {nt:Nat} {A:M} {a:Act} {w:World} {S:Nat→Prop} {μ:Mu} {ν:Nat→Bool} (h:Core A a.tmps w S μ ν) (hn:a.tmps.size=nt) (hg:gT w S) (hm hb dl XO Xc) (hd:a.defers=dl):cE (Cx.at P nt w S A μ hg hm hb dl XO Xc) A a w S μ ν :=
 ⟨hn,hd,h.df,h.mem,h.inj,fun κ b g c h1 h2=>.inr ⟨κ,b,c,h1,h2⟩,fun _ x=>x,fun _ x=>.inl x,h.bound,Kept.refl _ _⟩
def mS {σ β Y:Type} (f:σ→Y→β ⊕ σ):List Y→σ→β ⊕ σ
 | [],s=>.inr s
 | y :: r,s=>match f s y with
  | .inl b=>.inl b
  | .inr s'=>mS f r s'
theorem J3 {σ β Y:Type} {f:σ→Y→β ⊕ σ}:∀ {l:List Y} {i:Nat} {s s1:σ} (h:i < l.length),mS f (l.take i) s=.inr s1→mS f (l.take (i+1)) s=f s1 l[i]∧(∀ b,f s1 l[i]=.inl b→mS f l s=.inl b)
 | [],i,s,s1,h,_=>absurd h (by simp)
 | y :: r,0,s,s1,_,e=>by
  simp only [List.take_zero,mS,Sum.inr.injEq] at e
  subst e
  refine ⟨?_,fun b hb=>?_⟩
  ·simp only [List.take_succ_cons,List.take_zero,mS,List.getElem_cons_zero]
   cases f s y <;> rfl
  ·simp only [List.getElem_cons_zero] at hb
   simp only [mS,hb]
 | y :: r,i+1,s,s1,h,e=>by
  simp only [List.take_succ_cons,mS] at e ⊢
  cases hf:f s y with
  | inl b=>rw [hf] at e; cases e
  | inr s' =>
   rw [hf] at e
   simp only at e ⊢
   have:=J3 (l:=r) (by simpa using h) e
   simpa using this
theorem F3 {σ β Y:Type} {f:σ→Y→β ⊕ σ} {I:Nat→σ→Prop} {B:β→Prop}:∀ (l:List Y) (k:Nat),(∀ i s y,I (k+i) s→l[i]? = some y→match f s y with | .inl b=>B b | .inr s'=>I (k+i+1) s')→∀ s,I k s→match mS f l s with | .inl b=>B b | .inr s'=>I (k+l.length) s'
 | [],k,_,s,h=>h
 | y :: r,k,hf,s,h=>by
  have h1:=hf 0 s y h (by simp)
  simp only [mS]
  cases e:f s y with
  | inl b=>rw [e] at h1; exact h1
  | inr s' =>
   rw [e] at h1
   have:=F3 (I:=I) (B:=B) r (k+1) (fun i s y hs hy=>by
    have:=hf (i+1) s y (by rw [show k+(i+1)=k+1+i by omega]; exact hs) (by simpa using hy)
    rw [show k+(i+1)+1=k+1+i+1 by omega] at this
    exact this) s' h1
   rw [show k+(y :: r).length=k+1+r.length by simp; omega]
   exact this
structure Reb (C C':Cx):Prop where
 sub:∀ b,C.S0 b→C'.S0 b
 new:∀ b,C'.S0 b→C.S0 b∨C.w0.heap.size≤b∨C.T0 b
 kept:Kept C.w0 C'.w0 C.T0
 tk:∀ q,C'.TD q→C.TD q∨C.w0.heap.size≤q
theorem KY.reb {C C':Cx} (h:Reb C C') {res:AV} {cz:List (Nat × ba)} {e:Ending} {w:World} (hp:KY C' res cz e w):KY C res cz e w:=by
 obtain ⟨v,S',μ',rfl,B⟩:=hp
 refine ⟨v,S',μ',rfl,B.res,B.mem,B.inj,fun κ b g c h1 h2=>?_,fun b hb=>B.sub b (h.sub b hb),fun b hb=>?_,B.bound,(h.kept.vV fun _ x=>.inl x).trans B.kept fun b hb ht=>?_⟩
 ·rcases B.own κ b g c h1 h2 with q | q
  ·exact .inl (Nat.le_trans h.kept.size q)
  ·exact (h.tk g q).symm
 ·rcases B.new b hb with q | q | q
  ·exact (h.new b q).imp id (Or.imp id .inl)
  ·exact .inr (.inl (Nat.le_trans h.kept.size q))
  ·exact .inr ((h.tk b q).symm)
 ·exact (h.tk b ht).resolve_right (by omega)
theorem ZN.reb {P:Program} {f:FuncId} {res:AV} {cz:List (Nat × ba)} {C C':Cx} {b:Frame} {cs:List Frame} {m:Machine} (h:Reb C C') (hz:ZN P f res cz C' b cs m):ZN P f res cz C b cs m :=
 let ⟨e,w',fr,q1,q2⟩:=hz
 ⟨e,w',fr,q1.reb h,q2⟩
def v7:List Nat→List AV→List (Nat × AV)
 | p :: ps,x :: xs=>(p,x) :: v7 ps xs
 | _,_=>[]
def Px (nt:Nat) (ZF:List Nat):List Nat→Bool
 | []=>true
 | p :: ps=>Nat.ble (p+1) nt&&!ZF.any (fun q=>Nat.beq q p)&&!ps.any (fun q=>Nat.beq q p)&&Px nt ZF ps
theorem any_beq {l:List Nat} {p:Nat} (h:(!l.any fun q=>Nat.beq q p)=true):p ∉ l:=fun hp=>by
 have:(l.any fun q=>Nat.beq q p)=true:=List.any_eq_true.2 ⟨p,hp,Nat.beq_refl p⟩
 rw [this] at h
 cases h
theorem J4 {w:World} {S:Nat→Prop} {μ:Mu} {ν:Nat→Bool} {nt:Nat} {ZF:List Nat}:∀ (ps:List Nat) (xs:List AV) (vs:List Value) (t:Array Value),Px nt ZF ps=true→ps.length=xs.length→t.size=nt→cP w S μ ν xs vs →
  ((ps.zip vs).foldl (fun t (p:Nat × Value)=>t.setIfInBounds p.1 p.2) t).size=nt∧(∀ u,u ∉ ps→((ps.zip vs).foldl (fun t (p:Nat × Value)=>t.setIfInBounds p.1 p.2) t).getD u undef=t.getD u undef) ∧
   ∀ u x,look (v7 ps xs) u=some x→Rel w S μ ν x (((ps.zip vs).foldl (fun t (p:Nat × Value)=>t.setIfInBounds p.1 p.2) t).getD u undef)
 | [],xs,vs,t,_,_,ht,_=>⟨by simpa using ht,fun u _=>by simp,fun u x h=>by simp [v7,look] at h⟩
 | p :: ps,[],vs,t,_,h,_,_=>absurd h (by simp)
 | p :: ps,x :: xs,[],t,_,_,_,hr=>absurd hr.1 (by simp)
 | p :: ps,x :: xs,v :: vs,t,hp,hl,ht,hr=>by
  simp only [Px,Bool.and_eq_true] at hp
  obtain ⟨⟨⟨h1,h2⟩,h3⟩,h4⟩:=hp
  have h1:=Nat.le_of_ble_eq_true h1
  have h3:=any_beq h3
  have hr':cP w S μ ν xs vs:=⟨by simpa using hr.1,fun i hi=>by simpa using hr.2 (i+1) (by simpa using hi)⟩
  obtain ⟨q1,q2,q3⟩:=J4 ps xs vs (t.setIfInBounds p v) h4 (by simpa using hl) (by simpa using ht) hr'
  simp only [List.zip_cons_cons,List.foldl_cons]
  refine ⟨q1,fun u hu=>?_,fun u y hy=>?_⟩
  ·rw [q2 u (fun h=>hu (by simp [h]))]
   exact cw _ _ _ _ (fun e=>hu (by simp [e]))
  ·simp only [v7,bq] at hy
   split at hy
   ·rename_i e
    subst e
    simp only [Option.some.injEq] at hy
    subst hy
    rw [q2 p h3,fK _ _ _ (by omega)]
    simpa using hr.2 0 (by simp)
   ·exact q3 u y hy
structure DF (w:World) (S zR S1:Nat→Prop) (A:M) (μ1:Mu) (r:Loop) (F:Nat→Prop) (W:World):Prop where
 wL:gT W S1
 sub:∀ b,S b→S1 b
 new:∀ b,S1 b→S b∨w.heap.size≤b∨zR b
 own:∀ q,pS A μ1 q→zR q∨w.heap.size≤q
 kept:Kept w W zR
 dD:W.heap[w.heap.size]? = some (.deferred (some []))
 dl:W.heap[w.heap.size+1]? = some (.loop r)
 nD:¬ S1 w.heap.size
 nl:¬ S1 (w.heap.size+1)
 F:∀ q,F q↔(pS A μ1 q∨(S1 q∧¬ S q)∨q=w.heap.size+1∨q=w.heap.size)
theorem DF.keep {w:World} {S zR S1:Nat→Prop} {A:M} {μ1:Mu} {r:Loop} {F:Nat→Prop} {W W':World} {n:Nat} {tm:Array Value} (h:DF w S zR S1 A μ1 r F W) (hc:∀ ν,Core A tm W S1 μ1 ν) (hn:w.heap.size+2≤n) (hk:Kept W W' (fun b=>n≤b∧¬ F b∧¬ S b)) :
  DF w S zR S1 A μ1 r F W'∧∀ ν,Core A tm W' S1 μ1 ν:=by
 have Tt:=hc fun _=>false
 have hS:∀ b,S1 b→W'.heap[b]? = W.heap[b]?:=fun b hb=>hk.block b (Tt.bound b hb) (fun ⟨_,h2,h3⟩=>h2 ((h.F b).2 (.inr (.inl ⟨hb,h3⟩))))
 have hO:∀ q,pS A μ1 q→W'.heap[q]? = W.heap[q]?:=fun q hq=>hk.block q (by obtain ⟨_,_,hb⟩:=Tt.pA hq; exact hb.lt) (fun ⟨_,h2,_⟩=>h2 ((h.F q).2 (.inl hq)))
 have lt:∀ {q o},W.heap[q]? = some o→q < W.heap.size:=fun e=>(Array.getElem?_eq_some_iff.1 e).1
 exact ⟨⟨h.wL.mono (fun _ x=>x) hS,h.sub,h.new,h.own,h.kept.trans hk (fun b hb ⟨h1,_⟩=>by omega),(hk.block _ (lt h.dD) (fun ⟨h1,_⟩=>by omega)).trans h.dD,(hk.block _ (lt h.dl) (fun ⟨h1,_⟩=>by omega)).trans h.dl,h.nD,h.nl,h.F⟩,
  fun ν=>(hc ν).keep (fun t=>.inr rfl) hS hO hk.size⟩
def Goal.round (g:Goal) (ZF:List Nat) (tm:Array Value) (Z:Cx→Frame→List Frame→Machine→Prop) (zs:∀ C b cs m m',Steps g.P m m'→Z C b cs m'→Z C b cs m):Goal:={ g with md:=1,pr:=ZF,tm:=tm,Z:=Z,zs:=zs }
theorem F4 {w:World} {q:Nat} {o:Obj}:Kept w (w.putObj q o) (fun b=>b=q):=⟨rfl,rfl,rfl,by simp [World.putObj],fun b _ hb=>World.putObj_heap_other hb⟩
section
open Go Go.RowKit
theorem G.rf {g:Goal} {k:List Item} {st:St} (hn:g.Vw) (hz:∀ {C C' b cs m},Reb C C'→g.Z C' b cs m→g.Z C b cs m) {t:Nat} {ps:Array Tmp} {Fe body:Code} {gf:FuncId} {bZ:List AV}
    {Y σ β:Type} (ys:List Y) (enc:Y→List AV) (step:σ→Y→β ⊕ σ) (s0:σ) (I:Nat→σ→Prop) (J5:List (Nat × AV)) (Js:σ→St) (Jb:β→St) (id:Nat) (V3:σ→Y→St)
    (ME:∀ s,(Js s).sl=J5) (hbl:∀ b,(Jb b).sl=J5) (h0:HW st (Js s0)) (hf:St.get J5 t=.fn gf bZ) (aaq:so.lx bZ=true) (Vu:Sg g.P gf bZ (ys.map enc))
    (Xg:Px g.nt (J5.map (·.1)) ps.toList=true) (RR:∀ y,y∈ys→ps.toList.length=(enc y).length) (hI0:I 0 s0) (hI:∀ i s y,I i s→ys[i]? = some y→match step s y with | .inl _=>True | .inr s'=>I (i+1) s')
    (aci:∀ s y tm Z zs,y∈ys→G (g.round (J5.map (·.1)) tm Z zs) [.beginRound,.code body] (V3 s y)→G (g.round (J5.map (·.1)) tm Z zs) [.code Fe,.beginRound,.code body] ⟨v7 ps.toList (enc y)++J5,(Js s).lb⟩)
    (aar:∀ i s y tm Z zs,I i s→ys[i]? = some y→(match step s y with | .inr s'=>G (g.round (J5.map (·.1)) tm Z zs) [] (Js s') | .inl b=>∀ k',exitTo id k'=none→G (g.round (J5.map (·.1)) tm Z zs) (.code (.exit id) :: k') (Jb b))→G (g.round (J5.map (·.1)) tm Z zs) [.code body] (V3 s y))
    (hk:match mS step ys s0 with | .inr s=>G g k (Js s) | .inl b=>G g (.code (.exit id) :: k) (Jb b)):G g (.code (.rangeFunc (.tmp t) ps Fe body) :: k) st:=by
  intro C c1 c2 a w O0 hs b cs HX wI Fb
  have TM:b.roundOf=none:=Fb.2 (by rw [hn.md]; decide)
  obtain ⟨S,μ,cG⟩:=h0 C a w hs
  have Cm:=cG fun _=>false
  have ZE:a.tmps.size=g.nt:=Cm.tmps.trans c2
  have hv:=Cm.df t
  simp only [St.eE,ME s0,hf] at hv
  obtain ⟨wH,hfv,hrc⟩:∃ wH:Array Value,a.tmps.getD t undef=.func (.func gf) #[] wH∧∀ ν,cP w S μ ν bZ wH.toList:=by
    generalize a.tmps.getD t undef=fv at hv
    cases hv with
    | @fn _ _ wH hl hh=>exact ⟨wH,rfl,fun ν=>cP.nu ⟨by simpa using hl,fun i hi=>by rw [← ct]; exact hh i hi⟩ aaq⟩
  obtain ⟨yL,KZ⟩:∃ yL:LoopState→Option Code→Loop,yL=fun s pe=>{ state:=s,pending:=pe,fn:=b.fn,tmps:=a.tmps,params:=ps,assign:=Fe,body:=body,defers:=w.heap.size }:=⟨_,rfl⟩
  obtain ⟨W1,hW1⟩:∃ W1,(w.alloc (.deferred (some []))).alloc (.loop (yL .ready none))=W1:=⟨_,rfl⟩
  have adJ:W1.heap.size=w.heap.size+2:=by rw [← hW1]; simp
  have Ud:Kept w W1 (fun _=>False):=by
    rw [← hW1]
    exact (l8 w _ _).trans (l8 _ _ _) (fun _ _ x=>x)
  have hD1:W1.heap[w.heap.size]? = some (.deferred (some [])):=by
    rw [← hW1]; exact (Below.heap_alloc _ _ _ (by simp)).trans (World.alloc_heap_new w _)
  have hL1:W1.heap[w.heap.size+1]? = some (.loop (yL .ready none)):=by
    rw [← hW1]; have:=World.alloc_heap_new (w.alloc (.deferred (some []))) (.loop (yL .ready none)); rwa [World.size_alloc] at this
  let zR:Nat→Prop:=pS (Js s0).eE μ
  let J:Nat→(Nat→Prop)→World→Prop:=fun i F W=>∃ s S1 μ1,mS step (ys.take i) s0=.inr s∧I i s∧(∀ ν,Core (Js s).eE a.tmps W S1 μ1 ν)∧DF w S zR S1 (Js s).eE μ1 (yL .ready none) F W
  let Jx:(Nat→Prop)→World→Prop:=fun F W=>∃ bb S1 μ1,mS step ys s0=.inl bb∧(∀ ν,Core (Jb bb).eE a.tmps W S1 μ1 ν)∧DF w S zR S1 (Jb bb).eE μ1 (yL .done (some (.exit id))) F W
  have hS1:∀ b,S b→W1.heap[b]? = w.heap[b]?:=fun b hb=>Ud.block b (Cm.bound b hb) (fun x=>x)
  let F0:Nat→Prop:=fun q=>pS (Js s0).eE μ q∨(S q∧¬ S q)∨q=w.heap.size+1∨q=w.heap.size
  have Yf:∀ ν,Core (Js s0).eE a.tmps W1 S μ ν:=fun ν=>(cG ν).core.keep (fun _=>.inr rfl) hS1 (fun q hq=>Ud.block q (by obtain ⟨_,_,hb⟩:=(cG ν).core.pA hq; exact hb.lt) (fun x=>x)) Ud.size
  have Xp:DF w S zR S (Js s0).eE μ (yL .ready none) F0 W1:=⟨Cm.wL.mono (fun _ x=>x) hS1,fun _ x=>x,fun _ x=>.inl x,fun _ x=>.inl x,Ud.vV (fun _ x=>x.elim),hD1,hL1,fun h=>by have:=Cm.bound _ h; omega,fun h=>by have:=Cm.bound _ h; omega,fun q=>Iff.rfl⟩
  -- ONE adv
  have Yg:∀ i F W (vs:Array Value),i < (ys.map enc).length→J i F W→(∀ ν,cP W (fun _=>False) (fun _=>none) ν ((ys.map enc).getD i []) vs.toList)→YieldAt Fence.wide 0 g.P (w.heap.size+1) vs W fun e W'=>∃ F',(∀ b,F' b→F b∨W.heap.size≤b)∧(∀ b,F' b→b < W'.heap.size)∧Kept W W' F∧((e=.returned (.bool true)∧J (i+1) F' W')∨(e=.returned (.bool false)∧Jx F' W')):=by
    rintro i F W vs hi ⟨s,S1,μ1,dH,hIs,rj,hinv⟩ VP
    have fb:i < ys.length:=by simpa using hi
    obtain ⟨y,hy⟩:∃ y,ys[i]=y:=⟨_,rfl⟩
    have hym:y∈ys:=hy ▸ List.getElem_mem fb
    have hyi:ys[i]? = some y:=by rw [List.getElem?_eq_getElem fb,hy]
    have hgy:(ys.map enc).getD i []=enc y:=by simp [List.getD,fb,hy]
    rw [hgy] at VP
    obtain ⟨ht1,ZG⟩:=J3 fb dH
    rw [hy] at ht1 ZG
    have hlen:ps.toList.length=(enc y).length:=RR y hym
    have hvl:vs.size=ps.size:=by have:=(VP fun _=>false).1; simp at this hlen; omega
    have QP:=run_yield (P:=g.P) (args:=vs) hinv.dl (by rw [KZ]; exact hvl)
    rw [KZ] at QP
    refine ⟨_,_,_,_,QP,trivial,fun c zQ _=>?_⟩
    let br:Frame:={ (default:Frame) with fn:=b.fn,kind:=.normal,roundOf:=some (w.heap.size+1) }
    have tR:∀ tm,Frame.round (w.heap.size+1) b.fn tm Fe body .normal=br.atR { tmps:=tm,defers:=[] } [.code Fe,.beginRound,.code body]:=fun tm=>by simp [Frame.round,Frame.atR,br]
    -- it is acj to adK back with a bool
    suffices aas:∃ v w',(∃ F',(∀ b,F' b→F b∨W.heap.size≤b)∧(∀ b,F' b→b < w'.heap.size)∧Kept W w' F∧((v=.bool true∧J (i+1) F' w')∨(v=.bool false∧Jx F' w')))∧Steps g.P (lone (br.atR { tmps:=(ps.zip vs).foldl (fun t (p,v)=>t.setIfInBounds p v) a.tmps,defers:=[] } [.code Fe,.beginRound,.code body]) (c :: zQ) W) (lone (c.finish v) zQ w') by
      obtain ⟨v,w',⟨F',q1,q1b,q2,q3⟩,kE⟩:=aas
      refine ⟨.returned v,w',⟨F',q1,q1b,q2,?_⟩,?_⟩
      · rcases q3 with ⟨rfl,q⟩ | ⟨rfl,q⟩
        · exact .inl ⟨rfl,q⟩
        · exact .inr ⟨rfl,q⟩
      · rw [tR]
        exact stepsIn_wide.2 kE
    have Mf:=fun ν=>J4 (w:=W) (S:=fun _=>False) (μ:=fun _=>none) (ν:=ν) ps.toList (enc y) vs.toList a.tmps Xg hlen ZE (VP ν)
    have htm:(ps.zip vs).foldl (fun t (p,v)=>t.setIfInBounds p v) a.tmps=(ps.toList.zip vs.toList).foldl (fun t (p:Nat × Value)=>t.setIfInBounds p.1 p.2) a.tmps:=by
      rw [← Array.foldl_toList,Array.toList_zip]
    rw [htm]
    generalize hTM:(ps.toList.zip vs.toList).foldl (fun t (p:Nat × Value)=>t.setIfInBounds p.1 p.2) a.tmps=tm at Mf ⊢
    have aat:∀ (L:List Nat) (u:Nat),Px g.nt (J5.map (·.1)) L=true→u∈J5.map (·.1)→u ∉ L:=by
      intro L
      induction L with
      | nil=>intro u _ _ h; cases h
      | cons p L ih =>
        intro u h hu hm
        simp only [Px,Bool.and_eq_true] at h
        rcases List.mem_cons.1 hm with rfl | hm
        · exact any_beq h.1.1.2 hu
        · exact ih u h.2 hu hm
    have hpr:∀ u,u∈J5.map (·.1)→tm.getD u undef=a.tmps.getD u undef:=fun u hu=>(Mf fun _=>false).2.1 u (aat _ u Xg hu)
    -- JS state behind JS parameters
    have Yh:∀ ν,Core (St.eE ⟨v7 ps.toList (enc y)++J5,(Js s).lb⟩) tm W S1 μ1 ν:=fun ν=>by
      refine ⟨fun u=>?_,(rj ν).mem,(rj ν).inj,(rj ν).bound⟩
      simp only [St.eE,St.get,sD]
      cases h1:look (v7 ps.toList (enc y)) u with
      | some x=>exact ((Mf ν).2.2 u x h1).mono (fun _ x=>x.elim) (fun _ x=>x.elim) (fun _ _ e=>by cases e)
      | none =>
        simp only
        cases h2:look J5 u with
        | none=>exact .any _
        | some x =>
          have:=(rj ν).df u
          simp only [St.eE,ME,St.get,h2] at this
          rw [hpr u (nY h2)]
          exact this
    have K0:=rj fun _=>false
    have nlS:∀ {q:Nat} {r:Loop},W.heap[q]? = some (.loop r)→¬ pS (Js s).eE μ1 q:=fun e h=>by obtain ⟨_,_,hb⟩:=K0.pA h; exact hb.Fc e
    have ndS:∀ {q:Nat} {r:Option (List Deferred)},W.heap[q]? = some (.deferred r)→¬ pS (Js s).eE μ1 q:=fun e h=>by obtain ⟨_,_,hb⟩:=K0.pA h; exact hb.px e
    have hlW:w.heap.size+1 < W.heap.size:=(Array.getElem?_eq_some_iff.1 hinv.dl).1
    let C1:Cx:=Cx.at g.P g.nt W S1 (St.eE ⟨v7 ps.toList (enc y)++J5,(Js s).lb⟩) μ1 hinv.wL K0.mem K0.bound [] (fun d h=>by cases h) List.nodup_nil
    have Ue:iH C1 ⟨v7 ps.toList (enc y)++J5,(Js s).lb⟩ { tmps:=tm,defers:=[] } W:=⟨S1,μ1,fun ν=>(Yh ν).sim (Mf fun _=>false).1 _ _ _ _ _ _ rfl⟩
    let Rr:Value→World→Prop:=fun v w'=>∃ F',(∀ b,F' b→F b∨W.heap.size≤b)∧(∀ b,F' b→b < w'.heap.size)∧Kept W w' F∧((v=.bool true∧J (i+1) F' w')∨(v=.bool false∧Jx F' w'))
    let Z1:Cx→Frame→Cx→List Frame→Machine→Prop:=fun CC bb C' Ie m=>C'=CC→Ie=c :: zQ→bb=br→∃ v w',Rr v w'∧Steps g.P m (lone (c.finish v) zQ w')
    have zsc:∀ CC:Cx,∀ C' bb Ie m m',Steps g.P m m'→Z1 CC bb C' Ie m'→Z1 CC bb C' Ie m:=fun CC C' bb Ie m m' kE hz e1 e2 e3=>by
      obtain ⟨v,w',q1,q2⟩:=hz e1 e2 e3
      exact ⟨v,w',q1,kE.trans q2⟩
    have aau:∀ gg:Goal,gg.md=1→(br.roundOf=none↔gg.md≠1):=fun gg h=>⟨fun e=>by simp [br] at e,fun e=>absurd h e⟩
    refine aci s y a.tmps (fun C' bb Ie m=>Z1 C1 bb C' Ie m) (fun C' bb Ie m m'=>zsc C1 C' bb Ie m m') hym ?_ C1 rfl rfl _ W (fun u hu=>hpr u hu) Ue br (c :: zQ) HX rfl (aau _ rfl) rfl rfl rfl
    intro C' e1 e2 a1 W' hk1 hs1 bb Ie _ _ _ hCC zm Vs
    subst hCC; subst zm; subst Vs
    obtain ⟨S2,μ2,Nf⟩:=hs1
    have h2:=Nf fun _=>false
    have hkW:Kept W W' (pS (Js s).eE μ1):=h2.kept
    have Mg:W'.heap[w.heap.size+1]? = some (.loop (yL .ready none)):=(hkW.block _ hlW (nlS hinv.dl)).trans hinv.dl
    have hD':W'.heap[w.heap.size]? = some (.deferred (some [])):=(hkW.block _ (by omega) (ndS hinv.dD)).trans hinv.dD
    have ack:=run_beginRound (P:=g.P) Mg (by rw [KZ])
    have V4:Steps g.P (lone (br.atR a1 [.beginRound,.code body]) (c :: zQ) W') (lone (br.atR a1 [.code body]) (c :: zQ) (W'.putObj (w.heap.size+1) (.loop { yL .ready none with state:=.busy }))):=.one (stepR_beginRound rfl ack)
    obtain ⟨W2,Td⟩:∃ W2,W'.putObj (w.heap.size+1) (.loop { yL .ready none with state:=.busy })=W2:=⟨_,rfl⟩
    rw [Td] at V4
    have QZ:Kept W' W2 (fun q=>q=w.heap.size+1):=Td ▸ F4
    have Yi:W2.heap[w.heap.size+1]? = some (.loop { yL .ready none with state:=.busy }):=by rw [← Td]; exact World.putObj_heap_same (Array.getElem?_eq_some_iff.1 Mg).1
    have Yj:∀ q,S2 q→S1 q∨W.heap.size≤q∨pS (Js s).eE μ1 q:=h2.fresh
    have nl2:¬ S2 (w.heap.size+1):=fun h=>by
      rcases Yj _ h with q | q | q
      · exact hinv.nl q
      · omega
      · exact nlS hinv.dl q
    have nD2:¬ S2 w.heap.size:=fun h=>by
      rcases Yj _ h with q | q | q
      · exact hinv.nD q
      · omega
      · exact ndS hinv.dD q
    have Yk:∀ q,pS (V3 s y).eE μ2 q→W.heap.size≤q∨pS (Js s).eE μ1 q:=fun q hq=>h2.Nd hq
    have hS2:∀ q,S2 q→W2.heap[q]? = W'.heap[q]?:=fun q hq=>QZ.block q (h2.bound q hq) (fun e=>nl2 (e ▸ hq))
    have nO2:¬ pS (V3 s y).eE μ2 (w.heap.size+1):=fun h=>by obtain ⟨_,_,hb⟩:=h2.core.pA h; exact hb.Fc Mg
    have acm:¬ pS (V3 s y).eE μ2 w.heap.size:=fun h=>by obtain ⟨_,_,hb⟩:=h2.core.pA h; exact hb.px hD'
    have Py:∀ ν,Core (V3 s y).eE a1.tmps W2 S2 μ2 ν:=fun ν=>(Nf ν).core.keep (fun _=>.inr rfl) hS2 (fun q hq=>QZ.block q (by obtain ⟨_,_,hb⟩:=(Nf ν).core.pA hq; exact hb.lt) (fun e=>nO2 (e ▸ hq))) QZ.size
    have Yl:gT W2 S2:=h2.wL.mono (fun _ x=>x) hS2
    let C2:Cx:=Cx.at g.P g.nt W2 S2 (V3 s y).eE μ2 Yl (Py fun _=>false).mem (Py fun _=>false).bound [] (fun d h=>by cases h) List.nodup_nil
    have Ng:iH C2 (V3 s y) a1 W2:=⟨S2,μ2,fun ν=>(Py ν).sim h2.tmps _ _ _ _ _ _ h2.defers⟩
    suffices acn:Z1 C2 br C2 (c :: zQ) (lone (br.atR a1 [.code body]) (c :: zQ) W2) by
      obtain ⟨v,w',q1,q2⟩:=acn rfl rfl rfl
      exact ⟨v,w',q1,V4.trans q2⟩
    -- how a round ends
    have V5:∀ (Nh:St) (jump:Option Code) (a3:Act) (W3:World) (S3:Nat→Prop) (μ3:Mu),Nh.sl=J5→(∀ u,u∈J5.map (·.1)→a3.tmps.getD u undef=a.tmps.getD u undef)→(∀ ν,cE C2 Nh.eE a3 W3 S3 μ3 ν) →
        ∃ W4 F',(Instr.endRound (w.heap.size+1) jump).run g.P W3=.ok (.bool jump.isNone) W4∧(∀ b,F' b→F b∨W.heap.size≤b)∧(∀ b,F' b→b < W4.heap.size)∧Kept W W4 F∧(∀ ν,Core Nh.eE a.tmps W4 S3 μ3 ν)∧DF w S zR S3 Nh.eE μ3 (yL (if jump.isNone then .ready else .done) jump) F' W4:=by
      intro Nh jump a3 W3 S3 μ3 hE aco Ng
      have h3:=Ng fun _=>false
      have Ym:Kept W2 W3 (pS (V3 s y).eE μ2):=h3.kept
      have Yn:W3.heap[w.heap.size+1]? = some (.loop { yL .ready none with state:=.busy }):=(Ym.block _ (Array.getElem?_eq_some_iff.1 Yi).1 nO2).trans Yi
      have hD2:W2.heap[w.heap.size]? = some (.deferred (some [])):=(QZ.block _ (by have:=hkW.size; omega) (by omega)).trans hD'
      have hD3:W3.heap[w.heap.size]? = some (.deferred (some [])):=(Ym.block _ (Array.getElem?_eq_some_iff.1 hD2).1 acm).trans hD2
      have her:=run_endRound (P:=g.P) jump Yn
      obtain ⟨W4,hW4⟩:∃ W4,W3.putObj (w.heap.size+1) (.loop { ({ yL .ready none with state:=.busy }:Loop) with state:=if jump.isNone then .ready else .done,pending:=jump })=W4:=⟨_,rfl⟩
      rw [hW4] at her
      have Sh:Kept W3 W4 (fun q=>q=w.heap.size+1):=hW4 ▸ F4
      have aav:W.heap.size≤W2.heap.size:=Nat.le_trans hkW.size QZ.size
      have V6:∀ q,S3 q→S1 q∨W.heap.size≤q∨pS (Js s).eE μ1 q:=fun q hq=>by
        rcases h3.fresh q hq with h | h | h
        · exact Yj q h
        · exact .inr (.inl (Nat.le_trans aav h))
        · exact .inr (Yk q h)
      have aaw:∀ q,pS Nh.eE μ3 q→W.heap.size≤q∨pS (Js s).eE μ1 q:=fun q hq=>by
        rcases h3.Nd hq with h | h
        · exact .inl (Nat.le_trans aav h)
        · exact Yk q h
      have nl3:¬ S3 (w.heap.size+1):=fun h=>by
        rcases V6 _ h with q | q | q
        · exact hinv.nl q
        · omega
        · exact nlS hinv.dl q
      have nD3:¬ S3 w.heap.size:=fun h=>by
        rcases V6 _ h with q | q | q
        · exact hinv.nD q
        · omega
        · exact ndS hinv.dD q
      have nO3:¬ pS Nh.eE μ3 (w.heap.size+1):=fun h=>by obtain ⟨_,_,hb⟩:=h3.core.pA h; exact hb.Fc Yn
      have hS4:∀ q,S3 q→W4.heap[q]? = W3.heap[q]?:=fun q hq=>Sh.block q (h3.bound q hq) (fun e=>nl3 (e ▸ hq))
      have hwW:w.heap.size≤W.heap.size:=hinv.kept.size
      have hKF:Kept W W4 F:=by
        refine ((((hkW.vV (fun q hq=>(hinv.F q).2 (.inl hq))).trans QZ (T':=fun q=>q=w.heap.size+1) (fun q _ e=>(hinv.F q).2 (.inr (.inr (.inl e))))).trans Ym (fun q hq h=>?_)).trans Sh (fun q _ e=>(hinv.F q).2 (.inr (.inr (.inl e)))))
        rcases Yk q h with h | h
        · omega
        · exact (hinv.F q).2 (.inl h)
      refine ⟨W4,fun q=>pS Nh.eE μ3 q∨(S3 q∧¬ S q)∨q=w.heap.size+1∨q=w.heap.size,her,fun q hq=>?_,fun q hq=>?_,hKF,fun ν=>?_,?_⟩
      · rcases hq with h | ⟨h,oO⟩ | h | h
        · exact (aaw q h).symm.imp (fun h=>(hinv.F q).2 (.inl h)) (fun x=>x)
        · rcases V6 q h with h | h | h
          · exact .inl ((hinv.F q).2 (.inr (.inl ⟨h,oO⟩)))
          · exact .inr h
          · exact .inl ((hinv.F q).2 (.inl h))
        · exact .inl ((hinv.F q).2 (.inr (.inr (.inl h))))
        · exact .inl ((hinv.F q).2 (.inr (.inr (.inr h))))
      · have adL:=Sh.size
        have h3l:=(Array.getElem?_eq_some_iff.1 Yn).1
        rcases hq with h | ⟨h,_⟩ | h | h
        · obtain ⟨_,_,hb⟩:=h3.core.pA h
          have:=hb.lt
          omega
        · have:=h3.bound q h
          omega
        · omega
        · omega
      · refine (Ng ν).core.keep (fun u=>?_) hS4 (fun q hq=>Sh.block q (by obtain ⟨_,_,hb⟩:=(Ng ν).core.pA hq; exact hb.lt) (fun e=>nO3 (e ▸ hq))) Sh.size
        simp only [St.eE,hE,St.get]
        cases uY:look J5 u with
        | none=>exact .inl rfl
        | some x=>exact .inr (aco u (nY uY)).symm
      · refine ⟨h3.wL.mono (fun _ x=>x) hS4,fun q hq=>h3.dG q (h2.dG q (hinv.sub q hq)),fun q hq=>?_,fun q hq=>?_,?_,(Sh.block _ (Array.getElem?_eq_some_iff.1 hD3).1 (by omega)).trans hD3,?_,nD3,nl3,fun q=>Iff.rfl⟩
        · rcases V6 q hq with h | h | h
          · exact hinv.new q h
          · exact .inr (.inl (Nat.le_trans hwW h))
          · exact .inr (hinv.own q h).symm
        · rcases aaw q hq with h | h
          · exact .inr (Nat.le_trans hwW h)
          · exact hinv.own q h
        · refine hinv.kept.trans hKF (fun q hq h=>?_)
          rcases (hinv.F q).1 h with h | ⟨h,oO⟩ | h | h
          · exact (hinv.own q h).resolve_right (by omega)
          · rcases hinv.new q h with h | h | h
            · exact absurd h oO
            · omega
            · exact h
          · omega
          · omega
        · rw [← hW4]
          have:=World.putObj_heap_same (o:=.loop { ({ yL .ready none with state:=.busy }:Loop) with state:=if jump.isNone then .ready else .done,pending:=jump }) (Array.getElem?_eq_some_iff.1 Yn).1
          rw [this,KZ]
    refine aar i s y a.tmps (fun C' bb Ie m=>Z1 C2 bb C' Ie m) (fun C' bb Ie m m'=>zsc C2 C' bb Ie m m') hIs hyi ?_ C2 rfl rfl a1 W2 hk1 Ng br (c :: zQ) HX rfl (aau _ rfl)
    cases kE:step s y with
    | inr s' =>
      simp only
      intro C' e1 e2 a3 W3 hk3 hs3 bb Ie _ _ _ hCC zm Vs
      subst hCC; subst zm; subst Vs
      obtain ⟨S3,μ3,Pz⟩:=hs3
      obtain ⟨W4,F',q1,q2,q2b,q3,q4,q5⟩:=V5 (Js s') none a3 W3 S3 μ3 (ME s') (fun u hu=>hk3 u hu) Pz
      have acp:I (i+1) s':=by have:=hI i s y hIs hyi; rw [kE] at this; exact this
      exact ⟨.bool true,W4,⟨F',q2,q2b,q3,.inl ⟨rfl,s',S3,μ3,by rw [ht1,kE],acp,q4,q5⟩⟩,.one (stepR_round_end rfl rfl q1)⟩
    | inl bv =>
      simp only
      intro k' hx C' e1 e2 a3 W3 hk3 hs3 bb Ie _ _ _ hCC zm Vs
      subst hCC; subst zm; subst Vs
      obtain ⟨S3,μ3,Pz⟩:=hs3
      obtain ⟨W4,F',q1,q2,q2b,q3,q4,q5⟩:=V5 (Jb bv) (some (.exit id)) a3 W3 S3 μ3 (hbl bv) (fun u hu=>hk3 u hu) Pz
      exact ⟨.bool false,W4,⟨F',q2,q2b,q3,.inr ⟨rfl,bv,S3,μ3,ZG bv kE,q4,q5⟩⟩,.one (stepR_round_exit rfl rfl hx q1)⟩
  -- THE adM
  have aax:=Vu.2 W1 S μ wH (w.heap.size+1) J Jx F0 (fun b hb=>Nat.lt_of_lt_of_le (Cm.bound b hb) Ud.size) Xp.wL (fun ν=>⟨(hrc ν).1,fun i hi=>((hrc ν).2 i hi).mono (fun _ x=>x) hS1 (fun _ _ e=>e)⟩)
    (fun q hq h=>by
      rcases h with h | ⟨_,h⟩ | h | h
      · obtain ⟨_,_,hb⟩:=Cm.core.pA h
        exact hb.not hq
      · exact h hq
      · have:=Cm.bound q hq; omega
      · have:=Cm.bound q hq; omega)
    (fun q h=>by
      rcases h with h | ⟨h,h'⟩ | h | h
      · obtain ⟨_,_,hb⟩:=Cm.core.pA h
        have:=hb.lt
        omega
      · exact absurd h h'
      · omega
      · omega)
    (fun i F W W' hJ sn=>by
      obtain ⟨s,S1,μ1,q1,q2,q3,q4⟩:=hJ
      obtain ⟨r1,r2⟩:=q4.keep q3 (n:=W1.heap.size) (by omega) sn
      exact ⟨s,S1,μ1,q1,q2,r2,r1⟩)
    (fun F W W' hJ sn=>by
      obtain ⟨s,S1,μ1,q1,q3,q4⟩:=hJ
      obtain ⟨r1,r2⟩:=q4.keep q3 (n:=W1.heap.size) (by omega) sn
      exact ⟨s,S1,μ1,q1,r2,r1⟩)
    Yg ⟨s0,S,μ,by simp [mS],hI0,Yf,Xp⟩
  let fr1:Frame:=b.atR { a with defers:=[{ target:=.collected w.heap.size,args:=#[] }]++a.defers } (.inRangeFunc (w.heap.size+1) :: k)
  obtain ⟨e,w',fr,⟨⟨v,rfl⟩,hJJ⟩,Yo,adN,Yp⟩:=aax (fr1 :: cs)
  have Tm:(Instr.enterLoop b.fn a.tmps ps Fe body b.roundOf).run g.P w=.ok (w.heap.size+1,[{ target:=.collected w.heap.size,args:=#[] }]) W1:=by
    rw [TM,← hW1,KZ]; exact run_enterLoop_outer _ _ _ _ _
  have TG:(resolve a.eval (rangeCall (.tmp t) (w.heap.size+1)) 0).run g.P W1=.ok { target:=.fn (.func gf) wH,args:=#[.func (.yield (w.heap.size+1)) #[] #[]] } W1:=by
    have:a.eval (.tmp t)=.func (.func gf) #[] wH:=hfv
    simp only [resolve,this]
    simp [go_sem]
  have aay:(invoke (.fn (.func gf) wH) #[.func (.yield (w.heap.size+1)) #[] #[]]).run g.P W1=.ok (.enter gf (#[.func (.yield (w.heap.size+1)) #[] #[]]++wH)) W1:=by
    have eg:=fun args=>vc (w:=W1) Vu.1 args
    simp [invoke,go_sem,eg]
  have acq:Steps g.P (lone (b.atR a (.code (.rangeFunc (.tmp t) ps Fe body) :: k)) cs w) (lone (Frame.enter g.P gf (#[.func (.yield (w.heap.size+1)) #[] #[]]++wH) .normal) (fr1 :: cs) W1):=.one (stepR_rangeFunc Tm TG aay)
  have V4:Steps g.P (lone (b.atR a (.code (.rangeFunc (.tmp t) ps Fe body) :: k)) cs w) (lone (b.atR { a with defers:=[{ target:=.collected w.heap.size,args:=#[] }]++a.defers } (.endRangeFunc (w.heap.size+1) :: k)) cs w'):=by
    refine acq.trans (Steps.trans Yo (.one ?_))
    rw [← finish_atR_inRangeFunc (w.heap.size+1) v]
    exact step_leave_returned Yp
  -- Ca comes then
  have Uf:∀ (Nh:St) (S1:Nat→Prop) (μ1:Mu) (r:Loop) (F:Nat→Prop) (k':List Item),(∀ ν,Core Nh.eE a.tmps w' S1 μ1 ν)→DF w S zR S1 Nh.eE μ1 r F w'→r.state≠.busy→(r.pending.map Item.code).toList++k=k'→G g k' Nh→g.Z C b cs (lone (b.atR a (.code (.rangeFunc (.tmp t) ps Fe body) :: k)) cs w):=by
    intro Nh S1 μ1 r F k' rj hinv aaz sn hG
    have hel:=run_endLoop (P:=g.P) hinv.dl aaz
    have Yq:=Steps.trans V4 (.one (stepR_endRangeFunc hel))
    rw [sn] at Yq
    obtain ⟨W5,hW5⟩:∃ W5,w'.putObj (w.heap.size+1) (.loop { r with state:=.exhausted })=W5:=⟨_,rfl⟩
    rw [hW5] at Yq
    have QZ:Kept w' W5 (fun q=>q=w.heap.size+1):=hW5 ▸ F4
    have Tt:=rj fun _=>false
    have nO:¬ pS Nh.eE μ1 (w.heap.size+1):=fun h=>by obtain ⟨_,_,hb⟩:=Tt.pA h; exact hb.Fc hinv.dl
    have hS5:∀ q,S1 q→W5.heap[q]? = w'.heap[q]?:=fun q hq=>QZ.block q (Tt.bound q hq) (fun e=>hinv.nl (e ▸ hq))
    have PA:∀ ν,Core Nh.eE a.tmps W5 S1 μ1 ν:=fun ν=>(rj ν).keep (fun _=>.inr rfl) hS5 (fun q hq=>QZ.block q (by obtain ⟨_,_,hb⟩:=(rj ν).pA hq; exact hb.lt) (fun e=>nO (e ▸ hq))) QZ.size
    have hk5:Kept w W5 zR:=hinv.kept.trans QZ (fun q hq e=>by omega)
    have acr:w.heap.size < w'.heap.size:=(Array.getElem?_eq_some_iff.1 hinv.dD).1
    have acs:∀ d,d∈[({ target:=.collected w.heap.size,args:=#[] }:Deferred)]++a.defers→∃ q,d = { target:=.collected q,args:=#[] }∧W5.heap[q]? = some (.deferred (some []))∧¬ S1 q:=by
      intro d hd
      rcases List.mem_append.1 hd with hd | hd
      · simp only [List.mem_singleton] at hd
        exact ⟨w.heap.size,hd,(QZ.block _ acr (by omega)).trans hinv.dD,hinv.nD⟩
      · rw [Cm.defers] at hd
        obtain ⟨q,e,q1,q2⟩:=Cm.Sc d hd
        have hq:=(Array.getElem?_eq_some_iff.1 q1).1
        have nq:¬ zR q:=fun h=>by obtain ⟨_,_,hb⟩:=Cm.core.pA h; exact hb.px q1
        refine ⟨q,e,(hk5.block q hq nq).trans q1,fun h=>?_⟩
        rcases hinv.new q h with h | h | h
        · exact q2 h
        · omega
        · exact nq h
    have acu:([({ target:=.collected w.heap.size,args:=#[] }:Deferred)]++a.defers).Nodup:=by
      refine List.nodup_cons.2 ⟨fun hd=>?_,by rw [Cm.defers]; exact C.Xc⟩
      rw [Cm.defers] at hd
      obtain ⟨q,e,q1,q2⟩:=Cm.Sc _ hd
      cases e
      have:=(Array.getElem?_eq_some_iff.1 q1).1
      omega
    let C5:Cx:=Cx.at g.P g.nt W5 S1 Nh.eE μ1 (hinv.wL.mono (fun _ x=>x) hS5) (PA fun _=>false).mem (PA fun _=>false).bound _ acs acu
    have aaA:iH C5 Nh { a with defers:=[{ target:=.collected w.heap.size,args:=#[] }]++a.defers } W5:=⟨S1,μ1,fun ν=>Core.sim (a:={ a with defers:=[{ target:=.collected w.heap.size,args:=#[] }]++a.defers }) (PA ν) ZE _ _ _ _ _ _ rfl⟩
    have Yr:∀ q,zR q→C.w0.heap.size≤q∨C.T0 q:=fun q hq=>Cm.Nd hq
    have hw0:C.w0.heap.size≤w.heap.size:=Cm.kept.size
    refine g.zs C b cs _ _ Yq (hz (C':=C5) ⟨fun q hq=>hinv.sub q (Cm.dG q hq),fun q hq=>?_,Cm.kept.trans hk5 (fun q hq h=>(Yr q h).resolve_left (by omega)),fun q hq=>?_⟩ (hG C5 rfl rfl { a with defers:=[{ target:=.collected w.heap.size,args:=#[] }]++a.defers } W5 O0 aaA b cs HX wI Fb))
    · rcases hinv.new q hq with h | h | h
      · exact Cm.fresh q h
      · exact .inr (.inl (Nat.le_trans hw0 h))
      · exact .inr (Yr q h)
    · rcases hq with h | h
      · rcases hinv.own q h with h | h
        · exact ((Yr q h).imp (fun x=>x) .inl).symm
        · exact .inr (Nat.le_trans hw0 h)
      · rcases List.mem_append.1 h with h | h
        · simp only [List.mem_singleton,Deferred.mk.injEq,Target.collected.injEq,and_true] at h
          subst h
          exact .inr hw0
        · rw [Cm.defers] at h
          exact .inl (.inr h)
  rcases hJJ with ⟨F,s,S1,μ1,q1,q2,q3,q4⟩ | ⟨F,bv,S1,μ1,q1,q3,q4⟩
  · have q1:mS step ys s0=.inr s:=by
      have e:ys.take (ys.map enc).length=ys:=by simp
      rw [e] at q1; exact q1
    rw [q1] at hk
    exact Uf (Js s) S1 μ1 _ F k q3 q4 (by rw [KZ]; simp) (by rw [KZ]; rfl) hk
  · rw [q1] at hk
    exact Uf (Jb bv) S1 μ1 _ F _ q3 q4 (by rw [KZ]; simp) (by rw [KZ]; rfl) hk

end
def Ug (ops:Array Oper):Option (Nat × Nat × Nat × Nat × Nat × Nat) :=
 match ops.toList with
 | [o1,o2,o3,o4]=>(match o1.op,o1.dst,o1.guard,o2.op,o2.dst,o2.guard with
  | .move (.tmp ts),some d1,none,.move (.tmp ti),some d2,none=>(match o3.op,o3.dst,o3.guard,o4.op,o4.dst,o4.guard with
   | .slice ty (.tmp a) (some (.tmp b)) none none,some d3,none,.call { callee:=.builtin .clear,args:=xs,argTypes:=tys,.. },none,none=>(match xs.toList,tys.toList with
    | [.tmp c],[ty']=>bif Nat.beq a d1&&Nat.beq b d2&&Nat.beq c d3&&Nat.beq ty ty'&&!Nat.beq d1 d2&&!Nat.beq ti d1 then some (ts,ti,ty,d1,d2,d3) else none
    | _,_=>none)
   | _,_,_,_,_,_=>none)
  | _,_,_,_,_,_=>none)
 | _=>none
def vg (x:Nat) (f:Nat→List D) (z:List D):Nat→List D:=fun q=>if q < x then f q else z
section
variable {C : Cx} {A : M} {a : Act} {w : World} {S : Nat → Prop} {μ : Mu} {ν : Nat → Bool}
theorem Ig {P:Program} {t e ty:TypeId} {j:TypeInfo} {z:Value} {i:TI} (F:QJ P e i j z) (tg:i.zero.all wu=true) (hu:P.underlying t=some (.slice e)) {g off m c:Nat} {cur:Array Value} {e':TypeId} (hm:0 < m)
  (hg:w.heap[g]? = some (.cells cur e' (0,0))) (hle:off+m * i.size≤cur.size) :
  (Builtin.clear_ #[t] ty #[.slice (some ⟨g,off,none⟩) m c]).run P w=.ok (.tuple #[]) (w.setRow g (cur.toList.take off++(Builtin.zeroCells z.cells m).toList++cur.toList.drop (off+m * i.size)).toArray):=by
 obtain ⟨q1,q2⟩:=iD (w:=w) (S:=fun _=>False) F.Vq
 have VS:z.cells.size=i.size:=by have:=q1; simp only [Array.length_toList] at this; rw [this,F.zF]
 have hlen:(Builtin.zeroCells z.cells m).toList.length=m * i.size:=by simp [Builtin.zeroCells,VS]
 have kE:=run_storeCells_at P g off e' (Builtin.zeroCells z.cells m).toList 0 cur w hg (by rw [hlen]; omega) (fun v hv=>by
  simp only [Builtin.zeroCells,VS] at hv
  obtain ⟨q,hq,rfl⟩:∃ q,q < m * i.size∧z.cells[q % i.size]! = v:=by simpa using hv
  have Ia:0 < i.size:=by
   rcases Nat.eq_zero_or_pos i.size with h0 | h0
   ·rw [h0] at hq; simp at hq
   ·exact h0
  have di:q % i.size < i.size:=Nat.mod_lt _ Ia
  have h2:=q2 (q % i.size) (by rw [F.zF]; exact di)
  have H5:q % i.size < z.cells.size:=by omega
  rw [getElem!_pos z.cells _ H5]
  have e1:z.cells.toList.getD (q % i.size) undef=z.cells[q % i.size]:=by simp [List.getD,H5]
  rw [e1] at h2
  simp only [List.all_eq_true] at tg
  exact AM (tg _ (by simp [List.getD,F.zF,di])) h2)
 simp only [Nat.add_zero,hlen] at kE
 obtain ⟨m',rfl⟩:∃ m',m=m'+1:=⟨m - 1,by omega⟩
 simp only [Builtin.clear_,List.getElem?_toArray,List.getElem?_cons_zero,Sem.run_bind,run_underlying hu,Result.andThen_ok,zeroValue,typeInfo,run_program,F.info,Sem.run_pure,F.zero,kE]
theorem F5 {P:Program} {t e ty:TypeId} (hu:P.underlying t=some (.slice e)) (ad:Option Addr) (c:Nat):(Builtin.clear_ #[t] ty #[.slice ad 0 c]).run P w=.ok (.tuple #[]) w:=by
 cases ad <;> simp [Builtin.clear_,run_underlying hu]
theorem Ni {o:Oper} (h:o.guard=none) (y):Region.wanted o y=true:=by simp [Region.wanted,h]
theorem cE.acv {st:St} (cG:∀ ν,cE C st.eE a w S μ ν) {d1 d2 d3:Nat} (v1 v2 v3:Value) :
  ∀ ν,cE C (St.eE ⟨aL [d1,d2,d3] st.sl,st.lb⟩) (((a.put (some d1) v1).put (some d2) v2).put (some d3) v3) w S μ ν:=fun ν=>by
 have h:=cG ν
 refine ⟨by simp [Act.put,h.tmps],h.defers,fun u=>?_,h.mem,h.inj,h.own,h.dG,h.fresh,h.bound,h.kept⟩
 simp only [St.eE,St.get,kh]
 by_cases hn:u∈[d1,d2,d3]
 ·rw [if_pos hn]
  exact .any _
 ·rw [if_neg hn]
  simp only [List.mem_cons,List.not_mem_nil,or_false,not_or] at hn
  simp only [Act.put]
  rw [cw _ _ _ _ hn.2.2,cw _ _ _ _ hn.2.1,cw _ _ _ _ hn.1]
  have:=h.df u
  simp only [St.eE,St.get] at this
  exact this
end
theorem Ff {P:Program} {ops:Array Oper} {Q:Exit→Act→World→Prop} {i:Nat} {rest:List Nat} {a:Act} {w w':World} {o:Oper} {v:Value} (ho:ops[i]? = some o) (hg:o.guard=none) (dH:(execOp a.eval o).run P w=.ok (.value v) w') (h:wpOps P ops Q rest (a.put o.dst v) w'):wpOps P ops Q (i :: rest) a w:=by
 simp only [wpOps,ho,Ni hg,if_true]
 left
 unfold Oper.wp
 rw [dH]
 exact h
section
variable {g : Goal}
theorem G.K1 (hT:la g.P g.T) (hm:g.P.follows .mixedOrders=true) {K:List Item} {st:St} {id:Nat} {ops:Array Oper} {ts ti ty d1 d2 d3 κ e k n:Nat} {f:Nat→List D} {x:Int} {it i:TI} (Pt:D8 g.md g.pr ops=true) (mT:Ug ops=some (ts,ti,ty,d1,d2,d3)) (Te:d1 < g.nt) (Vx:d2 < g.nt) (hd3:d3 < g.nt)
  (hs:St.get st.sl ts=.own κ n) (hi:St.get st.sl ti=.d (.v (.int .i64 x))) (hl:look st.lb κ=some (.row e k n f)) (ht:look g.T ty=some it) (hk:it.kind=.slice e) (he:look g.T e=some i) (sn:k=i.size) (tg:i.zero.all wu=true)
  (h0:0≤x) (h1:x≤n) (hg:G g K ⟨aL [d1,d2,d3] st.sl,(κ,.row e k n (vg x.toNat f i.zero)) :: aL [κ] st.lb⟩):G g (.code (.region id ops false) :: K) st:=by
 intro C c1 c2 a w O0 hsb
 suffices hw:wpOps C.P ops (fun e' a' w'=>e'=.normal∧iH C ⟨aL [d1,d2,d3] st.sl,(κ,.row e k n (vg x.toNat f i.zero)) :: aL [κ] st.lb⟩ a' w') (List.range ops.size) a w by
  rw [c1] at hw
  exact G.ops hm Pt O0 (.inl ⟨rfl,hw⟩) (fun a' w' eW wO=>hg C c1 c2 a' w' eW wO)
 obtain ⟨S,μ,cG⟩:=hsb
 have hz:=cG fun _=>false
 rw [← c2] at Te Vx hd3
 rw [← c1] at hT
 subst sn
 unfold Ug at mT
 split at mT
 ·rename_i o1 o2 o3 o4 V7
  split at mT
  ·rename_i Q3 Tf ti' d2' q1 q2 q3 q4 q5 q6
   split at mT
   ·rename_i Ys a' b' d3' xs tys r1 r2 r3 r4 r5 r6
    split at mT
    ·rename_i c' ty2 hx K2
     rw [Bool.cond_eq_ite] at mT
     split at mT
     ·rename_i Vs
      simp only [Bool.and_eq_true,Bool.not_eq_true'] at Vs
      obtain ⟨⟨⟨⟨⟨b1,b2⟩,b3⟩,b4⟩,b5⟩,b6⟩:=Vs
      have b1:=Nat.eq_of_beq_eq_true b1
      have b2:=Nat.eq_of_beq_eq_true b2
      have b3:=Nat.eq_of_beq_eq_true b3
      have b4:=Nat.eq_of_beq_eq_true b4
      subst b1; subst b2; subst b3; subst b4
      simp only [Option.some.injEq,Prod.mk.injEq] at mT
      obtain ⟨rfl,rfl,rfl,rfl,rfl,rfl⟩:=mT
      have n5:a'≠b':=fun e=>by rw [e,Nat.beq_refl] at b5; cases b5
      have n6:ti'≠a':=fun e=>by rw [e,Nat.beq_refl] at b6; cases b6
      have mT:ops = #[o1,o2,o3,o4]:=by cases ops; simpa using V7
      have VO:xs = #[.tmp c']:=by cases xs; simpa using hx
      have acw:tys = #[Ys]:=by cases tys; simpa using K2
      subst mT; subst VO; subst acw
      show wpOps C.P #[o1,o2,o3,o4] _ [0,1,2,3] a w
      have gS:∀ (a:Act) (d:Option Nat) (x:Value),(a.put d x).tmps.size=a.tmps.size:=fun a d x=>by cases d <;> simp [Act.put]
      have Si:∀ (a:Act) (d:Nat) (x:Value),a.tmps.size=C.nt→d < C.nt→(a.put (some d) x).eval (.tmp d)=x:=fun a d x h1 h2=>by
       show (a.tmps.setIfInBounds d x).getD d undef=x
       exact fK _ _ _ (by rw [h1]; exact h2)
      have aaB:∀ (a:Act) (d u:Nat) (x:Value),u≠d→(a.put (some d) x).eval (.tmp u)=a.eval (.tmp u):=fun a d u x h=>by
       show (a.tmps.setIfInBounds d x).getD u undef=a.tmps.getD u undef
       exact cw _ _ _ _ h
      have tsz:=hz.tmps
      have VR:=hz.df Q3
      simp only [St.eE,hs] at VR
      have VR:Rel w S μ (fun _=>false) (.own κ n) (a.eval (.tmp Q3)):=VR
      have Tc:=hz.df ti'
      simp only [St.eE,hi] at Tc
      have Tc:a.eval (.tmp ti')=.int .i64 x:=dj Tc
      obtain ⟨tj,z,F⟩:=aw (hT _ _ ht)
      have sn:=F.kind
      rw [hk] at sn
      have hu:=dq sn
      obtain ⟨ej,ez,E⟩:=aw (hT _ _ he)
      refine Ff (o:=o1) rfl q3 (v:=a.eval (.tmp Q3)) (w':=w) (by simp [execOp,q1]) ?_
      rw [q2]
      refine Ff (o:=o2) rfl q6 (v:=.int .i64 x) (w':=w) (by simp [execOp,q4,aaB _ _ _ _ n6,Tc]) ?_
      rw [q5]
      have ea:((a.put (some a') (a.eval (.tmp Q3))).put (some b') (.int .i64 x)).eval (.tmp a')=a.eval (.tmp Q3):=by rw [aaB _ _ _ _ n5,Si _ _ _ tsz Te]
      have eb:((a.put (some a') (a.eval (.tmp Q3))).put (some b') (.int .i64 x)).eval (.tmp b')=.int .i64 x:=Si _ _ _ (by rw [gS]; exact tsz) Vx
      have iG:=hz.mem κ _ hl
      have kE:(St.eE ⟨st.sl,(κ,.row e i.size n (vg x.toNat f i.zero)) :: aL [κ] st.lb⟩)=st.eE.set κ (some (.row e i.size n (vg x.toNat f i.zero))):=by
       unfold St.eE M.set
       congr 1
       funext q
       rw [bq,kh]
       by_cases hq:κ=q
       ·subst hq; simp
       ·have:q ∉ [κ]:=by simp; exact fun e=>hq e.symm
        have D4:¬ q=κ:=fun e=>hq e.symm
        simp [hq,D4]
      have fin:∀ (v3:Value) (w':World),(∀ ν,cE C (st.eE.set κ (some (.row e i.size n (vg x.toNat f i.zero)))) a w' S μ ν)→iH C ⟨aL [a',b',c'] st.sl,(κ,.row e i.size n (vg x.toNat f i.zero)) :: aL [κ] st.lb⟩ (((a.put (some a') (a.eval (.tmp Q3))).put (some b') (.int .i64 x)).put (some c') v3) w':=fun v3 w' h =>
       ⟨S,μ,cE.acv (st:=⟨st.sl,(κ,.row e i.size n (vg x.toNat f i.zero)) :: aL [κ] st.lb⟩) (fun ν=>by rw [kE]; exact h ν) _ _ v3⟩
      have same:x.toNat=n→∀ ν,cE C (st.eE.set κ (some (.row e i.size n (vg x.toNat f i.zero)))) a w S μ ν:=fun hxn ν=>by
       refine (cG ν).weaken (fun t v hv=>hv) (fun κ' b' kC=>?_)
       simp only [M.set] at kC
       by_cases hq:κ'=κ
       ·simp only [hq,if_true,Option.some.injEq] at kC
        subst kC
        refine ⟨.row e i.size n f,by rw [hq]; exact hl,fun y hy=>?_⟩
        cases y with
        | none=>exact hy
        | some y =>
         cases y with
         | none=>exact hy
         | some gc =>
          obtain ⟨gg,cap⟩:=gc
          obtain ⟨cur,y1,y2,y3,y4,y5,y6⟩:=hy.at
          refine cD.ok (b:=.row e i.size n _) ⟨cur,y1,y2,y3,y4,y5,fun q D4=>?_⟩
          have:vg x.toNat f i.zero q=f q:=by simp only [vg]; rw [if_pos (by omega)]
          rw [this]
          exact y6 q D4
       ·simp only [hq,if_false] at kC
        exact ⟨b',kC,fun _ hy=>hy⟩
      have D3:∀ w,(sizeOf e).run C.P w=.ok i.size w:=fun w=>by simp [sizeOf,typeInfo,E.info,E.size]
      have ME:∀ (ad:Option Addr) (m cap:Nat),x≤m→m≤cap→(Instr.sliceAt Ys (.slice ad m cap) (some (.int .i64 x)) none none).run C.P w=.ok (.slice (if cap=x.toNat then ad else ad.map (·.add (x.toNat * i.size))) (m - x.toNat) (cap - x.toNat)) w:=fun ad m cap Ea Yt=>by
       have q1:∀ (k:IntKind) (i:Int) (y:Nat) (c:BoundsCode),0≤i→i≤y→(Instr.sliceBound (.int k i) y c).run C.P w=.ok i.toNat w:=fun k i y c h0 h1=>run_sliceBound w k i y c h0 h1
       simp (disch:=omega) [Instr.sliceAt,run_underlying hu,Instr.slice,Instr.sliceBounds,q1,D3]
      have aaC:∀ v,(Instr.sliceAt Ys (a.eval (.tmp Q3)) (some (.int .i64 x)) none none).run C.P w=.ok v w→(execOp ((a.put (some a') (a.eval (.tmp Q3))).put (some b') (.int .i64 x)).eval o3).run C.P w=.ok (.value v) w:=fun v hv=>by
       simp only [execOp,r1,ea,eb,Option.map_some,Option.map_none,Sem.run_bind,hv,Result.andThen_ok,Sem.run_pure]
      have ec:∀ v3,(((a.put (some a') (a.eval (.tmp Q3))).put (some b') (.int .i64 x)).put (some c') v3).eval (.tmp c')=v3:=fun v3=>Si _ _ _ (by rw [gS,gS]; exact tsz) hd3
      have aaD:∀ v3 w',(Builtin.clear_ #[Ys] o4.type #[v3]).run C.P w=.ok (.tuple #[]) w'→(execOp (((a.put (some a') (a.eval (.tmp Q3))).put (some b') (.int .i64 x)).put (some c') v3).eval o4).run C.P w=.ok (.value (.tuple #[])) w':=fun v3 w' hv=>by
       simp [execOp,r4,resolve,invoke,ec,builtin,hv]
      have done:∀ v3 w',(Instr.sliceAt Ys (a.eval (.tmp Q3)) (some (.int .i64 x)) none none).run C.P w=.ok v3 w→(Builtin.clear_ #[Ys] o4.type #[v3]).run C.P w=.ok (.tuple #[]) w'→(∀ ν,cE C (st.eE.set κ (some (.row e i.size n (vg x.toNat f i.zero)))) a w' S μ ν) →
        wpOps C.P #[o1,o2,o3,o4] (fun e' aa w'=>e'=.normal∧iH C ⟨aL [a',b',c'] st.sl,(κ,.row e i.size n (vg x.toNat f i.zero)) :: aL [κ] st.lb⟩ aa w') [2,3] ((a.put (some a') (a.eval (.tmp Q3))).put (some b') (.int .i64 x)) w:=fun v3 w' x1 x2 x3=>by
       refine Ff (o:=o3) rfl r3 (aaC v3 x1) ?_
       rw [r2]
       refine Ff (o:=o4) rfl r6 (aaD v3 w' x2) ?_
       rw [r5]
       exact ⟨rfl,fin v3 w' x3⟩
      generalize adO:a.eval (.tmp Q3)=sv at VR done
      cases VR with
      | @cu _ ad hμ =>
       refine done _ w (ME ad 0 0 (by omega) (Nat.le_refl _)) ?_ (same (by omega))
       have:0 - x.toNat=0:=by omega
       rw [this]
       exact F5 hu _ _
      | @own _ _ gg cap hμ =>
       rw [hμ] at iG
       obtain ⟨cur,hgc,oO,zm,ML,H9,lh⟩:=iG.at
       rcases Nat.lt_or_ge x.toNat n with di | XY
       ·have e3:(if cap=x.toNat then some (⟨gg,0,none⟩:Addr) else (some (⟨gg,0,none⟩:Addr)).map (·.add (x.toNat * i.size)))=some ⟨gg,x.toNat * i.size,none⟩:=by
         rw [if_neg (by omega)]
         simp [fU]
        have hmul:x.toNat * i.size+(n - x.toNat) * i.size=n * i.size:=by rw [← Nat.add_mul]; congr 1; omega
        have hle:x.toNat * i.size+(n - x.toNat) * i.size≤cur.size:=by rw [hmul,zm]; exact Nat.mul_le_mul_right _ ML
        have V8:ez.cells.size=i.size:=by have:=(iD (w:=w) (S:=S) E.Vq).1; simp only [Array.length_toList] at this; rw [this,E.zF]
        have Xq:(Builtin.zeroCells ez.cells (n - x.toNat)).toList.length=(n - x.toNat) * i.size:=by simp [Builtin.zeroCells,V8]
        have dH:=Ig (P:=C.P) (t:=Ys) (ty:=o4.type) (c:=cap - x.toNat) E tg hu (by omega:0 < n - x.toNat) hgc hle
        refine done _ _ ((ME _ n cap h1 ML).trans (by rw [e3])) dH (fun ν=>(cG ν).write hl hμ (b':=.row e i.size n _) ⟨_,setRow_heap w gg cur _ e _ hgc,oO,?_,ML,H9,fun q hq=>⟨?_,fun j hj=>?_⟩⟩)
        ·simp only [List.size_toArray,List.length_append,List.length_take,List.length_drop,Array.length_toList,Xq]
         have:n * i.size≤cap * i.size:=Nat.mul_le_mul_right _ ML
         omega
        ·simp only [vg]
         split
         ·exact (lh q hq).1
         ·exact E.zF
        ·have hqj:q * i.size+j < n * i.size:=by
          calc q * i.size+j < q * i.size+i.size:=by omega
           _=(q+1) * i.size:=by rw [Nat.add_mul,Nat.one_mul]
           _≤n * i.size:=Nat.mul_le_mul_right _ hq
         rw [List.getElem?_toArray]
         by_cases hqx:q < x.toNat
         ·have acx:q * i.size+j < x.toNat * i.size:=by
           calc q * i.size+j < q * i.size+i.size:=by omega
            _=(q+1) * i.size:=by rw [Nat.add_mul,Nat.one_mul]
            _≤x.toNat * i.size:=Nat.mul_le_mul_right _ hqx
          obtain ⟨u,hu1,hu2⟩:=(lh q hq).2 j hj
          refine ⟨u,?_,?_⟩
          ·rw [List.append_assoc,List.getElem?_append_left (by simp; omega),List.getElem?_take,if_pos acx]
           simpa using hu1
          ·have:vg x.toNat f i.zero q=f q:=by simp only [vg]; rw [if_pos hqx]
           rw [this]
           exact hu2.mono (fun _ x=>x) (fun b hb=>setRow_other w gg b _ (fun e=>oO (e ▸ hb)))
         ·have hxq:x.toNat * i.size≤q * i.size:=Nat.mul_le_mul_right _ (by omega)
          have QN:q * i.size+j - x.toNat * i.size < (n - x.toNat) * i.size:=by omega
          have R3:(q * i.size+j - x.toNat * i.size) % ez.cells.size=j:=by
           rw [V8,show q * i.size+j - x.toNat * i.size=i.size * (q - x.toNat)+j from by rw [Nat.mul_sub,Nat.mul_comm i.size q,Nat.mul_comm i.size x.toNat]; omega,Nat.mul_add_mod,Nat.mod_eq_of_lt hj]
          have B5:j < ez.cells.size:=by omega
          obtain ⟨_,z2⟩:=iD (w:=w.setRow gg (cur.toList.take (x.toNat * i.size)++(Builtin.zeroCells ez.cells (n - x.toNat)).toList++cur.toList.drop (x.toNat * i.size+(n - x.toNat) * i.size)).toArray) (S:=S) E.Vq
          refine ⟨ez.cells[j],?_,?_⟩
          ·rw [List.append_assoc,List.getElem?_append_right (by simp; omega),List.getElem?_append_left (by rw [Xq]; simp; omega)]
           have:(List.take (x.toNat * i.size) cur.toList).length=x.toNat * i.size:=by simp; omega
           rw [this]
           simp only [Builtin.zeroCells,Array.getElem?_toList,Array.getElem?_map,Array.getElem?_range,V8,QN,if_true,Option.map_some]
           rw [← V8] at R3 ⊢
           rw [R3,getElem!_pos ez.cells j B5]
          ·have:vg x.toNat f i.zero q=i.zero:=by simp only [vg]; rw [if_neg hqx]
           rw [this]
           have:=z2 j (by rw [E.zF]; exact hj)
           rwa [show ez.cells.toList.getD j undef=ez.cells[j] from by simp [List.getD,B5]] at this
       ·refine done _ w (ME _ n cap h1 ML) ?_ (same (by omega))
        have:n - x.toNat=0:=by omega
        rw [this]
        exact F5 hu _ _
     ·cases mT
    ·cases mT
   ·cases mT
  ·cases mT
 ·cases mT
end
def lf {α:Type} [Inhabited α] (cells:α→List D) (l:List α):D:=.sl l.length fun i=>cells (l.getD i default)
def bF (n:Int):List D:=[.v (.int .i64 n)]
def gU (s:ByteArray):List D:=[.v (.string s)]
def nT (b:Bool):List D:=[.v (.bool b)]
theorem Sj {n:Int} (h1 : -9223372036854775808≤n) (h2:n≤9223372036854775807):IntKind.i64.wrap n=n:=IntWalk.i64_in n ⟨h1,h2⟩
theorem V9 {α:Type} [Inhabited α] (cells:α→List D) (L M:List α) :
  (L.length+M.length=(L++M).length)∧∀ i,i < L.length+M.length→(if i < L.length then cells (L.getD i default) else cells (M.getD (i - L.length) default))=cells ((L++M).getD i default):=by
 refine ⟨by simp,fun i hi=>?_⟩
 split
 ·rename_i h
  simp [List.getD,List.getElem?_append_left h]
 ·rename_i h
  simp [List.getD,List.getElem?_append_right (Nat.le_of_not_lt h)]
def rk:List AV→List AV→Prop
 | [],[]=>True
 | x :: r,y :: s=>sq x y∧rk r s
 | _,_=>False
theorem rk.rel {w:World} {S:Nat→Prop} {μ:Mu} {ν:Nat→Bool}:∀ {l l':List AV} {vs:List Value},rk l l'→cP w S μ ν l vs→cP w S μ ν l' vs
 | [],[],_,_,h=>h
 | x :: r,y :: s,vs,h,hr=>by
  obtain ⟨h1,h2⟩:=h
  cases vs with
  | nil=>exact absurd hr.1 (by simp)
  | cons v vs =>
   have ht:cP w S μ ν r vs:=⟨by simpa using hr.1,fun i hi=>by simpa using hr.2 (i+1) (by simpa using hi)⟩
   have:=rk.rel h2 ht
   refine ⟨by simpa using this.1,fun i hi=>?_⟩
   cases i with
   | zero=>exact h1 _ _ _ _ _ (by simpa using hr.2 0 (by simp))
   | succ i=>simpa using this.2 i (by simpa using hi)
 | [],_ :: _,_,h,_=>h.elim
 | _ :: _,[],_,h,_=>h.elim
theorem fA.Q4 {P:Program} {f:FuncId} {args DC:List AV} {cz fh:List (Nat × ba)} {res:AV} (h:fA P f DC cz res fh) (hle:rk args DC):fA P f args cz res fh :=
 ⟨h.1,fun w S μ vs h1 hg h2 h3 h4=>h.2 w S μ vs h1 hg (fun ν=>hle.rel (h2 ν)) h3 h4⟩
mutual
inductive cY (T:List (Nat × TI)):Nat→List D→Prop
 | int {t:Nat} {i:TI} {k:IntKind} (hi:look T t=some i) (hk:i.kind=.int k) (n:Int) (h:(Lit.int k n).wf=true):cY T t [.v (.int k n)]
 | bool {t:Nat} {i:TI} (hi:look T t=some i) (hk:i.kind=.bool) (b:Bool):cY T t [.v (.bool b)]
 | str {t:Nat} {i:TI} (hi:look T t=some i) (hk:i.kind=.str) (s:ByteArray) (h:s.size≤maxLen):cY T t [.v (.string s)]
 | slice {t e:Nat} {i:TI} (hi:look T t=some i) (hk:i.kind=.slice e) (n:Nat) (f:Nat→List D) (h:∀ j,j < n→cY T e (f j)):cY T t [.sl n f]
 | struct {t:Nat} {i:TI} {fs:List (Nat × Nat)} (hi:look T t=some i) (hk:i.kind=.struct fs) (ds:List D) (h:xe T (fs.map (·.2)) ds):cY T t ds
inductive xe (T:List (Nat × TI)):List Nat→List D→Prop
 | nil:xe T [] []
 | cons {t:Nat} {ts:List Nat} (p ds:List D) (h:cY T t p) (hs:xe T ts ds):xe T (t :: ts) (p++ds)
end
def Cn (T:List (Nat × TI)):Nat→List (Nat × Nat)→Option Nat
 | off,[]=>some off
 | off,(o,t) :: r=>match look T t with | some i=>bif Nat.beq o off then Cn T (off+i.size) r else none | none=>none
def PB (T:List (Nat × TI)) (ts:List Nat) (t:Nat):Bool:=match look T t with
  | some i=>(match i.kind with
   | .int _ | .bool | .str=>true
   | .slice e=>(ts.any fun q=>Nat.beq q e)&&(match look T e with | some j=>!Nat.beq j.size 0 | none=>false)
   | .struct fs=>(match Cn T 0 fs with | some n=>Nat.beq n i.size | none=>false)&&fs.all (fun f=>ts.any fun q=>Nat.beq q f.2)
   | _=>false)
  | none=>false
def A0 (T:List (Nat × TI)) (ts:List Nat):Bool:=ts.all (PB T ts)
theorem K3 {ts:List Nat} {t:Nat} (h:(ts.any fun q=>Nat.beq q t)=true):t∈ts:=by
 obtain ⟨q,hq,e⟩:=List.any_eq_true.1 h
 have:=Nat.eq_of_beq_eq_true e
 subst this
 exact hq
section
variable {H : Type} {enc : TypeId × Value → H} {P : Program} {w : World} {base : Nat} {spare : Nat → Bool} {held : Bool} {T : List (Nat × TI)}
def v8 (w:World) (ds:List D) (cs:List Value):Prop:=ds.length=cs.length∧∀ j,j < ds.length→Rd w (fun b=>b < w.heap.size) (ds.getD j default) (cs.getD j undef)
theorem v8.one {d:D} {v:Value} (h:Rd w (fun b=>b < w.heap.size) d v):v8 w [d] [v]:=⟨rfl,fun j hj=>by
 have:j=0:=by simpa using hj
 subst this
 simpa using h⟩
theorem v8.append {d1 d2:List D} {c1 c2:List Value} (h1:v8 w d1 c1) (h2:v8 w d2 c2):v8 w (d1++d2) (c1++c2):=by
 refine ⟨by simp [h1.1,h2.1],fun j hj=>?_⟩
 by_cases h:j < d1.length
 ·have:=h1.2 j h
  have hc:j < c1.length:=by rw [← h1.1]; exact h
  simpa [List.getD,List.getElem?_append_left h,List.getElem?_append_left hc] using this
 ·have h':d1.length≤j:=Nat.le_of_not_lt h
  have hc:c1.length≤j:=by rw [← h1.1]; exact h'
  have:=h2.2 (j - d1.length) (by simp at hj; omega)
  rw [h1.1] at this
  simpa [List.getD,List.getElem?_append_right h',List.getElem?_append_right hc,h1.1] using this
theorem vh (hT:la P T) {t:Nat} {i:TI} (hi:look T t=some i):P.cellsOf t=i.size:=by
 obtain ⟨j,z,F⟩:=aw (hT _ _ hi)
 simp [Program.cellsOf,F.info,F.size]
theorem F6 (hT:la P T) (cs:List Value):∀ (fs:List (Nat × Nat)) (off n:Nat),Cn T off fs=some n→cs.length=n →
  (∀ f,f∈fs→∃ ds,cY T f.2 ds∧v8 w ds ((cs.drop f.1).take (P.cellsOf f.2)))→∃ ds,xe T (fs.map (·.2)) ds∧v8 w ds (cs.drop off)
 | [],off,n,hc,hl,_=>by
  simp only [Cn,Option.some.injEq] at hc
  refine ⟨[],.nil,?_⟩
  rw [List.drop_of_length_le (by omega)]
  exact ⟨rfl,fun j hj=>absurd hj (by simp)⟩
 | (o,t) :: r,off,n,hc,hl,hf=>by
  simp only [Cn] at hc
  split at hc
  ·rename_i i hi
   cases hb:Nat.beq o off with
   | false=>rw [hb] at hc; cases hc
   | true =>
    rw [hb] at hc
    have ho:=Nat.eq_of_beq_eq_true hb
    subst ho
    obtain ⟨d1,t1,r1⟩:=hf (o,t) List.mem_cons_self
    obtain ⟨d2,t2,r2⟩:=F6 hT cs r (o+i.size) n hc hl (fun f hm=>hf f (List.mem_cons_of_mem _ hm))
    refine ⟨d1++d2,.cons d1 d2 t1 t2,?_⟩
    have gS:=vh hT hi
    have e:cs.drop o=(cs.drop o).take (P.cellsOf t)++cs.drop (o+i.size):=by
     rw [← gS,← List.drop_drop,List.take_append_drop]
    rw [e]
    exact r1.append r2
  ·cases hc
theorem F7 (hT:la P T) {ts:List Nat} (uV:A0 T ts=true):∀ (n t:Nat) (cs:List Value) (x:DataW H × List MemPlace),t∈ts→DataW.trod enc P w base spare held n t cs=some x→∃ ds,cY T t ds∧v8 w ds cs
 | n,t,cs,x,hm,h=>by
  have hp:=List.all_eq_true.1 uV t hm
  simp only [PB] at hp
  split at hp
  ·rename_i i hi
   obtain ⟨tj,z,F⟩:=aw (hT _ _ hi)
   have hk:=F.kind
   split at hp
   ·rename_i k jt
    rw [jt] at hk
    simp only [cO] at hk
    split at hk
    ·rename_i k' hu
     have:=of_decide_eq_true hk
     subst this
     obtain ⟨v,rfl,_,hw⟩:=DataW.trod_int hu h
     exact ⟨_,.int hi jt v hw,.one (.v _ rfl)⟩
    ·cases hk
   ·rename_i jt
    rw [jt] at hk
    simp only [cO] at hk
    split at hk
    ·rename_i hu
     obtain ⟨v,rfl,_⟩:=DataW.trod_bool hu h
     exact ⟨_,.bool hi jt v,.one (.v _ rfl)⟩
    ·cases hk
   ·rename_i jt
    rw [jt] at hk
    simp only [cO] at hk
    split at hk
    ·rename_i hu
     obtain ⟨v,rfl,_,hw⟩:=DataW.trod_string hu h
     exact ⟨_,.str hi jt v hw,.one (.v _ rfl)⟩
    ·cases hk
   ·rename_i e jt
    rw [jt] at hk
    simp only [cO] at hk
    split at hk
    ·rename_i e' hu
     have:=beq_iff_eq.1 hk
     subst this
     simp only [Bool.and_eq_true] at hp
     obtain ⟨hpe,gS⟩:=hp
     split at gS
     ·rename_i je hje
      have hce:=vh hT hje
      have Ia:0 < je.size:=by
       rcases Nat.eq_zero_or_pos je.size with h0 | h0
       ·rw [h0] at gS; cases gS
       ·exact h0
      rcases DataW.trod_slice hu h with ⟨rfl,_⟩ | ⟨a,len,cap,elems,rest,n',rfl,rfl,_,hb,hlc,H9,hel,aaE,_⟩
      ·exact ⟨[.sl 0 fun _=>[]],.slice hi jt 0 _ (fun j hj=>absurd hj (Nat.not_lt_zero _)),.one (.nil _)⟩
      ·have each:∀ q,q < len→∃ zQ,w.cells? base (a.add (q * P.cellsOf e)) (P.cellsOf e)=some zQ∧∃ ds,cY T e ds∧v8 w ds zQ:=by
        intro q hq
        have hx:=aaE q hq
        have hs:elems[q]? = some elems[q]:=List.getElem?_eq_getElem (by omega)
        rw [hs] at hx
        cases hc:w.cells? base (a.add (q * P.cellsOf e)) (P.cellsOf e) with
        | none=>rw [hc] at hx; cases hx
        | some zQ =>
         rw [hc] at hx
         exact ⟨zQ,rfl,F7 hT uV n' e zQ _ (K3 hpe) hx⟩
       classical
       let g:Nat→List D:=fun q=>if hq:q < len then (each q hq).choose_spec.2.choose else []
       let vv:Nat→List Value:=fun q=>if hq:q < len then (each q hq).choose else []
       have g1:∀ q,q < len→cY T e (g q)∧v8 w (g q) (vv q)∧w.cells? base (a.add (q * P.cellsOf e)) (P.cellsOf e)=some (vv q):=fun q hq=>by
        simp only [g,vv,hq,dif_pos]
        exact ⟨(each q hq).choose_spec.2.choose_spec.1,(each q hq).choose_spec.2.choose_spec.2,(each q hq).choose_spec.1⟩
       have hlen:∀ q,q < len→(g q).length=je.size:=fun q hq=>by
        obtain ⟨_,r1,c1⟩:=g1 q hq
        rw [r1.1,(World.cells?_some c1).2.1,hce]
       have Xr:len=0∨a.spot=none:=by
        rcases Nat.eq_zero_or_pos len with h0 | h0
        ·exact .inl h0
        ·right
         obtain ⟨_,_,c1⟩:=g1 0 h0
         have:=(World.cells?_some c1).2.2 0 (by omega)
         have hl:=(World.cells?_some c1).2.1
         simp only [Nat.zero_mul,Addr.add,if_true] at this
         rw [List.getElem?_eq_getElem (by omega)] at this
         unfold World.cell? at this
         cases Mf:a.spot with
         | none=>rfl
         | some s =>
          rw [Mf] at this
          split at this <;> simp at this
       refine ⟨[.sl len g],.slice hi jt len g (fun q hq=>(g1 q hq).1),.one (.sl len g a cap je.size (fun q j=>(vv q).getD j undef) hlc H9 Xr hlen (fun q j hq hj=>?_) (fun q j hq hj=>(g1 q hq).2.1.2 j (by rw [hlen q hq]; exact hj)))⟩
       obtain ⟨_,r1,c1⟩:=g1 q hq
       have Mf:a.spot=none:=Xr.resolve_left (by omega)
       obtain ⟨ab,ao,as⟩:=a
       simp only at Mf
       subst Mf
       have hcc:=(World.cells?_some c1).2.2 j (by omega)
       have hl:=(World.cells?_some c1).2.1
       rw [fU,fU,hce,Nat.add_assoc,List.getElem?_eq_getElem (by omega)] at hcc
       refine ⟨?_,?_⟩
       ·unfold World.cell? at hcc
        split at hcc
        ·rename_i hh
         exact (Array.getElem?_eq_some_iff.1 hh).1
        ·cases hcc
       ·rw [hcc]
        simp [List.getD,List.getElem?_eq_getElem (show j < (vv q).length by omega)]
     ·cases gS
    ·cases hk
   ·rename_i fs jt
    rw [jt] at hk
    simp only [cO] at hk
    split at hk
    ·rename_i gs hu
     have RQ:=beq_iff_eq.1 hk
     simp only [Bool.and_eq_true,List.all_eq_true] at hp
     obtain ⟨Yu,pn⟩:=hp
     split at Yu
     ·rename_i tot acy
      have htt:=Nat.eq_of_beq_eq_true Yu
      subst htt
      obtain ⟨xs,n',rfl,_,hl,RX,Xh⟩:=DataW.trod_struct hu h
      have hfs:∀ f,f∈fs→∃ ds,cY T f.2 ds∧v8 w ds ((cs.drop f.1).take (P.cellsOf f.2)):=fun f hm=>by
       have hm0:=hm
       rw [← RQ] at hm
       simp only [List.mem_map] at hm
       obtain ⟨fd,hfd,rfl⟩:=hm
       obtain ⟨ix,D7,XY⟩:=List.getElem_of_mem hfd
       have hg:gs[ix]? = some fd:=by
        rw [← XY]
        simp only [Array.length_toList] at D7
        simp [D7]
       have hx:=Xh ix fd hg
       have acz:ix < xs.length:=by rw [RX]; simpa using D7
       rw [List.getElem?_eq_getElem acz] at hx
       exact F7 hT uV n' fd.type _ _ (K3 (pn _ hm0)) hx
      obtain ⟨ds,q1,q2⟩:=F6 (w:=w) hT cs fs 0 i.size acy (by rw [hl,vh hT hi]) hfs
      exact ⟨ds,.struct hi jt ds q1,by simpa using q2⟩
     ·cases Yu
    ·cases hk
   ·cases hp
  ·cases hp
termination_by n=>n
theorem cY.A1 {t:Nat} {i:TI} {k:IntKind} {ds:List D} (hi:look T t=some i) (hk:i.kind=.int k) (h:cY T t ds):∃ n,ds=[.v (.int k n)]∧(Lit.int k n).wf=true:=by
 cases h with
 | int fb eW n h=>rw [hi] at fb; cases fb; rw [hk] at eW; cases eW; exact ⟨n,rfl,h⟩
 | bool fb eW=>rw [hi] at fb; cases fb; rw [hk] at eW; cases eW
 | str fb eW=>rw [hi] at fb; cases fb; rw [hk] at eW; cases eW
 | slice fb eW=>rw [hi] at fb; cases fb; rw [hk] at eW; cases eW
 | struct fb eW=>rw [hi] at fb; cases fb; rw [hk] at eW; cases eW
theorem cY.Uh {t:Nat} {i:TI} {ds:List D} (hi:look T t=some i) (hk:i.kind=.bool) (h:cY T t ds):∃ b,ds=[.v (.bool b)]:=by
 cases h with
 | int fb eW=>rw [hi] at fb; cases fb; rw [hk] at eW; cases eW
 | bool fb eW b=>exact ⟨b,rfl⟩
 | str fb eW=>rw [hi] at fb; cases fb; rw [hk] at eW; cases eW
 | slice fb eW=>rw [hi] at fb; cases fb; rw [hk] at eW; cases eW
 | struct fb eW=>rw [hi] at fb; cases fb; rw [hk] at eW; cases eW
theorem cY.Wa {t:Nat} {i:TI} {ds:List D} (hi:look T t=some i) (hk:i.kind=.str) (h:cY T t ds):∃ s,ds=[.v (.string s)]∧s.size≤maxLen:=by
 cases h with
 | int fb eW=>rw [hi] at fb; cases fb; rw [hk] at eW; cases eW
 | bool fb eW=>rw [hi] at fb; cases fb; rw [hk] at eW; cases eW
 | str fb eW s h=>exact ⟨s,rfl,h⟩
 | slice fb eW=>rw [hi] at fb; cases fb; rw [hk] at eW; cases eW
 | struct fb eW=>rw [hi] at fb; cases fb; rw [hk] at eW; cases eW
theorem cY.eF {t e:Nat} {i:TI} {ds:List D} (hi:look T t=some i) (hk:i.kind=.slice e) (h:cY T t ds):∃ n f,ds=[.sl n f]∧∀ j,j < n→cY T e (f j):=by
 cases h with
 | int fb eW=>rw [hi] at fb; cases fb; rw [hk] at eW; cases eW
 | bool fb eW=>rw [hi] at fb; cases fb; rw [hk] at eW; cases eW
 | str fb eW=>rw [hi] at fb; cases fb; rw [hk] at eW; cases eW
 | slice fb eW n f h=>rw [hi] at fb; cases fb; rw [hk] at eW; cases eW; exact ⟨n,f,rfl,h⟩
 | struct fb eW=>rw [hi] at fb; cases fb; rw [hk] at eW; cases eW
theorem cY.cK {t:Nat} {i:TI} {fs:List (Nat × Nat)} {ds:List D} (hi:look T t=some i) (hk:i.kind=.struct fs) (h:cY T t ds):xe T (fs.map (·.2)) ds:=by
 cases h with
 | int fb eW=>rw [hi] at fb; cases fb; rw [hk] at eW; cases eW
 | bool fb eW=>rw [hi] at fb; cases fb; rw [hk] at eW; cases eW
 | str fb eW=>rw [hi] at fb; cases fb; rw [hk] at eW; cases eW
 | slice fb eW=>rw [hi] at fb; cases fb; rw [hk] at eW; cases eW
 | struct fb eW ds h=>rw [hi] at fb; cases fb; rw [hk] at eW; cases eW; exact h
theorem xe.cons_inv {t:Nat} {ts:List Nat} {ds:List D} (h:xe T (t :: ts) ds):∃ p r,ds=p++r∧cY T t p∧xe T ts r:=by
 cases h with
 | cons p r h hs=>exact ⟨p,r,rfl,h,hs⟩
theorem xe.gD {ds:List D} (h:xe T [] ds):ds=[]:=by cases h; rfl
end
section
open Go Go.ChangeShapes Go.WideShapes Go.ChangeAt Go.RowKit
def aG (l l':List D):Prop:=l.length=l'.length∧∀ j,j < l.length→pQ (l.getD j default) (l'.getD j default)
theorem aG.refl (l:List D):aG l l:=⟨rfl,fun _ _=>pQ.rfl'⟩
theorem aG.nil:aG [] []:=.refl _
theorem aG.one {d d':D} (h:pQ d d'):aG [d] [d']:=⟨rfl,fun j hj=>by
 have:j=0:=by simpa using hj
 subst this
 simpa using h⟩
theorem aG.append {p p' r r':List D} (h1:aG p p') (h2:aG r r'):aG (p++r) (p'++r'):=by
 refine ⟨by simp [h1.1,h2.1],fun j hj=>?_⟩
 by_cases h:j < p.length
 ·have h':j < p'.length:=by rw [← h1.1]; exact h
  simpa [List.getD,List.getElem?_append_left h,List.getElem?_append_left h'] using h1.2 j h
 ·have hh:p.length≤j:=Nat.le_of_not_lt h
  have h':p'.length≤j:=by rw [← h1.1]; exact hh
  have:=h2.2 (j - p.length) (by simp at hj; omega)
  rw [List.getD,List.getD,List.getElem?_append_right hh,List.getElem?_append_right h',← h1.1]
  exact this
theorem aG.cons {d d':D} {r r':List D} (h1:pQ d d') (h2:aG r r'):aG ([d]++r) (d' :: r'):=aG.append (aG.one h1) h2
theorem aG.agg {l l':List D} (h:aG l l'):pQ (.agg l) (.agg l'):=pQ.agg h.1 h.2
theorem pQ.Xs {n:Nat} {f g:Nat→List D} (h:∀ i,i < n→aG (f i) (g i)):pQ (.sl n f) (.sl n g):=by
 intro w S x hr
 cases hr with
 | nil=>exact .nil g
 | sl _ _ a cap k eV hc hm hs hk bG hh =>
  exact .sl n g a cap k eV hc hm hs (fun i hi=>by rw [← (h i hi).1]; exact hk i hi) bG (fun i j hi hj=>(h i hi).2 j (by rw [hk i hi]; exact hj) w S _ (hh i j hi hj))
theorem jd {T:List (Nat × TI)} {α:Type} [Inhabited α] (cells:α→List D) (ok:α→Prop) {e:Nat} (hof:∀ ds,cY T e ds→∃ c,aG ds (cells c)∧ok c) {n:Nat} {f:Nat→List D} (h:∀ j,j < n→cY T e (f j)) :
  ∃ l:List α,pQ (.sl n f) (lf cells l)∧l.length=n∧∀ x,x∈l→ok x:=by
 classical
 let g:Nat→α:=fun j=>if hj:j < n then (hof _ (h j hj)).choose else default
 have hg:∀ j,j < n→aG (f j) (cells (g j))∧ok (g j):=fun j hj=>by
  simp only [g,hj,dif_pos]
  exact (hof _ (h j hj)).choose_spec
 refine ⟨(List.range n).map g,?_,by simp,fun x hx=>?_⟩
 ·have e:lf cells ((List.range n).map g)=.sl n fun i=>cells (((List.range n).map g).getD i default):=by simp [lf]
  rw [e]
  refine pQ.Xs fun i hi=>?_
  have:((List.range n).map g).getD i default=g i:=by simp [List.getD,hi]
  rw [this]
  exact (hg i hi).1
 ·simp only [List.mem_map,List.mem_range] at hx
  obtain ⟨j,hj,rfl⟩:=hx
  exact (hg j hj).2
def dg (n:Int):Prop:=-9223372036854775808≤n∧n≤9223372036854775807
theorem Wb {n:Int} (h:(Lit.int .i64 n).wf=true):dg n:=by
 simpa [Lit.wf,IntKind.min,IntKind.max,dg,IntKind.bits,IntKind.signed] using h
def Ui (T:List (Nat × TI)) (t:Nat) (ds:List D):AV :=
 match look T t with
 | some i=>(match i.kind with | .struct _=>.d (.agg ds) | _=>.d (ds.getD 0 default))
 | none=>.any
def vi (T:List (Nat × TI)):List Nat→List (List D)→List AV
 | t :: ts,d :: ds=>Ui T t d :: vi T ts ds
 | _,_=>[]
def K4 (T:List (Nat × TI)):List Nat→List (List D)→Prop
 | [],[]=>True
 | t :: ts,d :: ds=>cY T t d∧K4 T ts ds
 | _,_=>False
section
variable {H : Type} {enc : TypeId × Value → H} {P : Program} {W : World} {T : List (Nat × TI)}
theorem Wc (hT:la P T) {cl:List Nat} (uV:A0 T cl=true) {t:Nat} (hm:t∈cl) {v:Value} {d:DataW H} {ps:List MemPlace} {base:Nat} (hv:Value.okWide P W .any base t v) (h:DataW.Trod enc P W 0 (fun _=>true) true t v d ps) :
  ∃ ds,cY T t ds∧∀ μ ν,Rel W (fun b=>b < W.heap.size) μ ν (Ui T t ds) v:=by
 obtain ⟨fuel,h⟩:=h
 obtain ⟨ds,h1,h2⟩:=F7 hT uV _ t _ _ hm h
 have hp:=List.all_eq_true.1 uV t hm
 refine ⟨ds,h1,fun μ ν=>?_⟩
 ·simp only [PB] at hp
  split at hp
  ·rename_i i hi
   obtain ⟨tj,z,F⟩:=aw (hT _ _ hi)
   have hk:=F.kind
   have one:∀ v',v=v'→v'.cells = #[v']→Rd W (fun b=>b < W.heap.size) (ds.getD 0 default) v:=by
    rintro v' rfl hc
    rw [hc] at h2
    have:=h2.2 0 (by rw [h2.1]; simp)
    simpa using this
   simp only [Ui,hi]
   split at hp
   ·rename_i k jt
    rw [jt] at hk ⊢
    simp only [cO] at hk
    split at hk
    ·rename_i hu
     have:=of_decide_eq_true hk
     subst this
     obtain ⟨n,rfl⟩:=okWide_int hu hv
     exact .d (one _ rfl rfl)
    ·cases hk
   ·rename_i jt
    rw [jt] at hk ⊢
    simp only [cO] at hk
    split at hk
    ·rename_i hu
     obtain ⟨n,rfl⟩:=okWide_bool hu hv
     exact .d (one _ rfl rfl)
    ·cases hk
   ·rename_i jt
    rw [jt] at hk ⊢
    simp only [cO] at hk
    split at hk
    ·rename_i hu
     obtain ⟨n,rfl⟩:=okWide_string hu hv
     exact .d (one _ rfl rfl)
    ·cases hk
   ·rename_i e jt
    rw [jt] at hk ⊢
    simp only [cO] at hk
    split at hk
    ·rename_i hu
     obtain ⟨a,n,c,rfl⟩:=okWide_slice hu hv
     exact .d (one _ rfl rfl)
    ·cases hk
   ·rename_i fs jt
    rw [jt] at hk ⊢
    simp only [cO] at hk
    split at hk
    ·rename_i gs hu
     obtain ⟨cs,rfl,_⟩:=okWide_struct hu hv
     refine .d (.agg ds cs ?_ (fun j hj=>?_))
     ·have:=h2.1
      simp only [Value.cells,Array.length_toList] at this
      exact this.symm
     ·have:=h2.2 j hj
      simp only [Value.cells] at this
      simpa [List.getD,Array.getD_eq_getD_getElem?] using this
    ·cases hk
   ·cases hp
  ·cases hp
theorem Nj (hT:la P T) {cl:List Nat} (uV:A0 T cl=true) {base:Nat}:∀ {ts:List Nat} {vs:List Value} {ds:List (DataW H)} {ps:List MemPlace},(ts.all fun t=>cl.any fun q=>Nat.beq q t)=true→(∀ (j:Nat) t v,ts[j]? = some t→vs[j]? = some v→Value.okWide P W .any base t v) →
  DataW.TrodAll enc P W 0 (fun _=>true) true ts vs ds ps→∃ O1,K4 T ts O1∧∀ μ ν,cP W (fun b=>b < W.heap.size) μ ν (vi T ts O1) vs
 | [],[],[],_,_,_,_=>⟨[],trivial,fun _ _=>⟨rfl,fun i hi=>absurd hi (by simp [vi])⟩⟩
 | t :: ts,v :: vs,d :: ds,ps,hp,hv,h=>by
  obtain ⟨p,q,h1,h2,rfl⟩:=h
  simp only [List.all_cons,Bool.and_eq_true] at hp
  obtain ⟨d1,x1,x2⟩:=Wc hT uV (K3 hp.1) (hv 0 t v rfl rfl) h1
  obtain ⟨O1,y1,y2⟩:=Nj hT uV hp.2 (fun j t v a b=>hv (j+1) t v (by simpa using a) (by simpa using b)) h2
  refine ⟨d1 :: O1,⟨x1,y1⟩,fun μ ν=>?_⟩
  have:=y2 μ ν
  refine ⟨by simp [vi,this.1],fun i hi=>?_⟩
  cases i with
  | zero=>simpa [vi] using x2 μ ν
  | succ i=>simpa [vi] using this.2 i (by simpa [vi] using hi)
 | [],_ :: _,_,_,_,_,h=>h.elim
 | [],[],_ :: _,_,_,_,h=>h.elim
 | _ :: _,[],_,_,_,_,h=>h.elim
 | _ :: _,_ :: _,[],_,_,_,h=>h.elim
theorem zp (hl:laidOutB P=true) {W':World} (hb:Below W.heap.size W W'):∀ {ts:List Nat} {vs:List Value} {ds:List (DataW H)} {ps:List MemPlace},ts.all (fun t=>P.readableRec t&&Nat.ble (t+1) P.types.size)=true →
  (∀ p∈ps,p.block < W.heap.size)→DataW.TrodAll enc P W 0 (fun _=>true) true ts vs ds ps→DataW.TrodAll enc P W' 0 (fun b=>decide (b < W.heap.size)) true ts vs ds ps
 | [],[],[],_,_,_,h=>h
 | t :: ts,v :: vs,d :: ds,ps,hp,di,h=>by
  obtain ⟨p,q,h1,h2,rfl⟩:=h
  simp only [List.all_cons,Bool.and_eq_true] at hp
  exact ⟨p,q,Below.trod hl hp.1.1 (Nat.le_of_ble_eq_true hp.1.2) h1 hb (fun x hx=>di x (List.mem_append_left _ hx)),zp hl hb hp.2 (fun x hx=>di x (List.mem_append_right _ hx)) h2,rfl⟩
 | [],_ :: _,_,_,_,_,h=>h.elim
 | [],[],_ :: _,_,_,_,h=>h.elim
 | _ :: _,[],_,_,_,_,h=>h.elim
 | _ :: _,_ :: _,[],_,_,_,h=>h.elim
theorem Sl (hT:la P T) (hl:laidOutB P=true) {f:FuncId} {fn:Func} {s:ChangeSpec} {tb base:Nat} {cl:List Nat} {args:Array Value} {ds gs:List (DataW H)} {before:List MemPlace}
  (uV:A0 T cl=true) (Yv:(fn.params.toList.all fun t=>cl.any fun q=>Nat.beq q t)=true) (aaF:fn.params.toList.all (fun t=>P.readableRec t&&Nat.ble (t+1) P.types.size)=true) (TG:fn.resultTypes = #[tb]) (hb:P.underlying tb=some .bool) (Xt:s.vars=[])
  (Uj:∀ (j:Nat) t v,fn.params[j]? = some t→args[j]? = some v→Value.okWide P W .any base t v)
  (hW:DataW.Whole enc P fn.params.toList s.vars false W args.toList ds gs before)
  (Tv:gT W fun b=>b < W.heap.size) (hs:(s.fn H (ds++gs)).results=[.lit (.bool true)]∧(s.fn H (ds++gs)).args=ds∧(s.fn H (ds++gs)).vars=[])
  (Yw:∀ O1,K4 T fn.params.toList O1→fA P f (vi T fn.params.toList O1) [] (.d (.v (.bool true))) []) :
  Calls P f args W fun e W'=>∃ v,e=.returned v∧s.post enc P fn false true false false W args v W':=by
 have di:=hW.lt
 obtain ⟨p,q,hA,hV,Q5,hz,hn⟩:=id hW
 rw [Xt] at hV
 have hg:gs=[]∧q=[]:=by
  cases gs with
  | nil=>exact ⟨rfl,hV⟩
  | cons _ _=>exact hV.elim
 obtain ⟨O1,h1,h2⟩:=Nj hT uV (base:=base) Yv (fun j t v a b=>Uj j t v (by simpa using a) (by simpa using b)) hA
 have hf:=Yw O1 h1
 refine Calls.mono (hf.2 W (fun b=>b < W.heap.size) (fun _=>none) args (fun _ h=>h) Tv (fun ν=>h2 _ ν) (fun κ b hb=>by simp [look] at hb) (fun κ κ' b b' g c c' hb=>by simp [look] at hb)) ?_
 rintro e W' ⟨v,S',μ',rfl,B⟩
 have hv:v=.bool true:=lu (B.res fun _=>false)
 subst hv
 have zS:Below W.heap.size W W':=⟨B.kept.os,B.kept.tape,B.kept.output,B.kept.size,fun k hk=>B.kept.block k hk (fun ⟨κ,b,c,q,_⟩=>by simp [look] at q)⟩
 refine ⟨_,rfl,ds,gs,before,[],p,[],hW,?_,?_,?_,zS.frame _,fun h=>by cases h⟩
 ·rw [TG,hs.1]
  exact trodAll_mk1 (shut_bool hb true)
 ·rw [hs.2.1]
  exact zp hl zS aaF (fun x hx=>di x (by rw [Q5]; exact List.mem_append_left _ hx)) hA
 ·rw [hs.2.2,Xt]
  exact rfl
end
end
end Go.Av
