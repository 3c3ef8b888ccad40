/- Regions: one evaluation for every order. -/
import Derived.Test.YtcpmocecjgipbaaGreatDoorLb
import Derived.OrdersIn
import Derived.RangeFuncCalls
import Derived.RangeFuncLeaves
import Derived.RangeFuncRecord
import Derived.RangeFuncKeeps
import Derived.Lib.SliceRun
import Derived.ProofKit
import Derived.Maps.RangeRun
set_option linter.unusedSimpArgs false
set_option linter.unusedVariables false
set_option linter.unusedSectionVars false
set_option maxHeartbeats 1000000
namespace Go.Av
open Go
variable [zr]
def nb (C:Cx) (st:St) (a:Act) (w:World):Prop:=∃ S μ,∀ ν,df C st.fZ a w S μ ν
section
variable {C : Cx} {a : Act} {w : World} {S : Nat → Prop} {μ : Mu} {ν : Nat → Bool}
theorem DV {T:List (Nat × TI)} (hT:mP C.P T) {ops:Array Oper}:∀ {l:List Oper} {st st':St} {gl MT:List (Nat × Bool)} {kj qH:List zP} {sA:List Tr} {ob:Ob},
  MU C.P T C.nt ops l st gl kj=some (sA,st',MT,qH,ob)→ob.den→(∀ s e,look MT s=some e→ν s=e) →
  sA.length=l.length∧(∀ (i:Nat) (τ:Tr) (o:Oper),sA[i]? = some τ→l[i]? = some o→Ff C ν ops o τ∧∀ p,p∈τ.gs→ν p.1=p.2)∧RO sA st.fZ st'.fZ∧∀ t x,look gl t=some x→look MT t=some x
 | [],st,st',gl,MT,kj,qH,sA,ob,h,_,_=>by
  simp only [MU,Option.some.injEq,Prod.mk.injEq] at h
  obtain ⟨rfl,rfl,rfl,-,-⟩:=h
  exact ⟨rfl,fun i τ o h=>by simp at h,rfl,fun _ _ h=>h⟩
 | o :: r,st,st',gl,MT,kj,qH,sA,ob,h,cb,hν=>by
  simp only [MU] at h
  split at h
  ·rename_i τ T1 Ix yX uq
   split at h
   ·rename_i l1 l9 ZE Pk Ej um
    simp only [Option.some.injEq,Prod.mk.injEq] at h
    obtain ⟨rfl,rfl,rfl,rfl,rfl⟩:=h
    obtain ⟨i1,i2,i3,i4⟩:=DV hT um (Ob.cG cb).2 hν
    obtain ⟨s1,s2,s3,s4⟩:=KW hT uq (Ob.cG cb).1 (fun s e hl=>hν s e (i4 s e hl))
    refine ⟨by simp [i1],fun i τ' o' h1 h2=>?_,⟨s3,by rw [← St.Sf]; exact i3⟩,fun t x hx=>i4 t x (s4 t x hx)⟩
    cases i with
    | zero =>
     simp only [List.getElem?_cons_zero,Option.some.injEq] at h1 h2
     subst h1; subst h2
     exact ⟨s1,s2⟩
    | succ i=>exact i2 i τ' o' (by simpa using h1) (by simpa using h2)
   ·cases h
  ·cases h
theorem MZ {st:St} {κ:Nat} (h:KU st κ=true):ja st.fZ κ:=by
 simp only [KU,Bool.and_eq_true,List.all_eq_true,Bool.not_eq_true'] at h
 obtain ⟨h1,h2⟩:=h
 have Xg:∀ l:List Nat,(l.any fun k=>Nat.beq k κ)=false→κ ∉ l:=fun l hl hc=>by
  have:(l.any fun k=>Nat.beq k κ)=true:=List.any_eq_true.2 ⟨κ,hc,Nat.beq_refl κ⟩
  rw [this] at hl
  cases hl
 refine ⟨fun t=>?_,?_,fun κ' b hb=>?_⟩
 ·simp only [St.fZ,St.get]
  cases hl:look st.sl t with
  | none=>simp [AV.keys]
  | some x=>exact Xg _ (h1 (t,x) (hZ hl))
 ·simp only [St.fZ]
  cases hl:look st.lb κ with
  | none=>rfl
  | some b =>
   have:=(h2 (κ,b) (hZ hl)).1
   rw [Nat.beq_refl] at this
   cases this
 ·exact Xg _ (h2 (κ',b) (hZ hb)).2
theorem zR {jf:Option (List Nat)}:∀ {sl:List (Nat × AV)} {t:Nat} {x:AV},rk sl=true→look (wx jf sl) t=some x→look sl t=some x∧sC x=true
 | [],t,x,_,h=>by simp [wx,look] at h
 | (k,y) :: r,t,x,hd,h=>by
  simp only [rk,Bool.and_eq_true,List.all_eq_true,Bool.not_eq_true'] at hd
  simp only [wx] at h
  rw [Bool.cond_eq_ite] at h
  by_cases hb:(sC y&&Xf jf k)=true
  ·rw [if_pos hb] at h
   simp only [cg] at h
   simp only [Bool.and_eq_true] at hb
   rw [cg]
   split
   ·rename_i e
    simp only [e,if_true,Option.some.injEq] at h
    subst h
    exact ⟨rfl,hb.1⟩
   ·rename_i e
    simp only [e,if_false] at h
    exact zR hd.2 h
  ·rw [if_neg hb] at h
   obtain ⟨h1,h2⟩:=zR hd.2 h
   refine ⟨?_,h2⟩
   rw [cg]
   split
   ·rename_i e
    subst e
    have:=hd.1 (k,x) (hZ h1)
    rw [Nat.beq_refl] at this
    cases this
   ·exact h1
theorem df.wx {st:St} {jf:Option (List Nat)} (h:df C st.fZ a w S μ ν) (hd:rk st.sl=true) (ν':Nat→Bool):df C (St.fZ ⟨wx jf st.sl,st.lb⟩) a w S μ ν':=by
 refine ⟨h.tmps,h.defers,fun t=>?_,h.mem,h.inj,h.own,h.eJ,h.fresh,h.bound,h.kept⟩
 simp only [St.fZ,St.get]
 cases hl:look (Go.Av.wx jf st.sl) t with
 | none=>exact .any _
 | some x =>
  obtain ⟨h1,h2⟩:=zR hd hl
  have:=h.eF t
  simp only [St.fZ,St.get,h1] at this
  exact this.nu h2
def QY (ops:Array Oper) (K:Array Value→Prop):Prop:=∀ (i:Nat) (o:Oper) (a:Act) (v:Value),ops[i]? = some o→K a.tmps→K (a.put o.dst v).tmps
theorem M0 {P:Program} {o:Oper} {a:Act} {w:World} {next:Act→World→Prop} {Q:Exit→Act→World→Prop} {K:Array Value→Prop} (hK:∀ (a:Act) (v:Value),K a.tmps→K (a.put o.dst v).tmps) (hq:∀ e a w,Q e a w→e=.normal) (ha:K a.tmps)
  (h:o.wp P a w next Q):o.wp P a w (fun a' w'=>next a' w'∧K a'.tmps) (fun e a' w'=>Q e a' w'∧K a'.tmps):=by
 unfold Oper.wp at *
 generalize (execOp a.eval o).run P w=r at *
 have no:¬ LetsOut Q:=fun ⟨_,_,q⟩=>by cases hq _ _ _ q
 cases r with
 | ok n w' =>
  cases n <;> simp only [Oper.upon] at h ⊢ <;>
   first
    | exact ⟨h,hK _ _ ha⟩
    | exact ⟨h,hK { a with defers:=_ :: a.defers } _ ha⟩
    | exact Calls.mono h (fun e WW he=>by cases e <;> first | exact ⟨he,hK _ _ ha⟩ | exact absurd (hq _ _ _ he) (by simp) | exact absurd he no)
    | exact Rows.mono h (fun _ _ he=>⟨he,hK _ _ ha⟩)
 | halt x w'=>cases x <;> simp only [Oper.upon] at h ⊢ <;> first | exact h.elim | exact absurd (hq _ _ _ h) (by simp)
theorem yx {P:Program} {ops:Array Oper} {Q:Exit→Act→World→Prop} {K:Array Value→Prop} (hK:QY ops K) (hq:∀ e a w,Q e a w→e=.normal):∀ (is:List Nat) (a:Act) (w:World),K a.tmps→wpOps P ops Q is a w→wpOps P ops (fun e a' w'=>Q e a' w'∧K a'.tmps) is a w
 | [],a,w,ha,h=>⟨h,ha⟩
 | i :: is,a,w,ha,h=>by
  simp only [wpOps] at h ⊢
  cases ho:ops[i]? with
  | none=>rw [ho] at h; exact yx hK hq is a w ha h
  | some o =>
   rw [ho] at h
   simp only at h ⊢
   split
   ·rename_i hw
    rw [if_pos hw] at h
    rcases h with h | ⟨_,_,_,q⟩
    ·exact .inl (Oper.wp_mono (fun a' w' hh=>yx hK hq is a' w' hh.2 hh.1) (M0 (fun a v=>hK i o a v ho) hq ha h))
    ·cases hq _ _ _ q
   ·rename_i hw
    rw [if_neg hw] at h
    exact yx hK hq is _ w (hK i o a undef ho ha) h
theorem yy {P:Program} {md:Region.Mode} {ops:Array Oper} {Q:Exit→Act→World→Prop} {K:Array Value→Prop} (hK:QY ops K) (hq:∀ e a w,Q e a w→e=.normal):∀ (n:Nat) (listed:Array Bool) (a:Act) (w:World),K a.tmps→wpAny P md ops Q n listed a w→wpAny P md ops (fun e a' w'=>Q e a' w'∧K a'.tmps) n listed a w
 | 0,listed,a,w,ha,h=>⟨h.1,h.2,ha⟩
 | n+1,listed,a,w,ha,h=>by
  refine ⟨fun hr=>⟨h.1 hr,ha⟩,fun i hi=>?_⟩
  have h:=h.2 i hi
  unfold wpOp at *
  split
  ·rename_i ho
   simp only [ho] at h
   exact yy hK hq n _ a w ha h
  ·rename_i o ho
   simp only [ho] at h
   split
   ·rename_i hw
    rw [if_pos hw] at h
    rcases h with h | ⟨_,_,_,q⟩
    ·exact .inl (Oper.wp_mono (fun a' w' hh=>yy hK hq n _ a' w' hh.2 hh.1) (M0 (fun a v=>hK i o a v ho) hq ha h))
    ·cases hq _ _ _ q
   ·rename_i hw
    rw [if_neg hw] at h
    exact yy hK hq n _ _ w (hK i o a undef ho ha) h
def vk (ops:Array Oper):Bool:=ops.toList.all fun o=>match o.op with | .defer _=>false | _=>true
theorem Gc {ops:Array Oper} (h:vk ops=true) {i:Nat} {o:Oper} (ho:ops[i]? = some o):∀ c,o.op≠.defer c:=by
 simp only [vk,List.all_eq_true] at h
 have:=h o (by have:=Array.getElem?_eq_some_iff.1 ho; obtain ⟨hi,rfl⟩:=this; simp)
 intro c hc
 rw [hc] at this
 cases this
theorem Gd {P:Program} {o:Oper} {a:Act} {w:World} {next next':Act→World→Prop} {Q:Exit→Act→World→Prop} {l n:Nat} (hd:∀ c,o.op≠.defer c) (hn:∀ a w,next a w→next' a w) (hq:∀ e a w,Q e a w→e=.normal) (h:o.wp P a w next Q):o.wpIn (Fence.wide.inRound l) n P a w next' Q:=by
 refine ⟨fun _ _=>trivial,?_⟩
 rw [Oper.semAt_eq _ _ _ hd]
 unfold Oper.wp at h
 generalize (execOp a.eval o).run P w=r at *
 have no:¬ LetsOut Q:=fun ⟨_,_,q⟩=>by cases hq _ _ _ q
 have hdp:((Fence.wide.inRound l).depth.isSome=true→1≤n):=fun h=>by simp [Fence.wide] at h
 cases r with
 | ok x w' =>
  cases x <;> simp only [Oper.upon,Oper.uponIn] at h ⊢ <;>
   first
    | exact hn _ _ h
    | exact ⟨hdp,(CallsIn.inRound l (callsIn_wide.2 h)).mono (fun e WW he=>by cases e <;> first | exact hn _ _ he | exact he)⟩
    | exact ⟨hdp,fun c cs _=>by obtain ⟨v,WW,q,s⟩:=h c cs; exact ⟨v,WW,hn _ _ q,stepsIn_wide.2 s⟩⟩
 | halt x w'=>cases x <;> simp only [Oper.upon,Oper.uponIn] at h ⊢ <;> exact h
theorem sM {P:Program} {ops:Array Oper} {Q:Exit→Act→World→Prop} {l n:Nat} (hd:vk ops=true) (hq:∀ e a w,Q e a w→e=.normal):∀ (is:List Nat) (a:Act) (w:World),wpOps P ops Q is a w→wpOpsIn (Fence.wide.inRound l) n P ops Q is a w
 | [],a,w,h=>h
 | i :: is,a,w,h=>by
  simp only [wpOps,wpOpsIn] at h ⊢
  cases ho:ops[i]? with
  | none=>rw [ho] at h; exact sM hd hq is a w h
  | some o =>
   rw [ho] at h
   simp only at h ⊢
   split
   ·rename_i hw
    rw [if_pos hw] at h
    rcases h with h | ⟨_,_,_,q⟩
    ·exact Gd (Gc hd ho) (fun a' w'=>sM hd hq is a' w') hq h
    ·cases hq _ _ _ q
   ·rename_i hw
    rw [if_neg hw] at h
    exact ⟨fun _ _=>trivial,sM hd hq is _ w h⟩
theorem sN {P:Program} {md:Region.Mode} {ops:Array Oper} {Q:Exit→Act→World→Prop} {l m:Nat} (hd:vk ops=true) (hq:∀ e a w,Q e a w→e=.normal):∀ (n:Nat) (listed:Array Bool) (a:Act) (w:World),wpAny P md ops Q n listed a w→wpAnyIn (Fence.wide.inRound l) m P md ops Q n listed a w
 | 0,listed,a,w,h=>h
 | n+1,listed,a,w,h=>by
  refine ⟨h.1,fun i hi=>?_⟩
  have h:=h.2 i hi
  unfold wpOp at h
  unfold wpOpIn
  split
  ·rename_i ho
   simp only [ho] at h
   exact sN hd hq n _ a w h
  ·rename_i o ho
   simp only [ho] at h
   split
   ·rename_i hw
    rw [if_pos hw] at h
    rcases h with h | ⟨_,_,_,q⟩
    ·exact Gd (Gc hd ho) (fun a' w'=>sN hd hq n _ a' w') hq h
    ·cases hq _ _ _ q
   ·rename_i hw
    rw [if_neg hw] at h
    exact ⟨fun _ _=>trivial,sN hd hq n _ _ w h⟩
theorem Yc {P:Program} {id:Nat} {ops:Array Oper} {draw:Bool} {Q:Exit→Act→World→Prop} {K:Array Value→Prop} {a:Act} {w:World} (hm:P.follows .mixedOrders=true) (hK:QY ops K) (hq:∀ e a w,Q e a w→e=.normal) (ha:K a.tmps)
  (h:(draw=false∧wpOps P ops Q (List.range ops.size) a w)∨(draw=true∧wpAny P .any ops Q ops.size (Array.replicate ops.size false) a { w with drawn:=w.drawn+1 })) (b:Frame) (hb:b.roundOf=none∨vk ops=true) (k:List Item) (cs:List Frame) :
  ∃ a' w',Q .normal a' w'∧K a'.tmps∧Steps P (lone (b.atR a (.code (.region id ops draw) :: k)) cs w) (lone (b.atR a' k) cs w'):=by
 have QN:∀ e a w,(Q e a w∧K a.tmps)→e=.normal:=fun e a w h=>hq e a w h.1
 have h':(draw=false∧wpOps P ops (fun e a' w'=>Q e a' w'∧K a'.tmps) (List.range ops.size) a w)∨(draw=true∧wpAny P .any ops (fun e a' w'=>Q e a' w'∧K a'.tmps) ops.size (Array.replicate ops.size false) a { w with drawn:=w.drawn+1 }):=by
  rcases h with ⟨e,h⟩ | ⟨e,h⟩
  ·exact .inl ⟨e,yx hK hq _ a w ha h⟩
  ·exact .inr ⟨e,yy hK hq _ _ a _ ha h⟩
 cases hr:b.roundOf with
 | none =>
  have hw:(Code.region id ops draw).wp P (fun e a' w'=>Q e a' w'∧K a'.tmps) a w:=by
   rcases h' with ⟨rfl,h2⟩ | ⟨rfl,h2⟩
   ·exact wp_region h2
   ·exact wp_region_any hm h2
  obtain ⟨e,a',w',⟨q1,q2⟩,Yd⟩:=hw b k cs
  have he:=hq _ _ _ q1
  subst he
  refine ⟨a',w',q1,q2,?_⟩
  rw [Frame.atR_of_none hr,Frame.atR_of_none hr]
  exact Yd
 | some l =>
  have hd:vk ops=true:=hb.resolve_left (by rw [hr]; simp)
  have hw:(Code.region id ops draw).wpIn (Fence.wide.inRound l) 0 P (fun e a' w'=>Q e a' w'∧K a'.tmps) a w:=by
   rcases h' with ⟨rfl,h2⟩ | ⟨rfl,h2⟩
   ·exact wpIn_region (sM hd QN _ a w h2)
   ·exact wpIn_region_any hm (sN hd QN _ _ a _ h2)
  obtain ⟨e,a',w',⟨q1,q2⟩,Yd⟩:=hw b k cs hr trivial (room_wide _)
  have he:=hq _ _ _ q1
  subst he
  exact ⟨a',w',q1,q2,StepsIn.steps Yd⟩
theorem Pt {T:List (Nat × TI)} (hT:mP C.P T) (hm:C.P.follows .mixedOrders=true) {ops:Array Oper} {draw:Bool} {jf:Option (List Nat)} {st st':St} {kj:List zP} {ob:Ob}
  (h:xn C.P T C.nt ops draw jf st kj=some (st',ob)) (cb:ob.den) (hs:nb C st a w):(draw=false∧wpOps C.P ops (fun e a' w'=>e=.normal∧nb C st' a' w') (List.range ops.size) a w)∨(draw=true∧wpAny C.P .any ops (fun e a' w'=>e=.normal∧nb C st' a' w') ops.size (Array.replicate ops.size false) a { w with drawn:=w.drawn+1 }):=by
 unfold xn at h
 split at h
 ·rename_i sA l9 gl yX Yb
  rw [Bool.cond_eq_ite] at h
  by_cases hb:(T2 draw ops sA&&sA.all (fun τ=>τ.created.all (KU st))&&rk l9.sl)=true
  case neg=>rw [if_neg hb] at h; cases h
  case pos =>
   rw [if_pos hb] at h
   simp only [Option.some.injEq,Prod.mk.injEq] at h
   obtain ⟨rfl,rfl⟩:=h
   simp only [Bool.and_eq_true] at hb
   obtain ⟨⟨QI,ui⟩,ab1⟩:=hb
   let ν:Nat→Bool:=fun s=>(look gl s).getD false
   have hν:∀ s e,look gl s=some e→ν s=e:=fun s e hl=>by simp [ν,hl]
   obtain ⟨i1,i2,i3,_⟩:=DV (C:=C) (ν:=ν) hT Yb cb hν
   obtain ⟨S,μ,eX⟩:=hs
   have hfa:A1 sA st.fZ:=fun τ hτ κ hκ=>by
    simp only [List.all_eq_true] at ui
    exact MZ (ui τ hτ κ hκ)
   have hQ:∀ a' w' S' μ',df C l9.fZ a' w' S' μ' ν→(Exit.normal=.normal∧nb C ⟨Go.Av.wx jf l9.sl,l9.lb⟩ a' w'):=fun a' w' S' μ' xa=>⟨rfl,S',μ',fun ν'=>xa.wx ab1 ν'⟩
   have hlen:sA.length=ops.size:=by rw [i1]; simp
   cases draw with
   | false =>
    refine .inl ⟨rfl,?_⟩
    have:=JO (C:=C) (ν:=ν) (ops:=ops) (Q:=fun e a' w'=>e=.normal∧nb C ⟨Go.Av.wx jf l9.sl,l9.lb⟩ a' w') sA 0 st.fZ l9.fZ a w S μ (by omega) (fun i τ o h1 h2=>i2 i τ o h1 (by simpa using h2)) i3 hfa QI (eX ν) hQ
    rw [hlen] at this
    rw [List.range_eq_range']
    exact this
   | true =>
    refine .inr ⟨rfl,?_⟩
    have hw':df C st.fZ a { w with drawn:=w.drawn+1 } S μ ν:=(eX ν).world (fun _ x=>x) (fun _ x=>.inl x) ⟨rfl,rfl,rfl,Nat.le_refl _,fun _ _ _=>rfl⟩
    have Ts:((List.range ops.size).map fun i=>sA.getD i ⟨[],none,.any,[],[],[],[]⟩)=sA:=by
     apply List.ext_getElem?
     intro i
     by_cases hi:i < ops.size
     ·simp [hi,List.getD,List.getElem?_eq_getElem (by omega:i < sA.length)]
     ·simp [hi,List.getElem?_eq_none (by omega:sA.length≤i)]
    refine RP (C:=C) (ν:=ν) sA QI (fun i τ o h1 h2=>i2 i τ o h1 (by simpa using h2)) l9.fZ hQ ops.size (List.range ops.size) _ st.fZ a _ S μ (by simp) List.pairwise_lt_range (by simp) (fun i=>?_) (by rw [Ts]; exact i3) (by rw [Ts]; exact hfa) ?_ (fun m o hm hl=>?_) hw'
    ·simp only [List.mem_range]
     refine ⟨fun hi=>⟨hi,by simp [Array.getD,hi]⟩,fun hi=>hi.1⟩
    ·rw [Ts]
     have aan:Mk ops sA=true:=QI
     simp only [Mk,Bool.and_eq_true] at aan
     exact aan.1.2
    ·exfalso
     have Iy:m < ops.size:=(Array.getElem?_eq_some_iff.1 hm).1
     simp [Array.getD,Iy] at hl
 ·cases h
end
def Cx.TD (C:Cx) (q:Nat):Prop:=C.T0 q∨({ target:=.collected q,args:=#[] }:Deferred)∈C.dl
def KX (C:Cx) (res:AV) (cZ:List (Nat × bK)) (e:Ending) (w':World):Prop:=∃ v S' μ',e=.returned v∧MG C.w0 C.S0 C.TD res cZ v S' μ' w'
structure Goal where
 P:Program
 T:List (Nat × TI)
 nt:Nat
 f:FuncId
 fn:Func
 res:AV
 cZ:List (Nat × bK)
 md:Nat
 pr:List Nat
 tm:Array Value
 Z:Cx→Frame→List Frame→Machine→Prop
 zs:∀ C b cs m m',Steps P m m'→Z C b cs m'→Z C b cs m
def Goal.kept (g:Goal) (t:Array Value):Prop:=∀ u,u∈g.pr→t.getD u undef=g.tm.getD u undef
def M1 (g:Goal) (C:Cx) (todo:List Item) (a:Act) (w:World):Prop :=
 ∀ (b:Frame) (cs:List Frame),b.fn=g.f→b.kind=.normal→(b.roundOf=none↔g.md≠1)→g.Z C b cs (lone (b.atR a todo) cs w)
def G (g:Goal) (todo:List Item) (st:St):Prop:=∀ C:Cx,C.P=g.P→C.nt=g.nt→∀ a w,g.kept a.tmps→nb C st a w→M1 g C todo a w
def M3 (st st':St):Prop:=∀ C a w,nb C st a w→nb C st' a w
def Xh (l:List Nat) (ops:Array Oper):Bool:=l.all fun t=>ops.toList.all fun o=>match o.dst with | some d=>!Nat.beq d t | none=>true
def Em (md:Nat) (pr:List Nat) (ops:Array Oper):Bool:=Xh pr ops&&(!Nat.beq md 1||vk ops)
section
variable {g : Goal} {k : List Item} {st st' : St}
theorem M1.step {C:Cx} {todo Ge:List Item} {a a':Act} {w w':World} (h:∀ (b:Frame) (cs:List Frame),Steps g.P (lone (b.atR a todo) cs w) (lone (b.atR a' Ge) cs w')) (hr:M1 g C Ge a' w'):M1 g C todo a w :=
 fun b cs h1 h2 h3=>g.zs C b cs _ _ (h b cs) (hr b cs h1 h2 h3)
theorem G.le (h:M3 st st') (hg:G g k st'):G g k st:=fun C h1 h2 a w hk hs=>hg C h1 h2 a w hk (h C a w hs)
theorem G.seq {x y:Code} (h:G g (.code x :: .code y :: k) st):G g (.code (.seq x y) :: k) st:=fun C h1 h2 a w hk hs=>(h C h1 h2 a w hk hs).step fun _ _=>.one stepR_seq
theorem G.skip (h:G g k st):G g (.code .skip :: k) st:=fun C h1 h2 a w hk hs=>(h C h1 h2 a w hk hs).step fun _ _=>.one stepR_skip
theorem G.label {l:Nat} (h:G g k st):G g (.code (.label l) :: k) st:=fun C h1 h2 a w hk hs=>(h C h1 h2 a w hk hs).step fun _ _=>.one stepR_label
theorem G.block {id:Nat} {c:Code} (h:G g (.code c :: .inBlock id :: k) st):G g (.code (.block id c) :: k) st:=fun C h1 h2 a w hk hs=>(h C h1 h2 a w hk hs).step fun _ _=>.one stepR_block
theorem G.inBlock {id:Nat} (h:G g k st):G g (.inBlock id :: k) st:=fun C h1 h2 a w hk hs=>(h C h1 h2 a w hk hs).step fun _ _=>.one stepR_inBlock
theorem G.inLoop {c:Code} (h:G g (.code c :: .inLoop c :: k) st):G g (.inLoop c :: k) st:=fun C h1 h2 a w hk hs=>(h C h1 h2 a w hk hs).step fun _ _=>.one stepR_inLoop
theorem G.exit {id:Nat} {k':List Item} (he:exitTo id k=some k') (h:G g k' st):G g (.code (.exit id) :: k) st:=fun C h1 h2 a w hk hs=>(h C h1 h2 a w hk hs).step fun _ _=>.one (stepR_exit he)
theorem G.cond {c:Nat} {x y:Code} {e:Bool} (hc:St.get st.sl c=.d (.v (.bool e))) (ht:e=true→G g (.code x :: k) st) (hf:e=false→G g (.code y :: k) st):G g (.code (.cond (.tmp c) x y) :: k) st:=by
 intro C h1 h2 a w hk hs
 obtain ⟨S,μ,eX⟩:=hs
 have hr:=(eX fun _=>false).eF c
 simp only [St.fZ,hc] at hr
 have he:a.eval (.tmp c)=.bool e:=nd hr
 cases e with
 | true=>exact (ht rfl C h1 h2 a w hk ⟨S,μ,eX⟩).step fun _ _=>.one (by simpa using stepR_cond (x:=x) (y:=y) he)
 | false=>exact (hf rfl C h1 h2 a w hk ⟨S,μ,eX⟩).step fun _ _=>.one (by simpa using stepR_cond (x:=x) (y:=y) he)
theorem G.aao {x y:Code} {e:Bool} (h:G g (.code (bif e then x else y) :: k) st):G g (.code (.cond (.const (.bool e)) x y) :: k) st:=by
 intro C h1 h2 a w hk hs
 have he:a.eval (.const (.bool e))=.bool e:=rfl
 cases e with
 | true=>exact (h C h1 h2 a w hk hs).step fun _ _=>.one (by simpa using stepR_cond (x:=x) (y:=y) he)
 | false=>exact (h C h1 h2 a w hk hs).step fun _ _=>.one (by simpa using stepR_cond (x:=x) (y:=y) he)
theorem Goal.aap {ops:Array Oper} (h:Em g.md g.pr ops=true):QY ops g.kept:=by
 intro i o a v ho hk u hu
 unfold Em at h
 simp only [Bool.and_eq_true,Xh,List.all_eq_true] at h
 have h1:=h.1 u hu o (by obtain ⟨hi,rfl⟩:=Array.getElem?_eq_some_iff.1 ho; simp)
 rw [← hk u hu]
 cases hd:o.dst with
 | none=>rfl
 | some d =>
  rw [hd] at h1
  exact dg _ _ _ _ (fun e=>by subst e; simp at h1)
theorem G.ops (hm:g.P.follows .mixedOrders=true) {C:Cx} {id:Nat} {ops:Array Oper} {draw:Bool} {a:Act} {w:World} {Q:Act→World→Prop} (hr:Em g.md g.pr ops=true) (ha:g.kept a.tmps)
  (h:(draw=false∧wpOps g.P ops (fun e a' w'=>e=.normal∧Q a' w') (List.range ops.size) a w)∨(draw=true∧wpAny g.P .any ops (fun e a' w'=>e=.normal∧Q a' w') ops.size (Array.replicate ops.size false) a { w with drawn:=w.drawn+1 }))
  (hg:∀ a' w',g.kept a'.tmps→Q a' w'→M1 g C k a' w'):M1 g C (.code (.region id ops draw) :: k) a w:=by
 intro b cs h1 h2 h3
 obtain ⟨a',w',q1,q2,q3⟩:=Yc (id:=id) hm (Goal.aap hr) (fun e a w h=>h.1) ha h b (by
  by_cases hp:g.md=1
  ·unfold Em at hr; simp only [Bool.and_eq_true,hp] at hr; exact .inr (by simpa using hr.2)
  ·exact .inl (h3.2 hp)) k cs
 exact g.zs C b cs _ _ q3 (hg a' w' q2 q1.2 b cs h1 h2 h3)
theorem G.region (hT:mP g.P g.T) (hm:g.P.follows .mixedOrders=true) {id:Nat} {ops:Array Oper} {draw:Bool} {jf:Option (List Nat)} {kj:List zP} {ob:Ob} (hr:Em g.md g.pr ops=true) (h:xn g.P g.T g.nt ops draw jf st kj=some (st',ob)) (cb:ob.den) (hg:G g k st'):G g (.code (.region id ops draw) :: k) st:=by
 intro C h1 h2 a w hk hs
 have hw:=Pt (C:=C) (T:=g.T) (by rw [h1]; exact hT) (by rw [h1]; exact hm) (by rw [h1,h2]; exact h) cb hs
 rw [h1] at hw
 exact G.ops hm hr hk hw (fun a' w' fP xa=>hg C h1 h2 a' w' fP xa)
theorem G.loop {ι:Type} (I:ι→St) (m:ι→Nat) {c:Code} (i0:ι) (h0:M3 st (I i0)) (hr:∀ i,(∀ j,m j < m i→G g (.inLoop c :: k) (I j))→G g (.code c :: .inLoop c :: k) (I i)):G g (.code (.loop c) :: k) st:=by
 have key:∀ n i,m i=n→G g (.code c :: .inLoop c :: k) (I i):=by
  intro n
  induction n using Nat.strongRecOn with
  | _ n ih =>
   intro i hi
   exact hr i (fun j hj=>.inLoop (ih (m j) (hi ▸ hj) j rfl))
 intro C h1 h2 a w hk hs
 exact (key _ i0 rfl C h1 h2 a w hk (h0 C a w hs)).step fun _ _=>.one stepR_loop
end
def sO (T:List (Nat × TI)) (st:St):List ResultVar→Option (List AV × List (Nat × bK) × Ob)
 | []=>some ([],[],.tt)
 | .tmp t :: r=>(match sO T st r with | some (l,ro,ob)=>some (St.get st.sl t :: l,ro,ob) | none=>none)
 | .cell t ty :: r=>(match look T ty,nc st.lb (St.get st.sl t),sO T st r with
  | some i,some (cs,Zz,yX),some (l,ro,ob)=>(match FE i cs with | some v=>some (v :: l,Zz++ro,yX.and ob) | none=>none)
  | _,_,_=>none)
section
variable {C : Cx} {a : Act} {w : World} {S : Nat → Prop} {μ : Mu} {ν : Nat → Bool}
def T6:List Value→Value
 | [v]=>v
 | l=>.tuple l.toArray
def CH (tmps:Array Value):ResultVar→Sem Value
 | .tmp t=>pure (tmps.getD t undef)
 | .cell a t=>do loadVar t (← asAddr (tmps.getD a undef))
theorem oh {T:List (Nat × TI)} (hT:mP C.P T) {st:St} (hs:df C st.fZ a w S μ ν):∀ {rs:List ResultVar} {l:List AV} {ro:List (Nat × bK)} {ob:Ob},sO T st rs=some (l,ro,ob)→ob.den→∃ vs,(rs.mapM (CH a.tmps)).run C.P w=.ok vs w∧dG w S μ ν l vs
 | [],l,ro,ob,h,_=>by
  simp only [sO,Option.some.injEq,Prod.mk.injEq] at h
  obtain ⟨rfl,-,-⟩:=h
  exact ⟨[],by simp,rfl,fun i hi=>absurd hi (by simp)⟩
 | .tmp t :: r,l,ro,ob,h,cb=>by
  simp only [sO] at h
  split at h
  ·rename_i l' JW AW hr
   simp only [Option.some.injEq,Prod.mk.injEq] at h
   obtain ⟨rfl,rfl,rfl⟩:=h
   obtain ⟨vs,h1,h2⟩:=oh hT hs hr cb
   refine ⟨a.tmps.getD t undef :: vs,by simp [List.mapM_cons,CH,h1],by simp [h2.1],fun i hi=>?_⟩
   cases i with
   | zero =>
    have:=hs.eF t
    simp only [St.fZ] at this
    simpa using this
   | succ i=>simpa using h2.2 i (by simpa using hi)
  ·cases h
 | .cell t ty :: r,l,ro,ob,h,cb=>by
  simp only [sO] at h
  split at h
  ·rename_i i cs Zz yX l' JW AW hi hc hr
   split at h
   ·rename_i v hv
    simp only [Option.some.injEq,Prod.mk.injEq] at h
    obtain ⟨rfl,rfl,rfl⟩:=h
    obtain ⟨vs,h1,h2⟩:=oh hT hs hr (Ob.cG cb).2
    have VR:=DN hc hs (fun p hp=>DU hc p hp) (Ob.cG cb).1 (hs.eF t)
    obtain ⟨b,o,hp,KQ⟩:=VR
    obtain ⟨u,h3,h4⟩:=JR (P:=C.P) (hT _ _ hi) hv (⟨b,o,hp,KQ⟩:KE w S μ ν cs _)
    have h5:(CH a.tmps (.cell t ty)).run C.P w=.ok u w:=by
     rw [hp] at h3
     simp only [CH,hp,asAddr,Sem.run_bind,Sem.run_pure,Result.andThen_ok]
     simpa [Instr.loadAt,Instr.sureAddr] using h3
    refine ⟨u :: vs,by simp [List.mapM_cons,h5,h1],by simp [h2.1],fun i hi=>?_⟩
    cases i with
    | zero=>simpa using h4
    | succ i=>simpa using h2.2 i (by simpa using hi)
   ·cases h
  ·cases h
theorem Pu (fn:Func) (tmps:Array Value):results fn tmps=(do let vs ← fn.results.mapM (CH tmps); pure (if h:vs.size=1 then vs[0] else .tuple vs):Sem Value):=by
 unfold results
 congr 2
theorem xq {fn:Func} {vs:List Value} (h:(fn.results.toList.mapM (CH a.tmps)).run C.P w=.ok vs w):(results fn a.tmps).run C.P w=.ok (T6 vs) w:=by
 rw [Pu,Array.mapM_eq_mapM_toList]
 simp only [Sem.run_bind,Sem.run_map,h,Result.andThen_ok,Sem.run_pure]
 congr 1
 clear h
 match vs with
 | []=>rfl
 | [v]=>rfl
 | _ :: _ :: _=>rfl
end
def qk (x y:AV):Prop:=∀ w S μ ν v,Rel w S μ ν x v→Rel w S μ ν y v
theorem qk.rfl' {x:AV}:qk x x:=fun _ _ _ _ _ h=>h
theorem qk.d {x y:D} (h:qg x y):qk (.d x) (.d y):=fun w S _ _ v hr=>.d (h w S v (gT.1 hr))
def pF:List AV→AV
 | [x]=>x
 | l=>.ef l
theorem CI {w:World} {S:Nat→Prop} {μ:Mu} {ν:Nat→Bool} {l:List AV} {vs:List Value} (h:dG w S μ ν l vs):Rel w S μ ν (pF l) (T6 vs):=by
 match l,vs,h with
 | [x],[v],h=>simpa [pF,T6] using h.2 0 (by simp)
 | [],[],h=>exact .ef rfl (fun i hi=>absurd hi (by simp))
 | x :: y :: r,u :: v :: s,h=>exact .ef (by simpa using h.1) (fun i hi=>by rw [cY]; simpa using h.2 i hi)
 | [],_ :: _,h=>have:=h.1; simp at this
 | [_],[],h=>have:=h.1; simp at this
 | [_],_ :: _ :: _,h=>have:=h.1; simp at this
 | _ :: _ :: _,[],h=>have:=h.1; simp at this
 | _ :: _ :: _,[_],h=>have:=h.1; simp at this
theorem zS {P:Program} {cs:List Frame}:∀ (l:List Deferred) (fr:Frame) (w:World),fr.mode=.returning→fr.defers=l→l.Nodup→(∀ d,d∈l→∃ q,d = { target:=.collected q,args:=#[] }∧w.heap[q]? = some (.deferred (some []))) →
  ∃ w',Steps P (lone fr cs w) (lone { fr with defers:=[] } cs w')∧Kept w w' (fun q=>({ target:=.collected q,args:=#[] }:Deferred)∈l)
 | [],fr,w,_,hd,_,_=>⟨w,by rw [show ({ fr with defers:=[] }:Frame)=fr by rw [← hd]]; exact .refl _ _,Kept.refl _ _⟩
 | d :: l,fr,w,hm,hd,WZ,hl=>by
  obtain ⟨q,rfl,hq⟩:=hl d (by simp)
  have h1:=step_collected (P:=P) (cs:=cs) (d:={ target:=.collected q,args:=#[] }) (by rw [hm]; simp) hd rfl (run_takeDeferred hq)
  have hk:Kept w (w.putObj q (.deferred none)) (fun b=>b=q):=⟨rfl,rfl,rfl,by simp [World.putObj],fun b _ hb=>World.putObj_heap_other hb⟩
  obtain ⟨w',h2,h3⟩:=zS l { fr with defers:=[]++l } (w.putObj q (.deferred none)) hm rfl (List.nodup_cons.1 WZ).2 (fun d hd'=>by
   obtain ⟨p,rfl,hp⟩:=hl d (by simp [hd'])
   refine ⟨p,rfl,?_⟩
   have rA:p≠q:=fun e=>(List.nodup_cons.1 WZ).1 (e ▸ hd')
   rw [World.putObj_heap_other rA]; exact hp)
  refine ⟨w',.head h1 h2,(hk.A0 (fun b hb=>by subst hb; simp)).trans h3 (fun b _ hb=>by simp [hb])⟩
def Cx.shut (C:Cx):Cx:={ C with T0:=C.TD,dis:=fun b hb h=>h.elim (C.dis b hb) (fun h=>(by obtain ⟨q,e,_,_,hq⟩:=C.XK _ h; cases e; exact hq hb)),dl:=[],XK:=fun d h=>(by cases h),WX:=List.nodup_nil }
theorem eI.pG {w:World} {S:Nat→Prop} {μ:Mu} {b:bK} {g cap:Nat} {o:Option (List Deferred)} (h:eI w S μ b g cap):w.heap[g]?≠some (.deferred o):=by
 cases b with
 | box cs=>obtain ⟨cur,e,hg,_⟩:=h; rw [hg]; simp
 | row e k n f=>obtain ⟨cur,hg,_⟩:=h; rw [hg]; simp
 | mp n f=>obtain ⟨cur,hg,_⟩:=h; rw [hg]; simp
 | it mk n seen=>obtain ⟨mg,c,_,hg,_⟩:=h; rw [hg]; simp
 | mx=>obtain ⟨m,_,cur,hg,_⟩:=h; rw [hg]; simp
theorem df.Sg {C:Cx} {A:M} {a:Act} {w:World} {S:Nat→Prop} {μ:Mu} {ν:Nat→Bool} (h:df C A a w S μ ν):∀ d,d∈C.dl→∃ q,d = { target:=.collected q,args:=#[] }∧w.heap[q]? = some (.deferred (some []))∧¬ S q:=by
 intro d hd
 obtain ⟨q,e,h1,h2,h3⟩:=C.XK d hd
 have iR:=(Array.getElem?_eq_some_iff.1 h1).1
 refine ⟨q,e,(h.kept.block q iR h2).trans h1,fun hs=>?_⟩
 rcases h.fresh q hs with h4 | h4 | h4
 ·exact h3 h4
 ·omega
 ·exact h2 h4
theorem df.shut {C:Cx} {A:M} {a:Act} {w w':World} {S:Nat→Prop} {μ:Mu} {ν:Nat→Bool} (h:df C A a w S μ ν) (hk:Kept w w' (fun q=>({ target:=.collected q,args:=#[] }:Deferred)∈C.dl)):df C.shut A { a with defers:=[] } w' S μ ν:=by
 have hw:∀ b,S b→w'.heap[b]? = w.heap[b]?:=fun b hb=>hk.block b (h.bound b hb) (fun hd=>by
  obtain ⟨q,e,_,hq⟩:=h.Sg _ hd
  cases e
  exact hq hb)
 refine ⟨h.tmps,rfl,fun t=>(h.eF t).mono (fun _ x=>x) hw (fun _ _ e=>e),fun κ b hb=>?_,h.inj,fun κ b g c h1 h2=>?_,h.eJ,fun b hb=>?_,fun b hb=>Nat.lt_of_lt_of_le (h.bound b hb) hk.size,?_⟩
 ·have hm:=h.mem κ b hb
  refine hm.mono (fun _ x=>x) hw (fun _ _ e=>e) (fun g c e=>?_)
  rw [e] at hm
  refine ⟨hk.block g hm.at.lt (fun hd=>?_),hm.at.not⟩
  obtain ⟨q,e',hq,_⟩:=h.Sg _ hd
  cases e'
  exact hm.at.pG hq
 ·rcases h.own κ b g c h1 h2 with q | q
  ·exact .inl q
  ·exact .inr (.inl q)
 ·rcases h.fresh b hb with q | q | q
  ·exact .inl q
  ·exact .inr (.inl q)
  ·exact .inr (.inr (.inl q))
 ·exact (h.kept.A0 (fun _ x=>.inl x)).trans hk (fun b _ hb=>.inr hb)
structure Goal.VE (g:Goal):Prop where
 md:g.md=0
 fin:∀ C b cs m,(∃ e w' fr,KX C g.res g.cZ e w'∧Comes g.P m (lone fr cs w') e∧fr.fn=g.f∧fr.leaving g.P w' e)→g.Z C b cs m
theorem Goal.VE.out {g:Goal} (hg:g.VE) (hf:g.P.funcs[g.f]? = some g.fn) {C:Cx} (h1:C.P=g.P) {st:St} {a:Act} {w:World} (hs:nb C st a w) (hp:∀ w',nb C.shut st { a with defers:=[] } w'→∃ v,(results g.fn a.tmps).run C.P w'=.ok v w'∧KX C.shut g.res g.cZ (.returned v) w')
  {todo:List Item} (mG:∀ (b:Frame) (cs:List Frame),b.roundOf=none→Steps g.P (lone (b.atR a todo) cs w) (lone { b.atR a todo with mode:=.returning } cs w)):M1 g C todo a w:=by
 intro b cs KY Ik Sh
 refine hg.fin C b cs _ ?_
 obtain ⟨S,μ,eX⟩:=hs
 have h0:=eX fun _=>false
 have TL:=Sh.2 (by rw [hg.md]; decide)
 obtain ⟨w',q1,q2⟩:=zS (P:=g.P) (cs:=cs) C.dl { b.atR a todo with mode:=.returning } w rfl h0.defers C.WX (fun d hd=>let ⟨q,e,h,_⟩:=h0.Sg d hd; ⟨q,e,h⟩)
 obtain ⟨v,r1,r2⟩:=hp w' ⟨S,μ,fun ν=>(eX ν).shut q2⟩
 obtain ⟨v',S',μ',e,B⟩:=r2
 refine ⟨.returned v,w',_,⟨v',S',μ',e,B.TF (fun q hq=>?_)⟩,Steps.trans (mG b cs TL) q1,KY,rfl,rfl,Ik,g.fn,?_,?_⟩
 ·rcases hq with hq | hq
  ·exact hq
  ·cases hq
 ·show g.P.funcs[b.fn]? = _
  rw [KY]; exact hf
 ·rw [← h1]; exact r1
def QZ (C:Cx) (res:AV) (cZ:List (Nat × bK)) (lg:List (Nat × Nat)) (tm:Array Value) (e:Ending) (w':World):Prop:=∃ v S' μ',e=.returned v∧MG C.w0 C.S0 C.TD res cZ v S' μ' w'∧∀ p,p∈lg→∀ ν,Rel w' S' μ' ν (.ptr p.2 0) (tm.getD p.1 undef)
structure Goal.Pv (g:Goal) (lg:List (Nat × Nat)):Prop where
 md:g.md=3
 pr:∀ p,p∈lg→p.1∈g.pr
 fin:∀ C b cs m,(∃ e w' fr,QZ C g.res g.cZ lg g.tm e w'∧Comes g.P m (lone fr cs w') e∧fr.fn=g.f∧fr.leaving g.P w' e)→g.Z C b cs m
theorem Goal.Pv.out {g:Goal} {lg:List (Nat × Nat)} (hg:g.Pv lg) (hf:g.P.funcs[g.f]? = some g.fn) {C:Cx} (h1:C.P=g.P) {st:St} {a:Act} {w:World} (hs:nb C st a w) (hp:∀ w',nb C.shut st { a with defers:=[] } w'→∃ v,(results g.fn a.tmps).run C.P w'=.ok v w'∧QZ C.shut g.res g.cZ lg g.tm (.returned v) w')
  {todo:List Item} (mG:∀ (b:Frame) (cs:List Frame),b.roundOf=none→Steps g.P (lone (b.atR a todo) cs w) (lone { b.atR a todo with mode:=.returning } cs w)):M1 g C todo a w:=by
 intro b cs KY Ik Sh
 refine hg.fin C b cs _ ?_
 obtain ⟨S,μ,eX⟩:=hs
 have h0:=eX fun _=>false
 have TL:=Sh.2 (by rw [hg.md]; decide)
 obtain ⟨w',q1,q2⟩:=zS (P:=g.P) (cs:=cs) C.dl { b.atR a todo with mode:=.returning } w rfl h0.defers C.WX (fun d hd=>let ⟨q,e,h,_⟩:=h0.Sg d hd; ⟨q,e,h⟩)
 obtain ⟨v,r1,r2⟩:=hp w' ⟨S,μ,fun ν=>(eX ν).shut q2⟩
 obtain ⟨v',S',μ',e,B,ha⟩:=r2
 refine ⟨.returned v,w',_,⟨v',S',μ',e,B.TF (fun q hq=>?_),ha⟩,Steps.trans (mG b cs TL) q1,KY,rfl,rfl,Ik,g.fn,?_,?_⟩
 ·rcases hq with hq | hq
  ·exact hq
  ·cases hq
 ·show g.P.funcs[b.fn]? = _
  rw [KY]; exact hf
 ·rw [← h1]; exact r1
theorem G.ab2 {g:Goal} {st:St} {lg:List (Nat × Nat)} (hg:g.Pv lg) (hf:g.P.funcs[g.f]? = some g.fn) (hp:∀ (C:Cx) (a:Act) (w:World),C.P=g.P→g.kept a.tmps→nb C st a w→∃ v,(results g.fn a.tmps).run C.P w=.ok v w∧QZ C g.res g.cZ lg g.tm (.returned v) w):G g [] st∧∀ k,G g (.code .ret :: k) st :=
 ⟨fun C h1 _ a w hk hs=>hg.out hf h1 hs (fun w' xa=>hp C.shut { a with defers:=[] } w' h1 hk xa) (fun b cs hb=>.one (stepR_end hb)),
  fun k C h1 _ a w hk hs=>hg.out hf h1 hs (fun w' xa=>hp C.shut { a with defers:=[] } w' h1 hk xa) (fun b cs hb=>.one (stepR_ret hb))⟩
section
variable {g : Goal} {k : List Item} {st : St}
theorem Si {C:Cx} {a:Act} {w:World} (hs:nb C st a w) (hT:mP C.P g.T) (hl:g.cZ=[]) {l l':List AV} {ro JW:List (Nat × bK)} {ob AW:Ob} (h:sO g.T st g.fn.results.toList=some (l,ro,ob)) (cb:ob.den) (hb:uv st.lb l=some (l',JW,AW)) (F7:AW.den) (hle:qk (pF l') g.res) :
  ∃ v,(results g.fn a.tmps).run C.P w=.ok v w∧KX C g.res g.cZ (.returned v) w:=by
 obtain ⟨S,μ,eX⟩:=hs
 have h0:=eX fun _=>false
 obtain ⟨vs,h1,h2⟩:=oh hT h0 h cb
 refine ⟨_,xq h1,?_⟩
 have h3:∀ μ' ν',dG w (fun b=>b < w.heap.size∧(C.S0 b∨C.w0.heap.size≤b∨C.T0 b)) μ' ν' l' vs:=fun μ' ν' =>
  CA h0 (fun b hb=>⟨h0.bound b hb,h0.fresh b hb⟩) (fun κ b q c h1 h2=>⟨by have:=h0.mem κ b h1; rw [h2] at this; exact this.at.lt,.inr (h0.own κ b q c h1 h2)⟩) μ' ν' hb (fun p hp=>F9 hb p hp) F7 h2
 refine ⟨_,fun b=>b < w.heap.size∧(C.S0 b∨C.w0.heap.size≤b∨C.T0 b),fun _=>none,rfl,?_⟩
 rw [hl]
 exact ⟨fun ν'=>hle _ _ _ _ _ (CI (h3 _ ν')),fun κ b hk=>by simp [look] at hk,fun κ κ' b b' q c c' hk=>by simp [look] at hk,fun κ b q c hk=>by simp [look] at hk,
  fun b hb=>⟨Nat.lt_of_lt_of_le (h0.bound b (h0.eJ b hb)) (Nat.le_refl _),.inl hb⟩,fun b hb=>hb.2.imp id (Or.imp id .inl),fun b hb=>hb.1,h0.kept.A0 fun _ h=>.inl h⟩
theorem G.out (hg:g.VE) (hf:g.P.funcs[g.f]? = some g.fn) (hp:∀ (C:Cx) (a:Act) (w:World),C.P=g.P→nb C st a w→∃ v,(results g.fn a.tmps).run C.P w=.ok v w∧KX C g.res g.cZ (.returned v) w):G g [] st∧∀ k,G g (.code .ret :: k) st :=
 ⟨fun C h1 _ a w _ hs=>hg.out hf h1 hs (fun w' xa=>hp C.shut { a with defers:=[] } w' h1 xa) (fun b cs hb=>.one (stepR_end hb)),
  fun k C h1 _ a w _ hs=>hg.out hf h1 hs (fun w' xa=>hp C.shut { a with defers:=[] } w' h1 xa) (fun b cs hb=>.one (stepR_ret hb))⟩
theorem G.ret (hg:g.VE) (hT:mP g.P g.T) (hf:g.P.funcs[g.f]? = some g.fn) (hl:g.cZ=[]) {l l':List AV} {ro JW:List (Nat × bK)} {ob AW:Ob} (h:sO g.T st g.fn.results.toList=some (l,ro,ob)) (cb:ob.den) (hb:uv st.lb l=some (l',JW,AW)) (F7:AW.den) (hle:qk (pF l') g.res):G g [] st∧∀ k,G g (.code .ret :: k) st :=
 G.out hg hf (fun C a w h1 hs=>Si (g:=g) hs (by rw [h1]; exact hT) hl h cb hb F7 hle)
end
def fm:Nat→List AV→List (Nat × AV)
 | _,[]=>[]
 | n,x :: r=>(n,x) :: fm (n+1) r
theorem zu:∀ (l:List AV) (n t:Nat),look (fm n l) t=if n≤t then l[t - n]? else none
 | [],n,t=>by simp [fm,look]
 | x :: r,n,t=>by
  simp only [fm,cg,zu r (n+1) t]
  by_cases h:n=t
  ·subst h; simp
  ·simp only [h,if_false]
   by_cases h1:n+1≤t
   ·rw [if_pos h1,if_pos (by omega),show t - n=t - (n+1)+1 by omega]
    simp
   ·rw [if_neg h1,if_neg (by omega)]
def ZN (P:Program) (f:FuncId) (res:AV) (cZ:List (Nat × bK)) (C:Cx) (_:Frame) (cs:List Frame) (m:Machine):Prop :=
 ∃ e w' fr,KX C res cZ e w'∧Comes P m (lone fr cs w') e∧fr.fn=f∧fr.leaving P w' e
def Goal.of (P:Program) (T:List (Nat × TI)) (nt:Nat) (f:FuncId) (fn:Func) (res:AV) (cZ:List (Nat × bK)):Goal :=
 ⟨P,T,nt,f,fn,res,cZ,0,[],#[],ZN P f res cZ,fun _ _ _ _ _ hs ⟨e,w',fr,q1,q2,q3⟩=>⟨e,w',fr,q1,.of_steps hs q2,q3⟩⟩
theorem Goal.T7 {P:Program} {T:List (Nat × TI)} {nt:Nat} {f:FuncId} {fn:Func} {res:AV} {cZ:List (Nat × bK)}:(Goal.of P T nt f fn res cZ).VE:=⟨rfl,fun _ _ _ _ h=>h⟩
theorem iU.intro {P:Program} {T:List (Nat × TI)} {f:FuncId} {fn:Func} {body:Code} {args:List AV} {cZ:List (Nat × bK)} {res:AV} {gp:List (Nat × bK)} (hf:P.funcs[f]? = some fn) (hb:fn.body=some body) (hc:ib P f=true) (hn:args.length≤fn.ntmps)
  (h:G (.of P T fn.ntmps f fn res gp) [.code body] ⟨fm 0 args,cZ⟩):iU P f args cZ res gp:=by
 refine ⟨hc,fun w S μ vs hS VT lH hm hi cs=>?_⟩
 let C:Cx:=⟨P,w,S,Handed cZ μ,fn.ntmps,VT,fun b hb ⟨κ,bk,c,q1,q2⟩=>by
  have:=hm κ bk q1
  rw [q2] at this
  exact this.at.not hb,hS,[],fun d h=>(by cases h),List.nodup_nil⟩
 let b:Frame:={ (default:Frame) with fn:=f,kind:=.normal,roundOf:=none }
 have hl:vs.size=args.length:=by have:=(lH fun _=>false).1; simpa using this
 have Ye:Frame.enter P f vs .normal=b.atR { tmps:=vs++Array.replicate (fn.ntmps - vs.size) undef,defers:=[] } [.code body]:=by
  simp [Frame.enter,Frame.atR,hf,hb,b]
 have eX:nb C ⟨fm 0 args,cZ⟩ { tmps:=vs++Array.replicate (fn.ntmps - vs.size) undef,defers:=[] } w:=by
  refine ⟨S,μ,fun ν=>⟨by simp [C]; omega,rfl,fun t=>?_,hm,hi,fun κ bk q c h1 h2=>.inr ⟨κ,bk,c,h1,h2⟩,fun _ hb=>hb,fun _ hb=>.inl hb,hS,Kept.refl _ _⟩⟩
  simp only [St.fZ,St.get,zu,Nat.zero_le,if_true,Nat.sub_zero]
  by_cases ht:t < args.length
  ·rw [List.getElem?_eq_getElem ht]
   have h2:=(lH ν).2 t ht
   rw [show args.getD t default=args[t] from by simp [List.getD,ht]] at h2
   have e:(vs++Array.replicate (fn.ntmps - vs.size) undef).getD t undef=vs.toList.getD t undef:=by
    rw [← cY]
    simp only [Array.getD_eq_getD_getElem?]
    rw [Array.getElem?_append_left (by omega)]
   rw [e]
   exact h2
  ·rw [List.getElem?_eq_none (by omega)]
   exact .any _
 obtain ⟨e,w',fr,⟨v,S',μ',e1,B⟩,q2,q3,q4⟩:=h C rfl rfl _ _ (fun u hu=>by cases hu) eX b cs rfl rfl ⟨fun _ h=>(by cases h),fun _=>rfl⟩
 exact ⟨e,w',fr,⟨v,S',μ',e1,B.TF (fun q hq=>hq.elim id (fun h=>by cases h))⟩,by rw [Ye]; exact q2,q3,q4⟩
abbrev Ren:=List (Nat × Option Nat)
def ux (ρ:Ren) (μ:Mu):Mu:=fun k=>match look ρ k with | some (some o)=>μ o | some none=>some none | none=>none
def pH (ρ:Ren) (κ' κ:Nat):Bool:=match look ρ κ' with | some (some o)=>Nat.beq o κ | _=>false
def M4 (ρ:Ren) (κ':Nat):Bool:=match look ρ κ' with | some none=>true | _=>false
theorem xr {ρ:Ren} {κ' κ:Nat} (h:pH ρ κ' κ=true) (μ:Mu):ux ρ μ κ'=μ κ:=by
 unfold pH at h
 unfold ux
 split at h
 ·rename_i o hl
  rw [hl]
  simp only [Nat.eq_of_beq_eq_true h]
 ·cases h
theorem T9 {ρ:Ren} {κ':Nat} (h:M4 ρ κ'=true) (μ:Mu):ux ρ μ κ'=some none:=by
 unfold M4 at h
 unfold ux
 split at h
 ·rename_i hl; rw [hl]
 ·cases h
mutual
def pI (ρ:Ren):AV→AV→Option Prop
 | _,.any=>some True
 | .d x,.d y=>some (qg x y)
 | .own κ n,.own κ' n'=>bif pH ρ κ' κ then some (n=n') else none
 | .d (.v (.slice none 0 0)),.own κ' n'=>bif M4 ρ κ' then some (n'=0) else none
 | .ptr κ o,.ptr κ' o'=>bif pH ρ κ' κ&&Nat.beq o o' then some True else none
 | .ref cs,.ref zT=>some (cs=zT)
 | .fn f l,.fn f' l'=>bif Nat.beq f f' then uy ρ l l' else none
 | .ef l,.ef l'=>uy ρ l l'
 | .ag l,.ag l'=>uy ρ l l'
 | .uh κ,.uh κ'=>bif pH ρ κ' κ then some True else none
 | .yo n f,.yo n' f'=>some (n=n'∧f=f')
 | .wu n f,.wu n' f'=>some (n=n'∧f=f')
 | .wu n f,.d (.sl n' f')=>some (n=n'∧f=f')
 | .u7 κ k i o,.u7 κ' k' i' o'=>bif pH ρ κ' κ&&Nat.beq k k'&&Nat.beq o o' then some (i=i') else none
 | _,_=>none
def uy (ρ:Ren):List AV→List AV→Option Prop
 | [],[]=>some True
 | x :: r,y :: s=>(match pI ρ x y,uy ρ r s with | some a,some b=>some (a∧b) | _,_=>none)
 | _,_=>none
end
def lh (ρ:Ren):bK→bK→Option Prop
 | .box cs,.box zT=>uy ρ cs zT
 | .row e k n f,.row e' k' n' f'=>bif Nat.beq e e'&&Nat.beq k k' then some (n=n'∧∀ i,i < n→f i=f' i) else none
 | .mp n f,.mp n' f'=>some (n=n'∧f=f')
 | .it mk n s,.it mk' n' s'=>bif pH ρ mk' mk then some (n=n'∧s=s') else none
 | .mx q,.mx q'=>some (q=q')
 | _,_=>none
def Gf (ρ:Ren) (sl:List (Nat × AV)):List (Nat × AV)→Option Prop
 | []=>some True
 | (t,x) :: r=>(match pI ρ (St.get sl t) x,Gf ρ sl r with | some a,some b=>some (a∧b) | _,_=>none)
def Eo (ρ:Ren) (lb:List (Nat × bK)):List (Nat × bK)→Option Prop
 | []=>some True
 | (κ,b) :: r=>(match look ρ κ,Eo ρ lb r with
  | some (some o),some p=>(match look lb o with | some c=>(match lh ρ c b with | some q=>some (q∧p) | none=>none) | none=>none)
  | some none,some p=>(match b with | .row _ _ n _=>some (n=0∧p) | _=>none)
  | _,_=>none)
def Bh:Ren→Bool
 | []=>true
 | (_,some o) :: r=>r.all (fun p=>match p.2 with | some q=>!Nat.beq q o | none=>true)&&Bh r
 | (_,none) :: r=>Bh r
section
variable {w : World} {S : Nat → Prop} {μ : Mu} {ν : Nat → Bool} {ρ : Ren}
theorem mR {α:Type} {b:Bool} {x y:α} (h:(bif b then some x else none)=some y):b=true∧x=y:=by
 cases b with
 | true=>exact ⟨rfl,Option.some.inj h⟩
 | false=>cases h
mutual
theorem uz:∀ (x y:AV) (ob:Prop),pI ρ x y=some ob→ob→∀ v,Rel w S μ ν x v→Rel w S (ux ρ μ) ν y v
 | x,y,ob,h,cb,v,hr=>by
  unfold pI at h
  split at h
  ·exact .any v
  ·simp only [Option.some.injEq] at h
   subst h
   exact .d (cb _ _ _ (gT.1 hr))
  ·obtain ⟨h1,rfl⟩:=mR h
   subst cb
   have hk:=xr h1 μ
   cases hr with
   | eH hμ=>exact .eH (by rw [hk]; exact hμ)
   | own hμ=>exact .own (by rw [hk]; exact hμ)
  ·obtain ⟨h1,rfl⟩:=mR h
   have:=cI rfl hr
   rw [this,cb]
   exact .eH (T9 h1 μ)
  ·obtain ⟨h1,-⟩:=mR h
   simp only [Bool.and_eq_true] at h1
   have e:=Nat.eq_of_beq_eq_true h1.2
   subst e
   cases hr with
   | ptr hμ=>exact .ptr (by rw [xr h1.1 μ]; exact hμ)
  ·simp only [Option.some.injEq] at h
   subst h
   subst cb
   cases hr with
   | ref dp hc h=>exact .ref dp hc h
  ·rename_i f l f' l'
   cases hb:Nat.beq f f' with
   | false=>rw [hb] at h; cases h
   | true =>
    rw [hb] at h
    have e:=Nat.eq_of_beq_eq_true hb
    subst e
    simp only [cond_true] at h
    cases hr with
    | fn hl hh =>
     obtain ⟨q1,q2⟩:=rl l l' ob h cb
     exact .fn (by omega) (fun i hi=>q2 i hi _ (hh i (by omega)))
  ·rename_i l l'
   cases hr with
   | ef hl hh =>
    obtain ⟨q1,q2⟩:=rl l l' ob h cb
    exact .ef (by omega) (fun i hi=>q2 i hi _ (hh i (by omega)))
  ·rename_i l l'
   cases hr with
   | ag hl hh =>
    obtain ⟨q1,q2⟩:=rl l l' ob h cb
    exact .ag (by omega) (fun i hi=>q2 i hi _ (hh i (by omega)))
  ·obtain ⟨h1,-⟩:=mR h
   cases hr with
   | uh hμ=>exact .uh (by rw [xr h1 μ]; exact hμ)
  ·simp only [Option.some.injEq] at h
   subst h
   obtain ⟨rfl,rfl⟩:=cb
   cases hr with
   | yo hd=>exact .yo hd
  ·simp only [Option.some.injEq] at h
   subst h
   obtain ⟨rfl,rfl⟩:=cb
   cases hr with
   | wu hd=>exact .wu hd
  ·simp only [Option.some.injEq] at h
   subst h
   obtain ⟨rfl,rfl⟩:=cb
   cases hr with
   | wu hd=>exact .d hd
  ·obtain ⟨h1,rfl⟩:=mR h
   subst cb
   simp only [Bool.and_eq_true] at h1
   have e1:=Nat.eq_of_beq_eq_true h1.1.2
   have e2:=Nat.eq_of_beq_eq_true h1.2
   subst e1; subst e2
   cases hr with
   | u7 hμ=>exact .u7 (by rw [xr h1.1.1 μ]; exact hμ)
  ·cases h
theorem rl:∀ (l l':List AV) (ob:Prop),uy ρ l l'=some ob→ob→l.length=l'.length∧∀ i,i < l'.length→∀ v,Rel w S μ ν (l.getD i default) v→Rel w S (ux ρ μ) ν (l'.getD i default) v
 | [],[],_,_,_=>⟨rfl,fun i hi=>absurd hi (by simp)⟩
 | x :: r,y :: s,ob,h,cb=>by
  simp only [uy] at h
  cases h1:pI ρ x y with
  | none=>rw [h1] at h; cases h
  | some a =>
   cases h2:uy ρ r s with
   | none=>rw [h1,h2] at h; cases h
   | some b =>
    rw [h1,h2] at h
    simp only [Option.some.injEq] at h
    subst h
    obtain ⟨q1,q2⟩:=rl r s b h2 cb.2
    refine ⟨by simp [q1],fun i hi=>?_⟩
    cases i with
    | zero=>simpa using uz x y a h1 cb.1
    | succ i=>simpa using q2 i (by simpa using hi)
 | [],_ :: _,_,h,_=>by simp [uy] at h
 | _ :: _,[],_,h,_=>by simp [uy] at h
end
theorem V7 {b b':bK} {ob:Prop} (h:lh ρ b b'=some ob) (cb:ob) {g c:Nat} (hb:eI w S μ b g c):eI w S (ux ρ μ) b' g c:=by
 cases b with
 | box cs =>
  cases b' with
  | row=>simp [lh] at h
  | mp=>simp [lh] at h
  | it=>simp [lh] at h
  | mx=>simp [lh] at h
  | box zT =>
   simp only [lh] at h
   obtain ⟨cur,e,h1,h2,h3,h4⟩:=hb
   have hlen:=(rl (w:=w) (S:=S) (μ:=μ) (ν:=fun _=>false) cs zT ob h cb).1
   refine ⟨cur,e,h1,h2,by omega,fun j hj=>?_⟩
   obtain ⟨x,hx,hr⟩:=h4 j (by omega)
   exact ⟨x,hx,fun ν=>(rl (w:=w) (S:=S) (μ:=μ) (ν:=ν) cs zT ob h cb).2 j hj x (hr ν)⟩
 | row e k n f =>
  cases b' with
  | box=>simp [lh] at h
  | mp=>simp [lh] at h
  | it=>simp [lh] at h
  | mx=>simp [lh] at h
  | row e' k' n' f' =>
   simp only [lh] at h
   obtain ⟨h1,rfl⟩:=mR h
   simp only [Bool.and_eq_true] at h1
   have e1:=Nat.eq_of_beq_eq_true h1.1
   have e2:=Nat.eq_of_beq_eq_true h1.2
   subst e1; subst e2
   obtain ⟨rfl,hf⟩:=cb
   obtain ⟨cur,q1,q2,q3,q4,q5,q6⟩:=hb
   refine ⟨cur,q1,q2,q3,q4,q5,fun i hi=>?_⟩
   rw [← hf i hi]
   exact q6 i hi
 | mp n f =>
  cases b' with
  | box=>simp [lh] at h
  | row=>simp [lh] at h
  | it=>simp [lh] at h
  | mx=>simp [lh] at h
  | mp n' f' =>
   simp only [lh,Option.some.injEq] at h
   subst h
   obtain ⟨rfl,rfl⟩:=cb
   exact hb
 | it mk n s =>
  cases b' with
  | box=>simp [lh] at h
  | row=>simp [lh] at h
  | mp=>simp [lh] at h
  | mx=>simp [lh] at h
  | it mk' n' s' =>
   simp only [lh] at h
   obtain ⟨h1,rfl⟩:=mR h
   obtain ⟨rfl,rfl⟩:=cb
   obtain ⟨mg,cc,q0,q1⟩:=hb
   exact ⟨mg,cc,by rw [xr h1 μ]; exact q0,q1⟩
 | mx =>
  cases b' with
  | mx q' =>
   simp only [lh,Option.some.injEq] at h
   subst h
   obtain rfl:=cb
   exact hb
  | _=>simp [lh] at h
theorem V8 {b b':bK} {ob:Prop} (h:lh ρ b b'=some ob) (cb:ob) {y:Option (Option (Nat × Nat))} (hb:gF w S μ b y):gF w S (ux ρ μ) b' y:=by
 cases y with
 | none=>cases b <;> exact hb.elim
 | some y =>
  cases y with
  | none =>
   cases b with
   | box=>exact hb.elim
   | mp=>exact hb.elim
   | it=>exact hb.elim
   | mx=>exact hb.elim
   | row e k n f =>
    cases b' with
    | box=>simp [lh] at h
    | mp=>simp [lh] at h
    | it=>simp [lh] at h
    | mx=>simp [lh] at h
    | row e' k' n' f' =>
     simp only [lh] at h
     obtain ⟨_,rfl⟩:=mR h
     have:n=0:=hb
     show n'=0
     rw [← cb.1,this]
  | some gc=>obtain ⟨g,c⟩:=gc; exact (V7 h cb hb.at).ok
theorem yz {lb:List (Nat × bK)}:∀ {lb':List (Nat × bK)} {ob:Prop},Eo ρ lb lb'=some ob→ob→∀ κ b,look lb' κ=some b →
  (∃ o c q,look ρ κ=some (some o)∧look lb o=some c∧lh ρ c b=some q∧q)∨(look ρ κ=some none∧∃ e k f,b=.row e k 0 f)
 | [],_,_,_,κ,b,hl=>by simp [look] at hl
 | (κ0,b0) :: r,ob,h,cb,κ,b,hl=>by
  simp only [Eo] at h
  split at h
  ·rename_i o p hρ hr
   split at h
   ·rename_i c hc
    split at h
    ·rename_i q hq
     simp only [Option.some.injEq] at h
     subst h
     rw [cg] at hl
     split at hl
     ·rename_i e
      subst e
      simp only [Option.some.injEq] at hl
      subst hl
      exact .inl ⟨o,c,q,hρ,hc,hq,cb.1⟩
     ·exact yz hr cb.2 κ b hl
    ·cases h
   ·cases h
  ·rename_i p hρ hr
   split at h
   ·rename_i e k n f
    simp only [Option.some.injEq] at h
    subst h
    rw [cg] at hl
    split at hl
    ·rename_i e'
     subst e'
     simp only [Option.some.injEq] at hl
     subst hl
     rw [cb.1]
     exact .inr ⟨hρ,e,k,f,rfl⟩
    ·exact yz hr cb.2 κ b hl
   ·cases h
  ·cases h
theorem CJ:∀ {ρ:Ren},Bh ρ=true→∀ κ κ' o,look ρ κ=some (some o)→look ρ κ'=some (some o)→κ=κ'
 | [],_,κ,κ',o,h,_=>by simp [look] at h
 | (k0,some o0) :: r,hi,κ,κ',o,h,h'=>by
  simp only [Bh,Bool.and_eq_true,List.all_eq_true] at hi
  rw [cg] at h h'
  have no:∀ κ1,look r κ1=some (some o0)→False:=fun κ1 hk=>by
   have:=hi.1 (κ1,some o0) (hZ hk)
   simp [Nat.beq_refl] at this
  split at h
  ·rename_i e1
   simp only [Option.some.injEq] at h
   split at h'
   ·rename_i e2; rw [← e1,← e2]
   ·rw [← h] at h'; exact (no κ' h').elim
  ·split at h'
   ·rename_i e2
    simp only [Option.some.injEq] at h'
    rw [← h'] at h
    exact (no κ h).elim
   ·exact CJ hi.2 κ κ' o h h'
 | (k0,none) :: r,hi,κ,κ',o,h,h'=>by
  simp only [Bh] at hi
  rw [cg] at h h'
  split at h
  ·cases h
  ·split at h'
   ·cases h'
   ·exact CJ hi κ κ' o h h'
theorem J0 {sl:List (Nat × AV)}:∀ {sl':List (Nat × AV)} {ob:Prop},Gf ρ sl sl'=some ob→ob→∀ t x,look sl' t=some x→∃ q,pI ρ (St.get sl t) x=some q∧q
 | [],_,_,_,t,x,hl=>by simp [look] at hl
 | (t0,x0) :: r,ob,h,cb,t,x,hl=>by
  simp only [Gf] at h
  split at h
  ·rename_i a b h1 h2
   simp only [Option.some.injEq] at h
   subst h
   rw [cg] at hl
   split at hl
   ·rename_i e
    subst e
    simp only [Option.some.injEq] at hl
    subst hl
    exact ⟨a,h1,cb.1⟩
   ·exact J0 h2 cb.2 t x hl
  ·cases h
end
theorem Sj {ρ:Ren} {μ:Mu} {κ g c:Nat} (h:ux ρ μ κ=some (some (g,c))):∃ o,look ρ κ=some (some o)∧μ o=some (some (g,c)):=by
 unfold ux at h
 split at h
 ·rename_i o hl; exact ⟨o,hl,h⟩
 ·cases h
 ·cases h
theorem df.le {C:Cx} {st st':St} {a:Act} {w:World} {S:Nat→Prop} {μ:Mu} {ν:Nat→Bool} (hs:df C st.fZ a w S μ ν) {ρ:Ren} {yX Ej:Prop} (hi:Bh ρ=true) (h1:Gf ρ st.sl st'.sl=some yX) (xp:yX) (h2:Eo ρ st.lb st'.lb=some Ej) (yY:Ej):df C st'.fZ a w S (ux ρ μ) ν:=by
 have old:∀ κ b,look st'.lb κ=some b→∀ g c,ux ρ μ κ=some (some (g,c))→∃ o d,look ρ κ=some (some o)∧look st.lb o=some d∧μ o=some (some (g,c)):=by
  intro κ b hb g c hm
  obtain ⟨o,ho,hμ⟩:=Sj hm
  rcases yz h2 yY κ b hb with ⟨o',d,q,q1,q2,_⟩ | ⟨q1,_⟩
  ·rw [ho] at q1
   simp only [Option.some.injEq] at q1
   subst q1
   exact ⟨o,d,ho,q2,hμ⟩
  ·rw [ho] at q1; cases q1
 refine ⟨hs.tmps,hs.defers,fun t=>?_,fun κ b hb=>?_,fun κ κ' b b' g c c' hb mQ hm Iy=>?_,fun κ b g c hb hm=>?_,hs.eJ,hs.fresh,hs.bound,hs.kept⟩
 ·simp only [St.fZ,St.get]
  cases hl:look st'.sl t with
  | none=>exact .any _
  | some x =>
   obtain ⟨q,q1,q2⟩:=J0 h1 xp t x hl
   exact uz _ x q q1 q2 _ (hs.eF t)
 ·rcases yz h2 yY κ b hb with ⟨o,d,q,q1,q2,q3,q4⟩ | ⟨q1,e,k,f,rfl⟩
  ·have hm:ux ρ μ κ=μ o:=by simp [ux,q1]
   rw [hm]
   exact V8 q3 q4 (hs.mem o d q2)
  ·have hm:ux ρ μ κ=some none:=by simp [ux,q1]
   rw [hm]
   rfl
 ·obtain ⟨o,d,x1,x2,x3⟩:=old κ b hb g c hm
  obtain ⟨o',d',y1,y2,y3⟩:=old κ' b' mQ g c' Iy
  have:=hs.inj o o' d d' g c c' x2 y2 x3 y3
  subst this
  exact CJ hi κ κ' o x1 y1
 ·obtain ⟨o,d,x1,x2,x3⟩:=old κ b hb g c hm
  exact hs.own o d g c x2 x3
theorem M3.of {st st':St} (ρ:Ren) {yX Ej:Prop} (hi:Bh ρ=true) (h1:Gf ρ st.sl st'.sl=some yX) (xp:yX) (h2:Eo ρ st.lb st'.lb=some Ej) (yY:Ej):M3 st st':=by
 rintro C a w ⟨S,μ,eX⟩
 exact ⟨S,ux ρ μ,fun ν=>(eX ν).le hi h1 xp h2 yY⟩
theorem M5 {ρ:Ren} {sl:List (Nat × AV)}:∀ {sl':List (Nat × AV)} {ob:Prop},Gf ρ sl sl'=some ob→ob→∀ p,p∈sl'→∃ q,pI ρ (St.get sl p.1) p.2=some q∧q
 | [],_,_,_,p,hp=>by cases hp
 | (t0,x0) :: r,ob,h,cb,p,hp=>by
  simp only [Gf] at h
  split at h
  ·rename_i a b h1 h2
   simp only [Option.some.injEq] at h
   subst h
   rcases List.mem_cons.1 hp with rfl | hp
   ·exact ⟨a,h1,cb.1⟩
   ·exact M5 h2 cb.2 p hp
  ·cases h
section
variable {g : Goal} {k : List Item} {st : St}
theorem Ua {C:Cx} {a:Act} {w:World} (hs:nb C st a w) (hT:mP C.P g.T) (ρ:Ren) {l:List AV} {ro:List (Nat × bK)} {ob:Ob} {yX Ej:Prop} (h:sO g.T st g.fn.results.toList=some (l,ro,ob)) (cb:ob.den) (hi:Bh ρ=true) (h1:pI ρ (pF l) g.res=some yX) (xp:yX) (h2:Eo ρ st.lb g.cZ=some Ej) (yY:Ej) :
  ∃ v,(results g.fn a.tmps).run C.P w=.ok v w∧KX C g.res g.cZ (.returned v) w:=by
 obtain ⟨S,μ,eX⟩:=hs
 have h0:=eX fun _=>false
 obtain ⟨vs,q1,_⟩:=oh hT h0 h cb
 refine ⟨_,xq q1,_,S,ux ρ μ,rfl,?_⟩
 have hle:=h0.le (st':=⟨[],g.cZ⟩) hi (by rfl) trivial h2 yY
 refine ⟨fun ν=>?_,hle.mem,hle.inj,fun κ b g c h1 h2=>(hle.own κ b g c h1 h2).imp id .inl,h0.eJ,fun b hb=>(h0.fresh b hb).imp id (Or.imp id .inl),h0.bound,h0.kept.A0 fun _ h=>.inl h⟩
 obtain ⟨vs',p1,p2⟩:=oh hT (eX ν) h cb
 have:vs'=vs:=by rw [q1] at p1; cases p1; rfl
 subst this
 exact uz _ _ yX h1 xp _ (CI p2)
theorem G.ab3 (hg:g.VE) (hT:mP g.P g.T) (hf:g.P.funcs[g.f]? = some g.fn) (ρ:Ren) {l:List AV} {ro:List (Nat × bK)} {ob:Ob} {yX Ej:Prop} (h:sO g.T st g.fn.results.toList=some (l,ro,ob)) (cb:ob.den) (hi:Bh ρ=true) (h1:pI ρ (pF l) g.res=some yX) (xp:yX) (h2:Eo ρ st.lb g.cZ=some Ej) (yY:Ej):G g [] st∧∀ k,G g (.code .ret :: k) st :=
 G.out hg hf (fun C a w c1 hs=>Ua (g:=g) hs (by rw [c1]; exact hT) ρ h cb hi h1 xp h2 yY)
theorem Sl {lg:List (Nat × Nat)} (hn:g.Pv lg) {C:Cx} {a:Act} {w:World} (hk:g.kept a.tmps) (hs:nb C st a w) (hT:mP C.P g.T) (ρ:Ren) {l:List AV} {ro:List (Nat × bK)} {ob:Ob} {yX Ej ob3:Prop} (h:sO g.T st g.fn.results.toList=some (l,ro,ob)) (cb:ob.den) (hi:Bh ρ=true) (h1:pI ρ (pF l) g.res=some yX) (xp:yX) (h2:Eo ρ st.lb g.cZ=some Ej) (yY:Ej) (h3:Gf ρ st.sl (lg.map fun p=>(p.1,.ptr p.2 0))=some ob3) (Yf:ob3) :
  ∃ v,(results g.fn a.tmps).run C.P w=.ok v w∧QZ C g.res g.cZ lg g.tm (.returned v) w:=by
 obtain ⟨S,μ,eX⟩:=hs
 have h0:=eX fun _=>false
 obtain ⟨vs,q1,_⟩:=oh hT h0 h cb
 refine ⟨_,xq q1,_,S,ux ρ μ,rfl,?_,fun p hp ν=>?_⟩
 ·have hle:=h0.le (st':=⟨[],g.cZ⟩) hi (by rfl) trivial h2 yY
  refine ⟨fun ν=>?_,hle.mem,hle.inj,fun κ b g c h1 h2=>(hle.own κ b g c h1 h2).imp id .inl,h0.eJ,fun b hb=>(h0.fresh b hb).imp id (Or.imp id .inl),h0.bound,h0.kept.A0 fun _ h=>.inl h⟩
  obtain ⟨vs',p1,p2⟩:=oh hT (eX ν) h cb
  have:vs'=vs:=by rw [q1] at p1; cases p1; rfl
  subst this
  exact uz _ _ yX h1 xp _ (CI p2)
 ·obtain ⟨q,e1,e2⟩:=M5 h3 Yf (p.1,.ptr p.2 0) (List.mem_map.2 ⟨p,hp,rfl⟩)
  rw [← hk p.1 (hn.pr p hp)]
  exact uz _ _ q e1 e2 _ ((eX ν).eF p.1)
theorem G.V9 {lg:List (Nat × Nat)} (hg:g.Pv lg) (hT:mP g.P g.T) (hf:g.P.funcs[g.f]? = some g.fn) (ρ:Ren) {l:List AV} {ro:List (Nat × bK)} {ob:Ob} {yX Ej ob3:Prop} (h:sO g.T st g.fn.results.toList=some (l,ro,ob)) (cb:ob.den) (hi:Bh ρ=true) (h1:pI ρ (pF l) g.res=some yX) (xp:yX) (h2:Eo ρ st.lb g.cZ=some Ej) (yY:Ej) (h3:Gf ρ st.sl (lg.map fun p=>(p.1,.ptr p.2 0))=some ob3) (Yf:ob3):G g [] st∧∀ k,G g (.code .ret :: k) st :=
 G.ab2 hg hf (fun C a w c1 hk hs=>Sl (g:=g) hg hk hs (by rw [c1]; exact hT) ρ h cb hi h1 xp h2 yY h3 Yf)
end
def Yg (P:Program) (gf:FuncId) (cR:List AV) (ys:List (List AV)):Prop :=
 ib P gf=true∧∀ (w0:World) (S:Nat→Prop) (μ:Mu) (AX:Array Value) (l:Nat) (J:Nat→(Nat→Prop)→World→Prop) (Jx:(Nat→Prop)→World→Prop) (F0:Nat→Prop),
  (∀ b,S b→b < w0.heap.size)→iZ w0 S→(∀ ν,dG w0 S μ ν cR AX.toList)→(∀ b,S b→¬ F0 b)→(∀ b,F0 b→b < w0.heap.size) →
  (∀ i F W W',J i F W→Kept W W' (fun b=>w0.heap.size≤b∧¬ F b∧¬ S b)→J i F W')→(∀ F W W',Jx F W→Kept W W' (fun b=>w0.heap.size≤b∧¬ F b∧¬ S b)→Jx F W') →
  (∀ i F W (vs:Array Value),i < ys.length→J i F W→(∀ ν,dG W (fun _=>False) (fun _=>none) ν (ys.getD i []) vs.toList)→YieldAt Fence.wide 0 P l vs W fun e W'=>∃ F',(∀ b,F' b→F b∨W.heap.size≤b)∧(∀ b,F' b→b < W'.heap.size)∧Kept W W' F∧((e=.returned (.bool true)∧J (i+1) F' W')∨(e=.returned (.bool false)∧Jx F' W'))) →
  J 0 F0 w0→Calls P gf (#[.func (.yield l) #[] #[]]++AX) w0 fun e w'=>(∃ v,e=.returned v)∧((∃ F,J ys.length F w')∨∃ F,Jx F w')
structure Core (A:M) (tm:Array Value) (w:World) (S:Nat→Prop) (μ:Mu) (ν:Nat→Bool):Prop where
 eF:∀ t,Rel w S μ ν (A.sl t) (tm.getD t undef)
 mem:∀ κ b,A.lb κ=some b→gF w S μ b (μ κ)
 inj:∀ κ κ' b b' g c c',A.lb κ=some b→A.lb κ'=some b'→μ κ=some (some (g,c))→μ κ'=some (some (g,c'))→κ=κ'
 bound:∀ b,S b→b < w.heap.size
def qI (A:M) (μ:Mu) (q:Nat):Prop:=∃ κ b c,A.lb κ=some b∧μ κ=some (some (q,c))
theorem df.core {C:Cx} {A:M} {a:Act} {w:World} {S:Nat→Prop} {μ:Mu} {ν:Nat→Bool} (h:df C A a w S μ ν):Core A a.tmps w S μ ν:=⟨h.eF,h.mem,h.inj,h.bound⟩
theorem df.Yh {C:Cx} {A:M} {a:Act} {w:World} {S:Nat→Prop} {μ:Mu} {ν:Nat→Bool} (h:df C A a w S μ ν) {q:Nat} (hq:qI A μ q):C.w0.heap.size≤q∨C.T0 q:=by
 obtain ⟨κ,b,c,h1,h2⟩:=hq
 exact h.own κ b q c h1 h2
theorem Core.rJ {A:M} {tm:Array Value} {w:World} {S:Nat→Prop} {μ:Mu} {ν:Nat→Bool} (h:Core A tm w S μ ν) {q:Nat} (hq:qI A μ q):∃ b c,eI w S μ b q c:=by
 obtain ⟨κ,b,c,h1,h2⟩:=hq
 have:=h.mem κ b h1
 rw [h2] at this
 exact ⟨b,c,this.at⟩
theorem eI.Fo {w:World} {S:Nat→Prop} {μ:Mu} {b:bK} {g cap:Nat} {o:Loop} (h:eI w S μ b g cap):w.heap[g]?≠some (.loop o):=by
 cases b with
 | box cs=>obtain ⟨cur,e,hg,_⟩:=h; rw [hg]; simp
 | row e k n f=>obtain ⟨cur,hg,_⟩:=h; rw [hg]; simp
 | mp n f=>obtain ⟨cur,hg,_⟩:=h; rw [hg]; simp
 | it mk n seen=>obtain ⟨mg,c,_,hg,_⟩:=h; rw [hg]; simp
 | mx=>obtain ⟨m,_,cur,hg,_⟩:=h; rw [hg]; simp
theorem Core.jf {A:M} {tm tm':Array Value} {w w':World} {S:Nat→Prop} {μ:Mu} {ν:Nat→Bool} (h:Core A tm w S μ ν) (ht:∀ t,A.sl t=.any∨tm'.getD t undef=tm.getD t undef) (hS:∀ b,S b→w'.heap[b]? = w.heap[b]?) (hO:∀ q,qI A μ q→w'.heap[q]? = w.heap[q]?) (kI:w.heap.size≤w'.heap.size):Core A tm' w' S μ ν:=by
 refine ⟨fun t=>?_,fun κ b hb=>?_,h.inj,fun b hb=>Nat.lt_of_lt_of_le (h.bound b hb) kI⟩
 ·rcases ht t with e | e
  ·rw [e]; exact .any _
  ·rw [e]; exact (h.eF t).mono (fun _ x=>x) hS (fun _ _ e=>e)
 ·have hm:=h.mem κ b hb
  refine hm.mono (fun _ x=>x) hS (fun _ _ e=>e) (fun g c e=>?_)
  rw [e] at hm
  exact ⟨hO g ⟨κ,b,c,hb,e⟩,hm.at.not⟩
def Cx.at (P:Program) (nt:Nat) (w:World) (S:Nat→Prop) (A:M) (μ:Mu) (hg:iZ w S) (hm:∀ κ b,A.lb κ=some b→gF w S μ b (μ κ)) (hb:∀ b,S b→b < w.heap.size) (dl:List Deferred) (XK:∀ d,d∈dl→∃ q,d = { target:=.collected q,args:=#[] }∧w.heap[q]? = some (.deferred (some []))∧¬ S q) (WX:dl.Nodup):Cx :=
 ⟨P,w,S,qI A μ,nt,hg,fun b hs ⟨κ,bk,c,h1,h2⟩=>by
  have:=hm κ bk h1
  rw [h2] at this
  exact this.at.not hs,hb,dl,fun d hd=>by
  obtain ⟨q,e,h1,h2⟩:=XK d hd
  refine ⟨q,e,h1,fun ⟨κ,bk,c,q1,q2⟩=>?_,h2⟩
  have:=hm κ bk q1
  rw [q2] at this
  exact this.at.pG h1,WX⟩
theorem Core.sim {P:Program} {nt:Nat} {A:M} {a:Act} {w:World} {S:Nat→Prop} {μ:Mu} {ν:Nat→Bool} (h:Core A a.tmps w S μ ν) (hn:a.tmps.size=nt) (hg:iZ w S) (hm hb dl XK WX) (hd:a.defers=dl):df (Cx.at P nt w S A μ hg hm hb dl XK WX) A a w S μ ν :=
 ⟨hn,hd,h.eF,h.mem,h.inj,fun κ b g c h1 h2=>.inr ⟨κ,b,c,h1,h2⟩,fun _ x=>x,fun _ x=>.inl x,h.bound,Kept.refl _ _⟩
def sD {σ β Y:Type} (f:σ→Y→β ⊕ σ):List Y→σ→β ⊕ σ
 | [],s=>.inr s
 | y :: r,s=>match f s y with
  | .inl b=>.inl b
  | .inr s'=>sD f r s'
theorem J1 {σ β Y:Type} {f:σ→Y→β ⊕ σ}:∀ {l:List Y} {i:Nat} {s s1:σ} (h:i < l.length),sD f (l.take i) s=.inr s1→sD f (l.take (i+1)) s=f s1 l[i]∧(∀ b,f s1 l[i]=.inl b→sD f l s=.inl b)
 | [],i,s,s1,h,_=>absurd h (by simp)
 | y :: r,0,s,s1,_,e=>by
  simp only [List.take_zero,sD,Sum.inr.injEq] at e
  subst e
  refine ⟨?_,fun b hb=>?_⟩
  ·simp only [List.take_succ_cons,List.take_zero,sD,List.getElem_cons_zero]
   cases f s y <;> rfl
  ·simp only [List.getElem_cons_zero] at hb
   simp only [sD,hb]
 | y :: r,i+1,s,s1,h,e=>by
  simp only [List.take_succ_cons,sD] at e ⊢
  cases hf:f s y with
  | inl b=>rw [hf] at e; cases e
  | inr s' =>
   rw [hf] at e
   simp only at e ⊢
   have:=J1 (l:=r) (by simpa using h) e
   simpa using this
theorem Gg {σ β Y:Type} {f:σ→Y→β ⊕ σ} {I:Nat→σ→Prop} {B:β→Prop}:∀ (l:List Y) (k:Nat),(∀ i s y,I (k+i) s→l[i]? = some y→match f s y with | .inl b=>B b | .inr s'=>I (k+i+1) s')→∀ s,I k s→match sD f l s with | .inl b=>B b | .inr s'=>I (k+l.length) s'
 | [],k,_,s,h=>h
 | y :: r,k,hf,s,h=>by
  have h1:=hf 0 s y h (by simp)
  simp only [sD]
  cases e:f s y with
  | inl b=>rw [e] at h1; exact h1
  | inr s' =>
   rw [e] at h1
   have:=Gg (I:=I) (B:=B) r (k+1) (fun i s y hs hy=>by
    have:=hf (i+1) s y (by rw [show k+(i+1)=k+1+i by omega]; exact hs) (by simpa using hy)
    rw [show k+(i+1)+1=k+1+i+1 by omega] at this
    exact this) s' h1
   rw [show k+(y :: r).length=k+1+r.length by simp; omega]
   exact this
structure Reb (C C':Cx):Prop where
 sub:∀ b,C.S0 b→C'.S0 b
 new:∀ b,C'.S0 b→C.S0 b∨C.w0.heap.size≤b∨C.T0 b
 kept:Kept C.w0 C'.w0 C.T0
 tk:∀ q,C'.TD q→C.TD q∨C.w0.heap.size≤q
theorem KX.reb {C C':Cx} (h:Reb C C') {res:AV} {cZ:List (Nat × bK)} {e:Ending} {w:World} (hp:KX C' res cZ e w):KX C res cZ e w:=by
 obtain ⟨v,S',μ',rfl,B⟩:=hp
 refine ⟨v,S',μ',rfl,B.res,B.mem,B.inj,fun κ b g c h1 h2=>?_,fun b hb=>B.sub b (h.sub b hb),fun b hb=>?_,B.bound,(h.kept.A0 fun _ x=>.inl x).trans B.kept fun b hb ht=>?_⟩
 ·rcases B.own κ b g c h1 h2 with q | q
  ·exact .inl (Nat.le_trans h.kept.size q)
  ·exact (h.tk g q).symm
 ·rcases B.new b hb with q | q | q
  ·exact (h.new b q).imp id (Or.imp id .inl)
  ·exact .inr (.inl (Nat.le_trans h.kept.size q))
  ·exact .inr ((h.tk b q).symm)
 ·exact (h.tk b ht).resolve_right (by omega)
theorem ZN.reb {P:Program} {f:FuncId} {res:AV} {cZ:List (Nat × bK)} {C C':Cx} {b:Frame} {cs:List Frame} {m:Machine} (h:Reb C C') (hz:ZN P f res cZ C' b cs m):ZN P f res cZ C b cs m :=
 let ⟨e,w',fr,q1,q2⟩:=hz
 ⟨e,w',fr,q1.reb h,q2⟩
def wy:List Nat→List AV→List (Nat × AV)
 | p :: ps,x :: xs=>(p,x) :: wy ps xs
 | _,_=>[]
def Pw (nt:Nat) (ZH:List Nat):List Nat→Bool
 | []=>true
 | p :: ps=>Nat.ble (p+1) nt&&!ZH.any (fun q=>Nat.beq q p)&&!ps.any (fun q=>Nat.beq q p)&&Pw nt ZH ps
theorem any_beq {l:List Nat} {p:Nat} (h:(!l.any fun q=>Nat.beq q p)=true):p ∉ l:=fun hp=>by
 have:(l.any fun q=>Nat.beq q p)=true:=List.any_eq_true.2 ⟨p,hp,Nat.beq_refl p⟩
 rw [this] at h
 cases h
theorem J2 {w:World} {S:Nat→Prop} {μ:Mu} {ν:Nat→Bool} {nt:Nat} {ZH:List Nat}:∀ (ps:List Nat) (xs:List AV) (vs:List Value) (t:Array Value),Pw nt ZH ps=true→ps.length=xs.length→t.size=nt→dG w S μ ν xs vs →
  ((ps.zip vs).foldl (fun t (p:Nat × Value)=>t.setIfInBounds p.1 p.2) t).size=nt∧(∀ u,u ∉ ps→((ps.zip vs).foldl (fun t (p:Nat × Value)=>t.setIfInBounds p.1 p.2) t).getD u undef=t.getD u undef) ∧
   ∀ u x,look (wy ps xs) u=some x→Rel w S μ ν x (((ps.zip vs).foldl (fun t (p:Nat × Value)=>t.setIfInBounds p.1 p.2) t).getD u undef)
 | [],xs,vs,t,_,_,ht,_=>⟨by simpa using ht,fun u _=>by simp,fun u x h=>by simp [wy,look] at h⟩
 | p :: ps,[],vs,t,_,h,_,_=>absurd h (by simp)
 | p :: ps,x :: xs,[],t,_,_,_,hr=>absurd hr.1 (by simp)
 | p :: ps,x :: xs,v :: vs,t,hp,hl,ht,hr=>by
  simp only [Pw,Bool.and_eq_true] at hp
  obtain ⟨⟨⟨h1,h2⟩,h3⟩,h4⟩:=hp
  have h1:=Nat.le_of_ble_eq_true h1
  have h3:=any_beq h3
  have hr':dG w S μ ν xs vs:=⟨by simpa using hr.1,fun i hi=>by simpa using hr.2 (i+1) (by simpa using hi)⟩
  obtain ⟨q1,q2,q3⟩:=J2 ps xs vs (t.setIfInBounds p v) h4 (by simpa using hl) (by simpa using ht) hr'
  simp only [List.zip_cons_cons,List.foldl_cons]
  refine ⟨q1,fun u hu=>?_,fun u y hy=>?_⟩
  ·rw [q2 u (fun h=>hu (by simp [h]))]
   exact dg _ _ _ _ (fun e=>hu (by simp [e]))
  ·simp only [wy,cg] at hy
   split at hy
   ·rename_i e
    subst e
    simp only [Option.some.injEq] at hy
    subst hy
    rw [q2 p h3,iH _ _ _ (by omega)]
    simpa using hr.2 0 (by simp)
   ·exact q3 u y hy
structure DW (w:World) (S zU S1:Nat→Prop) (A:M) (μ1:Mu) (r:Loop) (F:Nat→Prop) (W:World):Prop where
 yU:iZ W S1
 sub:∀ b,S b→S1 b
 new:∀ b,S1 b→S b∨w.heap.size≤b∨zU b
 own:∀ q,qI A μ1 q→zU q∨w.heap.size≤q
 kept:Kept w W zU
 dD:W.heap[w.heap.size]? = some (.deferred (some []))
 dl:W.heap[w.heap.size+1]? = some (.loop r)
 nD:¬ S1 w.heap.size
 nl:¬ S1 (w.heap.size+1)
 F:∀ q,F q↔(qI A μ1 q∨(S1 q∧¬ S q)∨q=w.heap.size+1∨q=w.heap.size)
theorem DW.jf {w:World} {S zU S1:Nat→Prop} {A:M} {μ1:Mu} {r:Loop} {F:Nat→Prop} {W W':World} {n:Nat} {tm:Array Value} (h:DW w S zU S1 A μ1 r F W) (hc:∀ ν,Core A tm W S1 μ1 ν) (hn:w.heap.size+2≤n) (hk:Kept W W' (fun b=>n≤b∧¬ F b∧¬ S b)) :
  DW w S zU S1 A μ1 r F W'∧∀ ν,Core A tm W' S1 μ1 ν:=by
 have S6:=hc fun _=>false
 have hS:∀ b,S1 b→W'.heap[b]? = W.heap[b]?:=fun b hb=>hk.block b (S6.bound b hb) (fun ⟨_,h2,h3⟩=>h2 ((h.F b).2 (.inr (.inl ⟨hb,h3⟩))))
 have hO:∀ q,qI A μ1 q→W'.heap[q]? = W.heap[q]?:=fun q hq=>hk.block q (by obtain ⟨_,_,hb⟩:=S6.rJ hq; exact hb.lt) (fun ⟨_,h2,_⟩=>h2 ((h.F q).2 (.inl hq)))
 have lt:∀ {q o},W.heap[q]? = some o→q < W.heap.size:=fun e=>(Array.getElem?_eq_some_iff.1 e).1
 exact ⟨⟨h.yU.mono (fun _ x=>x) hS,h.sub,h.new,h.own,h.kept.trans hk (fun b hb ⟨h1,_⟩=>by omega),(hk.block _ (lt h.dD) (fun ⟨h1,_⟩=>by omega)).trans h.dD,(hk.block _ (lt h.dl) (fun ⟨h1,_⟩=>by omega)).trans h.dl,h.nD,h.nl,h.F⟩,
  fun ν=>(hc ν).jf (fun t=>.inr rfl) hS hO hk.size⟩
def Goal.round (g:Goal) (ZH:List Nat) (tm:Array Value) (Z:Cx→Frame→List Frame→Machine→Prop) (zs:∀ C b cs m m',Steps g.P m m'→Z C b cs m'→Z C b cs m):Goal:={ g with md:=1,pr:=ZH,tm:=tm,Z:=Z,zs:=zs }
theorem Gh {w:World} {q:Nat} {o:Obj}:Kept w (w.putObj q o) (fun b=>b=q):=⟨rfl,rfl,rfl,by simp [World.putObj],fun b _ hb=>World.putObj_heap_other hb⟩
section
open Go Go.RowKit
theorem G.rf {g:Goal} {k:List Item} {st:St} (hn:g.VE) (hz:∀ {C C' b cs m},Reb C C'→g.Z C' b cs m→g.Z C b cs m) {t:Nat} {ps:Array Tmp} {OZ body:Code} {gf:FuncId} {cR:List AV}
    {Y σ β:Type} (ys:List Y) (enc:Y→List AV) (step:σ→Y→β ⊕ σ) (s0:σ) (I:Nat→σ→Prop) (J3:List (Nat × AV)) (Js:σ→St) (Jb:β→St) (id:Nat) (Wa:σ→Y→St)
    (Pb:∀ s,(Js s).sl=J3) (hbl:∀ b,(Jb b).sl=J3) (h0:M3 st (Js s0)) (hf:St.get J3 t=.fn gf cR) (aaq:sC.lN cR=true) (VC:Yg g.P gf cR (ys.map enc))
    (W8:Pw g.nt (J3.map (·.1)) ps.toList=true) (RU:∀ y,y∈ys→ps.toList.length=(enc y).length) (hI0:I 0 s0) (hI:∀ i s y,I i s→ys[i]? = some y→match step s y with | .inl _=>True | .inr s'=>I (i+1) s')
    (ab4:∀ s y tm Z zs,y∈ys→G (g.round (J3.map (·.1)) tm Z zs) [.beginRound,.code body] (Wa s y)→G (g.round (J3.map (·.1)) tm Z zs) [.code OZ,.beginRound,.code body] ⟨wy ps.toList (enc y)++J3,(Js s).lb⟩)
    (aar:∀ i s y tm Z zs,I i s→ys[i]? = some y→(match step s y with | .inr s'=>G (g.round (J3.map (·.1)) tm Z zs) [] (Js s') | .inl b=>∀ k',exitTo id k'=none→G (g.round (J3.map (·.1)) tm Z zs) (.code (.exit id) :: k') (Jb b))→G (g.round (J3.map (·.1)) tm Z zs) [.code body] (Wa s y))
    (hk:match sD step ys s0 with | .inr s=>G g k (Js s) | .inl b=>G g (.code (.exit id) :: k) (Jb b)):G g (.code (.rangeFunc (.tmp t) ps OZ body) :: k) st:=by
  intro C c1 c2 a w O0 hs b cs KY Ik Sh
  have TL:b.roundOf=none:=Sh.2 (by rw [hn.md]; decide)
  obtain ⟨S,μ,eX⟩:=h0 C a w hs
  have CK:=eX fun _=>false
  have ZG:a.tmps.size=g.nt:=CK.tmps.trans c2
  have hv:=CK.eF t
  simp only [St.fZ,Pb s0,hf] at hv
  obtain ⟨AX,hfv,hrc⟩:∃ AX:Array Value,a.tmps.getD t undef=.func (.func gf) #[] AX∧∀ ν,dG w S μ ν cR AX.toList:=by
    generalize a.tmps.getD t undef=fv at hv
    cases hv with
    | @fn _ _ AX hl hh=>exact ⟨AX,rfl,fun ν=>dG.nu ⟨by simpa using hl,fun i hi=>by rw [← cY]; exact hh i hi⟩ aaq⟩
  obtain ⟨yZ,KZ⟩:∃ yZ:LoopState→Option Code→Loop,yZ=fun s pe=>{ state:=s,pending:=pe,fn:=b.fn,tmps:=a.tmps,params:=ps,assign:=OZ,body:=body,defers:=w.heap.size }:=⟨_,rfl⟩
  obtain ⟨W1,hW1⟩:∃ W1,(w.alloc (.deferred (some []))).alloc (.loop (yZ .ready none))=W1:=⟨_,rfl⟩
  have ads:W1.heap.size=w.heap.size+2:=by rw [← hW1]; simp
  have Ub:Kept w W1 (fun _=>False):=by
    rw [← hW1]
    exact (mI w _ _).trans (mI _ _ _) (fun _ _ x=>x)
  have hD1:W1.heap[w.heap.size]? = some (.deferred (some [])):=by
    rw [← hW1]; exact (Below.heap_alloc _ _ _ (by simp)).trans (World.alloc_heap_new w _)
  have hL1:W1.heap[w.heap.size+1]? = some (.loop (yZ .ready none)):=by
    rw [← hW1]; have:=World.alloc_heap_new (w.alloc (.deferred (some []))) (.loop (yZ .ready none)); rwa [World.size_alloc] at this
  let zU:Nat→Prop:=qI (Js s0).fZ μ
  let J:Nat→(Nat→Prop)→World→Prop:=fun i F W=>∃ s S1 μ1,sD step (ys.take i) s0=.inr s∧I i s∧(∀ ν,Core (Js s).fZ a.tmps W S1 μ1 ν)∧DW w S zU S1 (Js s).fZ μ1 (yZ .ready none) F W
  let Jx:(Nat→Prop)→World→Prop:=fun F W=>∃ bb S1 μ1,sD step ys s0=.inl bb∧(∀ ν,Core (Jb bb).fZ a.tmps W S1 μ1 ν)∧DW w S zU S1 (Jb bb).fZ μ1 (yZ .done (some (.exit id))) F W
  have hS1:∀ b,S b→W1.heap[b]? = w.heap[b]?:=fun b hb=>Ub.block b (CK.bound b hb) (fun x=>x)
  let F0:Nat→Prop:=fun q=>qI (Js s0).fZ μ q∨(S q∧¬ S q)∨q=w.heap.size+1∨q=w.heap.size
  have Yi:∀ ν,Core (Js s0).fZ a.tmps W1 S μ ν:=fun ν=>(eX ν).core.jf (fun _=>.inr rfl) hS1 (fun q hq=>Ub.block q (by obtain ⟨_,_,hb⟩:=(eX ν).core.rJ hq; exact hb.lt) (fun x=>x)) Ub.size
  have Xi:DW w S zU S (Js s0).fZ μ (yZ .ready none) F0 W1:=⟨CK.yU.mono (fun _ x=>x) hS1,fun _ x=>x,fun _ x=>.inl x,fun _ x=>.inl x,Ub.A0 (fun _ x=>x.elim),hD1,hL1,fun h=>by have:=CK.bound _ h; omega,fun h=>by have:=CK.bound _ h; omega,fun q=>Iff.rfl⟩
  -- ONE ade
  have Yj:∀ i F W (vs:Array Value),i < (ys.map enc).length→J i F W→(∀ ν,dG W (fun _=>False) (fun _=>none) ν ((ys.map enc).getD i []) vs.toList)→YieldAt Fence.wide 0 g.P (w.heap.size+1) vs W fun e W'=>∃ F',(∀ b,F' b→F b∨W.heap.size≤b)∧(∀ b,F' b→b < W'.heap.size)∧Kept W W' F∧((e=.returned (.bool true)∧J (i+1) F' W')∨(e=.returned (.bool false)∧Jx F' W')):=by
    rintro i F W vs hi ⟨s,S1,μ1,ga,hIs,Bi,hinv⟩ W9
    have fQ:i < ys.length:=by simpa using hi
    obtain ⟨y,hy⟩:∃ y,ys[i]=y:=⟨_,rfl⟩
    have hym:y∈ys:=hy ▸ List.getElem_mem fQ
    have hyi:ys[i]? = some y:=by rw [List.getElem?_eq_getElem fQ,hy]
    have hgy:(ys.map enc).getD i []=enc y:=by simp [List.getD,fQ,hy]
    rw [hgy] at W9
    obtain ⟨ZI,Xj⟩:=J1 fQ ga
    rw [hy] at ZI Xj
    have hlen:ps.toList.length=(enc y).length:=RU y hym
    have hvl:vs.size=ps.size:=by have:=(W9 fun _=>false).1; simp at this hlen; omega
    have S9:=run_yield (P:=g.P) (args:=vs) hinv.dl (by rw [KZ]; exact hvl)
    rw [KZ] at S9
    refine ⟨_,_,_,_,S9,trivial,fun c zT _=>?_⟩
    let br:Frame:={ (default:Frame) with fn:=b.fn,kind:=.normal,roundOf:=some (w.heap.size+1) }
    have ui:∀ tm,Frame.round (w.heap.size+1) b.fn tm OZ body .normal=br.atR { tmps:=tm,defers:=[] } [.code OZ,.beginRound,.code body]:=fun tm=>by simp [Frame.round,Frame.atR,br]
    -- it is ab5 to adt back with a bool
    suffices aas:∃ v w',(∃ F',(∀ b,F' b→F b∨W.heap.size≤b)∧(∀ b,F' b→b < w'.heap.size)∧Kept W w' F∧((v=.bool true∧J (i+1) F' w')∨(v=.bool false∧Jx F' w')))∧Steps g.P (lone (br.atR { tmps:=(ps.zip vs).foldl (fun t (p,v)=>t.setIfInBounds p v) a.tmps,defers:=[] } [.code OZ,.beginRound,.code body]) (c :: zT) W) (lone (c.finish v) zT w') by
      obtain ⟨v,w',⟨F',q1,q1b,q2,q3⟩,mG⟩:=aas
      refine ⟨.returned v,w',⟨F',q1,q1b,q2,?_⟩,?_⟩
      · rcases q3 with ⟨rfl,q⟩ | ⟨rfl,q⟩
        · exact .inl ⟨rfl,q⟩
        · exact .inr ⟨rfl,q⟩
      · rw [ui]
        exact stepsIn_wide.2 mG
    have JQ:=fun ν=>J2 (w:=W) (S:=fun _=>False) (μ:=fun _=>none) (ν:=ν) ps.toList (enc y) vs.toList a.tmps W8 hlen ZG (W9 ν)
    have htm:(ps.zip vs).foldl (fun t (p,v)=>t.setIfInBounds p v) a.tmps=(ps.toList.zip vs.toList).foldl (fun t (p:Nat × Value)=>t.setIfInBounds p.1 p.2) a.tmps:=by
      rw [← Array.foldl_toList,Array.toList_zip]
    rw [htm]
    generalize hTM:(ps.toList.zip vs.toList).foldl (fun t (p:Nat × Value)=>t.setIfInBounds p.1 p.2) a.tmps=tm at JQ ⊢
    have aat:∀ (L:List Nat) (u:Nat),Pw g.nt (J3.map (·.1)) L=true→u∈J3.map (·.1)→u ∉ L:=by
      intro L
      induction L with
      | nil=>intro u _ _ h; cases h
      | cons p L ih =>
        intro u h hu hm
        simp only [Pw,Bool.and_eq_true] at h
        rcases List.mem_cons.1 hm with rfl | hm
        · exact any_beq h.1.1.2 hu
        · exact ih u h.2 hu hm
    have hpr:∀ u,u∈J3.map (·.1)→tm.getD u undef=a.tmps.getD u undef:=fun u hu=>(JQ fun _=>false).2.1 u (aat _ u W8 hu)
    -- Vw state behind Vw parameters
    have Yk:∀ ν,Core (St.fZ ⟨wy ps.toList (enc y)++J3,(Js s).lb⟩) tm W S1 μ1 ν:=fun ν=>by
      refine ⟨fun u=>?_,(Bi ν).mem,(Bi ν).inj,(Bi ν).bound⟩
      simp only [St.fZ,St.get,sL]
      cases h1:look (wy ps.toList (enc y)) u with
      | some x=>exact ((JQ ν).2.2 u x h1).mono (fun _ x=>x.elim) (fun _ x=>x.elim) (fun _ _ e=>by cases e)
      | none =>
        simp only
        cases h2:look J3 u with
        | none=>exact .any _
        | some x =>
          have:=(Bi ν).eF u
          simp only [St.fZ,Pb,St.get,h2] at this
          rw [hpr u (n9 h2)]
          exact this
    have K0:=Bi fun _=>false
    have nlS:∀ {q:Nat} {r:Loop},W.heap[q]? = some (.loop r)→¬ qI (Js s).fZ μ1 q:=fun e h=>by obtain ⟨_,_,hb⟩:=K0.rJ h; exact hb.Fo e
    have ndS:∀ {q:Nat} {r:Option (List Deferred)},W.heap[q]? = some (.deferred r)→¬ qI (Js s).fZ μ1 q:=fun e h=>by obtain ⟨_,_,hb⟩:=K0.rJ h; exact hb.pG e
    have hlW:w.heap.size+1 < W.heap.size:=(Array.getElem?_eq_some_iff.1 hinv.dl).1
    let C1:Cx:=Cx.at g.P g.nt W S1 (St.fZ ⟨wy ps.toList (enc y)++J3,(Js s).lb⟩) μ1 hinv.yU K0.mem K0.bound [] (fun d h=>by cases h) List.nodup_nil
    have Uc:nb C1 ⟨wy ps.toList (enc y)++J3,(Js s).lb⟩ { tmps:=tm,defers:=[] } W:=⟨S1,μ1,fun ν=>(Yk ν).sim (JQ fun _=>false).1 _ _ _ _ _ _ rfl⟩
    let Rr:Value→World→Prop:=fun v w'=>∃ F',(∀ b,F' b→F b∨W.heap.size≤b)∧(∀ b,F' b→b < w'.heap.size)∧Kept W w' F∧((v=.bool true∧J (i+1) F' w')∨(v=.bool false∧Jx F' w'))
    let Z1:Cx→Frame→Cx→List Frame→Machine→Prop:=fun CC bb C' Iz m=>C'=CC→Iz=c :: zT→bb=br→∃ v w',Rr v w'∧Steps g.P m (lone (c.finish v) zT w')
    have zsc:∀ CC:Cx,∀ C' bb Iz m m',Steps g.P m m'→Z1 CC bb C' Iz m'→Z1 CC bb C' Iz m:=fun CC C' bb Iz m m' mG hz e1 e2 e3=>by
      obtain ⟨v,w',q1,q2⟩:=hz e1 e2 e3
      exact ⟨v,w',q1,mG.trans q2⟩
    have aau:∀ gg:Goal,gg.md=1→(br.roundOf=none↔gg.md≠1):=fun gg h=>⟨fun e=>by simp [br] at e,fun e=>absurd h e⟩
    refine ab4 s y a.tmps (fun C' bb Iz m=>Z1 C1 bb C' Iz m) (fun C' bb Iz m m'=>zsc C1 C' bb Iz m m') hym ?_ C1 rfl rfl _ W (fun u hu=>hpr u hu) Uc br (c :: zT) KY rfl (aau _ rfl) rfl rfl rfl
    intro C' e1 e2 a1 W' hk1 hs1 bb Iz _ _ _ hCC Ip VA
    subst hCC; subst Ip; subst VA
    obtain ⟨S2,μ2,M6⟩:=hs1
    have h2:=M6 fun _=>false
    have hkW:Kept W W' (qI (Js s).fZ μ1):=h2.kept
    have Mg:W'.heap[w.heap.size+1]? = some (.loop (yZ .ready none)):=(hkW.block _ hlW (nlS hinv.dl)).trans hinv.dl
    have hD':W'.heap[w.heap.size]? = some (.deferred (some [])):=(hkW.block _ (by omega) (ndS hinv.dD)).trans hinv.dD
    have ab6:=run_beginRound (P:=g.P) Mg (by rw [KZ])
    have Wb:Steps g.P (lone (br.atR a1 [.beginRound,.code body]) (c :: zT) W') (lone (br.atR a1 [.code body]) (c :: zT) (W'.putObj (w.heap.size+1) (.loop { yZ .ready none with state:=.busy }))):=.one (stepR_beginRound rfl ab6)
    obtain ⟨W2,Td⟩:∃ W2,W'.putObj (w.heap.size+1) (.loop { yZ .ready none with state:=.busy })=W2:=⟨_,rfl⟩
    rw [Td] at Wb
    have QW:Kept W' W2 (fun q=>q=w.heap.size+1):=Td ▸ Gh
    have hl2:W2.heap[w.heap.size+1]? = some (.loop { yZ .ready none with state:=.busy }):=by rw [← Td]; exact World.putObj_heap_same (Array.getElem?_eq_some_iff.1 Mg).1
    have Yl:∀ q,S2 q→S1 q∨W.heap.size≤q∨qI (Js s).fZ μ1 q:=h2.fresh
    have nl2:¬ S2 (w.heap.size+1):=fun h=>by
      rcases Yl _ h with q | q | q
      · exact hinv.nl q
      · omega
      · exact nlS hinv.dl q
    have nD2:¬ S2 w.heap.size:=fun h=>by
      rcases Yl _ h with q | q | q
      · exact hinv.nD q
      · omega
      · exact ndS hinv.dD q
    have Ym:∀ q,qI (Wa s y).fZ μ2 q→W.heap.size≤q∨qI (Js s).fZ μ1 q:=fun q hq=>h2.Yh hq
    have hS2:∀ q,S2 q→W2.heap[q]? = W'.heap[q]?:=fun q hq=>QW.block q (h2.bound q hq) (fun e=>nl2 (e ▸ hq))
    have nO2:¬ qI (Wa s y).fZ μ2 (w.heap.size+1):=fun h=>by obtain ⟨_,_,hb⟩:=h2.core.rJ h; exact hb.Fo Mg
    have ab7:¬ qI (Wa s y).fZ μ2 w.heap.size:=fun h=>by obtain ⟨_,_,hb⟩:=h2.core.rJ h; exact hb.pG hD'
    have Px:∀ ν,Core (Wa s y).fZ a1.tmps W2 S2 μ2 ν:=fun ν=>(M6 ν).core.jf (fun _=>.inr rfl) hS2 (fun q hq=>QW.block q (by obtain ⟨_,_,hb⟩:=(M6 ν).core.rJ hq; exact hb.lt) (fun e=>nO2 (e ▸ hq))) QW.size
    have Yn:iZ W2 S2:=h2.yU.mono (fun _ x=>x) hS2
    let C2:Cx:=Cx.at g.P g.nt W2 S2 (Wa s y).fZ μ2 Yn (Px fun _=>false).mem (Px fun _=>false).bound [] (fun d h=>by cases h) List.nodup_nil
    have M7:nb C2 (Wa s y) a1 W2:=⟨S2,μ2,fun ν=>(Px ν).sim h2.tmps _ _ _ _ _ _ h2.defers⟩
    suffices ab8:Z1 C2 br C2 (c :: zT) (lone (br.atR a1 [.code body]) (c :: zT) W2) by
      obtain ⟨v,w',q1,q2⟩:=ab8 rfl rfl rfl
      exact ⟨v,w',q1,Wb.trans q2⟩
    -- how a round ends
    have Wc:∀ (M8:St) (jump:Option Code) (a3:Act) (W3:World) (S3:Nat→Prop) (μ3:Mu),M8.sl=J3→(∀ u,u∈J3.map (·.1)→a3.tmps.getD u undef=a.tmps.getD u undef)→(∀ ν,df C2 M8.fZ a3 W3 S3 μ3 ν) →
        ∃ W4 F',(Instr.endRound (w.heap.size+1) jump).run g.P W3=.ok (.bool jump.isNone) W4∧(∀ b,F' b→F b∨W.heap.size≤b)∧(∀ b,F' b→b < W4.heap.size)∧Kept W W4 F∧(∀ ν,Core M8.fZ a.tmps W4 S3 μ3 ν)∧DW w S zU S3 M8.fZ μ3 (yZ (if jump.isNone then .ready else .done) jump) F' W4:=by
      intro M8 jump a3 W3 S3 μ3 hE ab9 M7
      have h3:=M7 fun _=>false
      have Yo:Kept W2 W3 (qI (Wa s y).fZ μ2):=h3.kept
      have hl3:W3.heap[w.heap.size+1]? = some (.loop { yZ .ready none with state:=.busy }):=(Yo.block _ (Array.getElem?_eq_some_iff.1 hl2).1 nO2).trans hl2
      have hD2:W2.heap[w.heap.size]? = some (.deferred (some [])):=(QW.block _ (by have:=hkW.size; omega) (by omega)).trans hD'
      have hD3:W3.heap[w.heap.size]? = some (.deferred (some [])):=(Yo.block _ (Array.getElem?_eq_some_iff.1 hD2).1 ab7).trans hD2
      have her:=run_endRound (P:=g.P) jump hl3
      obtain ⟨W4,hW4⟩:∃ W4,W3.putObj (w.heap.size+1) (.loop { ({ yZ .ready none with state:=.busy }:Loop) with state:=if jump.isNone then .ready else .done,pending:=jump })=W4:=⟨_,rfl⟩
      rw [hW4] at her
      have Sm:Kept W3 W4 (fun q=>q=w.heap.size+1):=hW4 ▸ Gh
      have aav:W.heap.size≤W2.heap.size:=Nat.le_trans hkW.size QW.size
      have Wd:∀ q,S3 q→S1 q∨W.heap.size≤q∨qI (Js s).fZ μ1 q:=fun q hq=>by
        rcases h3.fresh q hq with h | h | h
        · exact Yl q h
        · exact .inr (.inl (Nat.le_trans aav h))
        · exact .inr (Ym q h)
      have aaw:∀ q,qI M8.fZ μ3 q→W.heap.size≤q∨qI (Js s).fZ μ1 q:=fun q hq=>by
        rcases h3.Yh hq with h | h
        · exact .inl (Nat.le_trans aav h)
        · exact Ym q h
      have nl3:¬ S3 (w.heap.size+1):=fun h=>by
        rcases Wd _ h with q | q | q
        · exact hinv.nl q
        · omega
        · exact nlS hinv.dl q
      have nD3:¬ S3 w.heap.size:=fun h=>by
        rcases Wd _ h with q | q | q
        · exact hinv.nD q
        · omega
        · exact ndS hinv.dD q
      have nO3:¬ qI M8.fZ μ3 (w.heap.size+1):=fun h=>by obtain ⟨_,_,hb⟩:=h3.core.rJ h; exact hb.Fo hl3
      have hS4:∀ q,S3 q→W4.heap[q]? = W3.heap[q]?:=fun q hq=>Sm.block q (h3.bound q hq) (fun e=>nl3 (e ▸ hq))
      have hwW:w.heap.size≤W.heap.size:=hinv.kept.size
      have hKF:Kept W W4 F:=by
        refine ((((hkW.A0 (fun q hq=>(hinv.F q).2 (.inl hq))).trans QW (T':=fun q=>q=w.heap.size+1) (fun q _ e=>(hinv.F q).2 (.inr (.inr (.inl e))))).trans Yo (fun q hq h=>?_)).trans Sm (fun q _ e=>(hinv.F q).2 (.inr (.inr (.inl e)))))
        rcases Ym q h with h | h
        · omega
        · exact (hinv.F q).2 (.inl h)
      refine ⟨W4,fun q=>qI M8.fZ μ3 q∨(S3 q∧¬ S q)∨q=w.heap.size+1∨q=w.heap.size,her,fun q hq=>?_,fun q hq=>?_,hKF,fun ν=>?_,?_⟩
      · rcases hq with h | ⟨h,rE⟩ | h | h
        · exact (aaw q h).symm.imp (fun h=>(hinv.F q).2 (.inl h)) (fun x=>x)
        · rcases Wd q h with h | h | h
          · exact .inl ((hinv.F q).2 (.inr (.inl ⟨h,rE⟩)))
          · exact .inr h
          · exact .inl ((hinv.F q).2 (.inl h))
        · exact .inl ((hinv.F q).2 (.inr (.inr (.inl h))))
        · exact .inl ((hinv.F q).2 (.inr (.inr (.inr h))))
      · have adu:=Sm.size
        have h3l:=(Array.getElem?_eq_some_iff.1 hl3).1
        rcases hq with h | ⟨h,_⟩ | h | h
        · obtain ⟨_,_,hb⟩:=h3.core.rJ h
          have:=hb.lt
          omega
        · have:=h3.bound q h
          omega
        · omega
        · omega
      · refine (M7 ν).core.jf (fun u=>?_) hS4 (fun q hq=>Sm.block q (by obtain ⟨_,_,hb⟩:=(M7 ν).core.rJ hq; exact hb.lt) (fun e=>nO3 (e ▸ hq))) Sm.size
        simp only [St.fZ,hE,St.get]
        cases yt:look J3 u with
        | none=>exact .inl rfl
        | some x=>exact .inr (ab9 u (n9 yt)).symm
      · refine ⟨h3.yU.mono (fun _ x=>x) hS4,fun q hq=>h3.eJ q (h2.eJ q (hinv.sub q hq)),fun q hq=>?_,fun q hq=>?_,?_,(Sm.block _ (Array.getElem?_eq_some_iff.1 hD3).1 (by omega)).trans hD3,?_,nD3,nl3,fun q=>Iff.rfl⟩
        · rcases Wd q hq with h | h | h
          · exact hinv.new q h
          · exact .inr (.inl (Nat.le_trans hwW h))
          · exact .inr (hinv.own q h).symm
        · rcases aaw q hq with h | h
          · exact .inr (Nat.le_trans hwW h)
          · exact hinv.own q h
        · refine hinv.kept.trans hKF (fun q hq h=>?_)
          rcases (hinv.F q).1 h with h | ⟨h,rE⟩ | h | h
          · exact (hinv.own q h).resolve_right (by omega)
          · rcases hinv.new q h with h | h | h
            · exact absurd h rE
            · omega
            · exact h
          · omega
          · omega
        · rw [← hW4]
          have:=World.putObj_heap_same (o:=.loop { ({ yZ .ready none with state:=.busy }:Loop) with state:=if jump.isNone then .ready else .done,pending:=jump }) (Array.getElem?_eq_some_iff.1 hl3).1
          rw [this,KZ]
    refine aar i s y a.tmps (fun C' bb Iz m=>Z1 C2 bb C' Iz m) (fun C' bb Iz m m'=>zsc C2 C' bb Iz m m') hIs hyi ?_ C2 rfl rfl a1 W2 hk1 M7 br (c :: zT) KY rfl (aau _ rfl)
    cases mG:step s y with
    | inr s' =>
      simp only
      intro C' e1 e2 a3 W3 hk3 hs3 bb Iz _ _ _ hCC Ip VA
      subst hCC; subst Ip; subst VA
      obtain ⟨S3,μ3,Py⟩:=hs3
      obtain ⟨W4,F',q1,q2,q2b,q3,q4,q5⟩:=Wc (Js s') none a3 W3 S3 μ3 (Pb s') (fun u hu=>hk3 u hu) Py
      have aca:I (i+1) s':=by have:=hI i s y hIs hyi; rw [mG] at this; exact this
      exact ⟨.bool true,W4,⟨F',q2,q2b,q3,.inl ⟨rfl,s',S3,μ3,by rw [ZI,mG],aca,q4,q5⟩⟩,.one (stepR_round_end rfl rfl q1)⟩
    | inl bv =>
      simp only
      intro k' hx C' e1 e2 a3 W3 hk3 hs3 bb Iz _ _ _ hCC Ip VA
      subst hCC; subst Ip; subst VA
      obtain ⟨S3,μ3,Py⟩:=hs3
      obtain ⟨W4,F',q1,q2,q2b,q3,q4,q5⟩:=Wc (Jb bv) (some (.exit id)) a3 W3 S3 μ3 (hbl bv) (fun u hu=>hk3 u hu) Py
      exact ⟨.bool false,W4,⟨F',q2,q2b,q3,.inr ⟨rfl,bv,S3,μ3,Xj bv mG,q4,q5⟩⟩,.one (stepR_round_exit rfl rfl hx q1)⟩
  -- THE adv
  have aax:=VC.2 W1 S μ AX (w.heap.size+1) J Jx F0 (fun b hb=>Nat.lt_of_lt_of_le (CK.bound b hb) Ub.size) Xi.yU (fun ν=>⟨(hrc ν).1,fun i hi=>((hrc ν).2 i hi).mono (fun _ x=>x) hS1 (fun _ _ e=>e)⟩)
    (fun q hq h=>by
      rcases h with h | ⟨_,h⟩ | h | h
      · obtain ⟨_,_,hb⟩:=CK.core.rJ h
        exact hb.not hq
      · exact h hq
      · have:=CK.bound q hq; omega
      · have:=CK.bound q hq; omega)
    (fun q h=>by
      rcases h with h | ⟨h,h'⟩ | h | h
      · obtain ⟨_,_,hb⟩:=CK.core.rJ h
        have:=hb.lt
        omega
      · exact absurd h h'
      · omega
      · omega)
    (fun i F W W' hJ sB=>by
      obtain ⟨s,S1,μ1,q1,q2,q3,q4⟩:=hJ
      obtain ⟨r1,r2⟩:=q4.jf q3 (n:=W1.heap.size) (by omega) sB
      exact ⟨s,S1,μ1,q1,q2,r2,r1⟩)
    (fun F W W' hJ sB=>by
      obtain ⟨s,S1,μ1,q1,q3,q4⟩:=hJ
      obtain ⟨r1,r2⟩:=q4.jf q3 (n:=W1.heap.size) (by omega) sB
      exact ⟨s,S1,μ1,q1,r2,r1⟩)
    Yj ⟨s0,S,μ,by simp [sD],hI0,Yi,Xi⟩
  let fr1:Frame:=b.atR { a with defers:=[{ target:=.collected w.heap.size,args:=#[] }]++a.defers } (.inRangeFunc (w.heap.size+1) :: k)
  obtain ⟨e,w',fr,⟨⟨v,rfl⟩,hJJ⟩,Yp,adw,Yq⟩:=aax (fr1 :: cs)
  have Tk:(Instr.enterLoop b.fn a.tmps ps OZ body b.roundOf).run g.P w=.ok (w.heap.size+1,[{ target:=.collected w.heap.size,args:=#[] }]) W1:=by
    rw [TL,← hW1,KZ]; exact run_enterLoop_outer _ _ _ _ _
  have TB:(resolve a.eval (rangeCall (.tmp t) (w.heap.size+1)) 0).run g.P W1=.ok { target:=.fn (.func gf) AX,args:=#[.func (.yield (w.heap.size+1)) #[] #[]] } W1:=by
    have:a.eval (.tmp t)=.func (.func gf) #[] AX:=hfv
    simp only [resolve,this]
    simp [go_sem]
  have aay:(invoke (.fn (.func gf) AX) #[.func (.yield (w.heap.size+1)) #[] #[]]).run g.P W1=.ok (.enter gf (#[.func (.yield (w.heap.size+1)) #[] #[]]++AX)) W1:=by
    have eg:=fun args=>Ba (w:=W1) VC.1 args
    simp [invoke,go_sem,eg]
  have acb:Steps g.P (lone (b.atR a (.code (.rangeFunc (.tmp t) ps OZ body) :: k)) cs w) (lone (Frame.enter g.P gf (#[.func (.yield (w.heap.size+1)) #[] #[]]++AX) .normal) (fr1 :: cs) W1):=.one (stepR_rangeFunc Tk TB aay)
  have Wb:Steps g.P (lone (b.atR a (.code (.rangeFunc (.tmp t) ps OZ body) :: k)) cs w) (lone (b.atR { a with defers:=[{ target:=.collected w.heap.size,args:=#[] }]++a.defers } (.endRangeFunc (w.heap.size+1) :: k)) cs w'):=by
    refine acb.trans (Steps.trans Yp (.one ?_))
    rw [← finish_atR_inRangeFunc (w.heap.size+1) v]
    exact step_leave_returned Yq
  -- Z6 comes then
  have Ud:∀ (M8:St) (S1:Nat→Prop) (μ1:Mu) (r:Loop) (F:Nat→Prop) (k':List Item),(∀ ν,Core M8.fZ a.tmps w' S1 μ1 ν)→DW w S zU S1 M8.fZ μ1 r F w'→r.state≠.busy→(r.pending.map Item.code).toList++k=k'→G g k' M8→g.Z C b cs (lone (b.atR a (.code (.rangeFunc (.tmp t) ps OZ body) :: k)) cs w):=by
    intro M8 S1 μ1 r F k' Bi hinv aaz sB hG
    have hel:=run_endLoop (P:=g.P) hinv.dl aaz
    have Yr:=Steps.trans Wb (.one (stepR_endRangeFunc hel))
    rw [sB] at Yr
    obtain ⟨W5,hW5⟩:∃ W5,w'.putObj (w.heap.size+1) (.loop { r with state:=.exhausted })=W5:=⟨_,rfl⟩
    rw [hW5] at Yr
    have QW:Kept w' W5 (fun q=>q=w.heap.size+1):=hW5 ▸ Gh
    have S6:=Bi fun _=>false
    have nO:¬ qI M8.fZ μ1 (w.heap.size+1):=fun h=>by obtain ⟨_,_,hb⟩:=S6.rJ h; exact hb.Fo hinv.dl
    have hS5:∀ q,S1 q→W5.heap[q]? = w'.heap[q]?:=fun q hq=>QW.block q (S6.bound q hq) (fun e=>hinv.nl (e ▸ hq))
    have Pz:∀ ν,Core M8.fZ a.tmps W5 S1 μ1 ν:=fun ν=>(Bi ν).jf (fun _=>.inr rfl) hS5 (fun q hq=>QW.block q (by obtain ⟨_,_,hb⟩:=(Bi ν).rJ hq; exact hb.lt) (fun e=>nO (e ▸ hq))) QW.size
    have hk5:Kept w W5 zU:=hinv.kept.trans QW (fun q hq e=>by omega)
    have acd:w.heap.size < w'.heap.size:=(Array.getElem?_eq_some_iff.1 hinv.dD).1
    have ace:∀ d,d∈[({ target:=.collected w.heap.size,args:=#[] }:Deferred)]++a.defers→∃ q,d = { target:=.collected q,args:=#[] }∧W5.heap[q]? = some (.deferred (some []))∧¬ S1 q:=by
      intro d hd
      rcases List.mem_append.1 hd with hd | hd
      · simp only [List.mem_singleton] at hd
        exact ⟨w.heap.size,hd,(QW.block _ acd (by omega)).trans hinv.dD,hinv.nD⟩
      · rw [CK.defers] at hd
        obtain ⟨q,e,q1,q2⟩:=CK.Sg d hd
        have hq:=(Array.getElem?_eq_some_iff.1 q1).1
        have nq:¬ zU q:=fun h=>by obtain ⟨_,_,hb⟩:=CK.core.rJ h; exact hb.pG q1
        refine ⟨q,e,(hk5.block q hq nq).trans q1,fun h=>?_⟩
        rcases hinv.new q h with h | h | h
        · exact q2 h
        · omega
        · exact nq h
    have acf:([({ target:=.collected w.heap.size,args:=#[] }:Deferred)]++a.defers).Nodup:=by
      refine List.nodup_cons.2 ⟨fun hd=>?_,by rw [CK.defers]; exact C.WX⟩
      rw [CK.defers] at hd
      obtain ⟨q,e,q1,q2⟩:=CK.Sg _ hd
      cases e
      have:=(Array.getElem?_eq_some_iff.1 q1).1
      omega
    let C5:Cx:=Cx.at g.P g.nt W5 S1 M8.fZ μ1 (hinv.yU.mono (fun _ x=>x) hS5) (Pz fun _=>false).mem (Pz fun _=>false).bound _ ace acf
    have aaA:nb C5 M8 { a with defers:=[{ target:=.collected w.heap.size,args:=#[] }]++a.defers } W5:=⟨S1,μ1,fun ν=>Core.sim (a:={ a with defers:=[{ target:=.collected w.heap.size,args:=#[] }]++a.defers }) (Pz ν) ZG _ _ _ _ _ _ rfl⟩
    have Ys:∀ q,zU q→C.w0.heap.size≤q∨C.T0 q:=fun q hq=>CK.Yh hq
    have hw0:C.w0.heap.size≤w.heap.size:=CK.kept.size
    refine g.zs C b cs _ _ Yr (hz (C':=C5) ⟨fun q hq=>hinv.sub q (CK.eJ q hq),fun q hq=>?_,CK.kept.trans hk5 (fun q hq h=>(Ys q h).resolve_left (by omega)),fun q hq=>?_⟩ (hG C5 rfl rfl { a with defers:=[{ target:=.collected w.heap.size,args:=#[] }]++a.defers } W5 O0 aaA b cs KY Ik Sh))
    · rcases hinv.new q hq with h | h | h
      · exact CK.fresh q h
      · exact .inr (.inl (Nat.le_trans hw0 h))
      · exact .inr (Ys q h)
    · rcases hq with h | h
      · rcases hinv.own q h with h | h
        · exact ((Ys q h).imp (fun x=>x) .inl).symm
        · exact .inr (Nat.le_trans hw0 h)
      · rcases List.mem_append.1 h with h | h
        · simp only [List.mem_singleton,Deferred.mk.injEq,Target.collected.injEq,and_true] at h
          subst h
          exact .inr hw0
        · rw [CK.defers] at h
          exact .inl (.inr h)
  rcases hJJ with ⟨F,s,S1,μ1,q1,q2,q3,q4⟩ | ⟨F,bv,S1,μ1,q1,q3,q4⟩
  · have q1:sD step ys s0=.inr s:=by
      have e:ys.take (ys.map enc).length=ys:=by simp
      rw [e] at q1; exact q1
    rw [q1] at hk
    exact Ud (Js s) S1 μ1 _ F k q3 q4 (by rw [KZ]; simp) (by rw [KZ]; rfl) hk
  · rw [q1] at hk
    exact Ud (Jb bv) S1 μ1 _ F _ q3 q4 (by rw [KZ]; simp) (by rw [KZ]; rfl) hk

end
def Ue (ops:Array Oper):Option (Nat × Nat × Nat × Nat × Nat × Nat) :=
 match ops.toList with
 | [o1,o2,o3,o4]=>(match o1.op,o1.dst,o1.guard,o2.op,o2.dst,o2.guard with
  | .move (.tmp ts),some d1,none,.move (.tmp ti),some d2,none=>(match o3.op,o3.dst,o3.guard,o4.op,o4.dst,o4.guard with
   | .slice ty (.tmp a) (some (.tmp b)) none none,some d3,none,.call { callee:=.builtin .clear,args:=xs,argTypes:=tys,.. },none,none=>(match xs.toList,tys.toList with
    | [.tmp c],[ty']=>bif Nat.beq a d1&&Nat.beq b d2&&Nat.beq c d3&&Nat.beq ty ty'&&!Nat.beq d1 d2&&!Nat.beq ti d1 then some (ts,ti,ty,d1,d2,d3) else none
    | _,_=>none)
   | _,_,_,_,_,_=>none)
  | _,_,_,_,_,_=>none)
 | _=>none
def vl (x:Nat) (f:Nat→List D) (z:List D):Nat→List D:=fun q=>if q < x then f q else z
section
variable {C : Cx} {A : M} {a : Act} {w : World} {S : Nat → Prop} {μ : Mu} {ν : Nat → Bool}
theorem IA {P:Program} {t e ty:TypeId} {j:TypeInfo} {z:Value} {i:TI} (F:QJ P e i j z) (A8:i.zero.all wM=true) (hu:P.underlying t=some (.slice e)) {g off m c:Nat} {cur:Array Value} {e':TypeId} (hm:0 < m)
  (hg:w.heap[g]? = some (.cells cur e' (0,0))) (hle:off+m * i.size≤cur.size) :
  (Builtin.clear_ #[t] ty #[.slice (some ⟨g,off,none⟩) m c]).run P w=.ok (.tuple #[]) (w.setRow g (cur.toList.take off++(Builtin.zeroCells z.cells m).toList++cur.toList.drop (off+m * i.size)).toArray):=by
 obtain ⟨q1,q2⟩:=jb (w:=w) (S:=fun _=>False) F.Vx
 have VZ:z.cells.size=i.size:=by have:=q1; simp only [Array.length_toList] at this; rw [this,F.zM]
 have hlen:(Builtin.zeroCells z.cells m).toList.length=m * i.size:=by simp [Builtin.zeroCells,VZ]
 have mG:=run_storeCells_at P g off e' (Builtin.zeroCells z.cells m).toList 0 cur w hg (by rw [hlen]; omega) (fun v hv=>by
  simp only [Builtin.zeroCells,VZ] at hv
  obtain ⟨q,hq,rfl⟩:∃ q,q < m * i.size∧z.cells[q % i.size]! = v:=by simpa using hv
  have R7:0 < i.size:=by
   rcases Nat.eq_zero_or_pos i.size with h0 | h0
   ·rw [h0] at hq; simp at hq
   ·exact h0
  have iR:q % i.size < i.size:=Nat.mod_lt _ R7
  have h2:=q2 (q % i.size) (by rw [F.zM]; exact iR)
  have Iq:q % i.size < z.cells.size:=by omega
  rw [getElem!_pos z.cells _ Iq]
  have e1:z.cells.toList.getD (q % i.size) undef=z.cells[q % i.size]:=by simp [List.getD,Iq]
  rw [e1] at h2
  simp only [List.all_eq_true] at A8
  exact A7 (A8 _ (by simp [List.getD,F.zM,iR])) h2)
 simp only [Nat.add_zero,hlen] at mG
 obtain ⟨m',rfl⟩:∃ m',m=m'+1:=⟨m - 1,by omega⟩
 simp only [Builtin.clear_,List.getElem?_toArray,List.getElem?_cons_zero,Sem.run_bind,run_underlying hu,Result.andThen_ok,zeroValue,typeInfo,run_program,F.info,Sem.run_pure,F.zero,mG]
theorem Gi {P:Program} {t e ty:TypeId} (hu:P.underlying t=some (.slice e)) (ad:Option Addr) (c:Nat):(Builtin.clear_ #[t] ty #[.slice ad 0 c]).run P w=.ok (.tuple #[]) w:=by
 cases ad <;> simp [Builtin.clear_,run_underlying hu]
theorem M9 {o:Oper} (h:o.guard=none) (y):Region.wanted o y=true:=by simp [Region.wanted,h]
theorem df.acg {st:St} (eX:∀ ν,df C st.fZ a w S μ ν) {d1 d2 d3:Nat} (v1 v2 v3:Value) :
  ∀ ν,df C (St.fZ ⟨bw [d1,d2,d3] st.sl,st.lb⟩) (((a.put (some d1) v1).put (some d2) v2).put (some d3) v3) w S μ ν:=fun ν=>by
 have h:=eX ν
 refine ⟨by simp [Act.put,h.tmps],h.defers,fun u=>?_,h.mem,h.inj,h.own,h.eJ,h.fresh,h.bound,h.kept⟩
 simp only [St.fZ,St.get,ng]
 by_cases hn:u∈[d1,d2,d3]
 ·rw [if_pos hn]
  exact .any _
 ·rw [if_neg hn]
  simp only [List.mem_cons,List.not_mem_nil,or_false,not_or] at hn
  simp only [Act.put]
  rw [dg _ _ _ _ hn.2.2,dg _ _ _ _ hn.2.1,dg _ _ _ _ hn.1]
  have:=h.eF u
  simp only [St.fZ,St.get] at this
  exact this
end
theorem Fp {P:Program} {ops:Array Oper} {Q:Exit→Act→World→Prop} {i:Nat} {rest:List Nat} {a:Act} {w w':World} {o:Oper} {v:Value} (ho:ops[i]? = some o) (hg:o.guard=none) (ga:(execOp a.eval o).run P w=.ok (.value v) w') (h:wpOps P ops Q rest (a.put o.dst v) w'):wpOps P ops Q (i :: rest) a w:=by
 simp only [wpOps,ho,M9 hg,if_true]
 left
 unfold Oper.wp
 rw [ga]
 exact h
section
variable {g : Goal}
theorem G.K1 (hT:mP g.P g.T) (hm:g.P.follows .mixedOrders=true) {K:List Item} {st:St} {id:Nat} {ops:Array Oper} {ts ti ty d1 d2 d3 κ e k n:Nat} {f:Nat→List D} {x:Int} {it i:TI} (Ps:Em g.md g.pr ops=true) (nh:Ue ops=some (ts,ti,ty,d1,d2,d3)) (Te:d1 < g.nt) (VF:d2 < g.nt) (hd3:d3 < g.nt)
  (hs:St.get st.sl ts=.own κ n) (hi:St.get st.sl ti=.d (.v (.int .i64 x))) (hl:look st.lb κ=some (.row e k n f)) (ht:look g.T ty=some it) (hk:it.kind=.slice e) (he:look g.T e=some i) (sB:k=i.size) (A8:i.zero.all wM=true)
  (h0:0≤x) (h1:x≤n) (hg:G g K ⟨bw [d1,d2,d3] st.sl,(κ,.row e k n (vl x.toNat f i.zero)) :: bw [κ] st.lb⟩):G g (.code (.region id ops false) :: K) st:=by
 intro C c1 c2 a w O0 hsb
 suffices hw:wpOps C.P ops (fun e' a' w'=>e'=.normal∧nb C ⟨bw [d1,d2,d3] st.sl,(κ,.row e k n (vl x.toNat f i.zero)) :: bw [κ] st.lb⟩ a' w') (List.range ops.size) a w by
  rw [c1] at hw
  exact G.ops hm Ps O0 (.inl ⟨rfl,hw⟩) (fun a' w' fP xa=>hg C c1 c2 a' w' fP xa)
 obtain ⟨S,μ,eX⟩:=hsb
 have hz:=eX fun _=>false
 rw [← c2] at Te VF hd3
 rw [← c1] at hT
 subst sB
 unfold Ue at nh
 split at nh
 ·rename_i o1 o2 o3 o4 hol
  split at nh
  ·rename_i Q0 Tf ti' d2' q1 q2 q3 q4 q5 q6
   split at nh
   ·rename_i Yt a' b' d3' xs tys r1 r2 r3 r4 r5 r6
    split at nh
    ·rename_i c' ty2 hx K2
     rw [Bool.cond_eq_ite] at nh
     split at nh
     ·rename_i VA
      simp only [Bool.and_eq_true,Bool.not_eq_true'] at VA
      obtain ⟨⟨⟨⟨⟨b1,b2⟩,b3⟩,b4⟩,b5⟩,b6⟩:=VA
      have b1:=Nat.eq_of_beq_eq_true b1
      have b2:=Nat.eq_of_beq_eq_true b2
      have b3:=Nat.eq_of_beq_eq_true b3
      have b4:=Nat.eq_of_beq_eq_true b4
      subst b1; subst b2; subst b3; subst b4
      simp only [Option.some.injEq,Prod.mk.injEq] at nh
      obtain ⟨rfl,rfl,rfl,rfl,rfl,rfl⟩:=nh
      have n5:a'≠b':=fun e=>by rw [e,Nat.beq_refl] at b5; cases b5
      have n6:ti'≠a':=fun e=>by rw [e,Nat.beq_refl] at b6; cases b6
      have nh:ops = #[o1,o2,o3,o4]:=by cases ops; simpa using hol
      have VW:xs = #[.tmp c']:=by cases xs; simpa using hx
      have ach:tys = #[Yt]:=by cases tys; simpa using K2
      subst nh; subst VW; subst ach
      show wpOps C.P #[o1,o2,o3,o4] _ [0,1,2,3] a w
      have kI:∀ (a:Act) (d:Option Nat) (x:Value),(a.put d x).tmps.size=a.tmps.size:=fun a d x=>by cases d <;> simp [Act.put]
      have Sn:∀ (a:Act) (d:Nat) (x:Value),a.tmps.size=C.nt→d < C.nt→(a.put (some d) x).eval (.tmp d)=x:=fun a d x h1 h2=>by
       show (a.tmps.setIfInBounds d x).getD d undef=x
       exact iH _ _ _ (by rw [h1]; exact h2)
      have aaB:∀ (a:Act) (d u:Nat) (x:Value),u≠d→(a.put (some d) x).eval (.tmp u)=a.eval (.tmp u):=fun a d u x h=>by
       show (a.tmps.setIfInBounds d x).getD u undef=a.tmps.getD u undef
       exact dg _ _ _ _ h
      have tsz:=hz.tmps
      have VY:=hz.eF Q0
      simp only [St.fZ,hs] at VY
      have VY:Rel w S μ (fun _=>false) (.own κ n) (a.eval (.tmp Q0)):=VY
      have Tc:=hz.eF ti'
      simp only [St.fZ,hi] at Tc
      have Tc:a.eval (.tmp ti')=.int .i64 x:=dU Tc
      obtain ⟨tj,z,F⟩:=aH (hT _ _ ht)
      have sB:=F.kind
      rw [hk] at sB
      have hu:=ee sB
      obtain ⟨ej,ez,E⟩:=aH (hT _ _ he)
      refine Fp (o:=o1) rfl q3 (v:=a.eval (.tmp Q0)) (w':=w) (by simp [execOp,q1]) ?_
      rw [q2]
      refine Fp (o:=o2) rfl q6 (v:=.int .i64 x) (w':=w) (by simp [execOp,q4,aaB _ _ _ _ n6,Tc]) ?_
      rw [q5]
      have ea:((a.put (some a') (a.eval (.tmp Q0))).put (some b') (.int .i64 x)).eval (.tmp a')=a.eval (.tmp Q0):=by rw [aaB _ _ _ _ n5,Sn _ _ _ tsz Te]
      have eb:((a.put (some a') (a.eval (.tmp Q0))).put (some b') (.int .i64 x)).eval (.tmp b')=.int .i64 x:=Sn _ _ _ (by rw [kI]; exact tsz) VF
      have jd:=hz.mem κ _ hl
      have mG:(St.fZ ⟨st.sl,(κ,.row e i.size n (vl x.toNat f i.zero)) :: bw [κ] st.lb⟩)=st.fZ.set κ (some (.row e i.size n (vl x.toNat f i.zero))):=by
       unfold St.fZ M.set
       congr 1
       funext q
       rw [cg,ng]
       by_cases hq:κ=q
       ·subst hq; simp
       ·have:q ∉ [κ]:=by simp; exact fun e=>hq e.symm
        have QN:¬ q=κ:=fun e=>hq e.symm
        simp [hq,QN]
      have fin:∀ (v3:Value) (w':World),(∀ ν,df C (st.fZ.set κ (some (.row e i.size n (vl x.toNat f i.zero)))) a w' S μ ν)→nb C ⟨bw [a',b',c'] st.sl,(κ,.row e i.size n (vl x.toNat f i.zero)) :: bw [κ] st.lb⟩ (((a.put (some a') (a.eval (.tmp Q0))).put (some b') (.int .i64 x)).put (some c') v3) w':=fun v3 w' h =>
       ⟨S,μ,df.acg (st:=⟨st.sl,(κ,.row e i.size n (vl x.toNat f i.zero)) :: bw [κ] st.lb⟩) (fun ν=>by rw [mG]; exact h ν) _ _ v3⟩
      have same:x.toNat=n→∀ ν,df C (st.fZ.set κ (some (.row e i.size n (vl x.toNat f i.zero)))) a w S μ ν:=fun hxn ν=>by
       refine (eX ν).weaken (fun t v hv=>hv) (fun κ' b' mQ=>?_)
       simp only [M.set] at mQ
       by_cases hq:κ'=κ
       ·simp only [hq,if_true,Option.some.injEq] at mQ
        subst mQ
        refine ⟨.row e i.size n f,by rw [hq]; exact hl,fun y hy=>?_⟩
        cases y with
        | none=>exact hy
        | some y =>
         cases y with
         | none=>exact hy
         | some gc =>
          obtain ⟨gg,cap⟩:=gc
          obtain ⟨cur,y1,y2,y3,y4,y5,y6⟩:=hy.at
          refine eI.ok (b:=.row e i.size n _) ⟨cur,y1,y2,y3,y4,y5,fun q QN=>?_⟩
          have:vl x.toNat f i.zero q=f q:=by simp only [vl]; rw [if_pos (by omega)]
          rw [this]
          exact y6 q QN
       ·simp only [hq,if_false] at mQ
        exact ⟨b',mQ,fun _ hy=>hy⟩
      have Ei:∀ w,(sizeOf e).run C.P w=.ok i.size w:=fun w=>by simp [sizeOf,typeInfo,E.info,E.size]
      have Pb:∀ (ad:Option Addr) (m cap:Nat),x≤m→m≤cap→(Instr.sliceAt Yt (.slice ad m cap) (some (.int .i64 x)) none none).run C.P w=.ok (.slice (if cap=x.toNat then ad else ad.map (·.add (x.toNat * i.size))) (m - x.toNat) (cap - x.toNat)) w:=fun ad m cap Q1 ZJ=>by
       have q1:∀ (k:IntKind) (i:Int) (y:Nat) (c:BoundsCode),0≤i→i≤y→(Instr.sliceBound (.int k i) y c).run C.P w=.ok i.toNat w:=fun k i y c h0 h1=>run_sliceBound w k i y c h0 h1
       simp (disch:=omega) [Instr.sliceAt,run_underlying hu,Instr.slice,Instr.sliceBounds,q1,Ei]
      have aaC:∀ v,(Instr.sliceAt Yt (a.eval (.tmp Q0)) (some (.int .i64 x)) none none).run C.P w=.ok v w→(execOp ((a.put (some a') (a.eval (.tmp Q0))).put (some b') (.int .i64 x)).eval o3).run C.P w=.ok (.value v) w:=fun v hv=>by
       simp only [execOp,r1,ea,eb,Option.map_some,Option.map_none,Sem.run_bind,hv,Result.andThen_ok,Sem.run_pure]
      have ec:∀ v3,(((a.put (some a') (a.eval (.tmp Q0))).put (some b') (.int .i64 x)).put (some c') v3).eval (.tmp c')=v3:=fun v3=>Sn _ _ _ (by rw [kI,kI]; exact tsz) hd3
      have aaD:∀ v3 w',(Builtin.clear_ #[Yt] o4.type #[v3]).run C.P w=.ok (.tuple #[]) w'→(execOp (((a.put (some a') (a.eval (.tmp Q0))).put (some b') (.int .i64 x)).put (some c') v3).eval o4).run C.P w=.ok (.value (.tuple #[])) w':=fun v3 w' hv=>by
       simp [execOp,r4,resolve,invoke,ec,builtin,hv]
      have done:∀ v3 w',(Instr.sliceAt Yt (a.eval (.tmp Q0)) (some (.int .i64 x)) none none).run C.P w=.ok v3 w→(Builtin.clear_ #[Yt] o4.type #[v3]).run C.P w=.ok (.tuple #[]) w'→(∀ ν,df C (st.fZ.set κ (some (.row e i.size n (vl x.toNat f i.zero)))) a w' S μ ν) →
        wpOps C.P #[o1,o2,o3,o4] (fun e' aa w'=>e'=.normal∧nb C ⟨bw [a',b',c'] st.sl,(κ,.row e i.size n (vl x.toNat f i.zero)) :: bw [κ] st.lb⟩ aa w') [2,3] ((a.put (some a') (a.eval (.tmp Q0))).put (some b') (.int .i64 x)) w:=fun v3 w' x1 x2 x3=>by
       refine Fp (o:=o3) rfl r3 (aaC v3 x1) ?_
       rw [r2]
       refine Fp (o:=o4) rfl r6 (aaD v3 w' x2) ?_
       rw [r5]
       exact ⟨rfl,fin v3 w' x3⟩
      generalize adx:a.eval (.tmp Q0)=sv at VY done
      cases VY with
      | @eH _ ad hμ =>
       refine done _ w (Pb ad 0 0 (by omega) (Nat.le_refl _)) ?_ (same (by omega))
       have:0 - x.toNat=0:=by omega
       rw [this]
       exact Gi hu _ _
      | @own _ _ gg cap hμ =>
       rw [hμ] at jd
       obtain ⟨cur,hgc,rE,Ip,Ta,QO,pD⟩:=jd.at
       rcases Nat.lt_or_ge x.toNat n with iR | Zw
       ·have e3:(if cap=x.toNat then some (⟨gg,0,none⟩:Addr) else (some (⟨gg,0,none⟩:Addr)).map (·.add (x.toNat * i.size)))=some ⟨gg,x.toNat * i.size,none⟩:=by
         rw [if_neg (by omega)]
         simp [gH]
        have hmul:x.toNat * i.size+(n - x.toNat) * i.size=n * i.size:=by rw [← Nat.add_mul]; congr 1; omega
        have hle:x.toNat * i.size+(n - x.toNat) * i.size≤cur.size:=by rw [hmul,Ip]; exact Nat.mul_le_mul_right _ Ta
        have We:ez.cells.size=i.size:=by have:=(jb (w:=w) (S:=S) E.Vx).1; simp only [Array.length_toList] at this; rw [this,E.zM]
        have Xk:(Builtin.zeroCells ez.cells (n - x.toNat)).toList.length=(n - x.toNat) * i.size:=by simp [Builtin.zeroCells,We]
        have ga:=IA (P:=C.P) (t:=Yt) (ty:=o4.type) (c:=cap - x.toNat) E A8 hu (by omega:0 < n - x.toNat) hgc hle
        refine done _ _ ((Pb _ n cap h1 Ta).trans (by rw [e3])) ga (fun ν=>(eX ν).write hl hμ (b':=.row e i.size n _) ⟨_,setRow_heap w gg cur _ e _ hgc,rE,?_,Ta,QO,fun q hq=>⟨?_,fun j hj=>?_⟩⟩)
        ·simp only [List.size_toArray,List.length_append,List.length_take,List.length_drop,Array.length_toList,Xk]
         have:n * i.size≤cap * i.size:=Nat.mul_le_mul_right _ Ta
         omega
        ·simp only [vl]
         split
         ·exact (pD q hq).1
         ·exact E.zM
        ·have hqj:q * i.size+j < n * i.size:=by
          calc q * i.size+j < q * i.size+i.size:=by omega
           _=(q+1) * i.size:=by rw [Nat.add_mul,Nat.one_mul]
           _≤n * i.size:=Nat.mul_le_mul_right _ hq
         rw [List.getElem?_toArray]
         by_cases hqx:q < x.toNat
         ·have aci:q * i.size+j < x.toNat * i.size:=by
           calc q * i.size+j < q * i.size+i.size:=by omega
            _=(q+1) * i.size:=by rw [Nat.add_mul,Nat.one_mul]
            _≤x.toNat * i.size:=Nat.mul_le_mul_right _ hqx
          obtain ⟨u,hu1,hu2⟩:=(pD q hq).2 j hj
          refine ⟨u,?_,?_⟩
          ·rw [List.append_assoc,List.getElem?_append_left (by simp; omega),List.getElem?_take,if_pos aci]
           simpa using hu1
          ·have:vl x.toNat f i.zero q=f q:=by simp only [vl]; rw [if_pos hqx]
           rw [this]
           exact hu2.mono (fun _ x=>x) (fun b hb=>setRow_other w gg b _ (fun e=>rE (e ▸ hb)))
         ·have hxq:x.toNat * i.size≤q * i.size:=Nat.mul_le_mul_right _ (by omega)
          have S7:q * i.size+j - x.toNat * i.size < (n - x.toNat) * i.size:=by omega
          have MH:(q * i.size+j - x.toNat * i.size) % ez.cells.size=j:=by
           rw [We,show q * i.size+j - x.toNat * i.size=i.size * (q - x.toNat)+j from by rw [Nat.mul_sub,Nat.mul_comm i.size q,Nat.mul_comm i.size x.toNat]; omega,Nat.mul_add_mod,Nat.mod_eq_of_lt hj]
          have JS:j < ez.cells.size:=by omega
          obtain ⟨_,z2⟩:=jb (w:=w.setRow gg (cur.toList.take (x.toNat * i.size)++(Builtin.zeroCells ez.cells (n - x.toNat)).toList++cur.toList.drop (x.toNat * i.size+(n - x.toNat) * i.size)).toArray) (S:=S) E.Vx
          refine ⟨ez.cells[j],?_,?_⟩
          ·rw [List.append_assoc,List.getElem?_append_right (by simp; omega),List.getElem?_append_left (by rw [Xk]; simp; omega)]
           have:(List.take (x.toNat * i.size) cur.toList).length=x.toNat * i.size:=by simp; omega
           rw [this]
           simp only [Builtin.zeroCells,Array.getElem?_toList,Array.getElem?_map,Array.getElem?_range,We,S7,if_true,Option.map_some]
           rw [← We] at MH ⊢
           rw [MH,getElem!_pos ez.cells j JS]
          ·have:vl x.toNat f i.zero q=i.zero:=by simp only [vl]; rw [if_neg hqx]
           rw [this]
           have:=z2 j (by rw [E.zM]; exact hj)
           rwa [show ez.cells.toList.getD j undef=ez.cells[j] from by simp [List.getD,JS]] at this
       ·refine done _ w (Pb _ n cap h1 Ta) ?_ (same (by omega))
        have:n - x.toNat=0:=by omega
        rw [this]
        exact Gi hu _ _
     ·cases nh
    ·cases nh
   ·cases nh
  ·cases nh
 ·cases nh
end
def mS {α:Type} [Inhabited α] (cells:α→List D) (l:List α):D:=.sl l.length fun i=>cells (l.getD i default)
def cM (n:Int):List D:=[.v (.int .i64 n)]
def gV (s:ByteArray):List D:=[.v (.string s)]
def lI (b:Bool):List D:=[.v (.bool b)]
theorem So {n:Int} (h1 : -9223372036854775808≤n) (h2:n≤9223372036854775807):IntKind.i64.wrap n=n:=IntWalk.i64_in n ⟨h1,h2⟩
theorem Wf {α:Type} [Inhabited α] (cells:α→List D) (L M:List α) :
  (L.length+M.length=(L++M).length)∧∀ i,i < L.length+M.length→(if i < L.length then cells (L.getD i default) else cells (M.getD (i - L.length) default))=cells ((L++M).getD i default):=by
 refine ⟨by simp,fun i hi=>?_⟩
 split
 ·rename_i h
  simp [List.getD,List.getElem?_append_left h]
 ·rename_i h
  simp [List.getD,List.getElem?_append_right (Nat.le_of_not_lt h)]
def rK:List AV→List AV→Prop
 | [],[]=>True
 | x :: r,y :: s=>qk x y∧rK r s
 | _,_=>False
theorem rK.rel {w:World} {S:Nat→Prop} {μ:Mu} {ν:Nat→Bool}:∀ {l l':List AV} {vs:List Value},rK l l'→dG w S μ ν l vs→dG w S μ ν l' vs
 | [],[],_,_,h=>h
 | x :: r,y :: s,vs,h,hr=>by
  obtain ⟨h1,h2⟩:=h
  cases vs with
  | nil=>exact absurd hr.1 (by simp)
  | cons v vs =>
   have ht:dG w S μ ν r vs:=⟨by simpa using hr.1,fun i hi=>by simpa using hr.2 (i+1) (by simpa using hi)⟩
   have:=rK.rel h2 ht
   refine ⟨by simpa using this.1,fun i hi=>?_⟩
   cases i with
   | zero=>exact h1 _ _ _ _ _ (by simpa using hr.2 0 (by simp))
   | succ i=>simpa using this.2 i (by simpa using hi)
 | [],_ :: _,_,h,_=>h.elim
 | _ :: _,[],_,h,_=>h.elim
theorem iU.Q2 {P:Program} {f:FuncId} {args DT:List AV} {cZ gp:List (Nat × bK)} {res:AV} (h:iU P f DT cZ res gp) (hle:rK args DT):iU P f args cZ res gp :=
 ⟨h.1,fun w S μ vs h1 hg h2 h3 h4=>h.2 w S μ vs h1 hg (fun ν=>hle.rel (h2 ν)) h3 h4⟩
mutual
inductive dr (T:List (Nat × TI)):Nat→List D→Prop
 | int {t:Nat} {i:TI} {k:IntKind} (hi:look T t=some i) (hk:i.kind=.int k) (n:Int) (h:(Lit.int k n).wf=true):dr T t [.v (.int k n)]
 | bool {t:Nat} {i:TI} (hi:look T t=some i) (hk:i.kind=.bool) (b:Bool):dr T t [.v (.bool b)]
 | str {t:Nat} {i:TI} (hi:look T t=some i) (hk:i.kind=.str) (s:ByteArray) (h:s.size≤maxLen):dr T t [.v (.string s)]
 | slice {t e:Nat} {i:TI} (hi:look T t=some i) (hk:i.kind=.slice e) (n:Nat) (f:Nat→List D) (h:∀ j,j < n→dr T e (f j)):dr T t [.sl n f]
 | struct {t:Nat} {i:TI} {fs:List (Nat × Nat)} (hi:look T t=some i) (hk:i.kind=.struct fs) (ds:List D) (h:xt T (fs.map (·.2)) ds):dr T t ds
inductive xt (T:List (Nat × TI)):List Nat→List D→Prop
 | nil:xt T [] []
 | cons {t:Nat} {ts:List Nat} (p ds:List D) (h:dr T t p) (hs:xt T ts ds):xt T (t :: ts) (p++ds)
end
def Gj (T:List (Nat × TI)):Nat→List (Nat × Nat)→Option Nat
 | off,[]=>some off
 | off,(o,t) :: r=>match look T t with | some i=>bif Nat.beq o off then Gj T (off+i.size) r else none | none=>none
def PA (T:List (Nat × TI)) (ts:List Nat) (t:Nat):Bool:=match look T t with
  | some i=>(match i.kind with
   | .int _ | .bool | .str=>true
   | .slice e=>(ts.any fun q=>Nat.beq q e)&&(match look T e with | some j=>!Nat.beq j.size 0 | none=>false)
   | .struct fs=>(match Gj T 0 fs with | some n=>Nat.beq n i.size | none=>false)&&fs.all (fun f=>ts.any fun q=>Nat.beq q f.2)
   | _=>false)
  | none=>false
def Bj (T:List (Nat × TI)) (ts:List Nat):Bool:=ts.all (PA T ts)
theorem K3 {ts:List Nat} {t:Nat} (h:(ts.any fun q=>Nat.beq q t)=true):t∈ts:=by
 obtain ⟨q,hq,e⟩:=List.any_eq_true.1 h
 have:=Nat.eq_of_beq_eq_true e
 subst this
 exact hq
section
variable {H : Type} {enc : TypeId × Value → H} {P : Program} {w : World} {base : Nat} {spare : Nat → Bool} {held : Bool} {T : List (Nat × TI)}
def wz (w:World) (ds:List D) (cs:List Value):Prop:=ds.length=cs.length∧∀ j,j < ds.length→Rd w (fun b=>b < w.heap.size) (ds.getD j default) (cs.getD j undef)
theorem wz.one {d:D} {v:Value} (h:Rd w (fun b=>b < w.heap.size) d v):wz w [d] [v]:=⟨rfl,fun j hj=>by
 have:j=0:=by simpa using hj
 subst this
 simpa using h⟩
theorem wz.append {d1 d2:List D} {c1 c2:List Value} (h1:wz w d1 c1) (h2:wz w d2 c2):wz w (d1++d2) (c1++c2):=by
 refine ⟨by simp [h1.1,h2.1],fun j hj=>?_⟩
 by_cases h:j < d1.length
 ·have:=h1.2 j h
  have hc:j < c1.length:=by rw [← h1.1]; exact h
  simpa [List.getD,List.getElem?_append_left h,List.getElem?_append_left hc] using this
 ·have h':d1.length≤j:=Nat.le_of_not_lt h
  have hc:c1.length≤j:=by rw [← h1.1]; exact h'
  have:=h2.2 (j - d1.length) (by simp at hj; omega)
  rw [h1.1] at this
  simpa [List.getD,List.getElem?_append_right h',List.getElem?_append_right hc,h1.1] using this
theorem vm (hT:mP P T) {t:Nat} {i:TI} (hi:look T t=some i):P.cellsOf t=i.size:=by
 obtain ⟨j,z,F⟩:=aH (hT _ _ hi)
 simp [Program.cellsOf,F.info,F.size]
theorem Gk (hT:mP P T) (cs:List Value):∀ (fs:List (Nat × Nat)) (off n:Nat),Gj T off fs=some n→cs.length=n →
  (∀ f,f∈fs→∃ ds,dr T f.2 ds∧wz w ds ((cs.drop f.1).take (P.cellsOf f.2)))→∃ ds,xt T (fs.map (·.2)) ds∧wz w ds (cs.drop off)
 | [],off,n,hc,hl,_=>by
  simp only [Gj,Option.some.injEq] at hc
  refine ⟨[],.nil,?_⟩
  rw [List.drop_of_length_le (by omega)]
  exact ⟨rfl,fun j hj=>absurd hj (by simp)⟩
 | (o,t) :: r,off,n,hc,hl,hf=>by
  simp only [Gj] at hc
  split at hc
  ·rename_i i hi
   cases hb:Nat.beq o off with
   | false=>rw [hb] at hc; cases hc
   | true =>
    rw [hb] at hc
    have ho:=Nat.eq_of_beq_eq_true hb
    subst ho
    obtain ⟨d1,t1,r1⟩:=hf (o,t) List.mem_cons_self
    obtain ⟨d2,t2,r2⟩:=Gk hT cs r (o+i.size) n hc hl (fun f hm=>hf f (List.mem_cons_of_mem _ hm))
    refine ⟨d1++d2,.cons d1 d2 t1 t2,?_⟩
    have kI:=vm hT hi
    have e:cs.drop o=(cs.drop o).take (P.cellsOf t)++cs.drop (o+i.size):=by
     rw [← kI,← List.drop_drop,List.take_append_drop]
    rw [e]
    exact r1.append r2
  ·cases hc
theorem Gl (hT:mP P T) {ts:List Nat} (AU:Bj T ts=true):∀ (n t:Nat) (cs:List Value) (x:DataW H × List MemPlace),t∈ts→DataW.trod enc P w base spare held n t cs=some x→∃ ds,dr T t ds∧wz w ds cs
 | n,t,cs,x,hm,h=>by
  have hp:=List.all_eq_true.1 AU t hm
  simp only [PA] at hp
  split at hp
  ·rename_i i hi
   obtain ⟨tj,z,F⟩:=aH (hT _ _ hi)
   have hk:=F.kind
   split at hp
   ·rename_i k jR
    rw [jR] at hk
    simp only [dq] at hk
    split at hk
    ·rename_i k' hu
     have:=of_decide_eq_true hk
     subst this
     obtain ⟨v,rfl,_,hw⟩:=DataW.trod_int hu h
     exact ⟨_,.int hi jR v hw,.one (.v _ rfl)⟩
    ·cases hk
   ·rename_i jR
    rw [jR] at hk
    simp only [dq] at hk
    split at hk
    ·rename_i hu
     obtain ⟨v,rfl,_⟩:=DataW.trod_bool hu h
     exact ⟨_,.bool hi jR v,.one (.v _ rfl)⟩
    ·cases hk
   ·rename_i jR
    rw [jR] at hk
    simp only [dq] at hk
    split at hk
    ·rename_i hu
     obtain ⟨v,rfl,_,hw⟩:=DataW.trod_string hu h
     exact ⟨_,.str hi jR v hw,.one (.v _ rfl)⟩
    ·cases hk
   ·rename_i e jR
    rw [jR] at hk
    simp only [dq] at hk
    split at hk
    ·rename_i e' hu
     have:=beq_iff_eq.1 hk
     subst this
     simp only [Bool.and_eq_true] at hp
     obtain ⟨hpe,kI⟩:=hp
     split at kI
     ·rename_i je hje
      have hce:=vm hT hje
      have R7:0 < je.size:=by
       rcases Nat.eq_zero_or_pos je.size with h0 | h0
       ·rw [h0] at kI; cases kI
       ·exact h0
      rcases DataW.trod_slice hu h with ⟨rfl,_⟩ | ⟨a,len,cap,elems,rest,n',rfl,rfl,_,hb,hlc,QO,hel,aaE,_⟩
      ·exact ⟨[.sl 0 fun _=>[]],.slice hi jR 0 _ (fun j hj=>absurd hj (Nat.not_lt_zero _)),.one (.nil _)⟩
      ·have each:∀ q,q < len→∃ zT,w.cells? base (a.add (q * P.cellsOf e)) (P.cellsOf e)=some zT∧∃ ds,dr T e ds∧wz w ds zT:=by
        intro q hq
        have hx:=aaE q hq
        have hs:elems[q]? = some elems[q]:=List.getElem?_eq_getElem (by omega)
        rw [hs] at hx
        cases hc:w.cells? base (a.add (q * P.cellsOf e)) (P.cellsOf e) with
        | none=>rw [hc] at hx; cases hx
        | some zT =>
         rw [hc] at hx
         exact ⟨zT,rfl,Gl hT AU n' e zT _ (K3 hpe) hx⟩
       classical
       let g:Nat→List D:=fun q=>if hq:q < len then (each q hq).choose_spec.2.choose else []
       let vv:Nat→List Value:=fun q=>if hq:q < len then (each q hq).choose else []
       have g1:∀ q,q < len→dr T e (g q)∧wz w (g q) (vv q)∧w.cells? base (a.add (q * P.cellsOf e)) (P.cellsOf e)=some (vv q):=fun q hq=>by
        simp only [g,vv,hq,dif_pos]
        exact ⟨(each q hq).choose_spec.2.choose_spec.1,(each q hq).choose_spec.2.choose_spec.2,(each q hq).choose_spec.1⟩
       have hlen:∀ q,q < len→(g q).length=je.size:=fun q hq=>by
        obtain ⟨_,r1,c1⟩:=g1 q hq
        rw [r1.1,(World.cells?_some c1).2.1,hce]
       have Xl:len=0∨a.spot=none:=by
        rcases Nat.eq_zero_or_pos len with h0 | h0
        ·exact .inl h0
        ·right
         obtain ⟨_,_,c1⟩:=g1 0 h0
         have:=(World.cells?_some c1).2.2 0 (by omega)
         have hl:=(World.cells?_some c1).2.1
         simp only [Nat.zero_mul,Addr.add,if_true] at this
         rw [List.getElem?_eq_getElem (by omega)] at this
         unfold World.cell? at this
         cases JQ:a.spot with
         | none=>rfl
         | some s =>
          rw [JQ] at this
          split at this <;> simp at this
       refine ⟨[.sl len g],.slice hi jR len g (fun q hq=>(g1 q hq).1),.one (.sl len g a cap je.size (fun q j=>(vv q).getD j undef) hlc QO Xl hlen (fun q j hq hj=>?_) (fun q j hq hj=>(g1 q hq).2.1.2 j (by rw [hlen q hq]; exact hj)))⟩
       obtain ⟨_,r1,c1⟩:=g1 q hq
       have JQ:a.spot=none:=Xl.resolve_left (by omega)
       obtain ⟨ab,ao,as⟩:=a
       simp only at JQ
       subst JQ
       have Uf:=(World.cells?_some c1).2.2 j (by omega)
       have hl:=(World.cells?_some c1).2.1
       rw [gH,gH,hce,Nat.add_assoc,List.getElem?_eq_getElem (by omega)] at Uf
       refine ⟨?_,?_⟩
       ·unfold World.cell? at Uf
        split at Uf
        ·rename_i hh
         exact (Array.getElem?_eq_some_iff.1 hh).1
        ·cases Uf
       ·rw [Uf]
        simp [List.getD,List.getElem?_eq_getElem (show j < (vv q).length by omega)]
     ·cases kI
    ·cases hk
   ·rename_i fs jR
    rw [jR] at hk
    simp only [dq] at hk
    split at hk
    ·rename_i gs hu
     have RT:=beq_iff_eq.1 hk
     simp only [Bool.and_eq_true,List.all_eq_true] at hp
     obtain ⟨Yu,uo⟩:=hp
     split at Yu
     ·rename_i tot acj
      have htt:=Nat.eq_of_beq_eq_true Yu
      subst htt
      obtain ⟨xs,n',rfl,_,hl,R1,Vz⟩:=DataW.trod_struct hu h
      have hfs:∀ f,f∈fs→∃ ds,dr T f.2 ds∧wz w ds ((cs.drop f.1).take (P.cellsOf f.2)):=fun f hm=>by
       have hm0:=hm
       rw [← RT] at hm
       simp only [List.mem_map] at hm
       obtain ⟨fd,hfd,rfl⟩:=hm
       obtain ⟨ix,El,Zw⟩:=List.getElem_of_mem hfd
       have hg:gs[ix]? = some fd:=by
        rw [← Zw]
        simp only [Array.length_toList] at El
        simp [El]
       have hx:=Vz ix fd hg
       have ack:ix < xs.length:=by rw [R1]; simpa using El
       rw [List.getElem?_eq_getElem ack] at hx
       exact Gl hT AU n' fd.type _ _ (K3 (uo _ hm0)) hx
      obtain ⟨ds,q1,q2⟩:=Gk (w:=w) hT cs fs 0 i.size acj (by rw [hl,vm hT hi]) hfs
      exact ⟨ds,.struct hi jR ds q1,by simpa using q2⟩
     ·cases Yu
    ·cases hk
   ·cases hp
  ·cases hp
termination_by n=>n
theorem dr.yA {t:Nat} {i:TI} {k:IntKind} {ds:List D} (hi:look T t=some i) (hk:i.kind=.int k) (h:dr T t ds):∃ n,ds=[.v (.int k n)]∧(Lit.int k n).wf=true:=by
 cases h with
 | int fQ fP n h=>rw [hi] at fQ; cases fQ; rw [hk] at fP; cases fP; exact ⟨n,rfl,h⟩
 | bool fQ fP=>rw [hi] at fQ; cases fQ; rw [hk] at fP; cases fP
 | str fQ fP=>rw [hi] at fQ; cases fQ; rw [hk] at fP; cases fP
 | slice fQ fP=>rw [hi] at fQ; cases fQ; rw [hk] at fP; cases fP
 | struct fQ fP=>rw [hi] at fQ; cases fQ; rw [hk] at fP; cases fP
theorem dr.Ug {t:Nat} {i:TI} {ds:List D} (hi:look T t=some i) (hk:i.kind=.bool) (h:dr T t ds):∃ b,ds=[.v (.bool b)]:=by
 cases h with
 | int fQ fP=>rw [hi] at fQ; cases fQ; rw [hk] at fP; cases fP
 | bool fQ fP b=>exact ⟨b,rfl⟩
 | str fQ fP=>rw [hi] at fQ; cases fQ; rw [hk] at fP; cases fP
 | slice fQ fP=>rw [hi] at fQ; cases fQ; rw [hk] at fP; cases fP
 | struct fQ fP=>rw [hi] at fQ; cases fQ; rw [hk] at fP; cases fP
theorem dr.Wg {t:Nat} {i:TI} {ds:List D} (hi:look T t=some i) (hk:i.kind=.str) (h:dr T t ds):∃ s,ds=[.v (.string s)]∧s.size≤maxLen:=by
 cases h with
 | int fQ fP=>rw [hi] at fQ; cases fQ; rw [hk] at fP; cases fP
 | bool fQ fP=>rw [hi] at fQ; cases fQ; rw [hk] at fP; cases fP
 | str fQ fP s h=>exact ⟨s,rfl,h⟩
 | slice fQ fP=>rw [hi] at fQ; cases fQ; rw [hk] at fP; cases fP
 | struct fQ fP=>rw [hi] at fQ; cases fQ; rw [hk] at fP; cases fP
theorem dr.eV {t e:Nat} {i:TI} {ds:List D} (hi:look T t=some i) (hk:i.kind=.slice e) (h:dr T t ds):∃ n f,ds=[.sl n f]∧∀ j,j < n→dr T e (f j):=by
 cases h with
 | int fQ fP=>rw [hi] at fQ; cases fQ; rw [hk] at fP; cases fP
 | bool fQ fP=>rw [hi] at fQ; cases fQ; rw [hk] at fP; cases fP
 | str fQ fP=>rw [hi] at fQ; cases fQ; rw [hk] at fP; cases fP
 | slice fQ fP n f h=>rw [hi] at fQ; cases fQ; rw [hk] at fP; cases fP; exact ⟨n,f,rfl,h⟩
 | struct fQ fP=>rw [hi] at fQ; cases fQ; rw [hk] at fP; cases fP
theorem dr.cP {t:Nat} {i:TI} {fs:List (Nat × Nat)} {ds:List D} (hi:look T t=some i) (hk:i.kind=.struct fs) (h:dr T t ds):xt T (fs.map (·.2)) ds:=by
 cases h with
 | int fQ fP=>rw [hi] at fQ; cases fQ; rw [hk] at fP; cases fP
 | bool fQ fP=>rw [hi] at fQ; cases fQ; rw [hk] at fP; cases fP
 | str fQ fP=>rw [hi] at fQ; cases fQ; rw [hk] at fP; cases fP
 | slice fQ fP=>rw [hi] at fQ; cases fQ; rw [hk] at fP; cases fP
 | struct fQ fP ds h=>rw [hi] at fQ; cases fQ; rw [hk] at fP; cases fP; exact h
theorem xt.cons_inv {t:Nat} {ts:List Nat} {ds:List D} (h:xt T (t :: ts) ds):∃ p r,ds=p++r∧dr T t p∧xt T ts r:=by
 cases h with
 | cons p r h hs=>exact ⟨p,r,rfl,h,hs⟩
theorem xt.gq {ds:List D} (h:xt T [] ds):ds=[]:=by cases h; rfl
end
section
open Go Go.ChangeShapes Go.WideShapes Go.ChangeAt Go.RowKit
def aO (l l':List D):Prop:=l.length=l'.length∧∀ j,j < l.length→qg (l.getD j default) (l'.getD j default)
theorem aO.refl (l:List D):aO l l:=⟨rfl,fun _ _=>qg.rfl'⟩
theorem aO.nil:aO [] []:=.refl _
theorem aO.one {d d':D} (h:qg d d'):aO [d] [d']:=⟨rfl,fun j hj=>by
 have:j=0:=by simpa using hj
 subst this
 simpa using h⟩
theorem aO.append {p p' r r':List D} (h1:aO p p') (h2:aO r r'):aO (p++r) (p'++r'):=by
 refine ⟨by simp [h1.1,h2.1],fun j hj=>?_⟩
 by_cases h:j < p.length
 ·have h':j < p'.length:=by rw [← h1.1]; exact h
  simpa [List.getD,List.getElem?_append_left h,List.getElem?_append_left h'] using h1.2 j h
 ·have hh:p.length≤j:=Nat.le_of_not_lt h
  have h':p'.length≤j:=by rw [← h1.1]; exact hh
  have:=h2.2 (j - p.length) (by simp at hj; omega)
  rw [List.getD,List.getD,List.getElem?_append_right hh,List.getElem?_append_right h',← h1.1]
  exact this
theorem aO.cons {d d':D} {r r':List D} (h1:qg d d') (h2:aO r r'):aO ([d]++r) (d' :: r'):=aO.append (aO.one h1) h2
theorem aO.agg {l l':List D} (h:aO l l'):qg (.agg l) (.agg l'):=qg.agg h.1 h.2
theorem qg.Xm {n:Nat} {f g:Nat→List D} (h:∀ i,i < n→aO (f i) (g i)):qg (.sl n f) (.sl n g):=by
 intro w S x hr
 cases hr with
 | nil=>exact .nil g
 | sl _ _ a cap k dp hc hm hs hk bX hh =>
  exact .sl n g a cap k dp hc hm hs (fun i hi=>by rw [← (h i hi).1]; exact hk i hi) bX (fun i j hi hj=>(h i hi).2 j (by rw [hk i hi]; exact hj) w S _ (hh i j hi hj))
theorem iV {T:List (Nat × TI)} {α:Type} [Inhabited α] (cells:α→List D) (ok:α→Prop) {e:Nat} (hof:∀ ds,dr T e ds→∃ c,aO ds (cells c)∧ok c) {n:Nat} {f:Nat→List D} (h:∀ j,j < n→dr T e (f j)) :
  ∃ l:List α,qg (.sl n f) (mS cells l)∧l.length=n∧∀ x,x∈l→ok x:=by
 classical
 let g:Nat→α:=fun j=>if hj:j < n then (hof _ (h j hj)).choose else default
 have hg:∀ j,j < n→aO (f j) (cells (g j))∧ok (g j):=fun j hj=>by
  simp only [g,hj,dif_pos]
  exact (hof _ (h j hj)).choose_spec
 refine ⟨(List.range n).map g,?_,by simp,fun x hx=>?_⟩
 ·have e:mS cells ((List.range n).map g)=.sl n fun i=>cells (((List.range n).map g).getD i default):=by simp [mS]
  rw [e]
  refine qg.Xm fun i hi=>?_
  have:((List.range n).map g).getD i default=g i:=by simp [List.getD,hi]
  rw [this]
  exact (hg i hi).1
 ·simp only [List.mem_map,List.mem_range] at hx
  obtain ⟨j,hj,rfl⟩:=hx
  exact (hg j hj).2
def cQ (n:Int):Prop:=-9223372036854775808≤n∧n≤9223372036854775807
theorem Q3 {n:Int} (h:(Lit.int .i64 n).wf=true):cQ n:=by
 simpa [Lit.wf,IntKind.min,IntKind.max,cQ,IntKind.bits,IntKind.signed] using h
def Uh (T:List (Nat × TI)) (t:Nat) (ds:List D):AV :=
 match look T t with
 | some i=>(match i.kind with | .struct _=>.d (.agg ds) | _=>.d (ds.getD 0 default))
 | none=>.any
def vn (T:List (Nat × TI)):List Nat→List (List D)→List AV
 | t :: ts,d :: ds=>Uh T t d :: vn T ts ds
 | _,_=>[]
def K4 (T:List (Nat × TI)):List Nat→List (List D)→Prop
 | [],[]=>True
 | t :: ts,d :: ds=>dr T t d∧K4 T ts ds
 | _,_=>False
section
variable {H : Type} {enc : TypeId × Value → H} {P : Program} {W : World} {T : List (Nat × TI)}
theorem Wh (hT:mP P T) {cl:List Nat} (AU:Bj T cl=true) {t:Nat} (hm:t∈cl) {v:Value} {d:DataW H} {ps:List MemPlace} {base:Nat} (hv:Value.okWide P W .any base t v) (h:DataW.Trod enc P W 0 (fun _=>true) true t v d ps) :
  ∃ ds,dr T t ds∧∀ μ ν,Rel W (fun b=>b < W.heap.size) μ ν (Uh T t ds) v:=by
 obtain ⟨fuel,h⟩:=h
 obtain ⟨ds,h1,h2⟩:=Gl hT AU _ t _ _ hm h
 have hp:=List.all_eq_true.1 AU t hm
 refine ⟨ds,h1,fun μ ν=>?_⟩
 ·simp only [PA] at hp
  split at hp
  ·rename_i i hi
   obtain ⟨tj,z,F⟩:=aH (hT _ _ hi)
   have hk:=F.kind
   have one:∀ v',v=v'→v'.cells = #[v']→Rd W (fun b=>b < W.heap.size) (ds.getD 0 default) v:=by
    rintro v' rfl hc
    rw [hc] at h2
    have:=h2.2 0 (by rw [h2.1]; simp)
    simpa using this
   simp only [Uh,hi]
   split at hp
   ·rename_i k jR
    rw [jR] at hk ⊢
    simp only [dq] at hk
    split at hk
    ·rename_i hu
     have:=of_decide_eq_true hk
     subst this
     obtain ⟨n,rfl⟩:=okWide_int hu hv
     exact .d (one _ rfl rfl)
    ·cases hk
   ·rename_i jR
    rw [jR] at hk ⊢
    simp only [dq] at hk
    split at hk
    ·rename_i hu
     obtain ⟨n,rfl⟩:=okWide_bool hu hv
     exact .d (one _ rfl rfl)
    ·cases hk
   ·rename_i jR
    rw [jR] at hk ⊢
    simp only [dq] at hk
    split at hk
    ·rename_i hu
     obtain ⟨n,rfl⟩:=okWide_string hu hv
     exact .d (one _ rfl rfl)
    ·cases hk
   ·rename_i e jR
    rw [jR] at hk ⊢
    simp only [dq] at hk
    split at hk
    ·rename_i hu
     obtain ⟨a,n,c,rfl⟩:=okWide_slice hu hv
     exact .d (one _ rfl rfl)
    ·cases hk
   ·rename_i fs jR
    rw [jR] at hk ⊢
    simp only [dq] at hk
    split at hk
    ·rename_i gs hu
     obtain ⟨cs,rfl,_⟩:=okWide_struct hu hv
     refine .d (.agg ds cs ?_ (fun j hj=>?_))
     ·have:=h2.1
      simp only [Value.cells,Array.length_toList] at this
      exact this.symm
     ·have:=h2.2 j hj
      simp only [Value.cells] at this
      simpa [List.getD,Array.getD_eq_getD_getElem?] using this
    ·cases hk
   ·cases hp
  ·cases hp
theorem Na (hT:mP P T) {cl:List Nat} (AU:Bj T cl=true) {base:Nat}:∀ {ts:List Nat} {vs:List Value} {ds:List (DataW H)} {ps:List MemPlace},(ts.all fun t=>cl.any fun q=>Nat.beq q t)=true→(∀ (j:Nat) t v,ts[j]? = some t→vs[j]? = some v→Value.okWide P W .any base t v) →
  DataW.TrodAll enc P W 0 (fun _=>true) true ts vs ds ps→∃ O1,K4 T ts O1∧∀ μ ν,dG W (fun b=>b < W.heap.size) μ ν (vn T ts O1) vs
 | [],[],[],_,_,_,_=>⟨[],trivial,fun _ _=>⟨rfl,fun i hi=>absurd hi (by simp [vn])⟩⟩
 | t :: ts,v :: vs,d :: ds,ps,hp,hv,h=>by
  obtain ⟨p,q,h1,h2,rfl⟩:=h
  simp only [List.all_cons,Bool.and_eq_true] at hp
  obtain ⟨d1,x1,x2⟩:=Wh hT AU (K3 hp.1) (hv 0 t v rfl rfl) h1
  obtain ⟨O1,y1,y2⟩:=Na hT AU hp.2 (fun j t v a b=>hv (j+1) t v (by simpa using a) (by simpa using b)) h2
  refine ⟨d1 :: O1,⟨x1,y1⟩,fun μ ν=>?_⟩
  have:=y2 μ ν
  refine ⟨by simp [vn,this.1],fun i hi=>?_⟩
  cases i with
  | zero=>simpa [vn] using x2 μ ν
  | succ i=>simpa [vn] using this.2 i (by simpa [vn] using hi)
 | [],_ :: _,_,_,_,_,h=>h.elim
 | [],[],_ :: _,_,_,_,h=>h.elim
 | _ :: _,[],_,_,_,_,h=>h.elim
 | _ :: _,_ :: _,[],_,_,_,h=>h.elim
theorem zw (hl:laidOutB P=true) {W':World} (hb:Below W.heap.size W W'):∀ {ts:List Nat} {vs:List Value} {ds:List (DataW H)} {ps:List MemPlace},ts.all (fun t=>P.readableRec t&&Nat.ble (t+1) P.types.size)=true →
  (∀ p∈ps,p.block < W.heap.size)→DataW.TrodAll enc P W 0 (fun _=>true) true ts vs ds ps→DataW.TrodAll enc P W' 0 (fun b=>decide (b < W.heap.size)) true ts vs ds ps
 | [],[],[],_,_,_,h=>h
 | t :: ts,v :: vs,d :: ds,ps,hp,iR,h=>by
  obtain ⟨p,q,h1,h2,rfl⟩:=h
  simp only [List.all_cons,Bool.and_eq_true] at hp
  exact ⟨p,q,Below.trod hl hp.1.1 (Nat.le_of_ble_eq_true hp.1.2) h1 hb (fun x hx=>iR x (List.mem_append_left _ hx)),zw hl hb hp.2 (fun x hx=>iR x (List.mem_append_right _ hx)) h2,rfl⟩
 | [],_ :: _,_,_,_,_,h=>h.elim
 | [],[],_ :: _,_,_,_,h=>h.elim
 | _ :: _,[],_,_,_,_,h=>h.elim
 | _ :: _,_ :: _,[],_,_,_,h=>h.elim
theorem Sq (hT:mP P T) (hl:laidOutB P=true) {f:FuncId} {fn:Func} {s:ChangeSpec} {tb base:Nat} {cl:List Nat} {args:Array Value} {ds gs:List (DataW H)} {before:List MemPlace}
  (AU:Bj T cl=true) (Yv:(fn.params.toList.all fun t=>cl.any fun q=>Nat.beq q t)=true) (aaF:fn.params.toList.all (fun t=>P.readableRec t&&Nat.ble (t+1) P.types.size)=true) (TB:fn.resultTypes = #[tb]) (hb:P.underlying tb=some .bool) (Xn:s.vars=[])
  (Ui:∀ (j:Nat) t v,fn.params[j]? = some t→args[j]? = some v→Value.okWide P W .any base t v)
  (hW:DataW.Whole enc P fn.params.toList s.vars false W args.toList ds gs before)
  (VT:iZ W fun b=>b < W.heap.size) (hs:(s.fn H (ds++gs)).results=[.lit (.bool true)]∧(s.fn H (ds++gs)).args=ds∧(s.fn H (ds++gs)).vars=[])
  (Yw:∀ O1,K4 T fn.params.toList O1→iU P f (vn T fn.params.toList O1) [] (.d (.v (.bool true))) []) :
  Calls P f args W fun e W'=>∃ v,e=.returned v∧s.post enc P fn false true false false W args v W':=by
 have iR:=hW.lt
 obtain ⟨p,q,hA,hV,hpq,hz,hn⟩:=id hW
 rw [Xn] at hV
 have hg:gs=[]∧q=[]:=by
  cases gs with
  | nil=>exact ⟨rfl,hV⟩
  | cons _ _=>exact hV.elim
 obtain ⟨O1,h1,h2⟩:=Na hT AU (base:=base) Yv (fun j t v a b=>Ui j t v (by simpa using a) (by simpa using b)) hA
 have hf:=Yw O1 h1
 refine Calls.mono (hf.2 W (fun b=>b < W.heap.size) (fun _=>none) args (fun _ h=>h) VT (fun ν=>h2 _ ν) (fun κ b hb=>by simp [look] at hb) (fun κ κ' b b' g c c' hb=>by simp [look] at hb)) ?_
 rintro e W' ⟨v,S',μ',rfl,B⟩
 have hv:v=.bool true:=nd (B.res fun _=>false)
 subst hv
 have zV:Below W.heap.size W W':=⟨B.kept.os,B.kept.tape,B.kept.output,B.kept.size,fun k hk=>B.kept.block k hk (fun ⟨κ,b,c,q,_⟩=>by simp [look] at q)⟩
 refine ⟨_,rfl,ds,gs,before,[],p,[],hW,?_,?_,?_,zV.frame _,fun h=>by cases h⟩
 ·rw [TB,hs.1]
  exact trodAll_mk1 (shut_bool hb true)
 ·rw [hs.2.1]
  exact zw hl zV aaF (fun x hx=>iR x (by rw [hpq]; exact List.mem_append_left _ hx)) hA
 ·rw [hs.2.2,Xn]
  exact rfl
end
end
inductive CT:Type 1 where
 | nil
 | bad
 | bb (a b:Bool)
 | nn (a b:Nat)
 | zz (a b:Int)
 | dd (a b:D)
 | ll (a b:List D)
 | vv (a b:AV)
 | ff (f g:Nat→List D)
 | mm (f g:Nat→Value × D)
 | ss (a b:List Nat)
 | po (a b:Option Prop)
 | td (a b:List Item)
 | qq (a b:List (Int × Int)→Prop)
 | two (a b:CT)
 | pi {β:Type} (f:β→CT)
def CT.ok:CT→Prop
 | .nil=>True
 | .bad=>False
 | .bb a b=>a=b
 | .nn a b=>a=b
 | .zz a b=>a=b
 | .dd a b=>a=b
 | .ll a b=>a=b
 | .vv a b=>a=b
 | .ff f g=>f=g
 | .mm f g=>f=g
 | .ss a b=>a=b
 | .po a b=>a=b
 | .td a b=>a=b
 | .qq a b=>a=b
 | .two a b=>a.ok∧b.ok
 | .pi f=>∀ b,(f b).ok
def CT.diag:CT→CT
 | .nil=>.nil
 | .bad=>.nil
 | .bb _ b=>.bb b b
 | .nn _ b=>.nn b b
 | .zz _ b=>.zz b b
 | .dd _ b=>.dd b b
 | .ll _ b=>.ll b b
 | .vv _ b=>.vv b b
 | .ff _ g=>.ff g g
 | .mm _ g=>.mm g g
 | .ss _ b=>.ss b b
 | .po _ b=>.po b b
 | .td _ b=>.td b b
 | .qq _ b=>.qq b b
 | .two a b=>.two a.diag b.diag
 | .pi f=>.pi fun b=>(f b).diag
theorem CT.DX:∀ {t:CT},t=t.diag→t.ok
 | .nil,_=>trivial
 | .bad,h=>by cases h
 | .bb a b,h=>by simpa [CT.diag,CT.ok] using h
 | .nn a b,h=>by simpa [CT.diag,CT.ok] using h
 | .zz a b,h=>by simpa [CT.diag,CT.ok] using h
 | .dd a b,h=>by simpa [CT.diag,CT.ok] using h
 | .ll a b,h=>by simpa [CT.diag,CT.ok] using h
 | .vv a b,h=>by simpa [CT.diag,CT.ok] using h
 | .ff a b,h=>by simpa [CT.diag,CT.ok] using h
 | .mm a b,h=>by simpa [CT.diag,CT.ok] using h
 | .ss a b,h=>by simpa [CT.diag,CT.ok] using h
 | .po a b,h=>by simp only [CT.diag,CT.po.injEq] at h; exact h.1
 | .td a b,h=>by simpa [CT.diag,CT.ok] using h
 | .qq a b,h=>by simpa [CT.diag,CT.ok] using h
 | .two a b,h=>by
  simp only [CT.diag,CT.two.injEq] at h
  exact ⟨CT.DX h.1,CT.DX h.2⟩
 | .pi f,h=>by
  simp only [CT.diag] at h
  have h1:f=fun b=>(f b).diag:=by injection h
  exact fun b=>CT.DX (congrFun h1 b)
def Ob.eqs:Ob→CT
 | .tt=>.nil
 | .pr _=>.nil
 | .be a b=>.bb a b
 | .ne a b=>.nn a b
 | .ze a b=>.zz a b
 | .fe f g=>.ff f g
 | .me f g=>.mm f g
 | .ve a b=>.vv a b
 | .two a b=>.two a.eqs b.eqs
 | .wh _ _ a=>a.eqs
def CM:Option Prop→Option Prop→Option Prop
 | none,x=>x
 | x,none=>x
 | some p,some q=>some (p∧q)
def Ob.prop:Ob→Option Prop
 | .pr p=>some p
 | .two a b=>CM a.prop b.prop
 | .wh e w a=>(match a.prop with | none=>none | some p=>some (e=w→p))
 | _=>none
theorem Q4 {x y:Option Prop} (h:∀ p,CM x y=some p→p):(∀ p,x=some p→p)∧∀ p,y=some p→p:=by
 cases x with
 | none=>exact ⟨fun p hp=>(by cases hp),fun p hp=>h p (by simpa [CM] using hp)⟩
 | some a =>
  cases y with
  | none=>exact ⟨fun p hp=>h p (by simpa [CM] using hp),fun p hp=>(by cases hp)⟩
  | some b =>
   have:=h (a∧b) rfl
   exact ⟨fun p hp=>(by cases hp; exact this.1),fun p hp=>(by cases hp; exact this.2)⟩
theorem Ob.Gm:∀ {ob:Ob},ob.eqs.ok→(∀ p,ob.prop=some p→p)→ob.den
 | .tt,_,_=>trivial
 | .pr p,_,h=>h p rfl
 | .be _ _,h,_=>h
 | .ne _ _,h,_=>h
 | .ze _ _,h,_=>h
 | .fe _ _,h,_=>h
 | .me _ _,h,_=>h
 | .ve _ _,h,_=>h
 | .two a b,h,hp=>⟨Ob.Gm h.1 (Q4 hp).1,Ob.Gm h.2 (Q4 hp).2⟩
 | .wh e w a,h,hp=>fun he=>Ob.Gm h (fun p hq=>hp (e=w→p) (by simp [Ob.prop,hq]) he)
def zW (ob:Ob):CT:=match ob.prop with | none=>ob.eqs | some _=>.bad
theorem rL {ob:Ob} (h:(zW ob).ok):ob.den:=by
 unfold zW at h
 split at h
 ·rename_i hn
  exact Ob.Gm h (fun p hp=>by rw [hn] at hp; cases hp)
 ·exact h.elim
def cEq:D→D→CT
 | .v (.slice none 0 0),.sl n _=>.nn n 0
 | x,y=>.dd x y
def PB:List D→List D→CT
 | [],[]=>.nil
 | c :: cs,d :: ds=>.two (cEq c d) (PB cs ds)
 | _,_=>.bad
def dEq:D→D→CT
 | .agg cs,.agg ds=>PB cs ds
 | x,y=>cEq x y
theorem Uj {x y:D} (h:(cEq x y).ok):qg x y:=by
 unfold cEq at h
 split at h
 ·have h:_=0:=h
  subst h
  exact qg.nil _
 ·exact qg.of_eq h
theorem Bk:∀ {cs ds:List D},(PB cs ds).ok→cs.length=ds.length∧∀ i,i < cs.length→qg (cs.getD i default) (ds.getD i default)
 | [],[],_=>⟨rfl,fun i hi=>absurd hi (by simp)⟩
 | c :: cs,d :: ds,h=>by
  obtain ⟨h1,h2⟩:=Bk h.2
  refine ⟨by simp [h1],fun i hi=>?_⟩
  cases i with
  | zero=>simpa using Uj h.1
  | succ i=>simpa using h2 i (by simpa using hi)
 | [],_ :: _,h=>h.elim
 | _ :: _,[],h=>h.elim
theorem Yx {x y:D} (h:(dEq x y).ok):qg x y:=by
 unfold dEq at h
 split at h
 ·exact qg.agg (Bk h).1 (Bk h).2
 ·exact Uj h
mutual
def PC (ρ:Ren):AV→AV→CT
 | _,.any=>.nil
 | .d x,.d y=>dEq x y
 | .own κ n,.own κ' n'=>.two (.bb (pH ρ κ' κ) true) (.nn n n')
 | .d (.v (.slice none 0 0)),.own κ' n'=>.two (.bb (M4 ρ κ') true) (.nn n' 0)
 | .ptr κ o,.ptr κ' o'=>.bb (pH ρ κ' κ&&Nat.beq o o') true
 | .ref cs,.ref zT=>.ll cs zT
 | .fn f l,.fn f' l'=>.two (.bb (Nat.beq f f') true) (Bl ρ l l')
 | .ef l,.ef l'=>Bl ρ l l'
 | .ag l,.ag l'=>Bl ρ l l'
 | .uh κ,.uh κ'=>.bb (pH ρ κ' κ) true
 | .yo n f,.yo n' f'=>.two (.nn n n') (.mm f f')
 | .wu n f,.wu n' f'=>.two (.nn n n') (.ff f f')
 | .wu n f,.d (.sl n' f')=>.two (.nn n n') (.ff f f')
 | .u7 κ k i o,.u7 κ' k' i' o'=>.two (.bb (pH ρ κ' κ&&Nat.beq k k'&&Nat.beq o o') true) (.nn i i')
 | _,_=>.bad
def Bl (ρ:Ren):List AV→List AV→CT
 | [],[]=>.nil
 | x :: r,y :: s=>.two (PC ρ x y) (Bl ρ r s)
 | _,_=>.bad
end
def Yy (ρ:Ren):bK→bK→CT
 | .box cs,.box zT=>Bl ρ cs zT
 | .row e k n f,.row e' k' n' f'=>.two (.bb (Nat.beq e e'&&Nat.beq k k') true) (.two (.nn n n') (.ff f f'))
 | .mp n f,.mp n' f'=>.two (.nn n n') (.mm f f')
 | .it mk n s,.it mk' n' s'=>.two (.bb (pH ρ mk' mk) true) (.two (.nn n n') (.ss s s'))
 | .mx q,.mx q'=>.qq q q'
 | _,_=>.bad
def Wi (ρ:Ren) (sl:List (Nat × AV)):List (Nat × AV)→CT
 | []=>.nil
 | (t,x) :: r=>.two (PC ρ (St.get sl t) x) (Wi ρ sl r)
def PD (ρ:Ren) (lb:List (Nat × bK)):List (Nat × bK)→CT
 | []=>.nil
 | (κ,b) :: r=>(match look ρ κ with
  | some (some o)=>(match look lb o with | some c=>.two (Yy ρ c b) (PD ρ lb r) | none=>.bad)
  | some none=>(match b with | .row _ _ n _=>.two (.nn n 0) (PD ρ lb r) | _=>.bad)
  | none=>.bad)
mutual
theorem Bm {ρ:Ren}:∀ (x y:AV),(PC ρ x y).ok→∃ p,pI ρ x y=some p∧p
 | x,y,h=>by
  unfold PC at h
  split at h
  ·exact ⟨True,by unfold pI; rfl,trivial⟩
  ·exact ⟨_,by unfold pI; rfl,Yx h⟩
  ·obtain ⟨h1,h2⟩:=h
   have h1:pH ρ _ _=true:=h1
   exact ⟨_,by unfold pI; rw [h1]; rfl,h2⟩
  ·obtain ⟨h1,h2⟩:=h
   have h1:M4 ρ _=true:=h1
   exact ⟨_=0,by simp [pI,h1],h2⟩
  ·have h:(pH ρ _ _&&Nat.beq _ _)=true:=h
   exact ⟨True,by unfold pI; rw [h]; rfl,trivial⟩
  ·exact ⟨_,by unfold pI; rfl,h⟩
  ·rename_i f l f' l'
   obtain ⟨h1,h2⟩:=h
   have h1:Nat.beq f f'=true:=h1
   obtain ⟨p,hp,hq⟩:=xu l l' h2
   exact ⟨p,by unfold pI; rw [h1]; exact hp,hq⟩
  ·rename_i l l'
   obtain ⟨p,hp,hq⟩:=xu l l' h
   exact ⟨p,by unfold pI; exact hp,hq⟩
  ·rename_i l l'
   obtain ⟨p,hp,hq⟩:=xu l l' h
   exact ⟨p,by unfold pI; exact hp,hq⟩
  ·have h:pH ρ _ _=true:=h
   exact ⟨True,by unfold pI; rw [h]; rfl,trivial⟩
  ·rename_i n f n' f'
   exact ⟨n=n'∧f=f',by unfold pI; rfl,h.1,h.2⟩
  ·rename_i n f n' f'
   exact ⟨n=n'∧f=f',by unfold pI; rfl,h.1,h.2⟩
  ·rename_i n f n' f'
   exact ⟨n=n'∧f=f',by unfold pI; rfl,h.1,h.2⟩
  ·rename_i κ k i o κ' k' i' o'
   obtain ⟨h1,h2⟩:=h
   have h1:(pH ρ κ' κ&&Nat.beq k k'&&Nat.beq o o')=true:=h1
   exact ⟨i=i',by unfold pI; rw [h1]; rfl,h2⟩
  ·exact h.elim
theorem xu {ρ:Ren}:∀ (x y:List AV),(Bl ρ x y).ok→∃ p,uy ρ x y=some p∧p
 | [],[],_=>⟨True,by unfold uy; rfl,trivial⟩
 | x :: r,y :: s,h=>by
  unfold Bl at h
  obtain ⟨p,h1,h2⟩:=Bm x y h.1
  obtain ⟨q,h3,h4⟩:=xu r s h.2
  exact ⟨p∧q,by unfold uy; rw [h1,h3],h2,h4⟩
 | [],_ :: _,h=>by unfold Bl at h; exact h.elim
 | _ :: _,[],h=>by unfold Bl at h; exact h.elim
end
theorem Wj {ρ:Ren} {b c:bK} (h:(Yy ρ b c).ok):∃ p,lh ρ b c=some p∧p:=by
 unfold Yy at h
 split at h
 ·rename_i cs zT
  obtain ⟨p,h1,h2⟩:=xu cs zT h
  exact ⟨p,h1,h2⟩
 ·rename_i e k n f e' k' n' f'
  obtain ⟨h1,h2,h3⟩:=h
  have h1:(Nat.beq e e'&&Nat.beq k k')=true:=h1
  have h3:f=f':=h3
  exact ⟨n=n'∧∀ i,i < n→f i=f' i,by unfold lh; dsimp only; rw [h1]; rfl,h2,fun i _=>by rw [h3]⟩
 ·rename_i n f n' f'
  exact ⟨n=n'∧f=f',rfl,h.1,h.2⟩
 ·rename_i mk n s mk' n' s'
  obtain ⟨h1,h2,h3⟩:=h
  have h1:pH ρ mk' mk=true:=h1
  exact ⟨n=n'∧s=s',by unfold lh; dsimp only; rw [h1]; rfl,h2,h3⟩
 ·rename_i q q'
  exact ⟨q=q',rfl,h⟩
 ·exact h.elim
theorem K5 {ρ:Ren} {sl:List (Nat × AV)}:∀ {l:List (Nat × AV)},(Wi ρ sl l).ok→∃ p,Gf ρ sl l=some p∧p
 | [],_=>⟨True,rfl,trivial⟩
 | (t,x) :: r,h=>by
  obtain ⟨p,h1,h2⟩:=Bm _ _ h.1
  obtain ⟨q,h3,h4⟩:=K5 h.2
  exact ⟨p∧q,by unfold Gf; rw [h1,h3],h2,h4⟩
theorem Bn {ρ:Ren} {lb:List (Nat × bK)}:∀ {l:List (Nat × bK)},(PD ρ lb l).ok→∃ p,Eo ρ lb l=some p∧p
 | [],_=>⟨True,rfl,trivial⟩
 | (κ,b) :: r,h=>by
  unfold PD at h
  split at h
  ·rename_i o ho
   split at h
   ·rename_i c hc
    obtain ⟨p,h1,h2⟩:=Wj h.1
    obtain ⟨q,h3,h4⟩:=Bn h.2
    exact ⟨p∧q,by unfold Eo; rw [ho,h3]; simp only [hc,h1],h2,h4⟩
   ·exact h.elim
  ·rename_i ho
   split at h
   ·obtain ⟨q,h3,h4⟩:=Bn h.2
    exact ⟨_∧q,by unfold Eo; rw [ho,h3]; rfl,h.1,h4⟩
   ·exact h.elim
  ·exact h.elim
def CN (κ:Nat) (o:Option Nat) (ρ:Ren):Ren:=match look ρ κ with | some _=>ρ | none=>(κ,o) :: ρ
mutual
def J4:AV→AV→Ren→Ren
 | .own κ _,.own κ' _,ρ=>CN κ' (some κ) ρ
 | .d _,.own κ' _,ρ=>CN κ' none ρ
 | .ptr κ _,.ptr κ' _,ρ=>CN κ' (some κ) ρ
 | .uh κ,.uh κ',ρ=>CN κ' (some κ) ρ
 | .u7 κ _ _ _,.u7 κ' _ _ _,ρ=>CN κ' (some κ) ρ
 | .fn _ l,.fn _ l',ρ=>Gn l l' ρ
 | .ef l,.ef l',ρ=>Gn l l' ρ
 | .ag l,.ag l',ρ=>Gn l l' ρ
 | _,_,ρ=>ρ
def Gn:List AV→List AV→Ren→Ren
 | x :: r,y :: s,ρ=>Gn r s (J4 x y ρ)
 | _,_,ρ=>ρ
end
def Uk (sl:List (Nat × AV)):List (Nat × AV)→Ren→Ren
 | [],ρ=>ρ
 | (t,x) :: r,ρ=>Uk sl r (J4 (St.get sl t) x ρ)
def Gp (lb:List (Nat × bK)):List (Nat × bK)→Ren→Ren
 | [],ρ=>ρ
 | (κ,b) :: r,ρ=>Gp lb r (match look ρ κ with
  | some (some o)=>(match look lb o,b with | some (.box cs),.box zT=>Gn cs zT ρ | some (.it m _ _),.it m' _ _=>CN m' (some m) ρ | _,_=>ρ)
  | _=>ρ)
def Ul (st st':St):Ren:=Gp st.lb st'.lb (Gp st.lb st'.lb (Uk st.sl st'.sl []))
def PE (st st':St):CT:=.two (.bb (Bh (Ul st st')) true) (.two (Wi (Ul st st') st.sl st'.sl) (PD (Ul st st') st.lb st'.lb))
theorem yB {st st':St} (h:(PE st st').ok):M3 st st':=by
 obtain ⟨h1,h2,h3⟩:=h
 obtain ⟨p,q1,q2⟩:=K5 h2
 obtain ⟨p',q3,q4⟩:=Bn h3
 exact M3.of _ h1 q1 q2 q3 q4
def Yz (t:Nat):Nat:=Nat.shiftLeft 1 t
def Gq:Operand→Nat
 | .tmp t=>Yz t
 | _=>0
def J5:List Operand→Nat
 | []=>0
 | x :: r=>Nat.lor (Gq x) (J5 r)
def Um:List Oper→Nat
 | []=>0
 | o :: r=>Nat.lor (J5 o.op.operands.toList) (Um r)
def zx:Code→Nat
 | .region _ ops _=>Um ops.toList
 | .seq a b=>Nat.lor (zx a) (zx b)
 | .cond c a b=>Nat.lor (Gq c) (Nat.lor (zx a) (zx b))
 | .block _ c=>zx c
 | .loop c=>zx c
 | .rangeFunc f _ a b=>Nat.lor (Gq f) (Nat.lor (zx a) (zx b))
 | _=>0
def jS:List Item→Nat
 | []=>0
 | .code c :: r=>Nat.lor (zx c) (jS r)
 | .inLoop c :: r=>Nat.lor (zx c) (jS r)
 | _ :: r=>jS r
def Bo:List ResultVar→Nat
 | []=>0
 | .tmp t :: r=>Nat.lor (Yz t) (Bo r)
 | .cell t _ :: r=>Nat.lor (Yz t) (Bo r)
def Gr (m t:Nat):Bool:=Nat.beq (Nat.land (Nat.shiftRight m t) 1) 1
def qA (m:Nat):List (Nat × AV)→List (Nat × AV)
 | []=>[]
 | (t,x) :: r=>bif Gr m t then (t,x) :: qA m r else qA m r
theorem Gs (m:Nat):∀ (l:List (Nat × AV)) (t:Nat),look (qA m l) t=bif Gr m t then look l t else none
 | [],t=>by cases Gr m t <;> rfl
 | (k,x) :: r,t=>by
  have ih:=Gs m r t
  simp only [qA]
  cases hk:Gr m k with
  | true =>
   simp only [cond_true,cg]
   by_cases e:k=t
   ·subst e; simp [hk]
   ·simp only [e,if_false]; exact ih
  | false =>
   simp only [cond_false,cg]
   by_cases e:k=t
   ·subst e; rw [ih,hk]; rfl
   ·simp only [e,if_false]; exact ih
def St.jf (m:Nat) (st:St):St:=⟨qA m st.sl,st.lb⟩
theorem M3.jf (m:Nat) (st:St):M3 st (st.jf m):=by
 rintro C a w ⟨S,μ,hs⟩
 refine ⟨S,μ,fun ν=>(hs ν).weaken (fun t v hv=>?_) (fun κ b hb=>⟨b,hb,fun _ h=>h⟩)⟩
 simp only [St.fZ,St.get,St.jf,Gs] at hv ⊢
 cases Gr m t with
 | true=>exact hv
 | false=>exact .any _
def K6 (lb:List (Nat × bK)):List Nat→List Nat
 | []=>[]
 | k :: r=>(match look lb k with | some b=>b.keys++K6 lb r | none=>K6 lb r)
def Un:List (Nat × AV)→List Nat
 | []=>[]
 | (_,x) :: r=>x.keys++Un r
def Gt (ks:List Nat):List (Nat × bK)→List (Nat × bK)
 | []=>[]
 | (k,b) :: r=>bif ks.any (fun q=>Nat.beq q k) then (k,b) :: Gt ks r else Gt ks r
structure Tg where
 sl:List (Nat × AV):=[]
 lb:List (Nat × bK):=[]
def St.AY (st:St) (m:Nat) (u:Tg):St :=
 let sl:=u.sl++qA m (bw (u.sl.map (·.1)) st.sl)
 let lb:=u.lb++bw (u.lb.map (·.1)) st.lb
 let k0:=Un sl
 let k1:=K6 lb k0
 let k2:=K6 lb k1
 ⟨sl,Gt (k0++k1++k2) lb⟩
structure bD (β:Type) where
 v:β
 kj:β→List zP
 sP:β→Option Prop
 pre:Prop
 pf:pre→∀ p,sP v=some p→p
 post:β→Prop
 hp:post v
def iter {α ι:Type} (f:ι→α ⊕ ι) (d:α):Nat→ι→α
 | 0,_=>d
 | n+1,i=>match f i with | .inl a=>a | .inr j=>iter f d n j
def dZ {α β:Type}:α ⊕ β→(β→α)→α
 | .inl a,_=>a
 | .inr b,f=>f b
def ni {α β:Type} (L:α→Prop) (J:β→Prop):α ⊕ β→Prop
 | .inl a=>L a
 | .inr b=>J b
def gd {α ι:Type} (L:α→Prop) (J:ι→Prop):α ⊕ ι→Prop
 | .inl a=>L a
 | .inr j=>J j
structure ItC (Y:Type) where
 P:Program
 gf:FuncId
 cR:List AV
 ys:List Y
 enc:Y→List AV
 pre:Prop
 pf:pre→Yg P gf cR (ys.map enc)
inductive Sk:Type→Type 1 where
 | fin {α:Type} (a:α):Sk α
 | br {α:Type} (e:Bool) (x y:Sk α):Sk α
 | r {α β:Type} (id:Nat) (c:bD β) (k:β→Sk α):Sk α
 | wi {α:Type} (t:Nat) (m n:Int) (k:Sk α):Sk α
 | wn {α:Type} (κ n n':Nat) (k:Sk α):Sk α
 | K7 {α:Type} (k:Sk α):Sk α
 | K8 {α:Type} (k:Sk α):Sk α
 | dead {α:Type} (a:α):Sk α
 | Ij {α:Type} (t j n:Nat) (k:Sk α):Sk α
 | Q5 {α:Type} (t:Nat) (c:Bool) (x y:AV) (k1 k2:Sk α):Sk α
 | O2 {α:Type} (t n:Nat) (k1 k2:Sk α):Sk α
 | fz {α:Type} (κ:Nat) (k:Sk α):Sk α
 | op {α:Type} (κ:Nat) (k:List (Int × Int)→Sk α):Sk α
 | cl {α:Type} (κ:Nat) (m:List (Int × Int)) (k:Sk α):Sk α
 | oq {α:Type} (κ:Nat) (q:List (Int × Int)→Prop) (k:List (Int × Int)→Sk α):Sk α
 | cq {α:Type} (κ:Nat) (m:List (Int × Int)) (q:List (Int × Int)→Prop) (k:Sk α):Sk α
 | K1 {α:Type} (id:Nat) (x:Int) (c:pE) (k:Sk α):Sk α
 | mr {α γ:Type} (n:Nat) (V:γ→Prop) (init:γ) (u:γ→List Nat→Tg) (v:γ→Tg) (b:γ→Nat→Sk γ) (k:γ→Sk α):Sk α
 | bind {α β:Type} (blk:Bool) (J:β→Prop) (s:Sk (α ⊕ β)) (u:β→Tg) (k:β→Sk α):Sk α
 | loop {α ι:Type} (d:α) (I:ι→Prop) (m:ι→Nat) (i0:ι) (u:ι→Tg) (b:ι→Sk (α ⊕ ι)):Sk α
 | rf {α σ β Y:Type} (it:ItC Y) (I:Nat→σ→Prop) (B:β→Prop) (id:Nat) (s0:σ) (u:σ→List (Nat × bK)) (v:β→List (Nat × bK)) (b:σ→Y→Sk (β ⊕ σ)) (k:β ⊕ σ→Sk α):Sk α
abbrev Sk.bt {α β:Type} (s:Sk (α ⊕ β)) (u:β→Tg) (k:β→Sk α):Sk α:=.bind true (fun _=>True) s u k
abbrev Sk.lt {α:Type} (t j i n:Nat) (x y:Sk α):Sk α:=.Ij t j n (.br (decide ((i:Int) < (n:Int))) x y)
noncomputable def canon (q:List (Int × Int)→Prop):List (Int × Int):=open Classical in if h:∃ m,q m then h.choose else []
theorem PF {q:List (Int × Int)→Prop} (h:∃ m,q m):q (canon q):=by
 unfold canon
 rw [dif_pos h]
 exact h.choose_spec
abbrev mxT:List (Int × Int)→Prop:=fun _=>True
noncomputable def Sk.val:{α:Type}→Sk α→α
 | _,.fin a=>a
 | _,.br e x y=>bif e then x.val else y.val
 | _,.r _ c k=>(k c.v).val
 | _,.wi _ _ _ k=>k.val
 | _,.wn _ _ _ k=>k.val
 | _,.K7 k=>k.val
 | _,.K8 k=>k.val
 | _,.dead a=>a
 | _,.Ij _ _ _ k=>k.val
 | _,.Q5 _ c _ _ x y=>bif c then x.val else y.val
 | _,.O2 _ _ _ k=>k.val
 | _,.fz _ k=>k.val
 | _,.op _ k=>(k []).val
 | _,.cl _ _ k=>k.val
 | _,.oq _ q k=>(k (canon q)).val
 | _,.cq _ _ _ k=>k.val
 | _,.K1 _ _ _ k=>k.val
 | _,.mr n _ init _ _ b k=>(k ((List.range n).foldr (fun i g=>(b g i).val) init)).val
 | _,.bind _ _ s _ k=>dZ s.val fun b=>(k b).val
 | _,.loop d _ m i0 _ b=>iter (fun i=>(b i).val) d (m i0+1) i0
 | _,.rf it _ _ _ s0 _ _ b k=>(k (sD (fun s y=>(b s y).val) it.ys s0)).val
def Sk.dz:{α:Type}→Sk α→(α→Prop)→Prop
 | _,.fin a,L=>L a
 | _,.br e x y,L=>(e=true→x.dz L)∧(e=false→y.dz L)
 | _,.r _ c k,L=>∀ x,x=c.v→c.post x→(k x).dz L
 | _,.wi _ _ _ k,L=>k.dz L
 | _,.wn _ _ _ k,L=>k.dz L
 | _,.K7 k,L=>k.dz L
 | _,.K8 k,L=>k.dz L
 | _,.dead a,L=>L a
 | _,.Ij _ _ _ k,L=>k.dz L
 | _,.Q5 _ c _ _ x y,L=>(c=true→x.dz L)∧(c=false→y.dz L)
 | _,.O2 _ _ _ k,L=>k.dz L
 | _,.fz _ k,L=>k.dz L
 | _,.op _ k,L=>(k []).dz L
 | _,.cl _ _ k,L=>k.dz L
 | _,.oq _ q k,L=>(∃ m,q m)∧∀ m,q m→(k m).dz L
 | _,.cq _ _ _ k,L=>k.dz L
 | _,.K1 _ _ _ k,L=>k.dz L
 | _,.mr n V init _ _ b k,L=>V init∧(∀ g i,V g→i < n→(b g i).dz V)∧∀ g,g=(List.range n).foldr (fun i g=>(b g i).val) init→V g→(k g).dz L
 | _,.bind _ J s _ k,L=>s.dz (ni L J)∧∀ b,s.val=.inr b→J b→(k b).dz L
 | _,.loop _ I m i0 _ b,L=>I i0∧∀ i,I i→(b i).dz (gd L fun j=>I j∧m j < m i)
 | _,.rf it I B _ s0 _ _ b k,L=>I 0 s0∧(∀ i s y,I i s→it.ys[i]? = some y→(b s y).dz (gd B (I (i+1))))∧∀ r,r=sD (fun s y=>(b s y).val) it.ys s0→gd B (I it.ys.length) r→(k r).dz L
def Sk.bE:{α:Type}→Sk α→(α→Prop)→Prop
 | _,.fin a,L=>L a
 | _,.br e x y,L=>(e=true→x.bE L)∧(e=false→y.bE L)
 | _,.r _ c k,L=>c.pre∧∀ x,x=c.v→c.post x→(k x).bE L
 | _,.wi _ m n k,L=>m=n∧k.bE L
 | _,.wn _ n n' k,L=>n=n'∧k.bE L
 | _,.K7 k,L=>k.bE L
 | _,.K8 k,L=>k.bE L
 | _,.dead _,_=>False
 | _,.Ij _ _ n k,L=>n≤maxLen→k.bE L
 | _,.Q5 _ c _ _ x y,L=>(c=true→x.bE L)∧(c=false→y.bE L)
 | _,.O2 _ n k1 k2,L=>(n=0→k1.bE L∧k1.val=k2.val)∧k2.bE L
 | _,.fz _ k,L=>k.bE L
 | _,.op _ k,L=>∀ m,(k m).val=(k []).val∧(k m).bE L
 | _,.cl _ _ k,L=>k.bE L
 | _,.oq _ q k,L=>∀ m,q m→(k m).val=(k (canon q)).val∧(k m).bE L
 | _,.cq _ m q k,L=>q m∧k.bE L
 | _,.K1 _ x c k,L=>(0≤x∧x≤(c.n:Int))∧k.bE L
 | _,.mr n V init _ _ b k,L=>V init∧(∀ g i,V g→i < n→(b g i).dz V∧(b g i).bE fun _=>True)∧(∀ g i j,V g→i < n→j < n→i≠j→(b (b g j).val i).val=(b (b g i).val j).val)∧∀ g,g=(List.range n).foldr (fun i g=>(b g i).val) init→V g→(k g).bE L
 | _,.bind _ J s _ k,L=>s.bE (ni L J)∧∀ b,s.val=.inr b→J b→(k b).bE L
 | _,.loop _ I m i0 _ b,L=>I i0∧∀ i,I i→(b i).bE (gd L fun j=>I j∧m j < m i)
 | _,.rf it I B _ s0 _ _ b k,L=>it.pre∧I 0 s0∧(∀ i s y,I i s→it.ys[i]? = some y→(b s y).dz (gd B (I (i+1)))∧(b s y).bE (gd B (I (i+1))))∧∀ r,r=sD (fun s y=>(b s y).val) it.ys s0→gd B (I it.ys.length) r→(k r).bE L
theorem J6 {σ β Y:Type} {f:σ→Y→β ⊕ σ} {I:Nat→σ→Prop} {B:β→Prop} (l:List Y) (h:∀ i s y,I i s→l[i]? = some y→gd B (I (i+1)) (f s y)) (s:σ) (hs:I 0 s):gd B (I l.length) (sD f l s):=by
 have:=Gg (f:=f) (I:=I) (B:=B) l 0 (fun i s y hs hy=>by
  rw [Nat.zero_add] at hs ⊢
  have:=h i s y hs hy
  cases e:f s y <;> rw [e] at this <;> exact this) s hs
 rw [Nat.zero_add] at this
 cases e:sD f l s <;> rw [e] at this <;> exact this
theorem uA {γ:Type} {V:γ→Prop} {f:γ→Nat→γ} {n:Nat} (hf:∀ g i,V g→i < n→V (f g i)) {init:γ} (h0:V init):∀ (s:List Nat),(∀ i,i∈s→i < n)→V (s.foldr (fun i g=>f g i) init)
 | [],_=>h0
 | i :: s,h=>hf _ i (uA hf h0 s (fun j hj=>h j (List.mem_cons_of_mem _ hj))) (h i List.mem_cons_self)
theorem PG {γ:Type} {V:γ→Prop} {f:γ→Nat→γ} {n:Nat} (hf:∀ g i,V g→i < n→V (f g i)) (hc:∀ g i j,V g→i < n→j < n→i≠j→f (f g j) i=f (f g i) j) {init:γ} (h0:V init) {s t:List Nat} (h:s.Perm t) :
  (∀ i,i∈s→i < n)→s.foldr (fun i g=>f g i) init=t.foldr (fun i g=>f g i) init:=by
 induction h with
 | nil=>intro _; rfl
 | cons x _ ih=>intro hs; simp only [List.foldr_cons]; rw [ih (fun i hi=>hs i (List.mem_cons_of_mem _ hi))]
 | swap x y l =>
  intro hs
  simp only [List.foldr_cons]
  by_cases e:x=y
  ·rw [e]
  ·exact hc _ y x (uA hf h0 l (fun i hi=>hs i (by simp [hi]))) (hs y (by simp)) (hs x (by simp)) (fun e'=>e e'.symm)
 | trans h1 _ ih1 ih2=>intro hs; rw [ih1 hs,ih2 (fun i hi=>hs i (h1.mem_iff.2 hi))]
theorem CO {α ι:Type} {f:ι→α ⊕ ι} {d:α} {L:α→Prop} {I:ι→Prop} {m:ι→Nat} (h:∀ i,I i→gd L (fun j=>I j∧m j < m i) (f i)):∀ (n:Nat) (i:ι),I i→m i < n→L (iter f d n i)
 | 0,i,_,hn=>absurd hn (by omega)
 | n+1,i,hi,hn=>by
  have:=h i hi
  simp only [iter]
  cases hf:f i with
  | inl a=>rw [hf] at this; exact this
  | inr j=>rw [hf] at this; exact CO h n j this.1 (by have:=this.2; omega)
theorem Sk.dA:{α:Type}→(s:Sk α)→{L:α→Prop}→s.dz L→L s.val
 | _,.fin a,_,h=>h
 | _,.br e x y,L,h=>by
  cases e with
  | true=>exact x.dA (h.1 rfl)
  | false=>exact y.dA (h.2 rfl)
 | _,.r _ c k,L,h=>(k c.v).dA (h _ rfl c.hp)
 | _,.wi _ _ _ k,L,h=>k.dA (L:=L) h
 | _,.wn _ _ _ k,L,h=>k.dA (L:=L) h
 | _,.K7 k,L,h=>k.dA (L:=L) h
 | _,.K8 k,L,h=>k.dA (L:=L) h
 | _,.dead _,_,h=>h
 | _,.Ij _ _ n k,L,h=>k.dA (L:=L) h
 | _,.Q5 _ c _ _ x y,L,h=>by
  cases c with
  | true=>exact x.dA (h.1 rfl)
  | false=>exact y.dA (h.2 rfl)
 | _,.O2 _ _ _ k,L,h=>k.dA (L:=L) h
 | _,.fz _ k,L,h=>k.dA (L:=L) h
 | _,.op _ k,L,h=>(k []).dA (L:=L) h
 | _,.cl _ _ k,L,h=>k.dA (L:=L) h
 | _,.oq _ q k,L,h=>(k (canon q)).dA (L:=L) (h.2 _ (PF h.1))
 | _,.cq _ _ _ k,L,h=>k.dA (L:=L) h
 | _,.K1 _ _ _ k,L,h=>k.dA (L:=L) h
 | _,.mr n V init _ _ b k,L,h=>(k _).dA (h.2.2 _ rfl (uA (fun g i hg hi=>(b g i).dA (h.2.1 g i hg hi)) h.1 _ (fun i hi=>List.mem_range.1 hi)))
 | _,.bind _ J s _ k,L,h=>by
  have h1:=s.dA h.1
  show L (dZ s.val fun b=>(k b).val)
  cases hs:s.val with
  | inl a=>rw [hs] at h1; exact h1
  | inr b=>rw [hs] at h1; exact (k b).dA (h.2 b hs h1)
 | _,.loop d I m i0 _ b,L,h=>CO (f:=fun i=>(b i).val) (fun i hi=>(b i).dA (h.2 i hi)) (m i0+1) i0 h.1 (Nat.lt_succ_self _)
 | _,.rf it I B _ s0 _ _ b k,L,h=>(k _).dA (h.2.2 _ rfl (J6 it.ys (fun i s y hs hy=>(b s y).dA (h.2.1 i s y hs hy)) s0 h.1))
def wnA (κ n':Nat):AV→AV
 | .own k m=>bif Nat.beq k κ then .own k n' else .own k m
 | x=>x
def wnC (κ n:Nat):AV→CT
 | .own k m=>bif Nat.beq k κ then .nn m n else .nil
 | _=>.nil
def Wk (κ n':Nat):List AV→List AV
 | []=>[]
 | x :: r=>wnA κ n' x :: Wk κ n' r
def YA (κ n:Nat):List AV→CT
 | []=>.nil
 | x :: r=>.two (wnC κ n x) (YA κ n r)
def Wl (κ n':Nat):List (Nat × AV)→List (Nat × AV)
 | []=>[]
 | (t,x) :: r=>(t,wnA κ n' x) :: Wl κ n' r
def Uo (κ n:Nat):List (Nat × AV)→CT
 | []=>.nil
 | (_,x) :: r=>.two (wnC κ n x) (Uo κ n r)
def IB (κ n':Nat):List (Nat × bK)→List (Nat × bK)
 | []=>[]
 | (k,.box cs) :: r=>(k,.box (Wk κ n' cs)) :: IB κ n' r
 | (k,.row e q n f) :: r=>(k,.row e q (bif Nat.beq k κ then n' else n) f) :: IB κ n' r
 | (k,b) :: r=>(k,b) :: IB κ n' r
def DY (κ n:Nat) (n':Nat):List (Nat × bK)→CT
 | []=>.nil
 | (_,.box cs) :: r=>.two (YA κ n cs) (DY κ n n' r)
 | (k,.row _ _ m _) :: r=>.two (bif Nat.beq k κ then .nn m n' else .nil) (DY κ n n' r)
 | (_,_) :: r=>DY κ n n' r
theorem Up {κ n:Nat} {x:AV} (h:(wnC κ n x).ok):wnA κ n x=x:=by
 unfold wnC at h
 split at h
 ·rename_i k m
  show (bif Nat.beq k κ then AV.own k n else AV.own k m)=AV.own k m
  cases hb:Nat.beq k κ with
  | true =>
   rw [hb] at h
   have h:m=n:=h
   subst h
   rfl
  | false=>rfl
 ·rename_i RZ
  cases x <;> first | rfl | exact absurd rfl (RZ _ _)
theorem Q6 {κ n:Nat}:∀ {l:List AV},(YA κ n l).ok→Wk κ n l=l
 | [],_=>rfl
 | x :: r,h=>by simp only [Wk,Up h.1,Q6 h.2]
theorem Q7 {κ n:Nat}:∀ {l:List (Nat × AV)},(Uo κ n l).ok→Wl κ n l=l
 | [],_=>rfl
 | (t,x) :: r,h=>by simp only [Wl,Up h.1,Q7 h.2]
theorem yC {κ n:Nat}:∀ {l:List (Nat × bK)},(DY κ n n l).ok→IB κ n l=l
 | [],_=>rfl
 | (k,.box cs) :: r,h=>by simp only [IB,Q6 h.1,yC h.2]
 | (k,.row e q m f) :: r,h=>by
  simp only [IB,yC h.2]
  have h1:=h.1
  cases hb:Nat.beq k κ with
  | false=>rfl
  | true =>
   rw [hb] at h1
   have h1:m=n:=h1
   subst h1
   rfl
 | (k,.mp _ _) :: r,h=>by have h:(DY κ n n r).ok:=h; simp only [IB,yC h]
 | (k,.it _ _ _) :: r,h=>by have h:(DY κ n n r).ok:=h; simp only [IB,yC h]
 | (k,.mx _) :: r,h=>by have h:(DY κ n n r).ok:=h; simp only [IB,yC h]
def J7 (lb:List (Nat × bK)):AV→Option Nat
 | .d (.sl q _)=>some q
 | .own κ _=>(match look lb κ with | some (.row _ _ q _)=>some q | _=>none)
 | _=>none
def Nb (st:St) (t j:Nat):Option Nat :=
 match St.get st.sl t with
 | .ptr κ _=>(match look st.lb κ with | some (.box cs)=>bif Nat.ble (j+1) cs.length then J7 st.lb (cs.getD j default) else none | _=>none)
 | .ref cs=>bif Nat.ble (j+1) cs.length then J7 st.lb (.d (cs.getD j default)) else none
 | .d (.agg cs)=>bif Nat.ble (j+1) cs.length then J7 st.lb (.d (cs.getD j default)) else none
 | x=>J7 st.lb x
def Wm (κ:Nat) (f:Nat→List D):AV→AV
 | .own k m=>bif Nat.beq k κ then .d (.sl m f) else .own k m
 | x=>x
def ZK (κ n:Nat):AV→CT
 | .own k m=>bif Nat.beq k κ then .nn m n else .nil
 | x=>.bb (x.keys.any fun k=>Nat.beq k κ) false
def PH (κ:Nat) (f:Nat→List D):List AV→List AV
 | []=>[]
 | x :: r=>Wm κ f x :: PH κ f r
def YB (κ n:Nat):List AV→CT
 | []=>.nil
 | x :: r=>.two (ZK κ n x) (YB κ n r)
def Uq (κ:Nat) (f:Nat→List D):List (Nat × AV)→List (Nat × AV)
 | []=>[]
 | (t,x) :: r=>(t,Wm κ f x) :: Uq κ f r
def Q8 (κ n:Nat):List (Nat × AV)→CT
 | []=>.nil
 | (_,x) :: r=>.two (ZK κ n x) (Q8 κ n r)
def fzB (κ:Nat) (f:Nat→List D):bK→bK
 | .box cs=>.box (PH κ f cs)
 | b=>b
def aaG (κ n:Nat):bK→CT
 | .box cs=>YB κ n cs
 | .it m _ _=>.bb (Nat.beq m κ) false
 | _=>.nil
def PI (κ:Nat) (f:Nat→List D):List (Nat × bK)→List (Nat × bK)
 | []=>[]
 | (k,b) :: r=>bif Nat.beq k κ then PI κ f r else (k,fzB κ f b) :: PI κ f r
def Q9 (κ n:Nat):List (Nat × bK)→CT
 | []=>.nil
 | (k,b) :: r=>.two (bif Nat.beq k κ then .nil else aaG κ n b) (Q9 κ n r)
theorem Nc (κ n:Nat) (f:Nat→List D):∀ (l:List (Nat × AV)) (t:Nat),(Q8 κ n l).ok→St.get (Uq κ f l) t=Wm κ f (St.get l t)∧(ZK κ n (St.get l t)).ok
 | [],t,_=>⟨rfl,rfl⟩
 | (k,x) :: r,t,h=>by
  obtain ⟨i1,i2⟩:=Nc κ n f r t h.2
  simp only [St.get,Uq,cg] at i1 i2 ⊢
  by_cases e:k=t
  ·simp only [e,if_true]
   exact ⟨trivial,h.1⟩
  ·simp only [e,if_false]
   exact ⟨i1,i2⟩
theorem rq (κ n:Nat) (f:Nat→List D):∀ (l:List (Nat × bK)) (κ':Nat) (b:bK),(Q9 κ n l).ok→look (PI κ f l) κ'=some b→κ'≠κ∧∃ c,look l κ'=some c∧b=fzB κ f c∧(aaG κ n c).ok
 | [],κ',b,_,h=>by simp [PI,look] at h
 | (k,c) :: r,κ',b,h,hl=>by
  have h1:=h.1
  simp only [PI] at hl
  cases hb:Nat.beq k κ with
  | true =>
   rw [hb] at hl
   simp only [cond_true] at hl
   obtain ⟨q1,d,q2,q3⟩:=rq κ n f r κ' b h.2 hl
   have hk:=Nat.eq_of_beq_eq_true hb
   refine ⟨q1,d,?_,q3⟩
   rw [cg,if_neg (fun e=>q1 (by omega))]
   exact q2
  | false =>
   rw [hb] at hl h1
   simp only [cond_false,cg] at hl h1
   split at hl
   ·rename_i e
    subst e
    simp only [Option.some.injEq] at hl
    subst hl
    refine ⟨fun e=>(by rw [e,Nat.beq_refl] at hb; cases hb),c,(by rw [cg,if_pos rfl]),rfl,h1⟩
   ·rename_i e
    obtain ⟨q1,d,q2,q3⟩:=rq κ n f r κ' b h.2 hl
    exact ⟨q1,d,by rw [cg,if_neg e]; exact q2,q3⟩
theorem M3.fz {st:St} {κ e k n:Nat} {f:Nat→List D} (hl:look st.lb κ=some (.row e k n f)) (h1:(Q8 κ n st.sl).ok) (h2:(Q9 κ n st.lb).ok):M3 st ⟨Uq κ f st.sl,PI κ f st.lb⟩:=by
 rintro C a w ⟨S,μ,hs⟩
 have CK:=hs fun _=>false
 have hm:=CK.mem κ _ hl
 let S':Nat→Prop:=fun q=>S q∨∃ c,μ κ=some (some (q,c))
 have hS:∀ q,S q→S' q:=fun _ h=>.inl h
 have main:∀ {ν:Nat→Bool} {x:AV} {v:Value},(ZK κ n x).ok→Rel w S μ ν x v→Rel w S' μ ν (Wm κ f x) v:=by
  intro ν x v hc hr
  have other:Wm κ f x=x→Rel w S' μ ν (Wm κ f x) v:=fun e=>by rw [e]; exact hr.mono hS (fun _ _=>rfl) (fun _ _ e=>e)
  cases x with
  | own q m =>
   cases hb:Nat.beq q κ with
   | false=>exact other (by simp [Wm,hb])
   | true =>
    have e:=Nat.eq_of_beq_eq_true hb
    subst e
    simp only [ZK,hb,cond_true] at hc
    have hc:m=n:=hc
    subst hc
    simp only [Wm,hb,cond_true]
    cases hr with
    | @eH _ ad hμ =>
     cases ad with
     | none=>exact .d (.nil f)
     | some ad=>exact .d (.sl 0 f ad 0 0 (fun _ _=>undef) (Nat.le_refl _) (by simp [maxLen]) (.inl rfl) (fun i hi=>absurd hi (by omega)) (fun i j hi=>absurd hi (by omega)) (fun i j hi=>absurd hi (by omega)))
    | @own _ _ g cap hμ =>
     rw [hμ] at hm
     obtain ⟨cur,hg,_,kI,hn,hcp,pD⟩:=hm.at
     refine .d (.sl m f ⟨g,0,none⟩ cap k (fun i j=>(cur[i * k+j]?).getD undef) hn hcp (.inr rfl) (fun i hi=>(pD i hi).1) (fun i j hi hj=>⟨.inr ⟨cap,hμ⟩,?_⟩) (fun i j hi hj=>?_))
     ·obtain ⟨u,hu,_⟩:=(pD i hi).2 j hj
      rw [Nat.zero_add,gb w g _ cur e _ hg,hu]
      rfl
     ·obtain ⟨u,hu,Pc⟩:=(pD i hi).2 j hj
      rw [hu]
      exact Pc.mono hS (fun _ _=>rfl)
  | any=>exact other rfl
  | d=>exact other rfl
  | ptr=>exact other rfl
  | u7=>exact other rfl
  | ref=>exact other rfl
  | wu=>exact other rfl
  | uh=>exact other rfl
  | yo=>exact other rfl
  | fn=>exact other rfl
  | ef=>exact other rfl
  | ag=>exact other rfl
  | g=>exact other rfl
 refine ⟨S',μ,fun ν=>?_⟩
 have Th:=hs ν
 refine ⟨Th.tmps,Th.defers,fun t=>?_,fun κ' b hb=>?_,fun κ1 κ2 b1 b2 g c c' q1 q2 q3 q4=>?_,fun κ' b g c q1 q2=>?_,fun b hb=>.inl (Th.eJ b hb),fun b hb=>?_,fun b hb=>?_,Th.kept⟩
 ·obtain ⟨e1,e2⟩:=Nc κ n f st.sl t h1
  simp only [St.fZ]
  rw [e1]
  exact main e2 (Th.eF t)
 ·obtain ⟨rA,c,hc,rfl,QI⟩:=rq κ n f st.lb κ' b h2 hb
  have Iy:=Th.mem κ' c hc
  have hnS:∀ g cc,μ κ'=some (some (g,cc))→¬ S' g:=fun g cc TH ZZ=>by
   rcases ZZ with h | ⟨c2,uj⟩
   ·rw [TH] at Iy; exact Iy.at.not h
   ·exact rA (Th.inj κ' κ c _ g cc c2 hc hl TH uj)
  have Ra:=Iy.mono (S':=S') hS (fun _ _=>rfl) (fun _ _ e=>e) (fun g cc e=>⟨rfl,hnS g cc e⟩)
  cases c with
  | box cs =>
   cases TH:μ κ' with
   | none=>rw [TH] at Iy; exact Iy.elim
   | some y =>
    cases y with
    | none=>rw [TH] at Iy; exact Iy.elim
    | some gc =>
     obtain ⟨g,cc⟩:=gc
     rw [TH] at Iy
     obtain ⟨cur,e0,x1,x2,x3,x4⟩:=Iy.at
     have hlen:∀ (l:List AV),(PH κ f l).length=l.length:=fun l=>by induction l with | nil=>rfl | cons _ _ ih=>simp [PH,ih]
     have Pg:∀ (l:List AV) (j:Nat),j < l.length→(YB κ n l).ok→(PH κ f l).getD j default=Wm κ f (l.getD j default)∧(ZK κ n (l.getD j default)).ok:=fun l=>by
      induction l with
      | nil=>intro j hj; exact absurd hj (by simp)
      | cons x r ih =>
       intro j hj hk
       cases j with
       | zero=>exact ⟨rfl,hk.1⟩
       | succ j=>simpa [PH] using ih j (by simpa using hj) hk.2
     refine eI.ok (b:=.box (PH κ f cs)) ⟨cur,e0,x1,hnS g cc TH,by rw [hlen]; exact x3,fun j hj=>?_⟩
     rw [hlen] at hj
     obtain ⟨x,y1,y2⟩:=x4 j hj
     obtain ⟨z1,z2⟩:=Pg cs j hj QI
     exact ⟨x,y1,fun ν'=>by rw [z1]; exact main z2 (y2 ν')⟩
  | row=>exact Ra
  | mp=>exact Ra
  | it=>exact Ra
  | mx=>exact Ra
 ·obtain ⟨_,d1,e1,_⟩:=rq κ n f st.lb κ1 b1 h2 q1
  obtain ⟨_,d2,e2,_⟩:=rq κ n f st.lb κ2 b2 h2 q2
  exact Th.inj κ1 κ2 d1 d2 g c c' e1 e2 q3 q4
 ·obtain ⟨_,d1,e1,_⟩:=rq κ n f st.lb κ' b h2 q1
  exact Th.own κ' d1 g c e1 q2
 ·rcases hb with h | ⟨c,hc⟩
  ·exact Th.fresh b h
  ·rcases Th.own κ _ b c hl hc with h | h
   ·exact .inr (.inl h)
   ·exact .inr (.inr h)
 ·rcases hb with h | ⟨c,hc⟩
  ·exact Th.bound b h
  ·rw [hc] at hm
   exact hm.at.lt
def PJ (ops:Array Oper):Option (Nat × Nat × Nat) :=
 match ops.toList with
 | [o1,o2]=>(match o1.op,o1.dst,o1.guard,o2.op,o2.dst,o2.guard with
  | .next (.tmp it) false,some d1,none,.extract (.tmp Tf) 0,some d2,none=>bif Nat.beq d1 Tf then some (it,d1,d2) else none
  | _,_,_,_,_,_=>none)
 | _=>none
def mT:Code→Option (Array Oper × List Item)
 | .seq x y=>(match mT x with | some (ops,l)=>some (ops,l++[.code y]) | none=>none)
 | .region _ ops false=>some (ops,[])
 | _=>none
def PK (st:St) (d1 d2 κi κ n i:Nat) (s:List Nat):St:=⟨(d2,.d (.v (.bool true))) :: bw [d1,d2] st.sl,(κi,.it κ n (i :: s)) :: bw [κi] st.lb⟩
def Gu (st:St) (d1 d2 it:Nat):St:=⟨(d2,.d (.v (.bool false))) :: bw [d1,d2,it] st.sl,st.lb⟩
inductive YC where
 | ret (x:AV) (cZ:List (Nat × bK))
 | V9 (x:AV) (cZ:List (Nat × bK)) (lg:List (Nat × Nat))
 | go (todo:List Item) (st:St)
 | brk (id:Nat) (st:St)
def Ur (g:Goal):YC→Prop
 | .ret x cZ=>g.VE∧g.res=x∧g.cZ=cZ
 | .V9 x cZ lg=>g.Pv lg∧g.res=x∧g.cZ=cZ
 | .go todo st=>G g todo st
 | .brk id st=>∀ k,exitTo id k=none→G g (.code (.exit id) :: k) st
def Wn (T:List (Nat × TI)) (rs:List ResultVar) (st:St) (x:AV) (cZ:List (Nat × bK)):CT :=
 match sO T st rs with
 | some (l,_,ob)=>(match cZ with
  | []=>(match uv st.lb l with | some (l',_,AW)=>.two (zW ob) (.two (zW AW) (PC [] (pF l') x)) | none=>.bad)
  | cZ=>.two (zW ob) (.two (.bb (Bh (Gp st.lb cZ (J4 (pF l) x []))) true) (.two (PC (Gp st.lb cZ (J4 (pF l) x [])) (pF l) x) (PD (Gp st.lb cZ (J4 (pF l) x [])) st.lb cZ))))
 | none=>.bad
def aaH (lg:List (Nat × Nat)):List (Nat × AV):=lg.map fun p=>(p.1,.ptr p.2 0)
def Wo (st:St) (x:AV) (cZ:List (Nat × bK)) (lg:List (Nat × Nat)) (l:List AV):Ren:=Gp st.lb cZ (Uk st.sl (aaH lg) (J4 (pF l) x []))
def Rb (T:List (Nat × TI)) (rs:List ResultVar) (st:St) (x:AV) (cZ:List (Nat × bK)) (lg:List (Nat × Nat)):CT :=
 match sO T st rs with
 | some (l,_,ob)=>.two (zW ob) (.two (.bb (Bh (Wo st x cZ lg l)) true) (.two (PC (Wo st x cZ lg l) (pF l) x) (.two (Wi (Wo st x cZ lg l) st.sl (aaH lg)) (PD (Wo st x cZ lg l) st.lb cZ))))
 | none=>.bad
def mU (P:Program) (T:List (Nat × TI)) (nt:Nat) (rm:Nat) (md:Nat) (pr:List Nat) (todo:List Item) (st:St):Option (List Item × St × CT) :=
 match todo with
 | .code (.seq x y) :: k=>some (.code x :: .code y :: k,st,.nil)
 | .code .skip :: k=>some (k,st,.nil)
 | .code (.label _) :: k=>some (k,st,.nil)
 | .code (.cond (.const (.bool e)) x y) :: k=>some (.code (bif e then x else y) :: k,st,.nil)
 | .code (.block id c) :: k=>some (.code c :: .inBlock id :: k,st,.nil)
 | .inBlock _ :: k=>some (k,st,.nil)
 | .code (.exit id) :: k=>(match exitTo id k with | some k'=>some (k',st,.nil) | none=>none)
 | .code (.region _ ops draw) :: k=>(match xn P T nt ops draw none st [] with
  | some (st',ob)=>some (k,st'.jf (Nat.lor rm (jS k)),.two (.bb (Em md pr ops) true) (zW ob))
  | none=>none)
 | _=>none
def Wp (c:Bool):AV→AV→AV
 | .d x,.d y=>.d (bif c then x else y)
 | x,y=>bif c then x else y
theorem Wq (c:Bool) (x y:AV):Wp c x y=bif c then x else y:=by
 unfold Wp
 split
 ·cases c <;> rfl
 ·rfl
def Mh (rm:Nat) (todo:List Item):Nat:=Nat.lor rm (jS todo)
def Us (P:Program) (T:List (Nat × TI)) (nt:Nat) (rm:Nat) (md:Nat) (pr:List Nat):Nat→List Item→St→Option (List Item × St × CT)
 | 0,_,_=>none
 | n+1,todo,st=>(match todo with
  | .beginRound :: k=>some (.beginRound :: k,st,.nil)
  | todo=>(match mU P T nt rm md pr todo st with
   | some (k,l9,c)=>(match Us P T nt rm md pr n k l9 with
    | some (k',st2,c')=>some (k',st2,.two c c')
    | none=>none)
   | none=>none))
def Ut (P:Program) (T:List (Nat × TI)) (nt:Nat) (rm:Nat) (md:Nat) (pr:List Nat) (n:Nat) (todo:List Item) (st:St):St:=match Us P T nt rm md pr n todo st with | some (_,st2,_)=>st2 | none=>⟨[],[]⟩
def aaI (P:Program) (T:List (Nat × TI)) (nt:Nat) (rm:Nat) (md:Nat) (pr:List Nat) (n:Nat) (todo:List Item) (st:St) (k:List Item):CT:=match Us P T nt rm md pr n todo st with | some (k',_,c)=>.two c (.td k' k) | none=>.bad
def YD (m:List (Int × Int)):Nat→Value × D:=fun i=>(.int .i64 (m.getD i default).1,.v (.int .i64 (m.getD i default).2))
def nj (P:Program) (T:List (Nat × TI)) (nt:Nat) (rs:List ResultVar) (rm:Nat) (md:Nat) (pr:List Nat):Nat→{α:Type}→List Item→St→(α→YC)→Sk α→CT
 | 0,_,_,_,_,_=>.bad
 | n+1,_,todo,st,L,sk =>
  match sk with
  | .op κ k=>(match look st.lb κ with
   | some (.mx _)=>.pi fun m=>nj P T nt rs rm md pr n todo ⟨st.sl,(κ,.mp m.length (YD m)) :: bw [κ] st.lb⟩ L (k m)
   | _=>.bad)
  | .oq κ q k=>(match look st.lb κ with
   | some (.mx q')=>.two (.qq q' q) (.pi fun m=>nj P T nt rs rm md pr n todo ⟨st.sl,(κ,.mp m.length (YD m)) :: bw [κ] st.lb⟩ L (k m))
   | _=>.bad)
  | .cq κ m q' k=>(match look st.lb κ with
   | some (.mp q f)=>.two (.nn q m.length) (.two (.mm f (YD m)) (nj P T nt rs rm md pr n todo ⟨st.sl,(κ,.mx q') :: bw [κ] st.lb⟩ L k))
   | _=>.bad)
  | .cl κ m k=>(match look st.lb κ with
   | some (.mp q f)=>.two (.nn q m.length) (.two (.mm f (YD m)) (nj P T nt rs rm md pr n todo ⟨st.sl,(κ,.mx mxT) :: bw [κ] st.lb⟩ L k))
   | _=>.bad)
  | .K1 id x c k=>(match todo with
   | .code (.region i ops false) :: K=>bif Nat.beq i id then (match Ue ops with
    | some (ts,ti,ty,d1,d2,d3)=>(match St.get st.sl ts,St.get st.sl ti,look T ty with
     | .own κ m,.d (.v (.int .i64 xx)),some { kind:=.slice e',.. }=>(match look st.lb κ,look T e' with
      | some (.row e q m2 f),some i=>.two (.bb (Nat.ble (d1+1) nt&&Nat.ble (d2+1) nt&&Nat.ble (d3+1) nt&&Em md pr ops&&Nat.beq e e'&&Nat.beq q i.size&&i.zero.all wM&&!Nat.beq ts d1&&!Nat.beq ts d2&&!Nat.beq ts d3) true)
        (.two (.zz xx x) (.two (.nn m m2) (.two (.nn m c.n) (.two (.ff (vl xx.toNat f i.zero) c.f)
        (nj P T nt rs rm md pr n K (St.jf (Nat.lor rm (jS K)) ⟨(ts,.own κ c.n') :: bw [ts,d1,d2,d3] st.sl,(κ,.row e q c.n' c.f') :: bw [κ] st.lb⟩) L k)))))
      | _,_=>.bad)
     | _,_,_=>.bad)
    | none=>.bad)
    else (match mU P T nt rm md pr (.code (.region i ops false) :: K) st with | some (k0,l9,c0)=>.two c0 (nj P T nt rs rm md pr n k0 l9 L (.K1 id x c k)) | none=>.bad)
   | todo=>(match mU P T nt rm md pr todo st with | some (k0,l9,c0)=>.two c0 (nj P T nt rs rm md pr n k0 l9 L (.K1 id x c k)) | none=>.bad))
  | .wi t a b k=>.two (.vv (St.get st.sl t) (.d (.v (.int .i64 a)))) (nj P T nt rs rm md pr n todo ⟨(t,.d (.v (.int .i64 b))) :: bw [t] st.sl,st.lb⟩ L k)
  | .Ij t j m k=>(match Nb st t j with
   | some q=>.two (.nn q m) (nj P T nt rs rm md pr n todo st L k)
   | none=>.bad)
  | .wn κ a b k=>.two (Uo κ a st.sl) (.two (DY κ a b st.lb) (nj P T nt rs rm md pr n todo ⟨Wl κ b st.sl,IB κ b st.lb⟩ L k))
  | .dead _=>.nil
  | .O2 t m k1 k2=>(match St.get st.sl t with
   | .d (.sl q f)=>.two (.nn q m) (.two (nj P T nt rs rm md pr n todo ⟨(t,.d (.v (.slice none 0 0))) :: bw [t] st.sl,st.lb⟩ L k1) (nj P T nt rs rm md pr n todo ⟨(t,.wu q f) :: bw [t] st.sl,st.lb⟩ L k2))
   | _=>.bad)
  | .fz κ k=>(match look st.lb κ with
   | some (.row _ _ q f)=>.two (Q8 κ q st.sl) (.two (Q9 κ q st.lb) (nj P T nt rs rm md pr n todo ⟨Uq κ f st.sl,PI κ f st.lb⟩ L k))
   | _=>.bad)
  | .mr m V init u v b k=>(match todo with
   | .code (.loop c) :: K=>(match mT c with
    | some (ops,l)=>(match PJ ops with
     | some (it,d1,d2)=>bif Nat.ble (d1+1) nt&&Nat.ble (d2+1) nt&&Em md pr ops then
       .two (PE st (st.AY (Nat.lor rm (jS (.inLoop c :: K))) (u init [])))
       (.two (.pi fun g=>.pi fun s=>(match St.get (st.AY (Nat.lor rm (jS (.inLoop c :: K))) (u g s)).sl it with
        | .ptr κi 0=>(match look (st.AY (Nat.lor rm (jS (.inLoop c :: K))) (u g s)).lb κi with
         | some (.it κ m1 s1)=>(match look (st.AY (Nat.lor rm (jS (.inLoop c :: K))) (u g s)).lb κ with
          | some (.mp m2 _)=>.two (.nn m1 m) (.two (.nn m2 m) (.two (.ss s1 s) (.two
            (PE (Gu (st.AY (Nat.lor rm (jS (.inLoop c :: K))) (u g s)) d1 d2 it) ((Gu st d1 d2 it).AY (Nat.lor rm (jS (l++.inLoop c :: K))) (v g)))
            (.pi fun i=>nj P T nt rs rm md pr n (l++.inLoop c :: K) (PK (st.AY (Nat.lor rm (jS (.inLoop c :: K))) (u g s)) d1 d2 κi κ m i s) (fun g'=>.go (.inLoop c :: K) (st.AY (Nat.lor rm (jS (.inLoop c :: K))) (u g' (i :: s)))) (b g i)))))
          | _=>.bad)
         | _=>.bad)
        | _=>.bad))
       (.pi fun g=>nj P T nt rs rm md pr n (l++.inLoop c :: K) ((Gu st d1 d2 it).AY (Nat.lor rm (jS (l++.inLoop c :: K))) (v g)) L (k g))) else .bad
     | none=>.bad)
    | none=>.bad)
   | todo=>(match mU P T nt rm md pr todo st with | some (k0,l9,c)=>.two c (nj P T nt rs rm md pr n k0 l9 L (.mr m V init u v b k)) | none=>.bad))
  | .K7 x=>(match todo with
   | .code (.cond (.tmp c) p _) :: k=>.two (.vv (St.get st.sl c) (.d (.v (.bool true)))) (nj P T nt rs rm md pr n (.code p :: k) st L x)
   | todo=>(match mU P T nt rm md pr todo st with | some (k,l9,c)=>.two c (nj P T nt rs rm md pr n k l9 L (.K7 x)) | none=>.bad))
  | .K8 x=>(match todo with
   | .code (.cond (.tmp c) _ q) :: k=>.two (.vv (St.get st.sl c) (.d (.v (.bool false)))) (nj P T nt rs rm md pr n (.code q :: k) st L x)
   | todo=>(match mU P T nt rm md pr todo st with | some (k,l9,c)=>.two c (nj P T nt rs rm md pr n k l9 L (.K8 x)) | none=>.bad))
  | .Q5 t c x y k1 k2=>.two (.vv (St.get st.sl t) (Wp c x y)) (.two (nj P T nt rs rm md pr n todo ⟨(t,x) :: bw [t] st.sl,st.lb⟩ L k1) (nj P T nt rs rm md pr n todo ⟨(t,y) :: bw [t] st.sl,st.lb⟩ L k2))
  | .fin a=>(match L a with
   | .go Ge st'=>bif Nat.beq todo.length Ge.length then .two (.td todo Ge) (PE st st') else
     (match mU P T nt rm md pr todo st with | some (k,l9,c)=>.two c (nj P T nt rs rm md pr n k l9 L (.fin a)) | none=>.bad)
   | .brk id st'=>(match todo with
    | .code (.exit id') :: k=>bif Nat.beq id id'&&(exitTo id' k).isNone then PE st st' else
     (match mU P T nt rm md pr (.code (.exit id') :: k) st with | some (k,l9,c)=>.two c (nj P T nt rs rm md pr n k l9 L (.fin a)) | none=>.bad)
    | todo=>(match mU P T nt rm md pr todo st with | some (k,l9,c)=>.two c (nj P T nt rs rm md pr n k l9 L (.fin a)) | none=>.bad))
   | .ret x cZ=>(match todo with
    | []=>Wn T rs st x cZ
    | .code .ret :: _=>Wn T rs st x cZ
    | todo=>(match mU P T nt rm md pr todo st with | some (k,l9,c)=>.two c (nj P T nt rs rm md pr n k l9 L (.fin a)) | none=>.bad))
   | .V9 x cZ lg=>(match todo with
    | []=>Rb T rs st x cZ lg
    | .code .ret :: _=>Rb T rs st x cZ lg
    | todo=>(match mU P T nt rm md pr todo st with | some (k,l9,c)=>.two c (nj P T nt rs rm md pr n k l9 L (.fin a)) | none=>.bad)))
  | .br e x y=>(match todo with
   | .code (.cond (.tmp c) p q) :: k=>.two (.vv (St.get st.sl c) (.d (.v (.bool e)))) (.two (nj P T nt rs rm md pr n (.code p :: k) st L x) (nj P T nt rs rm md pr n (.code q :: k) st L y))
   | todo=>(match mU P T nt rm md pr todo st with | some (k,l9,c)=>.two c (nj P T nt rs rm md pr n k l9 L (.br e x y)) | none=>.bad))
  | .r id cl kk=>(match todo with
   | .code (.region i ops draw) :: k=>bif Nat.beq i id then
     .pi fun x=>(match xn P T nt ops draw none st (cl.kj x) with
      | some (st',ob)=>.two (.bb (Em md pr ops) true) <| .two ob.eqs (.two (.po ob.prop (cl.sP x)) (nj P T nt rs rm md pr n k (st'.jf (Nat.lor rm (jS k))) L (kk x)))
      | none=>.bad)
    else (match mU P T nt rm md pr (.code (.region i ops draw) :: k) st with | some (k,l9,c)=>.two c (nj P T nt rs rm md pr n k l9 L (.r id cl kk)) | none=>.bad)
   | todo=>(match mU P T nt rm md pr todo st with | some (k,l9,c)=>.two c (nj P T nt rs rm md pr n k l9 L (.r id cl kk)) | none=>.bad))
  | .bind true J s u kk=>(match todo with
   | .code (.block id c) :: k=>.two (nj P T nt rs rm md pr n (.code c :: .inBlock id :: k) st (fun q=>match q with | .inl a=>L a | .inr b=>.go k (st.AY (Nat.lor rm (jS k)) (u b))) s) (.pi fun b=>nj P T nt rs rm md pr n k (st.AY (Nat.lor rm (jS k)) (u b)) L (kk b))
   | todo=>(match mU P T nt rm md pr todo st with | some (k,l9,c)=>.two c (nj P T nt rs rm md pr n k l9 L (.bind true J s u kk)) | none=>.bad))
  | .bind false J s u kk=>(match todo with
   | .code (.cond (.tmp c) p q) :: k=>.two (nj P T nt rs rm md pr n (.code (.cond (.tmp c) p q) :: k) st (fun q=>match q with | .inl a=>L a | .inr b=>.go k (st.AY (Nat.lor rm (jS k)) (u b))) s) (.pi fun b=>nj P T nt rs rm md pr n k (st.AY (Nat.lor rm (jS k)) (u b)) L (kk b))
   | todo=>(match mU P T nt rm md pr todo st with | some (k,l9,c)=>.two c (nj P T nt rs rm md pr n k l9 L (.bind false J s u kk)) | none=>.bad))
  | .loop d I m i0 u b=>(match todo with
   | .code (.loop c) :: k=>.two (PE st (st.AY (Nat.lor rm (jS (.inLoop c :: k))) (u i0))) (.pi fun i=>nj P T nt rs rm md pr n (.code c :: .inLoop c :: k) (st.AY (Nat.lor rm (jS (.inLoop c :: k))) (u i)) (fun q=>match q with | .inl a=>L a | .inr j=>.go (.inLoop c :: k) (st.AY (Nat.lor rm (jS (.inLoop c :: k))) (u j))) (b i))
   | todo=>(match mU P T nt rm md pr todo st with | some (k,l9,c)=>.two c (nj P T nt rs rm md pr n k l9 L (.loop d I m i0 u b)) | none=>.bad))
  | .rf it I B id s0 u v b kk=>(match todo with
   | .code (.rangeFunc (.tmp t) ps OZ body) :: k =>
     .two (.bb (Nat.beq md 0) true) <|
     .two (.vv (St.get (qA (Mh rm todo) (bw [] st.sl)) t) (.fn it.gf it.cR)) <|
     .two (.bb (sC.lN it.cR) true) <|
     .two (.po (some (Yg P it.gf it.cR (it.ys.map it.enc))) (some (Yg it.P it.gf it.cR (it.ys.map it.enc)))) <|
     .two (.bb (Pw nt ((qA (Mh rm todo) (bw [] st.sl)).map (·.1)) ps.toList) true) <|
     .two (PE st (st.AY (Mh rm todo) ⟨[],u s0⟩)) <|
     .two (.pi fun y=>.nn ps.toList.length (it.enc y).length) <|
     .two (.pi fun s=>.pi fun y=>.two
      (aaI P T nt (Mh rm todo) 1 ((qA (Mh rm todo) (bw [] st.sl)).map (·.1)) n [.code OZ,.beginRound,.code body] ⟨wy ps.toList (it.enc y)++qA (Mh rm todo) (bw [] st.sl),(st.AY (Mh rm todo) ⟨[],u s⟩).lb⟩ [.beginRound,.code body])
      (nj P T nt rs (Mh rm todo) 1 ((qA (Mh rm todo) (bw [] st.sl)).map (·.1)) n [.code body] (Ut P T nt (Mh rm todo) 1 ((qA (Mh rm todo) (bw [] st.sl)).map (·.1)) n [.code OZ,.beginRound,.code body] ⟨wy ps.toList (it.enc y)++qA (Mh rm todo) (bw [] st.sl),(st.AY (Mh rm todo) ⟨[],u s⟩).lb⟩)
       (fun q=>match q with | .inl a=>.brk id (st.AY (Mh rm todo) ⟨[],v a⟩) | .inr j=>.go [] (st.AY (Mh rm todo) ⟨[],u j⟩)) (b s y))) <|
     .two (.pi fun s=>nj P T nt rs rm md pr n k (st.AY (Mh rm todo) ⟨[],u s⟩) L (kk (.inr s))) (.pi fun a=>nj P T nt rs rm md pr n (.code (.exit id) :: k) (st.AY (Mh rm todo) ⟨[],v a⟩) L (kk (.inl a)))
   | todo=>(match mU P T nt rm md pr todo st with | some (k,l9,c)=>.two c (nj P T nt rs rm md pr n k l9 L (.rf it I B id s0 u v b kk)) | none=>.bad))
section
variable {g : Goal}
theorem G.jf (m:Nat) {k:List Item} {st:St} (h:G g k (st.jf m)):G g k st:=.le (.jf m st) h
theorem Rc (hn:g.VE) (hT:mP g.P g.T) (hf:g.P.funcs[g.f]? = some g.fn) {st:St} {x:AV} {cZ:List (Nat × bK)} (h:(Wn g.T g.fn.results.toList st x cZ).ok) (hx:g.res=x) (hl:g.cZ=cZ):G g [] st∧∀ k,G g (.code .ret :: k) st:=by
 subst hx
 subst hl
 unfold Wn at h
 split at h
 ·rename_i l ro ob hr
  split at h
  ·rename_i hl
   split at h
   ·rename_i l' JW AW hb
    obtain ⟨h1,h2,h3⟩:=h
    obtain ⟨p,q1,q2⟩:=Bm _ _ h3
    have hle:qk (pF l') g.res:=fun w S μ ν v hv=>by
     exact (uz (ρ:=[]) (pF l') g.res p q1 q2 v hv).mono (fun _ h=>h) (fun _ _=>rfl) (fun k y hk=>by simp [ux,look] at hk)
    exact G.ret hn hT hf hl hr (rL h1) hb (rL h2) hle
   ·exact h.elim
  ·obtain ⟨h1,h2,h3,h4⟩:=h
   obtain ⟨p,q1,q2⟩:=Bm _ _ h3
   obtain ⟨p',q3,q4⟩:=Bn h4
   exact G.ab3 hn hT hf _ hr (rL h1) h2 q1 q2 q3 q4
 ·exact h.elim
theorem Nd {lg:List (Nat × Nat)} (hn:g.Pv lg) (hT:mP g.P g.T) (hf:g.P.funcs[g.f]? = some g.fn) {st:St} {x:AV} {cZ:List (Nat × bK)} (h:(Rb g.T g.fn.results.toList st x cZ lg).ok) (hx:g.res=x) (hl:g.cZ=cZ):G g [] st∧∀ k,G g (.code .ret :: k) st:=by
 subst hx
 subst hl
 unfold Rb at h
 split at h
 ·rename_i l ro ob hr
  obtain ⟨h1,h2,h3,h4,h5⟩:=h
  obtain ⟨p,q1,q2⟩:=Bm _ _ h3
  obtain ⟨p',q3,q4⟩:=Bn h5
  obtain ⟨p'',q5,q6⟩:=K5 h4
  exact G.V9 hn hT hf _ hr (rL h1) h2 q1 q2 q3 q4 q5 q6
 ·exact h.elim
theorem fp (hT:mP g.P g.T) (hm:g.P.follows .mixedOrders=true) {rm:Nat} {todo k:List Item} {st st':St} {c:CT} (h:mU g.P g.T g.nt rm g.md g.pr todo st=some (k,st',c)) (hc:c.ok) (hg:G g k st'):G g todo st:=by
 unfold mU at h
 split at h
 ·simp only [Option.some.injEq,Prod.mk.injEq] at h; obtain ⟨rfl,rfl,-⟩:=h; exact .seq hg
 ·simp only [Option.some.injEq,Prod.mk.injEq] at h; obtain ⟨rfl,rfl,-⟩:=h; exact .skip hg
 ·simp only [Option.some.injEq,Prod.mk.injEq] at h; obtain ⟨rfl,rfl,-⟩:=h; exact .label hg
 ·simp only [Option.some.injEq,Prod.mk.injEq] at h; obtain ⟨rfl,rfl,-⟩:=h; exact .aao hg
 ·simp only [Option.some.injEq,Prod.mk.injEq] at h; obtain ⟨rfl,rfl,-⟩:=h; exact .block hg
 ·simp only [Option.some.injEq,Prod.mk.injEq] at h; obtain ⟨rfl,rfl,-⟩:=h; exact .inBlock hg
 ·split at h
  ·rename_i k' he
   simp only [Option.some.injEq,Prod.mk.injEq] at h; obtain ⟨rfl,rfl,-⟩:=h; exact .exit he hg
  ·cases h
 ·split at h
  ·rename_i l9 ob hr
   simp only [Option.some.injEq,Prod.mk.injEq] at h
   obtain ⟨rfl,rfl,rfl⟩:=h
   exact .region hT hm hc.1 hr (rL hc.2) (.jf _ hg)
  ·cases h
 ·cases h
theorem M3.put {st:St} (t:Nat) {x y:AV} (hx:St.get st.sl t=x) (h:qk x y):M3 st ⟨(t,y) :: bw [t] st.sl,st.lb⟩:=by
 rintro C a w ⟨S,μ,hs⟩
 refine ⟨S,μ,fun ν=>(hs ν).weaken (fun u v hv=>?_) (fun κ b hb=>⟨b,hb,fun _ h=>h⟩)⟩
 simp only [St.fZ] at hv ⊢
 rw [KV]
 split
 ·rename_i e
  subst e
  rw [hx] at hv
  exact h _ _ _ _ _ hv
 ·exact hv
theorem Bp {C:Cx} {A:M} {a:Act} {w:World} {S:Nat→Prop} {μ:Mu} {ν:Nat→Bool} {lb:List (Nat × bK)} (hs:df C A a w S μ ν) (hA:A.lb=look lb) {x:AV} {v:Value} {q:Nat} (h:J7 lb x=some q) (hr:Rel w S μ ν x v):q≤maxLen:=by
 unfold J7 at h
 split at h
 ·simp only [Option.some.injEq] at h
  subst h
  cases gT.1 hr with
  | nil=>simp [maxLen]
  | sl _ _ _ _ _ _ hc hm=>omega
 ·rename_i κ n
  split at h
  ·rename_i e k q' f hl
   simp only [Option.some.injEq] at h
   subst h
   have hm:=hs.mem κ _ (by rw [hA]; exact hl)
   cases hμ:μ κ with
   | none=>rw [hμ] at hm; exact hm.elim
   | some y =>
    rw [hμ] at hm
    cases y with
    | none=>have:q'=0:=hm; simp [this]
    | some gc =>
     obtain ⟨g,c⟩:=gc
     obtain ⟨cur,_,_,_,q4,q5,_⟩:=hm.at
     omega
  ·cases h
 ·cases h
theorem df.Nf {C:Cx} {A B:M} {a:Act} {w:World} {S:Nat→Prop} {μ:Mu} {ν:Nat→Bool} (h:df C A a w S μ ν) (Pb:∀ t,B.sl t=A.sl t) (OY:∀ κ b',B.lb κ=some b'→∃ b,A.lb κ=some b∧(gF w S μ b (μ κ)→gF w S μ b' (μ κ))):df C B a w S μ ν:=by
 refine ⟨h.tmps,h.defers,fun t=>by rw [Pb]; exact h.eF t,fun κ b hb=>?_,fun κ κ' b b' g c c' hb mQ hm Iy=>?_,fun κ b g c hb hm=>?_,h.eJ,h.fresh,h.bound,h.kept⟩
 ·obtain ⟨d,h1,h2⟩:=OY κ b hb
  exact h2 (h.mem κ d h1)
 ·obtain ⟨d,h1,_⟩:=OY κ b hb
  obtain ⟨d',h1',_⟩:=OY κ' b' mQ
  exact h.inj κ κ' d d' g c c' h1 h1' hm Iy
 ·obtain ⟨d,h1,_⟩:=OY κ b hb
  exact h.own κ d g c h1 hm
theorem Xo (st:St) (κ:Nat) (b:bK) (k:Nat):(St.fZ ⟨st.sl,(κ,b) :: bw [κ] st.lb⟩).lb k=if κ=k then some b else st.fZ.lb k:=by
 simp only [St.fZ,cg,ng]
 split
 ·rfl
 ·rename_i h
  rw [if_neg (by simp; exact fun e=>h e.symm)]
theorem G.cl {g:Goal} {k:List Item} {st:St} {κ n:Nat} {f:Nat→Value × D} {m:List (Int × Int)} {q:List (Int × Int)→Prop} (hl:look st.lb κ=some (.mp n f)) (hn:n=m.length) (hf:f=YD m) (hq:q m) (h:G g k ⟨st.sl,(κ,.mx q) :: bw [κ] st.lb⟩):G g k st:=by
 subst hn
 subst hf
 refine .le (fun C a w hs=>?_) h
 obtain ⟨S,μ,hs⟩:=hs
 refine ⟨S,μ,fun ν=>(hs ν).Nf (fun _=>rfl) (fun κ' b' hb=>?_)⟩
 rw [Xo] at hb
 split at hb
 ·rename_i e
  subst e
  simp only [Option.some.injEq] at hb
  subst hb
  refine ⟨_,hl,fun hy=>?_⟩
  generalize μ κ=y at hy ⊢
  match y,hy with
  | some (some (g,c)),hy=>exact ⟨m,hq,hy⟩
 ·exact ⟨b',hb,fun h=>h⟩
theorem G.op {g:Goal} {k:List Item} {st:St} {κ:Nat} {q:List (Int × Int)→Prop} (hl:look st.lb κ=some (.mx q)) (h:∀ m,q m→G g k ⟨st.sl,(κ,.mp m.length (YD m)) :: bw [κ] st.lb⟩):G g k st:=by
 intro C h1 h2 a w O0 hs
 obtain ⟨S,μ,hs⟩:=hs
 have hm:=(hs fun _=>false).mem κ _ hl
 obtain ⟨m,hq,Iy⟩:∃ m:List (Int × Int),q m∧gF w S μ (.mp m.length (YD m)) (μ κ):=by
  generalize μ κ=y at hm ⊢
  match y,hm with
  | some (some (g,c)),hm=>obtain ⟨m,hq,hm⟩:=hm; exact ⟨m,hq,hm⟩
 refine h m hq C h1 h2 a w O0 ⟨S,μ,fun ν=>(hs ν).Nf (fun _=>rfl) (fun κ' b' hb=>?_)⟩
 rw [Xo] at hb
 split at hb
 ·rename_i e
  subst e
  simp only [Option.some.injEq] at hb
  subst hb
  exact ⟨_,hl,fun _=>Iy⟩
 ·exact ⟨b',hb,fun h=>h⟩
theorem G.Nb {k:List Item} {st:St} {t j q:Nat} (h:Nb st t j=some q) (hg:q≤maxLen→G g k st):G g k st:=by
 intro C h1 h2 a w O0 hs
 have CK:=hs
 obtain ⟨S,μ,eX⟩:=hs
 refine hg ?_ C h1 h2 a w O0 CK
 have hs:=eX fun _=>false
 have hr:=hs.eF t
 simp only [St.fZ] at hr
 unfold Go.Av.Nb at h
 split at h
 ·rename_i κ o hx
  split at h
  ·rename_i cs hl
   rw [Bool.cond_eq_ite] at h
   split at h
   ·rename_i hj
    have hj:=Nat.le_of_ble_eq_true hj
    rw [hx] at hr
    generalize a.tmps.getD t undef=v at hr
    cases hr with
    | ptr hμ =>
     have hm:=hs.mem κ _ hl
     rw [hμ] at hm
     obtain ⟨cur,e,_,_,kI,hc⟩:=hm.at
     obtain ⟨x,_,hx⟩:=hc j hj
     exact Bp hs rfl h (hx fun _=>false)
   ·cases h
  ·cases h
 ·rename_i cs hx
  rw [Bool.cond_eq_ite] at h
  split at h
  ·rename_i hj
   have hj:=Nat.le_of_ble_eq_true hj
   rw [hx] at hr
   generalize a.tmps.getD t undef=v at hr
   cases hr with
   | ref dp bX hh=>exact Bp hs rfl h (.d (hh j hj))
  ·cases h
 ·rename_i cs hx
  rw [Bool.cond_eq_ite] at h
  split at h
  ·rename_i hj
   have hj:=Nat.le_of_ble_eq_true hj
   rw [hx] at hr
   generalize a.tmps.getD t undef=v at hr
   cases gT.1 hr with
   | agg _ vs hl hh=>exact Bp hs rfl h (.d (hh j hj))
  ·cases h
 ·exact Bp hs rfl h hr
theorem G.O2 {k:List Item} {st:St} {t n:Nat} {f:Nat→List D} (ht:St.get st.sl t=.d (.sl n f)) (h1:n=0→G g k ⟨(t,.d (.v (.slice none 0 0))) :: bw [t] st.sl,st.lb⟩) (h2:G g k ⟨(t,.wu n f) :: bw [t] st.sl,st.lb⟩):G g k st:=by
 intro C c1 c2 a w O0 hs
 obtain ⟨S,μ,eX⟩:=hs
 have hr:=(eX fun _=>false).eF t
 simp only [St.fZ,ht] at hr
 have put:∀ y:AV,(∀ ν,Rel w S μ ν y (a.tmps.getD t undef))→nb C ⟨(t,y) :: bw [t] st.sl,st.lb⟩ a w:=fun y hy=>by
  refine ⟨S,μ,fun ν=>?_⟩
  have h:=eX ν
  refine ⟨h.tmps,h.defers,fun u=>?_,h.mem,h.inj,h.own,h.eJ,h.fresh,h.bound,h.kept⟩
  simp only [St.fZ]
  rw [KV]
  split
  ·rename_i e
   subst e
   exact hy ν
  ·exact h.eF u
 cases hv:a.tmps.getD t undef with
 | slice ad m cap =>
  rw [hv] at hr
  cases ad with
  | none =>
   cases gT.1 hr with
   | nil=>exact h1 rfl C c1 c2 a w O0 (put _ (fun ν=>by rw [hv]; exact gG rfl))
  | some ad=>exact h2 C c1 c2 a w O0 (put _ (fun ν=>by rw [hv]; exact .wu (gT.1 hr)))
 | _=>rw [hv] at hr; cases gT.1 hr
theorem G.mT:∀ {c:Code} {ops:Array Oper} {l K:List Item} {st:St},Go.Av.mT c=some (ops,l)→(∀ id,G g (.code (.region id ops false) :: (l++K)) st)→G g (.code c :: K) st
 | .seq x y,ops,l,K,st,h,hg=>by
  simp only [Go.Av.mT] at h
  split at h
  ·rename_i acm l' hx
   simp only [Option.some.injEq,Prod.mk.injEq] at h
   obtain ⟨rfl,rfl⟩:=h
   exact .seq (G.mT hx (fun id=>by have:=hg id; rwa [List.append_assoc] at this))
  ·cases h
 | .region id acm false,ops,l,K,st,h,hg=>by
  simp only [Go.Av.mT,Option.some.injEq,Prod.mk.injEq] at h
  obtain ⟨rfl,rfl⟩:=h
  exact hg id
 | .region _ _ true,_,_,_,_,h,_=>by simp [Go.Av.mT] at h
 | .skip,_,_,_,_,h,_=>by simp [Go.Av.mT] at h
 | .cond ..,_,_,_,_,h,_=>by simp [Go.Av.mT] at h
 | .block ..,_,_,_,_,h,_=>by simp [Go.Av.mT] at h
 | .loop ..,_,_,_,_,h,_=>by simp [Go.Av.mT] at h
 | .rangeFunc ..,_,_,_,_,h,_=>by simp [Go.Av.mT] at h
 | .exit ..,_,_,_,_,h,_=>by simp [Go.Av.mT] at h
 | .scope ..,_,_,_,_,h,_=>by simp [Go.Av.mT] at h
 | .label ..,_,_,_,_,h,_=>by simp [Go.Av.mT] at h
 | .goto ..,_,_,_,_,h,_=>by simp [Go.Av.mT] at h
 | .ret,_,_,_,_,h,_=>by simp [Go.Av.mT] at h
 | .refuse ..,_,_,_,_,h,_=>by simp [Go.Av.mT] at h
theorem nb.aaJ {C:Cx} {st:St} {a:Act} {w:World} {S:Nat→Prop} {μ:Mu} (eX:∀ ν,df C st.fZ a w S μ ν) {d1 d2:Nat} (Te:d1 < C.nt) (VF:d2 < C.nt) (x:Value) (b:Bool) (ds:List Nat) (h1:d1∈ds) (h2:d2∈ds) :
  ∀ ν,df C (St.fZ ⟨(d2,.d (.v (.bool b))) :: bw ds st.sl,st.lb⟩) ((a.put (some d1) x).put (some d2) (.bool b)) w S μ ν:=fun ν=>by
 have h:=eX ν
 refine ⟨by simp [Act.put,h.tmps],h.defers,fun u=>?_,h.mem,h.inj,h.own,h.eJ,h.fresh,h.bound,h.kept⟩
 simp only [St.fZ,St.get,cg]
 by_cases c2:d2=u
 ·subst c2
  simp only [if_true,Act.put]
  rw [iH _ _ _ (by simp [h.tmps]; exact VF)]
  exact gG rfl
 ·simp only [c2,if_false,ng]
  split
  ·rename_i x hx
   split at hx
   ·cases hx
   ·rename_i hn
    have n1:u≠d1:=fun e=>hn (e ▸ h1)
    have n2:u≠d2:=fun e=>hn (e ▸ h2)
    simp only [Act.put]
    rw [dg _ _ _ _ n2,dg _ _ _ _ n1]
    have:=h.eF u
    simp only [St.fZ,St.get,hx] at this
    exact this
  ·exact .any _
theorem G.next (hm:g.P.follows .mixedOrders=true) {K:List Item} {st:St} {id:Nat} {ops:Array Oper} {it d1 d2 κi κ n:Nat} {f:Nat→Value × D} {s:List Nat} (Ps:Em g.md g.pr ops=true) (nh:PJ ops=some (it,d1,d2)) (Te:d1 < g.nt) (VF:d2 < g.nt)
  (VC:St.get st.sl it=.ptr κi 0) (X1:look st.lb κi=some (.it κ n s)) (hl:look st.lb κ=some (.mp n f))
  (uq:∀ i,i < n→i ∉ s→G g K (PK st d1 d2 κi κ n i s)) (Wc:(∀ i,i < n→i∈s)→G g K (Gu st d1 d2 it)):G g (.code (.region id ops false) :: K) st:=by
 intro C c1 c2 a w O0 hs
 suffices hw:wpOps C.P ops (fun e a' w'=>e=.normal∧((∃ i,i < n∧i ∉ s∧nb C (PK st d1 d2 κi κ n i s) a' w')∨((∀ i,i < n→i∈s)∧nb C (Gu st d1 d2 it) a' w'))) (List.range ops.size) a w by
  rw [c1] at hw
  refine G.ops hm Ps O0 (.inl ⟨rfl,hw⟩) (fun a' w' fP xa=>?_)
  rcases xa with ⟨i,hi,hn,xa⟩ | ⟨he,xa⟩
  ·exact uq i hi hn C c1 c2 a' w' fP xa
  ·exact Wc he C c1 c2 a' w' fP xa
 obtain ⟨S,μ,eX⟩:=hs
 have h0:=eX fun _=>false
 rw [← c2] at Te VF
 unfold PJ at nh
 split at nh
 ·rename_i o1 o2 hol
  split at nh
  ·rename_i it' Tf e1 d2' q1 q2 q3 q4 q5 q6
   rw [Bool.cond_eq_ite] at nh
   split at nh
   ·rename_i heq
    have heq:=Nat.eq_of_beq_eq_true heq
    subst heq
    simp only [Option.some.injEq,Prod.mk.injEq] at nh
    obtain ⟨rfl,rfl,rfl⟩:=nh
    have nh:ops = #[o1,o2]:=by cases ops; simpa using hol
    subst nh
    show wpOps C.P #[o1,o2] _ [0,1] a w
    have w1:∀ y,Region.wanted o1 y=true:=fun y=>by simp [Region.wanted,q3]
    have w2:∀ y,Region.wanted o2 y=true:=fun y=>by simp [Region.wanted,q6]
    have hr:=h0.eF it'
    simp only [St.fZ,VC] at hr
    generalize Tc:a.tmps.getD it' undef=iv at hr
    cases hr with
    | @ptr _ _ gi ci hμi =>
     have W6:=h0.mem κi _ X1
     rw [hμi] at W6
     have acn:=W6.at
     obtain ⟨mg,c,hμ,hgi,aag⟩:=acn
     have Iw:=h0.mem κ _ hl
     rw [hμ] at Iw
     obtain ⟨cur,hg,rE,kI,bX⟩:=Iw.at
     have Yb:a.eval (.tmp it')=.pointer (some ⟨gi,0,none⟩):=Tc
     have Xp:∀ x,x∈cur.toList→x.born < n:=fun x hx=>by
      obtain ⟨q,hq,rfl⟩:=List.getElem_of_mem hx
      have hqn:q < n:=by simpa [kI] using hq
      obtain ⟨e,y1,_,_,y4,_⟩:=bX q hqn
      have:cur.toList[q]=e:=by simpa using (Array.getElem?_eq_some_iff.1 y1).2
      rw [this,y4]; exact hqn
     have ext:∀ (a':Act) (w':World) (b:Bool) (rest:List Value),a'.eval (.tmp Tf)=.tuple (#[.bool b]++rest.toArray)→(execOp a'.eval o2).run C.P w'=.ok (.value (.bool b)) w':=fun a' w' b rest hh=>by
      simp [execOp,q4,hh,Instr.extract]
     have Sn:∀ (x:Value),(a.put (some Tf) x).eval (.tmp Tf)=x:=fun x=>by
      show (a.tmps.setIfInBounds Tf x).getD Tf undef=x
      exact iH _ _ _ (by rw [h0.tmps]; exact Te)
     rcases run_next_at (P:=C.P) w o1.type gi mg n n s.reverse.toArray cur n hgi hg Xp (Nat.le_refl _) with ⟨hz,ga⟩ | ⟨e,he,wd,hwd,ga⟩
     ·simp only [wpOps,List.getElem?_toArray,List.getElem?_cons_zero,List.getElem?_cons_succ,w1,w2,if_true]
      left
      unfold Oper.wp
      have hx:(execOp a.eval o1).run C.P w=.ok (.value (.tuple #[.bool false])) w:=by
       simp only [execOp,q1,Yb,Sem.run_bind,ga,Result.andThen_ok,Sem.run_pure]
      rw [hx,Oper.upon_value,q2]
      left
      rw [ext (a.put (some Tf) (.tuple #[.bool false])) w false [] (by rw [Sn]; rfl),Oper.upon_value,q5]
      refine ⟨trivial,.inr ⟨fun i hi=>?_,⟨S,μ,nb.aaJ eX Te VF _ false [Tf,d2',it'] (by simp) (by simp)⟩⟩⟩
      have:∀ x,x∈cur.toList→x.born∈s:=fun x hx=>by
       have hz':leftOf cur s.reverse.toArray = #[]:=Array.eq_empty_of_size_eq_zero hz
       unfold leftOf at hz'
       rw [Array.filter_eq_empty_iff] at hz'
       have:=hz' x (by simpa using hx)
       simpa using this
      obtain ⟨e,y1,_,_,y4,_⟩:=bX i hi
      have hm:e∈cur.toList:=by
       have:=(Array.getElem?_eq_some_iff.1 y1)
       obtain ⟨iR,rfl⟩:=this
       simp
      have:=this e hm
      rwa [y4] at this
     ·simp only [wpOps,List.getElem?_toArray,List.getElem?_cons_zero,List.getElem?_cons_succ,w1,w2,if_true]
      left
      unfold Oper.wp
      have hx:(execOp a.eval o1).run C.P w=.ok (.value (.tuple #[.bool true,e.key,e.val])) (ChangeMaps.setBlock wd gi (.mapIter (some mg) n (s.reverse.toArray.push e.born) n)):=by
       simp only [execOp,q1,Yb,Sem.run_bind,ga,Result.andThen_ok,Sem.run_pure]
      rw [hx,Oper.upon_value,q2]
      left
      rw [ext (a.put (some Tf) (.tuple #[.bool true,e.key,e.val])) _ true [e.key,e.val] (by rw [Sn]; rfl),Oper.upon_value,q5]
      have jd:e∈cur.toList∧e.born ∉ s:=by
       unfold leftOf at he
       simpa using he
      refine ⟨trivial,.inl ⟨e.born,Xp e jd.1,jd.2,?_⟩⟩
      have aco:Kept w wd (fun _=>False):=by
       rcases hwd with rfl | rfl
       ·exact Kept.refl _ _
       ·exact ⟨rfl,rfl,rfl,Nat.le_refl _,fun _ _ _=>rfl⟩
      have acp:wd.heap[gi]? = some (.mapIter (some mg) n s.reverse.toArray n):=by rcases hwd with rfl | rfl <;> exact hgi
      have Uc:∀ ν,df C st.fZ a wd S μ ν:=fun ν=>(eX ν).world (fun _ x=>x) (fun _ x=>.inl x) aco
      have acq:ChangeMaps.setBlock wd gi (.mapIter (some mg) n (s.reverse.toArray.push e.born) n)=World.zN wd gi (.mapIter (some mg) n (s.reverse.toArray.push e.born) n):=rfl
      rw [acq]
      have M6:∀ ν,df C (st.fZ.set κi (some (.it κ n (e.born :: s)))) a (World.zN wd gi (.mapIter (some mg) n (s.reverse.toArray.push e.born) n)) S μ ν:=fun ν=>(Uc ν).KN (b:=.it κ n s) X1 hμi (rj gi _) ⟨mg,c,hμ,by rw [Fk _ acp]; simp,aag⟩
      have mG:(St.fZ ⟨st.sl,(κi,.it κ n (e.born :: s)) :: bw [κi] st.lb⟩)=st.fZ.set κi (some (.it κ n (e.born :: s))):=by
       unfold St.fZ M.set
       congr 1
       funext q
       rw [cg,ng]
       by_cases hq:κi=q
       ·subst hq; simp
       ·have:q ∉ [κi]:=by simp; exact fun e=>hq e.symm
        have QN:¬ q=κi:=fun e=>hq e.symm
        simp [hq,QN]
      exact ⟨S,μ,nb.aaJ (st:=⟨st.sl,(κi,.it κ n (e.born :: s)) :: bw [κi] st.lb⟩) (fun ν=>by rw [mG]; exact M6 ν) Te VF _ true [Tf,d2'] (by simp) (by simp)⟩
   ·cases nh
  ·cases nh
 ·cases nh
theorem Re (hT:mP g.P g.T) (hm:g.P.follows .mixedOrders=true) {rm:Nat}:∀ (n:Nat) {todo k:List Item} {st st':St} {c:CT},Us g.P g.T g.nt rm g.md g.pr n todo st=some (k,st',c)→c.ok→G g k st'→G g todo st
 | 0,_,_,_,_,_,h,_,_=>by cases h
 | n+1,todo,k,st,st',c,h,hc,hg=>by
  unfold Us at h
  split at h
  ·simp only [Option.some.injEq,Prod.mk.injEq] at h
   obtain ⟨rfl,rfl,rfl⟩:=h
   exact hg
  ·split at h
   ·rename_i k1 l9 c1 hs
    split at h
    ·rename_i k2 st2 c2 hr
     simp only [Option.some.injEq,Prod.mk.injEq] at h
     obtain ⟨rfl,rfl,rfl⟩:=h
     exact fp hT hm hs hc.1 (Re hT hm n hr hc.2 hg)
    ·cases h
   ·cases h
theorem CP:∀ (n:Nat) {g:Goal} (hT:mP g.P g.T) (hm:g.P.follows .mixedOrders=true) (hf:g.P.funcs[g.f]? = some g.fn) (hz:g.md=0→g.VE∧∀ {C C' b cs m},Reb C C'→g.Z C' b cs m→g.Z C b cs m) (rm:Nat) {α:Type} (todo:List Item) (st:St) (L:α→YC) (sk:Sk α) (lp:α→Prop),
  (nj g.P g.T g.nt g.fn.results.toList rm g.md g.pr n todo st L sk).ok→sk.bE lp→(∀ a,a=sk.val→lp a→Ur g (L a))→G g todo st
 | 0,_,_,_,_,_,_,_,todo,st,L,sk,lp,h,_,_=>h.elim
 | n+1,g,hT,hm,hf,hz,rm,α,todo,st,L,sk,lp,h,ho,hL=>by
  have ih:=fun {α:Type}=>CP n hT hm hf hz rm (α:=α)
  unfold nj at h
  split at h
  ·-- op
   rename_i κ k
   split at h
   ·rename_i hl
    exact G.op hl fun m _=>ih _ _ L (k m) lp (h m) (ho m).2 (fun a ha=>hL a (ha.trans (ho m).1))
   ·exact h.elim
  ·-- oq
   rename_i κ q k
   split at h
   ·rename_i q' hl
    obtain ⟨h0,h⟩:=h
    have h0:q'=q:=h0
    subst h0
    exact G.op hl fun m hm=>ih _ _ L (k m) lp (h m) (ho m hm).2 (fun a ha=>hL a (ha.trans (ho m hm).1))
   ·exact h.elim
  ·-- cq
   rename_i κ m q' k
   split at h
   ·rename_i q f hl
    obtain ⟨h1,h2,h3⟩:=h
    exact G.cl hl h1 h2 ho.1 (ih _ _ L k lp h3 ho.2 hL)
   ·exact h.elim
  ·-- cl
   rename_i κ m k
   split at h
   ·rename_i q f hl
    obtain ⟨h1,h2,h3⟩:=h
    exact G.cl hl h1 h2 (q:=mxT) trivial (ih _ _ L k lp h3 ho hL)
   ·exact h.elim
  ·-- K1
   rename_i id x c k
   split at h
   ·rename_i i ops K
    rw [Bool.cond_eq_ite] at h
    split at h
    ·split at h
     ·rename_i ts ti ty d1 d2 d3 AU
      split at h
      ·rename_i κ m xx e' _ _ _ _ Tv hti K2
       split at h
       ·rename_i e q m2 f ii hl he
        obtain ⟨h0,h1,h2,h3,h4,h5⟩:=h
        have h0:(Nat.ble (d1+1) g.nt&&Nat.ble (d2+1) g.nt&&Nat.ble (d3+1) g.nt&&Em g.md g.pr ops&&Nat.beq e e'&&Nat.beq q ii.size&&ii.zero.all wM&&!Nat.beq ts d1&&!Nat.beq ts d2&&!Nat.beq ts d3)=true:=h0
        simp only [Bool.and_eq_true,Bool.not_eq_true'] at h0
        obtain ⟨⟨⟨⟨⟨⟨⟨⟨⟨b1,b2⟩,b3⟩,b4⟩,b5⟩,b6⟩,b7⟩,b8⟩,b9⟩,b10⟩:=h0
        have h1:xx=x:=h1
        have h2:m=m2:=h2
        have h3:m=c.n:=h3
        have h4:vl xx.toNat f ii.zero=c.f:=h4
        have b5:=Nat.eq_of_beq_eq_true b5
        have b6:=Nat.eq_of_beq_eq_true b6
        subst h1; subst h2; subst b5
        obtain ⟨⟨o1,o2⟩,o3⟩:=ho
        have ne:∀ d,Nat.beq ts d=false→¬ ts=d:=fun d hd e=>by rw [e,Nat.beq_refl] at hd; cases hd
        refine G.K1 hT hm b4 AU (Nat.le_of_ble_eq_true b1) (Nat.le_of_ble_eq_true b2) (Nat.le_of_ble_eq_true b3) Tv hti hl K2 rfl he b6 b7 o1 (by rw [h3]; exact o2) (.le ?_ (.jf _ (ih _ _ L k lp h5 o3 hL)))
        have hcn:m=c.n':=h3.trans c.eq.1
        rintro C a w ⟨S,μ,eX⟩
        refine ⟨S,μ,fun ν=>(eX ν).weaken (fun t v hv=>?_) (fun κ' b' mQ=>?_)⟩
        ·simp only [St.fZ,St.get,cg,ng] at hv ⊢
         by_cases ht:ts=t
         ·subst ht
          simp only [if_true]
          rw [if_neg (by simp only [List.mem_cons,List.not_mem_nil,or_false,not_or]; exact ⟨ne _ b8,ne _ b9,ne _ b10⟩)] at hv
          simp only [St.get] at Tv
          rw [Tv,hcn] at hv
          exact hv
         ·have e1:(t∈[ts,d1,d2,d3])↔(t∈[d1,d2,d3]):=by
           rw [List.mem_cons]
           exact ⟨fun h=>h.elim (fun e=>absurd e.symm ht) (fun h=>h),.inr⟩
          simp only [ht,if_false,e1]
          exact hv
        ·simp only [St.fZ,cg,ng] at mQ ⊢
         by_cases hk:κ=κ'
         ·simp only [hk,if_true,Option.some.injEq] at mQ ⊢
          subst mQ
          refine ⟨_,rfl,fun y hy=>?_⟩
          rw [h4] at hy
          exact TX hcn (fun i hi=>c.eq.2 i (by rw [← h3]; exact hi)) y hy
         ·simp only [hk,if_false] at mQ ⊢
          exact ⟨b',mQ,fun _ h=>h⟩
       ·exact h.elim
      ·exact h.elim
     ·exact h.elim
    ·split at h
     ·rename_i k0 l9 c0 hs
      exact fp hT hm hs h.1 (ih _ _ L (.K1 id x c k) lp h.2 ho hL)
     ·exact h.elim
   ·split at h
    ·rename_i k0 l9 c0 hs
     exact fp hT hm hs h.1 (ih _ _ L (.K1 id x c k) lp h.2 ho hL)
    ·exact h.elim
  ·-- wi
   rename_i t a b k
   obtain ⟨h1,h2⟩:=h
   obtain ⟨o1,o2⟩:=ho
   refine .le (M3.put t h1 (y:=.d (.v (.int .i64 b))) ?_) (ih _ _ L k lp h2 o2 hL)
   subst o1
   exact qk.rfl'
  ·-- Ij
   rename_i t j m k
   split at h
   ·rename_i q hq
    obtain ⟨h1,h2⟩:=h
    have h1:q=m:=h1
    subst h1
    exact G.Nb hq fun hb=>ih _ _ L k lp h2 (ho hb) hL
   ·exact h.elim
  ·-- wn
   rename_i κ a b k
   obtain ⟨h1,h2,h3⟩:=h
   obtain ⟨o1,o2⟩:=ho
   subst o1
   rw [Q7 h1,yC h2] at h3
   exact ih _ _ L k lp h3 o2 hL
  ·exact (ho:False).elim
  ·-- O2
   rename_i t m k1 k2
   split at h
   ·rename_i q f hq
    obtain ⟨h1,h2,h3⟩:=h
    have h1:q=m:=h1
    subst h1
    refine G.O2 hq (fun h0=>?_) (ih _ _ L k2 lp h3 ho.2 hL)
    exact ih _ _ L k1 lp h2 (ho.1 h0).1 (fun a ha=>hL a (by rw [ha,(ho.1 h0).2]; rfl))
   ·exact h.elim
  ·-- fz
   rename_i κ k
   split at h
   ·rename_i e0 k0 q f hq
    exact .le (M3.fz hq h.1 h.2.1) (ih _ _ L k lp h.2.2 ho hL)
   ·exact h.elim
  ·-- mr
   rename_i γ m V init u v b k
   split at h
   ·rename_i c K
    split at h
    ·rename_i ops l hh
     split at h
     ·rename_i it d1 d2 hn
      rw [Bool.cond_eq_ite] at h
      split at h
      ·rename_i hb
       simp only [Bool.and_eq_true] at hb
       have Te:=Nat.le_of_ble_eq_true hb.1.1
       have VF:=Nat.le_of_ble_eq_true hb.1.2
       obtain ⟨h1,h2,h3⟩:=h
       obtain ⟨oi,ob,oc,o3⟩:=ho
       have hV:∀ g i,V g→i < m→V ((b g i).val):=fun g i hg hi=>(b g i).dA (ob g i hg hi).1
       have o1:∀ s:List Nat,s.Perm (List.range m)→s.foldr (fun i g=>(b g i).val) init=(List.range m).foldr (fun i g=>(b g i).val) init:=fun s hs=>PG (f:=fun g i=>(b g i).val) hV oc oi hs (fun i hi=>List.mem_range.1 (hs.mem_iff.1 hi))
       have o2:∀ (s:List Nat) (i:Nat),(∀ j,j∈s→j < m)→i < m→(b (s.foldr (fun i g=>(b g i).val) init) i).bE fun _=>True:=fun s i hs hi=>(ob _ i (uA (f:=fun g i=>(b g i).val) hV oi s hs) hi).2
       have key:∀ (q:Nat) (s:List Nat),s.Nodup→(∀ j,j∈s→j < m)→m - s.length < q→G g (.code c :: .inLoop c :: K) (st.AY (Nat.lor rm (jS (.inLoop c :: K))) (u (s.foldr (fun i g=>(b g i).val) init) s)):=by
        intro q
        induction q with
        | zero=>intro s _ _ iR; omega
        | succ q ihq =>
         intro s WZ iR hq
         have h2:=h2 (s.foldr (fun i g=>(b g i).val) init) s
         dsimp only at h2
         split at h2
         ·rename_i κi VC
          split at h2
          ·rename_i κ m1 s1 X1
           split at h2
           ·rename_i m2 f hl
            obtain ⟨e1,e2,e3,e4,e5⟩:=h2
            have e1:m1=m:=e1
            have e2:m2=m:=e2
            have e3:s1=s:=e3
            subst e1; subst e2; subst e3
            refine G.mT hh (fun id=>G.next hm hb.2 hn Te VF VC X1 hl (fun i hi hni=>?_) (fun uo=>?_))
            ·refine ih _ _ _ (b _ i) _ (e5 i) (o2 s1 i iR hi) (fun g' hg' _=>?_)
             subst hg'
             refine .inLoop (ihq (i :: s1) (List.nodup_cons.2 ⟨hni,WZ⟩) (fun j hj=>?_) ?_)
             ·rcases List.mem_cons.1 hj with rfl | hj
              ·exact hi
              ·exact iR j hj
             ·have hle:(i :: s1).length≤m2:=by
               have:=List.Nodup.length_le_of_subset (l₁:=i :: s1) (l₂:=List.range m2) (List.nodup_cons.2 ⟨hni,WZ⟩) (fun j hj=>by
                rcases List.mem_cons.1 hj with rfl | hj
                ·exact List.mem_range.2 hi
                ·exact List.mem_range.2 (iR j hj))
               simpa using this
              simp only [List.length_cons] at hle ⊢
              omega
            ·have hp:s1.Perm (List.range m2):=(List.perm_ext_iff_of_nodup WZ List.nodup_range).2 (fun j=>⟨fun hj=>List.mem_range.2 (iR j hj),fun hj=>uo j (List.mem_range.1 hj)⟩)
             refine .le (yB e4) ?_
             rw [o1 s1 hp]
             exact ih _ _ L (k _) lp (h3 _) (o3 _ rfl (uA (f:=fun g i=>(b g i).val) hV oi _ (fun i hi=>List.mem_range.1 hi))) hL
           ·exact h2.elim
          ·exact h2.elim
         ·exact h2.elim
       intro C c1 c2 a w O0 hs
       exact (key (m+1) [] List.nodup_nil (fun j hj=>by cases hj) (by simp) C c1 c2 a w O0 (yB h1 C a w hs)).step fun _ _=>.one stepR_loop
      ·exact h.elim
     ·exact h.elim
    ·exact h.elim
   ·split at h
    ·rename_i k0 l9 c hs
     exact fp hT hm hs h.1 (ih _ _ L (.mr m V init u v b k) lp h.2 ho hL)
    ·exact h.elim
  ·-- K7
   rename_i x
   split at h
   ·exact .cond h.1 (fun _=>ih _ _ L x lp h.2 ho hL) (fun he=>by cases he)
   ·split at h
    ·rename_i k l9 c hs
     exact fp hT hm hs h.1 (ih _ _ L (.K7 x) lp h.2 ho hL)
    ·exact h.elim
  ·-- K8
   rename_i x
   split at h
   ·exact .cond h.1 (fun he=>by cases he) (fun _=>ih _ _ L x lp h.2 ho hL)
   ·split at h
    ·rename_i k l9 c hs
     exact fp hT hm hs h.1 (ih _ _ L (.K8 x) lp h.2 ho hL)
    ·exact h.elim
  ·-- Q5
   rename_i t c x y k1 k2
   obtain ⟨h1,h2,h3⟩:=h
   have h1:St.get st.sl t=Wp c x y:=h1
   rw [Wq] at h1
   cases c with
   | true=>exact .le (M3.put t h1 qk.rfl') (ih _ _ L k1 lp h2 (ho.1 rfl) hL)
   | false=>exact .le (M3.put t h1 qk.rfl') (ih _ _ L k2 lp h3 (ho.2 rfl) hL)
  ·-- fin
   rename_i a
   have IC:=hL a rfl ho
   split at h
   ·rename_i Ge st' hl
    rw [hl] at IC
    rw [Bool.cond_eq_ite] at h
    split at h
    ·obtain ⟨h1,h2⟩:=h
     have h1:todo=Ge:=h1
     subst h1
     exact .le (yB h2) IC
    ·split at h
     ·rename_i k l9 c hs
      exact fp hT hm hs h.1 (ih _ _ L (.fin a) lp h.2 ho hL)
     ·exact h.elim
   ·rename_i id st' hl
    rw [hl] at IC
    split at h
    ·rename_i id' k
     rw [Bool.cond_eq_ite] at h
     split at h
     ·rename_i hb
      simp only [Bool.and_eq_true,Option.isNone_iff_eq_none] at hb
      obtain rfl:=Nat.eq_of_beq_eq_true hb.1
      exact .le (yB h) (IC k hb.2)
     ·split at h
      ·rename_i k l9 c hs
       exact fp hT hm hs h.1 (ih _ _ L (.fin a) lp h.2 ho hL)
      ·exact h.elim
    ·split at h
     ·rename_i k l9 c hs
      exact fp hT hm hs h.1 (ih _ _ L (.fin a) lp h.2 ho hL)
     ·exact h.elim
   ·rename_i x cZ hl
    rw [hl] at IC
    split at h
    ·exact (Rc IC.1 hT hf h IC.2.1 IC.2.2).1
    ·exact (Rc IC.1 hT hf h IC.2.1 IC.2.2).2 _
    ·split at h
     ·rename_i k l9 c hs
      exact fp hT hm hs h.1 (ih _ _ L (.fin a) lp h.2 ho hL)
     ·exact h.elim
   ·rename_i x cZ lg hl
    rw [hl] at IC
    split at h
    ·exact (Nd IC.1 hT hf h IC.2.1 IC.2.2).1
    ·exact (Nd IC.1 hT hf h IC.2.1 IC.2.2).2 _
    ·split at h
     ·rename_i k l9 c hs
      exact fp hT hm hs h.1 (ih _ _ L (.fin a) lp h.2 ho hL)
     ·exact h.elim
  ·-- br
   rename_i e x y
   split at h
   ·rename_i c p q k
    obtain ⟨h1,h2,h3⟩:=h
    refine .cond h1 (fun he=>?_) (fun he=>?_)
    ·exact ih _ _ L x lp h2 (ho.1 he) (fun a ha=>hL a (by rw [ha]; simp [Sk.val,he]))
    ·exact ih _ _ L y lp h3 (ho.2 he) (fun a ha=>hL a (by rw [ha]; simp [Sk.val,he]))
   ·split at h
    ·rename_i k l9 c hs
     exact fp hT hm hs h.1 (ih _ _ L (.br e x y) lp h.2 ho hL)
    ·exact h.elim
  ·-- r
   rename_i β id cl kk
   split at h
   ·rename_i i ops draw k
    rw [Bool.cond_eq_ite] at h
    split at h
    ·have h:=h cl.v
     dsimp only at h
     split at h
     ·rename_i st' ob hr
      obtain ⟨h0,h1,h2,h3⟩:=h
      have h2:ob.prop=cl.sP cl.v:=h2
      exact .region hT hm h0 hr (Ob.Gm h1 (fun p hp=>cl.pf ho.1 p (h2 ▸ hp))) (.jf _ (ih _ _ L (kk cl.v) lp h3 (ho.2 _ rfl cl.hp) hL))
     ·exact h.elim
    ·split at h
     ·rename_i k l9 c hs
      exact fp hT hm hs h.1 (ih _ _ L (.r id cl kk) lp h.2 ho hL)
     ·exact h.elim
   ·split at h
    ·rename_i k l9 c hs
     exact fp hT hm hs h.1 (ih _ _ L (.r id cl kk) lp h.2 ho hL)
    ·exact h.elim
  ·-- bind at a block
   rename_i β J s u kk
   split at h
   ·rename_i id c k
    obtain ⟨h1,h2⟩:=h
    refine .block (ih _ _ _ s _ h1 ho.1 (fun q hq ZL=>?_))
    cases q with
    | inl a=>exact hL a (by simp only [Sk.val,← hq,dZ]) ZL
    | inr b=>exact ih _ _ L (kk b) lp (h2 b) (ho.2 b hq.symm ZL) (fun a ha=>hL a (by rw [ha]; simp only [Sk.val,← hq,dZ]))
   ·split at h
    ·rename_i k l9 c hs
     exact fp hT hm hs h.1 (ih _ _ L (.bind true J s u kk) lp h.2 ho hL)
    ·exact h.elim
  ·-- bind at a choice
   rename_i β J s u kk
   split at h
   ·rename_i c p q k
    obtain ⟨h1,h2⟩:=h
    refine ih _ _ _ s _ h1 ho.1 (fun q hq ZL=>?_)
    cases q with
    | inl a=>exact hL a (by simp only [Sk.val,← hq,dZ]) ZL
    | inr b=>exact ih _ _ L (kk b) lp (h2 b) (ho.2 b hq.symm ZL) (fun a ha=>hL a (by rw [ha]; simp only [Sk.val,← hq,dZ]))
   ·split at h
    ·rename_i k l9 c hs
     exact fp hT hm hs h.1 (ih _ _ L (.bind false J s u kk) lp h.2 ho hL)
    ·exact h.elim
  ·-- loop
   rename_i ι d I m i0 u b
   split at h
   ·rename_i c k
    obtain ⟨h1,h2⟩:=h
    obtain ⟨o1,o2⟩:=ho
    have key:∀ (q:Nat) (i:ι),I i→m i < q→(∀ a,a=iter (fun i=>(b i).val) d q i→lp a→Ur g (L a))→G g (.code c :: .inLoop c :: k) (st.AY (Nat.lor rm (jS (.inLoop c :: k))) (u i)):=by
     intro q
     induction q with
     | zero=>intro i _ iR; omega
     | succ q ihq =>
      intro i hi iR IC
      refine ih _ _ _ (b i) _ (h2 i) (o2 i hi) (fun r hr hlr=>?_)
      cases r with
      | inl a=>exact IC a (by simp only [iter,← hr]) hlr
      | inr j=>exact .inLoop (ihq j hlr.1 (by have:=hlr.2; omega) (fun a ha=>IC a (by rw [ha]; simp only [iter,← hr])))
    intro C c1 c2 a w O0 hs
    exact (key (m i0+1) i0 o1 (Nat.lt_succ_self _) hL C c1 c2 a w O0 (yB h1 C a w hs)).step fun _ _=>.one stepR_loop
   ·split at h
    ·rename_i k l9 c hs
     exact fp hT hm hs h.1 (ih _ _ L (.loop d I m i0 u b) lp h.2 ho hL)
    ·exact h.elim
  ·-- rf
   rename_i σ β Y it I B id s0 u v b kk
   split at h
   ·rename_i t ps OZ body k
    obtain ⟨h1,h2,h3,h4,h5,h6,h7,h8,h9,h10⟩:=h
    obtain ⟨o1,o2,o3,o4⟩:=ho
    have hpr:g.md=0:=Nat.eq_of_beq_eq_true h1
    obtain ⟨hn,acr⟩:=hz hpr
    have h4:some (Yg g.P it.gf it.cR (it.ys.map it.enc))=some (Yg it.P it.gf it.cR (it.ys.map it.enc)):=h4
    have VC:Yg g.P it.gf it.cR (it.ys.map it.enc):=by rw [Option.some.inj h4]; exact it.pf o1
    have Xq:=fun i s y hs hy=>(b s y).dA (o3 i s y hs hy).1
    generalize XU:Mh rm (Item.code (.rangeFunc (.tmp t) ps OZ body) :: k)=mm at *
    refine G.rf hn acr it.ys it.enc (fun s y=>(b s y).val) s0 I (qA mm (bw [] st.sl)) (fun s=>st.AY mm ⟨[],u s⟩) (fun a=>st.AY mm ⟨[],v a⟩) id
     (fun s y=>Ut g.P g.T g.nt mm 1 ((qA mm (bw [] st.sl)).map (·.1)) n [.code OZ,.beginRound,.code body] ⟨wy ps.toList (it.enc y)++qA mm (bw [] st.sl),(st.AY mm ⟨[],u s⟩).lb⟩)
     (fun _=>rfl) (fun _=>rfl) (yB h6) h2 h3 VC h5 (fun y _=>h7 y) o2 (fun i s y hs hy=>?_) (fun s y tm Z zs hy hg=>?_) (fun i s y tm Z zs hs hy hg=>?_) ?_
    ·have:=Xq i s y hs hy
     show match (b s y).val with | .inl _=>True | .inr s'=>I (i+1) s'
     cases e:(b s y).val with
     | inl a=>trivial
     | inr s'=>rw [e] at this; exact this
    ·have h8:=(h8 s y).1
     unfold aaI at h8
     unfold Ut at hg
     split at h8
     ·rename_i k' st2 c ha
      rw [ha] at hg
      have hk:k'=[.beginRound,.code body]:=h8.2
      subst hk
      exact Re (g:=g.round _ tm Z zs) hT hm n ha h8.1 hg
     ·exact h8.elim
    ·have h8:=(h8 s y).2
     refine CP n (g:=g.round _ tm Z zs) hT hm hf (fun e=>by cases e) mm _ _ _ (b s y) (gd B (I (i+1))) h8 (o3 i s y hs hy).2 (fun q hq ZL=>?_)
     have hg:(match (b s y).val with | .inr s'=>G (g.round _ tm Z zs) [] (st.AY mm ⟨[],u s'⟩) | .inl b=>∀ k',exitTo id k'=none→G (g.round _ tm Z zs) (.code (.exit id) :: k') (st.AY mm ⟨[],v b⟩)):=hg
     cases q with
     | inl a=>rw [← hq] at hg; exact hg
     | inr j=>rw [← hq] at hg; exact hg
    ·have hr:=o4 _ rfl (J6 it.ys Xq s0 o2)
     cases e:sD (fun s y=>(b s y).val) it.ys s0 with
     | inr s =>
      rw [e] at hr
      exact ih _ _ L (kk (.inr s)) lp (h9 s) hr (fun a ha=>hL a (by rw [ha]; simp only [Sk.val,e]))
     | inl a =>
      rw [e] at hr
      exact ih _ _ L (kk (.inl a)) lp (h10 a) hr (fun a' ha=>hL a' (by rw [ha]; simp only [Sk.val,e]))
   ·split at h
    ·rename_i k l9 c hs
     exact fp hT hm hs h.1 (ih _ _ L (.rf it I B id s0 u v b kk) lp h.2 ho hL)
    ·exact h.elim
end
theorem iU.sk {P:Program} {T:List (Nat × TI)} (hT:mP P T) (hm:P.follows .mixedOrders=true) {f:FuncId} {fn:Func} {body:Code} {args:List AV} {cZ:List (Nat × bK)} {α:Type} (enc:α→AV) (za:α→List (Nat × bK)) (hf:P.funcs[f]? = some fn) (hb:fn.body=some body)
  (hc:(ib P f&&Nat.ble args.length fn.ntmps)=true) (n:Nat) (sk:Sk α) (h:nj P T fn.ntmps fn.results.toList (Bo fn.results.toList) 0 [] n [.code body] ⟨fm 0 args,cZ⟩ (fun a=>.ret (enc a) (za a)) sk=(nj P T fn.ntmps fn.results.toList (Bo fn.results.toList) 0 [] n [.code body] ⟨fm 0 args,cZ⟩ (fun a=>.ret (enc a) (za a)) sk).diag)
  (ho:sk.bE fun _=>True):iU P f args cZ (enc sk.val) (za sk.val):=by
 simp only [Bool.and_eq_true] at hc
 refine iU.intro (T:=T) hf hb hc.1 (Nat.le_of_ble_eq_true hc.2) ?_
 exact CP n (g:=.of P T fn.ntmps f fn (enc sk.val) (za sk.val)) hT hm hf (fun _=>⟨Goal.T7,fun {_ _ b _ _} hr hz=>ZN.reb (b:=b) hr hz⟩) _ _ _ _ sk _ (CT.DX h) ho (fun a ha _=>by subst ha; exact ⟨Goal.T7,rfl,rfl⟩)
end Go.Av
