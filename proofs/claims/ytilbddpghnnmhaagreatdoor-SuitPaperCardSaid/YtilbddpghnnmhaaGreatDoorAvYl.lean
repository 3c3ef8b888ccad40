/- Iterators: functions that hand values to a round. -/
import Derived.Test.YtilbddpghnnmhaaGreatDoorAvZ
set_option linter.unusedSimpArgs false
set_option linter.unusedVariables false
namespace Go.Av
open Go
set_option linter.unusedSectionVars false
variable [qz]
structure ItX (P:Program) (fi:FuncId) (nt:Nat) (ys:List (List AV)) where
 l:Nat
 w0:World
 S:Nat→Prop
 J:Nat→(Nat→Prop)→World→Prop
 Jx:(Nat→Prop)→World→Prop
 jk:∀ i F W W',J i F W→Kept W W' (fun b=>w0.heap.size≤b∧¬ F b∧¬ S b)→J i F W'
 jxk:∀ F W W',Jx F W→Kept W W' (fun b=>w0.heap.size≤b∧¬ F b∧¬ S b)→Jx F W'
 yl:∀ i F W (vs:Array Value),i < ys.length→J i F W→(∀ ν,kU W (fun _=>False) (fun _=>none) ν (ys.getD i []) vs.toList)→YieldAt Fence.wide 0 P l vs W fun e W'=>∃ F',(∀ b,F' b→F b∨W.heap.size≤b)∧(∀ b,F' b→b < W'.heap.size)∧Kept W W' F∧((e=.returned (.bool true)∧J (i+1) F' W')∨(e=.returned (.bool false)∧Jx F' W'))
variable {P : Program} {fi : FuncId} {nt : Nat} {ys : List (List AV)}
def ItX.yv (X:ItX P fi nt ys):Value:=.func (.yield X.l) #[] #[]
structure ItX.Rt (X:ItX P fi nt ys) (F:Nat→Prop) (C:Cx):Prop where
 dl:C.dl=[]
 sz:X.w0.heap.size≤C.w0.heap.size
 sub:∀ b,X.S b→C.S0 b
 dis:∀ b,C.S0 b→¬ F b
 bnd:∀ b,F b→b < C.w0.heap.size
 own:∀ b,C.T0 b→¬ F b∧X.w0.heap.size≤b
def ItX.H (X:ItX P fi nt ys) (i:Nat) (C:Cx):Prop:=∃ F,X.Rt F C∧X.J i F C.w0
def ItX.Hoff (X:ItX P fi nt ys) (C:Cx):Prop:=∃ F,X.Rt F C∧X.Jx F C.w0
def ItX.Fin (X:ItX P fi nt ys) (cs:List Frame) (m:Machine):Prop:=∃ v w' fr,((∃ F,X.J ys.length F w')∨∃ F,X.Jx F w')∧Steps P m (lone fr cs w')∧fr.fn=fi∧fr.leaving P w' (.returned v)
theorem ItX.Fin.steps {X:ItX P fi nt ys} {cs:List Frame} {m m':Machine} (hs:Steps P m m') (h:X.Fin cs m'):X.Fin cs m :=
 let ⟨v,w',fr,q1,q2,q3⟩:=h
 ⟨v,w',fr,q1,hs.trans q2,q3⟩
def ItX.g (X:ItX P fi nt ys) (T:List (Nat × TI)) (fn:Func) (H:Cx→Prop):ui :=
 ⟨P,T,nt,fi,fn,.any,[],2,[0],#[X.yv],fun C _ cs m=>H C→X.Fin cs m,fun _ _ cs m m' hs hz h=>.steps hs (hz h)⟩
theorem ItX.Rt.still {X:ItX P fi nt ys} {F:Nat→Prop} {C:Cx} {A:M} {a:Act} {w:World} {S:Nat→Prop} {μ:Mu} {ν:Nat→Bool} (hF:X.Rt F C) (h:Sim C A a w S μ ν):Kept C.w0 w (fun b=>X.w0.heap.size≤b∧¬ F b∧¬ X.S b) :=
 h.kept.mono' fun b hb=>⟨(hF.own b hb).2,(hF.own b hb).1,fun hs=>C.dis b (hF.sub b hs) hb⟩
theorem ItX.yield {X:ItX P fi nt ys} {F:Nat→Prop} {C:Cx} {A:M} {a:Act} {w:World} {S:Nat→Prop} {μ:Mu} {i:Nat} (hsim:∀ ν,Sim C A a w S μ ν) (hF:X.Rt F C) (hJ:X.J i F C.w0) (hi:i < ys.length) {vs:Array Value}
  (hr:∀ ν,kU w (fun _=>False) (fun _=>none) ν (ys.getD i []) vs.toList):YieldAt Fence.wide 0 P X.l vs w fun e W'=>∃ C',C'.P=C.P∧C'.nt=C.nt∧(∀ ν,Sim C' A a W' S μ ν)∧((e=.returned (.bool true)∧X.H (i+1) C')∨(e=.returned (.bool false)∧X.Hoff C')):=by
 have h0:=hsim fun _=>false
 obtain ⟨fn,tmps,asg,body,h1,h2⟩:=X.yl i F w vs hi (X.jk _ _ _ _ hJ (hF.still h0)) hr
 refine ⟨fn,tmps,asg,body,h1,h2.mono ?_⟩
 rintro e W' ⟨F',q1,q2,q3,q4⟩
 have hsz:=h0.kept.size
 have nS:∀ b,S b→¬ F b:=fun b hb hf=>by
  rcases h0.fresh b hb with h | h | h
  ·exact hF.dis b h hf
  ·have:=hF.bnd b hf; omega
  ·exact (hF.own b h).1 hf
 have nO:∀ b,ZW A μ b→¬ F b:=fun b hb hf=>by
  rcases h0.ownB hb with h | h
  ·have:=hF.bnd b hf; omega
  ·exact (hF.own b h).1 hf
 have hS:∀ b,S b→W'.heap[b]? = w.heap[b]?:=fun b hb=>q3.block b (h0.bound b hb) (nS b hb)
 have hcore:∀ ν,Core A a.tmps W' S μ ν:=fun ν=>(hsim ν).core.keep (fun _=>.inr rfl) hS (fun q hq=>q3.block q (by obtain ⟨_,_,hb⟩:=h0.core.ownAt hq; exact hb.lt) (nO q hq)) q3.size
 have hglob:ud W' S:=h0.glob.mono (fun _ x=>x) hS
 have hrt:X.Rt F' (Cx.at C.P C.nt W' S A μ hglob (hcore fun _=>false).mem (hcore fun _=>false).bound [] (fun d h=>by cases h) List.nodup_nil):=by
  refine ⟨rfl,Nat.le_trans hF.sz (Nat.le_trans hsz q3.size),fun b hb=>h0.stable b (hF.sub b hb),fun b hb hf=>?_,q2,fun b hb=>⟨fun hf=>?_,?_⟩⟩
  ·rcases q1 b hf with h | h
   ·exact nS b hb h
   ·have:=h0.bound b hb; omega
  ·rcases q1 b hf with h | h
   ·exact nO b hb h
   ·obtain ⟨_,_,hb'⟩:=h0.core.ownAt hb
    have:=hb'.lt
    omega
  ·rcases h0.ownB hb with h | h
   ·exact Nat.le_trans hF.sz h
   ·exact (hF.own b h).2
 refine ⟨Cx.at C.P C.nt W' S A μ hglob (hcore fun _=>false).mem (hcore fun _=>false).bound [] (fun d h=>by cases h) List.nodup_nil,rfl,rfl,fun ν=>(hcore ν).sim h0.tmps _ _ _ _ _ _ (h0.defers.trans hF.dl),?_⟩
 exact q4.imp (fun ⟨a,b⟩=>⟨a,F',hrt,b⟩) (fun ⟨a,b⟩=>⟨a,F',hrt,b⟩)
def YW (X:ItX P fi nt ys) (k:List Item) (ops:Array Oper) (H:Cx→Prop) (ya:List Nat) (kn:Option (Nat × Bool)) (l:List Nat) (st:St):Prop :=
 ∀ C:Cx,C.P=P→C.nt=nt→H C→∀ a w,(∀ u,u∈ya→a.tmps.getD u undef=X.yv)→(∀ s b,kn=some (s,b)→s < nt∧a.tmps.getD s undef=.bool b)→uh C st a w →
  wpOpsIn Fence.wide 0 P ops (fun e a' w'=>e=.normal∧∀ (b:Frame) (cs:List Frame),b.fn=fi→b.kind=.normal→b.roundOf=none→X.Fin cs (lone (b.atR a' k) cs w')) l a w
variable {X : ItX P fi nt ys} {k : List Item} {ops : Array Oper} {H : Cx → Prop} {ya : List Nat} {kn : Option (Nat × Bool)} {l : List Nat} {st st' : St}
theorem YW.le (h:LeS st st') (hg:YW X k ops H ya kn l st'):YW X k ops H ya kn l st:=fun C h1 h2 h3 a w h4 h5 h6=>hg C h1 h2 h3 a w h4 h5 (h C a w h6)
theorem YW.nil {T:List (Nat × TI)} {fn:Func} (h0:0∈ya) (h:G (X.g T fn H) k st):YW X k ops H ya kn [] st:=fun C h1 h2 h3 a w h4 _ h6 =>
 ⟨rfl,fun b cs e1 e2 e3=>h C h1 h2 a w (fun u hu=>by
  have hu:u=0:=by simpa [ItX.g] using hu
  subst hu
  exact h4 0 h0) h6 b cs e1 e2 ⟨fun _=>by show (2:Nat)≠1; decide,fun _=>e3⟩ h3⟩
theorem zjA {P:Program} {o o':Oper} {a:Act} {w:World} {next next':Act→World→Prop} {Q Q':Exit→Act→World→Prop} {n:Nat} (ho:o'.op=o.op) (hd':o'.dst=o.dst) (ht:o'.type=o.type) (hd:∀ c,o.op≠.defer c) (hn:∀ a w,next a w→next' a w) (hq:∀ e a w,Q e a w→e=.normal) (h:o'.wp P a w next Q):o.wpIn Fence.wide n P a w next' Q':=by
 refine ⟨fun _ _=>trivial,?_⟩
 rw [Oper.semAt_eq _ _ _ hd]
 unfold Oper.wp at h
 have he:execOp a.eval o'=execOp a.eval o:=by
  unfold execOp
  rw [ho,ht]
 rw [he] at h
 generalize (execOp a.eval o).run P w=r at *
 have no:¬ LetsOut Q:=fun ⟨_,_,q⟩=>by cases hq _ _ _ q
 have hdp:(Fence.wide.depth.isSome=true→1≤n):=fun h=>by simp [Fence.wide] at h
 cases r with
 | ok x w' =>
  cases x <;> simp only [Oper.upon,Oper.uponIn,hd'] at h ⊢ <;>
   first
    | exact hn _ _ h
    | exact ⟨hdp,(callsIn_wide.2 h).mono (fun e w'' he=>by cases e <;> first | exact hn _ _ he | exact absurd (hq _ _ _ he) (by simp) | exact absurd he no)⟩
    | exact ⟨hdp,fun c cs _=>by obtain ⟨v,w'',q,s⟩:=h c cs; exact ⟨v,w'',hn _ _ q,stepsIn_wide.2 s⟩⟩
 | halt x w'=>cases x <;> simp only [Oper.upon,Oper.uponIn] at h ⊢ <;> first | exact h.elim | exact absurd (hq _ _ _ h) (by simp)
theorem zm6 {P:Program} {pre ops:Array Oper} {Q Q':Exit→Act→World→Prop} {l:List Nat} (hpre:∀ i,i < pre.size→ops[i]? = pre[i]?) (hg:(pre.toList.all fun o=>match o.guard with | some (j,_)=>Nat.blt j pre.size | none=>true)=true) (hd:yY pre=true) (hq:∀ e a w,Q e a w→e=.normal) :
  ∀ (is:List Nat),(∀ i,i∈is→i < pre.size)→∀ a w,wpOps P pre Q is a w→(∀ a' w',Q .normal a' w'→wpOpsIn Fence.wide 0 P ops Q' l a' w')→wpOpsIn Fence.wide 0 P ops Q' (is++l) a w
 | [],_,a,w,h,hk=>hk a w h
 | i :: is,hi,a,w,h,hk=>by
  have hlt:=hi i (by simp)
  have ih:=zm6 (P:=P) (l:=l) (Q':=Q') hpre hg hd hq is (fun j hj=>hi j (by simp [hj]))
  simp only [wpOps,List.cons_append,wpOpsIn] at h ⊢
  rw [hpre i hlt]
  cases ho:pre[i]? with
  | none=>rw [ho] at h; exact ih a w h hk
  | some o =>
   rw [ho] at h
   simp only at h ⊢
   have hw:Region.wanted o (yielded ops a.tmps)=Region.wanted o (yielded pre a.tmps):=by
    unfold Region.wanted
    cases hgd:o.guard with
    | none=>rfl
    | some jw =>
     obtain ⟨j,want⟩:=jw
     simp only [List.all_eq_true] at hg
     have:=hg o (by obtain ⟨hi,rfl⟩:=Array.getElem?_eq_some_iff.1 ho; simp)
     rw [hgd] at this
     have hj:j < pre.size:=by simpa using this
     simp only [yielded,hpre j hj]
   rw [hw]
   split
   ·rename_i hw
    rw [if_pos hw] at h
    rcases h with h | ⟨_,_,_,q⟩
    ·exact zjA rfl rfl rfl (UJ hd ho) (fun a' w' hh=>ih a' w' hh hk) hq h
    ·cases hq _ _ _ q
   ·rename_i hw
    rw [if_neg hw] at h
    exact ⟨fun _ _=>trivial,ih _ w h hk⟩
theorem zcS {l:List Nat} {o:Oper} (h:Vm l #[o]=true) {a:Act} {v:Value} {u:Nat} (hu:u∈l):(a.put o.dst v).tmps.getD u undef=a.tmps.getD u undef:=by
 simp only [Vm,List.all_eq_true] at h
 have h1:=h u hu o (by simp)
 cases hd:o.dst with
 | none=>rfl
 | some d =>
  rw [hd] at h1
  exact kF _ _ _ _ (fun e=>by subst e; simp at h1)
theorem zl3 {l:List Nat} {pre:Array Oper} (h:Vm l pre=true) {K:Array Value→Prop} (hK:∀ t t':Array Value,(∀ u,u∈l→t'.getD u undef=t.getD u undef)→K t→K t'):zlo pre K:=fun i o a v ho hk =>
 hK _ _ (fun u hu=>zcS (l:=l) (by
  simp only [Vm,List.all_eq_true] at h ⊢
  intro t ht o' ho'
  have:o'=o:=by simpa using ho'
  subst this
  exact h t ht o' (by obtain ⟨hi,rfl⟩:=Array.getElem?_eq_some_iff.1 ho; simp)) hu) hk
def knL:Option (Nat × Bool)→List Nat
 | some (s,_)=>[s]
 | none=>[]
theorem YW.pre {T:List (Nat × TI)} (hT:TOk P T) (hm:P.follows .mixedOrders=true) {pre:Array Oper} {orc:List Orc} {ob:Ob} (hpre:∀ i,i < pre.size→ops[i]? = pre[i]?) (hg:(pre.toList.all fun o=>match o.guard with | some (j,_)=>Nat.blt j pre.size | none=>true)=true) (hd:yY pre=true) (hya:Vm ya pre=true)
  (hr:KV P T nt pre false none st orc=some (st',ob)) (hob:ob.den) (h:YW X k ops H ya none l st'):YW X k ops H ya none (List.range pre.size++l) st:=by
 intro C h1 h2 h3 a w h4 h5 h6
 have hw:=BQ (C:=C) (T:=T) (by rw [h1]; exact hT) (by rw [h1]; exact hm) (by rw [h1,h2]; exact hr) hob h6
 rcases hw with ⟨-,hw⟩ | ⟨e,-⟩
 ·rw [h1] at hw
  have hw:=VV (K:=fun t=>∀ u,u∈ya→t.getD u undef=X.yv) (zl3 hya fun t t' he hk u hu=>(he u hu).trans (hk u hu)) (fun e a w h=>h.1) _ a w h4 hw
  exact zm6 hpre hg hd (fun e a w h=>h.1.1) _ (fun i hi=>List.mem_range.1 hi) a w hw fun a' w' hh=>h C h1 h2 h3 a' w' hh.2 (fun s b e=>by cases e) hh.1.2
 ·cases e
def zbn (ops:Array Oper) (kn:Option (Nat × Bool)) (o:Oper):Option Bool :=
 match o.guard with
 | none=>some true
 | some (j,w)=>(match Fk ops j,kn with
  | some s,some (s',b)=>bif Nat.beq s s' then some (b == w) else none
  | _,_=>none)
theorem GS {o:Oper} {b:Bool} (h:zbn ops kn o=some b) {a:Act} (hk:∀ s b,kn=some (s,b)→s < a.tmps.size∧a.tmps.getD s undef=.bool b):Region.wanted o (yielded ops a.tmps)=b:=by
 unfold zbn at h
 unfold Region.wanted
 cases hgd:o.guard with
 | none=>rw [hgd] at h; simpa using h
 | some jw =>
  obtain ⟨j,want⟩:=jw
  rw [hgd] at h
  simp only at h ⊢
  split at h
  ·rename_i s s' b' hs
   rw [Bool.cond_eq_ite] at h
   split at h
   ·rename_i he
    have he:=Nat.eq_of_beq_eq_true he
    subst he
    obtain ⟨q1,q2⟩:=hk _ _ rfl
    rw [zna hs q1,q2]
    simp only [Option.some.injEq] at h
    subst h
    cases b' <;> cases want <;> rfl
   ·cases h
  ·cases h
theorem uh.drop {C:Cx} {a:Act} {w:World} {d:Nat} (h:uh C st a w) (hd:d < C.nt) (v:Value):uh C ⟨jt [d] st.sl,st.lb⟩ (a.put (some d) v) w:=by
 obtain ⟨S,μ,hs⟩:=h
 refine ⟨S,μ,fun ν=>?_⟩
 have:=(hs ν).put (dst:=some d) (x:=.any) (v:=v) (fun t e=>by cases e; exact hd) (.any _)
 refine this.weaken (fun u x hx=>?_) (fun κ b hb=>⟨b,hb,fun _ h=>h⟩)
 simp only [St.toM,M.putO,M.put] at hx ⊢
 by_cases e:u=d
 ·subst e
  have:St.get (jt [u] st.sl) u=.any:=by simp [St.get,gE]
  rw [this]
  exact .any _
 ·simp only [e,if_false] at hx
  have:St.get (jt [d] st.sl) u=St.get st.sl u:=by simp [St.get,gE,e]
  rw [this]
  exact hx
theorem uh.setv {C:Cx} {a:Act} {w:World} {d:Nat} (h:uh C st a w) (hd:d < C.nt) {x:AV} {v:Value} (hx:∀ S μ,(∀ ν,Sim C st.toM a w S μ ν)→∀ ν,Rel w S μ ν x v):uh C ⟨(d,x) :: jt [d] st.sl,st.lb⟩ (a.put (some d) v) w:=by
 obtain ⟨S,μ,hs⟩:=h
 refine ⟨S,μ,fun ν=>?_⟩
 have:=(hs ν).put (dst:=some d) (x:=x) (v:=v) (fun t e=>by cases e; exact hd) (hx S μ hs ν)
 refine this.weaken (fun u y hy=>?_) (fun κ b hb=>⟨b,hb,fun _ h=>h⟩)
 simp only [St.toM,M.putO,M.put] at hy ⊢
 rw [zeO]
 by_cases e:u=d
 ·subst e; simpa using hy
 ·rw [if_neg (fun h=>e h.symm)]; simpa [e] using hy
theorem zgk {o:Oper} (h:Vm (ya++knL kn) #[o]=true) {a:Act} (v:Value) (h4:∀ u,u∈ya→a.tmps.getD u undef=X.yv) (h5:∀ s b,kn=some (s,b)→s < nt∧a.tmps.getD s undef=.bool b) :
  (∀ u,u∈ya→(a.put o.dst v).tmps.getD u undef=X.yv)∧∀ s b,kn=some (s,b)→s < nt∧(a.put o.dst v).tmps.getD s undef=.bool b :=
 ⟨fun u hu=>(zcS h (by simp [hu])).trans (h4 u hu),fun s b e=>⟨(h5 s b e).1,(zcS h (by simp [knL,e])).trans (h5 s b e).2⟩⟩
theorem VN {P:Program} {Q:Exit→Act→World→Prop} {i:Nat} {o:Oper} {a:Act} {w:World} (ho:ops[i]? = some o) (hw:Region.wanted o (yielded ops a.tmps)=true) (h:o.wpIn Fence.wide 0 P a w (wpOpsIn Fence.wide 0 P ops Q l) Q):wpOpsIn Fence.wide 0 P ops Q (i :: l) a w:=by
 simp only [wpOpsIn,ho,hw,if_true]
 exact h
theorem YW.op {T:List (Nat × TI)} (hT:TOk P T) (hm:P.follows .mixedOrders=true) {i:Nat} {o:Oper} {ob:Ob} (ho:ops[i]? = some o) (hw:zbn ops kn o=some true) (hd:yY #[o]=true) (hya:Vm (ya++knL kn) #[o]=true)
  (hr:KV P T nt #[{ o with guard:=none }] false none st []=some (st',ob)) (hob:ob.den) (h:YW X k ops H ya kn l st'):YW X k ops H ya kn (i :: l) st:=by
 intro C h1 h2 h3 a w h4 h5 h6
 have hsz:a.tmps.size=nt:=by obtain ⟨S,μ,hs⟩:=h6; exact (hs fun _=>false).tmps.trans h2
 refine VN ho (GS hw fun s b e=>⟨hsz ▸ (h5 s b e).1,(h5 s b e).2⟩) ?_
 have hw:=BQ (C:=C) (T:=T) (by rw [h1]; exact hT) (by rw [h1]; exact hm) (by rw [h1,h2]; exact hr) hob h6
 rcases hw with ⟨-,hw⟩ | ⟨e,-⟩
 ·rw [h1] at hw
  have hw:=VV (K:=fun t=>(∀ u,u∈ya→t.getD u undef=X.yv)∧∀ s b,kn=some (s,b)→s < nt∧t.getD s undef=.bool b) (fun j o' a v ho' hk=>by
   have e:o' = { o with guard:=none }:=by
    match j,ho' with
    | 0,ho'=>simpa using ho'.symm
    | j+1,ho'=>simp at ho'
   subst e
   exact zgk (o:=o) hya v hk.1 hk.2) (fun e a w h=>h.1) _ a w ⟨h4,h5⟩ hw
  have e1:List.range (#[{ o with guard:=none }]:Array Oper).size=[0]:=rfl
  rw [e1] at hw
  simp only [wpOps,Region.wanted] at hw
  rcases hw with hw | ⟨_,_,_,q⟩
  ·exact zjA (o':={ o with guard:=none }) rfl rfl rfl (UJ (ops:=#[o]) hd (i:=0) rfl) (fun a' w' hh=>h C h1 h2 h3 a' w' hh.2.1 hh.2.2 hh.1.2) (fun e a w h=>h.1.1) hw
  ·cases q.1.1
 ·cases e
theorem YW.skip {i d:Nat} {o:Oper} (ho:ops[i]? = some o) (hw:zbn ops kn o=some false) (hd:o.dst=some d) (hdn:d < nt) (hya:Vm (ya++knL kn) #[o]=true) (h:YW X k ops H ya kn l ⟨jt [d] st.sl,st.lb⟩):YW X k ops H ya kn (i :: l) st:=by
 intro C h1 h2 h3 a w h4 h5 h6
 have hsz:a.tmps.size=nt:=by obtain ⟨S,μ,hs⟩:=h6; exact (hs fun _=>false).tmps.trans h2
 have hw:=GS hw (a:=a) fun s b e=>⟨hsz ▸ (h5 s b e).1,(h5 s b e).2⟩
 obtain ⟨q1,q2⟩:=zgk hya undef h4 h5
 simp only [wpOpsIn,ho,hw]
 exact ⟨fun _ _=>trivial,h C h1 h2 h3 _ w q1 q2 (by rw [hd]; exact h6.drop (by rw [h2]; exact hdn) _)⟩
theorem YW.value {i d:Nat} {o:Oper} {x:AV} (ho:ops[i]? = some o) (hw:zbn ops kn o=some true) (hd:o.dst=some d) (hdn:d < nt) (hdf:yY #[o]=true) (hya:Vm (ya++knL kn) #[o]=true)
  (hx:∀ (a:Act) (w:World),(∀ u,u∈ya→a.tmps.getD u undef=X.yv)→(∀ s b,kn=some (s,b)→s < nt∧a.tmps.getD s undef=.bool b)→∃ v,(execOp a.eval o).run P w=.ok (.value v) w∧∀ C S μ,C.P=P→(∀ ν,Sim C st.toM a w S μ ν)→∀ ν,Rel w S μ ν x v)
  (h:YW X k ops H ya kn l ⟨(d,x) :: jt [d] st.sl,st.lb⟩):YW X k ops H ya kn (i :: l) st:=by
 intro C h1 h2 h3 a w h4 h5 h6
 have hsz:a.tmps.size=nt:=by obtain ⟨S,μ,hs⟩:=h6; exact (hs fun _=>false).tmps.trans h2
 refine VN ho (GS hw fun s b e=>⟨hsz ▸ (h5 s b e).1,(h5 s b e).2⟩) ⟨fun _ _=>trivial,?_⟩
 obtain ⟨v,q1,q2⟩:=hx a w h4 h5
 obtain ⟨q3,q4⟩:=zgk hya v h4 h5
 rw [Oper.semAt_eq _ _ _ (UJ (ops:=#[o]) (o:=o) hdf (i:=0) rfl),q1]
 simp only [Oper.uponIn]
 exact h C h1 h2 h3 _ w q3 q4 (by rw [hd]; exact h6.setv (by rw [h2]; exact hdn) (fun S μ hs=>q2 C S μ h1 hs))
theorem YW.mv {i d u:Nat} {o:Oper} (ho:ops[i]? = some o) (hw:zbn ops kn o=some true) (hd:o.dst=some d) (hdn:d < nt) (hya:Vm (ya++knL kn) #[o]=true) (hop:o.op=.move (.tmp u)) (hu:u∈ya) (h:YW X k ops H (d :: ya) kn l ⟨jt [d] st.sl,st.lb⟩):YW X k ops H ya kn (i :: l) st:=by
 intro C h1 h2 h3 a w h4 h5 h6
 have hsz:a.tmps.size=nt:=by obtain ⟨S,μ,hs⟩:=h6; exact (hs fun _=>false).tmps.trans h2
 refine VN ho (GS hw fun s b e=>⟨hsz ▸ (h5 s b e).1,(h5 s b e).2⟩) ⟨fun _ _=>trivial,?_⟩
 obtain ⟨q3,q4⟩:=zgk hya X.yv h4 h5
 have hv:a.eval (.tmp u)=X.yv:=h4 u hu
 have he:(execOp a.eval o).run P w=.ok (.value X.yv) w:=by
  simp only [execOp,hop,hv]
  rfl
 rw [Oper.semAt_eq _ _ _ (fun c e=>by rw [hop] at e; cases e),he]
 simp only [Oper.uponIn]
 refine h C h1 h2 h3 _ w (fun u' hu'=>?_) q4 (by rw [hd]; exact h6.drop (by rw [h2]; exact hdn) _)
 rcases List.mem_cons.1 hu' with e | e
 ·subst e
  rw [hd]
  exact zK _ _ _ (by rw [hsz]; exact hdn)
 ·exact q3 u' e
theorem YW.yl {i d u n:Nat} {o:Oper} {c:Call} {ts:List Nat} {y:List AV} (ho:ops[i]? = some o) (hw:zbn ops kn o=some true) (hd:o.dst=some d) (hdn:d < nt) (hya:Vm (ya++knL kn) #[o]=true) (hop:o.op=.call c) (hc:c.callee=.value (.tmp u)) (hu:u∈ya)
  (hn:ys[n]? = some y) (ha:c.args.toList=ts.map .tmp) (hy:ts.map (St.get st.sl)=y) (hf:y.all qU=true)
  (hon:YW X k ops (X.H (n+1)) ya kn l ⟨(d,.d (.v (.bool true))) :: jt [d] st.sl,st.lb⟩) (hoff:YW X k ops X.Hoff ya kn l ⟨(d,.d (.v (.bool false))) :: jt [d] st.sl,st.lb⟩):YW X k ops (X.H n) ya kn (i :: l) st:=by
 intro C h1 h2 h3 a w h4 h5 h6
 have hsz:a.tmps.size=nt:=by obtain ⟨S,μ,hs⟩:=h6; exact (hs fun _=>false).tmps.trans h2
 refine VN ho (GS hw fun s b e=>⟨hsz ▸ (h5 s b e).1,(h5 s b e).2⟩) ⟨fun _ _=>trivial,?_⟩
 obtain ⟨S,μ,hsim⟩:=h6
 obtain ⟨F,hF,hJ⟩:=h3
 have hlt:n < ys.length:=(List.getElem?_eq_some_iff.1 hn).1
 have hyn:ys.getD n []=y:=by simp [List.getD,hn]
 have hargs:(c.args.map a.eval).toList=ts.map fun t=>a.tmps.getD t undef:=by
  rw [Array.toList_map,ha,List.map_map]
  rfl
 have hrel:∀ ν,kU w (fun _=>False) (fun _=>none) ν (ys.getD n []) (c.args.map a.eval).toList:=fun ν=>by
  rw [hyn,hargs]
  subst hy
  refine ⟨by simp,fun j hj=>?_⟩
  have hj':j < ts.length:=by simpa using hj
  have h1:=(hsim ν).slots ts[j]
  have h2:qU (St.get st.sl ts[j])=true:=by
   simp only [List.all_eq_true] at hf
   exact hf _ (List.mem_map.2 ⟨_,List.getElem_mem hj',rfl⟩)
  have h3:=zji h2 (w':=w) (S':=fun _=>False) (μ':=fun _=>none) (ν':=ν) h1
  simpa [List.getD,hj',St.toM] using h3
 have hv:a.eval (.tmp u)=X.yv:=h4 u hu
 obtain ⟨fn,tmps,asg,body,q1,q2⟩:=X.yield hsim hF hJ hlt hrel
 have he:(execOp a.eval o).run P w=(Instr.yield X.l (c.args.map a.eval)).run P w:=by
  simp only [execOp,hop,resolve,hc,hv,ItX.yv,Deferred.ofValue]
  simp [invoke,go_sem]
 rw [Oper.semAt_eq _ _ _ (fun c e=>by rw [hop] at e; cases e),he,q1]
 refine ⟨fun h=>by simp [Fence.wide] at h,q2.mono ?_⟩
 rintro e W' ⟨C',c1,c2,c3,c4⟩
 have fin:∀ (b:Bool) (H':Cx→Prop),H' C'→YW X k ops H' ya kn l ⟨(d,.d (.v (.bool b))) :: jt [d] st.sl,st.lb⟩→wpOpsIn Fence.wide 0 P ops (fun e a' w'=>e=.normal∧∀ (b:Frame) (cs:List Frame),b.fn=fi→b.kind=.normal→b.roundOf=none→X.Fin cs (lone (b.atR a' k) cs w')) l (a.put o.dst (.bool b)) W':=by
  intro b H' hH hYW
  obtain ⟨q3,q4⟩:=zgk hya (.bool b) h4 h5
  exact hYW C' (c1.trans h1) (c2.trans h2) hH _ W' q3 q4 (by rw [hd]; exact uh.setv ⟨S,μ,c3⟩ (by rw [c2,h2]; exact hdn) (fun S μ _ ν=>zD rfl))
 rcases c4 with ⟨rfl,hH⟩ | ⟨rfl,hH⟩
 ·exact fin true _ hH hon
 ·exact fin false _ hH hoff
def evC (P:Program) (T:List (Nat × TI)) (nt:Nat) (pre:Array Oper) (st:St) (orc:List Orc) (claim:Option Prop) (J:St):CT :=
 match KV P T nt pre false none st orc with
 | some (st',ob)=>.two ob.eqs (.two (.po ob.prop claim) (zh2 st' J))
 | none=>.bad
theorem zpP {P:Program} {T:List (Nat × TI)} {nt:Nat} {pre:Array Oper} {orc:List Orc} {claim:Option Prop} {J:St} (h:(evC P T nt pre st orc claim J).ok) (hc:∀ p,claim=some p→p):∃ st' ob,KV P T nt pre false none st orc=some (st',ob)∧ob.den∧LeS st' J:=by
 unfold evC at h
 split at h
 ·rename_i st' ob hr
  obtain ⟨h1,h2,h3⟩:=h
  have h2:ob.prop=claim:=h2
  exact ⟨st',ob,hr,Ob.den_of h1 (fun p hp=>hc p (h2 ▸ hp)),Yq h3⟩
 ·exact h.elim
def preB (ya:List Nat) (pre:Array Oper):Bool:=(pre.toList.all fun o=>match o.guard with | some (j,_)=>Nat.blt j pre.size | none=>true)&&yY pre&&Vm ya pre
theorem YW.preC {T:List (Nat × TI)} (hT:TOk P T) (hm:P.follows .mixedOrders=true) {α:Type} (cl:Cal α) (j:Nat) (J:α→St) (hb:preB ya ((ops.toList.take j).toArray)=true) (hj:j≤ops.size)
  (h:∀ x,evC P T nt ((ops.toList.take j).toArray) st (cl.orc x) (cl.claim x) (J x)=(evC P T nt ((ops.toList.take j).toArray) st (cl.orc x) (cl.claim x) (J x)).diag) (hp:cl.pre) (hk:YW X k ops H ya none (List.range' j (ops.size - j)) (J cl.v)):YW X k ops H ya none (List.range ops.size) st:=by
 obtain ⟨st',ob,hr,hob,hle⟩:=zpP (CT.ok_of (h cl.v)) (fun p e=>cl.pf hp p e)
 simp only [preB,Bool.and_eq_true] at hb
 have hsz:((ops.toList.take j).toArray).size=j:=by simp; omega
 have:=YW.pre (ops:=ops) (H:=H) (k:=k) (l:=List.range' j (ops.size - j)) hT hm (pre:=(ops.toList.take j).toArray) (fun i hi=>by
  rw [hsz] at hi
  simp [List.getElem?_take,hi]) hb.1.1 hb.1.2 hb.2 hr hob (hk.le hle)
 rw [hsz] at this
 have e:List.range ops.size=List.range j++List.range' j (ops.size - j):=by
  rw [List.range_eq_range',List.range_eq_range']
  have:=List.range'_append (s:=0) (m:=j) (n:=ops.size - j) (step:=1)
  simp only [Nat.zero_add,Nat.one_mul] at this
  rw [this]
  congr 1
  omega
 rw [e]
 exact this
theorem YW.know {s:Nat} {b:Bool} (hs:St.get st.sl s=.d (.v (.bool b))) (hlt:s < nt) (h:YW X k ops H ya (some (s,b)) l st):YW X k ops H ya none l st:=by
 intro C h1 h2 h3 a w h4 h5 h6
 refine h C h1 h2 h3 a w h4 (fun s' b' e=>?_) h6
 simp only [Option.some.injEq,Prod.mk.injEq] at e
 obtain ⟨rfl,rfl⟩:=e
 obtain ⟨S,μ,hsim⟩:=h6
 have:=(hsim fun _=>false).slots s
 simp only [St.toM,hs] at this
 exact ⟨hlt,JD this⟩
def tlB (ops:Array Oper) (nt i:Nat) (ya:List Nat) (kn:Option (Nat × Bool)) (want:Bool):Bool :=
 match ops[i]? with
 | some o=>(match zbn ops kn o,o.dst with | some b,some d=>(b == want)&&Nat.ble (d+1) nt | _,_=>false)&&Vm (ya++knL kn) #[o]&&yY #[o]
 | none=>false
theorem zg0 {nt i:Nat} {want:Bool} (h:tlB ops nt i ya kn want=true):∃ o d,ops[i]? = some o∧zbn ops kn o=some want∧o.dst=some d∧d < nt∧Vm (ya++knL kn) #[o]=true∧yY #[o]=true:=by
 unfold tlB at h
 split at h
 ·rename_i o ho
  simp only [Bool.and_eq_true] at h
  obtain ⟨⟨h1,h2⟩,h3⟩:=h
  split at h1
  ·rename_i b d hb hd
   simp only [Bool.and_eq_true,beq_iff_eq] at h1
   obtain ⟨rfl,h1⟩:=h1
   exact ⟨o,d,ho,hb,hd,Nat.le_of_ble_eq_true h1,h2,h3⟩
  ·cases h1
 ·cases h
theorem YW.opC {T:List (Nat × TI)} (hT:TOk P T) (hm:P.follows .mixedOrders=true) {i:Nat} {o:Oper} (J:St) (ho:ops[i]? = some o) (hb:tlB ops nt i ya kn true=true)
  (h:evC P T nt #[{ o with guard:=none }] st [] none J=(evC P T nt #[{ o with guard:=none }] st [] none J).diag) (hk:YW X k ops H ya kn l J):YW X k ops H ya kn (i :: l) st:=by
 obtain ⟨o',d,q1,q2,q3,q4,q5,q6⟩:=zg0 hb
 rw [ho] at q1
 cases q1
 obtain ⟨st',ob,hr,hob,hle⟩:=zpP (CT.ok_of h) (fun p e=>by cases e)
 exact YW.op hT hm ho q2 q6 q5 hr hob (hk.le hle)
theorem YW.skipC {i d:Nat} {o:Oper} (ho:ops[i]? = some o) (hd:o.dst=some d) (hb:tlB ops nt i ya kn false=true) (hk:YW X k ops H ya kn l ⟨jt [d] st.sl,st.lb⟩):YW X k ops H ya kn (i :: l) st:=by
 obtain ⟨o',d',q1,q2,q3,q4,q5,q6⟩:=zg0 hb
 rw [ho] at q1
 cases q1
 rw [hd] at q3
 cases q3
 exact YW.skip ho q2 hd q4 q5 hk
theorem YW.mvC {i d u:Nat} {o:Oper} (ho:ops[i]? = some o) (hd:o.dst=some d) (hop:o.op=.move (.tmp u)) (hu:u∈ya) (hb:tlB ops nt i ya kn true=true) (hk:YW X k ops H (d :: ya) kn l ⟨jt [d] st.sl,st.lb⟩):YW X k ops H ya kn (i :: l) st:=by
 obtain ⟨o',d',q1,q2,q3,q4,q5,q6⟩:=zg0 hb
 rw [ho] at q1
 cases q1
 rw [hd] at q3
 cases q3
 exact YW.mv ho q2 hd q4 q5 hop hu hk
def zrL (sl:List (Nat × AV)):Operand→AV
 | .tmp t=>St.get sl t
 | .const v=>.d (.v v)
 | _=>.any
theorem YW.pickC {i d s:Nat} {b:Bool} {o:Oper} {x y:Operand} (e:Bool) (ho:ops[i]? = some o) (hd:o.dst=some d) (hop:o.op=.pick (.tmp s) x y) (hb:tlB ops nt i ya (some (s,b)) true=true) (he:zrL st.sl (bif b then x else y)=.d (.v (.bool e)))
  (hk:YW X k ops H ya (some (s,b)) l ⟨(d,.d (.v (.bool e))) :: jt [d] st.sl,st.lb⟩):YW X k ops H ya (some (s,b)) (i :: l) st:=by
 obtain ⟨o',d',q1,q2,q3,q4,q5,q6⟩:=zg0 hb
 rw [ho] at q1
 cases q1
 rw [hd] at q3
 cases q3
 refine YW.value ho q2 hd q4 q6 q5 (fun a w h4 h5=>?_) hk
 obtain ⟨hs,hv⟩:=h5 s b rfl
 have hv:a.eval (.tmp s)=.bool b:=hv
 refine ⟨a.eval (bif b then x else y),?_,fun C S μ hC hsim ν=>?_⟩
 ·simp only [execOp,hop,hv]
  cases b <;> simp [asBool,go_sem]
 ·generalize (bif b then x else y)=z at he
  rw [← he]
  cases z with
  | tmp t=>exact (hsim ν).slots t
  | const v =>
   simp only [zrL] at he ⊢
   cases he
   exact zD rfl
  | _=>exact .any _
theorem YW.ylC {i d u n:Nat} {o:Oper} {c:Call} {ts:List Nat} {y:List AV} (ho:ops[i]? = some o) (hd:o.dst=some d) (hop:o.op=.call c) (hc:c.callee=.value (.tmp u)) (hu:u∈ya) (hb:tlB ops nt i ya kn true=true)
  (hn:ys[n]? = some y) (ha:c.args.toList=ts.map .tmp) (hy:ts.map (St.get st.sl)=y) (hf:y.all qU=true)
  (hon:YW X k ops (X.H (n+1)) ya kn l ⟨(d,.d (.v (.bool true))) :: jt [d] st.sl,st.lb⟩) (hoff:YW X k ops X.Hoff ya kn l ⟨(d,.d (.v (.bool false))) :: jt [d] st.sl,st.lb⟩):YW X k ops (X.H n) ya kn (i :: l) st:=by
 obtain ⟨o',d',q1,q2,q3,q4,q5,q6⟩:=zg0 hb
 rw [ho] at q1
 cases q1
 rw [hd] at q3
 cases q3
 exact YW.yl ho q2 hd q4 q5 hop hc hu hn ha hy hf hon hoff
theorem G.yr {T:List (Nat × TI)} {fn:Func} {id:Nat} (h:YW X k ops H [0] none (List.range ops.size) st):G (X.g T fn H) (.code (.region id ops false) :: k) st:=by
 intro C h1 h2 a w hk hs b cs e1 e2 e3 h3
 have hr:b.roundOf=none:=e3.2 (by show (2:Nat)≠1; decide)
 have hw:(Code.region id ops false).wpIn Fence.wide 0 P _ a w:=wpIn_region (h C h1 h2 h3 a w (fun u hu=>by
  have:u=0:=by simpa using hu
  subst this
  exact hk 0 (by simp [ItX.g])) (fun s b e=>by cases e) hs)
 obtain ⟨e,a',w',⟨q1,q2⟩,harr⟩:=hw b k cs hr trivial (room_wide _)
 subst q1
 exact .steps (StepsIn.steps harr) (q2 b cs e1 e2 hr)
theorem ItX.run_out {T:List (Nat × TI)} {fn:Func} (hf:P.funcs[fi]? = some fn) (hrs:fn.results = #[]) {C:Cx} {F:Nat→Prop} (h1:C.P=P) {a:Act} {w:World} (hs:uh C st a w) (hF:X.Rt F C) (hJ:X.J ys.length F w∨X.Jx F w)
  {todo:List Item} (hst:∀ (b:Frame) (cs:List Frame),b.roundOf=none→Steps P (lone (b.atR a todo) cs w) (lone { b.atR a todo with mode:=.returning } cs w)) (b:Frame) (cs:List Frame) (hb1:b.fn=fi) (hb2:b.kind=.normal) (hb3:b.roundOf=none):X.Fin cs (lone (b.atR a todo) cs w):=by
 obtain ⟨S,μ,hsim⟩:=hs
 have h0:=hsim fun _=>false
 have hr:(results fn a.tmps).run P w=.ok (.tuple #[]) w:=by
  have:=Yc (C:=C) (fn:=fn) (a:=a) (w:=w) (vs:=[]) (by rw [hrs]; simp)
  rw [h1] at this
  exact this
 refine ⟨.tuple #[],w,{ b.atR a todo with mode:=.returning },hJ.imp (fun h=>⟨F,h⟩) (fun h=>⟨F,h⟩),hst b cs hb3,hb1,rfl,h0.defers.trans hF.dl,hb2,fn,?_,hr⟩
 show P.funcs[b.fn]? = _
 rw [hb1]; exact hf
theorem ItX.ret {T:List (Nat × TI)} {fn:Func} (hf:P.funcs[fi]? = some fn) (hrs:fn.results = #[]) (hH:∀ C,H C→X.H ys.length C∨X.Hoff C):G (X.g T fn H) [] st∧∀ k,G (X.g T fn H) (.code .ret :: k) st:=by
 have key:∀ (C:Cx) (a:Act) (w:World),H C→uh C st a w→∃ F,X.Rt F C∧(X.J ys.length F w∨X.Jx F w):=by
  intro C a w hC hs
  obtain ⟨S,μ,hsim⟩:=hs
  have h0:=hsim fun _=>false
  rcases hH C hC with ⟨F,hF,hJ⟩ | ⟨F,hF,hJ⟩
  ·exact ⟨F,hF,.inl (X.jk _ _ _ _ hJ (hF.still h0))⟩
  ·exact ⟨F,hF,.inr (X.jxk _ _ _ hJ (hF.still h0))⟩
 exact ⟨fun C h1 h2 a w _ hs b cs e1 e2 e3 hC=>by
   obtain ⟨F,hF,hJ⟩:=key C a w hC hs
   exact ItX.run_out (T:=T) hf hrs h1 hs hF hJ (fun b cs hb=>.one (stepR_end hb)) b cs e1 e2 (e3.2 (by show (2:Nat)≠1; decide)),
  fun k C h1 h2 a w _ hs b cs e1 e2 e3 hC=>by
   obtain ⟨F,hF,hJ⟩:=key C a w hC hs
   exact ItX.run_out (T:=T) hf hrs h1 hs hF hJ (fun b cs hb=>.one (stepR_ret hb)) b cs e1 e2 (e3.2 (by show (2:Nat)≠1; decide))⟩
theorem ItA.intro {P:Program} {T:List (Nat × TI)} {f:FuncId} {fn:Func} {body:Code} {caps:List AV} {ys:List (List AV)} (hf:P.funcs[f]? = some fn) (hb:fn.body=some body) (hc:qV P f=true) (hn:caps.length+1≤fn.ntmps)
  (h:∀ X:ItX P f fn.ntmps ys,G (X.g T fn (X.H 0)) [.code body] ⟨qe 1 caps,[]⟩):ItA P f caps ys:=by
 refine ⟨hc,fun w0 S μ cvs l J Jx F0 hS hgl hcap hSF hF hJk hJxk hyl hJ cs=>?_⟩
 let X:ItX P f fn.ntmps ys:=⟨l,w0,S,J,Jx,hJk,hJxk,hyl⟩
 let C:Cx:=⟨P,w0,S,fun _=>False,fn.ntmps,hgl,fun b hb h=>h.elim,hS,[],fun d h=>(by cases h),List.nodup_nil⟩
 let b:Frame:={ (default:Frame) with fn:=f,kind:=.normal,roundOf:=none }
 let vs:Array Value:=#[.func (.yield l) #[] #[]]++cvs
 have hl:cvs.size=caps.length:=by have:=(hcap fun _=>false).1; simpa using this
 have hvs:vs.size=caps.length+1:=by simp [vs,hl]; omega
 have henter:Frame.enter P f vs .normal=b.atR { tmps:=vs++Array.replicate (fn.ntmps - vs.size) undef,defers:=[] } [.code body]:=by
  simp [Frame.enter,Frame.atR,hf,hb,b]
 have hsim:uh C ⟨qe 1 caps,[]⟩ { tmps:=vs++Array.replicate (fn.ntmps - vs.size) undef,defers:=[] } w0:=by
  refine ⟨S,μ,fun ν=>⟨by simp only [C,Array.size_append,Array.size_replicate]; omega,rfl,fun t=>?_,fun κ b h=>by simp [St.toM,look] at h,fun κ κ' b b' g c c' h=>by simp [St.toM,look] at h,fun κ bk q c h1 h2=>by simp [St.toM,look] at h1,fun _ hb=>hb,fun _ hb=>.inl hb,hS,Kept.refl _ _⟩⟩
  simp only [St.toM,St.get,Zj]
  by_cases ht:1≤t∧t - 1 < caps.length
  ·rw [if_pos ht.1,List.getElem?_eq_getElem ht.2]
   have h2:=(hcap ν).2 (t - 1) ht.2
   rw [show caps.getD (t - 1) default=caps[t - 1] from by simp [List.getD,ht.2]] at h2
   have e:(vs++Array.replicate (fn.ntmps - vs.size) undef).getD t undef=cvs.toList.getD (t - 1) undef:=by
    rw [← getD_toList]
    simp only [Array.getD_eq_getD_getElem?]
    rw [Array.getElem?_append_left (by omega)]
    simp only [vs]
    rw [Array.getElem?_append_right (by simp; omega)]
    simp
   rw [e]
   exact h2
  ·by_cases h1:1≤t
   ·rw [if_pos h1,List.getElem?_eq_none (by omega)]
    exact .any _
   ·rw [if_neg h1]
    exact .any _
 obtain ⟨v,w',fr,q1,q2,q3,q4⟩:=h X C rfl rfl _ _ (fun u hu=>by
  have:u=0:=by simpa [ItX.g] using hu
  subst this
  simp only [ItX.g,ItX.yv,Array.getD_eq_getD_getElem?]
  rw [Array.getElem?_append_left (by omega)]
  simp only [vs,X]
  rw [Array.getElem?_append_left (by simp)]) hsim b cs rfl rfl ⟨fun _=>by show (2:Nat)≠1; decide,fun _=>rfl⟩
  ⟨F0,⟨rfl,Nat.le_refl _,fun _ h=>h,hSF,hF,fun b h=>h.elim⟩,hJ⟩
 exact ⟨.returned v,w',fr,⟨⟨v,rfl⟩,q1⟩,by show Steps _ _ _; rw [henter]; exact q2,q3,q4⟩
theorem zox {st st':St} (h:zh2 st st'=(zh2 st st').diag):LeS st st':=Yq (CT.ok_of h)
def cA:Code→Code
 | .seq x _=>x
 | .cond _ x _=>x
 | .block _ x=>x
 | .loop x=>x
 | c=>c
def cB:Code→Code
 | .seq _ y=>y
 | .cond _ _ y=>y
 | c=>c
def opsOf:Code→Array Oper
 | .region _ ops _=>ops
 | _=>#[]
theorem ItX.sk {T:List (Nat × TI)} {fn:Func} (hT:TOk P T) (hm:P.follows .mixedOrders=true) (hf:P.funcs[fi]? = some fn) {α:Type} (todo:List Item) (sk:Sk α) (L:α→zqt) (n:Nat) (h:chk P T nt fn.results.toList 0 2 [0] n todo st L sk=(chk P T nt fn.results.toList 0 2 [0] n todo st L sk).diag) (ho:sk.obs fun _=>True)
  (hL:∀ a,a=sk.val→znP (X.g T fn H) (L a)):G (X.g T fn H) todo st :=
 We n (g:=X.g T fn H) hT hm hf (fun h=>(by cases h)) 0 todo st L sk (fun _=>True) (CT.ok_of h) ho (fun a e _=>hL a e)
theorem G.loopIn {g:ui} {c:Code} (h:G g (.code c :: .inLoop c :: k) st):G g (.code (.loop c) :: k) st:=fun C h1 h2 a w hk hs=>(h C h1 h2 a w hk hs).step fun _ _=>.one stepR_loop
end Go.Av
