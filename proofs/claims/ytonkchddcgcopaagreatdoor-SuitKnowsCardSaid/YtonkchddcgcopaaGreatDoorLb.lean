/- Calls by contract, in general: blocks are handed over and come back. -/
import Derived.Test.YtonkchddcgcopaaGreatDoorLa
import Derived.Lib.ConvBytes
import Derived.OrdersIn
import Derived.RangeFuncCalls
import Derived.RangeFuncLeaves
import Derived.RangeFuncRecord
set_option linter.unusedSimpArgs false
set_option linter.unusedVariables false
set_option linter.unusedSectionVars false
namespace Go.Av
open Go
variable [E5]
section
variable {C : Cx} {A : M} {a : Act} {w : World} {S : Nat → Prop} {μ : Mu} {ν : Nat → Bool}
theorem AV.yN {k:Nat}:∀ (l:List AV) (i:Nat),i < l.length→k∈(l.getD i default).keys→k∈AV.sr l
 | [],i,hi,_=>absurd hi (by simp)
 | a :: r,0,_,h=>by simp only [AV.sr,List.mem_append]; exact .inl (by simpa using h)
 | a :: r,i+1,hi,h=>by simp only [AV.sr,List.mem_append]; exact .inr (AV.yN r i (by simpa using hi) (by simpa using h))
theorem Rel.agree {μ':Mu} {x:AV} {v:Value} (h:Rel w S μ ν x v) (hk:∀ k,k∈x.keys→μ' k=μ k):Rel w S μ' ν x v:=by
 induction h with
 | any x=>exact .any x
 | d h=>exact .d h
 | @dt key _ h=>exact .dt (by rw [hk key (by simp [AV.keys])]; exact h)
 | @own key _ _ _ h=>exact .own (by rw [hk key (by simp [AV.keys])]; exact h)
 | @ptr key _ _ _ h=>exact .ptr (by rw [hk key (by simp [AV.keys])]; exact h)
 | @zO key _ _ _ _ _ h=>exact .zO (by rw [hk key (by simp [AV.keys])]; exact h)
 | ref ef cC h=>exact .ref ef cC h
 | Br h=>exact .Br h
 | @vr key _ _ h=>exact .vr (by rw [hk key (by simp [AV.keys])]; exact h)
 | CS h=>exact .CS h
 | @fn _ cY _ hl _ ih=>exact .fn hl (fun i hi=>ih i hi (fun k gZ=>hk k (by simp only [AV.keys]; exact AV.yN cY i hi gZ)))
 | @fD l _ hl _ ih=>exact .fD hl (fun i hi=>ih i hi (fun k gZ=>hk k (by simp only [AV.keys]; exact AV.yN l i hi gZ)))
 | @ag l _ hl _ ih=>exact .ag hl (fun i hi=>ih i hi (fun k gZ=>hk k (by simp only [AV.keys]; exact AV.yN l i hi gZ)))
 | g _ h0 ih=>exact .g (fun hp=>ih hp (fun k gZ=>hk k (by simpa [AV.keys] using gZ))) h0
theorem eH.agree {μ':Mu} {b:bP} {g cap:Nat} (h:eH w S μ b g cap) (hk:∀ k,k∈b.keys→μ' k=μ k):eH w S μ' b g cap:=by
 cases b with
 | box cs =>
  obtain ⟨cur,e,h1,h0,h2,h6⟩:=h
  refine ⟨cur,e,h1,h0,h2,fun j hj=>?_⟩
  obtain ⟨x,hx,hr⟩:=h6 j hj
  exact ⟨x,hx,fun ν=>(hr ν).agree (fun k gZ=>hk k (AV.yN _ j hj gZ))⟩
 | row e k n f=>exact h
 | mp n f=>exact h
 | it mk n seen =>
  obtain ⟨mg,c,h0,h1⟩:=h
  exact ⟨mg,c,by rw [hk mk (by simp [bP.keys])]; exact h0,h1⟩
 | mx=>exact h
theorem jr.agree {μ':Mu} {b:bP} {y:Option (Option (Nat × Nat))} (h:jr w S μ b y) (hk:∀ k,k∈b.keys→μ' k=μ k):jr w S μ' b y:=by
 cases y with
 | none=>cases b <;> exact h
 | some y =>
  cases y with
  | none=>cases b <;> exact h
  | some gc=>obtain ⟨g,c⟩:=gc; exact (h.at.agree hk).ok
theorem eo.nu {ν':Nat→Bool} {l:List AV} {vs:List Value} (h:eo w S μ ν l vs) (hn:wX.pF l=true):eo w S μ ν' l vs:=⟨h.1,fun i hi=>(h.2 i hi).nu (sG l i hn hi)⟩
theorem YR {o:Oper} {cf:Operand} {xs:Array Operand} {ts:Array TypeId} {f:FuncId} {args cY:List AV} {res:AV} {c6 gS:List (Nat × bP)} {need:List (Nat × AV)} {ro:List (Nat × bP)} {gs:List (Nat × Bool)}
  (hs:dG C A a w S μ ν) (hd:∀ t,o.dst=some t→t < C.nt) (ho:o.op=.call { callee:=.value cf,args:=xs,argTypes:=ts }) (YP:Rel w S μ ν (.fn f cY) (a.eval cf)) (lr:eo w S μ ν args (xs.toList.map a.eval)) (hn:wX.pF (args++cY)=true)
  (YQ:gR C.P f (args++cY) c6 res gS) (VI:∀ p,p∈c6→A.lb p.1=some p.2) (yD:∀ k,k∈gS.map (·.1)→lj A k) (YS:∀ k,k∈res.keys→k∈gS.map (·.1)) (Jd:∀ p,p∈gS→∀ k,k∈p.2.keys→k∈gS.map (·.1)) :
  o.wp C.P a w (fun a' w'=>∃ S' μ',dG C ((Tr.mk need o.dst res ro c6 gS gs).apply A) a' w' S' μ' ν) (fun _ _ _=>False):=by
 generalize hcv:a.eval cf=cv at YP
 cases YP with
 | @fn _ _ CZ hl hh =>
  unfold Oper.wp
  rw [zY ho hcv YQ.1]
  have rq:eo w S μ ν (args++cY) (xs.map a.eval++CZ).toList:=by
   rw [Array.toList_append,Array.toList_map]
   exact lr.append ⟨by simpa using hl,fun i hi=>by rw [← cZ]; exact hh i hi⟩
  have xP:∀ κ b,look c6 κ=some b→A.lb κ=some b:=fun κ b h=>VI (κ,b) (kg h)
  refine (YQ.2 w S μ (xs.map a.eval++CZ) hs.bound hs.Bw (fun ν'=>rq.nu hn) (fun κ b hk=>hs.mem κ b (xP κ b hk)) (fun κ κ' b b' g c c' h1 h2 h3 h4=>hs.inj κ κ' b b' g c c' (xP _ _ h1) (xP _ _ h2) h3 h4)).mono ?_
  rintro e w' ⟨v,S',μ',rfl,B⟩
  have hT:∀ q,Handed c6 μ q→C.w0.heap.size≤q∨C.T0 q:=fun q ⟨κ,b,c,h1,h2⟩=>hs.own κ b q c (xP κ b h1) h2
  have hTs:∀ q,Handed c6 μ q→¬ S q:=fun q ⟨κ,b,c,h1,h2⟩=>by
   have:=hs.mem κ b (xP κ b h1)
   rw [h2] at this
   exact this.at.not
  have hw:∀ q,S q→w'.heap[q]? = w.heap[q]?:=fun q hq=>B.kept.block q (hs.bound q hq) (fun ht=>hTs q ht hq)
  let μ'':Mu:=fun k=>if k∈gS.map (·.1) then μ' k else μ k
  have ag:∀ k,k ∉ gS.map (·.1)→μ'' k=μ k:=fun k hk=>by simp only [μ'',hk,if_false]
  have ZY:∀ k,k∈gS.map (·.1)→μ'' k=μ' k:=fun k hk=>by simp only [μ'',hk,if_true]
  have old:∀ x v,Rel w S μ ν x v→(∀ k,k∈gS.map (·.1)→k ∉ x.keys)→Rel w' S' μ'' ν x v:=fun x v hr hk =>
   (hr.mono B.sub hw (fun _ _ e=>e)).agree (fun k hkx=>ag k (fun gZ=>hk k gZ hkx))
  refine ⟨S',μ'',?_⟩
  have La:∀ κ b,((Tr.mk need o.dst res ro c6 gS gs).apply A).lb κ=some b→(look gS κ=some b∧κ∈gS.map (·.1))∨(κ ∉ gS.map (·.1)∧κ ∉ c6.map (·.1)∧A.lb κ=some b):=by
   intro κ b hb
   simp only [Tr.apply] at hb
   cases KV:look gS κ with
   | some b' =>
    rw [KV] at hb
    simp only [Option.some.injEq] at hb
    subst hb
    exact .inl ⟨rfl,sE KV⟩
   | none =>
    rw [KV] at hb
    simp only at hb
    have hnk:κ ∉ gS.map (·.1):=fun hk=>by
     obtain ⟨p,hp,e⟩:=List.mem_map.1 hk
     have:∀ (l:List (Nat × bP)),p∈l→look l κ≠none:=by
      intro l
      induction l with
      | nil=>intro h; cases h
      | cons q r ih =>
       intro h hn
       obtain ⟨q1,q2⟩:=q
       simp only [look] at hn
       cases hq:Nat.beq q1 κ with
       | true=>rw [hq] at hn; cases hn
       | false =>
        rw [hq] at hn
        rcases List.mem_cons.1 h with h' | h'
        ·subst h'
         simp only at e
         rw [e,Nat.beq_refl] at hq
         cases hq
        ·exact ih h' (by simpa using hn)
     exact this gS hp KV
    split at hb
    ·cases hb
    ·rename_i hnm
     exact .inr ⟨hnk,hnm,hb⟩
  have hgT:∀ κ b g c,κ ∉ c6.map (·.1)→A.lb κ=some b→μ κ=some (some (g,c))→¬ Handed c6 μ g∧g < w.heap.size∧¬ S g:=by
   intro κ b g c hnm hb hμ
   have hm:=hs.mem κ b hb
   rw [hμ] at hm
   refine ⟨fun ⟨κ2,b2,c2,h1,h2⟩=>?_,hm.at.lt,hm.at.not⟩
   have:=hs.inj κ κ2 b b2 g c c2 hb (xP _ _ h1) hμ h2
   rw [this] at hnm
   exact hnm (sE h1)
  refine ⟨?_,?_,fun t=>?_,fun κ b hb=>?_,fun κ1 κ2 b1 b2 g c c' h1 h2 h3 h4=>?_,fun κ b g c hb hμ=>?_,fun b hb=>B.sub b (hs.fU b hb),fun b hb=>?_,B.bound,?_⟩
  ·simp only [Act.put]; split <;> simp [hs.tmps]
  ·simp only [Act.put]; split <;> exact hs.defers
  ·simp only [Tr.apply]
   by_cases c:o.dst=some t
   ·simp only [c,if_true,Act.put]
    rw [iX _ _ _ (by rw [hs.tmps]; exact hd t c)]
    exact (B.res ν).agree (fun k hk=>ZY k (YS k hk))
   ·simp only [c,if_false]
    have e:(a.put o.dst v).tmps.getD t undef=a.tmps.getD t undef:=by
     cases eT:o.dst with
     | none=>rfl
     | some d =>
      simp only [Act.put]
      exact dw _ _ _ _ (fun e=>c (by rw [eT,e]))
    rw [e]
    exact old _ _ (hs.fa t) (fun k hk=>(yD k hk).sl t)
  ·rcases La κ b hb with ⟨h1,h2⟩ | ⟨h1,h2,h3⟩
   ·rw [ZY κ h2]
    exact (B.mem κ b h1).agree (fun k hk=>ZY k (Jd (κ,b) (kg h1) k hk))
   ·rw [ag κ h1]
    have hm:=hs.mem κ b h3
    refine (hm.mono B.sub hw (fun _ _ e=>e) (fun g c e=>?_)).agree (fun k hk=>ag k (fun gZ=>(yD k gZ).bl κ b h3 hk))
    obtain ⟨q1,q2,q3⟩:=hgT κ b g c h2 h3 e
    refine ⟨B.kept.block g q2 q1,fun yJ=>?_⟩
    rcases B.new g yJ with h | h | h
    ·exact q3 h
    ·omega
    ·exact q1 h
  ·rcases La κ1 b1 h1 with ⟨x1,x2⟩ | ⟨x1,x2,x3⟩
   ·rw [ZY κ1 x2] at h3
    rcases La κ2 b2 h2 with ⟨y1,y2⟩ | ⟨y1,y2,y3⟩
    ·rw [ZY κ2 y2] at h4
     exact B.inj κ1 κ2 b1 b2 g c c' x1 y1 h3 h4
    ·rw [ag κ2 y1] at h4
     obtain ⟨q1,q2,q3⟩:=hgT κ2 b2 g c' y2 y3 h4
     rcases B.own κ1 b1 g c x1 h3 with h | h
     ·omega
     ·exact absurd h q1
   ·rw [ag κ1 x1] at h3
    obtain ⟨q1,q2,q3⟩:=hgT κ1 b1 g c x2 x3 h3
    rcases La κ2 b2 h2 with ⟨y1,y2⟩ | ⟨y1,y2,y3⟩
    ·rw [ZY κ2 y2] at h4
     rcases B.own κ2 b2 g c' y1 h4 with h | h
     ·omega
     ·exact absurd h q1
    ·rw [ag κ2 y1] at h4
     exact hs.inj κ1 κ2 b1 b2 g c c' x3 y3 h3 h4
  ·rcases La κ b hb with ⟨h1,h2⟩ | ⟨h1,h2,h3⟩
   ·rw [ZY κ h2] at hμ
    rcases B.own κ b g c h1 hμ with h | h
    ·exact .inl (Nat.le_trans hs.kept.size h)
    ·exact hT g h
   ·rw [ag κ h1] at hμ
    exact hs.own κ b g c h3 hμ
  ·rcases B.new b hb with h | h | h
   ·exact hs.fresh b h
   ·exact .inr (.inl (Nat.le_trans hs.kept.size h))
   ·rcases hT b h with h' | h'
    ·exact .inr (.inl h')
    ·exact .inr (.inr h')
  ·refine hs.kept.trans B.kept (fun b hb h=>?_)
   rcases hT b h with h' | h'
   ·omega
   ·exact h'
def FnB (P:Program) (f:FuncId) (args:List AV) (c6:List (Nat × bP)) (res:AV) (gS:List (Nat × bP)) (jY:List (Nat × Nat)):Prop :=
 ga P f=true∧∀ (w:World) (S:Nat→Prop) (μ:Mu) (vs:Array Value),(∀ b,S b→b < w.heap.size)→kO w S→(∀ ν,eo w S μ ν args vs.toList)→(∀ κ b,look c6 κ=some b→jr w S μ b (μ κ))→XD c6 μ →
  Calls P f vs w fun e w'=>∃ v S' μ',e=.returned v∧Tj w S (Handed c6 μ) res gS v S' μ' w'∧∀ p,p∈jY→∀ ν,Rel w' S' μ' ν (.ptr p.2 0) (vs.toList.getD p.1 undef)
theorem QU {jY:List (Nat × Nat)} {o:Oper} {cf:Operand} {xs:Array Operand} {ts:Array TypeId} {f:FuncId} {args cY:List AV} {res:AV} {c6 gS:List (Nat × bP)} {need:List (Nat × AV)} {ro:List (Nat × bP)} {gs:List (Nat × Bool)}
  (hs:dG C A a w S μ ν) (hd:∀ t,o.dst=some t→t < C.nt) (ho:o.op=.call { callee:=.value cf,args:=xs,argTypes:=ts }) (YP:Rel w S μ ν (.fn f cY) (a.eval cf)) (lr:eo w S μ ν args (xs.toList.map a.eval)) (hn:wX.pF (args++cY)=true)
  (YQ:FnB C.P f (args++cY) c6 res gS jY) (adV:∀ p,p∈jY→p.1 < (args++cY).length∧(args++cY).getD p.1 default=.ptr p.2 0∧(∃ cs,look c6 p.2=some (.box cs))∧∃ cs,look gS p.2=some (.box cs)) (VI:∀ p,p∈c6→A.lb p.1=some p.2) (yD:∀ k,k∈gS.map (·.1)→k ∉ jY.map (·.2)→lj A k) (YS:∀ k,k∈res.keys→k∈gS.map (·.1)∧k ∉ jY.map (·.2)) (Jd:∀ p,p∈gS→∀ k,k∈p.2.keys→k∈gS.map (·.1)∧k ∉ jY.map (·.2)) :
  o.wp C.P a w (fun a' w'=>∃ S' μ',dG C ((Tr.mk need o.dst res ro c6 gS gs).apply A) a' w' S' μ' ν) (fun _ _ _=>False):=by
 generalize hcv:a.eval cf=cv at YP
 cases YP with
 | @fn _ _ CZ hl hh =>
  unfold Oper.wp
  rw [zY ho hcv YQ.1]
  have rq:eo w S μ ν (args++cY) (xs.map a.eval++CZ).toList:=by
   rw [Array.toList_append,Array.toList_map]
   exact lr.append ⟨by simpa using hl,fun i hi=>by rw [← cZ]; exact hh i hi⟩
  have xP:∀ κ b,look c6 κ=some b→A.lb κ=some b:=fun κ b h=>VI (κ,b) (kg h)
  refine (YQ.2 w S μ (xs.map a.eval++CZ) hs.bound hs.Bw (fun ν'=>rq.nu hn) (fun κ b hk=>hs.mem κ b (xP κ b hk)) (fun κ κ' b b' g c c' h1 h2 h3 h4=>hs.inj κ κ' b b' g c c' (xP _ _ h1) (xP _ _ h2) h3 h4)).mono ?_
  rintro e w' ⟨v,S',μ',rfl,B,ha⟩
  have afp:∀ κ,κ∈jY.map (·.2)→κ∈gS.map (·.1)∧(∃ cs,look gS κ=some (.box cs))∧∃ g c c',μ κ=some (some (g,c))∧μ' κ=some (some (g,c')):=by
   intro κ hκ
   obtain ⟨p,hp,rfl⟩:=List.mem_map.1 hκ
   obtain ⟨h1,h2,-,cs,h4⟩:=adV p hp
   have h5:=rq.2 p.1 h1
   rw [h2] at h5
   have h6:=ha p hp ν
   generalize (xs.map a.eval++CZ).toList.getD p.1 undef=u at h5 h6
   refine ⟨sE h4,⟨cs,h4⟩,?_⟩
   cases h5 with
   | @ptr _ _ g c hμ =>
    cases h6 with
    | @ptr _ _ _ c' hμ'=>exact ⟨g,c,c',hμ,hμ'⟩
  have hT:∀ q,Handed c6 μ q→C.w0.heap.size≤q∨C.T0 q:=fun q ⟨κ,b,c,h1,h2⟩=>hs.own κ b q c (xP κ b h1) h2
  have hTs:∀ q,Handed c6 μ q→¬ S q:=fun q ⟨κ,b,c,h1,h2⟩=>by
   have:=hs.mem κ b (xP κ b h1)
   rw [h2] at this
   exact this.at.not
  have hw:∀ q,S q→w'.heap[q]? = w.heap[q]?:=fun q hq=>B.kept.block q (hs.bound q hq) (fun ht=>hTs q ht hq)
  let μ'':Mu:=fun k=>if k∈jY.map (·.2) then μ k else if k∈gS.map (·.1) then μ' k else μ k
  have ag:∀ k,(k∈gS.map (·.1)→k∈jY.map (·.2))→μ'' k=μ k:=fun k hk=>by
   simp only [μ'']
   by_cases h1:k∈jY.map (·.2)
   ·rw [if_pos h1]
   ·rw [if_neg h1,if_neg (fun h=>h1 (hk h))]
  have ZY:∀ k,k∈gS.map (·.1)→k ∉ jY.map (·.2)→μ'' k=μ' k:=fun k hk hn=>by simp only [μ'']; rw [if_neg hn,if_pos hk]
  have tr:∀ k g c,k∈gS.map (·.1)→μ'' k=some (some (g,c))→∃ c',μ' k=some (some (g,c')):=fun k g c hk h=>by
   by_cases h1:k∈jY.map (·.2)
   ·obtain ⟨-,-,g',c1,c2,e1,e2⟩:=afp k h1
    rw [ag k (fun _=>h1),e1] at h
    simp only [Option.some.injEq,Prod.mk.injEq] at h
    obtain ⟨rfl,rfl⟩:=h
    exact ⟨c2,e2⟩
   ·rw [ZY k hk h1] at h
    exact ⟨c,h⟩
  have old:∀ x v,Rel w S μ ν x v→(∀ k,k∈gS.map (·.1)→k ∉ jY.map (·.2)→k ∉ x.keys)→Rel w' S' μ'' ν x v:=fun x v hr hk =>
   (hr.mono B.sub hw (fun _ _ e=>e)).agree (fun k hkx=>ag k (fun gZ=>Classical.byContradiction (fun hn=>hk k gZ hn hkx)))
  refine ⟨S',μ'',?_⟩
  have La:∀ κ b,((Tr.mk need o.dst res ro c6 gS gs).apply A).lb κ=some b→(look gS κ=some b∧κ∈gS.map (·.1))∨(κ ∉ gS.map (·.1)∧κ ∉ c6.map (·.1)∧A.lb κ=some b):=by
   intro κ b hb
   simp only [Tr.apply] at hb
   cases KV:look gS κ with
   | some b' =>
    rw [KV] at hb
    simp only [Option.some.injEq] at hb
    subst hb
    exact .inl ⟨rfl,sE KV⟩
   | none =>
    rw [KV] at hb
    simp only at hb
    have hnk:κ ∉ gS.map (·.1):=fun hk=>by
     obtain ⟨p,hp,e⟩:=List.mem_map.1 hk
     have:∀ (l:List (Nat × bP)),p∈l→look l κ≠none:=by
      intro l
      induction l with
      | nil=>intro h; cases h
      | cons q r ih =>
       intro h hn
       obtain ⟨q1,q2⟩:=q
       simp only [look] at hn
       cases hq:Nat.beq q1 κ with
       | true=>rw [hq] at hn; cases hn
       | false =>
        rw [hq] at hn
        rcases List.mem_cons.1 h with h' | h'
        ·subst h'
         simp only at e
         rw [e,Nat.beq_refl] at hq
         cases hq
        ·exact ih h' (by simpa using hn)
     exact this gS hp KV
    split at hb
    ·cases hb
    ·rename_i hnm
     exact .inr ⟨hnk,hnm,hb⟩
  have hgT:∀ κ b g c,κ ∉ c6.map (·.1)→A.lb κ=some b→μ κ=some (some (g,c))→¬ Handed c6 μ g∧g < w.heap.size∧¬ S g:=by
   intro κ b g c hnm hb hμ
   have hm:=hs.mem κ b hb
   rw [hμ] at hm
   refine ⟨fun ⟨κ2,b2,c2,h1,h2⟩=>?_,hm.at.lt,hm.at.not⟩
   have:=hs.inj κ κ2 b b2 g c c2 hb (xP _ _ h1) hμ h2
   rw [this] at hnm
   exact hnm (sE h1)
  refine ⟨?_,?_,fun t=>?_,fun κ b hb=>?_,fun κ1 κ2 b1 b2 g c c' h1 h2 h3 h4=>?_,fun κ b g c hb hμ=>?_,fun b hb=>B.sub b (hs.fU b hb),fun b hb=>?_,B.bound,?_⟩
  ·simp only [Act.put]; split <;> simp [hs.tmps]
  ·simp only [Act.put]; split <;> exact hs.defers
  ·simp only [Tr.apply]
   by_cases c:o.dst=some t
   ·simp only [c,if_true,Act.put]
    rw [iX _ _ _ (by rw [hs.tmps]; exact hd t c)]
    exact (B.res ν).agree (fun k hk=>ZY k (YS k hk).1 (YS k hk).2)
   ·simp only [c,if_false]
    have e:(a.put o.dst v).tmps.getD t undef=a.tmps.getD t undef:=by
     cases eT:o.dst with
     | none=>rfl
     | some d =>
      simp only [Act.put]
      exact dw _ _ _ _ (fun e=>c (by rw [eT,e]))
    rw [e]
    exact old _ _ (hs.fa t) (fun k hk hn=>(yD k hk hn).sl t)
  ·rcases La κ b hb with ⟨h1,h2⟩ | ⟨h1,h2,h3⟩
   ·have hm:=B.mem κ b h1
    have hk2:∀ k,k∈b.keys→μ'' k=μ' k:=fun k hk=>ZY k (Jd (κ,b) (kg h1) k hk).1 (Jd (κ,b) (kg h1) k hk).2
    by_cases hn:κ∈jY.map (·.2)
    ·obtain ⟨-,⟨cs,e0⟩,g',c1,c2,e1,e2⟩:=afp κ hn
     rw [h1] at e0
     simp only [Option.some.injEq] at e0
     subst e0
     rw [ag κ (fun _=>hn),e1]
     rw [e2] at hm
     have h3:eH w' S' μ' (.box cs) g' c1:=hm.at
     exact eH.ok (b:=.box cs) (h3.agree hk2)
    ·rw [ZY κ h2 hn]
     exact hm.agree hk2
   ·rw [ag κ (fun h=>absurd h h1)]
    have hm:=hs.mem κ b h3
    refine (hm.mono B.sub hw (fun _ _ e=>e) (fun g c e=>?_)).agree (fun k hk=>ag k (fun gZ=>Classical.byContradiction (fun hn=>(yD k gZ hn).bl κ b h3 hk)))
    obtain ⟨q1,q2,q3⟩:=hgT κ b g c h2 h3 e
    refine ⟨B.kept.block g q2 q1,fun yJ=>?_⟩
    rcases B.new g yJ with h | h | h
    ·exact q3 h
    ·omega
    ·exact q1 h
  ·rcases La κ1 b1 h1 with ⟨x1,x2⟩ | ⟨x1,x2,x3⟩
   ·obtain ⟨d1,h3⟩:=tr κ1 g c x2 h3
    rcases La κ2 b2 h2 with ⟨y1,y2⟩ | ⟨y1,y2,y3⟩
    ·obtain ⟨d2,h4⟩:=tr κ2 g c' y2 h4
     exact B.inj κ1 κ2 b1 b2 g d1 d2 x1 y1 h3 h4
    ·rw [ag κ2 (fun h=>absurd h y1)] at h4
     obtain ⟨q1,q2,q3⟩:=hgT κ2 b2 g c' y2 y3 h4
     rcases B.own κ1 b1 g d1 x1 h3 with h | h
     ·omega
     ·exact absurd h q1
   ·rw [ag κ1 (fun h=>absurd h x1)] at h3
    obtain ⟨q1,q2,q3⟩:=hgT κ1 b1 g c x2 x3 h3
    rcases La κ2 b2 h2 with ⟨y1,y2⟩ | ⟨y1,y2,y3⟩
    ·obtain ⟨d2,h4⟩:=tr κ2 g c' y2 h4
     rcases B.own κ2 b2 g d2 y1 h4 with h | h
     ·omega
     ·exact absurd h q1
    ·rw [ag κ2 (fun h=>absurd h y1)] at h4
     exact hs.inj κ1 κ2 b1 b2 g c c' x3 y3 h3 h4
  ·rcases La κ b hb with ⟨h1,h2⟩ | ⟨h1,h2,h3⟩
   ·obtain ⟨d1,hμ⟩:=tr κ g c h2 hμ
    rcases B.own κ b g d1 h1 hμ with h | h
    ·exact .inl (Nat.le_trans hs.kept.size h)
    ·exact hT g h
   ·rw [ag κ (fun h=>absurd h h1)] at hμ
    exact hs.own κ b g c h3 hμ
  ·rcases B.new b hb with h | h | h
   ·exact hs.fresh b h
   ·exact .inr (.inl (Nat.le_trans hs.kept.size h))
   ·rcases hT b h with h' | h'
    ·exact .inr (.inl h')
    ·exact .inr (.inr h')
  ·refine hs.kept.trans B.kept (fun b hb h=>?_)
   rcases hT b h with h' | h'
   ·omega
   ·exact h'
def FnS (P:Program) (f:FuncId) (args:List AV) (κ:Nat) (b b':bP):Prop :=
 ga P f=true∧∀ (w:World) (S:Nat→Prop) (μ:Mu) (vs:Array Value),(∀ b,S b→b < w.heap.size)→kO w S→(∀ ν,eo w S μ ν args vs.toList)→jr w S μ b (μ κ) →
  Calls P f vs w fun e w'=>(∃ v,e=.returned v)∧jr w' S μ b' (μ κ)∧Kept w w' (fun q=>∃ c,μ κ=some (some (q,c)))
theorem Lb {o:Oper} {cf:Operand} {xs:Array Operand} {ts:Array TypeId} {f:FuncId} {args cY:List AV} {κ:Nat} {b b':bP} {need:List (Nat × AV)} {ro:List (Nat × bP)} {gs:List (Nat × Bool)}
  (hs:dG C A a w S μ ν) (hd:∀ t,o.dst=some t→t < C.nt) (ho:o.op=.call { callee:=.value cf,args:=xs,argTypes:=ts }) (YP:Rel w S μ ν (.fn f cY) (a.eval cf)) (lr:eo w S μ ν args (xs.toList.map a.eval)) (hn:wX.pF (args++cY)=true)
  (YQ:FnS C.P f (args++cY) κ b b') (hκ:A.lb κ=some b) :
  o.wp C.P a w (fun a' w'=>∃ S' μ',dG C ((Tr.mk need o.dst .any ro [(κ,b)] [(κ,b')] gs).apply A) a' w' S' μ' ν) (fun _ _ _=>False):=by
 generalize hcv:a.eval cf=cv at YP
 cases YP with
 | @fn _ _ CZ hl hh =>
  unfold Oper.wp
  rw [zY ho hcv YQ.1]
  have rq:eo w S μ ν (args++cY) (xs.map a.eval++CZ).toList:=by
   rw [Array.toList_append,Array.toList_map]
   exact lr.append ⟨by simpa using hl,fun i hi=>by rw [← cZ]; exact hh i hi⟩
  refine (YQ.2 w S μ (xs.map a.eval++CZ) hs.bound hs.Bw (fun ν'=>rq.nu hn) (hs.mem κ b hκ)).mono ?_
  rintro e w' ⟨⟨v,rfl⟩,pn,hk⟩
  have hg:∀ q,(∃ c,μ κ=some (some (q,c)))→¬ S q:=fun q ⟨c,hc⟩=>by
   have:=hs.mem κ b hκ
   rw [hc] at this
   exact this.at.not
  have hw:∀ q,S q→w'.heap[q]? = w.heap[q]?:=fun q hq=>hk.block q (hs.bound q hq) (fun h=>hg q h hq)
  have h1:dG C (A.set κ (some b')) a w' S μ ν:=by
   refine ⟨hs.tmps,hs.defers,fun t=>(hs.fa t).mono (fun _ x=>x) hw (fun _ _ e=>e),fun κ' bk hbk=>?_,fun κ1 κ2 b1 b2 g c c' h1 h2 h3 h4=>?_,fun κ' bk g c h1 h2=>?_,hs.fU,hs.fresh,fun q hq=>Nat.lt_of_lt_of_le (hs.bound q hq) hk.size,?_⟩
   ·simp only [M.set] at hbk
    by_cases e:κ'=κ
    ·subst e
     simp only [if_true,Option.some.injEq] at hbk
     subst hbk
     exact pn
    ·simp only [e,if_false] at hbk
     have hm:=hs.mem κ' bk hbk
     refine hm.mono (fun _ x=>x) hw (fun _ _ e=>e) (fun g c hgc=>?_)
     rw [hgc] at hm
     exact ⟨hk.block g hm.at.lt (fun ⟨c',VJ⟩=>e (hs.inj κ' κ bk b g c c' hbk hκ hgc VJ)),hm.at.not⟩
   ·have get:∀ k bk,(A.set κ (some b')).lb k=some bk→∃ bk',A.lb k=some bk':=fun k bk h=>by
     simp only [M.set] at h
     by_cases e:k=κ
     ·subst e; exact ⟨b,hκ⟩
     ·simp only [e,if_false] at h; exact ⟨bk,h⟩
    obtain ⟨b1',q1⟩:=get _ _ h1
    obtain ⟨b2',q2⟩:=get _ _ h2
    exact hs.inj κ1 κ2 b1' b2' g c c' q1 q2 h3 h4
   ·simp only [M.set] at h1
    by_cases e:κ'=κ
    ·subst e; exact hs.own κ' b g c hκ h2
    ·simp only [e,if_false] at h1; exact hs.own κ' bk g c h1 h2
   ·exact hs.kept.trans hk (fun q hq ⟨c,hc⟩=>by
     rcases hs.own κ b q c hκ hc with h | h
     ·omega
     ·exact h)
  refine ⟨S,μ,?_⟩
  have e:(Tr.mk need o.dst .any ro [(κ,b)] [(κ,b')] gs).apply A=(A.set κ (some b')).yH o.dst .any:=by
   cases eT:o.dst with
   | none=>exact nG _
   | some d =>
    have:=nG (A:=A) (κ:=κ) (b:=b) (b':=b') (need:=need) (ro:=ro) (gs:=gs) .any
    unfold Tr.apply at this ⊢
    simp only [M.yH,M.put,M.set,M.mk.injEq,Option.some.injEq] at this ⊢
    refine ⟨?_,this.2⟩
    funext t
    by_cases c:t=d
    ·simp [c]
    ·have:¬ d=t:=fun e=>c e.symm
     simp [c,this]
  rw [e]
  exact h1.put hd (.any _)
end
def GV (n k:Nat) (z:List D):List AV:=(List.range n).map fun q=>.d (z.getD (q % k) default)
section
variable {C : Cx} {A : M} {a : Act} {w : World} {S : Nat → Prop} {μ : Mu} {ν : Nat → Bool}
def vK (T:List (Nat × TI)) (ρ:Operand→Option AV) (t len:Nat) (ps:List (Nat × Operand)):Option (Nat × Nat × List D) :=
 match look T t,BE ρ ps with
 | some { kind:=.slice e,.. },some vs=>(match look T e with
  | some i=>bif Nat.ble (len * i.size) 16777216&&Nat.ble 1 i.size then (match KW (fun q=>some (q * i.size,i.size)) (GV (len * i.size) i.size i.zero) vs with
   | some cs=>(match AW cs with | some ds=>bif Nat.beq ds.length (len * i.size) then some (e,i.size,ds) else none | none=>none)
   | none=>none) else none
  | none=>none)
 | _,_=>none
theorem BI {P:Program} {T:List (Nat × TI)} (hT:pk P T) {ρ:Operand→Option AV} (hρ:∀ x y,ρ x=some y→Rel w S μ ν y (a.eval x)) {t len:Nat} {ps:Array (Nat × Operand)} {e k:Nat} {ds:List D} (h:vK T ρ t len ps.toList=some (e,k,ds)) :
  ∃ cells:Array Value,(Instr.buildSlice t len (ps.map fun (i,x)=>(i,a.eval x))).run P w=.ok (.slice (some ⟨w.heap.size,0,none⟩) len len) (w.alloc (.cells cells e))∧cells.size=len * k∧kh w S k len (Ed k len ds) cells.toList∧ds.length=len * k∧len≤maxLen:=by
 unfold vK at h
 split at h
 ·rename_i e' _ _ _ _ vs hl hv
  split at h
  ·rename_i i hi
   cases hb:(Nat.ble (len * i.size) 16777216&&Nat.ble 1 i.size) with
   | false=>rw [hb] at h; cases h
   | true =>
    rw [hb] at h
    simp only [Bool.and_eq_true] at hb
    have hle:=Nat.le_of_ble_eq_true hb.1
    have N3:=Nat.le_of_ble_eq_true hb.2
    simp only [cond_true] at h
    split at h
    ·rename_i cs Fb
     split at h
     ·rename_i ds' hp
      cases GK:Nat.beq ds'.length (len * i.size) with
      | false=>rw [GK] at h; cases h
      | true =>
       rw [GK] at h
       have hdl:=Nat.eq_of_beq_eq_true GK
       simp only [cond_true,Option.some.injEq,Prod.mk.injEq] at h
       obtain ⟨rfl,rfl,rfl⟩:=h
       have ecs:=vI hp
       subst ecs
       obtain ⟨ti,z,F⟩:=aG (hT t _ hl)
       have hu:=fA F.kind
       obtain ⟨tj,zj,G⟩:=aG (hT e' _ hi)
       obtain ⟨q1,q2⟩:=ln (w:=w) (S:=S) G.zok
       have hzs:zj.cells.size=i.size:=by rw [← G.Ec,← q1]; simp
       have hz:eo w S μ ν (GV (len * i.size) i.size i.zero) ((Array.range (len * i.size)).map (zj.cells[· % zj.cells.size]!)).toList:=by
        refine ⟨by simp [GV],fun q hq=>?_⟩
        have QS:q < len * i.size:=by simpa [GV] using hq
        have hm:q % i.size < i.size:=Nat.mod_lt _ N3
        have e1:(GV (len * i.size) i.size i.zero).getD q default=.d (i.zero.getD (q % i.size) default):=by simp [GV,List.getD,QS]
        have e2:((Array.range (len * i.size)).map (zj.cells[· % zj.cells.size]!)).toList.getD q undef=zj.cells.toList.getD (q % i.size) undef:=by
         have h1:q % i.size < zj.cells.size:=by omega
         simp only [List.getD,Array.getElem?_toList,Array.getElem?_map,Array.getElem?_range,QS,if_true,Option.map_some,Option.getD_some,hzs]
         rw [getElem!_pos zj.cells _ h1,Array.getElem?_eq_getElem h1]
         rfl
        rw [e1,e2]
        exact .d (q2 _ (by rw [G.Ec]; exact hm))
       obtain ⟨v1,v2⟩:=zV hρ ps.toList vs hv
       obtain ⟨KX,hf,hr⟩:=CW (fun q=>some (q * i.size,i.size)) vs (ps.toList.map fun p=>(p.1,a.eval p.2)) _ _ ((Array.range (len * i.size)).map (zj.cells[· % zj.cells.size]!)) hz v1 v2 Fb
       have AU:KX.size=len * i.size:=by have:=hr.1; simp at this; omega
       refine ⟨KX,?_,AU,⟨by simpa using AU,fun q hq=>⟨(BF hdl hq).1,fun j hj=>?_⟩⟩,hdl,?_⟩
       ·have hps:(ps.map fun (i,x)=>(i,a.eval x)).toList=ps.toList.map fun p=>(p.1,a.eval p.2):=by simp
        have hn:¬ len * i.size > 2 ^ 24:=by omega
        simp only [Instr.buildSlice,Sem.run_bind,run_underlying hu,Result.andThen_ok,sizeOf,typeInfo,run_program,G.info,Sem.run_pure,G.size,Sem.run_ite,hn,if_false,hps]
        by_cases h0:len * i.size=0
        ·rw [h0] at AU hf
         simp only [h0,if_true]
         have:∀ (g g':Nat→Value),(Array.range 0).map g=(Array.range 0).map g':=fun g g'=>by simp
         rw [this _ (zj.cells[· % zj.cells.size]!),hf]
         simp [newRow]
        ·simp only [h0,if_false,zeroValue,typeInfo,Sem.run_bind,run_program,Result.andThen_ok,G.info,Sem.run_pure,G.zero]
         rw [hf]
         simp [newRow]
       ·rw [(BF hdl hq).2 j hj]
        have gI:q * i.size+j < ds'.length:=by
         rw [hdl]
         calc q * i.size+j < q * i.size+i.size:=by omega
          _=(q+1) * i.size:=by rw [Nat.add_mul,Nat.one_mul]
          _≤len * i.size:=Nat.mul_le_mul_right _ hq
        have:=hr.2 (q * i.size+j) (by simpa using gI)
        rw [lq _ _ gI] at this
        exact jX.1 this
       ·have:len * 1≤len * i.size:=Nat.mul_le_mul_left len N3
        simp only [maxLen]
        omega
     ·cases h
    ·cases h
  ·cases h
 ·cases h
theorem Je {T:List (Nat × TI)} (hT:pk C.P T) {o:Oper} {dst t len:Nat} {ps:Array (Nat × Operand)} {e k:Nat} {ds:List D} {ρ:Operand→Option AV} {need:List (Nat × AV)} {ro:List (Nat × bP)} {gs:List (Nat × Bool)}
  (hs:dG C A a w S μ ν) (hd:o.dst=some dst) (hdt:dst < C.nt) (ho:o.op=.buildSlice t len ps) (hρ:∀ x y,ρ x=some y→Rel w S μ ν y (a.eval x)) (h:vK T ρ t len ps.toList=some (e,k,ds)) (hf:lj A dst) :
  o.wp C.P a w (fun a' w'=>∃ S' μ',dG C ((Tr.mk need (some dst) (.own dst len) ro [] [(dst,.row e k len (Ed k len ds))] gs).apply A) a' w' S' μ' ν) (fun _ _ _=>False):=by
 obtain ⟨cells,iI,kN,ru,_,hml⟩:=BI hT hρ h
 unfold Oper.wp execOp
 simp only [ho,Sem.run_bind,iI,Result.andThen_ok,Sem.run_pure]
 have uJ:¬ S w.heap.size:=fun h=>by have:=hs.bound _ h; omega
 have hw:∀ q,S q→(w.alloc (.cells cells e)).heap[q]? = w.heap[q]?:=fun q hq=>heap_alloc_old w _ (hs.bound q hq)
 have h1:=hs.alloc hf (b:=.row e k len (Ed k len ds)) (cur:=cells) (e:=e) (cap:=len) (by simp [bP.keys]) (K3 (heap_alloc_new w _) uJ kN (Nat.le_refl _) hml (by rw [← kN,← Array.length_toList,List.take_length]) (ru.mono (fun _ x=>x) hw))
 have h2:=h1.put (dst:=some dst) (x:=.own dst len) (v:=.slice (some ⟨w.heap.size,0,none⟩) len len) (fun t ht=>by cases ht; exact hdt) (.own (by simp [dH]))
 rw [sF]
 exact ⟨S,_,by rw [hd]; exact h2⟩
theorem YT {T:List (Nat × TI)} (hT:pk C.P T) {o:Oper} {dst t e:Nat} {l c:Operand} {it i:TI} {kl kc:IntKind} {n:Int} {need:List (Nat × AV)} {ro:List (Nat × bP)} {gs:List (Nat × Bool)}
  (hs:dG C A a w S μ ν) (hd:o.dst=some dst) (hdt:dst < C.nt) (ho:o.op=.makeSlice t l c) (ht:look T t=some it) (hk:it.kind=.slice e) (he:look T e=some i) (hl:a.eval l=.int kl n) (hc:a.eval c=.int kc n)
  (h0:0≤n) (hm:n.toNat≤maxLen) (hb:n.toNat * i.bytes≤140737488355328) (hf:lj A dst) :
  o.wp C.P a w (fun a' w'=>∃ S' μ',dG C ((Tr.mk need (some dst) (.own dst n.toNat) ro [] [(dst,.row e i.size n.toNat fun _=>i.zero)] gs).apply A) a' w' S' μ' ν) (fun _ _ _=>False):=by
 obtain ⟨tj,z,F⟩:=aG (hT _ _ ht)
 obtain ⟨ej,ez,G⟩:=aG (hT _ _ he)
 have wW:=F.kind
 rw [hk] at wW
 have hu:=fA wW
 have hml:n≤9223372036854775807:=by have:=hm; simp only [maxLen] at this; omega
 have hbb:(ej.bytes:Int) * n≤281474976710656:=by
  rw [G.bytes]
  have h1:((i.bytes * n.toNat:Nat):Int)≤281474976710656:=by rw [Nat.mul_comm]; omega
  rw [Int.natCast_mul,Int.toNat_of_nonneg h0] at h1
  exact h1
 have iI:=run_make (P:=C.P) w t e ej ez hu G.info G.zero kl kc n n h0 (Int.le_refl _) hbb hml
 rw [G.size] at iI
 unfold Oper.wp execOp
 simp only [ho,hl,hc,Sem.run_bind,iI,Result.andThen_ok,Sem.run_pure]
 have uJ:¬ S w.heap.size:=fun h=>by have:=hs.bound _ h; omega
 have hw:∀ q,S q→(w.alloc (.cells (madeCells ez.cells (n.toNat * i.size)) e)).heap[q]? = w.heap[q]?:=fun q hq=>heap_alloc_old w _ (hs.bound q hq)
 obtain ⟨q1,q2⟩:=ln (w:=w) (S:=S) G.zok
 have hzl:ez.cells.size=i.size:=by have:=q1; simp only [Array.length_toList] at this; rw [this,G.Ec]
 have ru:kh w S i.size n.toNat (fun _=>i.zero) (madeCells ez.cells (n.toNat * i.size)).toList:=by
  refine ⟨by simp [size_madeCells],fun q hq=>⟨G.Ec,fun j hj=>?_⟩⟩
  have gI:q * i.size+j < n.toNat * i.size:=by
   calc q * i.size+j < q * i.size+i.size:=by omega
    _=(q+1) * i.size:=by rw [Nat.add_mul,Nat.one_mul]
    _≤n.toNat * i.size:=Nat.mul_le_mul_right _ hq
  have e1:(madeCells ez.cells (n.toNat * i.size)).toList.getD (q * i.size+j) undef=ez.cells.toList.getD j undef:=by
   have Iu:j < ez.cells.size:=by omega
   have YU:(q * i.size+j) % ez.cells.size=j:=by rw [hzl,Nat.mul_comm,Nat.mul_add_mod,Nat.mod_eq_of_lt hj]
   simp [madeCells,List.getD,gI,YU,Iu]
  rw [e1]
  exact q2 j (by rw [G.Ec]; exact hj)
 have h1:=hs.alloc hf (b:=.row e i.size n.toNat fun _=>i.zero) (cur:=madeCells ez.cells (n.toNat * i.size)) (e:=e) (cap:=n.toNat) (by simp [bP.keys]) (K3 (heap_alloc_new w _) uJ (size_madeCells _ _) (Nat.le_refl _) hm (List.take_of_length_le (by simp [size_madeCells])) (ru.mono (fun _ x=>x) hw))
 have h2:=h1.put (dst:=some dst) (x:=.own dst n.toNat) (v:=.slice (some ⟨w.heap.size,0,none⟩) n.toNat n.toNat) (fun t ht=>by cases ht; exact hdt) (.own (by simp [dH]))
 rw [sF]
 exact ⟨S,_,by rw [hd]; exact h2⟩
theorem Lc {T:List (Nat × TI)} (hT:pk C.P T) {o:Oper} {t len:Nat} {ps:Array (Nat × Operand)} {e k:Nat} {ds:List D} {ρ:Operand→Option AV} {τ:Tr}
  (hs:dG C A a w S μ ν) (hd:∀ t,o.dst=some t→t < C.nt) (ho:o.op=.buildSlice t len ps) (hρ:∀ x y,ρ x=some y→Rel w S μ ν y (a.eval x)) (h:vK T ρ t len ps.toList=some (e,k,ds))
  (h0:τ.v=.d (.sl len (Ed k len ds))) (h1:τ.dst=o.dst) (h2:τ.mem=[]) (h3:τ.gJ=[]) :
  o.wp C.P a w (fun a' w'=>∃ S' μ',dG C (τ.apply A) a' w' S' μ' ν) (fun _ _ _=>False):=by
 obtain ⟨cells,iI,kN,ru,_,hml⟩:=BI hT hρ h
 unfold Oper.wp execOp
 simp only [ho,Sem.run_bind,iI,Result.andThen_ok,Sem.run_pure]
 let S':Nat→Prop:=fun q=>S q∨q=w.heap.size
 have h4:=hs.world (S':=S') (w':=w.alloc (.cells cells e)) (fun _ x=>.inl x) (fun q hq=>hq.elim .inl (fun e=>.inr ⟨by omega,by rw [e]; simp⟩)) (qD w _ _)
 have hrd:Rd (w.alloc (.cells cells e)) S' (.sl len (Ed k len ds)) (.slice (some ⟨w.heap.size,0,none⟩) len len):=by
  refine .sl len _ ⟨w.heap.size,0,none⟩ len k (fun i j=>cells.toList.getD (i * k+j) undef) (Nat.le_refl _) hml (.inr rfl) (fun i hi=>(ru.2 i hi).1) (fun i j hi hj=>⟨.inr rfl,?_⟩) (fun i j hi hj=>?_)
  ·have gI:i * k+j < cells.size:=by
    rw [kN]
    calc i * k+j < i * k+k:=by omega
     _=(i+1) * k:=by rw [Nat.add_mul,Nat.one_mul]
     _≤len * k:=Nat.mul_le_mul_right k hi
   rw [iK _ _ _ cells e (0,0) (heap_alloc_new w _)]
   simp [List.getD,gI]
  ·exact ((ru.2 i hi).2 j hj).mono (fun _ x=>.inl x) (fun q hq=>heap_alloc_old w _ (hs.bound q hq))
 have h5:=h4.put (dst:=o.dst) (x:=.d (.sl len (Ed k len ds))) (v:=.slice (some ⟨w.heap.size,0,none⟩) len len) hd (.d hrd)
 refine ⟨S',μ,?_⟩
 have e:τ.apply A=A.yH o.dst (.d (.sl len (Ed k len ds))):=by
  unfold Tr.apply M.yH M.put
  rw [h0,h1,h2,h3]
  cases ho:o.dst with
  | none=>simp [look]
  | some d =>
   simp only [look,List.map_nil,List.not_mem_nil,if_false,Option.some.injEq]
   congr 1
   funext t
   by_cases c:d=t
   ·simp [c]
   ·have:¬ t=d:=fun e=>c e.symm
    simp [c,this]
 rw [e]
 exact h5
def QV (T:List (Nat × TI)) (ρ:Operand→Option AV):Op→Option (AV × Ob)
 | .convert src d x=>(match ρ x,look T src,look T d with
  | some (.d (.v (.string s))),some _,some { kind:=.slice e,.. }=>(match look T e with
   | some { kind:=.int .u8,.. }=>some (.d (.sl s.size fun i=>[.v (.int .u8 (s.data.toList.getD i 0).toNat)]),.pr (s.size≤maxLen))
   | _=>none)
  | _,_,_=>none)
 | _=>none
theorem V2 {T:List (Nat × TI)} (hT:pk C.P T) (hs:dG C A a w S μ ν) {o:Oper} {ρ:Operand→Option AV} (hρ:∀ x y,ρ x=some y→Rel w S μ ν y (a.eval x)) (hd:∀ t,o.dst=some t→t < C.nt) {v:AV} {ob:Ob} (h:QV T ρ o.op=some (v,ob)) (cD:ob.den) (need:List (Nat × AV)) (ro:List (Nat × bP)) (gs:List (Nat × Bool)) :
  o.wp C.P a w (fun a' w'=>∃ S' μ',dG C ((Tr.mk need o.dst v ro [] [] gs).apply A) a' w' S' μ' ν) (fun _ _ _=>False):=by
 unfold QV at h
 split at h
 ·rename_i src d x ho
  split at h
  ·rename_i s ti e _ _ _ _ hx mX eT
   split at h
   ·rename_i _ _ _ _ he
    simp only [Option.some.injEq,Prod.mk.injEq] at h
    obtain ⟨rfl,rfl⟩:=h
    have cD:s.size≤maxLen:=cD
    have hv:=dc rfl (hρ _ _ hx)
    obtain ⟨ds,hds⟩:∃ q,C.P.underlying src=some q:=by
     obtain ⟨tj,zj,G⟩:=aG (hT _ _ mX)
     have:=G.kind
     cases hu:C.P.underlying src with
     | some q=>exact ⟨q,rfl⟩
     | none=>cases hk:ti.kind <;> rw [hk] at this <;> simp [en,hu] at this
    obtain ⟨t1,z1,F1⟩:=aG (hT _ _ eT)
    obtain ⟨t2,z2,F2⟩:=aG (hT _ _ he)
    have iI:=Lib.run_convert_string_bytes (P:=C.P) w src d e s hds (fA F1.kind) (vJ F2.kind)
    unfold Oper.wp execOp
    simp only [ho,hv,Sem.run_bind,iI,Result.andThen_ok,Sem.run_pure]
    let S':Nat→Prop:=fun q=>S q∨q=w.heap.size
    have Fh:Kept w (Lib.bytesWorld w e s) (fun _=>False):=⟨rfl,rfl,rfl,by rw [Lib.bytesWorld_size]; omega,fun b hb _=>Lib.bytesWorld_at_old w e s b hb⟩
    have h4:=hs.world (S':=S') (fun _ x=>.inl x) (fun q hq=>hq.elim .inl (fun e'=>.inr ⟨by omega,by rw [e',Lib.bytesWorld_size]; omega⟩)) Fh
    have hrd:Rd (Lib.bytesWorld w e s) S' (.sl s.size fun i=>[.v (.int .u8 (s.data.toList.getD i 0).toNat)]) (.slice (some ⟨w.heap.size,0,none⟩) s.size (grownCap w s.size 0 e)):=by
     refine .sl s.size _ ⟨w.heap.size,0,none⟩ _ 1 (fun i _=>.int .u8 (s.data.toList.getD i 0).toNat) (grownCap_ge w s.size 0 e) (grownCap_le_maxLen w s.size 0 e cD) (.inr rfl) (fun i hi=>rfl) (fun i j hi hj=>⟨.inr rfl,?_⟩) (fun i j hi hj=>?_)
     ·obtain rfl:j=0:=by omega
      simp only [Nat.mul_one,Nat.add_zero,Nat.zero_add]
      exact Lib.bytesWorld_cell w e s i hi
     ·obtain rfl:j=0:=by omega
      exact .v _ rfl
    have h5:=h4.put (dst:=o.dst) hd (.d hrd)
    refine ⟨S',μ,?_⟩
    have e:(Tr.mk need o.dst (.d (.sl s.size fun i=>[.v (.int .u8 (s.data.toList.getD i 0).toNat)])) ro [] [] gs).apply A=A.yH o.dst (.d (.sl s.size fun i=>[.v (.int .u8 (s.data.toList.getD i 0).toNat)])):=by
     unfold Tr.apply M.yH M.put
     cases ho:o.dst with
     | none=>simp [look]
     | some d =>
      simp only [look,List.map_nil,List.not_mem_nil,if_false,Option.some.injEq]
      congr 1
      funext t
      by_cases c:d=t
      ·simp [c]
      ·have:¬ t=d:=fun e=>c e.symm
       simp [c,this]
    rw [e]
    exact h5
   ·cases h
  ·cases h
 ·cases h
end
section
variable {C : Cx} {A : M} {a : Act} {w : World} {S : Nat → Prop} {μ : Mu} {ν : Nat → Bool}
theorem Fj {P:Program} {t k e:Nat} (h:en P t (.map k e)=true):P.underlying t=some (.map k e):=by
 simp only [en] at h
 split at h
 ·rename_i x; simp only [Bool.and_eq_true,beq_iff_eq] at h; obtain ⟨rfl,rfl⟩:=h; exact x
 ·cases h
theorem dG.QW (h:dG C A a w S μ ν) {κ g cap:Nat} {b b':bP} {w':World} (hκ:A.lb κ=some b) (hμ:μ κ=some (some (g,cap))) (hk:Kept w w' (fun q=>q=g)) (hb:eH w' S μ b' g cap):dG C (A.set κ (some b')) a w' S μ ν:=by
 have YN:=h.mem κ b hκ
 rw [hμ] at YN
 have uJ:=YN.at.not
 have hw:∀ q,S q→w'.heap[q]? = w.heap[q]?:=fun q hq=>hk.block q (h.bound q hq) (fun e=>uJ (e ▸ hq))
 refine ⟨h.tmps,h.defers,fun t=>(h.fa t).mono (fun _ x=>x) hw (fun _ _ x=>x),fun κ' b'' GR=>?_,fun κ1 κ2 b1 b2 g' c c' h1 h2 h3 h4=>?_,fun κ' b'' g' c h1 h2=>?_,h.fU,h.fresh,fun q hq=>Nat.lt_of_lt_of_le (h.bound q hq) hk.size,?_⟩
 ·simp only [M.set] at GR
  by_cases c:κ'=κ
  ·simp only [c,if_true,Option.some.injEq] at GR
   subst GR
   rw [c,hμ]
   exact hb.ok
  ·simp only [c,if_false] at GR
   have hm:=h.mem κ' b'' GR
   refine hm.mono (fun _ x=>x) hw (fun _ _ x=>x) (fun g' cc e=>?_)
   have hmm:=hm
   rw [e] at hmm
   exact ⟨hk.block g' hmm.at.lt (fun eg=>c (h.inj κ' κ b'' b g' cc cap GR hκ e (by rw [eg]; exact hμ))),hmm.at.not⟩
 ·have q1:∃ x,A.lb κ1=some x:=by
   simp only [M.set] at h1
   by_cases c:κ1=κ
   ·rw [c]; exact ⟨b,hκ⟩
   ·simp only [c,if_false] at h1; exact ⟨_,h1⟩
  have q2:∃ x,A.lb κ2=some x:=by
   simp only [M.set] at h2
   by_cases c:κ2=κ
   ·rw [c]; exact ⟨b,hκ⟩
   ·simp only [c,if_false] at h2; exact ⟨_,h2⟩
  obtain ⟨x1,q1⟩:=q1
  obtain ⟨x2,q2⟩:=q2
  exact h.inj κ1 κ2 x1 x2 g' c c' q1 q2 h3 h4
 ·have q1:∃ x,A.lb κ'=some x:=by
   simp only [M.set] at h1
   by_cases c:κ'=κ
   ·rw [c]; exact ⟨b,hκ⟩
   ·simp only [c,if_false] at h1; exact ⟨_,h1⟩
  obtain ⟨x1,q1⟩:=q1
  exact h.own κ' x1 g' c q1 h2
 ·refine h.kept.trans hk (fun q hq e=>?_)
  subst e
  rcases h.own κ b q cap hκ hμ with h1 | h1
  ·omega
  ·exact h1
def World.Ee (w:World) (r:Nat) (o:Obj):World:={ w with heap:=w.heap.setIfInBounds r o }
def QX:Obj→Bool
 | .cells _ _ _=>false
 | _=>true
theorem vL {P:Program} {r:Nat} {o:Obj} (h:w.heap[r]? = some o) (hn:QX o=true:=by rfl):(getObj r).run P w=.ok o w:=by
 cases o <;> first | (simp [QX] at hn; done) | simp [getObj,Sem.run,h]
theorem Tl {P:Program} {r:Nat} {x:Obj} (o:Obj) (h:w.heap[r]? = some x) (hn:QX x=true:=by rfl):(setObj r o).run P w=.ok () (World.Ee w r o):=by
 cases x <;> first | (simp [QX] at hn; done) | simp [setObj,Sem.run,h,World.Ee]
theorem vt (r:Nat) (o:Obj):Kept w (World.Ee w r o) (fun q=>q=r):=⟨rfl,rfl,rfl,by simp [World.Ee],fun q _ hq=>by
 have:¬ r=q:=fun e=>hq e.symm
 simp [World.Ee,Array.getElem?_setIfInBounds,this]⟩
theorem Kx {r:Nat} {x:Obj} (o:Obj) (h:w.heap[r]? = some x):(World.Ee w r o).heap[r]? = some o:=by
 have hr:=(Array.getElem?_eq_some_iff.1 h).1
 simp [World.Ee,hr]
def Ld:Value→Value→Bool
 | .int k a,.int k' b=>decide (k=k')&&!(a == b)
 | _,_=>false
theorem Le {kk:IntKind} {kv:Value}:∀ (es:List MapEntry) (i:Nat),(∀ e,e∈es→Ld kv e.key=true)→(∃ k n,kv=.int k n)→Instr.findNow (.int kk) kv es i=some none
 | [],_,_,_=>rfl
 | e :: es,i,h,hv=>by
  have h1:=h e (by simp)
  obtain ⟨k,n,rfl⟩:=hv
  have ih:=Le (kk:=kk) es (i+1) (fun x hx=>h x (by simp [hx])) ⟨k,n,rfl⟩
  cases hk:e.key with
  | int k' m =>
   rw [hk] at h1
   simp only [Ld,Bool.and_eq_true,decide_eq_true_eq,Bool.not_eq_true'] at h1
   obtain ⟨rfl,h2⟩:=h1
   simp only [Instr.findNow,Instr.sameNow,hk,if_true,h2]
   exact ih
  | _=>rw [hk] at h1; simp [Ld] at h1
structure R where
 v:AV
 ro:List (Nat × bP)
 mem:List (Nat × bP)
 gJ:List (Nat × bP)
 ob:Ob
theorem sH {P:Program} {b:Bool} {kt:TypeId} {ik kk:IntKind} {n:Int} (XG:P.underlying kt=some (.int ik)) (q:Nat):(Instr.checkKey b (q+1) kt (.int kk n)).run P w=.ok () w:=by
 rw [Instr.checkKey]
 simp [run_underlying XG]
theorem Lf {P:Program} {t kt et:TypeId} {ik kk:IntKind} {n0:Int} {g clock:Nat} {cur:Array MapEntry} {x:Value} (hu:P.underlying t=some (.map kt et)) (XG:P.underlying kt=some (.int ik)) (hg:w.heap[g]? = some (.map cur clock)) (hf:Instr.findNow (.int ik) (.int kk n0) cur.toList 0=some none) :
  (Instr.mapUpdate t (.map (some g)) (.int kk n0) x).run P w=.ok () (World.Ee w g (.map (cur.push { key:=.int kk n0,val:=x,born:=clock }) (clock+1))):=by
 unfold Instr.mapUpdate
 simp only [Sem.run_bind,run_underlying hu,Result.andThen_ok,vL hg,sH XG 9999,Instr.findKey,run_underlying XG,hf,Sem.run_pure,Tl _ hg]
def Lg (T:List (Nat × TI)) (lb:List (Nat × bP)) (ρ:Operand→Option AV) (dst:Option Nat) (quiet:Bool):Op→Option R
 | .makeMap _ none=>(match quiet,dst with
  | false,some d=>some ⟨.vr d,[],[],[(d,.mp 0 fun _=>(.bool false,default))],.tt⟩
  | _,_=>none)
 | .insert t m k x=>(match quiet,dst,ρ m,ρ k,ρ x,look T t with
  | false,none,some (.vr κ),some (.d (.v (.int kk a))),some (.d xd),some { kind:=.map kt _,.. }=>(match look lb κ,look T kt with
   | some (.mp n f),some { kind:=.int _,.. }=>some ⟨.any,[],[(κ,.mp n f)],[(κ,.mp (n+1) fun q=>if q < n then f q else (.int kk a,xd))],.be ((List.range n).all fun i=>Ld (.int kk a) (f i).1) true⟩
   | _,_=>none)
  | _,_,_,_,_,_=>none)
 | .range t m=>(match quiet,dst,ρ m,look T t with
  | false,some d,some (.vr κ),some { kind:=.map _ _,.. }=>(match look lb κ with
   | some (.mp n f)=>bif Nat.beq d κ then none else some ⟨.ptr d 0,[(κ,.mp n f)],[],[(d,.it κ n [])],.tt⟩
   | _=>none)
  | _,_,_,_=>none)
 | .entry it=>(match ρ it with
  | some (.ptr κi 0)=>(match look lb κi with
   | some (.it κ n (i :: s))=>(match look lb κ with
    | some (.mp n' f)=>some ⟨.fD [.d (.v (f i).1),.d (f i).2],[(κi,.it κ n (i :: s)),(κ,.mp n' f)],[],[],(Ob.ne n n').and (.pr (i < n))⟩
    | _=>none)
   | _=>none)
  | _=>none)
 | .slice t x none (some h) none=>(match quiet,dst,ρ x,ρ h,look T t with
  | false,some d,some (.own κ n),some (.d (.v (.int _ hh))),some { kind:=.slice e,.. }=>(match look lb κ,look T e with
   | some (.row e' k n' f),some i=>bif Nat.beq d κ||!Nat.beq e e'||!Nat.beq k i.size then none else some ⟨.own d hh.toNat,[],[(κ,.row e' k n' f)],[(d,.row e' k hh.toNat f)],(Ob.ne n n').and (.pr (0≤hh∧hh≤n))⟩
   | _,_=>none)
  | false,some _,some (.d (.v (.slice none 0 0))),some (.d (.v (.int _ hh))),some { kind:=.slice e,.. }=>(match look T e with
   | some _=>some ⟨.d (.v (.slice none 0 0)),[],[],[],.pr (0≤hh∧hh≤0)⟩
   | none=>none)
  | _,_,_,_,_=>none)
 | .call { callee:=.builtin .cap,args:=xs,argTypes:=ts }=>(match uf ρ xs.toList,ts.toList with
  | some [.d (.v (.slice none 0 0))],[t]=>(match look T t with
   | some { kind:=.slice _,.. }=>some ⟨.d (.v (.int .i64 0)),[],[],[],.tt⟩
   | _=>none)
  | _,_=>none)
 | .call { callee:=.builtin .append,args:=xs,argTypes:=ts }=>(match quiet,dst,uf ρ xs.toList,ts.toList with
  | false,some d,some [.d (.v (.slice none 0 0)),.d (.v (.int .i64 n))],[t,t']=>(match look T t,look T t' with
   | some { kind:=.slice e,.. },some { kind:=.int .i64,.. }=>(match look T e with
    | some i=>some ⟨.own d n.toNat,[],[],[(d,.row e i.size n.toNat fun _=>i.zero)],.pr (0≤n∧n.toNat≤maxLen∧n.toNat * i.bytes≤140737488355328)⟩
    | none=>none)
   | _,_=>none)
  | _,_,_,_=>none)
 | _=>none
theorem Tm {o:Oper} {d:Nat} {v:AV} {x:Value} {b:bP} {w1:World} {need:List (Nat × AV)} {ro:List (Nat × bP)} {gs:List (Nat × Bool)} (hs:dG C A a w S μ ν) (eT:o.dst=some d) (hdt:d < C.nt) (hf:lj A d) (hk:d ∉ b.keys)
  (iI:(execOp a.eval o).run C.P w=.ok (.value x) w1) (hk1:Kept w w1 (fun q=>q=w.heap.size)) (hb:∀ c,eH w1 S μ b w.heap.size c) (hv:∀ μ',μ' d=some (some (w.heap.size,0))→Rel w1 S μ' ν v x) :
  o.wp C.P a w (fun a' w'=>∃ S' μ',dG C ((Tr.mk need (some d) v ro [] [(d,b)] gs).apply A) a' w' S' μ' ν) (fun _ _ _=>False):=by
 unfold Oper.wp
 rw [iI]
 have uJ:¬ S w.heap.size:=fun h=>by have:=hs.bound _ h; omega
 have h1:=hs.XC hf (blk:=b) (b:=w.heap.size) (cap:=0) hk hk1 uJ (fun κ' b' g' c q1 q2 e'=>by
  have:=hs.mem κ' b' q1
  rw [q2] at this
  have:=this.at.lt
  omega) (.inl hs.kept.size) (hb 0)
 have h2:=h1.put (dst:=some d) (x:=v) (v:=x) (fun t ht=>by cases ht; exact hdt) (hv _ (by simp [dH]))
 rw [sF]
 exact ⟨S,_,by rw [eT]; exact h2⟩
theorem QY {T:List (Nat × TI)} (hT:pk C.P T) (hs:dG C A a w S μ ν) {lb:List (Nat × bP)} {o:Oper} {ρ:Operand→Option AV} (hρ:∀ x y,ρ x=some y→Rel w S μ ν y (a.eval x)) (hd:∀ t,o.dst=some t→t < C.nt) {quiet:Bool} {r:R}
  (h:Lg T lb ρ o.dst quiet o.op=some r) (ot:∀ p,p∈r.ro→A.lb p.1=some p.2) (lu:∀ p,p∈r.mem→A.lb p.1=some p.2) (cD:r.ob.den) (yD:∀ κ,κ∈(r.gJ.map (·.1)).filter (fun k=>!(r.mem.map (·.1)).contains k)→lj A κ) (need:List (Nat × AV)) (gs:List (Nat × Bool)) :
  o.wp C.P a w (fun a' w'=>∃ S' μ',dG C ((Tr.mk need o.dst r.v r.ro r.mem r.gJ gs).apply A) a' w' S' μ' ν) (fun _ _ _=>False):=by
 unfold Lg at h
 split at h
 all_goals rename_i ho
 ·-- makeMap
  split at h
  ·rename_i d eT
   simp only [Option.some.injEq] at h
   subst h
   rw [eT]
   have uJ:¬ S w.heap.size:=fun h=>by have:=hs.bound _ h; omega
   refine Tm hs eT (hd d eT) (yD d (by simp)) (by simp [bP.keys]) (x:=.map (some w.heap.size)) (w1:=w.alloc (.map #[] 0)) ?_ (qD w _ _) (fun c=>⟨#[],heap_alloc_new w _,uJ,rfl,fun i hi=>absurd hi (by omega)⟩) (fun μ' hμ=>.vr hμ)
   simp [execOp,ho,Instr.makeMap]
  ·cases h
 ·-- insert
  rename_i t m k x
  split at h
  ·rename_i κ kk n0 xd kt _ _ _ _ _ eT hm hk hx ht
   split at h
   ·rename_i n f ik _ _ _ _ hl hkt
    simp only [Option.some.injEq] at h
    subst h
    rw [eT]
    have hκ:=lu (κ,.mp n f) (by simp)
    have N4:=hs.mem κ _ hκ
    have hv:=hρ _ _ hm
    generalize hmv:a.eval m=mv at hv
    cases hv with
    | @vr _ g cap hμ =>
     rw [hμ] at N4
     obtain ⟨cur,hg,uJ,kN,cC⟩:=N4.at
     obtain ⟨ti,z,F⟩:=aG (hT _ _ ht)
     obtain ⟨tj,zj,G⟩:=aG (hT _ _ hkt)
     have hu:=Fj F.kind
     have XG:=vJ G.kind
     have hkv:=fk (hρ _ _ hk)
     have cD:(List.range n).all (fun i=>Ld (.int kk n0) (f i).1)=true:=cD
     simp only [List.all_eq_true,List.mem_range] at cD
     have ry:Instr.findNow (.int ik) (.int kk n0) cur.toList 0=some none:=Le _ 0 (fun e he=>by
      obtain ⟨q,hq,rfl⟩:=List.getElem_of_mem he
      have hqn:q < n:=by simpa [kN] using hq
      obtain ⟨e,h1,h2,_⟩:=cC q hqn
      have:cur.toList[q]=e:=by
       have:=Array.getElem?_eq_some_iff.1 h1
       simpa using this.2
      rw [this,h2]
      exact cD q hqn) ⟨kk,n0,rfl⟩
     have iI:(execOp a.eval o).run C.P w=.ok .skip (World.Ee w g (.map (cur.push { key:=.int kk n0,val:=a.eval x,born:=n }) (n+1))):=by
      have h1:=Lf (x:=a.eval x) hu XG hg ry
      unfold execOp
      rw [ho]
      simp only [hmv,hkv,Sem.run_bind,h1,Result.andThen_ok,Sem.run_pure]
     unfold Oper.wp
     rw [iI]
     refine ⟨S,μ,?_⟩
     rw [nG,eT]
     refine hs.QW hκ hμ (vt g _) ⟨_,Kx _ hg,uJ,by simp [kN],fun i hi=>?_⟩
     have hw:∀ q,S q→(World.Ee w g (.map (cur.push { key:=.int kk n0,val:=a.eval x,born:=n }) (n+1))).heap[q]? = w.heap[q]?:=fun q hq=>(vt g _).block q (hs.bound q hq) (fun e=>uJ (e ▸ hq))
     by_cases c:i < n
     ·obtain ⟨e,h1,h2,h3,h4,h5⟩:=cC i c
      refine ⟨e,?_,by simp only [c,if_true]; exact h2,h3,h4,by simp only [c,if_true]; exact h5.mono (fun _ x=>x) hw⟩
      rw [Array.getElem?_push,if_neg (by omega)]
      exact h1
     ·obtain rfl:i=n:=by omega
      refine ⟨_,by rw [Array.getElem?_push,if_pos kN.symm],by simp only [c,if_false],rfl,rfl,?_⟩
      simp only [c,if_false]
      exact (jX.1 (hρ _ _ hx)).mono (fun _ x=>x) hw
   ·cases h
  ·cases h
 ·-- range
  rename_i t m
  split at h
  ·rename_i d κ _ _ _ _ _ _ eT hm ht
   split at h
   ·rename_i n f hl
    rw [Bool.cond_eq_ite] at h
    split at h
    ·cases h
    ·rename_i vG
     simp only [Option.some.injEq] at h
     subst h
     rw [eT]
     have hκ:=ot (κ,.mp n f) (by simp)
     have N4:=hs.mem κ _ hκ
     have hv:=hρ _ _ hm
     generalize hmv:a.eval m=mv at hv
     cases hv with
     | @vr _ g cap hμ =>
      rw [hμ] at N4
      obtain ⟨cur,hg,aiH,kN,cC⟩:=N4.at
      obtain ⟨ti,z,F⟩:=aG (hT _ _ ht)
      have hu:=Fj F.kind
      have uJ:¬ S w.heap.size:=fun h=>by have:=hs.bound _ h; omega
      have hdk:d≠κ:=fun e=>by rw [e,Nat.beq_refl] at vG; exact vG rfl
      refine Tm hs eT (hd d eT) (yD d (by simp)) (by simp [bP.keys,hdk]) (x:=.pointer (some ⟨w.heap.size,0,none⟩)) (w1:=w.alloc (.mapIter (some g) n #[] n)) ?_ (qD w _ _) (fun c=>⟨g,cap,hμ,heap_alloc_new w _,uJ⟩) (fun μ' hμ'=>.ptr hμ')
      simp [execOp,ho,hmv,Instr.range,run_underlying hu,vL hg]
   ·cases h
  ·cases h
 ·-- entry
  rename_i it
  split at h
  ·rename_i κi hit
   split at h
   ·rename_i κ n i s NU
    split at h
    ·rename_i n' f hl
     simp only [Option.some.injEq] at h
     subst h
     have cD:((Ob.ne n n').and (.pr (i < n))).den:=cD
     obtain ⟨o1,o2⟩:=Ob.da cD
     have o1:n=n':=o1
     subst o1
     have o2:i < n:=o2
     have hκi:=ot (κi,.it κ n (i :: s)) (by simp)
     have hκ:=ot (κ,.mp n f) (by simp)
     have hv:=hρ _ _ hit
     generalize ZZ:a.eval it=iv at hv
     cases hv with
     | @ptr _ _ gi ci hμi =>
      have hmi:=hs.mem κi _ hκi
      rw [hμi] at hmi
      obtain ⟨mg,c,hμ,hgi,afq⟩:=hmi.at
      have N4:=hs.mem κ _ hκ
      rw [hμ] at N4
      obtain ⟨cur,hg,uJ,kN,cC⟩:=N4.at
      obtain ⟨e,h1,h2,h3,h4,h5⟩:=cC i o2
      have ry:cur.find? (fun x=>x.born == i)=some e:=by
       rw [Array.find?_eq_some_iff_getElem]
       have hi:i < cur.size:=by omega
       refine ⟨by simp [h4],i,hi,(Array.getElem?_eq_some_iff.1 h1).2,fun j hj=>?_⟩
       obtain ⟨e',q1,_,_,q4,_⟩:=cC j (by omega)
       have:cur[j]=e':=(Array.getElem?_eq_some_iff.1 q1).2
       rw [this,q4]
       simp
       omega
      refine nE (τ:=Tr.mk need o.dst (.fD [.d (.v (f i).1),.d (f i).2]) [(κi,.it κ n (i :: s)),(κ,.mp n f)] [] [] gs) hs hd (x:=.tuple #[e.key,e.val]) ?_ (.fD rfl (fun q hq=>?_)) rfl rfl rfl
      ·simp [execOp,ho,ZZ,Instr.entry,vL hgi,vL hg,ry]
      ·match q with
       | 0=>simpa [h2] using iJ (w:=w) (S:=S) (μ:=μ) (ν:=ν) h3
       | 1=>simpa using Rel.d (μ:=μ) (ν:=ν) h5
       | q+2=>simp at hq; omega
    ·cases h
   ·cases h
  ·cases h
 ·-- slice
  rename_i t x hh0
  split at h
  ·rename_i d κ n kk hh e _ _ _ _ eT hx hhi ht
   split at h
   ·rename_i e' k n' f i hl hie
    rw [Bool.cond_eq_ite] at h
    split at h
    ·cases h
    ·rename_i vG
     simp only [Bool.or_eq_true,Bool.not_eq_true',not_or,Bool.not_eq_false] at vG
     simp only [Option.some.injEq] at h
     subst h
     rw [eT]
     have cD:((Ob.ne n n').and (.pr (0≤hh∧hh≤n))).den:=cD
     obtain ⟨o1,o2,o3⟩:=Ob.da cD
     have o1:n=n':=o1
     subst o1
     have hdk:d≠κ:=fun e=>vG.1.1 (by rw [e,Nat.beq_refl])
     have hκ:=lu (κ,.row e' k n f) (by simp)
     have N4:=hs.mem κ _ hκ
     obtain ⟨ti,z,F⟩:=aG (hT _ _ ht)
     have hu:=fA F.kind
     obtain ⟨te,ze,G⟩:=aG (hT _ _ hie)
     have Ja:(sizeOf e).run C.P w=.ok i.size w:=by simp [sizeOf,typeInfo,G.info,G.size]
     have hhv:=fk (hρ _ _ hhi)
     have hf:lj A d:=yD d (by simp [hdk])
     have hv:=hρ _ _ hx
     generalize hxv:a.eval x=xv at hv
     have XH:=hs.drop κ
     have hfd:=hf.drop κ
     have q1:∀ (k:IntKind) (i:Int) (y:Nat) (c:BoundsCode),0≤i→i≤y→(Instr.sliceBound (.int k i) y c).run C.P w=.ok i.toNat w:=fun k i y c h0 h1=>run_sliceBound w k i y c h0 h1
     cases hv with
     | @dt _ ad hμ =>
      have aha:hh=0:=by omega
      subst aha
      unfold Oper.wp
      have iI:(execOp a.eval o).run C.P w=.ok (.value (.slice ad 0 0)) w:=by
       simp (disch:=omega) [execOp,ho,hxv,hhv,Instr.sliceAt,run_underlying hu,Instr.slice,Instr.sliceBounds,q1,Ja]
      rw [iI]
      have h1:=XH.K4 hfd e' k f
      have h2:=h1.put (dst:=some d) (x:=.own d 0) (v:=.slice ad 0 0) (fun t ht=>by cases ht; exact hd d eT) (.dt (by simp [dH]))
      rw [zW hdk]
      exact ⟨S,_,by rw [eT]; exact h2⟩
     | @own _ _ g cap hμ =>
      rw [hμ] at N4
      have uJ:=N4.at.not
      obtain ⟨cur,hg,_,h3,h4,h5,h6⟩:=N4.at
      unfold Oper.wp
      have YV:hh.toNat≤cap:=by omega
      have iI:(execOp a.eval o).run C.P w=.ok (.value (.slice (some ⟨g,0,none⟩) hh.toNat cap)) w:=by
       simp (disch:=omega) [execOp,ho,hxv,hhv,Instr.sliceAt,run_underlying hu,Instr.slice,Instr.sliceBounds,q1,Ja,js]
      rw [iI]
      have h1:=XH.XC hfd (blk:=.row e' k hh.toNat f) (b:=g) (cap:=cap) (w':=w) (by simp [bP.keys]) (Kept.refl _ _) uJ (fun κ' b' g' c q1 q2 e'=>by
       simp only [M.set] at q1
       by_cases cc:κ'=κ
       ·simp [cc] at q1
       ·simp only [cc,if_false] at q1
        subst e'
        exact cc (hs.inj κ' κ b' _ g' c cap q1 hκ q2 hμ)) (hs.own κ _ g cap hκ hμ) ⟨cur,hg,uJ,h3,YV,h5,fun q hq=>h6 q (by omega)⟩
      have h2:=h1.put (dst:=some d) (x:=.own d hh.toNat) (v:=.slice (some ⟨g,0,none⟩) hh.toNat cap) (fun t ht=>by cases ht; exact hd d eT) (.own (by simp [dH]))
      rw [zW hdk]
      exact ⟨S,_,by rw [eT]; exact h2⟩
   ·cases h
  ·rename_i d kk hh e _ _ _ _ eT hx hhi ht
   split at h
   ·rename_i i hie
    simp only [Option.some.injEq] at h
    subst h
    have cD:0≤hh∧hh≤0:=cD
    obtain rfl:hh=0:=by omega
    obtain ⟨ti,z,F⟩:=aG (hT _ _ ht)
    have hu:=fA F.kind
    obtain ⟨te,ze,G⟩:=aG (hT _ _ hie)
    have Ja:(sizeOf e).run C.P w=.ok i.size w:=by simp [sizeOf,typeInfo,G.info,G.size]
    have hhv:=fk (hρ _ _ hhi)
    have hxv:=dc rfl (hρ _ _ hx)
    have q1:∀ (k:IntKind) (i:Int) (y:Nat) (c:BoundsCode),0≤i→i≤y→(Instr.sliceBound (.int k i) y c).run C.P w=.ok i.toNat w:=fun k i y c h0 h1=>run_sliceBound w k i y c h0 h1
    refine nE (τ:=Tr.mk need o.dst (.d (.v (.slice none 0 0))) [] [] [] gs) hs hd (x:=.slice none 0 0) ?_ (iJ rfl) rfl rfl rfl
    simp (disch:=omega) [execOp,ho,hxv,hhv,Instr.sliceAt,run_underlying hu,Instr.slice,Instr.sliceBounds,q1,Ja]
   ·cases h
  ·cases h
 ·-- cap
  rename_i xs ts
  split at h
  ·rename_i t hxs hts
   split at h
   ·rename_i _ _ _ _ _ ht
    simp only [Option.some.injEq] at h
    subst h
    obtain ⟨ti,z,F⟩:=aG (hT _ _ ht)
    have hu:=fA F.kind
    have lr:=nF hρ xs.toList _ hxs
    have hx0:xs.map a.eval = #[.slice none 0 0]:=by
     have hl:(xs.map a.eval).toList.length=1:=by simpa using lr.1
     have h0:=lr.2 0 (by simp)
     have h0:=dc rfl h0
     apply Array.ext'
     rw [Array.toList_map] at hl ⊢
     match hq:xs.toList.map a.eval,hl with
     | [y],_=>rw [hq] at h0; simpa using h0
    have aao:ts = #[t]:=by cases ts; simpa using hts
    refine nE (τ:=Tr.mk need o.dst (.d (.v (.int .i64 0))) [] [] [] gs) hs hd (x:=.int .i64 0) ?_ (iJ rfl) rfl rfl rfl
    simp [execOp,ho,resolve,invoke,builtin,hx0,aao,Builtin.cap_,run_underlying hu,goInt]
   ·cases h
  ·cases h
 ·-- append of aip
  rename_i xs ts
  split at h
  ·rename_i d n t t' eT hxs hts
   split at h
   ·rename_i e _ _ _ _ _ _ _ _ ht ht'
    split at h
    ·rename_i i hie
     simp only [Option.some.injEq] at h
     subst h
     have cD:0≤n∧n.toNat≤maxLen∧n.toNat * i.bytes≤140737488355328:=cD
     obtain ⟨o1,o2,o3⟩:=cD
     rw [eT]
     obtain ⟨ti,z,F⟩:=aG (hT _ _ ht)
     have hu:=fA F.kind
     obtain ⟨ti',z',F'⟩:=aG (hT _ _ ht')
     have hu':=vJ F'.kind
     obtain ⟨te,ze,G⟩:=aG (hT _ _ hie)
     have lr:=nF hρ xs.toList _ hxs
     have hx0:xs.map a.eval = #[.slice none 0 0,.int .i64 n]:=by
      have hl:(xs.map a.eval).toList.length=2:=by simpa using lr.1
      have h0:=dc rfl (lr.2 0 (by simp))
      have h1:=dc rfl (lr.2 1 (by simp))
      apply Array.ext'
      rw [Array.toList_map] at hl ⊢
      match hq:xs.toList.map a.eval,hl with
      | [y,y'],_=>rw [hq] at h0 h1; simp only [List.getD_cons_zero,List.getD_cons_succ] at h0 h1; rw [h0,h1]
     have aao:ts = #[t,t']:=by cases ts; simpa using hts
     have hml:n≤9223372036854775807:=by have:=o2; simp only [maxLen] at this; omega
     have hwr:IntKind.i64.wrap n=n:=IntWalk.i64_in n ⟨by omega,hml⟩
     obtain ⟨q1,q2⟩:=ln (w:=w) (S:=S) G.zok
     have hzl:ze.cells.size=i.size:=by have:=q1; simp only [Array.length_toList] at this; rw [this,G.Ec]
     have hf:lj A d:=yD d (by simp)
     by_cases h0:n=0
     ·subst h0
      have iI:(execOp a.eval o).run C.P w=.ok (.value (.slice none 0 0)) w:=by
       simp [execOp,ho,resolve,invoke,builtin,hx0,aao,Builtin.append_,run_underlying hu,run_underlying hu',sizeOf,typeInfo,G.info,asInt,asIntOf,hwr]
      unfold Oper.wp
      rw [iI]
      have h1:=hs.K4 hf e i.size (fun _=>i.zero)
      have h2:=h1.put (dst:=some d) (x:=.own d 0) (v:=.slice none 0 0) (fun t ht=>by cases ht; exact hd d eT) (.dt (by simp [dH]))
      rw [sF]
      exact ⟨S,_,by rw [eT]; exact h2⟩
     ·have hn1:0 < n.toNat:=by omega
      have SK:=grownCap_ge w n.toNat 0 e
      have SL:grownCap w n.toNat 0 e≤maxLen:=grownCap_le_maxLen w n.toNat 0 e o2
      have h48:¬ (281474976710656 < Builtin.nextslicecap n.toNat 0 * te.bytes):=by rw [nextslicecap_zero hn1,G.bytes]; omega
      have afr:¬ (281474976710656 < n * (te.bytes:Int)):=by
       rw [G.bytes]
       have h1:((n.toNat * i.bytes:Nat):Int)≤140737488355328:=by omega
       rw [Int.natCast_mul,Int.toNat_of_nonneg o1] at h1
       omega
      have iI:∃ cells:Array Value,(execOp a.eval o).run C.P w=.ok (.value (.slice (some ⟨w.heap.size,0,none⟩) n.toNat (grownCap w n.toNat 0 e))) (w.drew.alloc (.cells cells e))∧cells=Builtin.zeroCells ze.cells n.toNat++Builtin.zeroCells ze.cells (grownCap w n.toNat 0 e - n.toNat):=by
       refine ⟨_,?_,rfl⟩
       have hn0:¬ n.toNat=0:=by omega
       have ace:¬ n < 0:=by omega
       have hle:¬ n≤0:=by omega
       have h63:¬ (9223372036854775807 < n):=by omega
       have hmx:max n 0=n:=by omega
       by_cases kN:i.size=0
       ·have hz0:ze.cells.size=0:=by omega
        have hze:Builtin.zeroCells ze.cells n.toNat = #[]:=by simp [Builtin.zeroCells,hz0]
        rw [hze]
        simp [execOp,ho,resolve,invoke,builtin,hx0,aao,Builtin.append_,run_underlying hu,run_underlying hu',sizeOf,typeInfo,G.info,asInt,asIntOf,hwr,ace,hle,h48,afr,h63,hmx,Question.forced,Builtin.firstCells,newRow,grownCap,zeroValue,G.zero,G.size,kN]
       ·simp [execOp,ho,resolve,invoke,builtin,hx0,aao,Builtin.append_,run_underlying hu,run_underlying hu',sizeOf,typeInfo,G.info,asInt,asIntOf,hwr,ace,hle,h48,afr,h63,hmx,Question.forced,Builtin.firstCells,newRow,grownCap,zeroValue,G.zero,G.size]
        intro hc
        rcases Nat.mul_eq_zero.1 hc with hc | hc
        ·exact absurd hc hn0
        ·exact absurd hc kN
      obtain ⟨cells,iI,QZ⟩:=iI
      have YV:cells.size=grownCap w n.toNat 0 e * i.size:=by
       rw [QZ]
       simp only [Array.size_append,size_zeroCells,hzl,← Nat.add_mul]
       congr 1
       omega
      unfold Oper.wp
      rw [iI]
      have uJ:¬ S w.heap.size:=fun h=>by have:=hs.bound _ h; omega
      have hw:∀ q,S q→(w.drew.alloc (.cells cells e)).heap[q]? = w.heap[q]?:=fun q hq=>heap_alloc_old w.drew _ (hs.bound q hq)
      have h1:=hs.XC hf (blk:=.row e i.size n.toNat fun _=>i.zero) (b:=w.heap.size) (cap:=grownCap w n.toNat 0 e) (w':=w.drew.alloc (.cells cells e)) (by simp [bP.keys]) ⟨rfl,rfl,rfl,by simp,fun k hk _=>heap_alloc_old w.drew _ hk⟩ uJ (fun κ' b' g' c q1 q2 e'=>by
       have:=hs.mem κ' b' q1
       rw [q2] at this
       have:=this.at.lt
       omega) (.inl hs.kept.size) ⟨cells,heap_alloc_new w.drew _,uJ,YV,SK,SL,fun q hq=>⟨G.Ec,fun j hj=>?_⟩⟩
      ·have h2:=h1.put (dst:=some d) (x:=.own d n.toNat) (v:=.slice (some ⟨w.heap.size,0,none⟩) n.toNat (grownCap w n.toNat 0 e)) (fun t ht=>by cases ht; exact hd d eT) (.own (by simp [dH]))
       rw [sF]
       exact ⟨S,_,by rw [eT]; exact h2⟩
      ·have gI:q * i.size+j < n.toNat * i.size:=by
        calc q * i.size+j < q * i.size+i.size:=by omega
         _=(q+1) * i.size:=by rw [Nat.add_mul,Nat.one_mul]
         _≤n.toNat * i.size:=Nat.mul_le_mul_right _ hq
       have Iu:j < ze.cells.size:=by omega
       have YU:(q * i.size+j) % ze.cells.size=j:=by rw [hzl,Nat.mul_comm,Nat.mul_add_mod,Nat.mod_eq_of_lt hj]
       refine ⟨ze.cells[j],?_,?_⟩
       ·rw [QZ,Array.getElem?_append_left (by rw [size_zeroCells,hzl]; exact gI)]
        have NY:q * i.size+j < n.toNat * ze.cells.size:=by rw [hzl]; exact gI
        simp only [Builtin.zeroCells,Array.getElem?_map,Array.getElem?_range,NY,if_true,Option.map_some,YU]
        rw [getElem!_pos ze.cells j Iu]
       ·have:=(q2 j (by rw [G.Ec]; exact hj)).mono (S':=S) (w':=w.drew.alloc (.cells cells e)) (fun _ x=>x) hw
        rw [show ze.cells.toList.getD j undef=ze.cells[j] from by simp [List.getD,Iu]] at this
        exact this
    ·cases h
   ·cases h
  ·cases h
 ·cases h
theorem YX {T:List (Nat × TI)} {lb:List (Nat × bP)} {ρ:Operand→Option AV} {dst:Option Nat} {quiet:Bool} {op:Op} {r:R} (h:Lg T lb ρ dst quiet op=some r) :
  (∀ p,p∈r.ro→look lb p.1=some p.2)∧(∀ p,p∈r.mem→look lb p.1=some p.2)∧(quiet=true→r.mem=[]∧r.gJ=[]):=by
 unfold Lg at h
 have nil:∀ {p:Nat × bP},p∈([]:List (Nat × bP))→look lb p.1=some p.2:=fun h=>by cases h
 have one:∀ {κ:Nat} {b:bP},look lb κ=some b→∀ p,p∈[(κ,b)]→look lb p.1=some p.2:=fun h p hp=>by simp only [List.mem_singleton] at hp; subst hp; exact h
 split at h
 ·split at h
  ·simp only [Option.some.injEq] at h; subst h; exact ⟨fun _=>nil,fun _=>nil,fun hq=>by cases hq⟩
  ·cases h
 ·split at h
  ·split at h
   ·rename_i hl _; simp only [Option.some.injEq] at h; subst h; exact ⟨fun _=>nil,one hl,fun hq=>by cases hq⟩
   ·cases h
  ·cases h
 ·split at h
  ·split at h
   ·rename_i hl
    rw [Bool.cond_eq_ite] at h
    split at h
    ·cases h
    ·simp only [Option.some.injEq] at h; subst h; exact ⟨one hl,fun _=>nil,fun hq=>by cases hq⟩
   ·cases h
  ·cases h
 ·split at h
  ·split at h
   ·rename_i NU
    split at h
    ·rename_i hl
     simp only [Option.some.injEq] at h; subst h
     exact ⟨fun p hp=>by
      simp only [List.mem_cons,List.not_mem_nil,or_false] at hp
      rcases hp with rfl | rfl
      ·exact NU
      ·exact hl,fun _=>nil,fun _=>⟨rfl,rfl⟩⟩
    ·cases h
   ·cases h
  ·cases h
 ·split at h
  ·split at h
   ·rename_i hl _
    rw [Bool.cond_eq_ite] at h
    split at h
    ·cases h
    ·simp only [Option.some.injEq] at h; subst h; exact ⟨fun _=>nil,one hl,fun hq=>by cases hq⟩
   ·cases h
  ·split at h
   ·simp only [Option.some.injEq] at h; subst h; exact ⟨fun _=>nil,fun _=>nil,fun hq=>by cases hq⟩
   ·cases h
  ·cases h
 ·split at h
  ·split at h
   ·simp only [Option.some.injEq] at h; subst h; exact ⟨fun _=>nil,fun _=>nil,fun _=>⟨rfl,rfl⟩⟩
   ·cases h
  ·cases h
 ·split at h
  ·split at h
   ·split at h
    ·simp only [Option.some.injEq] at h; subst h; exact ⟨fun _=>nil,fun _=>nil,fun hq=>by cases hq⟩
    ·cases h
   ·cases h
  ·cases h
 ·cases h
end
def Ef:Value→Value→Bool
 | .int k a,.int k' b=>decide (k=k')&&(a == b)
 | _,_=>false
def pq (k:Value):Nat→(Nat→Value × D)→Option Nat
 | 0,_=>none
 | n+1,f=>bif Ef k (f 0).1 then some 0 else (pq k n fun i=>f (i+1)).map (· + 1)
def AX (k:Value) (n:Nat) (f:Nat→Value × D):Bool:=(pq k n f).isSome
def vM (k:Value) (n:Nat) (f:Nat→Value × D) (z:D):D:=match pq k n f with | some p=>(f p).2 | none=>z
def mpN (k:Value) (n:Nat) (f:Nat→Value × D):Nat:=match pq k n f with | some _=>n | none=>n+1
def mpF (k:Value) (x:D) (n:Nat) (f:Nat→Value × D):Nat→Value × D:=match pq k n f with
 | some p=>fun q=>if q=p then ((f q).1,x) else f q
 | none=>fun q=>if q < n then f q else (k,x)
def XI (P:Program) (t:Nat):Option D:=match P.info? t with
 | some j=>(match j.zero with | some (.int k n)=>some (.v (.int k n)) | some (.bool b)=>some (.v (.bool b)) | _=>none)
 | none=>none
def Tn (P:Program) (T:List (Nat × TI)) (lb:List (Nat × bP)) (ρ:Operand→Option AV) (dst:Option Nat) (quiet:Bool):Op→Option R
 | .mapUpdate t m k x=>(match quiet,dst,ρ m,ρ k,ρ x,look T t with
  | false,none,some (.vr κ),some (.d (.v (.int kk a))),some (.d xd),some { kind:=.map kt _,.. }=>(match look lb κ,look T kt with
   | some (.mp n f),some { kind:=.int _,.. }=>some ⟨.any,[],[(κ,.mp n f)],[(κ,.mp (mpN (.int kk a) n f) (mpF (.int kk a) xd n f))],.pr (∀ i,i < n→∃ b,(f i).1=.int kk b)⟩
   | _,_=>none)
  | _,_,_,_,_,_=>none)
 | .lookup t m k ok=>(match ρ m,ρ k,look T t with
  | some (.vr κ),some (.d (.v (.int kk a))),some { kind:=.map kt et,.. }=>(match look lb κ,look T kt,XI P et with
   | some (.mp n f),some { kind:=.int _,.. },some z=>some ⟨bif ok then .fD [.d (vM (.int kk a) n f z),.d (.v (.bool (AX (.int kk a) n f)))] else .d (vM (.int kk a) n f z),[(κ,.mp n f)],[],[],.pr (∀ i,i < n→∃ b,(f i).1=.int kk b)⟩
   | _,_,_=>none)
  | some (.CS n f),some (.d (.v (.int kk a))),some { kind:=.map kt et,.. }=>(match look T kt,XI P et with
   | some { kind:=.int _,.. },some z=>some ⟨bif ok then .fD [.d (vM (.int kk a) n f z),.d (.v (.bool (AX (.int kk a) n f)))] else .d (vM (.int kk a) n f z),[],[],[],.pr (∀ i,i < n→∃ b,(f i).1=.int kk b)⟩
   | _,_=>none)
  | _,_,_=>none)
 | _=>none
theorem Eg {k:Value}:∀ {n:Nat} {f:Nat→Value × D},(∀ p,pq k n f=some p→p < n∧Ef k (f p).1=true)∧(pq k n f=none→∀ i,i < n→Ef k (f i).1=false)
 | 0,f=>⟨fun p h=>(by cases h),fun _ i hi=>absurd hi (by omega)⟩
 | n+1,f=>by
  have ih:=Eg (k:=k) (n:=n) (f:=fun i=>f (i+1))
  simp only [pq]
  cases hk:Ef k (f 0).1 with
  | true=>exact ⟨fun p h=>by simp only [cond_true,Option.some.injEq] at h; subst h; exact ⟨by omega,hk⟩,fun h=>(by cases h)⟩
  | false =>
   simp only [cond_false]
   refine ⟨fun p h=>?_,fun h i hi=>?_⟩
   ·cases hq:pq k n (fun i=>f (i+1)) with
    | none=>rw [hq] at h; cases h
    | some q =>
     rw [hq] at h
     simp only [Option.map_some,Option.some.injEq] at h
     subst h
     obtain ⟨h1,h2⟩:=ih.1 q hq
     exact ⟨by omega,h2⟩
   ·have hq:pq k n (fun i=>f (i+1))=none:=by
     cases hq:pq k n (fun i=>f (i+1)) with
     | none=>rfl
     | some q=>rw [hq] at h; cases h
    cases i with
    | zero=>exact hk
    | succ i=>exact ih.2 hq i (by omega)
theorem BJ {ik kk:IntKind} {a:Int}:∀ (es:List MapEntry) (f:Nat→Value × D) (j:Nat),(∀ (i:Nat) (h:i < es.length),(es[i]'h).key=(f i).1∧∃ b,(f i).1=.int kk b) →
  Instr.findNow (.int ik) (.int kk a) es j=some (match pq (.int kk a) es.length f with | some p=>(es[p]?).map (fun e=>(p+j,e.val)) | none=>none)
 | [],_,_,_=>rfl
 | e :: es,f,j,h=>by
  obtain ⟨h1,b,h2⟩:=h 0 (by simp)
  have h1:e.key=(f 0).1:=h1
  have ih:=BJ (ik:=ik) (kk:=kk) (a:=a) es (fun i=>f (i+1)) (j+1) (fun i hi=>h (i+1) (by simpa using hi))
  simp only [Instr.findNow,Instr.sameNow,h1,h2,if_true,List.length_cons,pq,Ef,decide_true,Bool.true_and]
  cases hab:(a == b) with
  | true=>simp
  | false =>
   simp only [ih,cond_false]
   cases hq:pq (.int kk a) es.length (fun i=>f (i+1)) with
   | none=>simp
   | some q =>
    simp only [Option.map_some,List.getElem?_cons_succ]
    congr 2
    funext e
    simp; omega
section
variable {C : Cx} {A : M} {a : Act} {w : World} {S : Nat → Prop} {μ : Mu} {ν : Nat → Bool}
theorem aap {P:Program} {k:IntKind} {n:Int}:(Instr.keyThatStays (.int k n) (.int k n)).run P w=.ok (.int k n) w:=by
 simp [Instr.keyThatStays,Instr.sameBits]
theorem Lh {ok:Bool} {x:D} {b:Bool} {v:Value} (hv:Rel w S μ ν (.d x) v):Rel w S μ ν (bif ok then .fD [.d x,.d (.v (.bool b))] else .d x) (bif ok then .tuple #[v,.bool b] else v):=by
 cases ok with
 | false=>exact hv
 | true =>
  refine .fD rfl (fun q hq=>?_)
  match q with
  | 0=>simpa using hv
  | 1=>simpa using iJ (w:=w) (S:=S) (μ:=μ) (ν:=ν) (x:=.bool b) rfl
  | q+2=>simp at hq; omega
theorem Li {T:List (Nat × TI)} (hT:pk C.P T) {t kt et:Nat} {ik kk:IntKind} {n0:Int} {kv:Value} {z:D} {n g:Nat} {f:Nat→Value × D} {cur:Array MapEntry} {ok:Bool} {s1 b1 s2 b2:Nat} {z1 z2:List D} {q1 q2:Bool}
  (hkv:kv=.int kk n0) (ht:look T t=some { kind:=.map kt et,size:=s1,bytes:=b1,zero:=z1,eq:=q1 }) (hkt:look T kt=some { kind:=.int ik,size:=s2,bytes:=b2,zero:=z2,eq:=q2 }) (hz:XI C.P et=some z) (cD:(Ob.pr (∀ i,i < n→∃ b,(f i).1=.int kk b)).den)
  (hg:w.heap[g]? = some (.map cur n)) (kN:cur.size=n) (cC:∀ i,i < n→∃ e,cur[i]? = some e∧e.key=(f i).1∧scalar e.key=true∧e.born=i∧Rd w S (f i).2 e.val) :
  ∃ v,(Instr.lookup t (.map (some g)) kv ok).run C.P w=.ok (bif ok then .tuple #[v,.bool (AX (.int kk n0) n f)] else v) w∧Rel w S μ ν (.d (vM (.int kk n0) n f z)) v:=by
 subst hkv
 obtain ⟨ti,z0,F⟩:=aG (hT _ _ ht)
 obtain ⟨tj,zj,G⟩:=aG (hT _ _ hkt)
 have hu:=Fj F.kind
 have XG:=vJ G.kind
 have cD:∀ i,i < n→∃ b,(f i).1=.int kk b:=cD
 have adW:∀ (i:Nat) (h:i < cur.toList.length),(cur.toList[i]'h).key=(f i).1∧∃ b,(f i).1=.int kk b:=fun i hi=>by
  have VF:i < n:=by simpa [kN] using hi
  obtain ⟨e,h1,h2,_⟩:=cC i VF
  have:cur.toList[i]=e:=by simpa using (Array.getElem?_eq_some_iff.1 h1).2
  rw [this]
  exact ⟨h2,cD i VF⟩
 have ry:=BJ (ik:=ik) (a:=n0) cur.toList f 0 adW
 have AU:cur.toList.length=n:=by simpa using kN
 rw [AU] at ry
 have hck:=fun q=>sH (w:=w) (P:=C.P) (b:=cur.isEmpty) (kk:=kk) (n:=n0) XG q
 obtain ⟨zv,hzv,hzr⟩:∃ zv,(zeroValue et).run C.P w=.ok zv w∧Rel w S μ ν (.d z) zv:=by
  unfold XI at hz
  split at hz
  ·rename_i j hj
   split at hz
   ·rename_i k' n' hjz
    simp only [Option.some.injEq] at hz
    subst hz
    exact ⟨.int k' n',by simp only [zeroValue,typeInfo,Sem.run_bind,run_program,Result.andThen_ok,hj,Sem.run_pure,hjz],iJ rfl⟩
   ·rename_i b hjz
    simp only [Option.some.injEq] at hz
    subst hz
    exact ⟨.bool b,by simp only [zeroValue,typeInfo,Sem.run_bind,run_program,Result.andThen_ok,hj,Sem.run_pure,hjz],iJ rfl⟩
   ·cases hz
  ·cases hz
 cases Jf:pq (.int kk n0) n f with
 | some p =>
  obtain ⟨hp,hpk⟩:=Eg.1 p Jf
  obtain ⟨e,h1,h2,h3,h4,h5⟩:=cC p hp
  have h1l:cur.toList[p]? = some e:=by simpa using h1
  rw [Jf] at ry
  simp only [h1l,Option.map_some,Nat.add_zero] at ry
  refine ⟨e.val,?_,by simp only [vM,Jf]; exact .d h5⟩
  unfold Instr.lookup
  simp only [Sem.run_bind,run_underlying hu,Result.andThen_ok,vL hg,Sem.run_pure,hck 9999,Instr.findKey,run_underlying XG,ry,AX,Jf,Option.isSome_some]
  cases ok <;> rfl
 | none =>
  rw [Jf] at ry
  simp only at ry
  refine ⟨zv,?_,by simp only [vM,Jf]; exact hzr⟩
  unfold Instr.lookup
  simp only [Sem.run_bind,run_underlying hu,Result.andThen_ok,vL hg,Sem.run_pure,hck 9999,Instr.findKey,run_underlying XG,ry,hzv,AX,Jf,Option.isSome_none]
  cases ok <;> rfl
theorem Tp {T:List (Nat × TI)} (hT:pk C.P T) (hs:dG C A a w S μ ν) {lb:List (Nat × bP)} {o:Oper} {ρ:Operand→Option AV} (hρ:∀ x y,ρ x=some y→Rel w S μ ν y (a.eval x)) (hd:∀ t,o.dst=some t→t < C.nt) {quiet:Bool} {r:R}
  (h:Tn C.P T lb ρ o.dst quiet o.op=some r) (ot:∀ p,p∈r.ro→A.lb p.1=some p.2) (lu:∀ p,p∈r.mem→A.lb p.1=some p.2) (cD:r.ob.den) (need:List (Nat × AV)) (gs:List (Nat × Bool)) :
  o.wp C.P a w (fun a' w'=>∃ S' μ',dG C ((Tr.mk need o.dst r.v r.ro r.mem r.gJ gs).apply A) a' w' S' μ' ν) (fun _ _ _=>False):=by
 unfold Tn at h
 split at h
 all_goals rename_i ho
 ·-- an entry is laid
  rename_i t m k x
  split at h
  ·rename_i κ kk n0 xd kt _ _ _ _ _ eT hm hk hx ht
   split at h
   ·rename_i n f ik _ _ _ _ hl hkt
    simp only [Option.some.injEq] at h
    subst h
    rw [eT]
    have hκ:=lu (κ,.mp n f) (by simp)
    have N4:=hs.mem κ _ hκ
    have hv:=hρ _ _ hm
    generalize hmv:a.eval m=mv at hv
    cases hv with
    | @vr _ g cap hμ =>
     rw [hμ] at N4
     obtain ⟨cur,hg,uJ,kN,cC⟩:=N4.at
     obtain ⟨ti,z,F⟩:=aG (hT _ _ ht)
     obtain ⟨tj,zj,G⟩:=aG (hT _ _ hkt)
     have hu:=Fj F.kind
     have XG:=vJ G.kind
     have hkv:=fk (hρ _ _ hk)
     have cD:∀ i,i < n→∃ b,(f i).1=.int kk b:=cD
     have adW:∀ (i:Nat) (h:i < cur.toList.length),(cur.toList[i]'h).key=(f i).1∧∃ b,(f i).1=.int kk b:=fun i hi=>by
      have VF:i < n:=by simpa [kN] using hi
      obtain ⟨e,h1,h2,_⟩:=cC i VF
      have:cur.toList[i]=e:=by simpa using (Array.getElem?_eq_some_iff.1 h1).2
      rw [this]
      exact ⟨h2,cD i VF⟩
     have ry:=BJ (ik:=ik) (a:=n0) cur.toList f 0 adW
     have AU:cur.toList.length=n:=by simpa using kN
     rw [AU] at ry
     have hw:∀ o':Obj,∀ q,S q→(World.Ee w g o').heap[q]? = w.heap[q]?:=fun o' q hq=>(vt g _).block q (hs.bound q hq) (fun e=>uJ (e ▸ hq))
     have hck:=fun q=>sH (w:=w) (P:=C.P) (b:=false) (kk:=kk) (n:=n0) XG q
     cases Jf:pq (.int kk n0) n f with
     | some p =>
      obtain ⟨hp,hpk⟩:=Eg.1 p Jf
      obtain ⟨e,h1,h2,h3,h4,h5⟩:=cC p hp
      have afs:e.key=.int kk n0:=by
       obtain ⟨b,hb⟩:=cD p hp
       rw [hb] at hpk h2
       simp only [Ef,decide_true,Bool.true_and,beq_iff_eq] at hpk
       rw [h2,hpk]
      have h1l:cur.toList[p]? = some e:=by simpa using h1
      rw [Jf] at ry
      simp only [h1l,Option.map_some,Nat.add_zero] at ry
      have iI:(execOp a.eval o).run C.P w=.ok .skip (World.Ee w g (.map (cur.modify p fun e=>{ e with key:=.int kk n0,val:=a.eval x }) n)):=by
       unfold execOp
       rw [ho]
       simp only [hmv,hkv,Sem.run_bind]
       unfold Instr.mapUpdate
       simp only [Sem.run_bind,run_underlying hu,Result.andThen_ok,vL hg,hck 9999,Instr.findKey,run_underlying XG,ry,Sem.run_pure,h1,Option.map_some,Option.getD_some,afs,aap,Tl _ hg]
      unfold Oper.wp
      rw [iI]
      refine ⟨S,μ,?_⟩
      rw [nG,eT]
      have eN:mpN (.int kk n0) n f=n:=by simp [mpN,Jf]
      rw [eN]
      refine hs.QW hκ hμ (vt g _) ⟨_,Kx _ hg,uJ,by simp [kN],fun i hi=>?_⟩
      obtain ⟨e',q1,q2,q3,q4,q5⟩:=cC i hi
      have gQ:i < cur.size:=by omega
      by_cases c:i=p
      ·subst c
       rw [h1] at q1
       cases q1
       refine ⟨{ e with key:=.int kk n0,val:=a.eval x },?_,?_,rfl,q4,?_⟩
       ·simp [Array.getElem?_modify,h1]
       ·simp only [mpF,Jf,if_true]
        rw [← q2,afs]
       ·simp only [mpF,Jf,if_true]
        exact (jX.1 (hρ _ _ hx)).mono (fun _ x=>x) (hw _)
      ·refine ⟨e',?_,?_,q3,q4,?_⟩
       ·have c':¬ p=i:=fun e=>c e.symm
        simp [Array.getElem?_modify,c',q1]
       ·simp only [mpF,Jf,c,if_false]; exact q2
       ·simp only [mpF,Jf,c,if_false]; exact q5.mono (fun _ x=>x) (hw _)
     | none =>
      rw [Jf] at ry
      simp only at ry
      have iI:(execOp a.eval o).run C.P w=.ok .skip (World.Ee w g (.map (cur.push { key:=.int kk n0,val:=a.eval x,born:=n }) (n+1))):=by
       have h1:=Lf (x:=a.eval x) hu XG hg ry
       unfold execOp
       rw [ho]
       simp only [hmv,hkv,Sem.run_bind,h1,Result.andThen_ok,Sem.run_pure]
      unfold Oper.wp
      rw [iI]
      refine ⟨S,μ,?_⟩
      rw [nG,eT]
      have eN:mpN (.int kk n0) n f=n+1:=by simp [mpN,Jf]
      rw [eN]
      refine hs.QW hκ hμ (vt g _) ⟨_,Kx _ hg,uJ,by simp [kN],fun i hi=>?_⟩
      by_cases c:i < n
      ·obtain ⟨e,h1,h2,h3,h4,h5⟩:=cC i c
       refine ⟨e,?_,by simp only [mpF,Jf,c,if_true]; exact h2,h3,h4,by simp only [mpF,Jf,c,if_true]; exact h5.mono (fun _ x=>x) (hw _)⟩
       rw [Array.getElem?_push,if_neg (by omega)]
       exact h1
      ·obtain rfl:i=n:=by omega
       refine ⟨_,by rw [Array.getElem?_push,if_pos kN.symm],by simp only [mpF,Jf,c,if_false],rfl,rfl,?_⟩
       simp only [mpF,Jf,c,if_false]
       exact (jX.1 (hρ _ _ hx)).mono (fun _ x=>x) (hw _)
   ·cases h
  ·cases h
 ·-- an entry is looked up
  rename_i t m k ok
  split at h
  ·rename_i κ kk n0 kt et _ _ _ _ hm hk ht
   split at h
   ·rename_i n f ik _ _ _ _ z hl hkt hz
    simp only [Option.some.injEq] at h
    subst h
    have hκ:=ot (κ,.mp n f) (by simp)
    have N4:=hs.mem κ _ hκ
    have hv:=hρ _ _ hm
    generalize hmv:a.eval m=mv at hv
    cases hv with
    | @vr _ g cap hμ =>
     rw [hμ] at N4
     obtain ⟨cur,hg,uJ,kN,cC⟩:=N4.at
     obtain ⟨v,hrv,hv⟩:=Li (ok:=ok) hT (fk (hρ _ _ hk)) ht hkt hz cD hg kN cC
     refine nE (τ:=Tr.mk need o.dst (bif ok then .fD [.d (vM (.int kk n0) n f z),.d (.v (.bool (AX (.int kk n0) n f)))] else .d (vM (.int kk n0) n f z)) [(κ,.mp n f)] [] [] gs) hs hd (x:=bif ok then .tuple #[v,.bool (AX (.int kk n0) n f)] else v) ?_ (Lh hv) rfl rfl rfl
     simp only [execOp,ho,hmv,Sem.run_bind,hrv,Result.andThen_ok,Sem.run_pure]
   ·cases h
  ·rename_i n f kk n0 kt et _ _ _ _ hm hk ht
   split at h
   ·rename_i ik _ _ _ _ z hkt hz
    simp only [Option.some.injEq] at h
    subst h
    have hv:=hρ _ _ hm
    generalize hmv:a.eval m=mv at hv
    cases hv with
    | @CS _ _ g hp =>
     obtain ⟨uJ,cur,hg,kN,cC⟩:=hp
     obtain ⟨v,hrv,hv⟩:=Li (ok:=ok) hT (fk (hρ _ _ hk)) ht hkt hz cD hg kN cC
     refine nE (τ:=Tr.mk need o.dst (bif ok then .fD [.d (vM (.int kk n0) n f z),.d (.v (.bool (AX (.int kk n0) n f)))] else .d (vM (.int kk n0) n f z)) [] [] [] gs) hs hd (x:=bif ok then .tuple #[v,.bool (AX (.int kk n0) n f)] else v) ?_ (Lh hv) rfl rfl rfl
     simp only [execOp,ho,hmv,Sem.run_bind,hrv,Result.andThen_ok,Sem.run_pure]
   ·cases h
  ·cases h
 ·cases h
theorem Lj {P:Program} {T:List (Nat × TI)} {lb:List (Nat × bP)} {ρ:Operand→Option AV} {dst:Option Nat} {quiet:Bool} {op:Op} {r:R} (h:Tn P T lb ρ dst quiet op=some r) :
  (∀ p,p∈r.ro→look lb p.1=some p.2)∧(∀ p,p∈r.mem→look lb p.1=some p.2)∧(quiet=true→r.mem=[]∧r.gJ=[])∧∀ k,k∈r.gJ.map (·.1)→k∈r.mem.map (·.1):=by
 unfold Tn at h
 have nil:∀ {p:Nat × bP},p∈([]:List (Nat × bP))→look lb p.1=some p.2:=fun h=>by cases h
 have one:∀ {κ:Nat} {b:bP},look lb κ=some b→∀ p,p∈[(κ,b)]→look lb p.1=some p.2:=fun h p hp=>by simp only [List.mem_singleton] at hp; subst hp; exact h
 split at h
 ·split at h
  ·split at h
   ·rename_i hl _; simp only [Option.some.injEq] at h; subst h; exact ⟨fun _=>nil,one hl,fun hq=>(by cases hq),fun k hk=>by simpa using hk⟩
   ·cases h
  ·cases h
 ·split at h
  ·split at h
   ·rename_i hl _ _; simp only [Option.some.injEq] at h; subst h; exact ⟨one hl,fun _=>nil,fun _=>⟨rfl,rfl⟩,fun k hk=>(by cases hk)⟩
   ·cases h
  ·split at h
   ·simp only [Option.some.injEq] at h; subst h; exact ⟨fun _=>nil,fun _=>nil,fun _=>⟨rfl,rfl⟩,fun k hk=>(by cases hk)⟩
   ·cases h
  ·cases h
 ·cases h
end
structure tH where
 n:Nat
 n':Nat
 f:Nat→List D
 f':Nat→List D
 eq:n=n'∧∀ i,i < n→yG (f i) (f' i)
structure PR where
 x:AV
 y:AV
 le:∀ w S μ ν v,Rel w S μ ν x v→Rel w S μ ν y v
structure DW where
 n:Nat
 n':Nat
 f:Nat→Value × D
 f':Nat→Value × D
 eq:n=n'∧∀ i,i < n→f i=f' i
inductive C0 where
 | flat (res:AV)
 | gen (hand:List Nat) (res:AV) (back:List (Nat × bP))
 | eG (c:tH)
 | aZ (c:DW)
 | cast (d:Nat) (c:PR)
 | pur (d:Nat)
 | same (κ:Nat) (b':bP)
 | bx (hand:List Nat) (jY:List (Nat × Nat)) (res:AV) (back:List (Nat × bP))
def looks (lb:List (Nat × bP)):List Nat→Option (List (Nat × bP))
 | []=>some []
 | k :: r=>(match look lb k,looks lb r with | some b,some l=>some ((k,b) :: l) | _,_=>none)
def Ky (res:AV) (back:List (Nat × bP)):Bool :=
 res.keys.all (fun k=>(back.map (·.1)).contains k)&&back.all (fun p=>p.2.keys.all fun k=>(back.map (·.1)).contains k)
def Q0 (T:List (Nat × TI)) (lb:List (Nat × bP)) (t:Nat) (ad v:AV):Option R :=
 match look T t,v.cells with
 | some i,some xs=>(match ad with
  | .ptr κ off=>(match look lb κ with
   | some (.box cs)=>bif Nat.beq xs.length i.size&&Nat.ble (off+i.size) cs.length&&wX.pF xs&&xs.all QR then some ⟨.any,[],[(κ,.box cs)],[(κ,.box (cs.take off++xs++cs.drop (off+i.size)))],.tt⟩ else none
   | _=>none)
  | .zO κ k p off=>(match look lb κ,AW xs with
   | some (.row e k' n f),some ds=>bif Nat.beq k k'&&Nat.beq ds.length i.size&&Nat.ble (off+i.size) k&&ds.all Bb then
     some ⟨.any,[],[(κ,.row e k n f)],[(κ,.row e k n fun q=>if q=p then (f p).take off++ds++(f p).drop (off+i.size) else f q)],.pr (p < n)⟩ else none
   | _,_=>none)
  | _=>none)
 | _,_=>none
def aaq (lb:List (Nat × bP)) (k:Nat):AV→Option (Nat × (Nat→List D) × List (Nat × bP) × Ob)
 | .d (.sl m g)=>some (m,g,[],.pr ((∀ i,i < m→(g i).length=k)∧∀ i,i < m→(g i).all Bb=true))
 | .d (.v (.slice none 0 0))=>some (0,fun _=>[],[],.tt)
 | .Br m g=>some (m,g,[],.pr ((∀ i,i < m→(g i).length=k)∧∀ i,i < m→(g i).all Bb=true))
 | .own κ m=>(match look lb κ with | some (.row e k' m' g)=>bif Nat.beq k k' then some (m,g,[(κ,.row e k' m' g)],(Ob.ne m m').and (.pr (∀ i,i < m→(g i).all Bb=true))) else none | _=>none)
 | _=>none
def Lk (T:List (Nat × TI)) (lb:List (Nat × bP)) (dst t:Nat) (dv sv:AV):Option R :=
 match look T t with
 | some { kind:=.slice e,.. }=>(match look T e with
  | some i=>(match aaq lb i.size sv with
   | some (m,g,ro,ob)=>(match dv with
    | .d (.v (.slice none 0 0))=>some ⟨.own dst (0+m),ro,[],[(dst,.row e i.size (0+m) fun q=>if q < 0 then [] else g (q - 0))],ob.and (.pr (0+m≤maxLen∧(0+m) * i.bytes≤140737488355328))⟩
    | .own κ n=>(match look lb κ with
     | some (.row e' k n' f)=>bif Nat.beq e e'&&Nat.beq k i.size&&!Nat.beq dst κ then some ⟨.own dst (n+m),ro,[(κ,.row e' k n' f)],[(dst,.row e i.size (n+m) fun q=>if q < n then f q else g (q - n))],ob.and ((Ob.ne n n').and (.pr (n+m≤maxLen∧(n+m) * i.bytes≤140737488355328)))⟩ else none
     | _=>none)
    | _=>none)
   | none=>none)
  | none=>none)
 | _=>none
def Kz (lb:List (Nat × bP)) (κ:Nat):Bool:=match look lb κ with | some (.box _)=>true | _=>false
def aar (κ:Nat):AV→Bool
 | .ptr k 0=>Nat.beq k κ
 | _=>false
def acf (args:List AV) (hand:List Nat) (c6:List (Nat × bP)) (jY:List (Nat × Nat)) (res:AV) (back:List (Nat × bP)):Bool :=
 jY.all (fun p=>Nat.ble (p.1+1) args.length&&aar p.2 (args.getD p.1 default)&&Kz c6 p.2&&Kz back p.2) &&
 back.all (fun q=>(jY.map (·.2)).contains q.1||!hand.contains q.1) &&
 res.keys.all (fun k=>(back.map (·.1)).contains k&&!(jY.map (·.2)).contains k) &&
 back.all (fun q=>q.2.keys.all fun k=>(back.map (·.1)).contains k&&!(jY.map (·.2)).contains k)
def V3 (P:Program) (lb:List (Nat × bP)) (quiet:Bool) (cf:AV) (args:List AV):List C0→Option (R × List C0)
 | .flat res :: kX=>(match cf with
  | .fn f cY=>(match yM lb (args++cY) with
   | some (Iz,ro,ob)=>bif gK res then some (⟨res,ro,[],[],ob.and (.pr (gR P f Iz [] res []))⟩,kX) else none
   | none=>none)
  | _=>none)
 | .gen hand res back :: kX=>(match cf with
  | .fn f cY=>(match looks lb hand with
   | some c6=>bif wX.pF (args++cY)&&Ky res back&&wX res&&(!quiet||(hand.isEmpty&&back.isEmpty))&&back.all (fun p=>!hand.contains p.1) then some (⟨res,[],c6,back,.pr (gR P f (args++cY) c6 res back)⟩,kX) else none
   | none=>none)
  | _=>none)
 | .same κ b' :: kX=>(match cf with
  | .fn f cY=>(match look lb κ with
   | some b=>bif wX.pF (args++cY)&&!quiet then some (⟨.any,[],[(κ,b)],[(κ,b')],.pr (FnS P f (args++cY) κ b b')⟩,kX) else none
   | none=>none)
  | _=>none)
 | .bx hand jY res back :: kX=>(match cf with
  | .fn f cY=>(match looks lb hand with
   | some c6=>bif wX.pF (args++cY)&&acf (args++cY) hand c6 jY res back&&wX res&&!quiet then some (⟨res,[],c6,back,.pr (FnB P f (args++cY) c6 res back jY)⟩,kX) else none
   | none=>none)
  | _=>none)
 | _=>none
def adl (quiet:Bool) (dst:Option Nat) (kX:List C0):Option (List C0) :=
 match quiet with
 | true=>some kX
 | false=>(match dst,kX with
  | some t,.pur d :: r=>bif Nat.beq t d then some r else none
  | _,_=>none)
def Tq (P:Program) (T:List (Nat × TI)) (lb:List (Nat × bP)) (ρ:Operand→Option AV) (dst:Option Nat) (quiet:Bool) (kX:List C0) (op:Op):Option (R × List C0) :=
 match op with
 | .alloc t=>(match quiet,dst,look T t with | false,some d,some i=>some (⟨.ptr d 0,[],[],[(d,.box (i.zero.map .d))],.tt⟩,kX) | _,_,_=>none)
 | .box _ x=>(match quiet,dst,ρ x with
  | false,some d,some v=>(match v.cells with
   | some cs=>(match adl false (some d) kX,AW cs with
    | some uW,some ds=>some (⟨.ref ds,[],[],[],.tt⟩,uW)
    | _,_=>bif wX.pF cs&&!(AV.sr cs).contains d then some (⟨.ptr d 0,[],[],[(d,.box cs)],.tt⟩,kX) else none)
   | none=>none)
  | _,_,_=>none)
 | .buildSlice t len ps=>(match vK T ρ t len ps.toList with
  | some (e,k,ds)=>(match adl quiet dst kX with
   | some kX=>some (⟨.d (.sl len (Ed k len ds)),[],[],[],.tt⟩,kX)
   | none=>(match quiet,dst with
    | false,some d=>some (⟨.own d len,[],[],[(d,.row e k len (Ed k len ds))],.tt⟩,kX)
    | _,_=>none))
  | none=>none)
 | .store t ad x=>(match quiet,dst,ρ ad,ρ x with
  | false,none,some av,some v=>(match Q0 T lb t av v with | some r=>some (r,kX) | none=>none)
  | _,_,_,_=>none)
 | .call { callee:=.builtin .append,args:=xs,argTypes:=ts }=>(match quiet,dst,xs.toList,ts.toList with
  | false,some d,[s,x],[t,t']=>(match Nat.beq t t',ρ s,ρ x with
   | true,some dv,some sv=>(match Lk T lb d t dv sv with | some r=>some (r,kX) | none=>none)
   | _,_,_=>none)
  | _,_,_,_=>none)
 | .call { callee:=.value cf,args:=xs,.. }=>(match ρ cf,uf ρ xs.toList with
  | some c,some l=>V3 P lb quiet c l kX
  | _,_=>none)
 | .makeSlice t l c=>(match quiet,dst,look T t,ρ l,ρ c with
  | false,some d,some { kind:=.slice e,.. },some (.d (.v (.int _ n))),some (.d (.v (.int _ m)))=>(match look T e with
   | some i=>some (⟨.own d n.toNat,[],[],[(d,.row e i.size n.toNat fun _=>i.zero)],(Ob.ze n m).and (.pr (0≤n∧n.toNat≤maxLen∧n.toNat * i.bytes≤140737488355328))⟩,kX)
   | none=>none)
  | _,_,_,_,_=>none)
 | op=>(match QV T ρ op with
  | some (v,ob)=>some (⟨v,[],[],[],ob⟩,kX)
  | none=>(match evV T lb ρ op with | some (v,ro,ob)=>some (⟨v,ro,[],[],ob⟩,kX) | none=>none))
def aas (T:List (Nat × TI)) (ρ:Operand→Option AV):Op→Option (AV × Ob)
 | .build t ps=>(match look T t,BE ρ ps.toList with
  | some { kind:=.array _ e,zero:=z,.. },some vs=>(match look T e with
   | some ie=>(match KW (fun q=>some (q * ie.size,ie.size)) (z.map .d) vs with | some cs=>some (SX cs,.tt) | none=>none)
   | none=>none)
  | _,_=>none)
 | .indexAddr t x i=>(match look T t,ρ x,ρ i with
  | some { kind:=.array n e,.. },some (.ptr κ off),some (.d (.v (.int _ q)))=>(match look T e with | some ie=>some (.ptr κ (off+q.toNat * ie.size),.pr (0≤q∧q < n)) | none=>none)
  | some { kind:=.array n e,.. },some (.ref cs),some (.d (.v (.int _ q)))=>(match look T e with | some ie=>some (.ref (cs.drop (q.toNat * ie.size)),.pr (0≤q∧q < n)) | none=>none)
  | _,_,_=>none)
 | _=>none
def Ts (P:Program) (T:List (Nat × TI)) (lb:List (Nat × bP)) (ρ:Operand→Option AV) (dst:Option Nat) (quiet:Bool) (kX:List C0) (op:Op):Option (R × List C0) :=
 match Tn P T lb ρ dst quiet op with
 | some r=>some (r,kX)
 | none=>(match Lg T lb ρ dst quiet op with
 | some r=>some (r,kX)
 | none=>(match aas T ρ op with
 | some (v,ob)=>some (⟨v,[],[],[],ob⟩,kX)
 | none=>Tq P T lb ρ dst quiet kX op))
def ahb:Op→Bool
 | .buildSlice .. | .slice .. | .store .. | .makeSlice .. | .convert ..=>true
 | .call { callee:=.builtin .append,.. }=>true
 | _=>false
def Tt (c:tH) (r:R):Option R :=
 match r.gJ with
 | [(κ,.row e k n f)]=>(match r.v with
  | .own κ' m=>bif Nat.beq κ' κ then some ⟨.own κ' c.n',r.ro,r.mem,[(κ,.row e k c.n' c.f')],r.ob.and ((Ob.ne m c.n).and ((Ob.ne n c.n).and (.fe f c.f)))⟩ else none
  | .any=>some ⟨.any,r.ro,r.mem,[(κ,.row e k c.n' c.f')],r.ob.and ((Ob.ne n c.n).and (.fe f c.f))⟩
  | _=>none)
 | []=>(match r.v with
  | .d (.sl n f)=>some ⟨.d (.sl c.n' c.f'),r.ro,r.mem,[],r.ob.and ((Ob.ne n c.n).and (.fe f c.f))⟩
  | _=>none)
 | _=>none
def Tu (c:DW) (r:R):Option R :=
 match r.gJ with
 | [(κ,.mp n f)]=>(match r.v with
  | .any=>some ⟨.any,r.ro,r.mem,[(κ,.mp c.n' c.f')],r.ob.and ((Ob.ne n c.n).and (.me f c.f))⟩
  | .vr q=>some ⟨.vr q,r.ro,r.mem,[(κ,.mp c.n' c.f')],r.ob.and ((Ob.ne n c.n).and (.me f c.f))⟩
  | _=>none)
 | _=>none
def adm (c:PR) (r:R):R:=⟨c.y,r.ro,r.mem,r.gJ,r.ob.and (.ve r.v c.x)⟩
def aat (P:Program) (T:List (Nat × TI)) (lb:List (Nat × bP)) (ρ:Operand→Option AV) (dst:Option Nat) (quiet:Bool) (kX:List C0) (op:Op):Option (R × List C0) :=
 match Ts P T lb ρ dst quiet kX op with
 | some (r,N5)=>(match ahb op,N5 with
  | true,.eG c :: V4=>(match Tt c r with | some r'=>some (r',V4) | none=>some (r,N5))
  | _,.aZ c :: V4=>(match Tu c r with | some r'=>some (r',V4) | none=>some (r,N5))
  | _,.cast d c :: V4=>(match dst with | some t=>bif Nat.beq t d then some (adm c r,V4) else some (r,N5) | none=>some (r,N5))
  | _,_=>some (r,N5))
 | none=>none
section
variable {C : Cx} {A : M} {a : Act} {w : World} {S : Nat → Prop} {μ : Mu} {ν : Nat → Bool}
theorem GW {lb:List (Nat × bP)}:∀ {ks:List Nat} {l:List (Nat × bP)},looks lb ks=some l→l.map (·.1)=ks
 | [],l,h=>by simp only [looks,Option.some.injEq] at h; subst h; rfl
 | k :: r,l,h=>by
  simp only [looks] at h
  cases h1:look lb k with
  | none=>rw [h1] at h; cases h
  | some b =>
   cases h2:looks lb r with
   | none=>rw [h1,h2] at h; cases h
   | some l' =>
    rw [h1,h2] at h
    simp only [Option.some.injEq] at h
    subst h
    simp [GW h2]
theorem adX {T:List (Nat × TI)} (hT:pk C.P T) (hs:dG C A a w S μ ν) {lb:List (Nat × bP)} {o:Oper} {ρ:Operand→Option AV} (hρ:∀ x y,ρ x=some y→Rel w S μ ν y (a.eval x)) (hd:∀ t,o.dst=some t→t < C.nt)
  {v:AV} {ro:List (Nat × bP)} {ob:Ob} (h:evV T lb ρ o.op=some (v,ro,ob)) (ot:∀ p,p∈ro→A.lb p.1=some p.2) (cD:ob.den) (need:List (Nat × AV)) (gs:List (Nat × Bool)) :
  o.wp C.P a w (fun a' w'=>∃ S' μ',dG C ((Tr.mk need o.dst v ro [] [] gs).apply A) a' w' S' μ' ν) (fun _ _ _=>False):=by
 obtain ⟨x,h1,h2⟩:=YM hT hs hρ h ot cD
 exact nE hs hd h1 h2 rfl rfl rfl
theorem Q1 {o:Oper} {t:TypeId} {ds:List D} {τ:Tr} (hs:dG C A a w S μ ν) (hd:∀ t,o.dst=some t→t < C.nt) {vs:Array Value}
  (iI:(execOp a.eval o).run C.P w=.ok (.value (.pointer (some ⟨w.heap.size,0,none⟩))) (w.alloc (.cells vs t))) (hr:eo w S μ ν (ds.map .d) vs.toList)
  (h0:τ.v=.ref ds) (h1:τ.dst=o.dst) (h2:τ.mem=[]) (h3:τ.gJ=[]) :
  o.wp C.P a w (fun a' w'=>∃ S' μ',dG C (τ.apply A) a' w' S' μ' ν) (fun _ _ _=>False):=by
 unfold Oper.wp
 rw [iI]
 let S':Nat→Prop:=fun q=>S q∨q=w.heap.size
 have h4:=hs.world (S':=S') (w':=w.alloc (.cells vs t)) (fun _ x=>.inl x) (fun q hq=>hq.elim .inl (fun e=>.inr ⟨by omega,by rw [e]; simp⟩)) (qD w _ _)
 have hl:=hr.1
 simp only [List.length_map,Array.length_toList] at hl
 have hrd:∀ ν,Rel (w.alloc (.cells vs t)) S' μ ν (.ref ds) (.pointer (some ⟨w.heap.size,0,none⟩)):=fun ν'=>by
  refine .ref (fun j=>vs.toList.getD j undef) (fun j hj=>⟨.inr rfl,?_⟩) (fun j hj=>?_)
  ·rw [iK _ _ _ vs t (0,0) (heap_alloc_new w _)]
   have gI:j < vs.size:=by omega
   simp [List.getD,gI]
  ·have:=hr.2 j (by simpa using hj)
   rw [lq _ j hj] at this
   exact (jX.1 this).mono (fun _ x=>.inl x) (fun q hq=>heap_alloc_old w _ (hs.bound q hq))
 have h5:=h4.put (dst:=o.dst) (x:=.ref ds) (v:=.pointer (some ⟨w.heap.size,0,none⟩)) hd (hrd ν)
 refine ⟨S',μ,?_⟩
 have e:τ.apply A=A.yH o.dst (.ref ds):=by
  unfold Tr.apply M.yH M.put
  rw [h0,h1,h2,h3]
  cases ho:o.dst with
  | none=>simp [look]
  | some d =>
   simp only [look,List.map_nil,List.not_mem_nil,if_false,Option.some.injEq]
   congr 1
   funext t
   by_cases c:d=t
   ·simp [c]
   ·have:¬ t=d:=fun e=>c e.symm
    simp [c,this]
 rw [e]
 exact h5
theorem Tv {T:List (Nat × TI)} (hT:pk C.P T) (hs:dG C A a w S μ ν) {lb:List (Nat × bP)} {o:Oper} {ρ:Operand→Option AV} (hρ:∀ x y,ρ x=some y→Rel w S μ ν y (a.eval x)) (hd:∀ t,o.dst=some t→t < C.nt) {quiet:Bool} {kX uW:List C0} {r:R}
  (h:Tq C.P T lb ρ o.dst quiet kX o.op=some (r,uW)) (ot:∀ p,p∈r.ro→A.lb p.1=some p.2) (lu:∀ p,p∈r.mem→A.lb p.1=some p.2) (cD:r.ob.den) (yD:∀ κ,κ∈(r.gJ.map (·.1)).filter (fun k=>!(r.mem.map (·.1)).contains k)→lj A κ) (need:List (Nat × AV)) (gs:List (Nat × Bool)) :
  o.wp C.P a w (fun a' w'=>∃ S' μ',dG C ((Tr.mk need o.dst r.v r.ro r.mem r.gJ gs).apply A) a' w' S' μ' ν) (fun _ _ _=>False):=by
 unfold Tq at h
 split at h
 all_goals rename_i ho
 ·rename_i t0
  split at h
  ·rename_i d i eT hi
   simp only [Option.some.injEq,Prod.mk.injEq] at h
   obtain ⟨rfl,-⟩:=h
   obtain ⟨ti,z,F⟩:=aG (hT _ _ hi)
   obtain ⟨q1,q2⟩:=ln (w:=w) (S:=S) F.zok
   have hz:eo w S μ ν (i.zero.map .d) z.cells.toList:=by
    refine ⟨by simpa using q1,fun j hj=>?_⟩
    simp only [List.length_map] at hj
    rw [lq _ j hj]
    exact .d (q2 j hj)
   have hng:∀ l:List D,wX.pF (l.map AV.d)=true:=fun l=>by induction l with | nil=>rfl | cons x r ih=>simpa [wX.pF,wX] using ih
   have XJ:∀ l:List D,AV.sr (l.map AV.d)=[]:=fun l=>by induction l with | nil=>rfl | cons x r ih=>simpa [AV.sr,AV.keys] using ih
   rw [eT]
   refine Td (t:=t0) hs eT (hd d eT) (vs:=z.cells) ?_ hz (hng _) (yD d (by simp)) (by rw [XJ]; simp)
   simp only [execOp,ho,Instr.alloc,zeroValue,typeInfo,Sem.run_bind,run_program,Result.andThen_ok,F.info,Sem.run_pure,F.zero,newVar,newRow,run_newObj]
   rfl
  ·cases h
 ·rename_i t0 x0
  split at h
  ·rename_i d v eT hx
   split at h
   ·rename_i cs hc
    split at h
    ·rename_i uW ds _ hp
     simp only [Option.some.injEq,Prod.mk.injEq] at h
     obtain ⟨rfl,-⟩:=h
     have ecs:=vI hp
     subst ecs
     refine Q1 (t:=t0) (ds:=ds) hs hd ?_ (qC hc (hρ _ _ hx)) rfl rfl rfl rfl
     simp only [execOp,ho,Instr.box,newVar,newRow,Sem.run_bind,run_newObj,Result.andThen_ok,Sem.run_pure]
     rfl
    cases hb:(wX.pF cs&&!(AV.sr cs).contains d) with
    | false=>rw [hb] at h; cases h
    | true =>
     rw [hb] at h
     simp only [cond_true,Option.some.injEq,Prod.mk.injEq] at h
     obtain ⟨rfl,-⟩:=h
     simp only [Bool.and_eq_true,Bool.not_eq_true',List.contains_eq_mem,decide_eq_false_iff_not] at hb
     rw [eT]
     refine Td (t:=t0) hs eT (hd d eT) ?_ (qC hc (hρ _ _ hx)) hb.1 (yD d (by simp)) hb.2
     simp only [execOp,ho,Instr.box,newVar,newRow,Sem.run_bind,run_newObj,Result.andThen_ok,Sem.run_pure]
     rfl
   ·cases h
  ·cases h
 ·split at h
  ·rename_i e k ds hbc
   split at h
   ·simp only [Option.some.injEq,Prod.mk.injEq] at h
    obtain ⟨rfl,-⟩:=h
    exact Lc hT hs hd ho hρ hbc rfl rfl rfl rfl
   ·split at h
    ·rename_i d eT _
     simp only [Option.some.injEq,Prod.mk.injEq] at h
     obtain ⟨rfl,-⟩:=h
     rw [eT]
     exact Je hT hs eT (hd d eT) ho hρ hbc (yD d (by simp))
    ·cases h
  ·cases h
 ·split at h
  ·rename_i av v eT ZX hv
   split at h
   ·rename_i r' lX
    simp only [Option.some.injEq,Prod.mk.injEq] at h
    obtain ⟨rfl,-⟩:=h
    rw [eT]
    unfold Q0 at lX
    split at lX
    ·rename_i i xs hi hc
     split at lX
     ·rename_i κ off
      split at lX
      ·rename_i cs hl
       cases hb:(Nat.beq xs.length i.size&&Nat.ble (off+i.size) cs.length&&wX.pF xs&&xs.all QR) with
       | false=>rw [hb] at lX; cases lX
       | true =>
        rw [hb] at lX
        simp only [Bool.and_eq_true] at hb
        simp only [cond_true,Option.some.injEq] at lX
        subst lX
        exact K0 hs (hT _ _ hi) ho eT (hρ _ _ ZX) (hρ _ _ hv) (lu (κ,.box cs) (by simp)) hc (Nat.eq_of_beq_eq_true hb.1.1.1) (Nat.le_of_ble_eq_true hb.1.1.2) hb.1.2 hb.2 _
      ·cases lX
     ·rename_i κ k p off
      split at lX
      ·rename_i e k' n f ds hl hp
       cases hb:(Nat.beq k k'&&Nat.beq ds.length i.size&&Nat.ble (off+i.size) k&&ds.all Bb) with
       | false=>rw [hb] at lX; cases lX
       | true =>
        rw [hb] at lX
        simp only [Bool.and_eq_true] at hb
        simp only [cond_true,Option.some.injEq] at lX
        subst lX
        exact K5 hs (hT _ _ hi) ho eT (hρ _ _ ZX) (hρ _ _ hv) (lu (κ,.row e k n f) (by simp)) hc hp (Nat.eq_of_beq_eq_true hb.1.1.2) (Nat.le_of_ble_eq_true hb.1.2) cD hb.2 _
      ·cases lX
     ·cases lX
    ·cases lX
   ·cases h
  ·cases h
 ·rename_i xs ts
  split at h
  ·rename_i d s x t t' eT hxs hts
   split at h
   ·rename_i dv sv htt hdv hsv
    split at h
    ·rename_i r' Bs
     simp only [Option.some.injEq,Prod.mk.injEq] at h
     obtain ⟨rfl,-⟩:=h
     rw [eT]
     have e1:=Nat.eq_of_beq_eq_true htt
     subst e1
     have Xv:o.op=.call { callee:=.builtin .append,args:=#[s,x],argTypes:=#[t,t] }:=by
      rw [ho]
      congr 2
      ·cases xs; simpa using hxs
      ·cases ts; simpa using hts
     unfold Lk at Bs
     split at Bs
     ·rename_i e _ _ _ _ hl
      split at Bs
      ·rename_i i hi
       split at Bs
       ·rename_i m g PN E2 mX
        have src:E2.den→(∀ p,p∈PN→A.lb p.1=some p.2)→∃ ys,Te w S i.size m g (a.eval x) ys:=by
         intro Ll ahc
         have hr:=hρ _ _ hsv
         unfold aaq at mX
         split at mX
         ·simp only [Option.some.injEq,Prod.mk.injEq] at mX
          obtain ⟨rfl,rfl,rfl,rfl⟩:=mX
          exact Tf (jX.1 hr) Ll.1 Ll.2
         ·simp only [Option.some.injEq,Prod.mk.injEq] at mX
          obtain ⟨rfl,rfl,rfl,rfl⟩:=mX
          have:=dc rfl hr
          exact ⟨[],⟨⟨by simp,fun i hi=>absurd hi (by omega)⟩,fun u hu=>(by cases hu),.inl ⟨this,rfl⟩⟩⟩
         ·simp only [Option.some.injEq,Prod.mk.injEq] at mX
          obtain ⟨rfl,rfl,rfl,rfl⟩:=mX
          generalize a.eval x=xv at hr
          cases hr with
          | Br hd=>exact Tf hd Ll.1 Ll.2
         ·rename_i κ m0
          split at mX
          ·rename_i e2 k2 m2 g2 xP
           cases hb:Nat.beq i.size k2 with
           | false=>rw [hb] at mX; cases mX
           | true =>
            rw [hb] at mX
            have e3:=Nat.eq_of_beq_eq_true hb
            simp only [cond_true,Option.some.injEq,Prod.mk.injEq] at mX
            obtain ⟨rfl,rfl,rfl,rfl⟩:=mX
            have VI:=ahc (κ,.row e2 k2 m2 g2) (by simp)
            obtain ⟨o5,o6⟩:=Ob.da Ll
            rw [← e3,← (show _=_ from o5)] at VI
            exact acd hs VI hr o6
          ·cases mX
         ·cases mX
        split at Bs
        ·simp only [Option.some.injEq] at Bs
         subst Bs
         obtain ⟨o1,o2,o3⟩:=Ob.da cD
         obtain ⟨ys,hys⟩:=src o1 ot
         exact Ix hs eT (hd d eT) (hT _ _ hl) rfl (hT _ _ hi) Xv (hρ _ _ hdv) (.nil (fun _=>[])) rfl hys o2 o3 (yD d (by simp))
        ·rename_i κ n
         split at Bs
         ·rename_i e' k n' f xP
          cases hb:(Nat.beq e e'&&Nat.beq k i.size&&!Nat.beq d κ) with
          | false=>rw [hb] at Bs; cases Bs
          | true =>
           rw [hb] at Bs
           simp only [cond_true,Option.some.injEq] at Bs
           subst Bs
           simp only [Bool.and_eq_true] at hb
           have e4:=Nat.eq_of_beq_eq_true hb.1.1
           have e5:=Nat.eq_of_beq_eq_true hb.1.2
           obtain ⟨o1,o7⟩:=Ob.da cD
           obtain ⟨o2,o3,o4⟩:=Ob.da o7
           have o2:n=n':=o2
           subst e4; subst e5; subst o2
           obtain ⟨ys,hys⟩:=src o1 ot
           have hκ:=lu (κ,.row e i.size n f) (by simp)
           have vG:d ∉ [κ]:=fun hc=>by
            simp only [List.mem_singleton] at hc
            subst hc
            have:=hb.2
            rw [Nat.beq_refl] at this
            cases this
           exact Ix hs eT (hd d eT) (hT _ _ hl) rfl (hT _ _ hi) Xv (hρ _ _ hdv) (.own hκ) rfl hys o3 o4 (yD d (by simpa using vG))
         ·cases Bs
        ·cases Bs
       ·cases Bs
      ·cases Bs
     ·cases Bs
    ·cases h
   ·cases h
  ·cases h
 ·rename_i cf xs _
  split at h
  ·rename_i c l hc hl
   have lr:=nF hρ xs.toList l hl
   unfold V3 at h
   split at h
   ·rename_i res YY
    split at h
    ·rename_i f cY
     split at h
     ·rename_i Iz PN E2 hb
      cases hfl:gK res with
      | false=>rw [hfl] at h; cases h
      | true =>
       rw [hfl] at h
       simp only [cond_true,Option.some.injEq,Prod.mk.injEq] at h
       obtain ⟨rfl,-⟩:=h
       exact K9 hs hd ho (hρ _ _ hc) lr hb ot (Ob.da cD).1 (Ob.da cD).2 hfl rfl rfl rfl rfl
     ·cases h
    ·cases h
   ·rename_i hand res back YY
    split at h
    ·rename_i f cY
     split at h
     ·rename_i c6 xP
      cases hb:(wX.pF (l++cY)&&Ky res back&&wX res&&(!quiet||(hand.isEmpty&&back.isEmpty))&&back.all (fun p=>!hand.contains p.1)) with
      | false=>rw [hb] at h; cases h
      | true =>
       rw [hb] at h
       simp only [cond_true,Option.some.injEq,Prod.mk.injEq] at h
       obtain ⟨rfl,-⟩:=h
       simp only [Bool.and_eq_true,Ky,List.all_eq_true,List.contains_eq_mem,decide_eq_true_eq,Bool.not_eq_true',decide_eq_false_iff_not] at hb
       obtain ⟨⟨⟨⟨h1,h2,h3⟩,h4⟩,h5⟩,h6⟩:=hb
       refine YR hs hd ho (hρ _ _ hc) lr h1 cD lu (fun k hk=>yD k ?_) h2 h3
       have aau:=GW xP
       simp only [List.mem_filter,Bool.not_eq_true',List.contains_eq_mem,decide_eq_false_iff_not]
       refine ⟨hk,?_⟩
       rw [aau]
       obtain ⟨p,hp,rfl⟩:=List.mem_map.1 hk
       exact h6 p hp
     ·cases h
    ·cases h
   ·rename_i κ b' YY
    split at h
    ·rename_i f cY
     split at h
     ·rename_i b xP
      cases hb:(wX.pF (l++cY)&&!quiet) with
      | false=>rw [hb] at h; cases h
      | true =>
       rw [hb] at h
       simp only [cond_true,Option.some.injEq,Prod.mk.injEq] at h
       obtain ⟨rfl,-⟩:=h
       simp only [Bool.and_eq_true] at hb
       exact Lb hs hd ho (hρ _ _ hc) lr hb.1 cD (lu (κ,b) (by simp))
     ·cases h
    ·cases h
   ·rename_i hand jY res back YY
    split at h
    ·rename_i f cY
     split at h
     ·rename_i c6 xP
      cases hb:(wX.pF (l++cY)&&acf (l++cY) hand c6 jY res back&&wX res&&!quiet) with
      | false=>rw [hb] at h; cases h
      | true =>
       rw [hb] at h
       simp only [cond_true,Option.some.injEq,Prod.mk.injEq] at h
       obtain ⟨rfl,-⟩:=h
       simp only [Bool.and_eq_true,acf,List.all_eq_true,List.contains_eq_mem,decide_eq_true_eq,Bool.not_eq_true',decide_eq_false_iff_not,Bool.or_eq_true] at hb
       obtain ⟨⟨⟨h1,⟨⟨h2,h3⟩,h4⟩,h5⟩,h6⟩,h7⟩:=hb
       have aau:=GW xP
       have box:∀ (lb:List (Nat × bP)) κ,Kz lb κ=true→∃ cs,look lb κ=some (.box cs):=fun lb κ h=>by
        unfold Kz at h
        split at h
        ·exact ⟨_,by assumption⟩
        ·cases h
       have ptr:∀ κ x,aar κ x=true→x=.ptr κ 0:=fun κ x h=>by
        unfold aar at h
        split at h
        ·rw [Nat.eq_of_beq_eq_true h]
        ·cases h
       refine QU hs hd ho (hρ _ _ hc) lr h1 cD (fun p hp=>?_) lu (fun k hk hn=>yD k ?_) h4 h5
       ·obtain ⟨⟨⟨a1,a2⟩,a3⟩,a4⟩:=h2 p hp
        exact ⟨Nat.le_of_ble_eq_true a1,ptr _ _ a2,box _ _ a3,box _ _ a4⟩
       ·simp only [List.mem_filter,Bool.not_eq_true',List.contains_eq_mem,decide_eq_false_iff_not]
        refine ⟨hk,?_⟩
        rw [aau]
        obtain ⟨p,hp,rfl⟩:=List.mem_map.1 hk
        exact (h3 p hp).resolve_left hn
     ·cases h
    ·cases h
   ·cases h
  ·cases h
 ·split at h
  ·rename_i d e _ _ _ _ kl n kc m eT ht hl hc
   split at h
   ·rename_i i hi
    simp only [Option.some.injEq,Prod.mk.injEq] at h
    obtain ⟨rfl,-⟩:=h
    have Ll:((Ob.ze n m).and (.pr (0≤n∧n.toNat≤maxLen∧n.toNat * i.bytes≤140737488355328))).den:=cD
    obtain ⟨o1,o2,o3,o4⟩:=Ob.da Ll
    have o1:n=m:=o1
    subst o1
    rw [eT]
    exact YT hT hs eT (hd d eT) ho ht rfl hi (fk (hρ _ _ hl)) (fk (hρ _ _ hc)) o2 o3 o4 (yD d (by simp))
   ·cases h
  ·cases h
 ·split at h
  ·rename_i v E2 hv
   simp only [Option.some.injEq,Prod.mk.injEq] at h
   obtain ⟨rfl,-⟩:=h
   exact V2 hT hs hρ hd hv cD need _ gs
  ·split at h
   ·rename_i v PN E2 hv
    simp only [Option.some.injEq,Prod.mk.injEq] at h
    obtain ⟨rfl,-⟩:=h
    exact adX hT hs hρ hd hv ot cD need gs
   ·cases h
theorem Tw {T:List (Nat × TI)} (hT:pk C.P T) {o:Oper} {ρ:Operand→Option AV} (hρ:∀ x y,ρ x=some y→Rel w S μ ν y (a.eval x)) {v:AV} {ob:Ob} (h:aas T ρ o.op=some (v,ob)) (cD:ob.den) :
  ∃ x,(execOp a.eval o).run C.P w=.ok (.value x) w∧Rel w S μ ν v x:=by
 unfold aas at h
 split at h
 ·rename_i t ps ho
  split at h
  ·rename_i n e _ _ z _ vs hl hv
   split at h
   ·rename_i ie he
    split at h
    ·rename_i cs Fb
     simp only [Option.some.injEq,Prod.mk.injEq] at h
     obtain ⟨rfl,-⟩:=h
     obtain ⟨ti,zz,F⟩:=aG (hT t _ hl)
     have hu:=zR F.kind
     obtain ⟨te,ze,G⟩:=aG (hT e _ he)
     have kN:(sizeOf e).run C.P w=.ok ie.size w:=by simp [sizeOf,typeInfo,G.info,G.size]
     obtain ⟨q1,q2⟩:=ln (w:=w) (S:=S) F.zok
     have hz:eo w S μ ν (z.map .d) zz.cells.toList:=by
      refine ⟨by simpa using q1,fun i hi=>?_⟩
      simp only [List.length_map] at hi
      rw [lq z i hi]
      exact .d (q2 i hi)
     obtain ⟨v1,v2⟩:=zV hρ ps.toList vs hv
     obtain ⟨KX,hf,hr⟩:=CW (fun q=>some (q * ie.size,ie.size)) vs (ps.toList.map fun p=>(p.1,a.eval p.2)) (z.map .d) cs zz.cells hz v1 v2 Fb
     refine ⟨.agg KX,?_,CV (by have:=hr.1; simpa using this) (fun i hi=>by rw [cZ]; exact hr.2 i hi)⟩
     have hps:(ps.map fun (i,x)=>(i,a.eval x)).toList=ps.toList.map fun p=>(p.1,a.eval p.2):=by simp
     simp only [execOp,ho,Instr.build,Sem.run_bind,zeroValue,typeInfo,run_program,Result.andThen_ok,F.info,Sem.run_pure,F.zero,run_underlying hu,kN,hps]
     rw [hf]
     simp
    ·cases h
   ·cases h
  ·cases h
 ·rename_i t x i ho
  split at h
  ·rename_i n e _ _ _ _ κ off kk q hl hx hi
   split at h
   ·rename_i ie he
    simp only [Option.some.injEq,Prod.mk.injEq] at h
    obtain ⟨rfl,rfl⟩:=h
    have cD:0≤q∧q < n:=cD
    obtain ⟨ti,zz,F⟩:=aG (hT t _ hl)
    have hu:=zR F.kind
    obtain ⟨te,ze,G⟩:=aG (hT e _ he)
    have kN:(sizeOf e).run C.P w=.ok ie.size w:=by simp [sizeOf,typeInfo,G.info,G.size]
    have hxv:=hρ _ _ hx
    have ZZ:=fk (hρ _ _ hi)
    generalize ZX:a.eval x=av at hxv
    cases hxv with
    | @ptr _ _ g cap hμ =>
     refine ⟨.pointer (some ⟨g,off+q.toNat * ie.size,none⟩),?_,.ptr hμ⟩
     simp [execOp,ho,ZX,ZZ,Instr.indexAt,asIntOf,run_underlying hu,Instr.sureAddr,cD,kN,js]
   ·cases h
  ·rename_i n e _ _ _ _ cs kk q hl hx hi
   split at h
   ·rename_i ie he
    simp only [Option.some.injEq,Prod.mk.injEq] at h
    obtain ⟨rfl,rfl⟩:=h
    have cD:0≤q∧q < n:=cD
    obtain ⟨ti,zz,F⟩:=aG (hT t _ hl)
    have hu:=zR F.kind
    obtain ⟨te,ze,G⟩:=aG (hT e _ he)
    have kN:(sizeOf e).run C.P w=.ok ie.size w:=by simp [sizeOf,typeInfo,G.info,G.size]
    have hxv:=hρ _ _ hx
    have ZZ:=fk (hρ _ _ hi)
    generalize ZX:a.eval x=av at hxv
    cases hxv with
    | @ref _ b o' ef cC hr =>
     refine ⟨.pointer (some ⟨b,o'+q.toNat * ie.size,none⟩),?_,.ref (fun j=>ef (q.toNat * ie.size+j)) (fun j hj=>?_) (fun j hj=>?_)⟩
     ·simp [execOp,ho,ZX,ZZ,Instr.indexAt,asIntOf,run_underlying hu,Instr.sureAddr,cD,kN,js]
     ·simp only [List.length_drop] at hj
      have:=cC (q.toNat * ie.size+j) (by omega)
      rw [← Nat.add_assoc] at this
      exact this
     ·simp only [List.length_drop] at hj
      have:=hr (q.toNat * ie.size+j) (by omega)
      simpa [List.getD] using this
   ·cases h
  ·cases h
 ·cases h
theorem lY {T:List (Nat × TI)} (hT:pk C.P T) (hs:dG C A a w S μ ν) {lb:List (Nat × bP)} {o:Oper} {ρ:Operand→Option AV} (hρ:∀ x y,ρ x=some y→Rel w S μ ν y (a.eval x)) (hd:∀ t,o.dst=some t→t < C.nt) {quiet:Bool} {kX uW:List C0} {r:R}
  (h:Ts C.P T lb ρ o.dst quiet kX o.op=some (r,uW)) (ot:∀ p,p∈r.ro→A.lb p.1=some p.2) (lu:∀ p,p∈r.mem→A.lb p.1=some p.2) (cD:r.ob.den) (yD:∀ κ,κ∈(r.gJ.map (·.1)).filter (fun k=>!(r.mem.map (·.1)).contains k)→lj A κ) (need:List (Nat × AV)) (gs:List (Nat × Bool)) :
  o.wp C.P a w (fun a' w'=>∃ S' μ',dG C ((Tr.mk need o.dst r.v r.ro r.mem r.gJ gs).apply A) a' w' S' μ' ν) (fun _ _ _=>False):=by
 unfold Ts at h
 split at h
 ·rename_i r' hm
  simp only [Option.some.injEq,Prod.mk.injEq] at h
  obtain ⟨rfl,-⟩:=h
  exact Tp hT hs hρ hd hm ot lu cD need gs
 split at h
 ·rename_i r' hm
  simp only [Option.some.injEq,Prod.mk.injEq] at h
  obtain ⟨rfl,-⟩:=h
  exact QY hT hs hρ hd hm ot lu cD yD need gs
 split at h
 ·rename_i v ob hm
  simp only [Option.some.injEq,Prod.mk.injEq] at h
  obtain ⟨rfl,-⟩:=h
  obtain ⟨x,h1,h2⟩:=Tw hT hρ hm cD
  exact nE hs hd h1 h2 rfl rfl rfl
 ·exact Tv hT hs hρ hd h ot lu cD yD need gs
theorem aav {α:Type} (k:Nat) (x:α) (r:List (Nat × α)) (t:Nat):look ((k,x) :: r) t=if k=t then some x else look r t:=by
 simp only [look]
 cases hb:Nat.beq k t with
 | true=>simp [Nat.eq_of_beq_eq_true hb]
 | false =>
  have:¬ k=t:=fun e=>by rw [e,Nat.beq_refl] at hb; cases hb
  simp [this]
theorem dG.weaken {B:M} (h:dG C A a w S μ ν) (VG:∀ t v,Rel w S μ ν (A.sl t) v→Rel w S μ ν (B.sl t) v) (VI:∀ κ b',B.lb κ=some b'→∃ b,A.lb κ=some b∧∀ y,jr w S μ b y→jr w S μ b' y):dG C B a w S μ ν:=by
 refine ⟨h.tmps,h.defers,fun t=>VG t _ (h.fa t),fun κ b hb=>?_,fun κ κ' b b' g c c' hb pn hm Bt=>?_,fun κ b g c hb hm=>?_,h.fU,h.fresh,h.bound,h.kept⟩
 ·obtain ⟨d,h1,h2⟩:=VI κ b hb
  exact h2 _ (h.mem κ d h1)
 ·obtain ⟨d,h1,_⟩:=VI κ b hb
  obtain ⟨d',h1',_⟩:=VI κ' b' pn
  exact h.inj κ κ' d d' g c c' h1 h1' hm Bt
 ·obtain ⟨d,h1,_⟩:=VI κ b hb
  exact h.own κ d g c h1 hm
theorem aaw {e k n n':Nat} {f f':Nat→List D} (hn:n=n') (hf:∀ i,i < n→yG (f i) (f' i)) (y:Option (Option (Nat × Nat))) (h:jr w S μ (.row e k n f) y):jr w S μ (.row e k n' f') y:=by
 subst hn
 cases y with
 | none=>exact h
 | some y =>
  cases y with
  | none=>exact h
  | some gc =>
   obtain ⟨g,c⟩:=gc
   obtain ⟨cur,q1,q2,q3,q4,q5,q6⟩:=h.at
   refine eH.ok ⟨cur,q1,q2,q3,q4,q5,fun i hi=>?_⟩
   obtain ⟨z1,z2⟩:=q6 i hi
   refine ⟨(hf i hi).1 ▸ z1,fun j hj=>?_⟩
   obtain ⟨x,x1,x2⟩:=z2 j hj
   exact ⟨x,x1,(hf i hi).2 j (by omega) _ _ _ x2⟩
theorem YZ {c:tH} {r r':R} (h:Tt c r=some r') (cD:r'.ob.den):r.ob.den∧r'.ro=r.ro∧r'.mem=r.mem∧r'.gJ.map (·.1)=r.gJ.map (·.1) ∧
  ∀ {A:M} {dst:Option Nat} {need:List (Nat × AV)} {gs:List (Nat × Bool)} {a:Act} {w:World} {S:Nat→Prop} {μ:Mu} {ν:Nat→Bool},dG C ((Tr.mk need dst r.v r.ro r.mem r.gJ gs).apply A) a w S μ ν→dG C ((Tr.mk need dst r'.v r'.ro r'.mem r'.gJ gs).apply A) a w S μ ν:=by
 obtain ⟨cn,ce⟩:=c.eq
 obtain ⟨v,ro,mem,gJ,ob⟩:=r
 unfold Tt at h
 split at h
 ·rename_i κ e k n f lu
  dsimp only at lu
  subst lu
  have blk:n=c.n→f=c.f→∀ {A:M} {dst:Option Nat} {need:List (Nat × AV)} {gs:List (Nat × Bool)} {a:Act} {w:World} {S:Nat→Prop} {μ:Mu} {ν:Nat→Bool} {x y:AV},(∀ v,Rel w S μ ν x v→Rel w S μ ν y v)→dG C ((Tr.mk need dst x ro mem [(κ,.row e k n f)] gs).apply A) a w S μ ν→dG C ((Tr.mk need dst y ro mem [(κ,.row e k c.n' c.f')] gs).apply A) a w S μ ν:=by
   intro hn hf A dst need gs a w S μ ν x y hxy hs
   refine hs.weaken (fun t v hv=>?_) (fun κ' b' pn=>?_)
   ·simp only [Tr.apply] at hv ⊢
    split
    ·rename_i hd
     simp only [hd,if_true] at hv
     exact hxy v hv
    ·rename_i hd
     simp only [hd,if_false] at hv
     exact hv
   ·simp only [Tr.apply,aav] at pn ⊢
    by_cases hk:κ=κ'
    ·subst hk
     simp only [if_true,Option.some.injEq] at pn ⊢
     subst pn
     exact ⟨_,rfl,fun y=>aaw (hn.trans cn) (fun i hi=>by rw [hf]; exact ce i (by omega)) y⟩
    ·simp only [hk,if_false] at pn ⊢
     exact ⟨b',pn,fun _ h=>h⟩
  split at h
  ·rename_i κ' m hv
   dsimp only at hv
   subst hv
   cases hb:Nat.beq κ' κ with
   | false=>rw [hb] at h; cases h
   | true =>
    rw [hb] at h
    simp only [cond_true,Option.some.injEq] at h
    subst h
    obtain ⟨o1,o2⟩:=Ob.da cD
    obtain ⟨o3,o4⟩:=Ob.da o2
    obtain ⟨o5,o6⟩:=Ob.da o4
    have o3:m=c.n:=o3
    refine ⟨o1,rfl,rfl,rfl,fun hs=>blk o5 o6 (fun v hv=>?_) hs⟩
    rw [o3,cn] at hv
    exact hv
  ·rename_i hv
   dsimp only at hv
   subst hv
   simp only [Option.some.injEq] at h
   subst h
   obtain ⟨o1,o2⟩:=Ob.da cD
   obtain ⟨o5,o6⟩:=Ob.da o2
   exact ⟨o1,rfl,rfl,rfl,fun hs=>blk o5 o6 (fun v hv=>hv) hs⟩
  ·cases h
 ·rename_i lu
  dsimp only at lu
  subst lu
  split at h
  ·rename_i n f hv
   dsimp only at hv
   subst hv
   simp only [Option.some.injEq] at h
   subst h
   obtain ⟨o1,o2⟩:=Ob.da cD
   obtain ⟨o5,o6⟩:=Ob.da o2
   have o5:n=c.n:=o5
   have o6:f=c.f:=o6
   refine ⟨o1,rfl,rfl,rfl,fun hs=>?_⟩
   refine hs.weaken (fun t v hv=>?_) (fun κ' b' pn=>⟨b',pn,fun _ h=>h⟩)
   simp only [Tr.apply] at hv ⊢
   split
   ·rename_i hd
    simp only [hd,if_true] at hv
    exact .d (ue.slc (o5.trans cn) (fun i hi=>by rw [o6]; exact ce i (by omega)) _ _ _ (jX.1 hv))
   ·rename_i hd
    simp only [hd,if_false] at hv
    exact hv
  ·cases h
 ·cases h
theorem adn {n n':Nat} {f f':Nat→Value × D} (hn:n=n') (hf:∀ i,i < n→f i=f' i) (y:Option (Option (Nat × Nat))) (h:jr w S μ (.mp n f) y):jr w S μ (.mp n' f') y:=by
 subst hn
 cases y with
 | none=>exact h
 | some y =>
  cases y with
  | none=>exact h
  | some gc =>
   obtain ⟨g,c⟩:=gc
   obtain ⟨cur,q1,q2,q3,q4⟩:=h.at
   refine eH.ok ⟨cur,q1,q2,q3,fun i hi=>?_⟩
   rw [← hf i hi]
   exact q4 i hi
theorem Y0 {c:DW} {r r':R} (h:Tu c r=some r') (cD:r'.ob.den):r.ob.den∧r'.ro=r.ro∧r'.mem=r.mem∧r'.gJ.map (·.1)=r.gJ.map (·.1) ∧
  ∀ {A:M} {dst:Option Nat} {need:List (Nat × AV)} {gs:List (Nat × Bool)} {a:Act} {w:World} {S:Nat→Prop} {μ:Mu} {ν:Nat→Bool},dG C ((Tr.mk need dst r.v r.ro r.mem r.gJ gs).apply A) a w S μ ν→dG C ((Tr.mk need dst r'.v r'.ro r'.mem r'.gJ gs).apply A) a w S μ ν:=by
 obtain ⟨cn,ce⟩:=c.eq
 obtain ⟨v,ro,mem,gJ,ob⟩:=r
 unfold Tu at h
 split at h
 ·rename_i κ n f lu
  dsimp only at lu
  subst lu
  split at h
  ·rename_i hv
   dsimp only at hv
   subst hv
   simp only [Option.some.injEq] at h
   subst h
   obtain ⟨o1,o2⟩:=Ob.da cD
   obtain ⟨o5,o6⟩:=Ob.da o2
   have o5:n=c.n:=o5
   have o6:f=c.f:=o6
   refine ⟨o1,rfl,rfl,rfl,fun hs=>?_⟩
   refine hs.weaken (fun t v hv=>hv) (fun κ' b' pn=>?_)
   simp only [Tr.apply,aav] at pn ⊢
   by_cases hk:κ=κ'
   ·subst hk
    simp only [if_true,Option.some.injEq] at pn ⊢
    subst pn
    exact ⟨_,rfl,fun y=>adn (o5.trans cn) (fun i hi=>by rw [o6]; exact ce i (by omega)) y⟩
   ·simp only [hk,if_false] at pn ⊢
    exact ⟨b',pn,fun _ h=>h⟩
  ·rename_i hv
   dsimp only at hv
   subst hv
   simp only [Option.some.injEq] at h
   subst h
   obtain ⟨o1,o2⟩:=Ob.da cD
   obtain ⟨o5,o6⟩:=Ob.da o2
   have o5:n=c.n:=o5
   have o6:f=c.f:=o6
   refine ⟨o1,rfl,rfl,rfl,fun hs=>?_⟩
   refine hs.weaken (fun t v hv=>hv) (fun κ' b' pn=>?_)
   simp only [Tr.apply,aav] at pn ⊢
   by_cases hk:κ=κ'
   ·subst hk
    simp only [if_true,Option.some.injEq] at pn ⊢
    subst pn
    exact ⟨_,rfl,fun y=>adn (o5.trans cn) (fun i hi=>by rw [o6]; exact ce i (by omega)) y⟩
   ·simp only [hk,if_false] at pn ⊢
    exact ⟨b',pn,fun _ h=>h⟩
  ·cases h
 ·cases h
theorem Y1 {c:PR} {r:R} (cD:(adm c r).ob.den):r.ob.den ∧
  ∀ {A:M} {dst:Option Nat} {need:List (Nat × AV)} {gs:List (Nat × Bool)} {a:Act} {w:World} {S:Nat→Prop} {μ:Mu} {ν:Nat→Bool},dG C ((Tr.mk need dst r.v r.ro r.mem r.gJ gs).apply A) a w S μ ν→dG C ((Tr.mk need dst c.y r.ro r.mem r.gJ gs).apply A) a w S μ ν:=by
 obtain ⟨o1,o2⟩:=Ob.da cD
 have o2:r.v=c.x:=o2
 refine ⟨o1,fun hs=>?_⟩
 refine hs.weaken (fun t v hv=>?_) (fun κ' b' pn=>⟨b',pn,fun _ h=>h⟩)
 simp only [Tr.apply] at hv ⊢
 split
 ·rename_i hd
  simp only [hd,if_true] at hv
  rw [o2] at hv
  exact c.le _ _ _ _ _ hv
 ·rename_i hd
  simp only [hd,if_false] at hv
  exact hv
theorem V5 {T:List (Nat × TI)} (hT:pk C.P T) (hs:dG C A a w S μ ν) {lb:List (Nat × bP)} {o:Oper} {ρ:Operand→Option AV} (hρ:∀ x y,ρ x=some y→Rel w S μ ν y (a.eval x)) (hd:∀ t,o.dst=some t→t < C.nt) {quiet:Bool} {kX uW:List C0} {r:R}
  (h:aat C.P T lb ρ o.dst quiet kX o.op=some (r,uW)) (ot:∀ p,p∈r.ro→A.lb p.1=some p.2) (lu:∀ p,p∈r.mem→A.lb p.1=some p.2) (cD:r.ob.den) (yD:∀ κ,κ∈(r.gJ.map (·.1)).filter (fun k=>!(r.mem.map (·.1)).contains k)→lj A κ) (need:List (Nat × AV)) (gs:List (Nat × Bool)) :
  o.wp C.P a w (fun a' w'=>∃ S' μ',dG C ((Tr.mk need o.dst r.v r.ro r.mem r.gJ gs).apply A) a' w' S' μ' ν) (fun _ _ _=>False):=by
 unfold aat at h
 split at h
 ·rename_i r0 N5 h0
  split at h
  ·rename_i c V4 _
   split at h
   ·rename_i r' hn
    simp only [Option.some.injEq,Prod.mk.injEq] at h
    obtain ⟨rfl,-⟩:=h
    obtain ⟨o1,e1,e2,e3,dy⟩:=YZ (C:=C) hn cD
    rw [e3,e2] at yD
    rw [e1] at ot
    rw [e2] at lu
    exact Oper.wp_mono (fun a' w' hh=>let ⟨S',μ',hh⟩:=hh; ⟨S',μ',dy hh⟩) (lY hT hs hρ hd h0 ot lu o1 yD need gs)
   ·simp only [Option.some.injEq,Prod.mk.injEq] at h
    obtain ⟨rfl,-⟩:=h
    exact lY hT hs hρ hd h0 ot lu cD yD need gs
  ·split at h
   ·rename_i r' hn
    simp only [Option.some.injEq,Prod.mk.injEq] at h
    obtain ⟨rfl,-⟩:=h
    obtain ⟨o1,e1,e2,e3,dy⟩:=Y0 (C:=C) hn cD
    rw [e3,e2] at yD
    rw [e1] at ot
    rw [e2] at lu
    exact Oper.wp_mono (fun a' w' hh=>let ⟨S',μ',hh⟩:=hh; ⟨S',μ',dy hh⟩) (lY hT hs hρ hd h0 ot lu o1 yD need gs)
   ·simp only [Option.some.injEq,Prod.mk.injEq] at h
    obtain ⟨rfl,-⟩:=h
    exact lY hT hs hρ hd h0 ot lu cD yD need gs
  ·split at h
   ·generalize Nat.beq _ _=bb at h
    cases bb with
    | false =>
     simp only [cond_false,Option.some.injEq,Prod.mk.injEq] at h
     obtain ⟨rfl,-⟩:=h
     exact lY hT hs hρ hd h0 ot lu cD yD need gs
    | true =>
     simp only [cond_true,Option.some.injEq,Prod.mk.injEq] at h
     obtain ⟨rfl,-⟩:=h
     obtain ⟨o1,dy⟩:=Y1 (C:=C) cD
     exact Oper.wp_mono (fun a' w' hh=>let ⟨S',μ',hh⟩:=hh; ⟨S',μ',dy hh⟩) (lY hT hs hρ hd h0 ot lu o1 yD need gs)
   ·simp only [Option.some.injEq,Prod.mk.injEq] at h
    obtain ⟨rfl,-⟩:=h
    exact lY hT hs hρ hd h0 ot lu cD yD need gs
  ·simp only [Option.some.injEq,Prod.mk.injEq] at h
   obtain ⟨rfl,-⟩:=h
   exact lY hT hs hρ hd h0 ot lu cD yD need gs
 ·cases h
end
def acg (q p:List (Nat × Bool)):Bool:=q.all fun y=>p.any fun z=>Nat.beq y.1 z.1&&(y.2 == z.2)

def adY (p:List (Nat × Bool)):AV→Option AV
  | .g q a=>bif acg q p then some a else none
  | x=>some x

def Tx (need:List (Nat × AV)) (p:List (Nat × Bool)):Operand→Option AV
  | .tmp t=>(match look need t with | some x=>adY p x | none=>none)
  | .const v=>ofConst v
  | .func f=>some (.fn f [])
  | .global g=>(match look E5.gl g with | some cs=>some (.ref cs) | none=>none)

def aax:AV→Option (List (Nat × Bool) × Bool)
  | .d (.v (.bool e))=>some ([],e)
  | .g q (.d (.v (.bool e)))=>some (q,e)
  | _=>none

structure St where
  sl:List (Nat × AV)
  lb:List (Nat × bP)

def St.get (sl:List (Nat × AV)) (t:Nat):AV:=match look sl t with | some x=>x | none=>.any

def St.gL (st:St):M:={ sl:=St.get st.sl,lb:=look st.lb }

def slotsOf:List Operand→List Nat
  | []=>[]
  | .tmp t :: r=>t :: slotsOf r
  | _ :: r=>slotsOf r

def sI (sl:List (Nat × AV)):List Nat→List (Nat × AV)
  | []=>[]
  | t :: r=>(t,St.get sl t) :: sI sl r

/-- a bool on aft others aiI is aiq -/
def Y2 (gl:List (Nat × Bool)) (s:Nat) (e:Bool):List (Nat × Bool) × Ob :=
  match look gl s with
  | some e'=>(gl,.be e e')
  | none=>(gl++[(s,e)],.tt)

def Q2 (gl:List (Nat × Bool)):List Nat→List (Nat × Bool)
  | []=>[]
  | s :: r=>(match look gl s with | some e=>(s,e) :: Q2 gl r | none=>Q2 gl r)

def BK (gl:List (Nat × Bool)):List (Nat × Bool)→Ob→Ob
  | [],ob=>ob
  | (s,w) :: r,ob=>(match look gl s with | some e=>(BK gl r ob).imp e w | none=>BK gl r ob)

def Fk (p:List (Nat × Bool)) (v:AV):AV:=match p with | []=>v | _ :: _=>.g p v

def C3 (ops:Array Oper) (j:Nat):Option Nat:=match ops[j]? with | some o=>o.dst | none=>none

/-- I8 air on aft an operation ais -/
def pathOf (nt:Nat) (ops:Array Oper) (sl:List (Nat × AV)) (gl:List (Nat × Bool)):Option (Nat × Bool)→Option (List (Nat × Bool) × List Nat × List (Nat × Bool) × Ob)
  | none=>some ([],[],gl,.tt)
  | some (j,want)=>(match C3 ops j with
    | some s=>bif Nat.ble (s+1) nt then (match aax (St.get sl s) with
      | some (q,e)=>(match Y2 gl s e with | (Ty,ob)=>some (q++[(s,want)],[s],Ty,ob))
      | none=>none) else none
    | none=>none)

def aay (need:List (Nat × AV)) (p:List (Nat × Bool)) (c x y:Operand):Option (Nat × Bool × Bool × Bool) :=
  match c with
  | .tmp s=>(match Tx need p c,Tx need ((s,true) :: p) x,Tx need ((s,false) :: p) y with
    | some (.d (.v (.bool e))),some (.d (.v (.bool ex))),some (.d (.v (.bool ey)))=>some (s,e,ex,ey)
    | _,_,_=>none)
  | _=>none

def V6 (P:Program) (T:List (Nat × TI)) (nt:Nat) (ops:Array Oper) (st:St) (gl:List (Nat × Bool)) (kX:List C0) (o:Oper):Option (Tr × List (Nat × Bool) × List C0 × Ob) :=
  match pathOf nt ops st.sl gl o.guard,(match o.dst with | some d=>Nat.ble (d+1) nt | none=>true) with
  | some (p,ss,gl1,Dv),true =>
    (match o.op with
    | .pick c x y=>(match aay (sI st.sl (ss++slotsOf [c,x,y])) p c x y with
      | some (s,e,ex,ey)=>(match Y2 gl1 s e with
        | (gl2,Jc)=>some (⟨sI st.sl (ss++slotsOf [c,x,y]),o.dst,Fk p (.d (.v (.bool (bif e then ex else ey)))),[],[],[],Q2 gl2 (s :: p.map (·.1))⟩,gl2,kX,Dv.and Jc))
      | none=>none)
    | op=>(match aat P T st.lb (Tx (sI st.sl (ss++slotsOf op.operands.toList)) p) o.dst (!p.isEmpty) kX op with
      | some (r,uW)=>some (⟨sI st.sl (ss++slotsOf op.operands.toList),o.dst,Fk p r.v,r.ro,r.mem,r.gJ,Q2 gl1 (p.map (·.1))⟩,gl1,uW,Dv.and (BK gl1 p r.ob))
      | none=>none))
  | _,_=>none

def aY {α:Type} (ks:List Nat):List (Nat × α)→List (Nat × α)
  | []=>[]
  | (k,x) :: r=>bif ks.any (fun q=>Nat.beq q k) then aY ks r else (k,x) :: aY ks r

def St.apply (st:St) (τ:Tr):St :=
  { sl:=match τ.dst with | some d=>(d,τ.v) :: aY [d] st.sl | none=>st.sl
    lb:=match τ.mem,τ.gJ with | [],[]=>st.lb | m,m'=>m'++aY (m.map (·.1)) st.lb }

def Tz (P:Program) (T:List (Nat × TI)) (nt:Nat) (ops:Array Oper):List Oper→St→List (Nat × Bool)→List C0→Option (List Tr × St × List (Nat × Bool) × List C0 × Ob)
  | [],st,gl,kX=>some ([],st,gl,kX,.tt)
  | o :: r,st,gl,kX=>(match V6 P T nt ops st gl kX o with
    | some (τ,Ty,uW,ob)=>(match Tz P T nt ops r (st.apply τ) Ty uW with
      | some (l,st',ahd,afu,E2)=>some (τ :: l,st',ahd,afu,ob.and E2)
      | none=>none)
    | none=>none)

def Q3 (st:St) (κ:Nat):Bool:=st.sl.all (fun p=>!p.2.keys.any (fun k=>Nat.beq k κ))&&st.lb.all (fun p=>!Nat.beq p.1 κ&&!p.2.keys.any (fun k=>Nat.beq k κ))

def ado (keep:Option (List Nat)) (t:Nat):Bool:=match keep with | some l=>l.any (fun k=>Nat.beq k t) | none=>true

def aaz (draw:Bool) (ops:Array Oper) (wV:List Tr):Bool:=match draw with | true=>SS ops wV | false=>Bx wV

def AY (keep:Option (List Nat)):List (Nat × AV)→List (Nat × AV)
  | []=>[]
  | (t,x) :: r=>bif wX x&&ado keep t then (t,x) :: AY keep r else AY keep r

def vu:List (Nat × AV)→Bool
  | []=>true
  | (t,_) :: r=>r.all (fun p=>!Nat.beq p.1 t)&&vu r

/-- a region: I8 state behind it,and YD agY hold -/
def rz (P:Program) (T:List (Nat × TI)) (nt:Nat) (ops:Array Oper) (draw:Bool) (keep:Option (List Nat)) (st:St) (kX:List C0):Option (St × Ob) :=
  match Tz P T nt ops ops.toList st [] kX with
  | some (wV,st',_,[],ob)=>bif aaz draw ops wV&&wV.all (fun τ=>τ.created.all (Q3 st))&&vu st'.sl then some (⟨AY keep st'.sl,st'.lb⟩,ob) else none
  | _=>none

/-! ae5 -/

theorem ca {α:Type} (k:Nat) (x:α) (r:List (Nat × α)) (t:Nat):look ((k,x) :: r) t=if k=t then some x else look r t:=by
  simp only [look]
  cases hb:Nat.beq k t with
  | true=>simp [Nat.eq_of_beq_eq_true hb]
  | false =>
    have:¬ k=t:=fun e=>by rw [e,Nat.beq_refl] at hb; cases hb
    simp [this]

theorem xg {α:Type} (l r:List (Nat × α)) (t:Nat):look (l++r) t=match look l t with | some x=>some x | none=>look r t:=by
  induction l with
  | nil=>rfl
  | cons p l ih =>
    obtain ⟨k,x⟩:=p
    simp only [List.cons_append,ca]
    split
    · rfl
    · exact ih

theorem nI {α:Type} (ks:List Nat) (l:List (Nat × α)) (t:Nat):look (aY ks l) t=if t∈ks then none else look l t:=by
  induction l with
  | nil=>simp [aY,look]
  | cons p l ih =>
    obtain ⟨k,x⟩:=p
    simp only [aY]
    cases hb:ks.any (fun q=>Nat.beq q k) with
    | true =>
      simp only [cond_true]
      rw [ih,ca]
      have hk:k∈ks:=by
        obtain ⟨q,hq,he⟩:=List.any_eq_true.1 hb
        rw [← Nat.eq_of_beq_eq_true he]
        exact hq
      by_cases c:k=t
      · subst c; simp [hk]
      · simp [c]
    | false =>
      simp only [cond_false,ca]
      have hk:k ∉ ks:=fun hc=>by
        have:ks.any (fun q=>Nat.beq q k)=true:=List.any_eq_true.2 ⟨k,hc,Nat.beq_refl k⟩
        rw [this] at hb
        cases hb
      by_cases c:k=t
      · subst c; simp [hk]
      · simp only [c,if_false]
        exact ih

theorem KA (d:Nat) (v:AV) (sl:List (Nat × AV)) (t:Nat):St.get ((d,v) :: aY [d] sl) t=if d=t then v else St.get sl t:=by
  unfold St.get
  rw [ca]
  by_cases c:d=t
  · simp [c]
  · simp only [c,if_false]
    rw [nI]
    have:t ∉ [d]:=by simp; exact fun e=>c e.symm
    simp [this]

theorem St.Y3 (st:St) (τ:Tr):(st.apply τ).gL=τ.apply st.gL:=by
  unfold St.apply St.gL Tr.apply
  have e1:(St.get (match τ.dst with | some d=>(d,τ.v) :: aY [d] st.sl | none=>st.sl))=fun t=>if τ.dst=some t then τ.v else St.get st.sl t:=by
    funext t
    cases hd:τ.dst with
    | none=>simp
    | some d =>
      simp only [Option.some.injEq]
      exact KA d τ.v st.sl t
  have e2:look (match τ.mem,τ.gJ with | [],[]=>st.lb | m,m'=>m'++aY (m.map (·.1)) st.lb)=fun k=>match look τ.gJ k with | some b=>some b | none=>if k∈τ.mem.map (·.1) then none else look st.lb k:=by
    funext k
    split
    · rename_i h1 h2
      simp [h1,h2,look]
    · rw [xg,nI]
      cases look τ.gJ k <;> simp
  show M.mk (St.get _) (look _)=_
  rw [e1,e2]
  rfl

/-! I8 blocks VS an operation names are ait VS it has looked up -/

theorem IA {lb:List (Nat × bP)} {x:AV} {cs:List AV} {ro:List (Nat × bP)} {ob:Ob} (h:rr lb x=some (cs,ro,ob)):∀ p,p∈ro→look lb p.1=some p.2:=by
  unfold rr at h
  split at h
  · split at h
    · rename_i hl
      simp only [Option.some.injEq,Prod.mk.injEq] at h
      obtain ⟨-,rfl,-⟩:=h
      intro p hp
      simp only [List.mem_singleton] at hp
      subst hp
      exact hl
    · cases h
  · rename_i key k i off
    split at h
    · rename_i e k' n f hl
      cases hb:Nat.beq k k' with
      | false=>rw [hb] at h; cases h
      | true =>
        rw [hb] at h
        simp only [cond_true,Option.some.injEq,Prod.mk.injEq] at h
        obtain ⟨-,rfl,-⟩:=h
        intro p hp
        simp only [List.mem_singleton] at hp
        subst hp
        exact hl
    · cases h
  · simp only [Option.some.injEq,Prod.mk.injEq] at h
    obtain ⟨-,rfl,-⟩:=h
    intro p hp
    cases hp
  · cases h

theorem cr {lb ro:List (Nat × bP)} (h:ro=[]):∀ p,p∈ro→look lb p.1=some p.2:=fun p hp=>by subst h; cases hp

theorem adZ {T:List (Nat × TI)} {lb:List (Nat × bP)} {ρ:Operand→Option AV} {o:Op} {v:AV} {ro:List (Nat × bP)} {ob:Ob} (h:evV T lb ρ o=some (v,ro,ob)):∀ p,p∈ro→look lb p.1=some p.2:=by
  have V7:∀ {x:AV},ok x=some (v,ro,ob)→ro=[]:=fun h=>by simp only [ok,Option.some.injEq,Prod.mk.injEq] at h; exact h.2.1.symm
  unfold evV at h
  split at h
  · split at h
    · exact cr (V7 h)
    · cases h
  · split at h
    · exact cr (V7 h)
    · cases h
  · split at h
    · split at h
      · rename_i hc
        split at h
        · simp only [Option.some.injEq,Prod.mk.injEq] at h
          obtain ⟨-,rfl,-⟩:=h
          exact IA hc
        · cases h
      · cases h
    · cases h
  · split at h
    · unfold Kt at h
      split at h
      · split at h <;> first | exact cr (V7 h) | cases h
      · cases h
    · cases h
  · split at h
    · unfold QP at h
      split at h
      · split at h
        · split at h
          · split at h
            · exact cr (V7 h)
            · cases h
          · cases h
        · cases h
      · cases h
    · cases h
  · split at h
    · unfold xf at h
      split at h
      · split at h
        · split at h
          · rename_i ie _ n _ m f _ _ _
            generalize hb:Nat.beq _ _=bb at h
            cases bb with
            | false=>cases h
            | true =>
              simp only [cond_true,Option.some.injEq,Prod.mk.injEq] at h
              exact cr h.2.1.symm
          · simp only [Option.some.injEq,Prod.mk.injEq] at h
            exact cr h.2.1.symm
          · cases h
        · cases h
      · cases h
    · cases h
  · split at h
    · unfold Ku at h
      split at h
      · simp only [Option.some.injEq,Prod.mk.injEq] at h
        exact cr h.2.1.symm
      · cases h
    · cases h
  · split at h
    · unfold Xy at h
      split at h
      · split at h
        · simp only [Option.some.injEq,Prod.mk.injEq] at h
          exact cr h.2.1.symm
        · simp only [Option.some.injEq,Prod.mk.injEq] at h
          exact cr h.2.1.symm
        · cases h
      · split at h
        · simp only [Option.some.injEq,Prod.mk.injEq] at h
          exact cr h.2.1.symm
        · cases h
      · split at h
        · exact cr (V7 h)
        · cases h
      · cases h
    · cases h
  · split at h
    · unfold acb at h
      split at h <;> first | exact cr (V7 h) | cases h
    · cases h
  · split at h
    · unfold VV at h
      split at h
      · exact cr (V7 h)
      · cases h
    · cases h
  · split at h
    · unfold CX at h
      split at h
      · split at h
        · exact cr (V7 h)
        · cases h
      · cases h
    · cases h
  · unfold Kv at h
    split at h
    · split at h
      · split at h
        · exact cr (V7 h)
        · cases h
      · cases h
    · cases h
  · split at h
    · exact cr (V7 h)
    · cases h
  · split at h
    · unfold Kw at h
      split at h
      · unfold zT at h
        split at h <;> first | exact cr (V7 h) | (simp only [Option.some.injEq,Prod.mk.injEq] at h; exact cr h.2.1.symm) | cases h
      · split at h
        · unfold CY at h
          split at h <;> first | (simp only [Option.some.injEq,Prod.mk.injEq] at h; exact cr h.2.1.symm) | cases h
        · cases h
      · split at h
        · unfold zU at h
          split at h
          · generalize (_&&_&&_:Bool)=bb at h
            cases bb with
            | false=>cases h
            | true=>exact cr (V7 h)
          · cases h
        · cases h
      · cases h
    · cases h
  · split at h
    · unfold Xz at h
      split at h <;> first | exact cr (V7 h) | cases h
    · cases h
  · split at h
    · unfold GP at h
      split at h
      · split at h
        · exact cr (V7 h)
        · cases h
      · cases h
    · cases h
  · split at h
    · unfold GP at h
      split at h
      · split at h
        · exact cr (V7 h)
        · cases h
      · cases h
    · cases h
  · cases h

theorem XK {lb:List (Nat × bP)} {x:AV} {y:D} {ro:List (Nat × bP)} {ob:Ob} (h:QT lb x=some (y,ro,ob)):∀ p,p∈ro→look lb p.1=some p.2:=by
  unfold QT at h
  split at h
  · simp only [Option.some.injEq,Prod.mk.injEq] at h
    exact cr h.2.1.symm
  · simp only [Option.some.injEq,Prod.mk.injEq] at h
    exact cr h.2.1.symm
  · split at h
    · rename_i hl
      simp only [Option.some.injEq,Prod.mk.injEq] at h
      obtain ⟨-,rfl,-⟩:=h
      intro p hp
      simp only [List.mem_singleton] at hp
      subst hp
      exact hl
    · cases h
  · cases h

theorem Lm {lb:List (Nat × bP)}:∀ {xs:List AV} {ys:List D} {ro:List (Nat × bP)} {ob:Ob},DV lb xs=some (ys,ro,ob)→∀ p,p∈ro→look lb p.1=some p.2
  | [],ys,ro,ob,h=>by simp only [DV,Option.some.injEq,Prod.mk.injEq] at h; exact cr h.2.1.symm
  | x :: r,ys,ro,ob,h=>by
    simp only [DV] at h
    split at h
    · rename_i h1 h2
      simp only [Option.some.injEq,Prod.mk.injEq] at h
      obtain ⟨-,rfl,-⟩:=h
      intro p hp
      rcases List.mem_append.1 hp with hp | hp
      · exact XK h1 p hp
      · exact Lm h2 p hp
    · cases h

theorem TA {lb:List (Nat × bP)} {x y:AV} {ro:List (Nat × bP)} {ob:Ob} (h:BH lb x=some (y,ro,ob)):∀ p,p∈ro→look lb p.1=some p.2:=by
  unfold BH at h
  split at h
  · simp only [Option.some.injEq,Prod.mk.injEq] at h
    exact cr h.2.1.symm
  · split at h
    · rename_i hl
      split at h
      · rename_i hb
        simp only [Option.some.injEq,Prod.mk.injEq] at h
        obtain ⟨-,rfl,-⟩:=h
        intro p hp
        rcases List.mem_cons.1 hp with rfl | hp
        · exact hl
        · exact Lm hb p hp
      · cases h
    · cases h
  · split at h
    · rename_i hb
      simp only [Option.some.injEq,Prod.mk.injEq] at h
      obtain ⟨-,rfl,-⟩:=h
      exact Lm hb
    · cases h
  · split at h
    · rename_i hl
      simp only [Option.some.injEq,Prod.mk.injEq] at h
      obtain ⟨-,rfl,-⟩:=h
      intro p hp
      simp only [List.mem_singleton] at hp
      subst hp
      exact hl
    · simp only [Option.some.injEq,Prod.mk.injEq] at h
      exact cr h.2.1.symm
    · cases h
  · simp only [Option.some.injEq,Prod.mk.injEq] at h
    exact cr h.2.1.symm
  · split at h
    · rename_i hb
      simp only [Option.some.injEq,Prod.mk.injEq] at h
      obtain ⟨-,rfl,-⟩:=h
      exact XK hb
    · cases h

theorem PS {lb:List (Nat × bP)}:∀ {xs ys:List AV} {ro:List (Nat × bP)} {ob:Ob},zX lb xs=some (ys,ro,ob)→∀ p,p∈ro→look lb p.1=some p.2
  | [],ys,ro,ob,h=>by simp only [zX,Option.some.injEq,Prod.mk.injEq] at h; exact cr h.2.1.symm
  | x :: r,ys,ro,ob,h=>by
    simp only [zX] at h
    split at h
    · rename_i h1 h2
      simp only [Option.some.injEq,Prod.mk.injEq] at h
      obtain ⟨-,rfl,-⟩:=h
      intro p hp
      rcases List.mem_append.1 hp with hp | hp
      · exact TA h1 p hp
      · exact PS h2 p hp
    · cases h

theorem ach {lb:List (Nat × bP)} {x y:AV} {ro:List (Nat × bP)} {ob:Ob} (h:Bc lb x=some (y,ro,ob)):∀ p,p∈ro→look lb p.1=some p.2:=by
  unfold Bc at h
  split at h
  · split at h
    · rename_i hb
      simp only [Option.some.injEq,Prod.mk.injEq] at h
      obtain ⟨-,rfl,-⟩:=h
      exact PS hb
    · cases h
  · exact TA h

theorem Ln {lb:List (Nat × bP)}:∀ {xs ys:List AV} {ro:List (Nat × bP)} {ob:Ob},yM lb xs=some (ys,ro,ob)→∀ p,p∈ro→look lb p.1=some p.2
  | [],ys,ro,ob,h=>by simp only [yM,Option.some.injEq,Prod.mk.injEq] at h; exact cr h.2.1.symm
  | x :: r,ys,ro,ob,h=>by
    simp only [yM] at h
    split at h
    · rename_i h1 h2
      simp only [Option.some.injEq,Prod.mk.injEq] at h
      obtain ⟨-,rfl,-⟩:=h
      intro p hp
      rcases List.mem_append.1 hp with hp | hp
      · exact ach h1 p hp
      · exact Ln h2 p hp
    · cases h

theorem Eh {lb:List (Nat × bP)}:∀ {ks:List Nat} {l:List (Nat × bP)},looks lb ks=some l→∀ p,p∈l→look lb p.1=some p.2
  | [],l,h=>by simp only [looks,Option.some.injEq] at h; exact cr h.symm
  | k :: r,l,h=>by
    simp only [looks] at h
    split at h
    · rename_i h1 h2
      simp only [Option.some.injEq] at h
      subst h
      intro p hp
      rcases List.mem_cons.1 hp with rfl | hp
      · exact h1
      · exact Eh h2 p hp
    · cases h

theorem TB {P:Program} {T:List (Nat × TI)} {lb:List (Nat × bP)} {ρ:Operand→Option AV} {dst:Option Nat} {quiet:Bool} {kX uW:List C0} {op:Op} {r:R} (h:Tq P T lb ρ dst quiet kX op=some (r,uW)) :
    (∀ p,p∈r.ro→look lb p.1=some p.2)∧(∀ p,p∈r.mem→look lb p.1=some p.2)∧(quiet=true→r.mem=[]∧r.gJ=[]):=by
  have one:∀ {κ:Nat} {b:bP},look lb κ=some b→∀ p,p∈[(κ,b)]→look lb p.1=some p.2:=fun hl p hp=>by
    simp only [List.mem_singleton] at hp
    subst hp
    exact hl
  unfold Tq at h
  split at h
  · split at h
    · simp only [Option.some.injEq,Prod.mk.injEq] at h
      obtain ⟨rfl,-⟩:=h
      exact ⟨cr rfl,cr rfl,fun hq=>(by cases hq)⟩
    · cases h
  · split at h
    · split at h
      · split at h
        · simp only [Option.some.injEq,Prod.mk.injEq] at h
          obtain ⟨rfl,-⟩:=h
          exact ⟨cr rfl,cr rfl,fun hq=>(by cases hq)⟩
        generalize (wX.pF _&&_)=bb at h
        cases bb with
        | false=>cases h
        | true =>
          simp only [cond_true,Option.some.injEq,Prod.mk.injEq] at h
          obtain ⟨rfl,-⟩:=h
          exact ⟨cr rfl,cr rfl,fun hq=>(by cases hq)⟩
      · cases h
    · cases h
  · split at h
    · split at h
      · simp only [Option.some.injEq,Prod.mk.injEq] at h
        obtain ⟨rfl,-⟩:=h
        exact ⟨cr rfl,cr rfl,fun _=>⟨rfl,rfl⟩⟩
      · split at h
        · simp only [Option.some.injEq,Prod.mk.injEq] at h
          obtain ⟨rfl,-⟩:=h
          exact ⟨cr rfl,cr rfl,fun hq=>(by cases hq)⟩
        · cases h
    · cases h
  · split at h
    · split at h
      · rename_i r' lX
        simp only [Option.some.injEq,Prod.mk.injEq] at h
        obtain ⟨rfl,-⟩:=h
        refine ⟨?_,?_,fun hq=>(by cases hq)⟩
        all_goals
          unfold Q0 at lX
          split at lX
          · rename_i i xs hi hc
            split at lX
            · rename_i κ off
              split at lX
              · rename_i cs hl
                generalize (Nat.beq _ _&&_&&_&&_)=bb at lX
                cases bb with
                | false=>cases lX
                | true =>
                  simp only [cond_true,Option.some.injEq] at lX
                  subst lX
                  first | exact one hl | exact cr rfl
              · cases lX
            · split at lX
              · rename_i e k' n f ds hl hp
                generalize hb:(Nat.beq _ k'&&_&&_&&_)=bb at lX
                cases bb with
                | false=>cases lX
                | true =>
                  simp only [Bool.and_eq_true] at hb
                  have ek:=Nat.eq_of_beq_eq_true hb.1.1.1
                  subst ek
                  simp only [cond_true,Option.some.injEq] at lX
                  subst lX
                  first | exact one hl | exact cr rfl
              · cases lX
            · cases lX
          · cases lX
      · cases h
    · cases h
  · split at h
    · split at h
      · split at h
        · rename_i r' Bs
          simp only [Option.some.injEq,Prod.mk.injEq] at h
          obtain ⟨rfl,-⟩:=h
          have main:(∀ p,p∈r'.ro→look lb p.1=some p.2)∧(∀ p,p∈r'.mem→look lb p.1=some p.2):=by
            unfold Lk at Bs
            split at Bs
            · split at Bs
              · rename_i i hi
                split at Bs
                · rename_i m g ro ob mX
                  have ot:∀ p,p∈ro→look lb p.1=some p.2:=by
                    unfold aaq at mX
                    split at mX
                    · simp only [Option.some.injEq,Prod.mk.injEq] at mX
                      exact cr mX.2.2.1.symm
                    · simp only [Option.some.injEq,Prod.mk.injEq] at mX
                      exact cr mX.2.2.1.symm
                    · simp only [Option.some.injEq,Prod.mk.injEq] at mX
                      exact cr mX.2.2.1.symm
                    · split at mX
                      · rename_i hl
                        generalize hb:Nat.beq _ _=bb at mX
                        cases bb with
                        | false=>cases mX
                        | true =>
                          simp only [cond_true,Option.some.injEq,Prod.mk.injEq] at mX
                          obtain ⟨-,-,rfl,-⟩:=mX
                          exact one hl
                      · cases mX
                    · cases mX
                  split at Bs
                  · simp only [Option.some.injEq] at Bs
                    subst Bs
                    exact ⟨ot,cr rfl⟩
                  · split at Bs
                    · rename_i hl
                      generalize (Nat.beq _ _&&_&&_)=bb at Bs
                      cases bb with
                      | false=>cases Bs
                      | true =>
                        simp only [cond_true,Option.some.injEq] at Bs
                        subst Bs
                        exact ⟨ot,one hl⟩
                    · cases Bs
                  · cases Bs
                · cases Bs
              · cases Bs
            · cases Bs
          exact ⟨main.1,main.2,fun hq=>(by cases hq)⟩
        · cases h
      · cases h
    · cases h
  · split at h
    · unfold V3 at h
      split at h
      · split at h
        · split at h
          · rename_i hb
            generalize gK _=bb at h
            cases bb with
            | false=>cases h
            | true =>
              simp only [cond_true,Option.some.injEq,Prod.mk.injEq] at h
              obtain ⟨rfl,-⟩:=h
              exact ⟨Ln hb,cr rfl,fun _=>⟨rfl,rfl⟩⟩
          · cases h
        · cases h
      · rename_i hand res back YY
        split at h
        · split at h
          · rename_i c6 xP
            generalize hb:(wX.pF _&&Ky res back&&wX res&&(!quiet||(hand.isEmpty&&back.isEmpty))&&back.all (fun p=>!hand.contains p.1))=bb at h
            cases bb with
            | false=>cases h
            | true =>
              simp only [cond_true,Option.some.injEq,Prod.mk.injEq] at h
              obtain ⟨rfl,-⟩:=h
              simp only [Bool.and_eq_true,Bool.or_eq_true,Bool.not_eq_true',List.isEmpty_iff] at hb
              refine ⟨cr rfl,Eh xP,fun hq=>?_⟩
              rcases hb.1.2 with h1 | ⟨h1,h2⟩
              · rw [hq] at h1; cases h1
              · subst h1; subst h2
                simp only [looks,Option.some.injEq] at xP
                exact ⟨xP.symm,rfl⟩
          · cases h
        · cases h
      · rename_i κ b' YY
        split at h
        · split at h
          · rename_i b xP
            generalize hb:(wX.pF _&&!quiet)=bb at h
            cases bb with
            | false=>cases h
            | true =>
              simp only [cond_true,Option.some.injEq,Prod.mk.injEq] at h
              obtain ⟨rfl,-⟩:=h
              simp only [Bool.and_eq_true,Bool.not_eq_true'] at hb
              refine ⟨cr rfl,fun p hp=>?_,fun hq=>?_⟩
              · have:p=(κ,b):=by simpa using hp
                subst this
                exact xP
              · rw [hq] at hb; cases hb.2
          · cases h
        · cases h
      · rename_i hand jY res back YY
        split at h
        · split at h
          · rename_i c6 xP
            generalize hb:(wX.pF _&&acf _ hand c6 jY res back&&wX res&&!quiet)=bb at h
            cases bb with
            | false=>cases h
            | true =>
              simp only [cond_true,Option.some.injEq,Prod.mk.injEq] at h
              obtain ⟨rfl,-⟩:=h
              simp only [Bool.and_eq_true,Bool.not_eq_true'] at hb
              exact ⟨cr rfl,Eh xP,fun hq=>by rw [hq] at hb; cases hb.2⟩
          · cases h
        · cases h
      · cases h
    · cases h
  · split at h
    · split at h
      · simp only [Option.some.injEq,Prod.mk.injEq] at h
        obtain ⟨rfl,-⟩:=h
        exact ⟨cr rfl,cr rfl,fun hq=>(by cases hq)⟩
      · cases h
    · cases h
  · split at h
    · simp only [Option.some.injEq,Prod.mk.injEq] at h
      obtain ⟨rfl,-⟩:=h
      exact ⟨cr rfl,cr rfl,fun _=>⟨rfl,rfl⟩⟩
    · split at h
      · rename_i hv
        simp only [Option.some.injEq,Prod.mk.injEq] at h
        obtain ⟨rfl,-⟩:=h
        exact ⟨adZ hv,cr rfl,fun _=>⟨rfl,rfl⟩⟩
      · cases h

theorem TC {P:Program} {T:List (Nat × TI)} {lb:List (Nat × bP)} {ρ:Operand→Option AV} {dst:Option Nat} {quiet:Bool} {kX uW:List C0} {op:Op} {r:R} (h:Ts P T lb ρ dst quiet kX op=some (r,uW)) :
    (∀ p,p∈r.ro→look lb p.1=some p.2)∧(∀ p,p∈r.mem→look lb p.1=some p.2)∧(quiet=true→r.mem=[]∧r.gJ=[]):=by
  unfold Ts at h
  split at h
  · rename_i hm
    simp only [Option.some.injEq,Prod.mk.injEq] at h
    obtain ⟨rfl,-⟩:=h
    exact ⟨(Lj hm).1,(Lj hm).2.1,(Lj hm).2.2.1⟩
  split at h
  · rename_i hm
    simp only [Option.some.injEq,Prod.mk.injEq] at h
    obtain ⟨rfl,-⟩:=h
    exact YX hm
  split at h
  · simp only [Option.some.injEq,Prod.mk.injEq] at h
    obtain ⟨rfl,-⟩:=h
    exact ⟨cr rfl,cr rfl,fun _=>⟨rfl,rfl⟩⟩
  · exact TB h

theorem V8 {c:tH} {r r':R} (h:Tt c r=some r'):r'.ro=r.ro∧r'.mem=r.mem∧(r.gJ=[]→r'.gJ=[]):=by
  unfold Tt at h
  split at h
  · rename_i hm
    have nn:∀ {x:List (Nat × bP)},r.gJ=[]→x=[]:=fun e=>by rw [hm] at e; cases e
    split at h
    · generalize Nat.beq _ _=bb at h
      cases bb with
      | false=>cases h
      | true =>
        simp only [cond_true,Option.some.injEq] at h
        subst h
        exact ⟨rfl,rfl,nn⟩
    · simp only [Option.some.injEq] at h
      subst h
      exact ⟨rfl,rfl,nn⟩
    · cases h
  · split at h
    · simp only [Option.some.injEq] at h
      subst h
      exact ⟨rfl,rfl,fun _=>rfl⟩
    · cases h
  · cases h

theorem V9 {c:DW} {r r':R} (h:Tu c r=some r'):r'.ro=r.ro∧r'.mem=r.mem∧(r.gJ=[]→r'.gJ=[]):=by
  unfold Tu at h
  split at h
  · rename_i hm
    split at h
    · simp only [Option.some.injEq] at h
      subst h
      exact ⟨rfl,rfl,fun e=>by rw [hm] at e; cases e⟩
    · simp only [Option.some.injEq] at h
      subst h
      exact ⟨rfl,rfl,fun e=>by rw [hm] at e; cases e⟩
    · cases h
  · cases h

theorem Wa {P:Program} {T:List (Nat × TI)} {lb:List (Nat × bP)} {ρ:Operand→Option AV} {dst:Option Nat} {quiet:Bool} {kX uW:List C0} {op:Op} {r:R} (h:aat P T lb ρ dst quiet kX op=some (r,uW)) :
    (∀ p,p∈r.ro→look lb p.1=some p.2)∧(∀ p,p∈r.mem→look lb p.1=some p.2)∧(quiet=true→r.mem=[]∧r.gJ=[]):=by
  unfold aat at h
  split at h
  · rename_i r0 N5 h0
    obtain ⟨q1,q2,q3⟩:=TC h0
    split at h
    · split at h
      · rename_i r' hn
        simp only [Option.some.injEq,Prod.mk.injEq] at h
        obtain ⟨rfl,-⟩:=h
        obtain ⟨e1,e2,e3⟩:=V8 hn
        rw [e1,e2]
        exact ⟨q1,q2,fun hq=>⟨(q3 hq).1,e3 (q3 hq).2⟩⟩
      · simp only [Option.some.injEq,Prod.mk.injEq] at h
        obtain ⟨rfl,-⟩:=h
        exact ⟨q1,q2,q3⟩
    · split at h
      · rename_i r' hn
        simp only [Option.some.injEq,Prod.mk.injEq] at h
        obtain ⟨rfl,-⟩:=h
        obtain ⟨e1,e2,e3⟩:=V9 hn
        rw [e1,e2]
        exact ⟨q1,q2,fun hq=>⟨(q3 hq).1,e3 (q3 hq).2⟩⟩
      · simp only [Option.some.injEq,Prod.mk.injEq] at h
        obtain ⟨rfl,-⟩:=h
        exact ⟨q1,q2,q3⟩
    · split at h
      · generalize Nat.beq _ _=bb at h
        cases bb with
        | false =>
          simp only [cond_false,Option.some.injEq,Prod.mk.injEq] at h
          obtain ⟨rfl,-⟩:=h
          exact ⟨q1,q2,q3⟩
        | true =>
          simp only [cond_true,Option.some.injEq,Prod.mk.injEq] at h
          obtain ⟨rfl,-⟩:=h
          exact ⟨q1,q2,q3⟩
      · simp only [Option.some.injEq,Prod.mk.injEq] at h
        obtain ⟨rfl,-⟩:=h
        exact ⟨q1,q2,q3⟩
    · simp only [Option.some.injEq,Prod.mk.injEq] at h
      obtain ⟨rfl,-⟩:=h
      exact ⟨q1,q2,q3⟩
  · cases h

def vN (ν:Nat→Bool) (p:List (Nat × Bool)):Prop:=∀ y,y∈p→ν y.1=y.2

theorem Wb {ν:Nat→Bool} {q p:List (Nat × Bool)} (h:acg q p=true) (hp:vN ν p):vN ν q:=by
  intro y hy
  simp only [acg,List.all_eq_true,List.any_eq_true,Bool.and_eq_true,beq_iff_eq] at h
  obtain ⟨z,hz,h1,h2⟩:=h y hy
  have:=hp z hz
  rw [Nat.eq_of_beq_eq_true h1,h2]
  exact this

section
variable {C : Cx} {A : M} {a : Act} {w : World} {S : Nat → Prop} {μ : Mu} {ν : Nat → Bool}

theorem Fl (YL:kO w S) {need:List (Nat × AV)} {p:List (Nat × Bool)} (Lo:∀ q,q∈need→Rel w S μ ν q.2 (a.tmps.getD q.1 undef)) (hp:vN ν p) (x:Operand) (y:AV) (h:Tx need p x=some y):Rel w S μ ν y (a.eval x):=by
  cases x with
  | tmp t =>
    simp only [Tx] at h
    cases hl:look need t with
    | none=>rw [hl] at h; cases h
    | some z =>
      rw [hl] at h
      have hr:=Lo (t,z) (kg hl)
      show Rel w S μ ν y (a.tmps.getD t undef)
      simp only at h hr
      cases z with
      | g q b =>
        simp only [adY] at h
        cases hs:acg q p with
        | false=>rw [hs] at h; cases h
        | true =>
          rw [hs] at h
          simp only [cond_true,Option.some.injEq] at h
          subst h
          cases hr with
          | g h1 _=>exact h1 (Wb hs hp)
      | _=>simp only [adY,Option.some.injEq] at h; subst h; exact hr
  | const v=>exact SW h
  | func f =>
    simp only [Tx,Option.some.injEq] at h
    subst h
    exact .fn rfl (fun i hi=>absurd hi (by simp))
  | global g =>
    simp only [Tx] at h
    cases hl:look (E5.gl) g with
    | none=>rw [hl] at h; cases h
    | some cs =>
      rw [hl] at h
      simp only [Option.some.injEq] at h
      subst h
      obtain ⟨ef,h1,h2⟩:=YL (g,cs) (kg hl)
      exact .ref ef h1 h2

theorem Lp {sl:List (Nat × AV)}:∀ {ts:List Nat} {q:Nat × AV},q∈sI sl ts→q.2=St.get sl q.1∧q.1∈ts
  | t :: r,q,h=>by
    rcases List.mem_cons.1 h with rfl | h'
    · exact ⟨rfl,List.mem_cons_self⟩
    · obtain ⟨h1,h2⟩:=Lp h'
      exact ⟨h1,List.mem_cons_of_mem _ h2⟩

theorem GX {sl:List (Nat × AV)}:∀ {ts:List Nat} {s:Nat},s∈ts→(s,St.get sl s)∈sI sl ts
  | t :: r,s,h=>by
    rcases List.mem_cons.1 h with rfl | h'
    · exact List.mem_cons_self
    · exact List.mem_cons_of_mem _ (GX h')

theorem Fm {gl:List (Nat × Bool)}:∀ {ss:List Nat} {q:Nat × Bool},q∈Q2 gl ss→look gl q.1=some q.2
  | s :: r,q,h=>by
    simp only [Q2] at h
    cases hl:look gl s with
    | none=>rw [hl] at h; exact Fm h
    | some e =>
      rw [hl] at h
      rcases List.mem_cons.1 h with rfl | h'
      · exact hl
      · exact Fm h'

theorem BL {gl:List (Nat × Bool)} {ob:Ob}:∀ {p:List (Nat × Bool)},(BK gl p ob).den→(∀ s e,s∈p.map (·.1)→look gl s=some e→ν s=e)→vN ν p→ob.den
  | [],h,_,_=>h
  | (s,w) :: r,h,hg,hp=>by
    simp only [BK] at h
    have hr:∀ s e,s∈r.map (·.1)→look gl s=some e→ν s=e:=fun s e hs=>hg s e (by simp only [List.map_cons,List.mem_cons]; exact .inr hs)
    have hp':vN ν r:=fun y hy=>hp y (List.mem_cons_of_mem _ hy)
    cases hl:look gl s with
    | none=>rw [hl] at h; exact BL h hr hp'
    | some e =>
      rw [hl] at h
      exact BL (Ob.aca h (by rw [← hg s e (by simp) hl]; exact hp (s,w) List.mem_cons_self)) hr hp'

theorem PT {gl Ty:List (Nat × Bool)} {s:Nat} {e:Bool} {ob:Ob} (h:Y2 gl s e=(Ty,ob)) (cD:ob.den):look Ty s=some e∧∀ t x,look gl t=some x→look Ty t=some x:=by
  unfold Y2 at h
  cases hl:look gl s with
  | some e' =>
    rw [hl] at h
    simp only [Prod.mk.injEq] at h
    obtain ⟨rfl,rfl⟩:=h
    simp only [Ob.den] at cD
    exact ⟨by rw [hl,cD],fun t x h=>h⟩
  | none =>
    rw [hl] at h
    simp only [Prod.mk.injEq] at h
    obtain ⟨rfl,rfl⟩:=h
    refine ⟨by rw [xg,hl]; simp [look],fun t x ht=>by rw [xg,ht]⟩

theorem TE {ops:Array Oper} {j s:Nat} (hj:C3 ops j=some s) (gI:s < a.tmps.size):yielded ops a.tmps j=match a.tmps.getD s undef with | .bool b=>some b | _=>none:=by
  unfold C3 at hj
  cases ho:ops[j]? with
  | none=>rw [ho] at hj; cases hj
  | some o =>
    rw [ho] at hj
    simp only at hj
    unfold yielded
    rw [ho]
    simp only [Option.bind_some,hj,Array.getElem?_eq_getElem gI]
    have e:a.tmps.getD s undef=a.tmps[s]:=by simp [Array.getD,gI]
    rw [e]
    cases a.tmps[s] <;> rfl


theorem TF {p:List (Nat × Bool)} {v:AV} {x:Value} (hp:vN ν p) (h:Rel w S μ ν v x):Rel w S μ ν (Fk p v) x:=by
  cases p with
  | nil=>exact h
  | cons y r=>exact .g (fun _=>h) (fun hn=>absurd hp hn)

/-- I8 same ad1,with XL name for its result -/
theorem dG.rename {τ τ':Tr} {a':Act} {w':World} {S':Nat→Prop} {μ':Mu} (h:dG C (τ.apply A) a' w' S' μ' ν) (hd:τ'.dst=τ.dst) (hm:τ'.mem=τ.mem) (Bt:τ'.gJ=τ.gJ) (hv:∀ x,Rel w' S' μ' ν τ.v x→Rel w' S' μ' ν τ'.v x):dG C (τ'.apply A) a' w' S' μ' ν:=by
  have e:(τ'.apply A).lb=(τ.apply A).lb:=by simp only [Tr.apply,hm,Bt]
  refine ⟨h.tmps,h.defers,fun t=>?_,by rw [e]; exact h.mem,by rw [e]; exact h.inj,by rw [e]; exact h.own,h.fU,h.fresh,h.bound,h.kept⟩
  have h0:=h.fa t
  simp only [Tr.apply,hd] at h0 ⊢
  split
  · rename_i c
    simp only [c,if_true] at h0
    exact hv _ h0
  · rename_i c
    simp only [c,if_false] at h0
    exact h0

theorem Q4 {T:List (Nat × TI)} (hT:pk C.P T) {ops:Array Oper} {st:St} {gl Ty:List (Nat × Bool)} {kX uW:List C0} {o:Oper} {τ:Tr} {ob:Ob}
    (h:V6 C.P T C.nt ops st gl kX o=some (τ,Ty,uW,ob)) (cD:ob.den) (hν:∀ s e,look Ty s=some e→ν s=e) :
    Ks C ν ops o τ∧(∀ p,p∈τ.gs→ν p.1=p.2)∧En τ st.gL∧∀ t x,look gl t=some x→look Ty t=some x:=by
  unfold V6 at h
  split at h
  case h_2=>cases h
  rename_i p ss gl1 Dv vO eT
  have hd:∀ t,o.dst=some t→t < C.nt:=fun t ht=>by
    rw [ht] at eT
    simp only at eT
    exact Nat.lt_of_succ_le (Nat.le_of_ble_eq_true eT)
  -- I8 path
  have path:Dv.den→(∀ s e,look gl1 s=some e→ν s=e)→(∀ t x,look gl t=some x→look gl1 t=some x) ∧
      ∀ (A:M) (a:Act) (w:World) (S:Nat→Prop) (μ:Mu),dG C A a w S μ ν→(∀ s,s∈ss→A.sl s=St.get st.sl s)→(Region.wanted o (yielded ops a.tmps)=true→vN ν p)∧(Region.wanted o (yielded ops a.tmps)=false→p≠[]∧¬ vN ν p):=by
    intro BM hν1
    unfold pathOf at vO
    split at vO
    · rename_i hg
      simp only [Option.some.injEq,Prod.mk.injEq] at vO
      obtain ⟨rfl,rfl,rfl,rfl⟩:=vO
      refine ⟨fun _ _ h=>h,fun A a w S μ hs _=>⟨fun _ y hy=>(by cases hy),fun hw=>?_⟩⟩
      simp [Region.wanted,hg] at hw
    · rename_i j want hg
      split at vO
      · rename_i s YH
        cases hnt:Nat.ble (s+1) C.nt with
        | false=>rw [hnt] at vO; cases vO
        | true =>
        rw [hnt] at vO
        simp only [cond_true] at vO
        split at vO
        · rename_i q e hbo
          generalize Wc:Y2 gl s e=rg at vO
          obtain ⟨gl2,Jc⟩:=rg
          simp only [Option.some.injEq,Prod.mk.injEq] at vO
          obtain ⟨rfl,rfl,rfl,rfl⟩:=vO
          obtain ⟨g1,g2⟩:=PT Wc BM
          refine ⟨g2,fun A a w S μ hs hss=>?_⟩
          have hνs:=hν1 s e g1
          have hsA:=hss s (by simp)
          have hr:=hs.fa s
          rw [hsA] at hr
          have gI:s < a.tmps.size:=by rw [hs.tmps]; exact Nat.lt_of_succ_le (Nat.le_of_ble_eq_true hnt)
          have hy:=TE (a:=a) YH gI
          have afv:Region.wanted o (yielded ops a.tmps)=((match a.tmps.getD s undef with | .bool b=>some b | _=>none) == some want):=by
            unfold Region.wanted
            rw [hg]
            simp only [hy]
          rw [afv]
          unfold aax at hbo
          split at hbo
          · rename_i N2
            simp only [Option.some.injEq,Prod.mk.injEq] at hbo
            obtain ⟨rfl,rfl⟩:=hbo
            rw [N2] at hr
            have:=pE hr
            rw [this]
            refine ⟨fun hw y hy=>?_,fun hw=>⟨by simp,fun hh=>?_⟩⟩
            · simp only [List.nil_append,List.mem_singleton] at hy
              subst hy
              simp only [beq_iff_eq,Option.some.injEq] at hw
              rw [hνs,hw]
            · have:=hh (s,want) (by simp)
              rw [hνs] at this
              simp [this] at hw
          · rename_i N2
            simp only [Option.some.injEq,Prod.mk.injEq] at hbo
            obtain ⟨rfl,rfl⟩:=hbo
            rw [N2] at hr
            generalize a.tmps.getD s undef=xv at hr ⊢
            cases hr with
            | g h1 h0 =>
              rename_i q0 e0
              by_cases hq:vN ν q0
              · have:=pE (h1 hq)
                rw [this]
                refine ⟨fun hw y hy=>?_,fun hw=>⟨by simp,fun hh=>?_⟩⟩
                · rcases List.mem_append.1 hy with hy | hy
                  · exact hq y hy
                  · simp only [List.mem_singleton] at hy
                    subst hy
                    simp only [beq_iff_eq,Option.some.injEq] at hw
                    rw [hνs,hw]
                · have:=hh (s,want) (by simp)
                  rw [hνs] at this
                  simp [this] at hw
              · have:=h0 hq
                rw [this]
                refine ⟨fun hw=>?_,fun _=>⟨by simp,fun hh=>hq (fun y hy=>hh y (List.mem_append.2 (.inl hy)))⟩⟩
                simp [undef] at hw
          · cases hbo
        · cases vO
      · cases vO
  have enN:∀ (ts:List Nat) (τ:Tr),τ.need=sI st.sl ts→(∀ p,p∈τ.ro→st.gL.lb p.1=some p.2)→(∀ p,p∈τ.mem→st.gL.lb p.1=some p.2)→En τ st.gL:=fun ts τ hn h1 h2 =>
    ⟨fun q hq=>by rw [hn] at hq; exact (Lp hq).1.symm,h1,h2⟩
  split at h
  · -- pick
    rename_i c x y zP
    split at h
    · rename_i s e ex ey Fo
      generalize Wc:Y2 gl1 s e=rg at h
      obtain ⟨gl2,Jc⟩:=rg
      simp only [Option.some.injEq,Prod.mk.injEq] at h
      obtain ⟨rfl,rfl,rfl,rfl⟩:=h
      obtain ⟨BM,Dw⟩:=Ob.da cD
      obtain ⟨r1,r2⟩:=PT Wc Dw
      obtain ⟨aaA,ad2⟩:=path BM (fun s' e' hl=>hν s' e' (r2 s' e' hl))
      refine ⟨?_,fun q hq=>hν _ _ (Fm hq),enN _ _ rfl (fun p hp=>by cases hp) (fun p hp=>by cases hp),fun t x h=>r2 t x (aaA t x h)⟩
      intro A a w S μ hs hen _ _
      have hA:∀ t,t∈ss++slotsOf [c,x,y]→A.sl t=St.get st.sl t:=fun t ht=>hen.need (t,St.get st.sl t) (GX ht)
      obtain ⟨p1,p0⟩:=ad2 A a w S μ hs (fun s' yJ=>hA s' (List.mem_append.2 (.inl yJ)))
      have Lo:∀ q,q∈sI st.sl (ss++slotsOf [c,x,y])→Rel w S μ ν q.2 (a.tmps.getD q.1 undef):=fun q hq=>by
        have:=hs.fa q.1
        rw [hen.need q hq] at this
        exact this
      split
      · rename_i hw
        have hp:=p1 hw
        have hνs:ν s=e:=hν s e r1
        unfold aay at Fo
        cases c with
        | tmp s' =>
          simp only at Fo
          split at Fo
          · rename_i e' ex' ey' h1 h2 h3
            simp only [Option.some.injEq,Prod.mk.injEq] at Fo
            obtain ⟨rfl,rfl,rfl,rfl⟩:=Fo
            have hc:=pE (Fl hs.Bw Lo hp _ _ h1)
            refine nE (x:=.bool (bif e' then ex' else ey')) hs hd ?_ (TF hp (iJ rfl)) rfl rfl rfl
            simp only [execOp,zP,hc,asBool,Sem.run_bind,Sem.run_pure,Result.andThen_ok]
            cases e' with
            | true =>
              have hpx:vN ν ((s',true) :: p):=fun y hy=>by
                rcases List.mem_cons.1 hy with rfl | hy
                · exact hνs
                · exact hp y hy
              have hx:=pE (Fl hs.Bw Lo hpx _ _ h2)
              simp [hx]
            | false =>
              have hpy:vN ν ((s',false) :: p):=fun y hy=>by
                rcases List.mem_cons.1 hy with rfl | hy
                · exact hνs
                · exact hp y hy
              have hx:=pE (Fl hs.Bw Lo hpy _ _ h3)
              simp [hx]
          · cases Fo
        | const=>cases Fo
        | global=>cases Fo
        | func=>cases Fo
      · rename_i hw
        obtain ⟨vG,hnp⟩:=p0 (by simpa using hw)
        refine ⟨S,μ,?_⟩
        have hr:Rel w S μ ν (Fk p (.d (.v (.bool (bif e then ex else ey))))) undef:=by
          cases p with
          | nil=>exact absurd rfl vG
          | cons y r=>exact .g (fun hh=>absurd hh hnp) (fun _=>rfl)
        have h5:=hs.put (dst:=o.dst) hd hr
        have e0:(Tr.mk (sI st.sl (ss++slotsOf [c,x,y])) o.dst (Fk p (.d (.v (.bool (bif e then ex else ey))))) [] [] [] (Q2 gl2 (s :: p.map (·.1)))).apply A=A.yH o.dst (Fk p (.d (.v (.bool (bif e then ex else ey))))):=by
          unfold Tr.apply M.yH M.put
          cases hdd:o.dst with
          | none=>simp [look]
          | some d =>
            simp only [look,List.map_nil,List.not_mem_nil,if_false,Option.some.injEq]
            congr 1
            funext t
            by_cases cc:d=t
            · simp [cc]
            · have:¬ t=d:=fun e=>cc e.symm
              simp [cc,this]
        rw [e0]
        exact h5
    · cases h
  · rename_i op0 hnp
    split at h
    · rename_i r N5 hev
      simp only [Option.some.injEq,Prod.mk.injEq] at h
      obtain ⟨rfl,rfl,rfl,rfl⟩:=h
      obtain ⟨BM,Dw⟩:=Ob.da cD
      obtain ⟨aaA,ad2⟩:=path BM hν
      have aaB:(∀ p,p∈r.ro→look st.lb p.1=some p.2)∧(∀ p,p∈r.mem→look st.lb p.1=some p.2)∧(p≠[]→r.mem=[]∧r.gJ=[]):=by
        obtain ⟨q1,q2,q3⟩:=Wa hev
        exact ⟨q1,q2,fun vG=>q3 (by cases p with | nil=>exact absurd rfl vG | cons _ _=>rfl)⟩
      refine ⟨?_,fun q hq=>hν _ _ (Fm hq),enN _ _ rfl aaB.1 aaB.2.1,aaA⟩
      intro A a w S μ hs hen yD _
      have hA:∀ t,t∈ss++slotsOf o.op.operands.toList→A.sl t=St.get st.sl t:=fun t ht=>hen.need (t,St.get st.sl t) (GX ht)
      obtain ⟨p1,p0⟩:=ad2 A a w S μ hs (fun s' yJ=>hA s' (List.mem_append.2 (.inl yJ)))
      have Lo:∀ q,q∈sI st.sl (ss++slotsOf o.op.operands.toList)→Rel w S μ ν q.2 (a.tmps.getD q.1 undef):=fun q hq=>by
        have:=hs.fa q.1
        rw [hen.need q hq] at this
        exact this
      split
      · rename_i hw
        have hp:=p1 hw
        have ahe:r.ob.den:=BL Dw (fun s e _ hl=>hν s e hl) hp
        have:=V5 hT hs (fun x y hxy=>Fl hs.Bw Lo hp x y hxy) hd hev hen.ro hen.mem ahe (fun κ hκ=>yD κ hκ) (sI st.sl (ss++slotsOf o.op.operands.toList)) (Q2 gl1 (p.map (·.1)))
        refine Oper.wp_mono (fun a' w' hh=>?_) this
        obtain ⟨S',μ',dy⟩:=hh
        exact ⟨S',μ',dy.rename rfl rfl rfl (fun x hx=>TF hp hx)⟩
      · rename_i hw
        obtain ⟨vG,ahf⟩:=p0 (by simpa using hw)
        obtain ⟨hm1,hm2⟩:=aaB.2.2 vG
        refine ⟨S,μ,?_⟩
        have hr:Rel w S μ ν (Fk p r.v) undef:=by
          cases p with
          | nil=>exact absurd rfl vG
          | cons y r=>exact .g (fun hh=>absurd hh ahf) (fun _=>rfl)
        have h5:=hs.put (dst:=o.dst) hd hr
        have e0:(Tr.mk (sI st.sl (ss++slotsOf o.op.operands.toList)) o.dst (Fk p r.v) r.ro r.mem r.gJ (Q2 gl1 (p.map (·.1)))).apply A=A.yH o.dst (Fk p r.v):=by
          unfold Tr.apply M.yH M.put
          simp only [hm1,hm2]
          cases hdd:o.dst with
          | none=>simp [look]
          | some d =>
            simp only [look,List.map_nil,List.not_mem_nil,if_false,Option.some.injEq]
            congr 1
            funext t
            by_cases cc:d=t
            · simp [cc]
            · have:¬ t=d:=fun e=>cc e.symm
              simp [cc,this]
        rw [e0]
        exact h5
    · cases h

end

def kW (C:Cx) (st:St) (a:Act) (w:World):Prop:=∃ S μ,∀ ν,dG C st.gL a w S μ ν
section
variable {C : Cx} {a : Act} {w : World} {S : Nat → Prop} {μ : Mu} {ν : Nat → Bool}
theorem IB {T:List (Nat × TI)} (hT:pk C.P T) {ops:Array Oper}:∀ {l:List Oper} {st st':St} {gl Ty:List (Nat × Bool)} {kX uW:List C0} {wV:List Tr} {ob:Ob},
  Tz C.P T C.nt ops l st gl kX=some (wV,st',Ty,uW,ob)→ob.den→(∀ s e,look Ty s=some e→ν s=e) →
  wV.length=l.length∧(∀ (i:Nat) (τ:Tr) (o:Oper),wV[i]? = some τ→l[i]? = some o→Ks C ν ops o τ∧∀ p,p∈τ.gs→ν p.1=p.2)∧YB wV st.gL st'.gL∧∀ t x,look gl t=some x→look Ty t=some x
 | [],st,st',gl,Ty,kX,uW,wV,ob,h,_,_=>by
  simp only [Tz,Option.some.injEq,Prod.mk.injEq] at h
  obtain ⟨rfl,rfl,rfl,-,-⟩:=h
  exact ⟨rfl,fun i τ o h=>by simp at h,rfl,fun _ _ h=>h⟩
 | o :: r,st,st',gl,Ty,kX,uW,wV,ob,h,cD,hν=>by
  simp only [Tz] at h
  split at h
  ·rename_i τ gl1 N5 Dv yK
   split at h
   ·rename_i l1 pW gl2 V4 Jc Bz
    simp only [Option.some.injEq,Prod.mk.injEq] at h
    obtain ⟨rfl,rfl,rfl,rfl,rfl⟩:=h
    obtain ⟨i1,i2,i3,i4⟩:=IB hT Bz (Ob.da cD).2 hν
    obtain ⟨s1,s2,s3,s4⟩:=Q4 hT yK (Ob.da cD).1 (fun s e hl=>hν s e (i4 s e hl))
    refine ⟨by simp [i1],fun i τ' o' h1 h2=>?_,⟨s3,by rw [← St.Y3]; exact i3⟩,fun t x hx=>i4 t x (s4 t x hx)⟩
    cases i with
    | zero =>
     simp only [List.getElem?_cons_zero,Option.some.injEq] at h1 h2
     subst h1; subst h2
     exact ⟨s1,s2⟩
    | succ i=>exact i2 i τ' o' (by simpa using h1) (by simpa using h2)
   ·cases h
  ·cases h
theorem TG {st:St} {κ:Nat} (h:Q3 st κ=true):lj st.gL κ:=by
 simp only [Q3,Bool.and_eq_true,List.all_eq_true,Bool.not_eq_true'] at h
 obtain ⟨h1,h2⟩:=h
 have adp:∀ l:List Nat,(l.any fun k=>Nat.beq k κ)=false→κ ∉ l:=fun l hl hc=>by
  have:(l.any fun k=>Nat.beq k κ)=true:=List.any_eq_true.2 ⟨κ,hc,Nat.beq_refl κ⟩
  rw [this] at hl
  cases hl
 refine ⟨fun t=>?_,?_,fun κ' b hb=>?_⟩
 ·simp only [St.gL,St.get]
  cases hl:look st.sl t with
  | none=>simp [AV.keys]
  | some x=>exact adp _ (h1 (t,x) (kg hl))
 ·simp only [St.gL]
  cases hl:look st.lb κ with
  | none=>rfl
  | some b =>
   have:=(h2 (κ,b) (kg hl)).1
   rw [Nat.beq_refl] at this
   cases this
 ·exact adp _ (h2 (κ',b) (kg hb)).2
theorem Ei {keep:Option (List Nat)}:∀ {sl:List (Nat × AV)} {t:Nat} {x:AV},vu sl=true→look (AY keep sl) t=some x→look sl t=some x∧wX x=true
 | [],t,x,_,h=>by simp [AY,look] at h
 | (k,y) :: r,t,x,hd,h=>by
  simp only [vu,Bool.and_eq_true,List.all_eq_true,Bool.not_eq_true'] at hd
  simp only [AY] at h
  rw [Bool.cond_eq_ite] at h
  by_cases hb:(wX y&&ado keep k)=true
  ·rw [if_pos hb] at h
   simp only [ca] at h
   simp only [Bool.and_eq_true] at hb
   rw [ca]
   split
   ·rename_i e
    simp only [e,if_true,Option.some.injEq] at h
    subst h
    exact ⟨rfl,hb.1⟩
   ·rename_i e
    simp only [e,if_false] at h
    exact Ei hd.2 h
  ·rw [if_neg hb] at h
   obtain ⟨h1,h2⟩:=Ei hd.2 h
   refine ⟨?_,h2⟩
   rw [ca]
   split
   ·rename_i e
    subst e
    have:=hd.1 (k,x) (kg h1)
    rw [Nat.beq_refl] at this
    cases this
   ·exact h1
theorem dG.AY {st:St} {keep:Option (List Nat)} (h:dG C st.gL a w S μ ν) (hd:vu st.sl=true) (ν':Nat→Bool):dG C (St.gL ⟨AY keep st.sl,st.lb⟩) a w S μ ν':=by
 refine ⟨h.tmps,h.defers,fun t=>?_,h.mem,h.inj,h.own,h.fU,h.fresh,h.bound,h.kept⟩
 simp only [St.gL,St.get]
 cases hl:look (Go.Av.AY keep st.sl) t with
 | none=>exact .any _
 | some x =>
  obtain ⟨h1,h2⟩:=Ei hd hl
  have:=h.fa t
  simp only [St.gL,St.get,h1] at this
  exact this.nu h2
def TH (ops:Array Oper) (K:Array Value→Prop):Prop:=∀ (i:Nat) (o:Oper) (a:Act) (v:Value),ops[i]? = some o→K a.tmps→K (a.put o.dst v).tmps
theorem TJ {P:Program} {o:Oper} {a:Act} {w:World} {next:Act→World→Prop} {Q:Exit→Act→World→Prop} {K:Array Value→Prop} (hK:∀ (a:Act) (v:Value),K a.tmps→K (a.put o.dst v).tmps) (hq:∀ e a w,Q e a w→e=.normal) (ha:K a.tmps)
  (h:o.wp P a w next Q):o.wp P a w (fun a' w'=>next a' w'∧K a'.tmps) (fun e a' w'=>Q e a' w'∧K a'.tmps):=by
 unfold Oper.wp at *
 generalize (execOp a.eval o).run P w=r at *
 have no:¬ LetsOut Q:=fun ⟨_,_,q⟩=>by cases hq _ _ _ q
 cases r with
 | ok n w' =>
  cases n <;> simp only [Oper.upon] at h ⊢ <;>
   first
    | exact ⟨h,hK _ _ ha⟩
    | exact ⟨h,hK { a with defers:=_ :: a.defers } _ ha⟩
    | exact Calls.mono h (fun e Z7 he=>by cases e <;> first | exact ⟨he,hK _ _ ha⟩ | exact absurd (hq _ _ _ he) (by simp) | exact absurd he no)
    | exact Rows.mono h (fun _ _ he=>⟨he,hK _ _ ha⟩)
 | halt x w'=>cases x <;> simp only [Oper.upon] at h ⊢ <;> first | exact h.elim | exact absurd (hq _ _ _ h) (by simp)
theorem vw {P:Program} {ops:Array Oper} {Q:Exit→Act→World→Prop} {K:Array Value→Prop} (hK:TH ops K) (hq:∀ e a w,Q e a w→e=.normal):∀ (is:List Nat) (a:Act) (w:World),K a.tmps→wpOps P ops Q is a w→wpOps P ops (fun e a' w'=>Q e a' w'∧K a'.tmps) is a w
 | [],a,w,ha,h=>⟨h,ha⟩
 | i :: is,a,w,ha,h=>by
  simp only [wpOps] at h ⊢
  cases ho:ops[i]? with
  | none=>rw [ho] at h; exact vw hK hq is a w ha h
  | some o =>
   rw [ho] at h
   simp only at h ⊢
   split
   ·rename_i hw
    rw [if_pos hw] at h
    rcases h with h | ⟨_,_,_,q⟩
    ·exact .inl (Oper.wp_mono (fun a' w' hh=>vw hK hq is a' w' hh.2 hh.1) (TJ (fun a v=>hK i o a v ho) hq ha h))
    ·cases hq _ _ _ q
   ·rename_i hw
    rw [if_neg hw] at h
    exact vw hK hq is _ w (hK i o a undef ho ha) h
theorem C4 {P:Program} {md:Region.Mode} {ops:Array Oper} {Q:Exit→Act→World→Prop} {K:Array Value→Prop} (hK:TH ops K) (hq:∀ e a w,Q e a w→e=.normal):∀ (n:Nat) (listed:Array Bool) (a:Act) (w:World),K a.tmps→wpAny P md ops Q n listed a w→wpAny P md ops (fun e a' w'=>Q e a' w'∧K a'.tmps) n listed a w
 | 0,listed,a,w,ha,h=>⟨h.1,h.2,ha⟩
 | n+1,listed,a,w,ha,h=>by
  refine ⟨fun hr=>⟨h.1 hr,ha⟩,fun i hi=>?_⟩
  have h:=h.2 i hi
  unfold wpOp at *
  split
  ·rename_i ho
   simp only [ho] at h
   exact C4 hK hq n _ a w ha h
  ·rename_i o ho
   simp only [ho] at h
   split
   ·rename_i hw
    rw [if_pos hw] at h
    rcases h with h | ⟨_,_,_,q⟩
    ·exact .inl (Oper.wp_mono (fun a' w' hh=>C4 hK hq n _ a' w' hh.2 hh.1) (TJ (fun a v=>hK i o a v ho) hq ha h))
    ·cases hq _ _ _ q
   ·rename_i hw
    rw [if_neg hw] at h
    exact C4 hK hq n _ _ w (hK i o a undef ho ha) h
def na (ops:Array Oper):Bool:=ops.toList.all fun o=>match o.op with | .defer _=>false | _=>true
theorem vP {ops:Array Oper} (h:na ops=true) {i:Nat} {o:Oper} (ho:ops[i]? = some o):∀ c,o.op≠.defer c:=by
 simp only [na,List.all_eq_true] at h
 have:=h o (by have:=Array.getElem?_eq_some_iff.1 ho; obtain ⟨hi,rfl⟩:=this; simp)
 intro c hc
 rw [hc] at this
 cases this
theorem Lq {P:Program} {o:Oper} {a:Act} {w:World} {next next':Act→World→Prop} {Q:Exit→Act→World→Prop} {l n:Nat} (hd:∀ c,o.op≠.defer c) (hn:∀ a w,next a w→next' a w) (hq:∀ e a w,Q e a w→e=.normal) (h:o.wp P a w next Q):o.wpIn (Fence.wide.inRound l) n P a w next' Q:=by
 refine ⟨fun _ _=>trivial,?_⟩
 rw [Oper.semAt_eq _ _ _ hd]
 unfold Oper.wp at h
 generalize (execOp a.eval o).run P w=r at *
 have no:¬ LetsOut Q:=fun ⟨_,_,q⟩=>by cases hq _ _ _ q
 have hdp:((Fence.wide.inRound l).depth.isSome=true→1≤n):=fun h=>by simp [Fence.wide] at h
 cases r with
 | ok x w' =>
  cases x <;> simp only [Oper.upon,Oper.uponIn] at h ⊢ <;>
   first
    | exact hn _ _ h
    | exact ⟨hdp,(CallsIn.inRound l (callsIn_wide.2 h)).mono (fun e Z7 he=>by cases e <;> first | exact hn _ _ he | exact he)⟩
    | exact ⟨hdp,fun c cs _=>by obtain ⟨v,Z7,q,s⟩:=h c cs; exact ⟨v,Z7,hn _ _ q,stepsIn_wide.2 s⟩⟩
 | halt x w'=>cases x <;> simp only [Oper.upon,Oper.uponIn] at h ⊢ <;> exact h
theorem xh {P:Program} {ops:Array Oper} {Q:Exit→Act→World→Prop} {l n:Nat} (hd:na ops=true) (hq:∀ e a w,Q e a w→e=.normal):∀ (is:List Nat) (a:Act) (w:World),wpOps P ops Q is a w→wpOpsIn (Fence.wide.inRound l) n P ops Q is a w
 | [],a,w,h=>h
 | i :: is,a,w,h=>by
  simp only [wpOps,wpOpsIn] at h ⊢
  cases ho:ops[i]? with
  | none=>rw [ho] at h; exact xh hd hq is a w h
  | some o =>
   rw [ho] at h
   simp only at h ⊢
   split
   ·rename_i hw
    rw [if_pos hw] at h
    rcases h with h | ⟨_,_,_,q⟩
    ·exact Lq (vP hd ho) (fun a' w'=>xh hd hq is a' w') hq h
    ·cases hq _ _ _ q
   ·rename_i hw
    rw [if_neg hw] at h
    exact ⟨fun _ _=>trivial,xh hd hq is _ w h⟩
theorem xi {P:Program} {md:Region.Mode} {ops:Array Oper} {Q:Exit→Act→World→Prop} {l m:Nat} (hd:na ops=true) (hq:∀ e a w,Q e a w→e=.normal):∀ (n:Nat) (listed:Array Bool) (a:Act) (w:World),wpAny P md ops Q n listed a w→wpAnyIn (Fence.wide.inRound l) m P md ops Q n listed a w
 | 0,listed,a,w,h=>h
 | n+1,listed,a,w,h=>by
  refine ⟨h.1,fun i hi=>?_⟩
  have h:=h.2 i hi
  unfold wpOp at h
  unfold wpOpIn
  split
  ·rename_i ho
   simp only [ho] at h
   exact xi hd hq n _ a w h
  ·rename_i o ho
   simp only [ho] at h
   split
   ·rename_i hw
    rw [if_pos hw] at h
    rcases h with h | ⟨_,_,_,q⟩
    ·exact Lq (vP hd ho) (fun a' w'=>xi hd hq n _ a' w') hq h
    ·cases hq _ _ _ q
   ·rename_i hw
    rw [if_neg hw] at h
    exact ⟨fun _ _=>trivial,xi hd hq n _ _ w h⟩
theorem ad3 {P:Program} {id:Nat} {ops:Array Oper} {draw:Bool} {Q:Exit→Act→World→Prop} {K:Array Value→Prop} {a:Act} {w:World} (hm:P.follows .mixedOrders=true) (hK:TH ops K) (hq:∀ e a w,Q e a w→e=.normal) (ha:K a.tmps)
  (h:(draw=false∧wpOps P ops Q (List.range ops.size) a w)∨(draw=true∧wpAny P .any ops Q ops.size (Array.replicate ops.size false) a { w with drawn:=w.drawn+1 })) (b:Frame) (hb:b.roundOf=none∨na ops=true) (k:List Item) (cs:List Frame) :
  ∃ a' w',Q .normal a' w'∧K a'.tmps∧Steps P (lone (b.atR a (.code (.region id ops draw) :: k)) cs w) (lone (b.atR a' k) cs w'):=by
 have QS:∀ e a w,(Q e a w∧K a.tmps)→e=.normal:=fun e a w h=>hq e a w h.1
 have h':(draw=false∧wpOps P ops (fun e a' w'=>Q e a' w'∧K a'.tmps) (List.range ops.size) a w)∨(draw=true∧wpAny P .any ops (fun e a' w'=>Q e a' w'∧K a'.tmps) ops.size (Array.replicate ops.size false) a { w with drawn:=w.drawn+1 }):=by
  rcases h with ⟨e,h⟩ | ⟨e,h⟩
  ·exact .inl ⟨e,vw hK hq _ a w ha h⟩
  ·exact .inr ⟨e,C4 hK hq _ _ a _ ha h⟩
 cases hr:b.roundOf with
 | none =>
  have hw:(Code.region id ops draw).wp P (fun e a' w'=>Q e a' w'∧K a'.tmps) a w:=by
   rcases h' with ⟨rfl,h2⟩ | ⟨rfl,h2⟩
   ·exact wp_region h2
   ·exact wp_region_any hm h2
  obtain ⟨e,a',w',⟨q1,q2⟩,aaC⟩:=hw b k cs
  have he:=hq _ _ _ q1
  subst he
  refine ⟨a',w',q1,q2,?_⟩
  rw [Frame.atR_of_none hr,Frame.atR_of_none hr]
  exact aaC
 | some l =>
  have hd:na ops=true:=hb.resolve_left (by rw [hr]; simp)
  have hw:(Code.region id ops draw).wpIn (Fence.wide.inRound l) 0 P (fun e a' w'=>Q e a' w'∧K a'.tmps) a w:=by
   rcases h' with ⟨rfl,h2⟩ | ⟨rfl,h2⟩
   ·exact wpIn_region (xh hd QS _ a w h2)
   ·exact wpIn_region_any hm (xi hd QS _ _ a _ h2)
  obtain ⟨e,a',w',⟨q1,q2⟩,aaC⟩:=hw b k cs hr trivial (room_wide _)
  have he:=hq _ _ _ q1
  subst he
  exact ⟨a',w',q1,q2,StepsIn.steps aaC⟩
theorem Ej {T:List (Nat × TI)} (hT:pk C.P T) (hm:C.P.follows .mixedOrders=true) {ops:Array Oper} {draw:Bool} {keep:Option (List Nat)} {st st':St} {kX:List C0} {ob:Ob}
  (h:rz C.P T C.nt ops draw keep st kX=some (st',ob)) (cD:ob.den) (hs:kW C st a w):(draw=false∧wpOps C.P ops (fun e a' w'=>e=.normal∧kW C st' a' w') (List.range ops.size) a w)∨(draw=true∧wpAny C.P .any ops (fun e a' w'=>e=.normal∧kW C st' a' w') ops.size (Array.replicate ops.size false) a { w with drawn:=w.drawn+1 }):=by
 unfold rz at h
 split at h
 ·rename_i wV pW gl Dv hev
  rw [Bool.cond_eq_ite] at h
  by_cases hb:(aaz draw ops wV&&wV.all (fun τ=>τ.created.all (Q3 st))&&vu pW.sl)=true
  case neg=>rw [if_neg hb] at h; cases h
  case pos =>
   rw [if_pos hb] at h
   simp only [Option.some.injEq,Prod.mk.injEq] at h
   obtain ⟨rfl,rfl⟩:=h
   simp only [Bool.and_eq_true] at hb
   obtain ⟨⟨SU,yD⟩,ahg⟩:=hb
   let ν:Nat→Bool:=fun s=>(look gl s).getD false
   have hν:∀ s e,look gl s=some e→ν s=e:=fun s e hl=>by simp [ν,hl]
   obtain ⟨i1,i2,i3,_⟩:=IB (C:=C) (ν:=ν) hT hev cD hν
   obtain ⟨S,μ,dy⟩:=hs
   have hfa:E6 wV st.gL:=fun τ hτ κ hκ=>by
    simp only [List.all_eq_true] at yD
    exact TG (yD τ hτ κ hκ)
   have hQ:∀ a' w' S' μ',dG C pW.gL a' w' S' μ' ν→(Exit.normal=.normal∧kW C ⟨Go.Av.AY keep pW.sl,pW.lb⟩ a' w'):=fun a' w' S' μ' yJ=>⟨rfl,S',μ',fun ν'=>yJ.AY ahg ν'⟩
   have hlen:wV.length=ops.size:=by rw [i1]; simp
   cases draw with
   | false =>
    refine .inl ⟨rfl,?_⟩
    have:=PH (C:=C) (ν:=ν) (ops:=ops) (Q:=fun e a' w'=>e=.normal∧kW C ⟨Go.Av.AY keep pW.sl,pW.lb⟩ a' w') wV 0 st.gL pW.gL a w S μ (by omega) (fun i τ o h1 h2=>i2 i τ o h1 (by simpa using h2)) i3 hfa SU (dy ν) hQ
    rw [hlen] at this
    rw [List.range_eq_range']
    exact this
   | true =>
    refine .inr ⟨rfl,?_⟩
    have hw':dG C st.gL a { w with drawn:=w.drawn+1 } S μ ν:=(dy ν).world (fun _ x=>x) (fun _ x=>.inl x) ⟨rfl,rfl,rfl,Nat.le_refl _,fun _ _ _=>rfl⟩
    have aaf:((List.range ops.size).map fun i=>wV.getD i ⟨[],none,.any,[],[],[],[]⟩)=wV:=by
     apply List.ext_getElem?
     intro i
     by_cases hi:i < ops.size
     ·simp [hi,List.getD,List.getElem?_eq_getElem (by omega:i < wV.length)]
     ·simp [hi,List.getElem?_eq_none (by omega:wV.length≤i)]
    refine YC (C:=C) (ν:=ν) wV SU (fun i τ o h1 h2=>i2 i τ o h1 (by simpa using h2)) pW.gL hQ ops.size (List.range ops.size) _ st.gL a _ S μ (by simp) List.pairwise_lt_range (by simp) (fun i=>?_) (by rw [aaf]; exact i3) (by rw [aaf]; exact hfa) ?_ (fun m o hm hl=>?_) hw'
    ·simp only [List.mem_range]
     refine ⟨fun hi=>⟨hi,by simp [Array.getD,hi]⟩,fun hi=>hi.1⟩
    ·rw [aaf]
     have afw:SS ops wV=true:=SU
     simp only [SS,Bool.and_eq_true] at afw
     exact afw.1.2
    ·exfalso
     have Bt:m < ops.size:=(Array.getElem?_eq_some_iff.1 hm).1
     simp [Array.getD,Bt] at hl
 ·cases h
end
def Cx.TD (C:Cx) (q:Nat):Prop:=C.T0 q∨({ target:=.collected q,args:=#[] }:Deferred)∈C.dl
def Q5 (C:Cx) (res:AV) (c6:List (Nat × bP)) (e:Ending) (w':World):Prop:=∃ v S' μ',e=.returned v∧Tj C.w0 C.S0 C.TD res c6 v S' μ' w'
structure Goal where
 P:Program
 T:List (Nat × TI)
 nt:Nat
 f:FuncId
 fn:Func
 res:AV
 c6:List (Nat × bP)
 md:Nat
 pr:List Nat
 tm:Array Value
 Z:Cx→Frame→List Frame→Machine→Prop
 zs:∀ C b cs m m',Steps P m m'→Z C b cs m'→Z C b cs m
def Goal.kept (g:Goal) (t:Array Value):Prop:=∀ u,u∈g.pr→t.getD u undef=g.tm.getD u undef
def TL (g:Goal) (C:Cx) (todo:List Item) (a:Act) (w:World):Prop :=
 ∀ (b:Frame) (cs:List Frame),b.fn=g.f→b.kind=.normal→(b.roundOf=none↔g.md≠1)→g.Z C b cs (lone (b.atR a todo) cs w)
def G (g:Goal) (todo:List Item) (st:St):Prop:=∀ C:Cx,C.P=g.P→C.nt=g.nt→∀ a w,g.kept a.tmps→kW C st a w→TL g C todo a w
def NV (st st':St):Prop:=∀ C a w,kW C st a w→kW C st' a w
def uK (l:List Nat) (ops:Array Oper):Bool:=l.all fun t=>ops.toList.all fun o=>match o.dst with | some d=>!Nat.beq d t | none=>true
def Jg (md:Nat) (pr:List Nat) (ops:Array Oper):Bool:=uK pr ops&&(!Nat.beq md 1||na ops)
section
variable {g : Goal} {k : List Item} {st st' : St}
theorem TL.step {C:Cx} {todo Lr:List Item} {a a':Act} {w w':World} (h:∀ (b:Frame) (cs:List Frame),Steps g.P (lone (b.atR a todo) cs w) (lone (b.atR a' Lr) cs w')) (hr:TL g C Lr a' w'):TL g C todo a w :=
 fun b cs h1 h2 h3=>g.zs C b cs _ _ (h b cs) (hr b cs h1 h2 h3)
theorem G.le (h:NV st st') (hg:G g k st'):G g k st:=fun C h1 h2 a w hk hs=>hg C h1 h2 a w hk (h C a w hs)
theorem G.seq {x y:Code} (h:G g (.code x :: .code y :: k) st):G g (.code (.seq x y) :: k) st:=fun C h1 h2 a w hk hs=>(h C h1 h2 a w hk hs).step fun _ _=>.one stepR_seq
theorem G.skip (h:G g k st):G g (.code .skip :: k) st:=fun C h1 h2 a w hk hs=>(h C h1 h2 a w hk hs).step fun _ _=>.one stepR_skip
theorem G.label {l:Nat} (h:G g k st):G g (.code (.label l) :: k) st:=fun C h1 h2 a w hk hs=>(h C h1 h2 a w hk hs).step fun _ _=>.one stepR_label
theorem G.block {id:Nat} {c:Code} (h:G g (.code c :: .inBlock id :: k) st):G g (.code (.block id c) :: k) st:=fun C h1 h2 a w hk hs=>(h C h1 h2 a w hk hs).step fun _ _=>.one stepR_block
theorem G.inBlock {id:Nat} (h:G g k st):G g (.inBlock id :: k) st:=fun C h1 h2 a w hk hs=>(h C h1 h2 a w hk hs).step fun _ _=>.one stepR_inBlock
theorem G.inLoop {c:Code} (h:G g (.code c :: .inLoop c :: k) st):G g (.inLoop c :: k) st:=fun C h1 h2 a w hk hs=>(h C h1 h2 a w hk hs).step fun _ _=>.one stepR_inLoop
theorem G.exit {id:Nat} {k':List Item} (he:exitTo id k=some k') (h:G g k' st):G g (.code (.exit id) :: k) st:=fun C h1 h2 a w hk hs=>(h C h1 h2 a w hk hs).step fun _ _=>.one (stepR_exit he)
theorem G.cond {c:Nat} {x y:Code} {e:Bool} (hc:St.get st.sl c=.d (.v (.bool e))) (ht:e=true→G g (.code x :: k) st) (hf:e=false→G g (.code y :: k) st):G g (.code (.cond (.tmp c) x y) :: k) st:=by
 intro C h1 h2 a w hk hs
 obtain ⟨S,μ,dy⟩:=hs
 have hr:=(dy fun _=>false).fa c
 simp only [St.gL,hc] at hr
 have he:a.eval (.tmp c)=.bool e:=pE hr
 cases e with
 | true=>exact (ht rfl C h1 h2 a w hk ⟨S,μ,dy⟩).step fun _ _=>.one (by simpa using stepR_cond (x:=x) (y:=y) he)
 | false=>exact (hf rfl C h1 h2 a w hk ⟨S,μ,dy⟩).step fun _ _=>.one (by simpa using stepR_cond (x:=x) (y:=y) he)
theorem G.afx {x y:Code} {e:Bool} (h:G g (.code (bif e then x else y) :: k) st):G g (.code (.cond (.const (.bool e)) x y) :: k) st:=by
 intro C h1 h2 a w hk hs
 have he:a.eval (.const (.bool e))=.bool e:=rfl
 cases e with
 | true=>exact (h C h1 h2 a w hk hs).step fun _ _=>.one (by simpa using stepR_cond (x:=x) (y:=y) he)
 | false=>exact (h C h1 h2 a w hk hs).step fun _ _=>.one (by simpa using stepR_cond (x:=x) (y:=y) he)
theorem Goal.afy {ops:Array Oper} (h:Jg g.md g.pr ops=true):TH ops g.kept:=by
 intro i o a v ho hk u hu
 unfold Jg at h
 simp only [Bool.and_eq_true,uK,List.all_eq_true] at h
 have h1:=h.1 u hu o (by obtain ⟨hi,rfl⟩:=Array.getElem?_eq_some_iff.1 ho; simp)
 rw [← hk u hu]
 cases hd:o.dst with
 | none=>rfl
 | some d =>
  rw [hd] at h1
  exact dw _ _ _ _ (fun e=>by subst e; simp at h1)
theorem G.ops (hm:g.P.follows .mixedOrders=true) {C:Cx} {id:Nat} {ops:Array Oper} {draw:Bool} {a:Act} {w:World} {Q:Act→World→Prop} (hr:Jg g.md g.pr ops=true) (ha:g.kept a.tmps)
  (h:(draw=false∧wpOps g.P ops (fun e a' w'=>e=.normal∧Q a' w') (List.range ops.size) a w)∨(draw=true∧wpAny g.P .any ops (fun e a' w'=>e=.normal∧Q a' w') ops.size (Array.replicate ops.size false) a { w with drawn:=w.drawn+1 }))
  (hg:∀ a' w',g.kept a'.tmps→Q a' w'→TL g C k a' w'):TL g C (.code (.region id ops draw) :: k) a w:=by
 intro b cs h1 h2 h3
 obtain ⟨a',w',q1,q2,q3⟩:=ad3 (id:=id) hm (Goal.afy hr) (fun e a w h=>h.1) ha h b (by
  by_cases hp:g.md=1
  ·unfold Jg at hr; simp only [Bool.and_eq_true,hp] at hr; exact .inr (by simpa using hr.2)
  ·exact .inl (h3.2 hp)) k cs
 exact g.zs C b cs _ _ q3 (hg a' w' q2 q1.2 b cs h1 h2 h3)
theorem G.region (hT:pk g.P g.T) (hm:g.P.follows .mixedOrders=true) {id:Nat} {ops:Array Oper} {draw:Bool} {keep:Option (List Nat)} {kX:List C0} {ob:Ob} (hr:Jg g.md g.pr ops=true) (h:rz g.P g.T g.nt ops draw keep st kX=some (st',ob)) (cD:ob.den) (hg:G g k st'):G g (.code (.region id ops draw) :: k) st:=by
 intro C h1 h2 a w hk hs
 have hw:=Ej (C:=C) (T:=g.T) (by rw [h1]; exact hT) (by rw [h1]; exact hm) (by rw [h1,h2]; exact h) cD hs
 rw [h1] at hw
 exact G.ops hm hr hk hw (fun a' w' gZ yJ=>hg C h1 h2 a' w' gZ yJ)
theorem G.loop {ι:Type} (I:ι→St) (m:ι→Nat) {c:Code} (i0:ι) (h0:NV st (I i0)) (hr:∀ i,(∀ j,m j < m i→G g (.inLoop c :: k) (I j))→G g (.code c :: .inLoop c :: k) (I i)):G g (.code (.loop c) :: k) st:=by
 have key:∀ n i,m i=n→G g (.code c :: .inLoop c :: k) (I i):=by
  intro n
  induction n using Nat.strongRecOn with
  | _ n ih =>
   intro i hi
   exact hr i (fun j hj=>.inLoop (ih (m j) (hi ▸ hj) j rfl))
 intro C h1 h2 a w hk hs
 exact (key _ i0 rfl C h1 h2 a w hk (h0 C a w hs)).step fun _ _=>.one stepR_loop
end
def xj (T:List (Nat × TI)) (st:St):List ResultVar→Option (List AV × List (Nat × bP) × Ob)
 | []=>some ([],[],.tt)
 | .tmp t :: r=>(match xj T st r with | some (l,ro,ob)=>some (St.get st.sl t :: l,ro,ob) | none=>none)
 | .cell t ty :: r=>(match look T ty,rr st.lb (St.get st.sl t),xj T st r with
  | some i,some (cs,ro1,Dv),some (l,ro,ob)=>(match KU i cs with | some v=>some (v :: l,ro1++ro,Dv.and ob) | none=>none)
  | _,_,_=>none)
section
variable {C : Cx} {a : Act} {w : World} {S : Nat → Prop} {μ : Mu} {ν : Nat → Bool}
def aaD:List Value→Value
 | [v]=>v
 | l=>.tuple l.toArray
def GY (tmps:Array Value):ResultVar→Sem Value
 | .tmp t=>pure (tmps.getD t undef)
 | .cell a t=>do loadVar t (← asAddr (tmps.getD a undef))
theorem sJ {T:List (Nat × TI)} (hT:pk C.P T) {st:St} (hs:dG C st.gL a w S μ ν):∀ {rs:List ResultVar} {l:List AV} {ro:List (Nat × bP)} {ob:Ob},xj T st rs=some (l,ro,ob)→ob.den→∃ vs,(rs.mapM (GY a.tmps)).run C.P w=.ok vs w∧eo w S μ ν l vs
 | [],l,ro,ob,h,_=>by
  simp only [xj,Option.some.injEq,Prod.mk.injEq] at h
  obtain ⟨rfl,-,-⟩:=h
  exact ⟨[],by simp,rfl,fun i hi=>absurd hi (by simp)⟩
 | .tmp t :: r,l,ro,ob,h,cD=>by
  simp only [xj] at h
  split at h
  ·rename_i l' PN E2 hr
   simp only [Option.some.injEq,Prod.mk.injEq] at h
   obtain ⟨rfl,rfl,rfl⟩:=h
   obtain ⟨vs,h1,h2⟩:=sJ hT hs hr cD
   refine ⟨a.tmps.getD t undef :: vs,by simp [List.mapM_cons,GY,h1],by simp [h2.1],fun i hi=>?_⟩
   cases i with
   | zero =>
    have:=hs.fa t
    simp only [St.gL] at this
    simpa using this
   | succ i=>simpa using h2.2 i (by simpa using hi)
  ·cases h
 | .cell t ty :: r,l,ro,ob,h,cD=>by
  simp only [xj] at h
  split at h
  ·rename_i i cs ro1 Dv l' PN E2 hi hc hr
   split at h
   ·rename_i v hv
    simp only [Option.some.injEq,Prod.mk.injEq] at h
    obtain ⟨rfl,rfl,rfl⟩:=h
    obtain ⟨vs,h1,h2⟩:=sJ hT hs hr (Ob.da cD).2
    have VT:=Ir hc hs (fun p hp=>IA hc p hp) (Ob.da cD).1 (hs.fa t)
    obtain ⟨b,o,hp,QZ⟩:=VT
    obtain ⟨u,h3,h4⟩:=PJ (P:=C.P) (hT _ _ hi) hv (⟨b,o,hp,QZ⟩:QL w S μ ν cs _)
    have h5:(GY a.tmps (.cell t ty)).run C.P w=.ok u w:=by
     rw [hp] at h3
     simp only [GY,hp,asAddr,Sem.run_bind,Sem.run_pure,Result.andThen_ok]
     simpa [Instr.loadAt,Instr.sureAddr] using h3
    refine ⟨u :: vs,by simp [List.mapM_cons,h5,h1],by simp [h2.1],fun i hi=>?_⟩
    cases i with
    | zero=>simpa using h4
    | succ i=>simpa using h2.2 i (by simpa using hi)
   ·cases h
  ·cases h
theorem Wd (fn:Func) (tmps:Array Value):results fn tmps=(do let vs ← fn.results.mapM (GY tmps); pure (if h:vs.size=1 then vs[0] else .tuple vs):Sem Value):=by
 unfold results
 congr 2
theorem xk {fn:Func} {vs:List Value} (h:(fn.results.toList.mapM (GY a.tmps)).run C.P w=.ok vs w):(results fn a.tmps).run C.P w=.ok (aaD vs) w:=by
 rw [Wd,Array.mapM_eq_mapM_toList]
 simp only [Sem.run_bind,Sem.run_map,h,Result.andThen_ok,Sem.run_pure]
 congr 1
 clear h
 match vs with
 | []=>rfl
 | [v]=>rfl
 | _ :: _ :: _=>rfl
end
def uX (x y:AV):Prop:=∀ w S μ ν v,Rel w S μ ν x v→Rel w S μ ν y v
theorem uX.rfl' {x:AV}:uX x x:=fun _ _ _ _ _ h=>h
theorem uX.d {x y:D} (h:ue x y):uX (.d x) (.d y):=fun w S _ _ v hr=>.d (h w S v (jX.1 hr))
def tI:List AV→AV
 | [x]=>x
 | l=>.fD l
theorem GZ {w:World} {S:Nat→Prop} {μ:Mu} {ν:Nat→Bool} {l:List AV} {vs:List Value} (h:eo w S μ ν l vs):Rel w S μ ν (tI l) (aaD vs):=by
 match l,vs,h with
 | [x],[v],h=>simpa [tI,aaD] using h.2 0 (by simp)
 | [],[],h=>exact .fD rfl (fun i hi=>absurd hi (by simp))
 | x :: y :: r,u :: v :: s,h=>exact .fD (by simpa using h.1) (fun i hi=>by rw [cZ]; simpa using h.2 i hi)
 | [],_ :: _,h=>have:=h.1; simp at this
 | [_],[],h=>have:=h.1; simp at this
 | [_],_ :: _ :: _,h=>have:=h.1; simp at this
 | _ :: _ :: _,[],h=>have:=h.1; simp at this
 | _ :: _ :: _,[_],h=>have:=h.1; simp at this
theorem Ek {P:Program} {cs:List Frame}:∀ (l:List Deferred) (fr:Frame) (w:World),fr.mode=.returning→fr.defers=l→l.Nodup→(∀ d,d∈l→∃ q,d = { target:=.collected q,args:=#[] }∧w.heap[q]? = some (.deferred (some []))) →
  ∃ w',Steps P (lone fr cs w) (lone { fr with defers:=[] } cs w')∧Kept w w' (fun q=>({ target:=.collected q,args:=#[] }:Deferred)∈l)
 | [],fr,w,_,hd,_,_=>⟨w,by rw [show ({ fr with defers:=[] }:Frame)=fr by rw [← hd]]; exact .refl _ _,Kept.refl _ _⟩
 | d :: l,fr,w,hm,hd,hnd,hl=>by
  obtain ⟨q,rfl,hq⟩:=hl d (by simp)
  have h1:=step_collected (P:=P) (cs:=cs) (d:={ target:=.collected q,args:=#[] }) (by rw [hm]; simp) hd rfl (run_takeDeferred hq)
  have hk:Kept w (w.putObj q (.deferred none)) (fun b=>b=q):=⟨rfl,rfl,rfl,by simp [World.putObj],fun b _ hb=>World.putObj_heap_other hb⟩
  obtain ⟨w',h2,h3⟩:=Ek l { fr with defers:=[]++l } (w.putObj q (.deferred none)) hm rfl (List.nodup_cons.1 hnd).2 (fun d hd'=>by
   obtain ⟨p,rfl,hp⟩:=hl d (by simp [hd'])
   refine ⟨p,rfl,?_⟩
   have vG:p≠q:=fun e=>(List.nodup_cons.1 hnd).1 (e ▸ hd')
   rw [World.putObj_heap_other vG]; exact hp)
  refine ⟨w',.head h1 h2,(hk.Bv (fun b hb=>by subst hb; simp)).trans h3 (fun b _ hb=>by simp [hb])⟩
def Cx.shut (C:Cx):Cx:={ C with T0:=C.TD,dis:=fun b hb h=>h.elim (C.dis b hb) (fun h=>(by obtain ⟨q,e,_,_,hq⟩:=C.dok _ h; cases e; exact hq hb)),dl:=[],dok:=fun d h=>(by cases h),dnd:=List.nodup_nil }
theorem eH.tJ {w:World} {S:Nat→Prop} {μ:Mu} {b:bP} {g cap:Nat} {o:Option (List Deferred)} (h:eH w S μ b g cap):w.heap[g]?≠some (.deferred o):=by
 cases b with
 | box cs=>obtain ⟨cur,e,hg,_⟩:=h; rw [hg]; simp
 | row e k n f=>obtain ⟨cur,hg,_⟩:=h; rw [hg]; simp
 | mp n f=>obtain ⟨cur,hg,_⟩:=h; rw [hg]; simp
 | it mk n seen=>obtain ⟨mg,c,_,hg,_⟩:=h; rw [hg]; simp
 | mx=>obtain ⟨m,cur,hg,_⟩:=h; rw [hg]; simp
theorem dG.Y4 {C:Cx} {A:M} {a:Act} {w:World} {S:Nat→Prop} {μ:Mu} {ν:Nat→Bool} (h:dG C A a w S μ ν):∀ d,d∈C.dl→∃ q,d = { target:=.collected q,args:=#[] }∧w.heap[q]? = some (.deferred (some []))∧¬ S q:=by
 intro d hd
 obtain ⟨q,e,h1,h2,h3⟩:=C.dok d hd
 have gI:=(Array.getElem?_eq_some_iff.1 h1).1
 refine ⟨q,e,(h.kept.block q gI h2).trans h1,fun hs=>?_⟩
 rcases h.fresh q hs with h4 | h4 | h4
 ·exact h3 h4
 ·omega
 ·exact h2 h4
theorem dG.shut {C:Cx} {A:M} {a:Act} {w w':World} {S:Nat→Prop} {μ:Mu} {ν:Nat→Bool} (h:dG C A a w S μ ν) (hk:Kept w w' (fun q=>({ target:=.collected q,args:=#[] }:Deferred)∈C.dl)):dG C.shut A { a with defers:=[] } w' S μ ν:=by
 have hw:∀ b,S b→w'.heap[b]? = w.heap[b]?:=fun b hb=>hk.block b (h.bound b hb) (fun hd=>by
  obtain ⟨q,e,_,hq⟩:=h.Y4 _ hd
  cases e
  exact hq hb)
 refine ⟨h.tmps,rfl,fun t=>(h.fa t).mono (fun _ x=>x) hw (fun _ _ e=>e),fun κ b hb=>?_,h.inj,fun κ b g c h1 h2=>?_,h.fU,fun b hb=>?_,fun b hb=>Nat.lt_of_lt_of_le (h.bound b hb) hk.size,?_⟩
 ·have hm:=h.mem κ b hb
  refine hm.mono (fun _ x=>x) hw (fun _ _ e=>e) (fun g c e=>?_)
  rw [e] at hm
  refine ⟨hk.block g hm.at.lt (fun hd=>?_),hm.at.not⟩
  obtain ⟨q,e',hq,_⟩:=h.Y4 _ hd
  cases e'
  exact hm.at.tJ hq
 ·rcases h.own κ b g c h1 h2 with q | q
  ·exact .inl q
  ·exact .inr (.inl q)
 ·rcases h.fresh b hb with q | q | q
  ·exact .inl q
  ·exact .inr (.inl q)
  ·exact .inr (.inr (.inl q))
 ·exact (h.kept.Bv (fun _ x=>.inl x)).trans hk (fun b _ hb=>.inr hb)
structure Goal.Nrm (g:Goal):Prop where
 md:g.md=0
 fin:∀ C b cs m,(∃ e w' fr,Q5 C g.res g.c6 e w'∧Comes g.P m (lone fr cs w') e∧fr.fn=g.f∧fr.leaving g.P w' e)→g.Z C b cs m
theorem Goal.Nrm.out {g:Goal} (hg:g.Nrm) (hf:g.P.funcs[g.f]? = some g.fn) {C:Cx} (h1:C.P=g.P) {st:St} {a:Act} {w:World} (hs:kW C st a w) (hp:∀ w',kW C.shut st { a with defers:=[] } w'→∃ v,(results g.fn a.tmps).run C.P w'=.ok v w'∧Q5 C.shut g.res g.c6 (.returned v) w')
  {todo:List Item} (lX:∀ (b:Frame) (cs:List Frame),b.roundOf=none→Steps g.P (lone (b.atR a todo) cs w) (lone { b.atR a todo with mode:=.returning } cs w)):TL g C todo a w:=by
 intro b cs XM GK Z0
 refine hg.fin C b cs _ ?_
 obtain ⟨S,μ,dy⟩:=hs
 have h0:=dy fun _=>false
 have hrd:=Z0.2 (by rw [hg.md]; decide)
 obtain ⟨w',q1,q2⟩:=Ek (P:=g.P) (cs:=cs) C.dl { b.atR a todo with mode:=.returning } w rfl h0.defers C.dnd (fun d hd=>let ⟨q,e,h,_⟩:=h0.Y4 d hd; ⟨q,e,h⟩)
 obtain ⟨v,r1,r2⟩:=hp w' ⟨S,μ,fun ν=>(dy ν).shut q2⟩
 obtain ⟨v',S',μ',e,B⟩:=r2
 refine ⟨.returned v,w',_,⟨v',S',μ',e,B.Tk (fun q hq=>?_)⟩,Steps.trans (lX b cs hrd) q1,XM,rfl,rfl,GK,g.fn,?_,?_⟩
 ·rcases hq with hq | hq
  ·exact hq
  ·cases hq
 ·show g.P.funcs[b.fn]? = _
  rw [XM]; exact hf
 ·rw [← h1]; exact r1
def TM (C:Cx) (res:AV) (c6:List (Nat × bP)) (jY:List (Nat × Nat)) (tm:Array Value) (e:Ending) (w':World):Prop:=∃ v S' μ',e=.returned v∧Tj C.w0 C.S0 C.TD res c6 v S' μ' w'∧∀ p,p∈jY→∀ ν,Rel w' S' μ' ν (.ptr p.2 0) (tm.getD p.1 undef)
structure Goal.TN (g:Goal) (jY:List (Nat × Nat)):Prop where
 md:g.md=3
 pr:∀ p,p∈jY→p.1∈g.pr
 fin:∀ C b cs m,(∃ e w' fr,TM C g.res g.c6 jY g.tm e w'∧Comes g.P m (lone fr cs w') e∧fr.fn=g.f∧fr.leaving g.P w' e)→g.Z C b cs m
theorem Goal.TN.out {g:Goal} {jY:List (Nat × Nat)} (hg:g.TN jY) (hf:g.P.funcs[g.f]? = some g.fn) {C:Cx} (h1:C.P=g.P) {st:St} {a:Act} {w:World} (hs:kW C st a w) (hp:∀ w',kW C.shut st { a with defers:=[] } w'→∃ v,(results g.fn a.tmps).run C.P w'=.ok v w'∧TM C.shut g.res g.c6 jY g.tm (.returned v) w')
  {todo:List Item} (lX:∀ (b:Frame) (cs:List Frame),b.roundOf=none→Steps g.P (lone (b.atR a todo) cs w) (lone { b.atR a todo with mode:=.returning } cs w)):TL g C todo a w:=by
 intro b cs XM GK Z0
 refine hg.fin C b cs _ ?_
 obtain ⟨S,μ,dy⟩:=hs
 have h0:=dy fun _=>false
 have hrd:=Z0.2 (by rw [hg.md]; decide)
 obtain ⟨w',q1,q2⟩:=Ek (P:=g.P) (cs:=cs) C.dl { b.atR a todo with mode:=.returning } w rfl h0.defers C.dnd (fun d hd=>let ⟨q,e,h,_⟩:=h0.Y4 d hd; ⟨q,e,h⟩)
 obtain ⟨v,r1,r2⟩:=hp w' ⟨S,μ,fun ν=>(dy ν).shut q2⟩
 obtain ⟨v',S',μ',e,B,ha⟩:=r2
 refine ⟨.returned v,w',_,⟨v',S',μ',e,B.Tk (fun q hq=>?_),ha⟩,Steps.trans (lX b cs hrd) q1,XM,rfl,rfl,GK,g.fn,?_,?_⟩
 ·rcases hq with hq | hq
  ·exact hq
  ·cases hq
 ·show g.P.funcs[b.fn]? = _
  rw [XM]; exact hf
 ·rw [← h1]; exact r1
theorem G.ahh {g:Goal} {st:St} {jY:List (Nat × Nat)} (hg:g.TN jY) (hf:g.P.funcs[g.f]? = some g.fn) (hp:∀ (C:Cx) (a:Act) (w:World),C.P=g.P→g.kept a.tmps→kW C st a w→∃ v,(results g.fn a.tmps).run C.P w=.ok v w∧TM C g.res g.c6 jY g.tm (.returned v) w):G g [] st∧∀ k,G g (.code .ret :: k) st :=
 ⟨fun C h1 _ a w hk hs=>hg.out hf h1 hs (fun w' yJ=>hp C.shut { a with defers:=[] } w' h1 hk yJ) (fun b cs hb=>.one (stepR_end hb)),
  fun k C h1 _ a w hk hs=>hg.out hf h1 hs (fun w' yJ=>hp C.shut { a with defers:=[] } w' h1 hk yJ) (fun b cs hb=>.one (stepR_ret hb))⟩
section
variable {g : Goal} {k : List Item} {st : St}
theorem Y5 {C:Cx} {a:Act} {w:World} (hs:kW C st a w) (hT:pk C.P g.T) (hl:g.c6=[]) {l l':List AV} {ro PN:List (Nat × bP)} {ob E2:Ob} (h:xj g.T st g.fn.results.toList=some (l,ro,ob)) (cD:ob.den) (hb:yM st.lb l=some (l',PN,E2)) (Ll:E2.den) (hle:uX (tI l') g.res) :
  ∃ v,(results g.fn a.tmps).run C.P w=.ok v w∧Q5 C g.res g.c6 (.returned v) w:=by
 obtain ⟨S,μ,dy⟩:=hs
 have h0:=dy fun _=>false
 obtain ⟨vs,h1,h2⟩:=sJ hT h0 h cD
 refine ⟨_,xk h1,?_⟩
 have h3:∀ μ' ν',eo w (fun b=>b < w.heap.size∧(C.S0 b∨C.w0.heap.size≤b∨C.T0 b)) μ' ν' l' vs:=fun μ' ν' =>
  GU h0 (fun b hb=>⟨h0.bound b hb,h0.fresh b hb⟩) (fun κ b q c h1 h2=>⟨by have:=h0.mem κ b h1; rw [h2] at this; exact this.at.lt,.inr (h0.own κ b q c h1 h2)⟩) μ' ν' hb (fun p hp=>Ln hb p hp) Ll h2
 refine ⟨_,fun b=>b < w.heap.size∧(C.S0 b∨C.w0.heap.size≤b∨C.T0 b),fun _=>none,rfl,?_⟩
 rw [hl]
 exact ⟨fun ν'=>hle _ _ _ _ _ (GZ (h3 _ ν')),fun κ b hk=>by simp [look] at hk,fun κ κ' b b' q c c' hk=>by simp [look] at hk,fun κ b q c hk=>by simp [look] at hk,
  fun b hb=>⟨Nat.lt_of_lt_of_le (h0.bound b (h0.fU b hb)) (Nat.le_refl _),.inl hb⟩,fun b hb=>hb.2.imp id (Or.imp id .inl),fun b hb=>hb.1,h0.kept.Bv fun _ h=>.inl h⟩
theorem G.out (hg:g.Nrm) (hf:g.P.funcs[g.f]? = some g.fn) (hp:∀ (C:Cx) (a:Act) (w:World),C.P=g.P→kW C st a w→∃ v,(results g.fn a.tmps).run C.P w=.ok v w∧Q5 C g.res g.c6 (.returned v) w):G g [] st∧∀ k,G g (.code .ret :: k) st :=
 ⟨fun C h1 _ a w _ hs=>hg.out hf h1 hs (fun w' yJ=>hp C.shut { a with defers:=[] } w' h1 yJ) (fun b cs hb=>.one (stepR_end hb)),
  fun k C h1 _ a w _ hs=>hg.out hf h1 hs (fun w' yJ=>hp C.shut { a with defers:=[] } w' h1 yJ) (fun b cs hb=>.one (stepR_ret hb))⟩
theorem G.ret (hg:g.Nrm) (hT:pk g.P g.T) (hf:g.P.funcs[g.f]? = some g.fn) (hl:g.c6=[]) {l l':List AV} {ro PN:List (Nat × bP)} {ob E2:Ob} (h:xj g.T st g.fn.results.toList=some (l,ro,ob)) (cD:ob.den) (hb:yM st.lb l=some (l',PN,E2)) (Ll:E2.den) (hle:uX (tI l') g.res):G g [] st∧∀ k,G g (.code .ret :: k) st :=
 G.out hg hf (fun C a w h1 hs=>Y5 (g:=g) hs (by rw [h1]; exact hT) hl h cD hb Ll hle)
end
def dJ:Nat→List AV→List (Nat × AV)
 | _,[]=>[]
 | n,x :: r=>(n,x) :: dJ (n+1) r
theorem s7:∀ (l:List AV) (n t:Nat),look (dJ n l) t=if n≤t then l[t - n]? else none
 | [],n,t=>by simp [dJ,look]
 | x :: r,n,t=>by
  simp only [dJ,ca,s7 r (n+1) t]
  by_cases h:n=t
  ·subst h; simp
  ·simp only [h,if_false]
   by_cases h1:n+1≤t
   ·rw [if_pos h1,if_pos (by omega),show t - n=t - (n+1)+1 by omega]
    simp
   ·rw [if_neg h1,if_neg (by omega)]
def ZN (P:Program) (f:FuncId) (res:AV) (c6:List (Nat × bP)) (C:Cx) (_:Frame) (cs:List Frame) (m:Machine):Prop :=
 ∃ e w' fr,Q5 C res c6 e w'∧Comes P m (lone fr cs w') e∧fr.fn=f∧fr.leaving P w' e
def Goal.of (P:Program) (T:List (Nat × TI)) (nt:Nat) (f:FuncId) (fn:Func) (res:AV) (c6:List (Nat × bP)):Goal :=
 ⟨P,T,nt,f,fn,res,c6,0,[],#[],ZN P f res c6,fun _ _ _ _ _ hs ⟨e,w',fr,q1,q2,q3⟩=>⟨e,w',fr,q1,.of_steps hs q2,q3⟩⟩
theorem Goal.aaE {P:Program} {T:List (Nat × TI)} {nt:Nat} {f:FuncId} {fn:Func} {res:AV} {c6:List (Nat × bP)}:(Goal.of P T nt f fn res c6).Nrm:=⟨rfl,fun _ _ _ _ h=>h⟩
theorem gR.intro {P:Program} {T:List (Nat × TI)} {f:FuncId} {fn:Func} {body:Code} {args:List AV} {c6:List (Nat × bP)} {res:AV} {gS:List (Nat × bP)} (hf:P.funcs[f]? = some fn) (hb:fn.body=some body) (hc:ga P f=true) (hn:args.length≤fn.ntmps)
  (h:G (.of P T fn.ntmps f fn res gS) [.code body] ⟨dJ 0 args,c6⟩):gR P f args c6 res gS:=by
 refine ⟨hc,fun w S μ vs hS YL lr hm hi cs=>?_⟩
 let C:Cx:=⟨P,w,S,Handed c6 μ,fn.ntmps,YL,fun b hb ⟨κ,bk,c,q1,q2⟩=>by
  have:=hm κ bk q1
  rw [q2] at this
  exact this.at.not hb,hS,[],fun d h=>(by cases h),List.nodup_nil⟩
 let b:Frame:={ (default:Frame) with fn:=f,kind:=.normal,roundOf:=none }
 have hl:vs.size=args.length:=by have:=(lr fun _=>false).1; simpa using this
 have Ls:Frame.enter P f vs .normal=b.atR { tmps:=vs++Array.replicate (fn.ntmps - vs.size) undef,defers:=[] } [.code body]:=by
  simp [Frame.enter,Frame.atR,hf,hb,b]
 have dy:kW C ⟨dJ 0 args,c6⟩ { tmps:=vs++Array.replicate (fn.ntmps - vs.size) undef,defers:=[] } w:=by
  refine ⟨S,μ,fun ν=>⟨by simp [C]; omega,rfl,fun t=>?_,hm,hi,fun κ bk q c h1 h2=>.inr ⟨κ,bk,c,h1,h2⟩,fun _ hb=>hb,fun _ hb=>.inl hb,hS,Kept.refl _ _⟩⟩
  simp only [St.gL,St.get,s7,Nat.zero_le,if_true,Nat.sub_zero]
  by_cases ht:t < args.length
  ·rw [List.getElem?_eq_getElem ht]
   have h2:=(lr ν).2 t ht
   rw [show args.getD t default=args[t] from by simp [List.getD,ht]] at h2
   have e:(vs++Array.replicate (fn.ntmps - vs.size) undef).getD t undef=vs.toList.getD t undef:=by
    rw [← cZ]
    simp only [Array.getD_eq_getD_getElem?]
    rw [Array.getElem?_append_left (by omega)]
   rw [e]
   exact h2
  ·rw [List.getElem?_eq_none (by omega)]
   exact .any _
 obtain ⟨e,w',fr,⟨v,S',μ',e1,B⟩,q2,q3,q4⟩:=h C rfl rfl _ _ (fun u hu=>by cases hu) dy b cs rfl rfl ⟨fun _ h=>(by cases h),fun _=>rfl⟩
 exact ⟨e,w',fr,⟨v,S',μ',e1,B.Tk (fun q hq=>hq.elim id (fun h=>by cases h))⟩,by rw [Ls]; exact q2,q3,q4⟩
def ZB (P:Program) (f:FuncId) (res:AV) (c6:List (Nat × bP)) (jY:List (Nat × Nat)) (tm:Array Value) (C:Cx) (_:Frame) (cs:List Frame) (m:Machine):Prop :=
 ∃ e w' fr,TM C res c6 jY tm e w'∧Comes P m (lone fr cs w') e∧fr.fn=f∧fr.leaving P w' e
def Goal.ofB (P:Program) (T:List (Nat × TI)) (nt:Nat) (f:FuncId) (fn:Func) (res:AV) (c6:List (Nat × bP)) (jY:List (Nat × Nat)) (tm:Array Value):Goal :=
 ⟨P,T,nt,f,fn,res,c6,3,jY.map (·.1),tm,ZB P f res c6 jY tm,fun _ _ _ _ _ hs ⟨e,w',fr,q1,q2,q3⟩=>⟨e,w',fr,q1,.of_steps hs q2,q3⟩⟩
theorem Goal.aci {P:Program} {T:List (Nat × TI)} {nt:Nat} {f:FuncId} {fn:Func} {res:AV} {c6:List (Nat × bP)} {jY:List (Nat × Nat)} {tm:Array Value}:(Goal.ofB P T nt f fn res c6 jY tm).TN jY:=⟨rfl,fun p hp=>List.mem_map.2 ⟨p,hp,rfl⟩,fun _ _ _ _ h=>h⟩
theorem FnB.intro {P:Program} {T:List (Nat × TI)} {f:FuncId} {fn:Func} {body:Code} {args:List AV} {c6:List (Nat × bP)} {res:AV} {gS:List (Nat × bP)} {jY:List (Nat × Nat)} (hf:P.funcs[f]? = some fn) (hb:fn.body=some body) (hc:ga P f=true) (hn:args.length≤fn.ntmps) (adV:∀ p,p∈jY→p.1 < args.length)
  (h:∀ tm,G (.ofB P T fn.ntmps f fn res gS jY tm) [.code body] ⟨dJ 0 args,c6⟩):FnB P f args c6 res gS jY:=by
 refine ⟨hc,fun w S μ vs hS YL lr hm hi cs=>?_⟩
 let C:Cx:=⟨P,w,S,Handed c6 μ,fn.ntmps,YL,fun b hb ⟨κ,bk,c,q1,q2⟩=>by
  have:=hm κ bk q1
  rw [q2] at this
  exact this.at.not hb,hS,[],fun d h=>(by cases h),List.nodup_nil⟩
 let b:Frame:={ (default:Frame) with fn:=f,kind:=.normal,roundOf:=none }
 have hl:vs.size=args.length:=by have:=(lr fun _=>false).1; simpa using this
 have Ls:Frame.enter P f vs .normal=b.atR { tmps:=vs++Array.replicate (fn.ntmps - vs.size) undef,defers:=[] } [.code body]:=by
  simp [Frame.enter,Frame.atR,hf,hb,b]
 have N2:∀ t,t < args.length→(vs++Array.replicate (fn.ntmps - vs.size) undef).getD t undef=vs.toList.getD t undef:=fun t ht=>by
  rw [← cZ]
  simp only [Array.getD_eq_getD_getElem?]
  rw [Array.getElem?_append_left (by omega)]
 have dy:kW C ⟨dJ 0 args,c6⟩ { tmps:=vs++Array.replicate (fn.ntmps - vs.size) undef,defers:=[] } w:=by
  refine ⟨S,μ,fun ν=>⟨by simp [C]; omega,rfl,fun t=>?_,hm,hi,fun κ bk q c h1 h2=>.inr ⟨κ,bk,c,h1,h2⟩,fun _ hb=>hb,fun _ hb=>.inl hb,hS,Kept.refl _ _⟩⟩
  simp only [St.gL,St.get,s7,Nat.zero_le,if_true,Nat.sub_zero]
  by_cases ht:t < args.length
  ·rw [List.getElem?_eq_getElem ht]
   have h2:=(lr ν).2 t ht
   rw [show args.getD t default=args[t] from by simp [List.getD,ht]] at h2
   rw [N2 t ht]
   exact h2
  ·rw [List.getElem?_eq_none (by omega)]
   exact .any _
 obtain ⟨e,w',fr,⟨v,S',μ',e1,B,ha⟩,q2,q3,q4⟩:=h (vs++Array.replicate (fn.ntmps - vs.size) undef) C rfl rfl _ _ (fun u hu=>rfl) dy b cs rfl rfl ⟨fun _ h=>(by cases h),fun _=>rfl⟩
 exact ⟨e,w',fr,⟨v,S',μ',e1,B.Tk (fun q hq=>hq.elim id (fun h=>by cases h)),fun p hp ν=>by rw [← N2 p.1 (adV p hp)]; exact ha p hp ν⟩,by rw [Ls]; exact q2,q3,q4⟩
end Go.Av
