/- Operations as transitions of abstract states; independent ones commute; so one walk of a region in the order of the text serves every order that Go leaves open. -/
import Derived.Test.YtilbddpghnnmhaaGreatDoorAvA
set_option linter.unusedSimpArgs false
set_option linter.unusedVariables false
namespace Go.Av
open Go
set_option linter.unusedSectionVars false
variable [qz]
def look {α:Type}:List (Nat × α)→Nat→Option α
 | [],_=>none
 | (k,x) :: r,t=>bif Nat.beq k t then some x else look r t
theorem vW {α:Type} {l:List (Nat × α)} {t:Nat} {x:α} (h:look l t=some x):(t,x)∈l:=by
 induction l with
 | nil=>simp [look] at h
 | cons p r ih =>
  obtain ⟨k,y⟩:=p
  simp only [look] at h
  cases hb:Nat.beq k t with
  | true =>
   rw [hb] at h
   simp only [cond_true,Option.some.injEq] at h
   have:=Nat.eq_of_beq_eq_true hb
   subst this; subst h
   exact List.mem_cons_self
  | false =>
   rw [hb] at h
   exact List.mem_cons_of_mem _ (ih (by simpa using h))
theorem Ft {α:Type} {l:List (Nat × α)} {t:Nat} (h:t ∉ l.map (·.1)):look l t=none:=by
 induction l with
 | nil=>rfl
 | cons p r ih =>
  obtain ⟨k,y⟩:=p
  simp only [List.map_cons,List.mem_cons,not_or] at h
  have:Nat.beq k t=false:=by
   cases hb:Nat.beq k t with
   | true=>exact absurd (Nat.eq_of_beq_eq_true hb).symm h.1
   | false=>rfl
  simp only [look,this,cond_false]
  exact ih h.2
theorem QG {α:Type} {l:List (Nat × α)} {t:Nat} {x:α} (h:look l t=some x):t∈l.map (·.1):=List.mem_map.2 ⟨_,vW h,rfl⟩
structure Tr where
 need:List (Nat × AV)
 dst:Option Nat
 v:AV
 ro:List (Nat × Blk):=[]
 mem:List (Nat × Blk):=[]
 mem':List (Nat × Blk):=[]
 gs:List (Nat × Bool):=[]
def Tr.wk (τ:Tr):List Nat:=τ.mem.map (·.1)++τ.mem'.map (·.1)
def Tr.created (τ:Tr):List Nat:=(τ.mem'.map (·.1)).filter fun k=>!(τ.mem.map (·.1)).contains k
def Tr.men (τ:Tr):List Nat:=τ.v.keys++τ.mem'.flatMap fun p=>p.1 :: p.2.keys
structure En (τ:Tr) (A:M):Prop where
 need:∀ p,p∈τ.need→A.sl p.1=p.2
 ro:∀ p,p∈τ.ro→A.lb p.1=some p.2
 mem:∀ p,p∈τ.mem→A.lb p.1=some p.2
def Tr.apply (τ:Tr) (A:M):M :=
 {sl:=fun t=>if τ.dst=some t then τ.v else A.sl t
  lb:=fun k=>match look τ.mem' k with | some b=>some b | none=>if k∈τ.mem.map (·.1) then none else A.lb k }
def Tr.indep (τ σ:Tr):Bool :=
 (match τ.dst with | some d=>!(σ.need.map (·.1)).contains d&&σ.dst != some d | none=>true) &&
 (match σ.dst with | some d=>!(τ.need.map (·.1)).contains d | none=>true) &&
 τ.wk.all (fun k=>!(σ.wk++σ.ro.map (·.1)).contains k)&&σ.wk.all (fun k=>!(τ.ro.map (·.1)).contains k) &&
 σ.created.all (fun k=>!τ.men.contains k)&&τ.created.all (fun k=>!σ.men.contains k)
structure zow (τ σ:Tr):Prop where
 a:∀ d,τ.dst=some d→d ∉ σ.need.map (·.1)
 b:∀ d,τ.dst=some d→σ.dst≠some d
 c:∀ d,σ.dst=some d→d ∉ τ.need.map (·.1)
 d:∀ k,k∈τ.wk→k ∉ σ.wk
 e:∀ k,k∈τ.wk→k ∉ σ.ro.map (·.1)
 f:∀ k,k∈σ.wk→k ∉ τ.ro.map (·.1)
 g:∀ k,k∈σ.created→k ∉ τ.men
 h:∀ k,k∈τ.created→k ∉ σ.men
theorem Tr.indep_spec {τ σ:Tr} (h:τ.indep σ=true):zow τ σ:=by
 simp only [Tr.indep,Bool.and_eq_true] at h
 obtain ⟨⟨⟨⟨⟨h1,h2⟩,h3⟩,h4⟩,h5⟩,h6⟩:=h
 simp only [List.all_eq_true,Bool.not_eq_true',List.contains_eq_mem,List.mem_append,decide_eq_false_iff_not,not_or] at h3 h4 h5 h6
 refine ⟨fun d hd=>?_,fun d hd=>?_,fun d hd=>?_,fun k hk=>(h3 k hk).1,fun k hk=>(h3 k hk).2,h4,h5,h6⟩
 ·rw [hd] at h1; simp only [Bool.and_eq_true,Bool.not_eq_true',List.contains_eq_mem,decide_eq_false_iff_not] at h1; exact h1.1
 ·rw [hd] at h1; simp only [Bool.and_eq_true,bne_iff_ne] at h1; exact h1.2
 ·rw [hd] at h2; simpa using h2
theorem zhd {τ:Tr} {k:Nat}:k∈τ.wk↔k∈τ.mem.map (·.1)∨k∈τ.mem'.map (·.1):=by simp [Tr.wk]
theorem Tr.apply_lb {τ:Tr} {A:M} {k:Nat} (h:k ∉ τ.wk):(τ.apply A).lb k=A.lb k:=by
 rw [zhd,not_or] at h
 simp only [Tr.apply,Ft h.2,h.1,if_false]
theorem Tr.apply_sl {τ:Tr} {A:M} {t:Nat} (h:τ.dst≠some t):(τ.apply A).sl t=A.sl t:=by simp [Tr.apply,h]
theorem zrj {τ σ:Tr} {A:M} (hi:zow τ σ) (h1:En τ A) (h2:En σ (τ.apply A)):En σ A∧En τ (σ.apply A)∧σ.apply (τ.apply A)=τ.apply (σ.apply A):=by
 refine ⟨⟨fun p hp=>?_,fun p hp=>?_,fun p hp=>?_⟩,⟨fun p hp=>?_,fun p hp=>?_,fun p hp=>?_⟩,?_⟩
 ·rw [← h2.need p hp,Tr.apply_sl]
  exact fun e=>hi.a p.1 e (List.mem_map.2 ⟨p,hp,rfl⟩)
 ·rw [← h2.ro p hp,Tr.apply_lb]
  exact fun e=>hi.e p.1 e (List.mem_map.2 ⟨p,hp,rfl⟩)
 ·rw [← h2.mem p hp,Tr.apply_lb]
  exact fun e=>hi.d p.1 e (zhd.2 (.inl (List.mem_map.2 ⟨p,hp,rfl⟩)))
 ·rw [← h1.need p hp,Tr.apply_sl]
  exact fun e=>hi.c p.1 e (List.mem_map.2 ⟨p,hp,rfl⟩)
 ·rw [← h1.ro p hp,Tr.apply_lb]
  exact fun e=>hi.f p.1 e (List.mem_map.2 ⟨p,hp,rfl⟩)
 ·rw [← h1.mem p hp,Tr.apply_lb]
  exact fun e=>hi.d p.1 (zhd.2 (.inl (List.mem_map.2 ⟨p,hp,rfl⟩))) e
 ·have e1:(σ.apply (τ.apply A)).sl=(τ.apply (σ.apply A)).sl:=by
   funext t
   simp only [Tr.apply]
   by_cases c1:σ.dst=some t
   ·by_cases c2:τ.dst=some t
    ·exact absurd c1 (hi.b t c2)
    ·simp [c1,c2]
   ·simp [c1]
  have e2:(σ.apply (τ.apply A)).lb=(τ.apply (σ.apply A)).lb:=by
   funext k
   by_cases c1:k∈σ.wk
   ·have c2:k ∉ τ.wk:=fun e=>hi.d k e c1
    rw [Tr.apply_lb (τ:=τ) c2]
    simp only [Tr.apply]
    have c3:=c2
    rw [zhd,not_or] at c3
    simp only [Ft c3.2,c3.1,if_false]
   ·rw [Tr.apply_lb (τ:=σ) c1]
    simp only [Tr.apply]
    have c3:=c1
    rw [zhd,not_or] at c3
    simp only [Ft c3.2,c3.1,if_false]
  show M.mk _ _=M.mk _ _
  rw [show (σ.apply (τ.apply A))=⟨(σ.apply (τ.apply A)).sl,(σ.apply (τ.apply A)).lb⟩ from rfl] at *
  exact congr (congrArg M.mk e1) e2
def zpu:List Tr→M→M→Prop
 | [],A,B=>A=B
 | τ :: L,A,B=>En τ A∧zpu L (τ.apply A) B
theorem zfs {τ:Tr} {l2:List Tr} {B:M}:∀ (l1:List Tr) (A:M),zpu (l1++τ :: l2) A B→(∀ σ,σ∈l1→zow σ τ)→En τ A∧zpu (l1++l2) (τ.apply A) B
 | [],_,h,_=>h
 | σ :: l1,A,h,hi=>by
  obtain ⟨h1,h2⟩:=h
  obtain ⟨h3,h4⟩:=zfs l1 (σ.apply A) h2 (fun x hx=>hi x (List.mem_cons_of_mem _ hx))
  obtain ⟨c1,c2,c3⟩:=zrj (hi σ List.mem_cons_self) h1 h3
  exact ⟨c1,c2,by rw [← c3]; exact h4⟩
theorem uO.apply {A:M} {κ:Nat} {τ:Tr} (h:uO A κ) (hm:κ ∉ τ.men):uO (τ.apply A) κ:=by
 simp only [Tr.men,List.mem_append,List.mem_flatMap,not_or,not_exists,not_and] at hm
 obtain ⟨h1,h2⟩:=hm
 have hk:κ ∉ τ.mem'.map (·.1):=fun e=>by
  obtain ⟨p,hp,rfl⟩:=List.mem_map.1 e
  exact h2 p hp List.mem_cons_self
 refine ⟨fun t=>?_,?_,fun κ' b hb=>?_⟩
 ·simp only [Tr.apply]
  split
  ·exact h1
  ·exact h.sl t
 ·simp only [Tr.apply,Ft hk]
  split
  ·rfl
  ·exact h.lb
 ·simp only [Tr.apply] at hb
  cases hl:look τ.mem' κ' with
  | some b' =>
   rw [hl] at hb
   simp only [Option.some.injEq] at hb
   subst hb
   exact fun e=>h2 (κ',b') (vW hl) (List.mem_cons_of_mem _ e)
  | none =>
   rw [hl] at hb
   simp only at hb
   split at hb
   ·cases hb
   ·exact h.bl κ' b hb
def zeU (C:Cx) (ν:Nat→Bool) (ops:Array Oper) (o:Oper) (τ:Tr):Prop :=
 ∀ A a w S μ,Sim C A a w S μ ν→En τ A→(∀ κ,κ∈τ.created→uO A κ)→(∀ p,p∈τ.gs→ν p.1=p.2) →
  if Region.wanted o (yielded ops a.tmps) then o.wp C.P a w (fun a' w'=>∃ S' μ',Sim C (τ.apply A) a' w' S' μ' ν) (fun _ _ _=>False)
  else ∃ S' μ',Sim C (τ.apply A) (a.put o.dst undef) w S' μ' ν
def zbk (L:List Tr) (A:M):Prop:=∀ τ,τ∈L→∀ κ,κ∈τ.created→uO A κ
def Ho:List Tr→Bool
 | []=>true
 | τ :: L=>L.all (fun σ=>σ.created.all fun k=>!τ.men.contains k)&&Ho L
theorem BD {τ:Tr} {L:List Tr} (h:Ho (τ :: L)=true):(∀ σ,σ∈L→∀ k,k∈σ.created→k ∉ τ.men)∧Ho L=true:=by
 simp only [Ho,Bool.and_eq_true,List.all_eq_true,Bool.not_eq_true',List.contains_eq_mem,decide_eq_false_iff_not] at h
 exact h
theorem zjr {τ:Tr}:∀ {l1 l2:List Tr},Ho (l1++τ :: l2)=true→(∀ σ,σ∈l2→∀ k,k∈σ.created→k ∉ τ.men)∧Ho (l1++l2)=true
 | [],l2,h=>BD h
 | σ :: l1,l2,h=>by
  obtain ⟨h1,h2⟩:=BD h
  obtain ⟨h3,h4⟩:=zjr (l1:=l1) h2
  refine ⟨h3,?_⟩
  simp only [List.cons_append,Ho,Bool.and_eq_true,List.all_eq_true,Bool.not_eq_true',List.contains_eq_mem,decide_eq_false_iff_not]
  refine ⟨fun x hx k hk=>h1 x ?_ k hk,h4⟩
  rcases List.mem_append.1 hx with hx | hx
  ·exact List.mem_append.2 (.inl hx)
  ·exact List.mem_append.2 (.inr (List.mem_cons_of_mem _ hx))
section
variable {C : Cx} {ν : Nat → Bool} {ops : Array Oper}
theorem zjF {Q:Exit→Act→World→Prop}:∀ (L:List Tr) (k:Nat) (A B:M) (a:Act) (w:World) (S:Nat→Prop) (μ:Mu),
  k+L.length=ops.size→(∀ i τ o,L[i]? = some τ→ops[k+i]? = some o→zeU C ν ops o τ∧∀ p,p∈τ.gs→ν p.1=p.2)→zpu L A B→zbk L A→Ho L=true→Sim C A a w S μ ν →
  (∀ a' w' S' μ',Sim C B a' w' S' μ' ν→Q .normal a' w')→wpOps C.P ops Q ((List.range' k L.length)) a w
 | [],k,A,B,a,w,S,μ,_,_,he,_,_,hs,hq=>by
  cases he
  simp [wpOps]; exact hq a w S μ hs
 | τ :: L,k,A,B,a,w,S,μ,hk,ho,he,hf,hord,hs,hq=>by
  have hk':k < ops.size:=by simp at hk; omega
  have hop:ops[k]? = some ops[k]:=Array.getElem?_eq_getElem hk'
  obtain ⟨h1,h2⟩:=he
  obtain ⟨o1,o2⟩:=BD hord
  have hrest:∀ a' w' S' μ',Sim C (τ.apply A) a' w' S' μ' ν→wpOps C.P ops Q (List.range' (k+1) L.length) a' w':=fun a' w' S' μ' hs' =>
   zjF L (k+1) (τ.apply A) B a' w' S' μ' (by simp at hk; omega) (fun i τ' o hi hoi=>ho (i+1) τ' o (by simpa using hi) (by rw [← hoi]; congr 1; omega)) h2
    (fun σ hσ κ hκ=>(hf σ (List.mem_cons_of_mem _ hσ) κ hκ).apply (o1 σ hσ κ hκ)) o2 hs' hq
  have hso:=(ho 0 τ ops[k] rfl (by simp))
  have:=hso.1 A a w S μ hs h1 (hf τ List.mem_cons_self) hso.2
  simp only [List.length_cons,List.range'_succ,wpOps,hop]
  split
  ·rename_i hw
   rw [if_pos hw] at this
   left
   unfold Oper.wp at *
   generalize (execOp a.eval ops[k]).run C.P w=r at *
   cases r with
   | ok n w' =>
    cases n <;> simp only [Oper.upon] at this ⊢ <;>
     first
      | exact (let ⟨S',μ',q⟩:=this; hrest _ _ S' μ' q)
      | exact Calls.mono this (fun e w'' he=>by cases e <;> first | exact (let ⟨S',μ',q⟩:=he; hrest _ _ S' μ' q) | exact he.elim | exact (let ⟨_,_,q⟩:=he; q.elim))
      | exact Rows.mono this (fun _ _ he=>let ⟨S',μ',q⟩:=he; hrest _ _ S' μ' q)
   | halt x w'=>cases x <;> simp only [Oper.upon] at this ⊢ <;> exact this.elim
  ·rename_i hw
   rw [if_neg hw] at this
   exact let ⟨S',μ',q⟩:=this; hrest _ _ S' μ' q
def znQ (o:Oper) (j:Nat):Bool:=o.after.any fun e=>Region.binds .any e&&e.on == j
def zjC (ops:Array Oper):Nat→Nat→Nat→Bool
 | 0,_,_=>false
 | n+1,i,j=>match ops[i]? with | some o=>(o.after.any fun e=>Region.binds .any e&&(e.on == j||zjC ops n e.on j)) | none=>false
theorem zaM {listed:Array Bool} (hcl:∀ (m:Nat) (o:Oper),ops[m]? = some o→listed.getD m false=true→∀ e,e∈o.after→Region.binds .any e=true→listed.getD e.on false=true) :
  ∀ (n i j:Nat) (o:Oper),ops[i]? = some o→(∀ e,e∈o.after→Region.binds .any e=true→listed.getD e.on false=true)→zjC ops n i j=true→listed.getD j false=true
 | 0,_,_,_,_,_,h=>by cases h
 | n+1,i,j,o,ho,hr,h=>by
  simp only [zjC,ho,Array.any_eq_true',Bool.and_eq_true,Bool.or_eq_true,beq_iff_eq] at h
  obtain ⟨e,he1,he2,he3⟩:=h
  have hl:=hr e he1 he2
  rcases he3 with he3 | he3
  ·rw [← he3]; exact hl
  ·cases n with
   | zero=>cases he3
   | succ n =>
    cases ho2:ops[e.on]? with
    | none=>simp [zjC,ho2] at he3
    | some o2=>exact zaM hcl (n+1) e.on j o2 ho2 (hcl e.on o2 ho2 hl) he3
def zmO (ops:Array Oper) (trs:List Tr):Bool :=
 trs.length == ops.size&&Ho trs &&
 (List.range ops.size).all fun i=>match ops[i]?,trs[i]? with
  | some o,some τ=>(o.after.all fun e=>!Region.binds .any e||decide (e.on < i))&&(List.range i).all fun j=>znQ o j||match trs[j]? with | some σ=>σ.indep τ||zjC ops 4 i j | none=>false
  | _,_=>false
theorem zqR {rem:List Nat} (hs:rem.Pairwise (· < ·)) {i:Nat} (hi:i∈rem):∃ r1 r2,rem=r1++i :: r2∧(∀ j,j∈r1→j < i):=by
 obtain ⟨r1,r2,rfl⟩:=List.append_of_mem hi
 refine ⟨r1,r2,rfl,fun j hj=>?_⟩
 rw [List.pairwise_append] at hs
 exact hs.2.2 j hj i List.mem_cons_self
theorem zpw {Q:Exit→Act→World→Prop} (trs:List Tr) (hok:zmO ops trs=true) (hop:∀ (i:Nat) (τ:Tr) (o:Oper),trs[i]? = some τ→ops[i]? = some o→zeU C ν ops o τ∧∀ p,p∈τ.gs→ν p.1=p.2) (B:M)
  (hq:∀ a' w' S' μ',Sim C B a' w' S' μ' ν→Q .normal a' w') :
  ∀ (fuel:Nat) (rem:List Nat) (listed:Array Bool) (A:M) (a:Act) (w:World) (S:Nat→Prop) (μ:Mu),rem.length=fuel→rem.Pairwise (· < ·)→listed.size=ops.size →
   (∀ i,i∈rem↔(i < ops.size∧listed.getD i true=false))→zpu (rem.map fun i=>trs.getD i ⟨[],none,.any,[],[],[],[]⟩) A B→zbk (rem.map fun i=>trs.getD i ⟨[],none,.any,[],[],[],[]⟩) A→Ho (rem.map fun i=>trs.getD i ⟨[],none,.any,[],[],[],[]⟩)=true →
   (∀ (m:Nat) (o:Oper),ops[m]? = some o→listed.getD m false=true→∀ e,e∈o.after→Region.binds .any e=true→listed.getD e.on false=true)→Sim C A a w S μ ν→wpAny C.P .any ops Q fuel listed a w:=by
 simp only [zmO,Bool.and_eq_true,beq_iff_eq,List.all_eq_true,List.mem_range] at hok
 obtain ⟨⟨hlen,_⟩,hall⟩:=hok
 have hsp:∀ i,i < ops.size→∃ o τ,ops[i]? = some o∧trs[i]? = some τ∧(∀ e,e∈o.after→Region.binds .any e=true→e.on < i)∧∀ j,j < i→(znQ o j=true∨zjC ops 4 i j=true)∨∃ σ,trs[j]? = some σ∧σ.indep τ=true:=by
  intro i hi
  have h:=hall i hi
  have ho:ops[i]? = some ops[i]:=Array.getElem?_eq_getElem hi
  have ht:trs[i]? = some (trs[i]'(by omega)):=List.getElem?_eq_getElem (by omega)
  rw [ho,ht] at h
  simp only [Bool.and_eq_true,Array.all_eq_true',Bool.or_eq_true,Bool.not_eq_true',decide_eq_true_eq,List.all_eq_true,List.mem_range] at h
  refine ⟨_,_,ho,ht,fun e he hb=>?_,fun j hj=>?_⟩
  ·rcases h.1 e he with h' | h'
   ·rw [hb] at h'; cases h'
   ·exact h'
  ·rcases h.2 j hj with h' | h'
   ·exact .inl (.inl h')
   ·have htj:trs[j]? = some (trs[j]'(by omega)):=List.getElem?_eq_getElem (by omega)
    rw [htj] at h'
    simp only [Bool.or_eq_true] at h'
    exact h'.elim (fun h'=>.inr ⟨_,htj,h'⟩) (fun h'=>.inl (.inr h'))
 intro fuel
 induction fuel with
 | zero =>
  intro rem listed A a w S μ hrl _ _ hrem he _ _ _ hs
  have hnil:rem=[]:=List.eq_nil_of_length_eq_zero hrl
  subst hnil
  refine ⟨?_,?_⟩
  ·rw [List.eq_nil_iff_forall_not_mem]
   intro i hi
   obtain ⟨h1,o,ho,_⟩:=mem_ready.1 hi
   have:i∈([]:List Nat):=(hrem i).2 ⟨(Array.getElem?_eq_some_iff.1 ho).1,h1⟩
   cases this
  ·cases he
   exact hq a w S μ hs
 | succ fuel ih =>
  intro rem listed A a w S μ hrl hsort hls hrem he hf hord hcl hs
  refine ⟨fun hr=>?_,fun i hi=>?_⟩
  ·exfalso
   match rem,hrl,hsort,hrem with
   | i :: rem,_,hsort,hrem =>
    have h0:=(hrem i).1 List.mem_cons_self
    obtain ⟨o,τ,ho,_,hb,_⟩:=hsp i h0.1
    have:i∈Region.ready .any ops listed:=mem_ready.2 ⟨h0.2,o,ho,fun e he hbe=>by
     have hlt:=hb e he hbe
     cases hl:listed.getD e.on false with
     | true=>rfl
     | false =>
      exfalso
      have:e.on∈i :: rem:=(hrem e.on).2 ⟨by omega,by
       have h1:e.on < listed.size:=by omega
       simp only [Array.getD_eq_getD_getElem?,Array.getElem?_eq_getElem h1,Option.getD_some] at hl ⊢
       exact hl⟩
      rcases List.mem_cons.1 this with h2 | h2
      ·omega
      ·have:=(List.pairwise_cons.1 hsort).1 e.on h2
       omega⟩
    rw [hr] at this
    cases this
  ·obtain ⟨hun,o',ho',hall'⟩:=mem_ready.1 hi
   have hisz:i < ops.size:=(Array.getElem?_eq_some_iff.1 ho').1
   obtain ⟨o,τ,ho,hτ,hb,hpre⟩:=hsp i hisz
   obtain rfl:o'=o:=by rw [ho] at ho'; exact (Option.some.inj ho').symm
   have hirem:i∈rem:=(hrem i).2 ⟨hisz,hun⟩
   obtain ⟨r1,r2,rfl,hr1⟩:=zqR hsort hirem
   have hτd:trs.getD i ⟨[],none,.any,[],[],[],[]⟩=τ:=by simp [List.getD,hτ]
   simp only [List.map_append,List.map_cons,hτd] at he hf hord
   have hind:∀ σ,σ∈(r1.map fun i=>trs.getD i ⟨[],none,.any,[],[],[],[]⟩)→zow σ τ:=by
    intro σ hσ
    obtain ⟨j,hj,rfl⟩:=List.mem_map.1 hσ
    have hji:=hr1 j hj
    rcases hpre j hji with h' | ⟨σ',hσ',hi'⟩
    ·exfalso
     have h3:listed.getD j false=true:=by
      rcases h' with h' | h'
      ·simp only [znQ,Array.any_eq_true',Bool.and_eq_true,beq_iff_eq] at h'
       obtain ⟨e,he1,he2,he3⟩:=h'
       have h3:=hall' e he1 he2
       rw [he3] at h3
       exact h3
      ·exact zaM hcl 4 i j o' ho hall' h'
     have h4:=((hrem j).1 (List.mem_append.2 (.inl hj))).2
     have h5:j < listed.size:=by omega
     simp only [Array.getD_eq_getD_getElem?,Array.getElem?_eq_getElem h5,Option.getD_some] at h3 h4
     rw [h3] at h4
     cases h4
    ·have:trs.getD j ⟨[],none,.any,[],[],[],[]⟩=σ':=by simp [List.getD,hσ']
     rw [this]
     exact Tr.indep_spec hi'
   obtain ⟨hen,hex⟩:=zfs _ A he hind
   obtain ⟨om,ord'⟩:=zjr hord
   have hso:=hop i τ o' hτ ho
   have hstep:=hso.1 A a w S μ hs hen (hf τ (List.mem_append.2 (.inr List.mem_cons_self))) hso.2
   have hfr:zbk ((r1++r2).map fun i=>trs.getD i ⟨[],none,.any,[],[],[],[]⟩) (τ.apply A):=by
    intro σ hσ κ hκ
    rw [List.map_append] at hσ
    rcases List.mem_append.1 hσ with h' | h'
    ·exact (hf σ (List.mem_append.2 (.inl h')) κ hκ).apply ((hind σ h').h κ hκ)
    ·exact (hf σ (List.mem_append.2 (.inr (List.mem_cons_of_mem _ h'))) κ hκ).apply (om σ h' κ hκ)
   have hlt:i < listed.size:=by omega
   have hrest:∀ a' w' S' μ',Sim C (τ.apply A) a' w' S' μ' ν→wpAny C.P .any ops Q fuel (listed.setIfInBounds i true) a' w':=fun a' w' S' μ' hs' =>
    ih (r1++r2) (listed.setIfInBounds i true) (τ.apply A) a' w' S' μ' (by simp at hrl ⊢; omega) (by
     rw [List.pairwise_append] at hsort ⊢
     exact ⟨hsort.1,(List.pairwise_cons.1 hsort.2.1).2,fun x hx y hy=>hsort.2.2 x hx y (List.mem_cons_of_mem _ hy)⟩) (by simpa using hls) (fun j=>by
     have hnd:i ∉ r1++r2:=by
      intro hc
      rw [List.pairwise_append] at hsort
      rcases List.mem_append.1 hc with hc | hc
      ·exact absurd (hsort.2.2 i hc i List.mem_cons_self) (Nat.lt_irrefl i)
      ·exact absurd ((List.pairwise_cons.1 hsort.2.1).1 i hc) (Nat.lt_irrefl i)
     by_cases hji:j=i
     ·subst hji
      refine ⟨fun hc=>absurd hc hnd,fun hc=>?_⟩
      have:=hc.2
      simp [Array.getD,hlt] at this
     ·rw [getD_set_ne true (fun e=>hji e.symm)]
      rw [← hrem j]
      simp [hji]) (by rw [List.map_append]; exact hex) hfr (by rw [List.map_append]; exact ord') (fun m o hm hl e he1 he2=>by
      have key:listed.getD e.on false=true:=by
       by_cases hmi:m=i
       ·subst hmi
        rw [ho] at hm
        obtain rfl:=Option.some.inj hm
        exact hall' e he1 he2
       ·rw [getD_set_ne false (fun e=>hmi e.symm)] at hl
        exact hcl m o hm hl e he1 he2
      by_cases hei:e.on=i
      ·rw [hei]; simp [Array.getD,hlt]
      ·rw [getD_set_ne false (fun e=>hei e.symm)]; exact key) hs'
   show wpOp C.P ops Q i _ a w
   unfold wpOp
   simp only [ho]
   split
   ·rename_i hw
    rw [if_pos hw] at hstep
    left
    unfold Oper.wp at *
    generalize (execOp a.eval o').run C.P w=r at *
    cases r with
    | ok n w' =>
     cases n <;> simp only [Oper.upon] at hstep ⊢ <;>
      first
       | exact (let ⟨S',μ',q⟩:=hstep; hrest _ _ S' μ' q)
       | exact Calls.mono hstep (fun e w'' he=>by cases e <;> first | exact (let ⟨S',μ',q⟩:=he; hrest _ _ S' μ' q) | exact he.elim | exact (let ⟨_,_,q⟩:=he; q.elim))
       | exact Rows.mono hstep (fun _ _ he=>let ⟨S',μ',q⟩:=he; hrest _ _ S' μ' q)
    | halt x w'=>cases x <;> simp only [Oper.upon] at hstep ⊢ <;> exact hstep.elim
   ·rename_i hw
    rw [if_neg hw] at hstep
    exact let ⟨S',μ',q⟩:=hstep; hrest _ _ S' μ' q
end
end Go.Av
