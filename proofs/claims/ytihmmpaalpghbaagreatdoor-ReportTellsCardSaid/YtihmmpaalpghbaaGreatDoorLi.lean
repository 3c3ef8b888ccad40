/- Functions, as sketches. -/
import Derived.Test.YtihmmpaalpghbaaGreatDoorLh
set_option linter.unusedSimpArgs false
set_option linter.unusedVariables false
set_option maxHeartbeats 1000000
set_option maxRecDepth 100000
namespace Go.Proofs.YtihmmpaalpghbaaGreatDoor
noncomputable section
open Go Go.Av
theorem Kk {γ δ ι:Type} (n:Nat) (st:Nat→ι) (P:γ→Prop) (u:δ) {f:ι→(γ ⊕ δ) ⊕ ι} {d:γ ⊕ δ} {g:δ→γ} (hs:∀ i,i < n→(∃ b,f (st i)=.inl (.inl b)∧P b)∨f (st i)=.inr (st (i+1))) (he:f (st n)=.inl (.inr u)) {m:Nat} (hm:n < m):P (bN (iter f d m (st 0)) g)∨((∀ i,i < n→f (st i)=.inr (st (i+1)))∧bN (iter f d m (st 0)) g=g u):=by
 have key:∀ c k m,k+c=n→c < m→P (bN (iter f d m (st k)) g)∨((∀ i,k≤i→i < n→f (st i)=.inr (st (i+1)))∧bN (iter f d m (st k)) g=g u):=by
  intro c
  induction c with
  | zero =>
   intro k m hk hm
   obtain ⟨m,rfl⟩:∃ q,m=q+1:=⟨m - 1,by omega⟩
   obtain rfl:k=n:=by omega
   simp only [iter,he,wv]
   exact .inr ⟨fun i h1 h2=>by omega,trivial⟩
  | succ c ih =>
   intro k m hk hm
   obtain ⟨m,rfl⟩:∃ q,m=q+1:=⟨m - 1,by omega⟩
   rcases hs k (by omega) with ⟨b,h1,h2⟩ | h1
   ·simp only [iter,h1,Q6]
    exact .inl h2
   ·simp only [iter,h1]
    rcases ih (k+1) m (by omega) (by omega) with h | ⟨h2,h3⟩
    ·exact .inl h
    ·refine .inr ⟨fun i h4 h5=>?_,h3⟩
     by_cases c1:i=k
     ·rw [c1]; exact h1
     ·exact h2 i (by omega) h5
 rcases key n 0 m (by omega) hm with h | ⟨h1,h2⟩
 ·exact .inl h
 ·exact .inr ⟨fun i hi=>h1 i (by omega) hi,h2⟩
theorem dx {γ δ ι:Type} (n:Nat) (st:Nat→ι) (u:δ) {f:ι→(γ ⊕ δ) ⊕ ι} {d:γ ⊕ δ} {g:δ→γ} {z:γ} {m:Nat} (h:bN (iter f d m (st 0)) g=z) (hs:∀ i,i < n→(∃ b,f (st i)=.inl (.inl b)∧b≠z)∨f (st i)=.inr (st (i+1))) (he:f (st n)=.inl (.inr u)) (hm:n < m):(∀ i,i < n→f (st i)=.inr (st (i+1)))∧g u=z:=by
 rcases Kk n st (fun b=>b≠z) u (d:=d) (g:=g) hs he hm with h1 | ⟨h1,h2⟩
 ·exact absurd h h1
 ·exact ⟨h1,h2.symm.trans h⟩
theorem ef {γ δ ι:Type} (n:Nat) (st:Nat→ι) (u:δ) {f:ι→(γ ⊕ δ) ⊕ ι} {d:γ ⊕ δ} {g:δ→γ} {m:Nat} (hs:∀ i,i < n→f (st i)=.inr (st (i+1))) (he:f (st n)=.inl (.inr u)) (hm:n < m):bN (iter f d m (st 0)) g=g u:=by
 rcases Kk n st (fun _=>False) u (d:=d) (g:=g) (fun i hi=>.inr (hs i hi)) he hm with h1 | ⟨_,h2⟩
 ·exact h1.elim
 ·exact h2
theorem cU {α:Type} {n:Nat} {a b:α}:(bif decide (((n:Nat):Int) < ((n:Nat):Int)) then a else b)=b:=by
 rw [decide_eq_false (by omega),cond_false]
theorem go_in {α:Type} {i n:Nat} (h:i < n) {a b:α}:(bif decide (((i:Nat):Int) < ((n:Nat):Int)) then a else b)=a:=by
 rw [decide_eq_true (by omega),cond_true]
def Bx (L:List bB) (i:Nat):Int:=if i=0 then 0 else (L.getD (i - 1) default).at_
def Io (n:Nat) (L:List bB) (i:Nat):Bool:=bj (L.getD i default).at_ (bI (Bx L i+1)) ((n:Nat):Int)&&bj (L.getD i default).sum 1 1099511627776
theorem RN (r:ai) (f:aA):cO r f=0↔(f.af.length≤40∧f.aE.length≤4∧f.bq.length≤100∧f.facts.length≤200)∧dW r f.bill=0∧f.af.length≠0∧(∀ i,i < f.af.length→gI r f ((i:Nat):Int)=0)∧(∀ i,i < f.aE.length→Io f.af.length f.aE i=true)∧lL r f=0∧vP f=0:=by
 constructor
 ·intro h
  have hl:=Bs h
  refine ⟨hl,?_⟩
  unfold cO ee at h
  simp only [Sk.cQ,Sk.eV,Sk.fA,Sk.da,Sk.fR,Sk.iC,Sk.cg,iM.Cq,kk,kp,mG,mH,k7,iZ,aP] at h
  rw [show ((((decide (((f.af.length:Nat):Int) > 40))||(decide (((f.aE.length:Nat):Int) > 4)))||(decide (((f.bq.length:Nat):Int) > 100)))||(decide (((f.facts.length:Nat):Int) > 200)))=false by simp only [Bool.or_eq_false_iff,decide_eq_false_iff_not]; omega,cond_false] at h
  cases hw:(dW r f.bill != 0) with
  | true=>rw [hw,cond_true] at h; rw [h] at hw; simp at hw
  | false =>
   rw [hw,cond_false] at h
   cases h0:(((f.af.length:Nat):Int) == 0) with
   | true=>rw [h0,cond_true] at h; exact absurd h (by decide)
   | false =>
    rw [h0,cond_false] at h
    refine ⟨by simpa using hw,by simp only [beq_eq_false_iff_ne,ne_eq] at h0; omega,?_⟩
    obtain ⟨h1,h⟩:=dx f.af.length (fun i=>i) () h (fun i hi=>by
     rw [go_in hi]
     cases hc:(gI r f ((i:Nat):Int) != 0) with
     | true=>exact .inl ⟨_,rfl,by simpa using hc⟩
     | false=>exact .inr rfl) cU (Nat.lt_succ_self _)
    refine ⟨fun i hi=>?_,?_⟩
    ·have h2:=h1 i hi
     rw [go_in hi] at h2
     cases hc:(gI r f ((i:Nat):Int) != 0) with
     | true=>rw [hc,cond_true] at h2; cases h2
     | false=>simpa using hc
    ·obtain ⟨h3,h⟩:=dx f.aE.length (fun i=>(Bx f.aE i,i)) () h (fun i hi=>by
      simp only
      rw [go_in hi]
      cases hc:(!bj (f.aE.getD i default).at_ (bI (Bx f.aE i+1)) ((f.af.length:Nat):Int)) with
      | true=>exact .inl ⟨1,rfl,by decide⟩
      | false =>
       cases hd:(!bj (f.aE.getD i default).sum 1 1099511627776) with
       | true=>exact .inl ⟨3,rfl,by decide⟩
       | false=>exact .inr rfl) cU (Nat.lt_succ_self _)
     refine ⟨fun i hi=>?_,?_⟩
     ·have h2:=h3 i hi
      simp only at h2
      rw [go_in hi] at h2
      unfold Io
      cases hc:bj (f.aE.getD i default).at_ (bI (Bx f.aE i+1)) ((f.af.length:Nat):Int) with
      | false=>rw [hc] at h2; cases h2
      | true =>
       cases hd:bj (f.aE.getD i default).sum 1 1099511627776 with
       | false=>rw [hc,hd] at h2; cases h2
       | true=>rfl
     ·cases ha:(lL r f != 0) with
      | true=>rw [ha,cond_true] at h; rw [h] at ha; simp at ha
      | false =>
       rw [ha,cond_false] at h
       exact ⟨by simpa using ha,h⟩
 ·rintro ⟨hl,hw,h0,h1,h2,h3,h4⟩
  unfold cO ee
  simp only [Sk.cQ,Sk.eV,Sk.fA,Sk.da,Sk.fR,Sk.iC,Sk.cg,iM.Cq,kk,kp,mG,mH,k7,iZ,aP]
  rw [show ((((decide (((f.af.length:Nat):Int) > 40))||(decide (((f.aE.length:Nat):Int) > 4)))||(decide (((f.bq.length:Nat):Int) > 100)))||(decide (((f.facts.length:Nat):Int) > 200)))=false by simp only [Bool.or_eq_false_iff,decide_eq_false_iff_not]; omega,cond_false,hw]
  rw [show ((0:Int) != 0)=false from rfl,cond_false,show (((f.af.length:Nat):Int) == 0)=false by rw [beq_eq_false_iff_ne]; omega,cond_false]
  refine (ef f.af.length (fun i=>i) () (fun i hi=>?_) cU (Nat.lt_succ_self _)).trans ?_
  ·rw [go_in hi,h1 i hi]; rfl
  refine (ef f.aE.length (fun i=>(Bx f.aE i,i)) () (fun i hi=>?_) cU (Nat.lt_succ_self _)).trans ?_
  ·simp only
   have:=h2 i hi
   unfold Io at this
   rw [Bool.and_eq_true] at this
   rw [go_in hi,this.1,this.2]
   rfl
  rw [h3,h4]
  rfl
def Kl (f:aA) (i:Nat):Int:=let a:=f.bq.getD i default
 let b:=bif a.at_ != -1 then oU f.bill.day (f.af.getD a.at_.toNat default).day else f.bill.day
 bif decide ((i:Int) > 0) then oU b (f.bq.getD (bI ((i:Int) - 1)).toNat default).day else b
def F3 (r:ai) (f:aA) (i:Nat):Bool:=bj (f.bq.getD i default).part 0 (bI (f.bill.parts - 1))&&(bj (f.bq.getD i default).bn 0 (bI (((r.aL.length:Nat):Int) - 1))&&(bj (f.bq.getD i default).kind 0 9&&(nJ r f (f.bq.getD i default)&&bj (f.bq.getD i default).day (Kl f i) 100000)))
theorem Ae {γ δ:Type} {c:Bool} {a b:δ} {k:δ→γ}:bN (bif c then (.inr a:γ ⊕ δ) else .inr b) k=k (bif c then a else b):=by cases c <;> rfl
def WQ (r:ai) (f:aA) (i:Nat):(Int ⊕ Unit) ⊕ Nat:=bif !bj (f.bq.getD i default).part 0 (bI (f.bill.parts - 1)) then .inl (.inl 15) else bif (!bj (f.bq.getD i default).bn 0 (bI (((r.aL.length:Nat):Int) - 1)))||(!bj (f.bq.getD i default).kind 0 9) then .inl (.inl 1) else bif !nJ r f (f.bq.getD i default) then .inl (.inl 14) else bif !bj (f.bq.getD i default).day (Kl f i) 100000 then .inl (.inl 13) else .inr (i+1)
theorem Km (r:ai) (f:aA) (i:Nat):(F3 r f i=true∧WQ r f i=.inr (i+1))∨(F3 r f i=false∧∃ b,WQ r f i=.inl (.inl b)∧b≠0):=by
 unfold F3 WQ
 cases bj (f.bq.getD i default).part 0 (bI (f.bill.parts - 1)) with
 | false=>exact .inr ⟨rfl,15,rfl,by decide⟩
 | true =>
  cases bj (f.bq.getD i default).bn 0 (bI (((r.aL.length:Nat):Int) - 1)) with
  | false=>exact .inr ⟨rfl,1,rfl,by decide⟩
  | true =>
   cases bj (f.bq.getD i default).kind 0 9 with
   | false=>exact .inr ⟨rfl,1,rfl,by decide⟩
   | true =>
    cases nJ r f (f.bq.getD i default) with
    | false=>exact .inr ⟨rfl,14,rfl,by decide⟩
    | true =>
     cases bj (f.bq.getD i default).day (Kl f i) 100000 with
     | false=>exact .inr ⟨rfl,13,rfl,by decide⟩
     | true=>exact .inl ⟨rfl,rfl⟩
theorem WR (r:ai) (f:aA):lL r f=bN (iter (fun i=>bif decide (((i:Nat):Int) < ((f.bq.length:Nat):Int)) then WQ r f i else .inl (.inr ())) (default:Int ⊕ Unit) (f.bq.length - 0+1) 0) fun _=>0:=by
 unfold lL gJ
 simp only [Sk.cQ,Sk.eV,Sk.fA,Sk.da,Sk.fR,Sk.iC,Sk.cg,iM.Cq,kk,kp,rH,aP,Ae]
 rfl
theorem UK (r:ai) (f:aA):lL r f=0↔∀ i,i < f.bq.length→F3 r f i=true:=by
 rw [WR]
 constructor
 ·intro h i hi
  obtain ⟨h1,-⟩:=dx f.bq.length (fun i=>i) () h (fun i hi=>by
   rw [go_in hi]
   rcases Km r f i with ⟨-,h⟩ | ⟨-,b,h1,h2⟩
   ·exact .inr h
   ·exact .inl ⟨b,h1,h2⟩) cU (Nat.lt_succ_self _)
  have h2:=h1 i hi
  rw [go_in hi] at h2
  rcases Km r f i with ⟨h,-⟩ | ⟨-,b,h3,-⟩
  ·exact h
  ·rw [h3] at h2; cases h2
 ·intro h
  refine ef f.bq.length (fun i=>i) () (fun i hi=>?_) cU (Nat.lt_succ_self _)
  rw [go_in hi]
  rcases Km r f i with ⟨-,h1⟩ | ⟨h1,-⟩
  ·exact h1
  ·rw [h i hi] at h1; cases h1
theorem UL (f:aA) (i:Int) (K:List Int):rG f i K=((bj (f.af.getD i.toNat default).for_ 0 (bI (i - 1))&&pK f (f.af.getD i.toNat default).for_ (f.af.getD i.toNat default).part)&&eC K (f.af.getD (f.af.getD i.toNat default).for_.toNat default).kind):=rfl
theorem rP (i a b:Int):bj i a b=true↔a≤i∧i≤b:=by
 have e:bj i a b=((decide (i≥a))&&(decide (i≤b))):=rfl
 rw [e,Bool.and_eq_true,decide_eq_true_eq,decide_eq_true_eq]
abbrev kS (i:Int):Key:={ kind:=1,index:=i,at_:=0,fact:=0 }
abbrev kA (i:Int):Key:={ kind:=3,index:=i,at_:=0,fact:=0 }
abbrev kC (i:Int):Key:={ kind:=2,index:=i,at_:=0,fact:=0 }
abbrev kF (a k:Int):Key:={ kind:=4,index:=0,at_:=a,fact:=k }
def M1 (m:aF) (k:Key):aF:=(aq m k).2
def kI (m:aF) (n:Nat):aF:=(List.range n).foldl (fun m i=>M1 m (kA (i:Nat))) m
def l6 (m:aF) (n:Nat):aF:=(List.range n).foldl (fun m i=>M1 m (kC (i:Nat))) m
def nL (a:Int) (m:aF) (n:Nat):aF:=(List.range n).foldl (fun m i=>M1 m (kF a (i:Nat))) m
def kM (m:aF) (n:Nat):aF:=(List.range n).foldl (fun m i=>nL (i:Nat) m 5) m
def Ip (m:aF):aF:=kM (l6 (kI m 4) 100) (l6 (kI m 4) 100).file.af.length
def Hr (i:Int × aF):(aF ⊕ aF) ⊕ (Int × aF):=bif (aq i.2 (kS i.1)).1 then .inr (bI (i.1+1),(aq i.2 (kS i.1)).2) else .inl (.inr (aq i.2 (kS i.1)).2)
theorem dQ {α:Type} (g:α→Nat→α) (a:α) (n:Nat):(List.range (n+1)).foldl g a=g ((List.range n).foldl g a) n:=by rw [List.range_succ,List.foldl_append]; rfl
abbrev Qf (r:ai) (A:List (Key × Body)):aF:={ r:=r,all:=A,file:={ bill:={ cD:=0,cL:=0,cE:=0,sum:=0,bh:=0,bp:={ kind:=0,n:=0,unit:=0 },day:=0,bn:=0,tE:=0,need:=0,iR:=0,flags:=0,parts:=0 },af:=[],aE:=[],bq:=[],facts:=[] },used:=[] }
abbrev kB:Key:={ kind:=0,index:=0,at_:=0,fact:=0 }
theorem WS (b3:aF):bN (iter (fun i=>bif decide (((i.1:Nat):Int) < 4) then .inr (i.1+1,(aq i.2 (kA (i.1:Nat))).2) else .inl (.inr i.2)) (default:aF ⊕ aF) (4 - 0+1) ((0,b3):Nat × aF)) (fun b=>(bN (iter (fun i=>bif decide (((i.1:Nat):Int) < 100) then .inr (i.1+1,(aq i.2 (kC (i.1:Nat))).2) else .inl (.inr i.2)) (default:aF ⊕ aF) (100 - 0+1) ((0,b):Nat × aF)) (fun b9 =>
  bN (iter (fun i=>bif decide (((i.1:Nat):Int) < ((b9.file.af.length:Nat):Int)) then
   bN (bN (iter (fun j=>bif decide (((j.1:Nat):Int) < 5) then .inr (j.1+1,(aq j.2 (kF (i.1:Nat) (j.1:Nat))).2) else .inl (.inr (((j.1:Nat):Int),j.2))) (default:(((aF ⊕ aF) ⊕ (Nat × aF)) ⊕ aF) ⊕ (Int × aF)) (5 - 0+1) ((0,i.2):Nat × aF)) fun b=>.inr b.2) fun b=>.inr (i.1+1,b)
  else .inl (.inr i.2)) (default:aF ⊕ aF) (b9.file.af.length - 0+1) ((0,b9):Nat × aF)) fun b=>b)))=Ip b3:=by
 refine (ef 4 (fun i=>(i,kI b3 i)) (kI b3 4) (fun i hi=>?_) ?_ (by decide)).trans ?_
 ·simp only
  rw [decide_eq_true (by omega:((i:Nat):Int) < 4),cond_true]
  unfold kI
  rw [dQ]
  rfl
 ·rw [decide_eq_false (show ¬ (((4:Nat):Int) < 4) by decide),cond_false]
 unfold Ip
 generalize kI b3 4=b
 refine (ef 100 (fun i=>(i,l6 b i)) (l6 b 100) (fun i hi=>?_) ?_ (by decide)).trans ?_
 ·simp only
  rw [decide_eq_true (by omega:((i:Nat):Int) < 100),cond_true]
  unfold l6
  rw [dQ]
  rfl
 ·rw [decide_eq_false (show ¬ (((100:Nat):Int) < 100) by decide),cond_false]
 generalize l6 b 100=b9
 refine (ef b9.file.af.length (fun i=>(i,kM b9 i)) (kM b9 b9.file.af.length) (fun i hi=>?_) ?_ (Nat.lt_succ_self _))
 ·simp only
  rw [go_in hi]
  have e:kM b9 (i+1)=nL (i:Nat) (kM b9 i) 5:=by unfold kM; rw [dQ]
  rw [e]
  generalize kM b9 i=m
  refine (congrArg (fun z:((aF ⊕ aF) ⊕ (Nat × aF)) ⊕ aF=>bN z fun b=>Sum.inr (i+1,b)) (ef 5 (fun j=>(j,nL (i:Nat) m j)) (((5:Nat):Int),nL (i:Nat) m 5) (fun j hj=>?_) ?_ (by decide))).trans ?_
  ·simp only
   rw [decide_eq_true (by omega:((j:Nat):Int) < 5),cond_true]
   unfold nL
   rw [dQ]
   rfl
  ·rw [decide_eq_false (show ¬ (((5:Nat):Int) < 5) by decide),cond_false]
  ·rfl
 ·exact cU
theorem M3 (r:ai) (l:List ah) (bill day:Int):dJ r l bill day=bif !(aq (Qf r (aR l bill day)) kB).1 then (aq (Qf r (aR l bill day)) kB).2 else bN (iter Hr default (40 - (aq (Qf r (aR l bill day)) kB).2.file.af.length+1) (1,(aq (Qf r (aR l bill day)) kB).2)) Ip:=by
 unfold dJ jb
 simp only [Sk.fR,Sk.Y2,Sk.cQ,Sk.eV,Sk.fA,Sk.da,Sk.iC,Sk.cg,gR.Cq,GK.Cq,sW,eu]
 simp only [WS]
 rfl
def qL (bill:Int) (s:List (Key × Body) × List (Key × Bool)) (x:ae):List (Key × Body) × List (Key × Bool):=bif x.body.bill != bill then s else (eM Key.K s.1 (bC x.body) x.body,bif sG Key.K s.1 (bC x.body)&&!(bZ (Body.cells (gw Key.K s.1 (bC x.body) Body.Z)) (Body.cells x.body)) then eM Key.K s.2 (bC x.body) true else s.2)
def Kn (s:List (Key × Body) × List (Key × Bool)):List (Key × Body):=(List.range s.2.length).foldr (fun i g=>oC Key.K g (s.2.getD i default).1) s.1
theorem RO (l:List ah) (bill day:Int):aR l bill day=Kn ((aB l day).foldl (qL bill) ([],[])):=by
 unfold aR eP
 simp only [Sk.fR,Sk.cQ,Sk.eV,Sk.fA,Sk.da,Sk.iC,Sk.cg,iM.Cq,kk,kp,ed,mz]
 refine (gS (aB l day) (fun (s:List (Key × Body) × List (Key × Bool)) i=>(i,s.1,s.2)) (fun x s=>(.inr (qL bill s x):List (Key × Body) ⊕ (List (Key × Body) × List (Key × Bool)))) id _ (fun s i hi=>?_) (fun s=>?_) (by simp) ([],[])).trans ?_
 ·simp only
  refine (go_in hi).trans ?_
  unfold qL
  cases h1:(((aB l day).getD i default).body.bill != bill) with
  | true=>rfl
  | false =>
   cases h2:(sG Key.K s.1 (bC ((aB l day).getD i default).body)&&!(bZ (Body.cells (gw Key.K s.1 (bC ((aB l day).getD i default).body) Body.Z)) (Body.cells ((aB l day).getD i default).body))) with
   | true=>simp only [cond_false,cond_true,h2]
   | false=>simp only [cond_false,h2]
 ·simp only
  exact cU
 ·rw [wx]
  rfl
abbrev UM (bill:Int) (k:Key) (x:ae):Prop:=x.body.bill=bill∧bC x.body=k
def abx (L:List ae) (bill:Int) (k:Key) (b:Body):Prop:=(∃ x,x∈L∧UM bill k x∧x.body=b)∧∀ x,x∈L→UM bill k x→x.body=b
structure UN (L:List ae) (bill:Int) (S:List (Key × Body) × List (Key × Bool)):Prop where
 nd1:(S.1.map Prod.fst).Nodup
 nd2:(S.2.map Prod.fst).Nodup
 no:∀ k,cV Key.K S.1 k=none→∀ x,x∈L→¬ UM bill k x
 has:∀ k b,cV Key.K S.1 k=some b→∃ x,x∈L∧UM bill k x∧x.body=b
 odd:∀ k,k∈S.2.map Prod.fst→∃ x y,x∈L∧y∈L∧UM bill k x∧UM bill k y∧x.body≠y.body
 even:∀ k,k ∉ S.2.map Prod.fst→∀ b,cV Key.K S.1 k=some b→∀ x,x∈L→UM bill k x→x.body=b
theorem aby {a b:Body}:bZ (Body.cells a) (Body.cells b)=true↔a=b:=⟨fun h=>Body.lV (kb rfl rfl h),fun h=>by subst h; exact kT rfl⟩
theorem Bz (k:Key) {α:Type} (v:α) (m:List (Key × α)) (q:Key):cV Key.K (eM Key.K m k v) q=open Classical in if q=k then some v else cV Key.K m q:=ue Key.K (fun _ _=>xz) k v q _ m
theorem UN.start (bill:Int):UN [] bill ([],[]):=⟨List.Pairwise.nil,List.Pairwise.nil,fun _ _ x hx=>(by cases hx),fun _ _ h=>(by cases h),fun _ h=>(by cases h),fun _ _ _ h=>(by cases h)⟩
theorem UN.step {L:List ae} {bill:Int} {S:List (Key × Body) × List (Key × Bool)} (h:UN L bill S) (x:ae):UN (L++[x]) bill (qL bill S x):=by
 have ml:∀ {y:ae},y∈L++[x]↔y∈L∨y=x:=fun {y}=>by simp
 unfold qL
 cases hb:(x.body.bill != bill) with
 | true =>
  rw [cond_true]
  have hx:∀ k,¬ UM bill k x:=fun k hs=>by
   have:x.body.bill≠bill:=by simpa using hb
   exact this hs.1
  refine ⟨h.nd1,h.nd2,fun k hk y hy=>?_,fun k b hk=>?_,fun k hk=>?_,fun k hk b hf y hy hs=>?_⟩
  ·rcases ml.1 hy with hy | rfl
   ·exact h.no k hk y hy
   ·exact hx k
  ·obtain ⟨y,hy,g⟩:=h.has k b hk
   exact ⟨y,ml.2 (.inl hy),g⟩
  ·obtain ⟨y,z,hy,hz,g⟩:=h.odd k hk
   exact ⟨y,z,ml.2 (.inl hy),ml.2 (.inl hz),g⟩
  ·rcases ml.1 hy with hy | rfl
   ·exact h.even k hk b hf y hy hs
   ·exact absurd hs (hx k)
 | false =>
  rw [cond_false]
  have U5:x.body.bill=bill:=by simpa using hb
  have IK:UM bill (bC x.body) x:=⟨U5,rfl⟩
  have hu1:=wL Key.K (fun _ _=>xz) (bC x.body) x.body S.1 h.nd1
  have hu2:=wL Key.K (fun _ _=>xz) (bC x.body) true S.2 h.nd2
  generalize eD:bC x.body=k0 at *
  -- aca a aaj body was there
  cases hc:(sG Key.K S.1 k0&&!(bZ (Body.cells (gw Key.K S.1 k0 Body.Z)) (Body.cells x.body))) with
  | true =>
   rw [cond_true]
   simp only [Bool.and_eq_true,Bool.not_eq_true'] at hc
   obtain ⟨U1,NM⟩:=hc
   obtain ⟨b0,Sd⟩:∃ b,cV Key.K S.1 k0=some b:=by
    unfold sG at U1
    exact Option.isSome_iff_exists.1 U1
   have gN:b0≠x.body:=fun e=>by
    unfold gw at NM
    rw [Sd] at NM
    have h2:=aby.2 e
    rw [show (some b0).getD Body.Z=b0 from rfl,h2] at NM
    cases NM
   refine ⟨hu1.1,hu2.1,fun k hk y hy=>?_,fun k b hk=>?_,fun k hk=>?_,fun k hk b hf y hy hs=>?_⟩
   ·simp only [Bz] at hk
    by_cases e:k=k0
    ·rw [if_pos e] at hk; cases hk
    ·rw [if_neg e] at hk
     rcases ml.1 hy with hy | rfl
     ·exact h.no k hk y hy
     ·intro hs; exact e (hs.2.symm.trans eD)
   ·simp only [Bz] at hk
    by_cases e:k=k0
    ·rw [if_pos e] at hk
     exact ⟨x,ml.2 (.inr rfl),by rw [e]; exact ⟨U5,eD⟩,Option.some.inj hk⟩
    ·rw [if_neg e] at hk
     obtain ⟨y,hy,g⟩:=h.has k b hk
     exact ⟨y,ml.2 (.inl hy),g⟩
   ·rcases (hu2.2 k).1 hk with e | hk
    ·obtain ⟨y,hy,g1,g2⟩:=h.has k0 b0 Sd
     exact ⟨y,x,ml.2 (.inl hy),ml.2 (.inr rfl),by rw [e]; exact g1,by rw [e]; exact ⟨U5,eD⟩,by rw [g2]; exact gN⟩
    ·obtain ⟨y,z,hy,hz,g⟩:=h.odd k hk
     exact ⟨y,z,ml.2 (.inl hy),ml.2 (.inl hz),g⟩
   ·have e:k≠k0:=fun e=>hk ((hu2.2 k).2 (.inl e))
    simp only [Bz] at hf
    rw [if_neg e] at hf
    rcases ml.1 hy with hy | rfl
    ·exact h.even k (fun h'=>hk ((hu2.2 k).2 (.inr h'))) b hf y hy hs
    ·exact absurd (hs.2.symm.trans eD) e
  | false =>
   rw [cond_false]
   have KK:∀ b0,cV Key.K S.1 k0=some b0→b0=x.body:=fun b0 Sd=>by
    unfold sG gw at hc
    rw [Sd] at hc
    have hc:(!(bZ (Body.cells b0) (Body.cells x.body)))=false:=hc
    rw [Bool.not_eq_false'] at hc
    exact aby.1 hc
   refine ⟨hu1.1,h.nd2,fun k hk y hy=>?_,fun k b hk=>?_,fun k hk=>?_,fun k hk b hf y hy hs=>?_⟩
   ·simp only [Bz] at hk
    by_cases e:k=k0
    ·rw [if_pos e] at hk; cases hk
    ·rw [if_neg e] at hk
     rcases ml.1 hy with hy | rfl
     ·exact h.no k hk y hy
     ·intro hs; exact e (hs.2.symm.trans eD)
   ·simp only [Bz] at hk
    by_cases e:k=k0
    ·rw [if_pos e] at hk
     exact ⟨x,ml.2 (.inr rfl),by rw [e]; exact ⟨U5,eD⟩,Option.some.inj hk⟩
    ·rw [if_neg e] at hk
     obtain ⟨y,hy,g⟩:=h.has k b hk
     exact ⟨y,ml.2 (.inl hy),g⟩
   ·obtain ⟨y,z,hy,hz,g⟩:=h.odd k hk
    exact ⟨y,z,ml.2 (.inl hy),ml.2 (.inl hz),g⟩
   ·simp only [Bz] at hf
    by_cases e:k=k0
    ·rw [if_pos e] at hf
     have hf:=Option.some.inj hf
     rcases ml.1 hy with hy | rfl
     ·rw [e] at hs hk
      cases hq:cV Key.K S.1 k0 with
      | none=>exact absurd hs (h.no k0 hq y hy)
      | some b1=>rw [h.even k0 hk b1 hq y hy hs,KK b1 hq,hf]
     ·exact hf
    ·rw [if_neg e] at hf
     rcases ml.1 hy with hy | rfl
     ·exact h.even k hk b hf y hy hs
     ·exact absurd (hs.2.symm.trans eD) e
theorem UN.fold (bill:Int):∀ (M L:List ae) (S:List (Key × Body) × List (Key × Bool)),UN L bill S→UN (L++M) bill (M.foldl (qL bill) S)
 | [],L,S,h=>by simpa using h
 | x :: M,L,S,h=>by
  have:=UN.fold bill M (L++[x]) _ (h.step x)
  simpa using this
theorem UO:∀ (m:List (Key × Body)) (k q:Key),(m.map Prod.fst).Nodup→cV Key.K (oC Key.K m k) q=open Classical in if q=k then none else cV Key.K m q
 | [],k,q,_=>by simp [oC,cV]
 | p :: r,k,q,h=>by
  rw [List.map_cons,List.nodup_cons] at h
  have ih:=UO r k q h.2
  cases hk:bZ (Key.K.C k) (Key.K.C p.1) with
  | true =>
   have e:=xz.1 hk
   simp only [oC,hk,cond_true,cV]
   by_cases hq:q=k
   ·rw [if_pos hq]
    cases hf:cV Key.K r q with
    | none=>rfl
    | some v =>
     have:=ux Key.K (fun _ _=>xz) _ _ _ hf
     exact absurd (List.mem_map.2 ⟨_,this,rfl⟩) (by rw [hq,e]; exact h.1)
   ·rw [if_neg hq]
    cases hqp:bZ (Key.K.C q) (Key.K.C p.1) with
    | true=>exact absurd ((xz.1 hqp).trans e.symm) hq
    | false=>rfl
  | false =>
   simp only [oC,hk,cond_false,cV]
   cases hqp:bZ (Key.K.C q) (Key.K.C p.1) with
   | true =>
    have e:=xz.1 hqp
    rw [cond_true,cond_true,if_neg (fun e2=>by rw [← e2,hqp] at hk; cases hk)]
   | false =>
    rw [cond_false,cond_false]
    exact ih
theorem Qg:∀ (ks:List Key) (m:List (Key × Body)),(m.map Prod.fst).Nodup→((ks.foldr (fun k g=>oC Key.K g k) m).map Prod.fst).Nodup∧∀ q,cV Key.K (ks.foldr (fun k g=>oC Key.K g k) m) q=open Classical in if q∈ks then none else cV Key.K m q
 | [],m,h=>⟨h,fun q=>by simp⟩
 | k :: ks,m,h=>by
  obtain ⟨i1,i2⟩:=Qg ks m h
  refine ⟨((Fy _ _ _).map Prod.fst).nodup i1,fun q=>?_⟩
  rw [List.foldr_cons,UO _ _ _ i1,i2]
  by_cases e:q=k
  ·rw [if_pos e,if_pos (by rw [e]; exact List.mem_cons_self)]
  ·rw [if_neg e]
   by_cases h2:q∈ks
   ·rw [if_pos h2,if_pos (List.mem_cons_of_mem _ h2)]
   ·rw [if_neg h2,if_neg (fun h3=>(List.mem_cons.1 h3).elim e h2)]
theorem O9 (s:List (Key × Body) × List (Key × Bool)):Kn s=(s.2.map Prod.fst).foldr (fun k g=>oC Key.K g k) s.1:=by
 unfold Kn
 have e:s.2.map Prod.fst=(List.range s.2.length).map fun i=>(s.2.getD i default).1:=by
  refine List.ext_getElem (by simp) fun i h1 h2=>?_
  simp only [List.length_map] at h1
  simp [List.getD,h1]
 rw [e,List.foldr_map]
theorem B4 {l:List ah} {bill day:Int} {k:Key} {b:Body}:cV Key.K (aR l bill day) k=some b↔abx (aB l day) bill k b:=by
 have h:=UN.fold bill (aB l day) [] ([],[]) (UN.start bill)
 rw [List.nil_append] at h
 rw [RO,O9]
 generalize (aB l day).foldl (qL bill) ([],[])=S at h
 obtain ⟨-,h2⟩:=Qg (S.2.map Prod.fst) S.1 h.nd1
 rw [h2 k]
 constructor
 ·intro hf
  by_cases hk:k∈S.2.map Prod.fst
  ·rw [if_pos hk] at hf; cases hf
  ·rw [if_neg hk] at hf
   exact ⟨h.has k b hf,h.even k hk b hf⟩
 ·rintro ⟨⟨x,hx,hs,e⟩,ha⟩
  have hk:k ∉ S.2.map Prod.fst:=fun hk=>by
   obtain ⟨y,z,hy,hz,s1,s2,gN⟩:=h.odd k hk
   exact gN (by rw [ha y hy s1,ha z hz s2])
  rw [if_neg hk]
  cases hf:cV Key.K S.1 k with
  | none=>exact absurd hs (h.no k hf x hx)
  | some b' =>
   obtain ⟨y,hy,s1,e1⟩:=h.has k b' hf
   rw [← e1,ha y hy s1]
def F4 (k:Key) (bill:Int):Body:={ (default:Body) with kind:=k.kind,bill:=bill,index:=k.index,fact:={ kind:=k.fact,at_:=k.at_,n:=0 } }
theorem tA {y:ae} (h:au y=true) (k:Key) (bill:Int):fM y.body (F4 k bill)=true↔UM bill k y:=by
 have e:∀ a b:Body,fM a b=(((((a.kind == b.kind)&&(a.bill == b.bill))&&(a.index == b.index))&&(a.fact.kind == b.fact.kind))&&(a.fact.at_ == b.fact.at_)):=fun _ _=>rfl
 rw [e]
 simp only [Bool.and_eq_true,beq_iff_eq]
 obtain ⟨kq,ki,ka,kf⟩:=k
 unfold UM F4
 simp only
 have fin:∀ {a b c d a' b' c' d':Int},(({ kind:=a,index:=b,at_:=c,fact:=d }:Key) = { kind:=a',index:=b',at_:=c',fact:=d' })↔a=a'∧b=b'∧c=c'∧d=d':=fun {a b c d a' b' c' d'}=>by rw [Key.mk.injEq]
 rcases jP h with ⟨r,n,d,b,p,fl,rfl⟩ | ⟨r,n,d,b,ix,s,rfl⟩ | ⟨r,n,d,b,ix,s,rfl⟩ | ⟨r,n,d,b,ix,s,rfl⟩ | ⟨r,n,d,b,s,rfl⟩
 ·rw [show bC ({ (default:Body) with kind:=0,bill:=b,index:=0,aw:=p,sign:={ (default:Sign) with flags:=fl } }:Body)=({ kind:=0,index:=0,at_:=0,fact:=0 }:Key) from rfl,fin]
  show (((((0:Int)=kq∧b=bill)∧(0:Int)=ki)∧(0:Int)=kf)∧(0:Int)=ka)↔(b=bill∧(0:Int)=kq∧(0:Int)=ki∧(0:Int)=ka∧(0:Int)=kf)
  omega
 ·rw [show bC ({ (default:Body) with kind:=1,bill:=b,index:=ix,sign:=s }:Body)=({ kind:=1,index:=ix,at_:=0,fact:=0 }:Key) from rfl,fin]
  show (((((1:Int)=kq∧b=bill)∧ix=ki)∧(0:Int)=kf)∧(0:Int)=ka)↔(b=bill∧(1:Int)=kq∧ix=ki∧(0:Int)=ka∧(0:Int)=kf)
  omega
 ·rw [show bC ({ (default:Body) with kind:=2,bill:=b,index:=ix,act:=s }:Body)=({ kind:=2,index:=ix,at_:=0,fact:=0 }:Key) from rfl,fin]
  show (((((2:Int)=kq∧b=bill)∧ix=ki)∧(0:Int)=kf)∧(0:Int)=ka)↔(b=bill∧(2:Int)=kq∧ix=ki∧(0:Int)=ka∧(0:Int)=kf)
  omega
 ·rw [show bC ({ (default:Body) with kind:=3,bill:=b,index:=ix,alter:=s }:Body)=({ kind:=3,index:=ix,at_:=0,fact:=0 }:Key) from rfl,fin]
  show (((((3:Int)=kq∧b=bill)∧ix=ki)∧(0:Int)=kf)∧(0:Int)=ka)↔(b=bill∧(3:Int)=kq∧ix=ki∧(0:Int)=ka∧(0:Int)=kf)
  omega
 ·rw [show bC ({ (default:Body) with kind:=4,bill:=b,index:=0,fact:=s }:Body)=({ kind:=4,index:=0,at_:=s.at_,fact:=s.kind }:Key) from rfl,fin]
  show (((((4:Int)=kq∧b=bill)∧(0:Int)=ki)∧s.kind=kf)∧s.at_=ka)↔(b=bill∧(4:Int)=kq∧(0:Int)=ki∧s.at_=ka∧s.kind=kf)
  omega
theorem F5 {l:List ah} {bill day:Int} (hi:∀ a,a∈l→a.report.dT) (k:Key) {x:Body × Bool} (h:UH (aB l day) (F4 k bill) x):x.2=sG Key.K (aR l bill day) k∧(x.2=true→x.1=gw Key.K (aR l bill day) k Body.Z∧x.1.kind=k.kind):=by
 have hR:=(ui hi (day:=day)).2
 have hA:∀ b,xL (aB l day) (F4 k bill) b↔cV Key.K (aR l bill day) k=some b:=fun b=>by
  rw [B4]
  unfold xL abx
  constructor
  ·rintro ⟨⟨y,hy,h1,h2⟩,h3⟩
   exact ⟨⟨y,hy,(tA (hR y hy).2 k bill).1 h1,h2⟩,fun z hz hs=>h3 z hz ((tA (hR z hz).2 k bill).2 hs)⟩
  ·rintro ⟨⟨y,hy,h1,h2⟩,h3⟩
   exact ⟨⟨y,hy,(tA (hR y hy).2 k bill).2 h1,h2⟩,fun z hz hs=>h3 z hz ((tA (hR z hz).2 k bill).1 hs)⟩
 cases hx:x.2 with
 | true =>
  have h1:=h.1 hx
  have h2:=(hA _).1 h1
  unfold sG gw
  rw [h2]
  refine ⟨rfl,fun _=>⟨rfl,?_⟩⟩
  obtain ⟨⟨y,hy,ha,e⟩,-⟩:=h1
  have:=((tA (hR y hy).2 k bill).1 ha).2
  rw [← e,← this]
  unfold bC iX
  simp only [Sk.da,Sk.cg]
  cases y.body.kind == 4 <;> rfl
 | false =>
  have h1:=h.2 hx
  refine ⟨?_,fun h=>by cases h⟩
  unfold sG
  cases hf:cV Key.K (aR l bill day) k with
  | none=>rfl
  | some b=>exact absurd ⟨b,(hA b).2 hf⟩ h1
theorem F6 {f:aA} {b:Body} {k:Key} (h:b.kind=k.kind):aW f b=px f k b:=by
 unfold aW mM px Ik
 simp only [Sk.cQ,Sk.da,Sk.fR,Sk.TU,Sk.cg,Ae,List.nil_append,h]
 cases h0:k.kind == 0 with
 | true=>rfl
 | false =>
  rw [cond_false,cond_false]
  have gN:∀ {a c:Int},a≠c→(k.kind == a)=true→(k.kind == c)=false:=fun hac h1=>by
   have:=eq_of_beq h1
   rw [this]
   exact beq_eq_false_iff_ne.2 hac
  cases h1:k.kind == 1 with
  | true=>rw [gN (by decide:(1:Int)≠3) h1,gN (by decide:(1:Int)≠2) h1,gN (by decide:(1:Int)≠4) h1]; rfl
  | false =>
   cases h3:k.kind == 3 with
   | true=>rw [gN (by decide:(3:Int)≠2) h3,gN (by decide:(3:Int)≠4) h3]; rfl
   | false =>
    cases h2:k.kind == 2 with
    | true=>rw [gN (by decide:(2:Int)≠4) h2]; rfl
    | false =>
     cases h4:k.kind == 4 <;> rfl
theorem lh {c:Bool} {z y:Int} (hz:z≠0):((bif c then z else y)=0)↔(c=false∧y=0):=by cases c <;> simp [hz]
theorem UP (x lo up:Int):ba x lo up=true↔lo≤x∧x≤up:=by
 have e:ba x lo up=(decide (lo≤x)&&decide (x≤up)):=rfl
 rw [e,Bool.and_eq_true,decide_eq_true_eq,decide_eq_true_eq]
theorem M4 {γ:Type} {n:Nat} {h:Nat→Int} {f:Int × Nat→(γ ⊕ Int) ⊕ (Int × Nat)} {d:γ ⊕ Int} {g:Int→γ} (h0:∀ i,i < n→f (0,i)=.inr (h i,i+1)) (he:f (0,n)=.inl (.inr 0)) (h1:∀ e i,e≠0→f (e,i)=.inl (.inr e)):∀ (k i:Nat) (e:Int) (m:Nat),i+k=n→k < m→∃ e',bN (iter f d m (e,i)) g=g e'∧(e'=0↔e=0∧∀ j,i≤j→j < n→h j=0)
 | k,i,e,0,_,hm=>absurd hm (by omega)
 | k,i,e,m+1,hk,hm=>by
  by_cases h:e=0
  ·subst h
   match k with
   | 0 =>
    have:i=n:=by omega
    subst this
    refine ⟨0,?_,⟨fun _=>⟨rfl,fun j a b=>by omega⟩,fun _=>rfl⟩⟩
    unfold iter
    rw [he]
    rfl
   | k+1 =>
    obtain ⟨e',a,b⟩:=M4 h0 he h1 k (i+1) (h i) m (by omega) (by omega)
    refine ⟨e',?_,b.trans ⟨fun ⟨c1,c2⟩=>⟨rfl,fun j j1 j2=>?_⟩,fun ⟨_,c2⟩=>⟨c2 i (Nat.le_refl _) (by omega),fun j j1 j2=>c2 j (by omega) j2⟩⟩⟩
    ·unfold iter
     rw [h0 i (by omega)]
     exact a
    ·by_cases e:j=i
     ·rw [e]; exact c1
     ·exact c2 j (by omega) j2
  ·refine ⟨e,?_,⟨fun h'=>absurd h' h,fun h'=>absurd h'.1 h⟩⟩
   unfold iter
   rw [h1 e i h]
   rfl
theorem B5 {f:aA} {i:Nat} (hi:i < f.facts.length) (hl:f.facts.length≤1000000) (hs:f.af.length≤1000000):tz f ((i:Nat):Int)=0↔Nz f.af.length (f.facts.getD i default)∧(i≠0→WI (f.facts.getD (i - 1) default) (f.facts.getD i default)):=by
 unfold tz mQ
 simp only [Sk.fR,Sk.da,Sk.cg,iM.Cq,kk,kp,aj,bw.dep,bw.wh,Int.toNat_natCast]
 rw [lh (by decide:(1:Int)≠0)]
 simp only [Bool.or_eq_false_iff,Bool.not_eq_false',UP]
 have hw1:bI (((f.af.length:Nat):Int) - 1)=((f.af.length:Nat):Int) - 1:=aD (by omega) (by omega)
 have hw2:bI (((i:Nat):Int) - 1)=((i:Nat):Int) - 1:=aD (by omega) (by omega)
 rw [hw1,hw2,show (((i:Nat):Int) - 1).toNat=i - 1 by omega]
 unfold Nz WI
 by_cases h:i=0
 ·subst h
  rw [show decide ((((0:Nat):Nat):Int) > 0)=false by decide,cond_false]
  simp
  omega
 ·rw [show decide (((i:Nat):Int) > 0)=true by rw [decide_eq_true_eq]; omega,cond_true,lh (by decide:(5:Int)≠0)]
  simp only [Bool.or_eq_false_iff,Bool.and_eq_false_iff,decide_eq_false_iff_not,beq_eq_false_iff_ne]
  constructor
  ·rintro ⟨⟨⟨a1,a2⟩,a3⟩,⟨b1,b2⟩,-⟩
   refine ⟨⟨a1,by omega,by omega⟩,fun _=>?_⟩
   rcases b2 with b2 | b2
   ·exact .inl (by omega)
   ·by_cases e:(f.facts.getD (i - 1) default).at_=(f.facts.getD i default).at_
    ·exact .inr ⟨e,by omega⟩
    ·exact .inl (by omega)
  ·rintro ⟨⟨a1,a2,a3⟩,b⟩
   have b:=b h
   refine ⟨⟨⟨a1,by omega⟩,by omega⟩,⟨?_,?_⟩,trivial⟩
   ·rcases b with b | ⟨b,-⟩ <;> omega
   ·rcases b with b | ⟨b,b2⟩
    ·exact .inl (by omega)
    ·exact .inr (by omega)
theorem WT {n:Nat} {F:List Fact}:Sf n F↔∀ i,i < F.length→Nz n (F.getD i default)∧(i≠0→WI (F.getD (i - 1) default) (F.getD i default)):=by
 constructor
 ·intro h i hi
  refine ⟨h.1 _ (eR hi),fun h0=>?_⟩
  have:=List.pairwise_iff_getElem.1 h.2 (i - 1) i (by omega) hi (by omega)
  rwa [show F.getD (i - 1) default=F[i - 1] by simp [List.getD,show i - 1 < F.length by omega],show F.getD i default=F[i] by simp [List.getD,hi]]
 ·intro h
  have key:∀ k,k≤F.length→Sf n (F.take k):=by
   intro k
   induction k with
   | zero=>intro _; exact ⟨fun x hx=>by simp at hx,by simp⟩
   | succ k ih=>intro hk; exact (ih (by omega)).push hk (h k hk).1 (h k hk).2
  have:=key F.length (Nat.le_refl _)
  rwa [List.take_length] at this
theorem Iq (f:aA) (i p:Int):Kc f i p=pK f i p:=rfl
theorem pW (x lo up:Int):ba x lo up=bj x lo up:=by
 have e:bj x lo up=(decide (x≥lo)&&decide (x≤up)):=rfl
 have e2:ba x lo up=(decide (lo≤x)&&decide (x≤up)):=rfl
 rw [e,e2]
theorem Pa {r:ai} {f:aA} {a:cd} (hk:0≤a.kind∧a.kind≤9):wR r f a=nJ r f a:=by
 unfold wR iK nJ iI
 simp only [Sk.fR,Sk.da,Sk.cQ,Sk.cg,iM.Cq,kk,kp,aj,qK,aP,fU,bw.dep,bw.wh,Ae,Iq,pW]
 have Ce:bj a.sum 1 1099511627776=(bj a.sum 0 1099511627776&&decide (a.sum > 0)):=by
  rw [Bool.eq_iff_iff,rP,Bool.and_eq_true,rP,decide_eq_true_eq]
  omega
 have hf:bj a.form 0 1=((a.form == 0)||(a.form == 1)):=by
  rw [Bool.eq_iff_iff,rP,Bool.or_eq_true,beq_iff_eq,beq_iff_eq]
  omega
 rw [Ce,hf]
 generalize bj a.fu 0 (bI (((r.aQ.length:Nat):Int) - 1))=w
 generalize bj a.cH 0 (bI (((r.aQ.length:Nat):Int) - 1))=t
 generalize bj a.at_ 0 (bI (((f.af.length:Nat):Int) - 1))=p
 generalize pK f a.at_ a.part=q
 generalize bj a.sum 0 1099511627776=s
 generalize ((f.af.getD a.at_.toNat default).fu == a.fu)=o
 have hk:a.kind=0∨a.kind=1∨a.kind=2∨a.kind=3∨a.kind=4∨a.kind=5∨a.kind=6∨a.kind=7∨a.kind=8∨a.kind=9:=by omega
 simp only [bne]
 generalize (a.form == 0)=f0
 generalize (a.form == 1)=f1
 generalize (a.at_ == -1)=n1
 generalize (a.sum == 0)=s0
 generalize (a.cH == -1)=t1
 generalize decide (a.sum > 0)=s1
 clear Ce hf
 rcases hk with k | k | k | k | k | k | k | k | k | k <;> rw [k] <;> clear k <;> cases w <;> cases f0 <;> cases t <;> cases p <;> simp <;> cases q <;> simp [Bool.and_assoc]
theorem DG (a b d:Int):oU a b≤d↔a≤d∧b≤d:=by unfold oU; split <;> omega
theorem z13 (c:Bool):((bif c then (13:Int) else 0)=0)↔c=false:=by cases c <;> simp
theorem UQ {D B S P:Int} {a c:Bool}:(¬ D < B∧¬ D > 100000∧(bN (bif a then (bif decide (D < S) then (.inl 13:Int ⊕ Unit) else .inr ()) else .inr ()) fun _=>bif c then bif decide (D < P) then 13 else 0 else 0)=0)↔((bif c then oU (bif a then oU B S else B) P else bif a then oU B S else B)≤D∧D≤100000):=by
 cases a with
 | false =>
  cases c with
  | false =>
   show (¬ D < B∧¬ D > 100000∧(0:Int)=0)↔(B≤D∧D≤100000)
   omega
  | true =>
   show (¬ D < B∧¬ D > 100000∧(bif decide (D < P) then (13:Int) else 0)=0)↔(oU B P≤D∧D≤100000)
   rw [z13,DG,decide_eq_false_iff_not]
   omega
 | true =>
  have e:∀ k:Unit→Int,bN (bif decide (D < S) then (.inl 13:Int ⊕ Unit) else .inr ()) k=bif decide (D < S) then 13 else k ():=fun k=>by cases decide (D < S) <;> rfl
  cases c with
  | false =>
   show (¬ D < B∧¬ D > 100000∧bN (bif decide (D < S) then (.inl 13:Int ⊕ Unit) else .inr ()) (fun _=>(0:Int))=0)↔(oU B S≤D∧D≤100000)
   rw [e,z13,DG,decide_eq_false_iff_not]
   omega
  | true =>
   show (¬ D < B∧¬ D > 100000∧bN (bif decide (D < S) then (.inl 13:Int ⊕ Unit) else .inr ()) (fun _=>bif decide (D < P) then (13:Int) else 0)=0)↔(oU (oU B S) P≤D∧D≤100000)
   rw [e,lh (by decide:(13:Int)≠0),z13,DG,DG,decide_eq_false_iff_not,decide_eq_false_iff_not]
   omega
theorem F7 {r:ai} {f:aA} {i:Nat} (hi:i < f.bq.length) (hl:f.bq.length≤1000000) (hs:f.af.length≤40):tw r f ((i:Nat):Int)=0↔F3 r f i=true:=by
 unfold tw j6
 simp only [Sk.fR,Sk.da,Sk.cQ,Sk.cg,iM.Cq,kk,kp,aj,rN,bw.dep,bw.wh,Int.toNat_natCast,pW]
 unfold F3
 rw [lh (by decide:(15:Int)≠0),lh (by decide:(1:Int)≠0),lh (by decide:(14:Int)≠0),lh (by decide:(13:Int)≠0)]
 simp only [Bool.or_eq_false_iff,Bool.not_eq_false',Bool.and_eq_true,and_assoc]
 refine and_congr_right fun _=>and_congr_right fun _=>and_congr_right fun hk=>?_
 rw [Pa ((rP _ _ _).1 hk)]
 refine and_congr_right fun ha=>?_
 have Aq:(f.bq.getD i default).at_ = -1∨0≤(f.bq.getD i default).at_:=(vO r f (f.bq.getD i default) hs ha).1.imp id fun h=>h.1
 have hw2:bI (((i:Nat):Int) - 1)=((i:Nat):Int) - 1:=aD (by omega) (by omega)
 rw [rP]
 unfold Kl
 simp only [decide_eq_false_iff_not]
 have e:((f.bq.getD i default).at_ != -1)=decide ((f.bq.getD i default).at_≥0):=by
  rw [Bool.eq_iff_iff,bne_iff_ne,decide_eq_true_eq]
  omega
 rw [e]
 exact UQ
theorem Ko (b:dV):wP b=nW b:=by
 unfold wP mO nW gY
 simp only [Sk.cQ,Sk.da,Sk.cg,Ae]
 cases h0:b.bp.kind == 0 <;> cases h4:b.bp.kind == 4 <;> cases h1:b.bp.kind == 1 <;> cases h2:b.bp.kind == 2 <;> cases h3:b.bp.kind == 3 <;> simp
theorem Pb (r:ai) (b:dV):Bw r b=bif eo r != 0 then eo r else bif (((((((!bW b.cD ((r.aQ.length:Nat):Int))||(!bW b.cL ((r.aQ.length:Nat):Int)))||(!((b.cE == (-1))||bW b.cE ((r.aQ.length:Nat):Int))))||(!((b.need == (-1))||bW b.need ((r.aQ.length:Nat):Int))))||(!bW b.bh ((r.aM.length:Nat):Int)))||(!bW b.bn ((r.aL.length:Nat):Int)))||(!bW b.tE ((r.aL.length:Nat):Int))) then 1 else bif (((((decide (b.sum < 1))||(decide (b.sum > 1099511627776)))||(!((decide (b.day≥0))&&(decide (b.day≤100000)))))||(decide (b.iR < 0)))||(decide (b.iR > 1000))) then 3 else bif ((decide (b.parts < 1))||(decide (b.parts > 4))) then 15 else bif ((((decide (b.flags < 0))||(decide (b.flags > 7)))||((b.cE == (-1))&&((Cp .i64 b.flags 4) != 0)))||(!wP b)) then 2 else bif b.bp.kind != 4 then 0 else (qJ r b.bn b.tE).2:=rfl
theorem RP (r:ai) (b:dV):dW r b=bif dt r != 0 then dt r else bif ((((!(((bW b.cD ((r.aQ.length:Nat):Int)&&bW b.cL ((r.aQ.length:Nat):Int))&&((b.cE == (-1))||bW b.cE ((r.aQ.length:Nat):Int)))&&((b.need == (-1))||bW b.need ((r.aQ.length:Nat):Int))))||(!bW b.bh ((r.aM.length:Nat):Int)))||(!bW b.bn ((r.aL.length:Nat):Int)))||(!bW b.tE ((r.aL.length:Nat):Int))) then 1 else bif ((((((decide (b.sum < 1))||(decide (b.sum > 1099511627776)))||(decide (b.day < 0)))||(decide (b.day > 100000)))||(decide (b.iR < 0)))||(decide (b.iR > 1000))) then 3 else bif ((decide (b.parts < 1))||(decide (b.parts > 4))) then 15 else bif ((((decide (b.flags < 0))||(decide (b.flags > 7)))||(((Cp .i64 b.flags 4) != 0)&&(b.cE == (-1))))||(!nW b)) then 2 else bif b.bp.kind == 4 then (mE r b.bn b.tE).2 else 0:=rfl
theorem M5 {r:ai} {b:dV} (h1:eo r=0) (h2:dt r=0):Bw r b=dW r b:=by
 rw [Pb,RP,h1,h2,Ko,MY]
 have q1:(!((decide (b.day≥0))&&(decide (b.day≤100000))))=((decide (b.day < 0))||(decide (b.day > 100000))):=by
  rw [Bool.eq_iff_iff]
  simp only [Bool.not_eq_true',Bool.and_eq_false_iff,Bool.or_eq_true,decide_eq_true_eq,decide_eq_false_iff_not]
  omega
 have c1:∀ x1 x2 x3 x4 x5 x6 x7:Bool,(((((((!x1)||(!x2))||(!x3))||(!x4))||(!x5))||(!x6))||(!x7))=((((!(((x1&&x2)&&x3)&&x4))||(!x5))||(!x6))||(!x7)):=by decide
 have c2:∀ a b c d e f:Bool,((((a||b)||(c||d))||e)||f)=(((((a||b)||c)||d)||e)||f):=by decide
 have c3:∀ (c:Bool) (x:Int),(bif !c then 0 else x)=bif c then x else 0:=fun c x=>by cases c <;> rfl
 rw [q1,c1,c2,Bool.and_comm (b.cE == -1),show (b.bp.kind != 4) = !(b.bp.kind == 4) from rfl,c3]
theorem or1 {n:Int} (h:aK n):((V5 .i64 n 1) == 1)=((n == 0)||(n == 1)):=by
 have hb:IntKind.i64.bits=64:=rfl
 have hx:((BitVec.ofInt 64 n).toNat:Int)=n % 18446744073709551616:=by
  rw [BitVec.toNat_ofInt]
  exact Int.toNat_of_nonneg (Int.emod_nonneg _ (by decide))
 have cI:=(BitVec.ofInt 64 n).isLt
 generalize hX:(BitVec.ofInt 64 n).toNat=X at hx cI
 have e:V5 .i64 n 1=bI ((X ||| 1:Nat):Int):=by
  show bI ((BitVec.ofInt 64 n ||| BitVec.ofInt 64 1).toNat:Int)=_
  rw [BitVec.toNat_or,hX]
  rfl
 have Az:X≤X ||| 1:=Nat.left_le_or
 have hl2:(X ||| 1) < 18446744073709551616:=Nat.or_lt_two_pow (n:=64) cI (by decide)
 have h01:(X ||| 1)=1↔X=0∨X=1:=by
  constructor
  ·intro h
   rw [h] at Az
   omega
  ·rintro (rfl | rfl) <;> rfl
 rw [e]
 generalize (X ||| 1)=Y at hl2 h01
 have hw:bI ((Y:Nat):Int)=1↔Y=1:=by
  unfold bI IntKind.wrap
  simp only [hb]
  have p64:(2:Int) ^ 64=18446744073709551616:=rfl
  have p63:(2:Int) ^ (64 - 1)=9223372036854775808:=rfl
  rw [p64,p63,Int.emod_eq_of_lt (by omega) (by omega),show IntKind.i64.signed=true from rfl]
  simp only [Bool.true_and,decide_eq_true_eq]
  split <;> omega
 rw [Bool.eq_iff_iff,beq_iff_eq,Bool.or_eq_true,beq_iff_eq,beq_iff_eq,hw,h01]
 omega
theorem adO {n:Int} (h:0≤n∧n≤7):((Cp .i64 n 6) != 6)=(!((((bI (n.tdiv 2)).tmod 2) == 1)&&(((bI (n.tdiv 4)).tmod 2) == 1))):=by
 have:n=0∨n=1∨n=2∨n=3∨n=4∨n=5∨n=6∨n=7:=by omega
 rcases this with rfl | rfl | rfl | rfl | rfl | rfl | rfl | rfl <;> decide
theorem M6 {f:aA} {i:Nat} (K:List Int):rG f ((i:Nat):Int) K=(l5 f ((i:Nat):Int)&&eC K (f.af.getD (f.af.getD i default).for_.toNat default).kind):=by
 have e:l5 f ((i:Nat):Int)=(ba (f.af.getD i default).for_ 0 (bI (((i:Nat):Int) - 1))&&Kc f (f.af.getD i default).for_ (f.af.getD i default).part):=rfl
 rw [UL,e,pW,Iq]
 rfl
theorem abz (v:Int):eC [0,1,2,4] v=true↔v=0∨v=1∨v=2∨v=4:=by
 refine (oL [0,1,2,4] v).trans ⟨fun ⟨q,h1,h2⟩=>?_,fun h=>?_⟩
 ·have h1:q < 4:=h1
  have:q=0∨q=1∨q=2∨q=3:=by omega
  rcases this with rfl | rfl | rfl | rfl
  ·exact .inl (eq_of_beq h2).symm
  ·exact .inr (.inl (eq_of_beq h2).symm)
  ·exact .inr (.inr (.inl (eq_of_beq h2).symm))
  ·exact .inr (.inr (.inr (eq_of_beq h2).symm))
 ·rcases h with rfl | rfl | rfl | rfl
  ·exact ⟨0,by decide,by decide⟩
  ·exact ⟨1,by decide,by decide⟩
  ·exact ⟨2,by decide,by decide⟩
  ·exact ⟨3,by decide,by decide⟩
theorem abA (v:Int):eC [0,2] v=true↔v=0∨v=2:=by
 refine (oL [0,2] v).trans ⟨fun ⟨q,h1,h2⟩=>?_,fun h=>?_⟩
 ·have h1:q < 2:=h1
  have:q=0∨q=1:=by omega
  rcases this with rfl | rfl
  ·exact .inl (eq_of_beq h2).symm
  ·exact .inr (eq_of_beq h2).symm
 ·rcases h with rfl | rfl
  ·exact ⟨0,by decide,by decide⟩
  ·exact ⟨1,by decide,by decide⟩
theorem UR {f:aA} {i:Nat} (hi:i≤1000000) (h:l5 f ((i:Nat):Int)=true):(f.af.getD i default).for_.toNat < i:=by
 have e:l5 f ((i:Nat):Int)=(ba (f.af.getD i default).for_ 0 (bI (((i:Nat):Int) - 1))&&Kc f (f.af.getD i default).for_ (f.af.getD i default).part):=rfl
 rw [e,Bool.and_eq_true,UP,aD (by omega) (by omega)] at h
 omega
theorem Zu (i:Nat):((((i:Nat):Int) == 0):Bool)=decide (i=0):=by
 rw [Bool.eq_iff_iff,beq_iff_eq,decide_eq_true_eq]
 omega
theorem Zv (i:Nat):decide (((i:Nat):Int) > 0) = !decide (i=0):=by
 rw [Bool.eq_iff_iff,decide_eq_true_eq,Bool.not_eq_true',decide_eq_false_iff_not]
 omega
theorem M7 {r:ai} {f:aA} {i:Nat} (hs:i≤1000000) (Cd:aK (f.af.getD i default).flags) (hk:∀ j,j < i→0≤(f.af.getD j default).kind∧(f.af.getD j default).kind≤4) (hd:i=0→(f.af.getD i default).day=f.bill.day):vV r f ((i:Nat):Int)=gG r f ((i:Nat):Int):=by
 unfold vV j5 gG fE
 simp only [Sk.fR,Sk.da,Sk.cQ,Sk.cg,iM.Cq,kk,kp,aj,rL,aP,k5,bw.dep,bw.wh,bw.ak,Int.toNat_natCast,pW,M6,Zu,Zv,or1 Cd,bne]
 have mZ:(f.af.getD i default).kind=0∨(f.af.getD i default).kind=1∨(f.af.getD i default).kind=2∨(f.af.getD i default).kind=3∨(f.af.getD i default).kind=4∨((f.af.getD i default).kind≠0∧(f.af.getD i default).kind≠1∧(f.af.getD i default).kind≠2∧(f.af.getD i default).kind≠3∧(f.af.getD i default).kind≠4):=by omega
 rcases mZ with e | e | e | e | e | ⟨e0,e1,e2,e3,e4⟩
 ·simp only [e,Int.reduceBEq,cond_false,cond_true]
  by_cases h0:i=0
  ·rw [show ((f.af.getD i default).day == f.bill.day)=true by rw [hd h0]; exact beq_self_eq_true _]
   simp only [h0,decide_true]
   generalize ((f.af.getD 0 default).for_ == -1)=n1
   generalize ((f.af.getD 0 default).cH == -1)=n2
   cases n1 <;> cases n2 <;> simp
  ·simp [h0]
 ·simp only [e,Int.reduceBEq,cond_false,cond_true]
  by_cases h0:i=0
  ·simp [h0]
  ·simp only [h0,decide_false]
   generalize ((f.af.getD i default).for_ == -1)=n1
   generalize ((f.af.getD i default).cH == -1)=n2
   cases n1 <;> cases n2 <;> simp [Bool.and_assoc]
 ·simp only [e,Int.reduceBEq,cond_false,cond_true]
  by_cases h0:i=0
  ·simp [h0]
  ·simp only [h0,decide_false]
   generalize ((f.af.getD i default).for_ == -1)=n1
   cases hf:bj (f.af.getD i default).flags 0 7 with
   | false=>cases n1 <;> simp
   | true =>
    have h6:=adO ((rP _ _ _).1 hf)
    unfold bne at h6
    rw [h6]
    cases n1 <;> simp
 ·simp only [e,Int.reduceBEq,cond_false,cond_true]
  by_cases h0:i=0
  ·simp [h0]
  ·simp only [h0,decide_false]
   rcases Bool.eq_false_or_eq_true (l5 f ((i:Nat):Int)) with hb | hb
   ·have hj:=hk _ (UR hs hb)
    have hc:=abz (f.af.getD (f.af.getD i default).for_.toNat default).kind
    have h3:eC [0,1,2,4] (f.af.getD (f.af.getD i default).for_.toNat default).kind = !((f.af.getD (f.af.getD i default).for_.toNat default).kind == 3):=by
     rw [Bool.eq_iff_iff,hc,Bool.not_eq_true',beq_eq_false_iff_ne]
     omega
    simp only [hb,h3]
    generalize ((f.af.getD i default).cH == -1)=n2
    generalize ((f.af.getD i default).sum == 0)=n3
    generalize ((f.af.getD i default).flags == 0)=n4
    cases n2 <;> cases n3 <;> cases n4 <;> simp
   ·simp only [hb]
    generalize ((f.af.getD i default).cH == -1)=n2
    cases n2 <;> simp
 ·simp only [e,Int.reduceBEq,cond_false,cond_true]
  by_cases h0:i=0
  ·simp [h0]
  ·simp only [h0,decide_false]
   rcases Bool.eq_false_or_eq_true (l5 f ((i:Nat):Int)) with hb | hb
   ·have hc:=abA (f.af.getD (f.af.getD i default).for_.toNat default).kind
    have h3:eC [0,2] (f.af.getD (f.af.getD i default).for_.toNat default).kind=(((f.af.getD (f.af.getD i default).for_.toNat default).kind == 0)||((f.af.getD (f.af.getD i default).for_.toNat default).kind == 2)):=by
     rw [Bool.eq_iff_iff,hc,Bool.or_eq_true,beq_iff_eq,beq_iff_eq]
    simp only [hb,h3]
    generalize ((f.af.getD i default).cH == -1)=n2
    generalize bj (f.af.getD i default).sum 1 1099511627776=n3
    generalize ((f.af.getD i default).flags == 0)=n4
    generalize ((f.af.getD i default).fu == f.bill.cL)=n5
    cases n2 <;> cases n3 <;> cases n4 <;> cases n5 <;> simp
   ·simp only [hb]
    generalize ((f.af.getD i default).cH == -1)=n2
    cases n2 <;> simp
 ·simp only [beq_eq_false_iff_ne.2 e0,beq_eq_false_iff_ne.2 e1,beq_eq_false_iff_ne.2 e2,beq_eq_false_iff_ne.2 e3,beq_eq_false_iff_ne.2 e4,cond_false]
  cases (!decide (i=0) == false||!false&&!(f.af.getD i default).cH == -1) <;> cases (!false&&!false&&!(f.af.getD i default).for_ == -1) <;> rfl
def RQ (f:aA) (q:Nat):Nat→Int × Bool
 | 0=>(f.bill.day,false)
 | k+1=>(((dz f.af 0 q).getD k default).day,(RQ f q k).2||(((((f.af.getD q default).kind) == 1)&&((((dz f.af 0 q).getD k default).kind) == 1))&&((((dz f.af 0 q).getD k default).part) == ((f.af.getD q default).part))))
theorem Qh {f:aA} {q k:Nat} (h:k < q):(dz f.af 0 q).getD k default=f.af.getD k default:=by
 unfold dz
 simp [List.getD,h]
theorem WU (f:aA) {q:Nat} (h:q≠0):(RQ f q q).1=(f.af.getD (q - 1) default).day:=by
 obtain ⟨k,rfl⟩:∃ k,q=k+1:=⟨q - 1,by omega⟩
 show ((dz f.af 0 (k+1)).getD k default).day=_
 rw [Qh (by omega)]
 rfl
theorem Qi (f:aA) (q:Nat):∀ k,k≤q→((RQ f q k).2=false↔∀ j,j < k→¬ ((f.af.getD q default).kind=1∧(f.af.getD j default).kind=1∧(f.af.getD j default).part=(f.af.getD q default).part))
 | 0,_=>⟨fun _ j hj=>absurd hj (Nat.not_lt_zero _),fun _=>rfl⟩
 | k+1,hk=>by
  have ih:=Qi f q k (by omega)
  show ((RQ f q k).2||_)=false↔_
  rw [Bool.or_eq_false_iff,ih,Qh (by omega)]
  constructor
  ·rintro ⟨h1,h2⟩ j hj ⟨a,b,c⟩
   by_cases e:j=k
   ·subst e
    rw [a,b,c] at h2
    simp at h2
   ·exact h1 j (by omega) ⟨a,b,c⟩
  ·intro h
   refine ⟨fun j hj=>h j (by omega),?_⟩
   have:=h k (by omega)
   rw [Bool.eq_false_iff]
   intro h2
   simp only [Bool.and_eq_true,beq_iff_eq] at h2
   exact this ⟨h2.1.1,h2.1.2,h2.2⟩
def sgG (r:ai) (f:aA) (i:Nat) (fit:Bool) (b:Int × Bool):Int:=bif (!bj (f.af.getD i default).day b.1 100000)||((((i:Nat):Int) == 0)&&((f.af.getD i default).day != b.1)) then 13 else bif !fit then 14 else bif b.2 then 5 else 0
theorem sign_eq (r:ai) (f:aA) (i:Nat):gI r f ((i:Nat):Int)=bif !bj (f.af.getD i default).part 0 (bI (f.bill.parts - 1)) then 15 else bif (!bj (f.af.getD i default).fu 0 (bI (((r.aQ.length:Nat):Int) - 1)))||(!bj (f.af.getD i default).bn 0 (bI (((r.aL.length:Nat):Int) - 1))) then 1 else sgG r f i (gG r f ((i:Nat):Int)) (RQ f i i):=by
 unfold gI gH
 simp only [Sk.cQ,Sk.eV,Sk.fA,Sk.da,Sk.fR,Sk.iC,Sk.cg,iM.Cq,kk,kp,bw.dep,bw.wh,aP,pL,Int.toNat_natCast]
 have key:=ef (γ:=Int) (δ:=Int × Bool) (g:=sgG r f i (gG r f ((i:Nat):Int))) (d:=default) (dz f.af 0 i).length (fun k=>((RQ f i k).1,(RQ f i k).2,k)) (RQ f i (dz f.af 0 i).length) (f:=fun i5=>bif decide ((i5.2.2:Int) < (((dz f.af 0 i).length:Nat):Int)) then .inr (((dz f.af 0 i).getD i5.2.2 default).day,i5.2.1||(((((f.af.getD i default).kind) == 1)&&((((dz f.af 0 i).getD i5.2.2 default).kind) == 1))&&((((dz f.af 0 i).getD i5.2.2 default).part) == ((f.af.getD i default).part))),i5.2.2+1) else .inl (.inr (i5.1,i5.2.1))) (fun k hk=>(go_in hk).trans rfl) cU (Nat.lt_succ_self _)
 cases (!bj (f.af.getD i default).part 0 (bI (f.bill.parts - 1))) with
 | true=>rfl
 | false =>
  rw [cond_false,cond_false]
  cases (!bj (f.af.getD i default).fu 0 (bI (((r.aQ.length:Nat):Int) - 1)))||(!bj (f.af.getD i default).bn 0 (bI (((r.aL.length:Nat):Int) - 1))) with
  | true=>rfl
  | false =>
   rw [cond_false,cond_false]
   exact key.trans (congrArg (fun q=>sgG r f i (gG r f ((i:Nat):Int)) (RQ f i q)) (lT f.af 0 i))
abbrev twR (f:aA) (i j:Nat):Prop:=(f.af.getD i default).kind=1∧(f.af.getD j default).kind=1∧(f.af.getD j default).part=(f.af.getD i default).part
theorem WV {f:aA} {i:Nat} (hi:i≤1000000) {d:Int ⊕ Unit} {m:Nat} (hm:i < m):bN (iter (fun i7:Int=>bif ((decide (i7 < ((i:Nat):Int)))&&(((f.af.getD i default).kind) == 1)) then (bif ((((f.af.getD i7.toNat default).kind) == 1)&&(((f.af.getD i7.toNat default).part) == ((f.af.getD i default).part))) then (.inl (.inl 5):(Int ⊕ Unit) ⊕ Int) else .inr (bI (i7+1))) else .inl (.inr ())) d m (0:Int)) (fun _=>(0:Int))=0↔∀ j,j < i→¬ twR f i j:=by
 by_cases h1:(f.af.getD i default).kind=1
 ·rw [show ((f.af.getD i default).kind == 1)=true by rw [h1]; rfl]
  have hw:∀ k:Nat,k < i→bI (((k:Nat):Int)+1)=((k+1:Nat):Int):=fun k hk=>by rw [aD (by omega) (by omega)]; omega
  have Ce:∀ k:Nat,k < i→(decide (((k:Nat):Int) < ((i:Nat):Int))&&true)=true:=fun k hk=>by rw [Bool.and_true,decide_eq_true_eq]; omega
  have Vs:(decide (((i:Nat):Int) < ((i:Nat):Int))&&true)=false:=by rw [Bool.and_true,decide_eq_false_iff_not]; omega
  constructor
  ·intro h j hj ht
   obtain ⟨g,-⟩:=dx i (fun k=>((k:Nat):Int)) () h (fun k hk=>by
    rw [Ce k hk,cond_true,Int.toNat_natCast,hw k hk]
    cases ((((f.af.getD k default).kind) == 1)&&(((f.af.getD k default).part) == ((f.af.getD i default).part))) with
    | true=>exact .inl ⟨5,rfl,by decide⟩
    | false=>exact .inr rfl) (by rw [Vs,cond_false]) hm
   have g:=g j hj
   rw [Ce j hj,cond_true,Int.toNat_natCast,ht.2.1,ht.2.2,beq_self_eq_true,beq_self_eq_true] at g
   cases g
  ·intro h
   refine ef i (fun k=>((k:Nat):Int)) () (fun k hk=>?_) (by rw [Vs,cond_false]) hm
   rw [Ce k hk,cond_true,Int.toNat_natCast,hw k hk]
   have:((((f.af.getD k default).kind) == 1)&&(((f.af.getD k default).part) == ((f.af.getD i default).part)))=false:=by
    rw [Bool.eq_false_iff]
    intro h2
    rw [Bool.and_eq_true,beq_iff_eq,beq_iff_eq] at h2
    exact h k hk ⟨h1,h2.1,h2.2⟩
   rw [this,cond_false]
 ·refine ⟨fun _ j _ ht=>h1 ht.1,fun _=>?_⟩
  obtain ⟨m,rfl⟩:∃ q,m=q+1:=⟨m - 1,by omega⟩
  unfold iter
  rw [show ((f.af.getD i default).kind == 1)=false from beq_eq_false_iff_ne.2 h1,Bool.and_false,cond_false]
  rfl
theorem brU {c:Bool} {k:Unit→Int}:bN (bif c then (.inl 13:Int ⊕ Unit) else .inr ()) k=bif c then 13 else k ():=by cases c <;> rfl
theorem B6 {r:ai} {f:aA} {i:Nat} (hs:i≤1000000) (Cd:aK (f.af.getD i default).flags) (hk:∀ j,j < i→0≤(f.af.getD j default).kind∧(f.af.getD j default).kind≤4):pV r f ((i:Nat):Int)=0↔gI r f ((i:Nat):Int)=0:=by
 rw [sign_eq]
 unfold pV iJ sgG
 simp only [Sk.cQ,Sk.eV,Sk.fA,Sk.da,Sk.fR,Sk.iC,Sk.cg,iM.Cq,kk,kp,bw.dep,bw.wh,bw.ak,aj,uD,Int.toNat_natCast,pW]
 rw [lh (by decide:(15:Int)≠0),lh (by decide:(1:Int)≠0),lh (by decide:(13:Int)≠0),lh (by decide:(15:Int)≠0),lh (by decide:(1:Int)≠0),lh (by decide:(13:Int)≠0),lh (by decide:(14:Int)≠0)]
 refine and_congr_right fun _=>and_congr_right fun _=>?_
 have hT:=WV (f:=f) hs (d:=default) (m:=(((i:Nat):Int) - 0).toNat+1) (by omega)
 generalize bN (iter _ _ _ (0:Int)) _=W at hT ⊢
 have hS:=Qi f i i (Nat.le_refl _)
 have h5:((bif (RQ f i i).2 then (5:Int) else 0)=0)↔(RQ f i i).2=false:=by cases (RQ f i i).2 <;> simp
 rw [h5,hS]
 have hF:(i=0→(f.af.getD i default).day=f.bill.day)→vV r f ((i:Nat):Int)=gG r f ((i:Nat):Int):=M7 hs Cd hk
 have hW:∀ c:Bool,((bif !c then (14:Int) else W)=0)↔((!c)=false∧W=0):=fun c=>by cases c <;> simp
 by_cases h0:i=0
 ·subst h0
  have e1:(RQ f 0 0).1=f.bill.day:=rfl
  rw [e1,show decide ((((0:Nat):Nat):Int) > 0)=false by decide,cond_false]
  rw [show ∀ k:Unit→Int,bN (.inr ():Int ⊕ Unit) k=k () from fun _=>rfl,hW,hT]
  simp only [Bool.or_eq_false_iff,Bool.not_eq_false',rP,decide_eq_false_iff_not,show ((((0:Nat):Nat):Int) == 0)=true by decide,Bool.true_and,bne_eq_false_iff_eq]
  constructor
  ·rintro ⟨⟨a,b⟩,c,d⟩
   rw [hF fun _=>a] at c
   exact ⟨⟨⟨by omega,by omega⟩,a⟩,c,d⟩
  ·rintro ⟨⟨⟨a,b⟩,a2⟩,c,d⟩
   rw [hF fun _=>a2]
   exact ⟨⟨a2,by omega⟩,c,d⟩
 ·rw [WU f h0,show decide (((i:Nat):Int) > 0)=true by rw [decide_eq_true_eq]; omega,cond_true,brU,lh (by decide:(13:Int)≠0),hF (fun h=>absurd h h0),hW,hT,aD (by omega) (by omega),show (((i:Nat):Int) - 1).toNat=i - 1 by omega,show (((i:Nat):Int) == 0)=false from beq_eq_false_iff_ne.2 (by omega)]
  simp only [Bool.or_eq_false_iff,Bool.not_eq_false',rP,decide_eq_false_iff_not,Bool.false_and,true_and,and_true]
  constructor
  ·rintro ⟨a,b,c,d⟩
   exact ⟨⟨by omega,by omega⟩,c,d⟩
  ·rintro ⟨⟨a,b⟩,c,d⟩
   exact ⟨by omega,by omega,c,d⟩
theorem DH {n:Nat} {h:Nat→Int} {f:Int × Nat→(Int ⊕ Int) ⊕ (Int × Nat)} {d:Int ⊕ Int} {g:Int→Int} {e:Int} {m:Nat} {P:Prop} (h0:∀ i,i < n→f (0,i)=.inr (h i,i+1)) (he:f (0,n)=.inl (.inr 0)) (h1:∀ e i,e≠0→f (e,i)=.inl (.inr e)) (hm:n < m) (hg:∀ e',(e'=0↔e=0∧∀ j,j < n→h j=0)→(g e'=0↔P)):bN (iter f d m (e,0)) g=0↔P:=by
 obtain ⟨e',a,b⟩:=M4 (g:=g) (d:=d) h0 he h1 n 0 e m (by omega) hm
 rw [a]
 exact hg e' (b.trans ⟨fun ⟨x,y⟩=>⟨x,fun j hj=>y j (Nat.zero_le _) hj⟩,fun ⟨x,y⟩=>⟨x,fun j _ hj=>y j hj⟩⟩)
theorem Qj {α:Type} {i n:Nat} (h:i < n) {a b:α}:(bif (decide (((i:Nat):Int) < ((n:Nat):Int))&&((0:Int) == 0)) then a else b)=a:=by
 rw [decide_eq_true (by omega)]; rfl
theorem Kp {α:Type} {n:Nat} {a b:α}:(bif (decide (((n:Nat):Int) < ((n:Nat):Int))&&((0:Int) == 0)) then a else b)=b:=by
 rw [decide_eq_false (by omega)]; rfl
theorem Qk {α:Type} {i n:Nat} {e:Int} (h:e≠0) {a b:α}:(bif (decide (((i:Nat):Int) < ((n:Nat):Int))&&(e == 0)) then a else b)=b:=by
 rw [beq_eq_false_iff_ne.2 h,Bool.and_false]; rfl
def US (f:aA) (i:Nat):Int:=bif !bj (f.aE.getD i default).at_ (bif decide (((i:Nat):Int) > 0) then bI ((f.aE.getD (bI (((i:Nat):Int) - 1)).toNat default).at_+1) else 1) ((f.af.length:Nat):Int) then 1 else bif !bj (f.aE.getD i default).sum 1 1099511627776 then 3 else 0
theorem M8 {f:aA} {i:Nat} (hi:i≤1000000):US f i=0↔Io f.af.length f.aE i=true:=by
 unfold US Io Bx
 rw [lh (by decide:(1:Int)≠0)]
 have h3:∀ c:Bool,((bif !c then (3:Int) else 0)=0)↔c=true:=fun c=>by cases c <;> simp
 rw [h3,Bool.and_eq_true,Bool.not_eq_false']
 by_cases h:i=0
 ·subst h
  rfl
 ·rw [show decide (((i:Nat):Int) > 0)=true by rw [decide_eq_true_eq]; omega,cond_true,if_neg h,aD (n:=((i:Nat):Int) - 1) (by omega) (by omega),show (((i:Nat):Int) - 1).toNat=i - 1 by omega]
theorem RS {r:ai} {f:aA} {i:Int} (h:gG r f i=true):0≤(f.af.getD i.toNat default).kind∧(f.af.getD i.toNat default).kind≤4:=by
 refine Decidable.byContradiction fun hn=>?_
 unfold gG fE at h
 simp only [Sk.fR,Sk.da,Sk.cQ,Sk.cg] at h
 rw [show ((f.af.getD i.toNat default).kind == 0)=false from beq_eq_false_iff_ne.2 (by omega),show ((f.af.getD i.toNat default).kind == 1)=false from beq_eq_false_iff_ne.2 (by omega),show ((f.af.getD i.toNat default).kind == 2)=false from beq_eq_false_iff_ne.2 (by omega),show ((f.af.getD i.toNat default).kind == 3)=false from beq_eq_false_iff_ne.2 (by omega),show ((f.af.getD i.toNat default).kind == 4)=false from beq_eq_false_iff_ne.2 (by omega)] at h
 revert h
 generalize ((!((i == 0) == false))||_:Bool)=c1
 generalize ((_&&_)&&_:Bool)=c2
 cases c1 <;> cases c2 <;> simp
theorem Ir {r:ai} {f:aA} {i:Nat} (h:gI r f ((i:Nat):Int)=0):0≤(f.af.getD i default).kind∧(f.af.getD i default).kind≤4:=by
 rw [sign_eq] at h
 unfold sgG at h
 rw [lh (by decide:(15:Int)≠0),lh (by decide:(1:Int)≠0),lh (by decide:(13:Int)≠0),lh (by decide:(14:Int)≠0)] at h
 have h4:=h.2.2.2.1
 rw [Bool.not_eq_false'] at h4
 have:=RS h4
 rwa [Int.toNat_natCast] at this
theorem RT {r:ai} {f:aA} (hl:f.af.length≤40) (Cd:∀ s,s∈f.af→aK s.flags):(∀ j,j < f.af.length→pV r f ((j:Nat):Int)=0)↔∀ j,j < f.af.length→gI r f ((j:Nat):Int)=0:=by
 constructor
 ·intro h j
  induction j using Nat.strongRecOn with
  | ind j ih =>
   intro hj
   exact (B6 (by omega) (Cd _ (eR hj)) fun k hk=>Ir (ih k hk (by omega))).1 (h j hj)
 ·intro h j hj
  exact (B6 (by omega) (Cd _ (eR hj)) fun k hk=>Ir (h k (by omega))).2 (h j hj)
theorem M9 {r:ai} {f:aA} (h1:eo r=0) (h2:dt r=0) (Cd:∀ s,s∈f.af→aK s.flags):bL r f=0↔cO r f=0:=by
 rw [RN]
 unfold bL iL
 simp only [Sk.cQ,Sk.eV,Sk.fA,Sk.da,Sk.fR,Sk.iC,Sk.cg,iM.Cq,kk,kp,bw.dep,bw.wh,bw.ak,rK,rM,aj,uE,rO,pW,Ae,M5 h1 h2]
 rw [lh (by decide:(6:Int)≠0)]
 have hlen:((((decide (((f.af.length:Nat):Int) > 40))||(decide (((f.aE.length:Nat):Int) > 4)))||(decide (((f.bq.length:Nat):Int) > 100)))||(decide (((f.facts.length:Nat):Int) > 200)))=false↔(f.af.length≤40∧f.aE.length≤4∧f.bq.length≤100∧f.facts.length≤200):=by
  simp only [Bool.or_eq_false_iff,decide_eq_false_iff_not]
  omega
 rw [hlen]
 refine and_congr_right fun hl=>?_
 refine DH (h:=fun i=>pV r f ((i:Nat):Int)) (n:=f.af.length) (fun i hi=>Qj hi) Kp (fun e i he=>Qk he) (by omega) fun e3 b3=>?_
 refine DH (h:=US f) (n:=f.aE.length) (fun i hi=>(Qj hi).trans ?_) Kp (fun e i he=>Qk he) (by omega) fun e6 b6=>?_
 ·unfold US
  cases (!bj (f.aE.getD i default).at_ (bif decide (((i:Nat):Int) > 0) then bI ((f.aE.getD (bI (((i:Nat):Int) - 1)).toNat default).at_+1) else 1) ((f.af.length:Nat):Int)) <;> cases (!bj (f.aE.getD i default).sum 1 1099511627776) <;> rfl
 refine DH (h:=fun i=>tw r f ((i:Nat):Int)) (n:=f.bq.length) (fun i hi=>Qj hi) Kp (fun e i he=>Qk he) (by omega) fun XL Zt=>?_
 refine DH (h:=fun i=>tz f ((i:Nat):Int)) (n:=f.facts.length) (fun i hi=>Qj hi) Kp (fun e i he=>Qk he) (by omega) fun e14 Qc=>?_
 have hh:((bif ((dW r f.bill == 0)&&(((f.af.length:Nat):Int) == 0)) then (14:Int) else dW r f.bill)=0)↔(dW r f.bill=0∧f.af.length≠0):=by
  by_cases hw:dW r f.bill=0
  ·rw [hw]
   by_cases h0:f.af.length=0
   ·rw [h0]; simp
   ·rw [show ((((f.af.length:Nat):Int) == 0):Bool)=false from beq_eq_false_iff_ne.2 (by omega)]
    simp [h0]
  ·rw [show (dW r f.bill == 0)=false from beq_eq_false_iff_ne.2 hw]
   simp [hw]
 rw [Qc,Zt,b6,b3,hh,RT hl.1 Cd,UK,tn f ⟨by omega,by omega⟩,WT]
 have ha:(∀ j,j < f.aE.length→US f j=0)↔∀ j,j < f.aE.length→Io f.af.length f.aE j=true:=forall_congr' fun j=>⟨fun h hj=>(M8 (by omega)).1 (h hj),fun h hj=>(M8 (by omega)).2 (h hj)⟩
 have hc:(∀ j,j < f.bq.length→tw r f ((j:Nat):Int)=0)↔∀ j,j < f.bq.length→F3 r f j=true:=forall_congr' fun j=>⟨fun h hj=>(F7 hj (by omega) hl.1).1 (h hj),fun h hj=>(F7 hj (by omega) hl.1).2 (h hj)⟩
 have hd:(∀ j,j < f.facts.length→tz f ((j:Nat):Int)=0)↔∀ j,j < f.facts.length→Nz f.af.length (f.facts.getD j default)∧(j≠0→WI (f.facts.getD (j - 1) default) (f.facts.getD j default)):=forall_congr' fun j=>⟨fun h hj=>(B5 hj (by omega) (by omega)).1 (h hj),fun h hj=>(B5 hj (by omega) (by omega)).2 (h hj)⟩
 rw [ha,hc,hd]
 simp only [and_assoc]
def BM (r:ai) (A:List (Key × Body)) (f:aA) (used:List Body) (m:aF):Prop:=m.r=r∧m.all=A∧m.file=f∧m.used=used∧∀ s,s∈f.af→aK s.flags
theorem Na {f:aA} {b:Body} (hf:∀ s,s∈f.af→aK s.flags) (hb:aK b.sign.flags) (k:Key):∀ s,s∈(px f k b).af→aK s.flags:=by
 intro s hs
 unfold px at hs
 cases h0:k.kind == 0 with
 | true =>
  rw [h0] at hs
  have hs:s∈[XN b]:=hs
  rw [List.mem_singleton] at hs
  rw [hs]
  exact hb
 | false =>
  rw [h0,cond_false] at hs
  unfold Ik at hs
  cases h1:b.kind == 1 with
  | true =>
   rw [h1] at hs
   have hs:s∈f.af++[b.sign]:=hs
   rcases List.mem_append.1 hs with hs | hs
   ·exact hf s hs
   ·rw [List.mem_singleton] at hs
    rw [hs]
    exact hb
  | false =>
   rw [h1,cond_false] at hs
   cases h3:b.kind == 3 with
   | true=>rw [h3] at hs; exact hf s hs
   | false =>
    rw [h3,cond_false] at hs
    cases h2:b.kind == 2 with
    | true=>rw [h2] at hs; exact hf s hs
    | false =>
     rw [h2,cond_false] at hs
     cases h4:b.kind == 4 with
     | true=>rw [h4] at hs; exact hf s hs
     | false=>rw [h4] at hs; exact hf s hs
theorem RU {l:List ah} {day:Int} (hi:∀ a,a∈l→a.report.dT) {one:Body} {x:Body × Bool} (hx:UH (aB l day) one x) (h:x.2=true):aK x.1.sign.flags:=by
 obtain ⟨⟨y,hy,-,e⟩,-⟩:=hx.1 h
 have h1:=((ui hi (day:=day)).2 y hy).1
 have h2:=h1.parts.2.2.2.parts.2.2.2.2.1
 rw [e] at h2
 unfold Sign.cells at h2
 simp only [List.all_append,List.all_cons,List.all_nil,oX,Bool.and_eq_true,decide_eq_true_eq,Bool.and_true] at h2
 exact h2.2.2.2.2.2.2.2.2
theorem yA {r:ai} {l:List ah} {bill day:Int} (h1:eo r=0) (h2:dt r=0) (hi:∀ a,a∈l→a.report.dT) {f:aA} {used:List Body} {m:aF} (hm:BM r (aR l bill day) f used m) (k:Key) {x:Body × Bool} (hx:UH (aB l day) (F4 k bill) x):((x.2&&(bL r (aW f x.1) == 0))=(aq m k).1)∧((aq m k).1=true→BM r (aR l bill day) (aW f x.1) (used++[x.1]) (aq m k).2)∧((aq m k).1=false→(aq m k).2=m):=by
 obtain ⟨m1,m2,m3,m4,m5⟩:=hm
 obtain ⟨e1,e2⟩:=F5 hi k hx
 rw [add_eq]
 unfold RE
 rw [m2,← e1]
 cases Xt:x.2 with
 | false=>exact ⟨rfl,fun h=>(by cases h),fun _=>rfl⟩
 | true =>
  obtain ⟨e3,e4⟩:=e2 Xt
  have Cd:=Na m5 (RU hi hx Xt) k
  rw [← e3,m1,m3,F6 e4]
  have hC:=M9 h1 h2 Cd
  cases hp:(cO r (px f k x.1) != 0) with
  | true =>
   have gN:cO r (px f k x.1)≠0:=by simpa using hp
   refine ⟨?_,fun h=>(by cases h),fun _=>rfl⟩
   rw [beq_eq_false_iff_ne.2 (fun h=>gN (hC.1 h))]
   rfl
  | false =>
   have he:cO r (px f k x.1)=0:=by simpa using hp
   refine ⟨?_,fun _=>⟨rfl,rfl,rfl,by rw [← m4]; rfl,Cd⟩,fun h=>(by cases h)⟩
   rw [hC.2 he]
   rfl
def Reach (m1:aF) (i:Int) (m:aF):Prop:=1≤i∧i≤40∧∀ fuel,iter Hr default (fuel+(i - 1).toNat) (1,m1)=iter Hr default fuel (i,m)
theorem Reach.start (m1:aF):Reach m1 1 m1:=⟨by decide,by decide,fun _=>rfl⟩
theorem Reach.step {m1 m:aF} {i:Int} (h:Reach m1 i m) (hi:i < 40) (ha:(aq m (kS i)).1=true):Reach m1 (bI (i+1)) (aq m (kS i)).2∧(40 - bI (i+1)).toNat < (40 - i).toNat:=by
 obtain ⟨h1,h2,h3⟩:=h
 rw [aD (by omega) (by omega)]
 refine ⟨⟨by omega,by omega,fun fuel=>?_⟩,by omega⟩
 have:=h3 (fuel+1)
 rw [show fuel+(i+1 - 1).toNat=fuel+1+(i - 1).toNat by omega,this]
 have e:Hr (i,m)=.inr (i+1,(aq m (kS i)).2):=by
  unfold Hr
  simp only
  rw [ha,cond_true,aD (by omega) (by omega)]
 conv=>lhs; unfold iter
 rw [e]
theorem Reach.stop {m1 m:aF} {i:Int} (h:Reach m1 i m) (ha:(aq m (kS i)).1=false) (hm:(aq m (kS i)).2=m):iter Hr default 40 (1,m1)=.inr m:=by
 obtain ⟨h1,h2,h3⟩:=h
 have:=h3 (40 - (i - 1).toNat)
 rw [show 40 - (i - 1).toNat+(i - 1).toNat=40 by omega] at this
 rw [this]
 obtain ⟨q,hq⟩:∃ q,40 - (i - 1).toNat=q+1:=⟨40 - (i - 1).toNat - 1,by omega⟩
 rw [hq]
 have e:Hr (i,m)=.inl (.inr m):=by
  unfold Hr
  simp only
  rw [ha,cond_false,hm]
 conv=>lhs; unfold iter
 rw [e]
theorem Zw {l:List ah} {bill day:Int} (hi:∀ a,a∈l→a.report.dT) {m:aF} (hm:m.all=aR l bill day):aq m (kS 40)=(false,m):=by
 have hk:sG Key.K m.all (kS 40)=false:=by
  rw [hm]
  unfold sG
  cases hf:cV Key.K (aR l bill day) (kS 40) with
  | none=>rfl
  | some b =>
   exfalso
   obtain ⟨⟨y,hy,⟨-,hs⟩,-⟩,-⟩:=B4.1 hf
   have hR:=((ui hi (day:=day)).2 y hy).2
   have hp:=(wK y).1 hR
   rcases jP hR with ⟨r,n,d,b,p,fl,rfl⟩ | ⟨r,n,d,b,ix,s,rfl⟩ | ⟨r,n,d,b,ix,s,rfl⟩ | ⟨r,n,d,b,ix,s,rfl⟩ | ⟨r,n,d,b,s,rfl⟩
   ·exact absurd (congrArg Key.kind hs) (show ¬ (0:Int)=1 by decide)
   ·have h40:ix=40:=congrArg Key.index hs
    obtain ⟨-,-,-,-,hp⟩:=hp
    rcases hp with ⟨k,-⟩ | ⟨-,-,⟨k1,k2⟩,-⟩ | ⟨k,-⟩ | ⟨k,-⟩ | ⟨k,-⟩
    ·exact absurd k (show ¬ (1:Int)=0 by decide)
    ·have k2:ix < 40:=k2
     omega
    ·exact absurd k (show ¬ (1:Int)=2 by decide)
    ·exact absurd k (show ¬ (1:Int)=3 by decide)
    ·exact absurd k (show ¬ (1:Int)=4 by decide)
   ·exact absurd (congrArg Key.kind hs) (show ¬ (2:Int)=1 by decide)
   ·exact absurd (congrArg Key.kind hs) (show ¬ (3:Int)=1 by decide)
   ·exact absurd (congrArg Key.kind hs) (show ¬ (4:Int)=1 by decide)
 rw [add_eq]
 unfold RE
 rw [hk]
 rfl
abbrev mk1 (r:ai) (l:List ah) (bill day:Int):aF:=(aq (Qf r (aR l bill day)) kB).2
abbrev Vf:aA:={ bill:={ cD:=0,cL:=0,cE:=0,sum:=0,bh:=0,bp:={ kind:=0,n:=0,unit:=0 },day:=0,bn:=0,tE:=0,need:=0,iR:=0,flags:=0,parts:=0 },af:=[],aE:=[],bq:=[],facts:=[] }
def FS (f:aA):Prop:=f.af.length≤40∧f.Small
theorem FS.zero:FS Vf:=⟨by decide,by unfold aA.Small; simp⟩
def KH (r:ai) (l:List ah) (bill day:Int) (f:aA) (used:List Body) (i:Int):Prop:=FS f∧∃ m,BM r (aR l bill day) f used m∧Reach (mk1 r l bill day) i m∧((used.length:Nat):Int)≤i
def Iu (r:ai) (l:List ah) (bill day:Int) (f:aA) (used:List Body) (n:Nat) (T:aF→aF):Prop:=FS f∧used.length≤n∧∃ m,iter Hr default 40 (1,mk1 r l bill day)=.inr m∧BM r (aR l bill day) f used (T m)
def B7 (r:ai) (l:List ah) (bill day:Int) (x:aA × List Body):Prop:=x.1=(dJ r l bill day).file∧x.2=(dJ r l bill day).used
abbrev Ql (r:ai) (f:aA) (x:Body × Bool):Bool:=x.2&&(bL r (aW f x.1) == 0)
theorem uF {r:ai} {f:aA} {x:Body × Bool} {p:Int} (e:p=bL r (aW f x.1)):((!x.2)||(p != 0)) = !(Ql r f x):=by
 rw [e]
 show ((!x.2)||!(bL r (aW f x.1) == 0)) = !(x.2&&(bL r (aW f x.1) == 0))
 rw [Bool.not_and]
theorem lD {r:ai} {f:aA} {x:Body × Bool} {p:Int} (e:p=bL r (aW f x.1)):(x.2&&(p == 0))=Ql r f x:=by rw [e]
theorem FS.step {r:ai} {A:List (Key × Body)} {f f':aA} {u u':List Body} {m:aF} {k:Key} (hm:BM r A f u m) (hf:FS f) (uS:BM r A f' u' (aq m k).2):FS f':=by
 obtain ⟨-,-,q1,q2,-⟩:=MR m k
 obtain ⟨-,-,e,-,-⟩:=hm
 obtain ⟨-,-,e',-,-⟩:=uS
 rw [e'] at q1 q2
 rw [e] at q1 q2
 exact ⟨q1 hf.1,q2 hf.2⟩
theorem RV {r:ai} {A:List (Key × Body)} (h:(aq (Qf r A) kB).1=true):(aq (Qf r A) kB).2.file.af.length=1:=by
 revert h
 rw [add_eq]
 unfold RE
 generalize Qf r A=m
 cases sG Key.K m.all kB with
 | false=>intro h; cases h
 | true =>
  cases (cO m.r (px m.file kB (gw Key.K m.all kB Body.Z)) != 0) with
  | true=>intro h; cases h
  | false=>intro _; rfl
section
variable {r : ai} {l : List ah} {bill day : Int} (h1 : eo r = 0) (h2 : dt r = 0) (hi : ∀ a, a ∈ l → a.report.dT)
include h1 h2 hi
theorem B8 {x:Body × Bool} (hx:UH (aB l day) (F4 kB bill) x):(Ql r Vf x=false→B7 r l bill day (Vf,[]))∧(Ql r Vf x=true→(aq (Qf r (aR l bill day)) kB).1=true∧KH r l bill day (aW Vf x.1) [x.1] 1):=by
 have KA:BM r (aR l bill day) Vf [] (Qf r (aR l bill day)):=⟨rfl,rfl,rfl,rfl,fun s hs=>(by cases hs)⟩
 obtain ⟨s1,s2,s3⟩:=yA h1 h2 hi KA kB hx
 constructor
 ·intro hc
  rw [show (aq (Qf r (aR l bill day)) kB).1=false from s1.symm.trans hc] at s3
  have hm:=s3 rfl
  unfold B7
  rw [M3,show (aq (Qf r (aR l bill day)) kB).1=false from s1.symm.trans hc,Bool.not_false,cond_true,hm]
  exact ⟨rfl,rfl⟩
 ·intro hc
  have ht:(aq (Qf r (aR l bill day)) kB).1=true:=s1.symm.trans hc
  have hm1:=s2 ht
  exact ⟨ht,FS.step KA FS.zero hm1,_,hm1,Reach.start _,by show (((1:Nat):Nat):Int)≤1; decide⟩
theorem KH.step {f:aA} {used:List Body} {i:Int} (h:KH r l bill day f used i) {x:Body × Bool} (hx:UH (aB l day) (F4 (kS i) bill) x):(Ql r f x=false→Iu r l bill day f used 40 fun m=>m)∧(Ql r f x=true→i < 40→KH r l bill day (aW f x.1) (used++[x.1]) (bI (i+1))∧(40 - bI (i+1)).toNat < (40 - i).toNat):=by
 obtain ⟨hf,m,g1,g2,g3⟩:=h
 obtain ⟨t1,t2,t3⟩:=yA h1 h2 hi g1 (kS i) hx
 constructor
 ·intro hc
  have ht:(aq m (kS i)).1=false:=t1.symm.trans hc
  have:=g2.2.1
  exact ⟨hf,by omega,m,g2.stop ht (t3 ht),g1⟩
 ·intro hc cI
  have ht:(aq m (kS i)).1=true:=t1.symm.trans hc
  obtain ⟨u1,u2⟩:=g2.step cI ht
  refine ⟨⟨FS.step g1 hf (t2 ht),_,t2 ht,u1,?_⟩,u2⟩
  have:=g2.1
  rw [aD (by omega) (by omega),List.length_append]
  show ((used.length+1:Nat):Int)≤i+1
  omega
omit h1 h2 in
theorem KH.stop {f:aA} {used:List Body} {i:Int} (h:KH r l bill day f used i) (Az:¬ i < 40):Iu r l bill day f used 40 fun m=>m:=by
 obtain ⟨hf,m,g1,g2,g3⟩:=h
 have h40:i=40:=by have:=g2.2.1; omega
 have ha:=Zw hi g1.2.1 (day:=day) (bill:=bill)
 rw [h40] at g2 g3
 exact ⟨hf,by omega,m,g2.stop (by rw [ha]) (by rw [ha]),g1⟩
theorem Iu.step {f:aA} {used:List Body} {n:Nat} {T T':aF→aF} (h:Iu r l bill day f used n T) (k:Key) {x:Body × Bool} (hx:UH (aB l day) (F4 k bill) x) (hT:∀ m,T' m=M1 (T m) k):(Ql r f x=true→Iu r l bill day (aW f x.1) (used++[x.1]) (n+1) T')∧(Ql r f x=false→Iu r l bill day f used (n+1) T'):=by
 obtain ⟨hf,hn,m,g1,g2⟩:=h
 obtain ⟨t1,t2,t3⟩:=yA h1 h2 hi g2 k hx
 refine ⟨fun hc=>?_,fun hc=>⟨hf,by omega,m,g1,?_⟩⟩
 ·have ht:(aq (T m) k).1=true:=t1.symm.trans hc
  refine ⟨FS.step g2 hf (t2 ht),by rw [List.length_append]; show used.length+1≤n+1; omega,m,g1,?_⟩
  rw [hT]
  exact t2 ht
 ·rw [hT]
  unfold M1
  rw [t3 (t1.symm.trans hc)]
  exact g2
end
theorem Iu.cast {r:ai} {l:List ah} {bill day:Int} {f:aA} {used:List Body} {n n':Nat} {T T':aF→aF} (h:Iu r l bill day f used n T) (hn:n≤n') (hT:∀ m,T' m=T m):Iu r l bill day f used n' T':=by
 have e:T'=T:=funext hT
 rw [e]
 exact ⟨h.1,Nat.le_trans h.2.1 hn,h.2.2⟩
theorem Pc (m:aF):kI m 0=m:=by unfold kI; rw [List.range_zero,List.foldl_nil]
theorem Pd (m:aF):l6 m 0=m:=by unfold l6; rw [List.range_zero,List.foldl_nil]
theorem Nb (a:Int) (m:aF):nL a m 0=m:=by unfold nL; rw [List.range_zero,List.foldl_nil]
theorem B9 (m:aF):kM m 0=m:=by unfold kM; rw [List.range_zero,List.foldl_nil]
theorem Pe (m:aF) (n:Nat):kI m (n+1)=M1 (kI m n) (kA (n:Nat)):=by unfold kI; rw [dQ]
theorem Pf (m:aF) (n:Nat):l6 m (n+1)=M1 (l6 m n) (kC (n:Nat)):=by unfold l6; rw [dQ]
theorem Nc (a:Int) (m:aF) (n:Nat):nL a m (n+1)=M1 (nL a m n) (kF a (n:Nat)):=by unfold nL; rw [dQ]
theorem Nd (m:aF) (n:Nat):kM m (n+1)=nL (n:Nat) (kM m n) 5:=by unfold kM; rw [dQ]
def BA (r:ai) (l:List ah) (bill day:Int) (f:aA) (used:List Body) (i:Nat):Prop:=i≤4∧Iu r l bill day f used (40+i) fun m=>kI m i
def BC (r:ai) (l:List ah) (bill day:Int) (f:aA) (used:List Body) (i:Nat):Prop:=i≤100∧Iu r l bill day f used (44+i) fun m=>l6 (kI m 4) i
def BF (r:ai) (l:List ah) (bill day:Int) (sg:List Sign) (f:aA) (used:List Body) (i:Nat):Prop:=i≤sg.length∧f.af=sg∧Iu r l bill day f used (144+5 * i) fun m=>kM (l6 (kI m 4) 100) i
def BK (r:ai) (l:List ah) (bill day:Int) (sg:List Sign) (a:Nat) (f:aA) (used:List Body) (i:Nat):Prop:=i≤5∧f.af=sg∧Iu r l bill day f used (144+5 * a+i) fun m=>nL (a:Nat) (kM (l6 (kI m 4) 100) a) i
def BT (r:ai) (l:List ah) (bill day:Int) (f:aA) (used:List Body):Prop:=used.length≤1000∧FS f∧∃ m,iter Hr default 40 (1,mk1 r l bill day)=.inr m∧BM r (aR l bill day) f used (Ip m)
section
variable {r : ai} {l : List ah} {bill day : Int}
theorem BT.of {sg:List Sign} {f f0:aA} {u u0:List Body} {n:Nat} (h2:f.af=sg) (g2:f0.af=sg) (h:Iu r l bill day f u (144+5 * sg.length) fun m=>kM (l6 (kI m 4) 100) sg.length) (h0:Iu r l bill day f0 u0 n fun m=>l6 (kI m 4) 100):BT r l bill day f u:=by
 obtain ⟨h3,h4,m,h5,h6⟩:=h
 obtain ⟨-,-,m',g5,-,-,g6,-,-⟩:=h0
 have em:m=m':=by rw [g5] at h5; exact (Sum.inr.inj h5).symm
 subst em
 have hs:sg.length≤40:=by rw [← h2]; exact h3.1
 refine ⟨by omega,h3,m,h5,?_⟩
 unfold Ip
 dsimp only at h6 g6
 generalize l6 (kI m 4) 100=q at h6 g6 ⊢
 rw [g6,g2]
 exact h6
theorem BA.start {f:aA} {u:List Body} (h:Iu r l bill day f u 40 fun m=>m):BA r l bill day f u 0:=⟨Nat.zero_le _,h.cast (by decide) fun m=>Pc m⟩
theorem BA.done {f:aA} {u:List Body} {i:Nat} (h:BA r l bill day f u i) (hi:¬ ((i:Int) < 4)):BC r l bill day f u 0:=by
 obtain ⟨h1,h2⟩:=h
 have e:i=4:=by omega
 rw [e] at h2
 exact ⟨Nat.zero_le _,h2.cast (by decide) fun m=>Pd _⟩
theorem BC.done {f:aA} {u:List Body} {i:Nat} (h:BC r l bill day f u i) (hi:¬ ((i:Int) < 100)):BF r l bill day f.af f u 0:=by
 obtain ⟨h1,h2⟩:=h
 have e:i=100:=by omega
 rw [e] at h2
 exact ⟨Nat.zero_le _,rfl,h2.cast (by decide) fun m=>B9 _⟩
theorem BF.kinds {sg:List Sign} {f:aA} {u:List Body} {i:Nat} (h:BF r l bill day sg f u i):BK r l bill day sg i f u 0:=⟨Nat.zero_le _,h.2.1,h.2.2.cast (by omega) fun m=>Nb _ _⟩
theorem BK.done {sg:List Sign} {a:Nat} {f:aA} {u:List Body} {i:Nat} (h:BK r l bill day sg a f u i) (hi:¬ ((i:Int) < 5)) (ha:a < sg.length):BF r l bill day sg f u (a+1):=by
 obtain ⟨h1,h2,h3⟩:=h
 have e:i=5:=by omega
 rw [e] at h3
 exact ⟨ha,h2,h3.cast (by omega) fun m=>Nd _ _⟩
theorem BF.done {sg:List Sign} {f f0:aA} {u u0:List Body} {i:Nat} (h0:BF r l bill day sg f0 u0 0) (h:BF r l bill day sg f u i) (hi:¬ ((i:Int) < (sg.length:Int))):BT r l bill day f u:=by
 obtain ⟨h1,h2,h3⟩:=h
 have e:i=sg.length:=by omega
 rw [e] at h3
 obtain ⟨-,g2,g3⟩:=h0
 have g3:=g3.cast (Nat.le_refl _) (T':=fun m=>l6 (kI m 4) 100) fun m=>(B9 _).symm
 exact BT.of h2 g2 h3 g3
theorem BT.post {f:aA} {u:List Body} (ha:(aq (Qf r (aR l bill day)) kB).1=true) (h:BT r l bill day f u):B7 r l bill day (f,u):=by
 obtain ⟨-,-,m,h1,h2⟩:=h
 have e:dJ r l bill day=Ip m:=by
  rw [M3,ha,Bool.not_true,cond_false,RV ha,show (40 - 1+1:Nat)=40 from rfl,h1]
  exact wv _ _
 unfold B7
 rw [e]
 obtain ⟨-,-,q3,q4,-⟩:=h2
 exact ⟨q3.symm,q4.symm⟩
theorem KH.len {f:aA} {u:List Body} {i:Int} (h:KH r l bill day f u i):f.Small∧u.length≤1000:=by
 obtain ⟨hf,m,-,g2,g3⟩:=h
 have:=g2.2.1
 exact ⟨hf.2,by omega⟩
theorem BA.len {f:aA} {u:List Body} {i:Nat} (h:BA r l bill day f u i):f.Small∧u.length≤1000:=by
 obtain ⟨h1,hf,h2,-⟩:=h
 exact ⟨hf.2,by omega⟩
theorem BC.len {f:aA} {u:List Body} {i:Nat} (h:BC r l bill day f u i):f.Small∧u.length≤1000:=by
 obtain ⟨h1,hf,h2,-⟩:=h
 exact ⟨hf.2,by omega⟩
theorem BK.len {sg:List Sign} {a:Nat} {f:aA} {u:List Body} {i:Nat} (h:BK r l bill day sg a f u i) (ha:a < sg.length):f.Small∧u.length≤1000:=by
 obtain ⟨h1,he,hf,h2,-⟩:=h
 have:=hf.1
 rw [he] at this
 exact ⟨hf.2,by omega⟩
variable (h1 : eo r = 0) (h2 : dt r = 0) (hi : ∀ a, a ∈ l → a.report.dT)
include h1 h2 hi
theorem BA.step {f:aA} {u:List Body} {i:Nat} (h:BA r l bill day f u i) (cI:(i:Int) < 4) {x:Body × Bool} (hx:UH (aB l day) (F4 (kA (i:Nat)) bill) x):(Ql r f x=true→BA r l bill day (aW f x.1) (u++[x.1]) (i+1))∧(Ql r f x=false→BA r l bill day f u (i+1)):=by
 have s:=Iu.step h1 h2 hi h.2 (kA (i:Nat)) hx (T':=fun m=>kI m (i+1)) fun m=>Pe m i
 exact ⟨fun hc=>⟨by omega,s.1 hc⟩,fun hc=>⟨by omega,s.2 hc⟩⟩
theorem BC.step {f:aA} {u:List Body} {i:Nat} (h:BC r l bill day f u i) (cI:(i:Int) < 100) {x:Body × Bool} (hx:UH (aB l day) (F4 (kC (i:Nat)) bill) x):(Ql r f x=true→BC r l bill day (aW f x.1) (u++[x.1]) (i+1))∧(Ql r f x=false→BC r l bill day f u (i+1)):=by
 have s:=Iu.step h1 h2 hi h.2 (kC (i:Nat)) hx (T':=fun m=>l6 (kI m 4) (i+1)) fun m=>Pf _ i
 exact ⟨fun hc=>⟨by omega,s.1 hc⟩,fun hc=>⟨by omega,s.2 hc⟩⟩
theorem BK.step {sg:List Sign} {a:Nat} {f:aA} {u:List Body} {i:Nat} (h:BK r l bill day sg a f u i) (cI:(i:Int) < 5) {x:Body × Bool} (hx:UH (aB l day) (F4 (kF (a:Nat) (i:Nat)) bill) x):(Ql r f x=true→BK r l bill day sg a (aW f x.1) (u++[x.1]) (i+1))∧(Ql r f x=false→BK r l bill day sg a f u (i+1)):=by
 have s:=Iu.step h1 h2 hi h.2.2 (kF (a:Nat) (i:Nat)) hx (T':=fun m=>nL (a:Nat) (kM (l6 (kI m 4) 100) a) (i+1)) fun m=>Nc _ _ i
 refine ⟨fun hc=>⟨by omega,?_,s.1 hc⟩,fun hc=>⟨by omega,h.2.1,s.2 hc⟩⟩
 have Xt:x.2=true:=by
  have:(x.2&&(bL r (aW f x.1) == 0))=true:=hc
  rw [Bool.and_eq_true] at this
  exact this.1
 obtain ⟨-,e4⟩:=(F5 hi _ hx).2 Xt
 have e4:x.1.kind=4:=e4
 rw [F6 (k:=kF (a:Nat) (i:Nat)) e4]
 rw [← h.2.1]
 unfold px Ik
 rw [e4]
 rfl
end
def kx (r:ai) (l:List ah) (bill:Int) (day:Int):Sk (aA × (List Body)):=let l8:=({ kind:=0,at_:=0,n:=0 }:Fact); let lU:=({ at_:=0,sum:=0 }:bB); let dm:=({ kind:=0,n:=0,unit:=0 }:fc); let eX:=({ cD:=0,cL:=0,cE:=0,sum:=0,bh:=0,bp:=dm,day:=0,bn:=0,tE:=0,need:=0,iR:=0,flags:=0,parts:=0 }:dV); let bF:=({ kind:=0,fu:=0,cH:=0,part:=0,at_:=0,sum:=0,day:=0,bn:=0,form:=0 }:cd); let aC:=({ kind:=0,part:=0,fu:=0,for_:=0,cH:=0,sum:=0,day:=0,bn:=0,flags:=0 }:Sign);
 .r 1 ((B3 l day).c) fun x1 =>
 .r 3 ((mK x1 ({ kind:=0,bill:=bill,index:=0,aw:=eX,sign:=aC,act:=bF,alter:=lU,fact:=l8 }:Body)).c) fun x2 =>
 .r 4 (.dep (.wh (!x2.2) false ((((((l4 ({ bill:=eX,af:=[],aE:=[],bq:=[],facts:=[] }:aA) x2.1).ub 0 15 _ rfl ⟨_,rfl⟩).ub 0 16 _ rfl ⟨_,rfl⟩).ub 0 17 _ rfl ⟨_,rfl⟩).ub 0 18 _ rfl ⟨_,rfl⟩).c)) fun x3=>.wh (!x2.2) false ((oO r x3).c)) fun Wp =>
 .br ((!x2.2)||(Wp.2 != 0))
 (.fin (({ bill:=eX,af:=[],aE:=[],bq:=[],facts:=[] }:aA),[]))
 (.r 6 ((((((l4 ({ bill:=eX,af:=[],aE:=[],bq:=[],facts:=[] }:aA) x2.1).ub 0 15 _ rfl ⟨_,rfl⟩).ub 0 16 _ rfl ⟨_,rfl⟩).ub 0 17 _ rfl ⟨_,rfl⟩).ub 0 18 _ rfl ⟨_,rfl⟩).c) fun x5 =>
 .r 7 (.o [.dU (dw Body.E [x2.1])]) fun _ =>
 .bind true (fun b6=>Iu r l bill day b6.2.2.1 b6.2.1 40 fun m=>m)
 (.loop (default:Sum (aA × (List Body)) (Bool × (List Body) × aA × Body)) (fun i7=>KH r l bill day i7.2.2.2.1 i7.2.1 i7.2.2.1) (fun i7=>(40 - i7.2.2.1).toNat) ((x2.2,[x2.1],1,x5,x2.1):Bool × (List Body) × Int × aA × Body)
 (fun (i7:Bool × (List Body) × Int × aA × Body)=>⟨[(13,bv i7.1),(14,ow 100002 i7.2.1),(15,iv i7.2.2.1)],[(100002,cm 35 41 Body.cells i7.2.1),(11,.box (i7.2.2.2.1.cells.map .d)),(12,.box (i7.2.2.2.2.cells.map .d))]⟩) fun i7 =>
 .br (decide (i7.2.2.1 < 40))
 (.r 11 ((mK x1 ({ kind:=1,bill:=bill,index:=i7.2.2.1,aw:=eX,sign:=aC,act:=bF,alter:=lU,fact:=l8 }:Body)).c) fun x8=>let L5:=((l4 i7.2.2.2.1 x8.1).c);
 .r 12 (.dep (.wh (!x8.2) false L5) fun x9=>.wh (!x8.2) false ((oO r x9).c)) fun Cw =>
 .br ((!x8.2)||(Cw.2 != 0))
 (.fin (.inl (.inr (x8.2,i7.2.1,i7.2.2.2.1,x8.1))))
 (.r 13 L5 fun JK =>
 .r 14 (.ak (.o [.dU (dw Body.E [x8.1])]) (.ak (.o [.dU (fo Body.E i7.2.1 [x8.1])]) (.ak (.t (Body.E.jz [x8.1])) (.p (jH i7.2.1.length [x8.1].length 328))))) fun _ =>
 .fin (.inr (x8.2,i7.2.1++[x8.1],bI (i7.2.2.1+1),JK,x8.1))))
 (.fin (.inl (.inr (i7.1,i7.2.1,i7.2.2.2.1,i7.2.2.2.2)))))
 (fun (b6:Bool × (List Body) × aA × Body)=>⟨[(13,bv b6.1),(14,ow 100001 b6.2.1)],[(100001,cm 35 41 Body.cells b6.2.1),(11,.box (b6.2.2.1.cells.map .d)),(12,.box (b6.2.2.2.cells.map .d))]⟩) fun b6 =>
 .bind true (fun Pg=>BC r l bill day Pg.2.2.1 Pg.2.1 0)
 (.loop (default:Sum (aA × (List Body)) (Bool × (List Body) × aA × Body)) (fun i14=>BA r l bill day i14.2.2.2.1 i14.2.1 i14.2.2.1) (fun i14=>4 - i14.2.2.1) ((b6.1,b6.2.1,0,b6.2.2.1,b6.2.2.2):Bool × (List Body) × Nat × aA × Body)
 (fun (i14:Bool × (List Body) × Nat × aA × Body)=>⟨[(13,bv i14.1),(14,ow 100005 i14.2.1),(16,iv (i14.2.2.1:Int))],[(100005,cm 35 41 Body.cells i14.2.1),(11,.box (i14.2.2.2.1.cells.map .d)),(12,.box (i14.2.2.2.2.cells.map .d))]⟩) fun i14 =>
 .br (decide ((i14.2.2.1:Int) < 4))
 (.r 18 ((mK x1 ({ kind:=3,bill:=bill,index:=(i14.2.2.1:Int),aw:=eX,sign:=aC,act:=bF,alter:=lU,fact:=l8 }:Body)).c) fun yo=>let yI:=((l4 i14.2.2.2.1 yo.1).c);
 .r 19 (.dep (.wh yo.2 true yI) fun Mn=>.wh yo.2 true ((oO r Mn).c)) fun KF =>
 .br (yo.2&&(KF.2 == 0))
 (.r 20 yI fun P4 =>
 .r 21 (.ak (.o [.dU (dw Body.E [yo.1])]) (.ak (.o [.dU (fo Body.E i14.2.1 [yo.1])]) (.ak (.t (Body.E.jz [yo.1])) (.p (jH i14.2.1.length [yo.1].length 328))))) fun _ =>
 .nx 17 16 i14.2.2.1 (yo.2,i14.2.1++[yo.1],i14.2.2.1+1,P4,yo.1))
 (.nx 17 16 i14.2.2.1 (yo.2,i14.2.1,i14.2.2.1+1,i14.2.2.2.1,yo.1)))
 (.fin (.inl (.inr (i14.1,i14.2.1,i14.2.2.2.1,i14.2.2.2.2)))))
 (fun (Pg:Bool × (List Body) × aA × Body)=>⟨[(13,bv Pg.1),(14,ow 100004 Pg.2.1)],[(100004,cm 35 41 Body.cells Pg.2.1),(11,.box (Pg.2.2.1.cells.map .d)),(12,.box (Pg.2.2.2.cells.map .d))]⟩) fun Pg =>
 .bind true (fun sa=>BF r l bill day sa.2.2.1.af sa.2.2.1 sa.2.1 0)
 (.loop (default:Sum (aA × (List Body)) (Bool × (List Body) × aA × Body)) (fun i21=>BC r l bill day i21.2.2.2.1 i21.2.1 i21.2.2.1) (fun i21=>100 - i21.2.2.1) ((Pg.1,Pg.2.1,0,Pg.2.2.1,Pg.2.2.2):Bool × (List Body) × Nat × aA × Body)
 (fun (i21:Bool × (List Body) × Nat × aA × Body)=>⟨[(13,bv i21.1),(14,ow 100008 i21.2.1),(17,iv (i21.2.2.1:Int))],[(100008,cm 35 41 Body.cells i21.2.1),(11,.box (i21.2.2.2.1.cells.map .d)),(12,.box (i21.2.2.2.2.cells.map .d))]⟩) fun i21 =>
 .br (decide ((i21.2.2.1:Int) < 100))
 (.r 25 ((mK x1 ({ kind:=2,bill:=bill,index:=(i21.2.2.1:Int),aw:=eX,sign:=aC,act:=bF,alter:=lU,fact:=l8 }:Body)).c) fun zB=>let yH:=((l4 i21.2.2.2.1 zB.1).c);
 .r 26 (.dep (.wh zB.2 true yH) fun x23=>.wh zB.2 true ((oO r x23).c)) fun Zx =>
 .br (zB.2&&(Zx.2 == 0))
 (.r 27 yH fun Wq =>
 .r 28 (.ak (.o [.dU (dw Body.E [zB.1])]) (.ak (.o [.dU (fo Body.E i21.2.1 [zB.1])]) (.ak (.t (Body.E.jz [zB.1])) (.p (jH i21.2.1.length [zB.1].length 328))))) fun _ =>
 .nx 24 17 i21.2.2.1 (zB.2,i21.2.1++[zB.1],i21.2.2.1+1,Wq,zB.1))
 (.nx 24 17 i21.2.2.1 (zB.2,i21.2.1,i21.2.2.1+1,i21.2.2.2.1,zB.1)))
 (.fin (.inl (.inr (i21.1,i21.2.1,i21.2.2.2.1,i21.2.2.2.2)))))
 (fun (sa:Bool × (List Body) × aA × Body)=>⟨[(13,bv sa.1),(14,ow 100007 sa.2.1)],[(100007,cm 35 41 Body.cells sa.2.1),(11,.box (sa.2.2.1.cells.map .d)),(12,.box (sa.2.2.2.cells.map .d))]⟩) fun sa =>
 .bind true (fun UT=>BT r l bill day UT.2 UT.1)
 (.loop (default:Sum (aA × (List Body)) ((List Body) × aA)) (fun i28=>BF r l bill day sa.2.2.1.af i28.2.2.2.1 i28.2.1 i28.2.2.1) (fun i28=>sa.2.2.1.af.length - i28.2.2.1) ((sa.1,sa.2.1,0,sa.2.2.1,sa.2.2.2):Bool × (List Body) × Nat × aA × Body)
 (fun (i28:Bool × (List Body) × Nat × aA × Body)=>⟨[(13,bv i28.1),(14,ow 100039 i28.2.1),(18,iv (i28.2.2.1:Int))],[(100039,cm 35 41 Body.cells i28.2.1),(11,.box (i28.2.2.2.1.cells.map .d)),(12,.box (i28.2.2.2.2.cells.map .d))]⟩) fun i28 =>
 .br (decide ((i28.2.2.1:Int) < ((i28.2.2.2.1.af.length:Nat):Int)))
 (.bind true (fun Ph=>BF r l bill day sa.2.2.1.af Ph.2.2.1 Ph.2.1 (i28.2.2.1+1))
 (.bind true (fun NA=>BF r l bill day sa.2.2.1.af NA.2.2.2.1 NA.2.1 (i28.2.2.1+1))
 (.loop (default:Sum (Sum (Sum (Sum (aA × (List Body)) ((List Body) × aA)) (Bool × (List Body) × Nat × aA × Body)) (Bool × (List Body) × aA × Body)) (Bool × (List Body) × Int × aA × Body)) (fun i31=>BK r l bill day sa.2.2.1.af i28.2.2.1 i31.2.2.2.1 i31.2.1 i31.2.2.1) (fun i31=>5 - i31.2.2.1) ((i28.1,i28.2.1,0,i28.2.2.2.1,i28.2.2.2.2):Bool × (List Body) × Nat × aA × Body)
 (fun (i31:Bool × (List Body) × Nat × aA × Body)=>⟨[(13,bv i31.1),(14,ow 100053 i31.2.1),(19,iv (i31.2.2.1:Int))],[(100053,cm 35 41 Body.cells i31.2.1),(11,.box (i31.2.2.2.1.cells.map .d)),(12,.box (i31.2.2.2.2.cells.map .d))]⟩) fun i31=>let uW:=(i31.2.2.1:Int);
 .br (decide (uW < 5))
 (.r 35 ((mK x1 ({ kind:=4,bill:=bill,index:=0,aw:=eX,sign:=aC,act:=bF,alter:=lU,fact:=({ kind:=uW,at_:=(i28.2.2.1:Int),n:=0 }:Fact) }:Body)).c) fun CZ=>let Jv:=((l4 i31.2.2.2.1 CZ.1).c);
 .r 36 (.dep (.wh CZ.2 true Jv) fun x33=>.wh CZ.2 true ((oO r x33).c)) fun Vb =>
 .br (CZ.2&&(Vb.2 == 0))
 (.r 37 Jv fun x35 =>
 .r 38 (.ak (.o [.dU (dw Body.E [CZ.1])]) (.ak (.o [.dU (fo Body.E i31.2.1 [CZ.1])]) (.ak (.t (Body.E.jz [CZ.1])) (.p (jH i31.2.1.length [CZ.1].length 328))))) fun _ =>
 .nx 34 19 i31.2.2.1 (CZ.2,i31.2.1++[CZ.1],i31.2.2.1+1,x35,CZ.1))
 (.nx 34 19 i31.2.2.1 (CZ.2,i31.2.1,i31.2.2.1+1,i31.2.2.2.1,CZ.1)))
 (.fin (.inl (.inr (i31.1,i31.2.1,uW,i31.2.2.2.1,i31.2.2.2.2)))))
 (fun (NA:Bool × (List Body) × Int × aA × Body)=>⟨[(13,bv NA.1),(14,ow 100052 NA.2.1),(19,iv NA.2.2.1)],[(100052,cm 35 41 Body.cells NA.2.1),(11,.box (NA.2.2.2.1.cells.map .d)),(12,.box (NA.2.2.2.2.cells.map .d))]⟩) fun NA =>
 .fin (.inr (NA.1,NA.2.1,NA.2.2.2.1,NA.2.2.2.2)))
 (fun (Ph:Bool × (List Body) × aA × Body)=>⟨[(13,bv Ph.1),(14,ow 100050 Ph.2.1)],[(100050,cm 35 41 Body.cells Ph.2.1),(11,.box (Ph.2.2.1.cells.map .d)),(12,.box (Ph.2.2.2.cells.map .d))]⟩) fun Ph =>
 .nx 31 18 i28.2.2.1 (Ph.1,Ph.2.1,i28.2.2.1+1,Ph.2.2.1,Ph.2.2.2))
 (.fin (.inl (.inr (i28.2.1,i28.2.2.2.1)))))
 (fun (UT:(List Body) × aA)=>⟨[(14,ow 100031 UT.1)],[(100031,cm 35 41 Body.cells UT.1),(11,.box (UT.2.cells.map .d))]⟩) fun UT =>
 .fin (UT.2,UT.1))
def Iv r l bill day:=(kx r l bill day).val
theorem Hs (r:ai) (l:List ah) (bill:Int) (day:Int) (hP:l.length≤1200∧(∀ a,a∈l→a.report.dT)∧eo r=0∧dt r=0):(kx r l bill day).dj (fun (x:aA × (List Body))=>B7 r l bill day x):=by
 unfold kx
 obtain ⟨hl,hi,h1,h2⟩:=hP
 have hK:∀ x1:List ae,x1=nK l day→x1=aB l day:=fun x1 e=>e.trans (mJ l day ⟨hl,hi⟩)
 refine fun x1 e1 _=>?_
 have e1:x1=aB l day:=hK x1 e1
 subst e1
 refine fun x2 e2 k2=>fun Wp XO _=>?_
 have F:=B8 h1 h2 hi (x:=x2) k2
 have XO:Wp.2=bL r (aW Vf x2.1):=congrArg Prod.snd XO
 refine ⟨fun hc=>?_,fun hc=>fun x5 e5 _=>fun _ _ _=>?_⟩
 ·rw [uF XO,Bool.not_eq_true'] at hc
  exact F.1 hc
 rw [uF XO,Bool.not_eq_false'] at hc
 obtain ⟨abB,hB0⟩:=F.2 hc
 obtain rfl:x5=aW Vf x2.1:=e5
 refine ⟨⟨hB0,fun i7 h7=>⟨fun hd=>fun x8 e8 k8=>fun Cw ML _=>⟨fun hn=>?_,fun hn=>fun JK XL _=>fun _ _ _=>?_⟩,fun hd=>KH.stop hi h7 (of_decide_eq_false hd)⟩⟩,fun b6 _ h6=>?_⟩
 ·have ML:Cw.2=bL r (aW i7.2.2.2.1 x8.1):=congrArg Prod.snd ML
  rw [uF ML,Bool.not_eq_true'] at hn
  exact (KH.step h1 h2 hi h7 (x:=x8) k8).1 hn
 ·have ML:Cw.2=bL r (aW i7.2.2.2.1 x8.1):=congrArg Prod.snd ML
  rw [uF ML,Bool.not_eq_false'] at hn
  obtain rfl:JK=aW i7.2.2.2.1 x8.1:=XL
  exact (KH.step h1 h2 hi h7 (x:=x8) k8).2 hn (of_decide_eq_true hd)
 refine ⟨⟨BA.start h6,fun i14 h=>⟨fun hd=>fun yo _ Nf=>fun KF qP _=>⟨fun hn=>fun P4 O1 _=>fun _ _ _=>fun _ _ _=>⟨?_,?_⟩,fun hn=>fun _ _ _=>⟨?_,?_⟩⟩,fun hd=>BA.done h (of_decide_eq_false hd)⟩⟩,fun Pg _ h13=>?_⟩
 ·have qP:KF.2=bL r (aW i14.2.2.2.1 yo.1):=congrArg Prod.snd qP
  rw [lD qP] at hn
  obtain rfl:P4=aW i14.2.2.2.1 yo.1:=O1
  exact (BA.step h1 h2 hi h (of_decide_eq_true hd) (x:=yo) Nf).1 hn
 ·have hd:=of_decide_eq_true hd; show 4 - (i14.2.2.1+1) < 4 - i14.2.2.1; omega
 ·have qP:KF.2=bL r (aW i14.2.2.2.1 yo.1):=congrArg Prod.snd qP
  rw [lD qP] at hn
  exact (BA.step h1 h2 hi h (of_decide_eq_true hd) (x:=yo) Nf).2 hn
 ·have hd:=of_decide_eq_true hd; show 4 - (i14.2.2.1+1) < 4 - i14.2.2.1; omega
 refine ⟨⟨h13,fun i21 h=>⟨fun hd=>fun zB _ Nf=>fun Zx qP _=>⟨fun hn=>fun Wq O1 _=>fun _ _ _=>fun _ _ _=>⟨?_,?_⟩,fun hn=>fun _ _ _=>⟨?_,?_⟩⟩,fun hd=>BC.done h (of_decide_eq_false hd)⟩⟩,fun sa _ Uv=>?_⟩
 ·have qP:Zx.2=bL r (aW i21.2.2.2.1 zB.1):=congrArg Prod.snd qP
  rw [lD qP] at hn
  obtain rfl:Wq=aW i21.2.2.2.1 zB.1:=O1
  exact (BC.step h1 h2 hi h (of_decide_eq_true hd) (x:=zB) Nf).1 hn
 ·have hd:=of_decide_eq_true hd; show 100 - (i21.2.2.1+1) < 100 - i21.2.2.1; omega
 ·have qP:Zx.2=bL r (aW i21.2.2.2.1 zB.1):=congrArg Prod.snd qP
  rw [lD qP] at hn
  exact (BC.step h1 h2 hi h (of_decide_eq_true hd) (x:=zB) Nf).2 hn
 ·have hd:=of_decide_eq_true hd; show 100 - (i21.2.2.1+1) < 100 - i21.2.2.1; omega
 refine ⟨⟨Uv,fun i28 Kq=>⟨fun hd=>?_,fun hd=>?_⟩⟩,fun UT _ h27=>BT.post abB h27⟩
 ·have Kq:BF r l bill day sa.2.2.1.af i28.2.2.2.1 i28.2.1 i28.2.2.1:=Kq
  have hd:=of_decide_eq_true hd
  have cI:i28.2.2.1 < sa.2.2.1.af.length:=by rw [← Kq.2.1]; omega
  refine ⟨⟨⟨BF.kinds Kq,fun i31 h=>⟨fun hd=>fun CZ _ Nf=>fun Vb qP _=>⟨fun hn=>fun x35 O1 _=>fun _ _ _=>fun _ _ _=>⟨?_,?_⟩,fun hn=>fun _ _ _=>⟨?_,?_⟩⟩,fun hd=>BK.done h (of_decide_eq_false hd) cI⟩⟩,fun NA _ h30=>h30⟩,fun Ph _ h29=>fun _ _ _=>⟨h29,by show sa.2.2.1.af.length - (i28.2.2.1+1) < sa.2.2.1.af.length - i28.2.2.1; omega⟩⟩
  ·have qP:Vb.2=bL r (aW i31.2.2.2.1 CZ.1):=congrArg Prod.snd qP
   rw [lD qP] at hn
   obtain rfl:x35=aW i31.2.2.2.1 CZ.1:=O1
   exact (BK.step h1 h2 hi h (of_decide_eq_true hd) (x:=CZ) Nf).1 hn
  ·have hd:=of_decide_eq_true hd; show 5 - (i31.2.2.1+1) < 5 - i31.2.2.1; omega
  ·have qP:Vb.2=bL r (aW i31.2.2.2.1 CZ.1):=congrArg Prod.snd qP
   rw [lD qP] at hn
   exact (BK.step h1 h2 hi h (of_decide_eq_true hd) (x:=CZ) Nf).2 hn
  ·have hd:=of_decide_eq_true hd; show 5 - (i31.2.2.1+1) < 5 - i31.2.2.1; omega
 ·have Kq:BF r l bill day sa.2.2.1.af i28.2.2.2.1 i28.2.1 i28.2.2.1:=Kq
  exact BF.done Uv Kq (by rw [← Kq.2.1]; exact of_decide_eq_false hd)
theorem F8 (r:ai) (l:List ah) (bill:Int) (day:Int):(fun (x:aA × (List Body))=>(l.length≤1200∧(∀ a,a∈l→a.report.dT)∧eo r=0∧dt r=0)→(B7 r l bill day x)) (Iv r l bill day):=fun hP=>have h:=Sk.cN _ (Hs r l bill day hP); h
theorem Kr (r:ai) (l:List ah) (bill:Int) (day:Int) (hl:l.length≤1200) (hi:∀ a,a∈l→a.report.dT) (hR:eo r=0) (hQ:dt r=0):(kx r l bill day).bO (fun _=>True):=by
 unfold kx
 have h1:=hR
 have h2:=hQ
 have hK:∀ x1:List ae,x1=nK l day→x1=aB l day:=fun x1 e=>e.trans (mJ l day ⟨hl,hi⟩)
 have sz:∀ {n m:Nat},n+m≤3000→jH n m 328:=fun h=>by simp only [jH,maxLen]; omega
 have w:∀ {i n:Nat},(i:Int) < (n:Int)→n≤1000000→bI ((i:Int)+1)=((i+1:Nat):Int):=fun h h'=>by rw [aD (by omega) (by omega)]; omega
 refine ⟨hi,fun x1 e1 _=>?_⟩
 have e1:x1=aB l day:=hK x1 e1
 subst e1
 refine ⟨trivial,fun x2 e2 k2=>⟨⟨fun _=>FS.zero.2,fun _ _ _=>fun _=>trivial⟩,fun Wp XO _=>?_⟩⟩
 have F:=B8 h1 h2 hi (x:=x2) k2
 have XO:Wp.2=bL r (aW Vf x2.1):=congrArg Prod.snd XO
 refine ⟨fun hc=>trivial,fun hc=>⟨FS.zero.2,fun x5 e5 _=>⟨trivial,fun _ _ _=>?_⟩⟩⟩
 rw [uF XO,Bool.not_eq_false'] at hc
 obtain ⟨abB,hB0⟩:=F.2 hc
 obtain rfl:x5=aW Vf x2.1:=e5
 refine ⟨⟨hB0,fun i7 h7=>⟨fun hd=>⟨trivial,fun x8 e8 k8=>⟨⟨fun _=>(KH.len h7).1,fun _ _ _=>fun _=>trivial⟩,fun Cw ML _=>⟨fun hn=>?_,fun hn=>⟨(KH.len h7).1,fun JK XL _=>⟨⟨trivial,trivial,trivial,sz (by have:=(KH.len h7).2; show i7.2.1.length+1≤3000; omega)⟩,fun _ _ _=>?_⟩⟩⟩⟩⟩,fun hd=>KH.stop hi h7 (of_decide_eq_false hd)⟩⟩,fun b6 _ h6=>?_⟩
 ·have ML:Cw.2=bL r (aW i7.2.2.2.1 x8.1):=congrArg Prod.snd ML
  rw [uF ML,Bool.not_eq_true'] at hn
  exact (KH.step h1 h2 hi h7 (x:=x8) k8).1 hn
 ·have ML:Cw.2=bL r (aW i7.2.2.2.1 x8.1):=congrArg Prod.snd ML
  rw [uF ML,Bool.not_eq_false'] at hn
  obtain rfl:JK=aW i7.2.2.2.1 x8.1:=XL
  exact (KH.step h1 h2 hi h7 (x:=x8) k8).2 hn (of_decide_eq_true hd)
 refine ⟨⟨BA.start h6,fun i14 h=>⟨fun hd=>⟨trivial,fun yo _ Nf=>⟨⟨fun _=>(BA.len h).1,fun _ _ _=>fun _=>trivial⟩,fun KF qP _=>⟨fun hn=>⟨(BA.len h).1,fun P4 O1 _=>⟨⟨trivial,trivial,trivial,sz (by have:=(BA.len h).2; show i14.2.1.length+1≤3000; omega)⟩,fun _ _ _=>⟨trivial,fun _ _ _=>⟨w (n:=4) (of_decide_eq_true hd) (by decide),?_,?_⟩⟩⟩⟩,fun hn=>⟨trivial,fun _ _ _=>⟨w (n:=4) (of_decide_eq_true hd) (by decide),?_,?_⟩⟩⟩⟩⟩,fun hd=>BA.done h (of_decide_eq_false hd)⟩⟩,fun Pg _ h13=>?_⟩
 ·have qP:KF.2=bL r (aW i14.2.2.2.1 yo.1):=congrArg Prod.snd qP
  rw [lD qP] at hn
  obtain rfl:P4=aW i14.2.2.2.1 yo.1:=O1
  exact (BA.step h1 h2 hi h (of_decide_eq_true hd) (x:=yo) Nf).1 hn
 ·have hd:=of_decide_eq_true hd; show 4 - (i14.2.2.1+1) < 4 - i14.2.2.1; omega
 ·have qP:KF.2=bL r (aW i14.2.2.2.1 yo.1):=congrArg Prod.snd qP
  rw [lD qP] at hn
  exact (BA.step h1 h2 hi h (of_decide_eq_true hd) (x:=yo) Nf).2 hn
 ·have hd:=of_decide_eq_true hd; show 4 - (i14.2.2.1+1) < 4 - i14.2.2.1; omega
 refine ⟨⟨h13,fun i21 h=>⟨fun hd=>⟨trivial,fun zB _ Nf=>⟨⟨fun _=>(BC.len h).1,fun _ _ _=>fun _=>trivial⟩,fun Zx qP _=>⟨fun hn=>⟨(BC.len h).1,fun Wq O1 _=>⟨⟨trivial,trivial,trivial,sz (by have:=(BC.len h).2; show i21.2.1.length+1≤3000; omega)⟩,fun _ _ _=>⟨trivial,fun _ _ _=>⟨w (n:=100) (of_decide_eq_true hd) (by decide),?_,?_⟩⟩⟩⟩,fun hn=>⟨trivial,fun _ _ _=>⟨w (n:=100) (of_decide_eq_true hd) (by decide),?_,?_⟩⟩⟩⟩⟩,fun hd=>BC.done h (of_decide_eq_false hd)⟩⟩,fun sa _ Uv=>?_⟩
 ·have qP:Zx.2=bL r (aW i21.2.2.2.1 zB.1):=congrArg Prod.snd qP
  rw [lD qP] at hn
  obtain rfl:Wq=aW i21.2.2.2.1 zB.1:=O1
  exact (BC.step h1 h2 hi h (of_decide_eq_true hd) (x:=zB) Nf).1 hn
 ·have hd:=of_decide_eq_true hd; show 100 - (i21.2.2.1+1) < 100 - i21.2.2.1; omega
 ·have qP:Zx.2=bL r (aW i21.2.2.2.1 zB.1):=congrArg Prod.snd qP
  rw [lD qP] at hn
  exact (BC.step h1 h2 hi h (of_decide_eq_true hd) (x:=zB) Nf).2 hn
 ·have hd:=of_decide_eq_true hd; show 100 - (i21.2.2.1+1) < 100 - i21.2.2.1; omega
 refine ⟨⟨Uv,fun i28 Kq=>⟨fun hd=>?_,fun hd=>?_⟩⟩,fun UT _ h27=>trivial⟩
 ·have Kq:BF r l bill day sa.2.2.1.af i28.2.2.2.1 i28.2.1 i28.2.2.1:=Kq
  have hd:=of_decide_eq_true hd
  have cI:i28.2.2.1 < sa.2.2.1.af.length:=by rw [← Kq.2.1]; omega
  have hle:sa.2.2.1.af.length≤40:=by have:=Kq.2.2.1.1; rw [Kq.2.1] at this; exact this
  refine ⟨⟨⟨BF.kinds Kq,fun i31 h=>⟨fun hd=>⟨trivial,fun CZ _ Nf=>⟨⟨fun _=>(BK.len h cI).1,fun _ _ _=>fun _=>trivial⟩,fun Vb qP _=>⟨fun hn=>⟨(BK.len h cI).1,fun x35 O1 _=>⟨⟨trivial,trivial,trivial,sz (by have:=(BK.len h cI).2; show i31.2.1.length+1≤3000; omega)⟩,fun _ _ _=>⟨trivial,fun _ _ _=>⟨w (n:=5) (of_decide_eq_true hd) (by decide),?_,?_⟩⟩⟩⟩,fun hn=>⟨trivial,fun _ _ _=>⟨w (n:=5) (of_decide_eq_true hd) (by decide),?_,?_⟩⟩⟩⟩⟩,fun hd=>BK.done h (of_decide_eq_false hd) cI⟩⟩,fun NA _ h30=>h30⟩,fun Ph _ h29=>⟨trivial,fun _ _ _=>⟨w (n:=sa.2.2.1.af.length) (by omega) (by omega),h29,by show sa.2.2.1.af.length - (i28.2.2.1+1) < sa.2.2.1.af.length - i28.2.2.1; omega⟩⟩⟩
  ·have qP:Vb.2=bL r (aW i31.2.2.2.1 CZ.1):=congrArg Prod.snd qP
   rw [lD qP] at hn
   obtain rfl:x35=aW i31.2.2.2.1 CZ.1:=O1
   exact (BK.step h1 h2 hi h (of_decide_eq_true hd) (x:=CZ) Nf).1 hn
  ·have hd:=of_decide_eq_true hd; show 5 - (i31.2.2.1+1) < 5 - i31.2.2.1; omega
  ·have qP:Vb.2=bL r (aW i31.2.2.2.1 CZ.1):=congrArg Prod.snd qP
   rw [lD qP] at hn
   exact (BK.step h1 h2 hi h (of_decide_eq_true hd) (x:=CZ) Nf).2 hn
  ·have hd:=of_decide_eq_true hd; show 5 - (i31.2.2.1+1) < 5 - i31.2.2.1; omega
 ·have Kq:BF r l bill day sa.2.2.1.af i28.2.2.2.1 i28.2.1 i28.2.2.1:=Kq
  exact BF.done Uv Kq (by rw [← Kq.2.1]; exact of_decide_eq_false hd)
def Ng r l bill day:=kk tok mixed Tryz.func27 [av r.cells,lv ah.cells l,iv bill,iv day] (fun x=>.il [av x.1.cells,lv Body.cells x.2]) false (kx r l bill day) (Iv r l bill day) (u4 (Kr r l bill day)) (fun (x:aA × (List Body))=>(l.length≤1200∧(∀ a,a∈l→a.report.dT)∧eo r=0∧dt r=0)→(B7 r l bill day x)) (F8 r l bill day)
def ky (l:List ah) (day:Int):Sk ((List Int)) :=
 .br (decide (((l.length:Nat):Int) > 1200))
 (.fin [])
 (.r 3 ((Aa l day).c) fun x1 =>
 .bind true (fun b2=>b2=Gu x1 200)
 (.loop (default:Sum ((List Int)) ((List Int))) (fun i3=>i3.2≤200∧i3.1=Gu x1 i3.2) (fun i3=>200 - i3.2) (([],0):(List Int) × Nat)
 (fun (i3:(List Int) × Nat)=>⟨[(6,ow 100002 i3.1),(7,iv (i3.2:Int))],[(100002,cm 3 1 cw i3.1)]⟩) fun i3=>let aC:=(i3.2:Int);
 .br (decide (aC < 200))
 (.r 8 ((FU x1 aC).c) fun x4 =>
 .br x4
 (.r 9 (.ak (.o [.dU (dw eJ [aC])]) (.ak (.o [.dU (fo eJ i3.1 [aC])]) (.ak (.t (eJ.jz [aC])) (.p (jH i3.1.length [aC].length 8))))) fun _ =>
 .r 7 .z fun _ =>
 .wi 7 (bI (aC+1)) ((i3.2+1:Nat):Int) <|
 .fin (.inr (i3.1++[aC],i3.2+1)))
 (.nx 7 7 i3.2 (i3.1,i3.2+1)))
 (.fin (.inl (.inr i3.1))))
 (fun (b2:(List Int))=>⟨[(6,ow 100001 b2)],[(100001,cm 3 1 cw b2)]⟩) fun b2 =>
 .fin b2)
def tB l day:=(ky l day).val
theorem Ht (l:List ah) (day:Int) (hP:l.length≤1200):(ky l day).dj (fun (x:(List Int))=>x=bJ l day):=by
 unfold ky
 refine ⟨fun hc=>?_,fun hc=>fun x1 e1 k1=>⟨⟨⟨Nat.zero_le _,rfl⟩,fun i3 h=>⟨fun hd=>fun x4 e4 _=>⟨fun h4=>fun _ _ _=>fun _ _ _=>⟨⟨?_,?_⟩,?_⟩,fun h4=>fun _ _ _=>⟨⟨?_,?_⟩,?_⟩⟩,fun hd=>?_⟩⟩,fun b2 _ h2=>?_⟩⟩
 ·have hc:=of_decide_eq_true hc
  omega
 ·have:=of_decide_eq_true hd; show i3.2+1≤200; omega
 ·show i3.1++[(i3.2:Int)]=Gu x1 (i3.2+1)
  rw [← Qe (by rw [← show x4=bQ x1 (i3.2:Int) from e4]; exact h4),h.2]
 ·have:=of_decide_eq_true hd; show 200 - (i3.2+1) < 200 - i3.2; omega
 ·have:=of_decide_eq_true hd; show i3.2+1≤200; omega
 ·show i3.1=Gu x1 (i3.2+1)
  rw [← UD (by rw [← show x4=bQ x1 (i3.2:Int) from e4]; exact h4),h.2]
 ·have:=of_decide_eq_true hd; show 200 - (i3.2+1) < 200 - i3.2; omega
 ·have hd:=of_decide_eq_false hd
  have e:i3.2=200:=Nat.le_antisymm h.1 (by omega)
  have h2:=h.2
  rw [e] at h2
  exact h2
 ·have h2:b2=Gu x1 200:=h2
  show b2=bJ l day
  rw [h2]
  exact UE hP k1
theorem vW (l:List ah) (day:Int):(fun (x:(List Int))=>(l.length≤1200)→(x=bJ l day)) (tB l day):=fun hP=>have h:=Sk.cN _ (Ht l day hP); h
theorem Ks (l:List ah) (day:Int):(ky l day).bO (fun _=>True):=by
 unfold ky
 have dK:∀ {n m:Nat},n+m≤1000→jH n m 8:=fun h=>by simp only [jH,maxLen]; omega
 refine ⟨fun hc=>trivial,fun hc=>⟨by have hc:=of_decide_eq_false hc; show l.length≤1200; omega,fun x1 e1 k1=>⟨⟨⟨Nat.zero_le _,rfl⟩,fun i3 h=>⟨fun hd=>⟨trivial,fun x4 e4 _=>⟨fun h4=>⟨⟨trivial,trivial,trivial,dK ?_⟩,fun _ _ _=>⟨trivial,fun _ _ _=>⟨?_,⟨?_,?_⟩,?_⟩⟩⟩,fun h4=>⟨trivial,fun _ _ _=>⟨?_,⟨?_,?_⟩,?_⟩⟩⟩⟩,fun hd=>?_⟩⟩,fun b2 _ h2=>trivial⟩⟩⟩
 ·have h3:=WN x1 i3.2
  have:=of_decide_eq_true hd
  rw [h.2]
  simp only [List.length_cons,List.length_nil]
  omega
 ·have:=of_decide_eq_true hd; rw [aD (by omega) (by omega)]; omega
 ·have:=of_decide_eq_true hd; show i3.2+1≤200; omega
 ·show i3.1++[(i3.2:Int)]=Gu x1 (i3.2+1)
  rw [← Qe (by rw [← show x4=bQ x1 (i3.2:Int) from e4]; exact h4),h.2]
 ·have:=of_decide_eq_true hd; show 200 - (i3.2+1) < 200 - i3.2; omega
 ·have:=of_decide_eq_true hd; rw [aD (by omega) (by omega)]; omega
 ·have:=of_decide_eq_true hd; show i3.2+1≤200; omega
 ·show i3.1=Gu x1 (i3.2+1)
  rw [← UD (by rw [← show x4=bQ x1 (i3.2:Int) from e4]; exact h4),h.2]
 ·have:=of_decide_eq_true hd; show 200 - (i3.2+1) < 200 - i3.2; omega
 ·have hd:=of_decide_eq_false hd
  have e:i3.2=200:=Nat.le_antisymm h.1 (by omega)
  have h2:=h.2
  rw [e] at h2
  exact h2
def Nh l day:=kk tok mixed Tryz.func30 [lv ah.cells l,iv day] (fun x=>lv cw x) false (ky l day) (tB l day) (u0 (Ks l day)) (fun (x:(List Int))=>(l.length≤1200)→(x=bJ l day)) (vW l day)
def oP (a:aA) (b:aA):Sk (Bool) :=
 .br (((((!(bZ (dV.cells a.bill) (dV.cells b.bill)))||(((a.af.length:Nat):Int) != ((b.af.length:Nat):Int)))||(((a.aE.length:Nat):Int) != ((b.aE.length:Nat):Int)))||(((a.bq.length:Nat):Int) != ((b.bq.length:Nat):Int)))||(((a.facts.length:Nat):Int) != ((b.facts.length:Nat):Int)))
 (.fin false)
 (.bt
 (.loop (default:Sum (Bool) (Unit)) (fun i2=>i2≤a.af.length) (fun i2=>a.af.length - i2) (0:Nat)
 (fun (i2:Nat)=>⟨[(5,iv (i2:Int))],[]⟩) fun i2=>let bF:=(b.af.getD i2 default); let aC:=(a.af.getD i2 default);
 .lt 2 15 i2 a.af.length
 (.r 6 (.ak (.p (cM (i2:Int) a.af.length)) (.p (cM (i2:Int) b.af.length))) fun _ =>
 .br (!(((aC.kind) == (bF.kind))&&(((aC.part) == (bF.part))&&(((aC.fu) == (bF.fu))&&(((aC.for_) == (bF.for_))&&(((aC.cH) == (bF.cH))&&(((aC.sum) == (bF.sum))&&(((aC.day) == (bF.day))&&(((aC.bn) == (bF.bn))&&(((aC.flags) == (bF.flags))&&true))))))))))
 (.fin (.inl (.inl false)))
 (.nx 5 5 i2 (i2+1)))
 (.fin (.inl (.inr ()))))
 (fun (_:Unit)=>⟨[],[]⟩) fun _ =>
 .bt
 (.loop (default:Sum (Bool) (Unit)) (fun i4=>i4≤a.aE.length) (fun i4=>a.aE.length - i4) (0:Nat)
 (fun (i4:Nat)=>⟨[(6,iv (i4:Int))],[]⟩) fun i4 =>
 .lt 2 16 i4 a.aE.length
 (.r 11 (.ak (.p (cM (i4:Int) a.aE.length)) (.p (cM (i4:Int) b.aE.length))) fun _ =>
 .br (!((((a.aE.getD i4 default).at_) == ((b.aE.getD i4 default).at_))&&((((a.aE.getD i4 default).sum) == ((b.aE.getD i4 default).sum))&&true)))
 (.fin (.inl (.inl false)))
 (.nx 10 6 i4 (i4+1)))
 (.fin (.inl (.inr ()))))
 (fun (_:Unit)=>⟨[],[]⟩) fun _ =>
 .bt
 (.loop (default:Sum (Bool) (Unit)) (fun i6=>i6≤a.bq.length) (fun i6=>a.bq.length - i6) (0:Nat)
 (fun (i6:Nat)=>⟨[(7,iv (i6:Int))],[]⟩) fun i6=>let eX:=(b.bq.getD i6 default); let dm:=(a.bq.getD i6 default);
 .lt 2 17 i6 a.bq.length
 (.r 16 (.ak (.p (cM (i6:Int) a.bq.length)) (.p (cM (i6:Int) b.bq.length))) fun _ =>
 .br (!(((dm.kind) == (eX.kind))&&(((dm.fu) == (eX.fu))&&(((dm.cH) == (eX.cH))&&(((dm.part) == (eX.part))&&(((dm.at_) == (eX.at_))&&(((dm.sum) == (eX.sum))&&(((dm.day) == (eX.day))&&(((dm.bn) == (eX.bn))&&(((dm.form) == (eX.form))&&true))))))))))
 (.fin (.inl (.inl false)))
 (.nx 15 7 i6 (i6+1)))
 (.fin (.inl (.inr ()))))
 (fun (_:Unit)=>⟨[],[]⟩) fun _ =>
 .bt
 (.loop (default:Sum (Bool) (Unit)) (fun i8=>i8≤a.facts.length) (fun i8=>a.facts.length - i8) (0:Nat)
 (fun (i8:Nat)=>⟨[(8,iv (i8:Int))],[]⟩) fun i8=>let l8:=(b.facts.getD i8 default); let lU:=(a.facts.getD i8 default);
 .lt 2 18 i8 a.facts.length
 (.r 21 (.ak (.p (cM (i8:Int) a.facts.length)) (.p (cM (i8:Int) b.facts.length))) fun _ =>
 .br (!(((lU.kind) == (l8.kind))&&(((lU.at_) == (l8.at_))&&(((lU.n) == (l8.n))&&true))))
 (.fin (.inl (.inl false)))
 (.nx 20 8 i8 (i8+1)))
 (.fin (.inl (.inr ()))))
 (fun (_:Unit)=>⟨[],[]⟩) fun _ =>
 .fin true)
def Af a b:=(oP a b).val
theorem Ag (a:aA) (b:aA):(oP a b).dj (fun (x:Bool)=>a=b→x=true):=by
 refine Sk.bM _ ?_
 unfold oP
 simp only [Sk.eO,Sk.db,reduceCtorEq,ON,kk,kp,maxLen]
 have hb:∀ x:dV,bZ x.cells x.cells=true:=fun x=>kT rfl
 all_goals (repeat' first | assumption | (apply And.intro) | (intro h))
 all_goals first
  | omega
  | (simp only [LN] at *; omega)
  | (subst_vars; simp_all; done)
theorem Hu (a:aA) (b:aA):(fun (x:Bool)=>a=b→x=true) (Af a b):=have h:=Sk.cN _ (Ag a b); h
theorem Ni (a:aA) (b:aA):(oP a b).bO (fun _=>True):=by
 unfold oP
 exact sH
def Pj a b:=kp tok mixed Tryz.func18 [av a.cells,av b.cells] (fun x=>bv x) true (Af a b) (u0 (Ni a b)) (Ag a b)
def mR (r:ai) (l:List ah) (bill:Int) (day:Int):Sk ((List Body)) :=
 .r 1 ((lC r l bill day).c) fun x1 =>
 .fin x1.used
def Nj r l bill day:=(mR r l bill day).val
theorem F9 (r:ai) (l:List ah) (bill:Int) (day:Int) (hi:∀ a,a∈l→a.report.dT) (fL:r.Small):(mR r l bill day).bO (fun _=>True):=by
 simp only [aA.Small,ai.Small] at fL
 unfold mR
 try simp only [lC,aA.Small,ai.Small]
 exact sH
def Hv r l bill day:=kk tok mixed Tryz.func34 [av r.cells,lv ah.cells l,iv bill,iv day] (fun x=>lv Body.cells x) false (mR r l bill day) (Nj r l bill day) (u2 (F9 r l bill day))
def gE (a:List Body) (b:List Body):Sk (Bool) :=
 .br (((a.length:Nat):Int) != ((b.length:Nat):Int))
 (.fin false)
 (.bt
 (.loop (default:Sum (Bool) (Unit)) (fun i2=>i2≤a.length) (fun i2=>a.length - i2) (0:Nat)
 (fun (i2:Nat)=>⟨[(5,iv (i2:Int))],[]⟩) fun i2 =>
 .lt 0 0 i2 a.length
 (.r 6 (.ak (.p (cM (i2:Int) a.length)) (.p (cM (i2:Int) b.length))) fun _ =>
 .br (!(bZ (Body.cells (a.getD i2 default)) (Body.cells (b.getD i2 default))))
 (.fin (.inl (.inl false)))
 (.nx 5 5 i2 (i2+1)))
 (.fin (.inl (.inr ()))))
 (fun (_:Unit)=>⟨[],[]⟩) fun _ =>
 .fin true)
def mS a b:=(gE a b).val
theorem Ah (a:List Body) (b:List Body):(gE a b).bO (fun _=>True):=by
 unfold gE
 exact sH
def BB a b:=kk tok mixed Tryz.func33 [lv Body.cells a,lv Body.cells b] (fun x=>bv x) true (gE a b) (mS a b) (u0 (Ah a b))
theorem Nk (x:ae):bZ (ae.cells x) (ae.cells x)=true:=Fx.2 rfl
theorem RW (x:Body):bZ (Body.cells x) (Body.cells x)=true:=kT rfl
theorem BD (l:List ae):gn l l=true:=by
 have gN:(((l.length:Nat):Int) != ((l.length:Nat):Int))=false:=bne_self_eq_false _
 simp only [gn,fS,Sk.da,Sk.cQ,Sk.eV,Sk.cg]
 rw [gN,cond_false]
 refine (gS l (fun (s:Unit) i=>i) (fun x (_:Unit)=>(.inr ():Bool ⊕ Unit)) id _ (fun s i hi=>?_) (fun s=>?_) (by simp) ()).trans ?_
 ·simp only [Sk.fA,Sk.da,Sk.fR,Sk.iC,Sk.cg,Nk,Bool.not_true,cond_false]
  rw [decide_eq_true (by omega),cond_true]
 ·simp only [Sk.fA,Sk.da,Sk.fR,Sk.iC,Sk.cg]
  rw [decide_eq_false (by omega),cond_false]
 ·rw [wx]
theorem C0 (l:List Body):mS l l=true:=by
 have gN:(((l.length:Nat):Int) != ((l.length:Nat):Int))=false:=bne_self_eq_false _
 simp only [mS,gE,Sk.da,Sk.cQ,Sk.eV,Sk.cg]
 rw [gN,cond_false]
 refine (gS l (fun (s:Unit) i=>i) (fun x (_:Unit)=>(.inr ():Bool ⊕ Unit)) id _ (fun s i hi=>?_) (fun s=>?_) (by simp) ()).trans ?_
 ·simp only [Sk.fA,Sk.da,Sk.fR,Sk.iC,Sk.cg,RW,Bool.not_true,cond_false]
  rw [decide_eq_true (by omega),cond_true]
 ·simp only [Sk.fA,Sk.da,Sk.fR,Sk.iC,Sk.cg]
  rw [decide_eq_false (by omega),cond_false]
 ·rw [wx]
theorem Nl (l:List Int):sP l l=true:=(GR l l) rfl
theorem Nn (f:aA):Af f f=true:=(Hu f f) rfl
theorem go1 {γ δ ι:Type} {i n:Nat} {c:Bool} {b z:γ} {j:ι} {a:(γ ⊕ δ) ⊕ ι} (h:i < n) (hb:c=true→b≠z):(∃ x,(bif decide (((i:Nat):Int) < ((n:Nat):Int)) then (bif c then .inl (.inl b) else .inr j) else a)=.inl (.inl x)∧x≠z)∨(bif decide (((i:Nat):Int) < ((n:Nat):Int)) then (bif c then .inl (.inl b) else .inr j) else a)=.inr j:=by
 rw [go_in h]
 cases c with
 | true=>exact .inl ⟨b,rfl,hb rfl⟩
 | false=>exact .inr rfl
theorem in1 {γ δ ι:Type} {i n:Nat} {c:Bool} {b:γ} {j:ι} {a:(γ ⊕ δ) ⊕ ι} (h:i < n) (e:(bif decide (((i:Nat):Int) < ((n:Nat):Int)) then (bif c then .inl (.inl b) else .inr j) else a)=.inr j):c=false:=by
 rw [go_in h] at e
 cases c with
 | true=>exact absurd e (by simp)
 | false=>rfl
theorem go2 {γ δ ι:Type} {i n:Nat} {c k:Bool} {b b2 z:γ} {j:ι} {a:(γ ⊕ δ) ⊕ ι} (h:i < n) (hb:c=true→b≠z) (tD:b2≠z):(∃ x,(bif decide (((i:Nat):Int) < ((n:Nat):Int)) then (bif c then .inl (.inl b) else bif k then .inl (.inl b2) else .inr j) else a)=.inl (.inl x)∧x≠z)∨(bif decide (((i:Nat):Int) < ((n:Nat):Int)) then (bif c then .inl (.inl b) else bif k then .inl (.inl b2) else .inr j) else a)=.inr j:=by
 rw [go_in h]
 cases c with
 | true=>exact .inl ⟨b,rfl,hb rfl⟩
 | false=>cases k with
  | true=>exact .inl ⟨b2,rfl,tD⟩
  | false=>exact .inr rfl
theorem XP {γ δ ι:Type} {i n:Nat} {c k:Bool} {b b2:γ} {j:ι} {a:(γ ⊕ δ) ⊕ ι} (h:i < n) (e:(bif decide (((i:Nat):Int) < ((n:Nat):Int)) then (bif c then .inl (.inl b) else bif k then .inl (.inl b2) else .inr j) else a)=.inr j):c=false∧k=false:=by
 rw [go_in h] at e
 cases c with
 | true=>exact absurd e (by simp)
 | false=>cases k with
  | true=>exact absurd e (by simp)
  | false=>exact ⟨rfl,rfl⟩
theorem on1 {γ δ ι:Type} {i n:Nat} {c:Bool} {b:γ} {j:ι} {a:(γ ⊕ δ) ⊕ ι} (h:i < n) (e:c=false):(bif decide (((i:Nat):Int) < ((n:Nat):Int)) then (bif c then .inl (.inl b) else .inr j) else a)=.inr j:=by
 rw [go_in h,e,cond_false]
theorem on2 {γ δ ι:Type} {i n:Nat} {c k:Bool} {b b2:γ} {j:ι} {a:(γ ⊕ δ) ⊕ ι} (h:i < n) (e:c=false) (e2:k=false):(bif decide (((i:Nat):Int) < ((n:Nat):Int)) then (bif c then .inl (.inl b) else bif k then .inl (.inl b2) else .inr j) else a)=.inr j:=by
 rw [go_in h,e,cond_false,e2,cond_false]
theorem RX (x lo up:Int):ba x lo up=(decide (lo≤x)&&decide (x≤up)):=rfl
theorem hY {x lo up:Int} (h:(!(ba x lo up))=false):lo≤x∧x≤up:=by
 rw [RX] at h
 simpa using h
theorem RY {x n:Int} (h:0≤x∧x < n):jW x n=true:=by
 show (decide (x≥0)&&decide (x < n))=true
 simp [h.1,h.2]
theorem Ai {x:Int} {n:Nat} (h:(!(ba x 0 (bI ((n:Int) - 1))))=false) (hn:n≤1000000):jW x (n:Int)=true:=by
 have:=hY h
 rw [aD (by omega) (by omega)] at this
 exact RY ⟨this.1,by omega⟩
def Qm (l:List Int) (lo up:Int):Prop:=∀ i,i < l.length→lo≤l.getD i default∧l.getD i default≤up∧(i≠0→l.getD (i - 1) default < l.getD i default)
theorem Ga {l:List Int} {lo up:Int} (h:nw l lo up=true) (hb:up - lo≤500000):l.length≤1000000∧Qm l lo up:=by
 have e:nw l lo up=bN (iter (fun i2:Nat=>bif decide ((i2:Int) < ((l.length:Nat):Int)) then (bif !(ba (l.getD i2 default) lo up) then (.inl (.inl false)) else bif ((decide ((i2:Int) > 0))&&(decide ((l.getD ((bI ((i2:Int) - 1)).toNat) default)≥(l.getD i2 default)))) then .inl (.inl false) else .inr (i2+1)) else (.inl (.inr ()):(Bool ⊕ Unit) ⊕ Nat)) default (l.length - 0+1) 0) fun _=>true:=by kernel_rfl
 rw [e] at h
 have w:=(dx l.length (fun i=>i) () h (fun i hi=>go2 hi (fun _=>by decide) (by decide)) cU (by omega)).1
 have a:∀ i,i < l.length→i≤1000000→lo≤l.getD i default∧l.getD i default≤up∧(i≠0→l.getD (i - 1) default < l.getD i default):=fun i hi hm=>by
  have w2:=XP hi (w i hi)
  have h1:=hY w2.1
  refine ⟨h1.1,h1.2,fun h0=>?_⟩
  have h2:=w2.2
  rw [aD (by omega) (by omega),show ((i:Int) - 1).toNat=i - 1 by omega,decide_eq_true (show (i:Int) > 0 by omega),Bool.true_and,decide_eq_false_iff_not] at h2
  omega
 have b:∀ i:Nat,i < l.length→i≤1000000→lo+i≤l.getD i default:=by
  intro i
  induction i with
  | zero=>intro h1 h2; have:=(a 0 h1 h2).1; omega
  | succ i ih =>
   intro h1 h2
   have h3:=ih (by omega) (by omega)
   have h4:=(a (i+1) h1 h2).2.2 (by omega)
   rw [Nat.add_sub_cancel] at h4
   omega
 have hl:l.length≤1000000:=by
  by_cases c:l.length≤1000000
  ·exact c
  ·have h1:=b 1000000 (by omega) (by omega)
   have h2:=(a 1000000 (by omega) (by omega)).2.1
   omega
 exact ⟨hl,fun i hi=>a i hi (by omega)⟩
theorem tC {l:List Int} {lo up:Int} (h:Qm l lo up) (hl:l.length≤1000000):gC l lo up=true:=by
 have e:gC l lo up=bN (iter (fun i2:Nat=>bif decide ((i2:Int) < ((l.length:Nat):Int)) then (bif (((decide ((l.getD i2 default) < lo))||(decide ((l.getD i2 default) > up)))||((decide ((i2:Int) > 0))&&(decide ((l.getD i2 default)≤(l.getD ((bI ((i2:Int) - 1)).toNat) default))))) then .inl (.inl false) else .inr (i2+1)) else (.inl (.inr ()):(Bool ⊕ Unit) ⊕ Nat)) default (l.length - 0+1) 0) fun _=>true:=by kernel_rfl
 rw [e]
 refine ef l.length (fun i=>i) () (fun i hi=>on1 hi ?_) cU (by omega)
 obtain ⟨h1,h2,h3⟩:=h i hi
 simp only [Bool.or_eq_false_iff,Bool.and_eq_false_iff,decide_eq_false_iff_not]
 refine ⟨⟨by omega,by omega⟩,?_⟩
 by_cases c:i=0
 ·left; omega
 ·right
  rw [aD (by omega) (by omega),show ((i:Int) - 1).toNat=i - 1 by omega]
  have:=h3 c
  omega
theorem WW (bs:ByteArray):∀ (k i:Nat) (r:List UInt8),bs.size - i=k→(ByteArray.toList.loop bs i r).length=r.length+k:=by
 intro k
 induction k with
 | zero =>
  intro i r h
  unfold ByteArray.toList.loop
  rw [if_neg (by omega)]
  simp
 | succ k ih =>
  intro i r h
  unfold ByteArray.toList.loop
  rw [if_pos (by omega),ih _ _ (by omega)]
  simp; omega
theorem Gb (bs:ByteArray):bs.toList.length=bs.size:=by
 unfold ByteArray.toList
 rw [WW bs bs.size 0 [] rfl]; simp
theorem Zy {s:ByteArray} (h:1≤s.size):(s.toList == (⟨#[]⟩:ByteArray).toList)=false:=by
 rw [beq_eq_false_iff_ne]
 intro e
 have:=congrArg List.length e
 rw [Gb,Gb] at this
 exact absurd this (by show s.size≠0; omega)
def Zz (x:Int) (i:Nat):Bool:=(!(uk x))&&((((i:Nat):Int) == 0)||(!((x == 95)||((decide ((48:Int)≤x))&&(decide (x≤57))))))
def ZA (x:Int) (i:Nat):Bool:=(!(((decide (x≥97))&&(decide (x≤122)))||((decide (x≥65))&&(decide (x≤90)))))&&((((i:Nat):Int) == 0)||((x != 95)&&((decide (x < 48))||(decide (x > 57)))))
theorem ZC {x:Int} {i:Nat} (h:Zz x i=false):ZA x i=false:=by
 have hl:uk x=(((decide ((97:Int)≤x))&&(decide (x≤122)))||((decide ((65:Int)≤x))&&(decide (x≤90)))):=rfl
 unfold Zz at h
 unfold ZA
 rw [hl] at h
 rw [← h]
 congr 1
 congr 1
 rw [Bool.eq_iff_iff]
 simp
theorem RZ {s:ByteArray} (h:qA s=true):pJ s=true:=by
 have e1:qA s=bif (decide (((s.size:Nat):Int) < 1))||(decide (((s.size:Nat):Int) > 20)) then false else bN (iter (fun i2:Nat=>bif decide ((i2:Int) < ((s.size:Nat):Int)) then (bif Zz ((s.data.toList.getD i2 0).toNat:Int) i2 then .inl (.inl false) else .inr (i2+1)) else (.inl (.inr ()):(Bool ⊕ Unit) ⊕ Nat)) default (s.size - 0+1) 0) fun _=>true:=by kernel_rfl
 have e2:pJ s=bif (s.toList == (⟨#[]⟩:ByteArray).toList)||(decide (((s.size:Nat):Int) > 20)) then false else bN (iter (fun i2:Nat=>bif decide ((i2:Int) < (((jj s).length:Nat):Int)) then (bif ZA ((jj s).getD i2 default) i2 then .inl (.inl false) else .inr (i2+1)) else (.inl (.inr ()):(Bool ⊕ Unit) ⊕ Nat)) default ((jj s).length - 0+1) 0) fun _=>true:=by kernel_rfl
 rw [e1] at h
 cases hc:(decide (((s.size:Nat):Int) < 1))||(decide (((s.size:Nat):Int) > 20)) with
 | true=>rw [hc,cond_true] at h; exact absurd h (by decide)
 | false =>
  rw [hc,cond_false] at h
  simp only [Bool.or_eq_false_iff,decide_eq_false_iff_not] at hc
  have w:=(dx s.size (fun i=>i) () h (fun i hi=>go1 hi (fun _=>by decide)) cU (by omega)).1
  have hl:(jj s).length=s.size:=by unfold jj; rw [List.length_map]; rfl
  rw [e2,Zy (by omega),decide_eq_false hc.2,Bool.or_false,cond_false]
  refine ef (jj s).length (fun i=>i) () (fun i hi=>on1 hi ?_) cU (by omega)
  have hi2:i < s.size:=by omega
  have hb:=in1 hi2 (w i hi2)
  have e:(jj s).getD i default=((s.data.toList.getD i 0).toNat:Int):=by
   have eG:i < s.data.size:=hi2
   simp only [jj,List.getD,List.getElem?_map,Array.getElem?_toList,Array.getElem?_eq_getElem eG,Option.map_some,Option.getD_some]
  rw [e]
  exact ZC hb
theorem R0 {l:List ByteArray} {i:Nat} {s:ByteArray} (hi:i < l.length) (h:qB l (i:Int) s=false):∀ q,q < i→((l.getD q default).toList == s.toList)=false:=by
 have e:qB l (i:Int) s=bN (iter (fun i2:Nat=>bif ((decide ((i2:Int) < (i:Int)))&&(decide ((i2:Int) < ((l.length:Nat):Int)))) then (bif (l.getD i2 default).toList == s.toList then .inl (.inl true) else .inr (i2+1)) else (.inl (.inr ()):(Bool ⊕ Unit) ⊕ Nat)) default (l.length - 0+1) 0) fun _=>false:=by kernel_rfl
 rw [e] at h
 have Ce:∀ q,q < i→((decide (((q:Nat):Int) < (i:Int)))&&(decide (((q:Nat):Int) < ((l.length:Nat):Int))))=true:=fun q hq=>by
  rw [decide_eq_true (by omega),decide_eq_true (by omega)]; rfl
 have w:=(dx i (fun i=>i) () h (fun q hq=>by
  rw [Ce q hq,cond_true]
  cases (l.getD q default).toList == s.toList with
  | true=>exact .inl ⟨true,rfl,by decide⟩
  | false=>exact .inr rfl) (by rw [decide_eq_false (by omega),Bool.false_and,cond_false]) (by omega)).1
 intro q hq
 have w1:=w q hq
 rw [Ce q hq,cond_true] at w1
 cases c:(l.getD q default).toList == s.toList with
 | true=>rw [c,cond_true] at w1; exact absurd w1 (by simp)
 | false=>rfl
theorem UU {l:List ByteArray} {s:ByteArray} (h:∀ q,q < l.length→((l.getD q default).toList == s.toList)=false):kn l s=false:=by
 have e:kn l s=decide (sd l s≥0):=rfl
 rw [e,decide_eq_false_iff_not]
 rcases yx l s with p | ⟨h1,h2,h3,-⟩
 ·rw [p.1]; decide
 ·rw [h _ (by omega)] at h3
  exact absurd h3 (by decide)
theorem BE {l:List ByteArray} {i:Nat} (hi:i < l.length) (h:(ei l (i:Int) != 0)=false):qA (l.getD i default)=true∧∀ q,q < i→((l.getD q default).toList == (l.getD i default).toList)=false:=by
 have e:ei l (i:Int)=bif !(qA (l.getD i default)) then 2 else bif qB l (i:Int) (l.getD i default) then 5 else 0:=rfl
 rw [bne_eq_false_iff_eq,e] at h
 cases c:qA (l.getD i default) with
 | false=>rw [c,Bool.not_false,cond_true] at h; exact absurd h (by decide)
 | true =>
  rw [c,Bool.not_true,cond_false] at h
  cases c2:qB l (i:Int) (l.getD i default) with
  | true=>rw [c2,cond_true] at h; exact absurd h (by decide)
  | false=>exact ⟨rfl,R0 hi c2⟩
theorem Gc {l:List ByteArray} {i:Nat} (h1:qA (l.getD i default)=true) (h2:∀ q,q < i→((l.getD q default).toList == (l.getD i default).toList)=false):(jU l (i:Int) != 0)=false:=by
 have e:jU l (i:Int)=bif !(pJ (l.getD i default)) then 2 else bif kn (dz l 0 i) (l.getD i default) then 5 else 0:=rfl
 rw [e,RZ h1,UU fun q hq=>?_]
 ·rfl
 ·have XG:q < i:=by unfold dz at hq; rw [List.length_map,List.length_range] at hq; exact hq
  have:(dz l 0 i).getD q default=l.getD q default:=by simp [dz,List.getD,XG]
  rw [this]
  exact h2 q XG
def l7 {α:Type} (f:Nat→α) (n:Nat):List α:=(List.range n).map f
theorem j7 {α:Type} (f:Nat→α) (n:Nat):(l7 f n).length=n:=by simp [l7]
theorem mT {α:Type} [Inhabited α] {f:Nat→α} {n q:Nat} (h:q < n):(l7 f n).getD q default=f q:=by simp [l7,List.getD,h]
theorem gu {α:Type} (f:Nat→α) (n:Nat):l7 f n++[f n]=l7 f (n+1):=by simp [l7,List.range_succ]
theorem yB {f:Nat→ByteArray} {i n:Nat} (hi:i < n) (h:(ei (l7 f i++[f i]) (i:Int) != 0)=false):(jU (l7 f n) (i:Int) != 0)=false:=by
 rw [gu] at h
 have h1:=BE (by rw [j7]; omega) h
 rw [mT (by omega)] at h1
 refine Gc ?_ ?_
 ·rw [mT hi]; exact h1.1
 ·intro q hq
  have:=h1.2 q hq
  rw [mT (by omega)] at this
  rw [mT hi,mT (by omega)]; exact this
theorem R1 {r:ai} {c_:nj} (h:(!(kV r c_))=false) (ho:r.aG.length≤1000000) (hc:r.aM.length≤1000000):uy r c_=true:=by
 have e1:kV r c_=bif ((((!(ba c_.order 0 (bI (((r.aG.length:Nat):Int) - 1))))||(!(ba c_.bh 0 (bI (((r.aM.length:Nat):Int) - 1)))))||(decide (((c_.cK.length:Nat):Int) > 60)))||(decide (((c_.shut.length:Nat):Int) > 200))) then false else
   bN (iter (fun i4:Nat=>bif decide ((i4:Int) < ((c_.cK.length:Nat):Int)) then (bif (!(ba (bI ((c_.cK.getD i4 default).tdiv 100)) 1 12))||(!(ba ((c_.cK.getD i4 default).tmod 100) 1 31)) then .inl (.inl false) else .inr (i4+1)) else (.inl (.inr ()):(Bool ⊕ Unit) ⊕ Nat)) default (c_.cK.length - 0+1) 0) fun _=>((nw c_.rest 0 6)&&(nw c_.cK 0 2000))&&(nw c_.shut 0 100000):=by kernel_rfl
 have e2:uy r c_=bN (iter (fun i4:Nat=>bif decide ((i4:Int) < ((c_.cK.length:Nat):Int)) then (bif (decide (((c_.cK.getD i4 default).tmod 100) < 1))||(decide (((c_.cK.getD i4 default).tmod 100) > 31)) then .inl (.inl false) else .inr (i4+1)) else (.inl (.inr ()):(Bool ⊕ Unit) ⊕ Nat)) default (c_.cK.length - 0+1) 0) fun _ =>
   bif ((((decide (((c_.cK.length:Nat):Int) > 60))||(decide (((c_.shut.length:Nat):Int) > 200)))||(!(jW c_.order ((r.aG.length:Nat):Int))))||(!(jW c_.bh ((r.aM.length:Nat):Int)))) then false else ((gC c_.rest 0 6)&&(gC c_.cK 101 1231))&&(gC c_.shut 0 100000):=by kernel_rfl
 rw [Bool.not_eq_false',e1] at h
 cases k:((((!(ba c_.order 0 (bI (((r.aG.length:Nat):Int) - 1))))||(!(ba c_.bh 0 (bI (((r.aM.length:Nat):Int) - 1)))))||(decide (((c_.cK.length:Nat):Int) > 60)))||(decide (((c_.shut.length:Nat):Int) > 200))) with
 | true=>rw [k,cond_true] at h; exact absurd h (by decide)
 | false =>
  rw [k,cond_false] at h
  obtain ⟨w,hr⟩:=dx c_.cK.length (fun i=>i) () h (fun i hi=>go1 hi (fun _=>by decide)) cU (by omega)
  simp only [Bool.and_eq_true] at hr
  obtain ⟨l1,r1⟩:=Ga hr.1.1 (by omega)
  obtain ⟨l2,r2⟩:=Ga hr.1.2 (by omega)
  obtain ⟨l3,r3⟩:=Ga hr.2 (by omega)
  have hf:∀ i,i < c_.cK.length→(101≤c_.cK.getD i default∧c_.cK.getD i default≤1231)∧1≤(c_.cK.getD i default).tmod 100∧(c_.cK.getD i default).tmod 100≤31:=fun i hi=>by
   have h1:=in1 hi (w i hi)
   rw [Bool.or_eq_false_iff] at h1
   have h2:=hY h1.1
   have h3:=hY h1.2
   obtain ⟨h4,h5,-⟩:=r2 i hi
   rw [Int.tdiv_eq_ediv_of_nonneg h4,aD (by omega) (by omega)] at h2
   refine ⟨?_,h3⟩
   rw [Int.tmod_eq_emod_of_nonneg h4] at h3
   omega
  simp only [Bool.or_eq_false_iff,decide_eq_false_iff_not] at k
  rw [e2,ef c_.cK.length (fun i=>i) () (fun i hi=>on1 hi ?_) cU (by omega)]
  ·rw [decide_eq_false k.1.2,decide_eq_false k.2,Ai k.1.1.1 ho,Ai k.1.1.2 hc,tC r1 l1,tC r3 l3,tC (lo:=101) (up:=1231) (fun i hi=>⟨(hf i hi).1.1,(hf i hi).1.2,(r2 i hi).2.2⟩) l2]
   rfl
  ·have:=(hf i hi).2
   rw [decide_eq_false (by omega),decide_eq_false (by omega)]; rfl
theorem Pk {o:Order} (h:(!(gT o))=false):rE o=true:=by
 rw [Bool.not_eq_false'] at h
 have hl:=xc o h
 have e1:gT o=bN (iter (fun i2:Nat=>bif decide ((i2:Int) < ((o.aN.length:Nat):Int)) then (bif (!(ba ((o.aN.getD i2 default).ask) 0 21))||(!(ba ((o.aN.getD i2 default).H2) 0 4)) then .inl (.inl false) else bif ((decide ((i2:Int) > 0))&&(decide (((o.aN.getD ((bI ((i2:Int) - 1)).toNat) default).ask)≥((o.aN.getD i2 default).ask)))) then .inl (.inl false) else .inr (i2+1)) else (.inl (.inr ()):(Bool ⊕ Unit) ⊕ Nat)) default (o.aN.length - 0+1) 0) fun _ =>
   bN (iter (fun i7:Nat=>bif decide ((i7:Int) < ((o.rules.length:Nat):Int)) then (bif (!(ba ((o.rules.getD i7 default).ask) 0 21)) then .inl (.inl false) else bif ((decide ((i7:Int) > 0))&&(decide (((o.rules.getD ((bI ((i7:Int) - 1)).toNat) default).ask)≥((o.rules.getD i7 default).ask)))) then .inl (.inl false) else .inr (i7+1)) else (.inl (.inr ()):(Bool ⊕ Unit) ⊕ Nat)) default (o.rules.length - 0+1) 0) fun _=>true:=by kernel_rfl
 have e2:rE o=bN (iter (fun i2:List Int × Nat=>bif decide ((i2.2:Int) < ((o.aN.length:Nat):Int)) then (bif !(jW ((o.aN.getD i2.2 default).H2) 5) then .inl (.inl false) else .inr (i2.1++[(o.aN.getD i2.2 default).ask],i2.2+1)) else (.inl (.inr i2.1):(Bool ⊕ List Int) ⊕ (List Int × Nat))) default (o.aN.length - 0+1) ([],0)) fun b1 =>
   bN (iter (fun i5:List Int × Nat=>bif decide ((i5.2:Int) < ((o.rules.length:Nat):Int)) then .inr (i5.1++[(o.rules.getD i5.2 default).ask],i5.2+1) else (.inl (.inr i5.1):(Bool ⊕ List Int) ⊕ (List Int × Nat))) default (o.rules.length - 0+1) ([],0)) fun b4=>gC b1 0 21&&gC b4 0 21:=by kernel_rfl
 rw [e1] at h
 obtain ⟨w,h⟩:=dx o.aN.length (fun i=>i) () h (fun i hi=>go2 hi (fun _=>by decide) (by decide)) cU (by omega)
 obtain ⟨w2,-⟩:=dx o.rules.length (fun i=>i) () h (fun i hi=>go2 hi (fun _=>by decide) (by decide)) cU (by omega)
 have hc:∀ i,i < o.aN.length→jW ((o.aN.getD i default).H2) 5=true:=fun i hi=>by
  have h1:=(XP hi (w i hi)).1
  rw [Bool.or_eq_false_iff] at h1
  have:=hY h1.2
  exact RY ⟨this.1,by omega⟩
 have r1:Qm (l7 (fun i=>(o.aN.getD i default).ask) o.aN.length) 0 21:=fun i hi=>by
  rw [j7] at hi
  obtain ⟨h1,h2⟩:=XP hi (w i hi)
  rw [Bool.or_eq_false_iff] at h1
  have h3:=hY h1.1
  rw [mT hi]
  refine ⟨h3.1,h3.2,fun h0=>?_⟩
  rw [mT (by omega)]
  rw [aD (by omega) (by omega),show ((i:Int) - 1).toNat=i - 1 by omega,decide_eq_true (show (i:Int) > 0 by omega),Bool.true_and,decide_eq_false_iff_not] at h2
  omega
 have r2:Qm (l7 (fun i=>(o.rules.getD i default).ask) o.rules.length) 0 21:=fun i hi=>by
  rw [j7] at hi
  obtain ⟨h1,h2⟩:=XP hi (w2 i hi)
  have h3:=hY h1
  rw [mT hi]
  refine ⟨h3.1,h3.2,fun h0=>?_⟩
  rw [mT (by omega)]
  rw [aD (by omega) (by omega),show ((i:Int) - 1).toNat=i - 1 by omega,decide_eq_true (show (i:Int) > 0 by omega),Bool.true_and,decide_eq_false_iff_not] at h2
  omega
 rw [e2]
 refine Eq.trans (ef o.aN.length (fun i=>(l7 (fun i=>(o.aN.getD i default).ask) i,i)) (l7 (fun i=>(o.aN.getD i default).ask) o.aN.length) (fun i hi=>?_) cU (by omega)) ?_
 ·dsimp only
  rw [go_in hi,hc i hi,Bool.not_true,cond_false,← gu]
 refine Eq.trans (ef o.rules.length (fun i=>(l7 (fun i=>(o.rules.getD i default).ask) i,i)) (l7 (fun i=>(o.rules.getD i default).ask) o.rules.length) (fun i hi=>?_) cU (by omega)) ?_
 ·dsimp only
  rw [go_in hi,← gu]
 rw [tC r1 (by rw [j7]; omega),tC r2 (by rw [j7]; omega)]
 rfl
def Iw (c:Nat→Bool) (names:List ByteArray) (fK:Int):Int:=bif decide (((names.length:Nat):Int) > fK) then 6 else
 bN (iter (fun i2:Nat=>bif decide ((i2:Int) < ((names.length:Nat):Int)) then (bif jU names (i2:Int) != 0 then .inl (.inl (jU names (i2:Int))) else bif !(c i2) then .inl (.inl 1) else .inr (i2+1)) else (.inl (.inr ()):(Int ⊕ Unit) ⊕ Nat)) default (names.length - 0+1) 0) fun _=>0
theorem DI {c:Nat→Bool} {names:List ByteArray} {fK:Int} (h0:(names.length:Int)≤fK) (h:∀ i,i < names.length→(jU names ((i:Nat):Int) != 0)=false∧c i=true):Iw c names fK=0:=by
 unfold Iw
 rw [decide_eq_false (by omega),cond_false]
 exact ef names.length (fun i=>i) () (fun i hi=>on2 hi (h i hi).1 (by rw [(h i hi).2]; rfl)) cU (by omega)
theorem abC (n:List ByteArray) (m:Int):jV n m=Iw (fun _=>true) n m:=by kernel_rfl
theorem abD (n:List ByteArray) (m:Int) (r:ai):jX n m r=Iw (fun i=>uy r (r.aL.getD i default)) n m:=by kernel_rfl
theorem abE (n:List ByteArray) (m:Int) (r:ai):jY n m r=Iw (fun i=>jW ((r.aQ.getD i default).bn) ((r.aL.length:Nat):Int)&&jW ((r.aQ.getD i default).group) ((r.ch.length:Nat):Int)) n m:=by kernel_rfl
theorem abF (n:List ByteArray) (m:Int) (r:ai):jZ n m r=Iw (fun i=>rE (r.aG.getD i default)) n m:=by kernel_rfl
theorem nz {x:Int} (h:(x != 0)=true):x≠0:=bne_iff_ne.1 h
theorem Kt {r:ai} (h:qC r=0):((r.aM.length:Int)≤8∧∀ i,i < r.aM.length→(ei r.aM ((i:Nat):Int) != 0)=false)∧(r.aL.length:Int)≤40∧∀ i,i < r.aL.length→(ei (l7 (fun i=>(r.aL.getD i default).name) i++[(r.aL.getD i default).name]) ((i:Nat):Int) != 0)=false∧(!(kV r (r.aL.getD i default)))=false:=by
 have e:qC r=bif decide (((r.aM.length:Nat):Int) > 8) then 6 else
   bN (iter (fun i2:Nat=>bif decide ((i2:Int) < ((r.aM.length:Nat):Int)) then (bif ei r.aM (i2:Int) != 0 then .inl (.inl (ei r.aM (i2:Int))) else .inr (i2+1)) else (.inl (.inr ()):(Int ⊕ Unit) ⊕ Nat)) default (r.aM.length - 0+1) 0) fun _ =>
   bif decide (((r.aL.length:Nat):Int) > 40) then 6 else
   bN (iter (fun i5:List ByteArray × Nat=>bif decide ((i5.2:Int) < ((r.aL.length:Nat):Int)) then (bif ei (i5.1++[(r.aL.getD i5.2 default).name]) (i5.2:Int) != 0 then .inl (.inl (ei (i5.1++[(r.aL.getD i5.2 default).name]) (i5.2:Int))) else bif !(kV r (r.aL.getD i5.2 default)) then .inl (.inl 1) else .inr (i5.1++[(r.aL.getD i5.2 default).name],i5.2+1)) else (.inl (.inr ()):(Int ⊕ Unit) ⊕ (List ByteArray × Nat))) default (r.aL.length - 0+1) ([],0)) fun _=>0:=by kernel_rfl
 rw [e] at h
 by_cases c:((r.aM.length:Nat):Int) > 8
 ·rw [decide_eq_true c,cond_true] at h; exact absurd h (by decide)
 ·rw [decide_eq_false c,cond_false] at h
  obtain ⟨w,h⟩:=dx r.aM.length (fun i=>i) () h (fun i hi=>go1 hi nz) cU (by omega)
  by_cases c2:((r.aL.length:Nat):Int) > 40
  ·rw [decide_eq_true c2,cond_true] at h; exact absurd h (by decide)
  ·rw [decide_eq_false c2,cond_false] at h
   obtain ⟨w2,-⟩:=dx r.aL.length (fun i=>(l7 (fun i=>(r.aL.getD i default).name) i,i)) () h (fun i hi=>by
    dsimp only
    rw [← gu]
    exact go2 hi nz (by decide)) cU (by omega)
   refine ⟨⟨by omega,fun i hi=>in1 hi (w i hi)⟩,by omega,fun i hi=>?_⟩
   have:=w2 i hi
   dsimp only at this
   rw [← gu] at this
   exact XP hi this
theorem Np {r:ai} (h:sQ r=0):((r.ch.length:Int)≤20∧∀ i,i < r.ch.length→(!(ba ((r.ch.getD i default).BW) 0 9))=false)∧(r.aQ.length:Int)≤200∧∀ i,i < r.aQ.length→(ei (l7 (fun i=>(r.aQ.getD i default).name) i++[(r.aQ.getD i default).name]) ((i:Nat):Int) != 0)=false∧((!(ba ((r.aQ.getD i default).bn) 0 (bI (((r.aL.length:Nat):Int) - 1))))||(!(ba ((r.aQ.getD i default).group) 0 (bI (((r.ch.length:Nat):Int) - 1)))))=false:=by
 have e:sQ r=bif decide (((r.ch.length:Nat):Int) > 20) then 6 else
   bN (iter (fun i2:Nat=>bif decide ((i2:Int) < ((r.ch.length:Nat):Int)) then (bif !(ba ((r.ch.getD i2 default).BW) 0 9) then .inl (.inl 1) else .inr (i2+1)) else (.inl (.inr ()):(Int ⊕ Unit) ⊕ Nat)) default (r.ch.length - 0+1) 0) fun _ =>
   bif decide (((r.aQ.length:Nat):Int) > 200) then 6 else
   bN (iter (fun i5:List ByteArray × Nat=>bif decide ((i5.2:Int) < ((r.aQ.length:Nat):Int)) then (bif ei (i5.1++[(r.aQ.getD i5.2 default).name]) (i5.2:Int) != 0 then .inl (.inl (ei (i5.1++[(r.aQ.getD i5.2 default).name]) (i5.2:Int))) else bif ((!(ba ((r.aQ.getD i5.2 default).bn) 0 (bI (((r.aL.length:Nat):Int) - 1))))||(!(ba ((r.aQ.getD i5.2 default).group) 0 (bI (((r.ch.length:Nat):Int) - 1))))) then .inl (.inl 1) else .inr (i5.1++[(r.aQ.getD i5.2 default).name],i5.2+1)) else (.inl (.inr ()):(Int ⊕ Unit) ⊕ (List ByteArray × Nat))) default (r.aQ.length - 0+1) ([],0)) fun _=>0:=by kernel_rfl
 rw [e] at h
 by_cases c:((r.ch.length:Nat):Int) > 20
 ·rw [decide_eq_true c,cond_true] at h; exact absurd h (by decide)
 ·rw [decide_eq_false c,cond_false] at h
  obtain ⟨w,h⟩:=dx r.ch.length (fun i=>i) () h (fun i hi=>go1 hi (fun _=>by decide)) cU (by omega)
  by_cases c2:((r.aQ.length:Nat):Int) > 200
  ·rw [decide_eq_true c2,cond_true] at h; exact absurd h (by decide)
  ·rw [decide_eq_false c2,cond_false] at h
   obtain ⟨w2,-⟩:=dx r.aQ.length (fun i=>(l7 (fun i=>(r.aQ.getD i default).name) i,i)) () h (fun i hi=>by
    dsimp only
    rw [← gu]
    exact go2 hi nz (by decide)) cU (by omega)
   refine ⟨⟨by omega,fun i hi=>in1 hi (w i hi)⟩,by omega,fun i hi=>?_⟩
   have:=w2 i hi
   dsimp only at this
   rw [← gu] at this
   exact XP hi this
theorem Ku {r:ai} (h:uo r=0):(r.aG.length:Int)≤20∧∀ i,i < r.aG.length→(ei (l7 (fun i=>(r.aG.getD i default).name) i++[(r.aG.getD i default).name]) ((i:Nat):Int) != 0)=false∧(!(gT (r.aG.getD i default)))=false:=by
 have e:uo r=bif decide (((r.aG.length:Nat):Int) > 20) then 6 else
   bN (iter (fun i5:List ByteArray × Nat=>bif decide ((i5.2:Int) < ((r.aG.length:Nat):Int)) then (bif ei (i5.1++[(r.aG.getD i5.2 default).name]) (i5.2:Int) != 0 then .inl (.inl (ei (i5.1++[(r.aG.getD i5.2 default).name]) (i5.2:Int))) else bif !(gT (r.aG.getD i5.2 default)) then .inl (.inl 1) else .inr (i5.1++[(r.aG.getD i5.2 default).name],i5.2+1)) else (.inl (.inr ()):(Int ⊕ Unit) ⊕ (List ByteArray × Nat))) default (r.aG.length - 0+1) ([],0)) fun _=>0:=by kernel_rfl
 rw [e] at h
 by_cases c:((r.aG.length:Nat):Int) > 20
 ·rw [decide_eq_true c,cond_true] at h; exact absurd h (by decide)
 ·rw [decide_eq_false c,cond_false] at h
  obtain ⟨w2,-⟩:=dx r.aG.length (fun i=>(l7 (fun i=>(r.aG.getD i default).name) i,i)) () h (fun i hi=>by
   dsimp only
   rw [← gu]
   exact go2 hi nz (by decide)) cU (by omega)
  refine ⟨by omega,fun i hi=>?_⟩
  have:=w2 i hi
  dsimp only at this
  rw [← gu] at this
  exact XP hi this
theorem Gd (r:ai):eB r=(l7 (fun i=>(r.aL.getD i default).name) r.aL.length,l7 (fun i=>(r.aQ.getD i default).name) r.aQ.length,l7 (fun i=>(r.aG.getD i default).name) r.aG.length):=by
 have e:eB r=bN (iter (fun i:List ByteArray × Nat=>bif decide (((i.2:Nat):Int) < ((r.aL.length:Nat):Int)) then .inr (i.1++[(r.aL.getD i.2 default).name],i.2+1) else (.inl (.inr i.1):((List ByteArray × List ByteArray × List ByteArray) ⊕ List ByteArray) ⊕ (List ByteArray × Nat))) default (r.aL.length - 0+1) ([],0)) fun b1 =>
   bN (iter (fun i:List ByteArray × Nat=>bif decide (((i.2:Nat):Int) < ((r.aQ.length:Nat):Int)) then .inr (i.1++[(r.aQ.getD i.2 default).name],i.2+1) else (.inl (.inr i.1):((List ByteArray × List ByteArray × List ByteArray) ⊕ List ByteArray) ⊕ (List ByteArray × Nat))) default (r.aQ.length - 0+1) ([],0)) fun b3 =>
   bN (iter (fun i:List ByteArray × Nat=>bif decide (((i.2:Nat):Int) < ((r.aG.length:Nat):Int)) then .inr (i.1++[(r.aG.getD i.2 default).name],i.2+1) else (.inl (.inr i.1):((List ByteArray × List ByteArray × List ByteArray) ⊕ List ByteArray) ⊕ (List ByteArray × Nat))) default (r.aG.length - 0+1) ([],0)) fun b5=>(b1,b3,b5):=by kernel_rfl
 rw [e]
 refine Eq.trans (ef r.aL.length (fun i=>(l7 (fun i=>(r.aL.getD i default).name) i,i)) (l7 (fun i=>(r.aL.getD i default).name) r.aL.length) (fun i hi=>?_) cU (by omega)) ?_
 ·dsimp only
  rw [go_in hi,← gu]
 refine Eq.trans (ef r.aQ.length (fun i=>(l7 (fun i=>(r.aQ.getD i default).name) i,i)) (l7 (fun i=>(r.aQ.getD i default).name) r.aQ.length) (fun i hi=>?_) cU (by omega)) ?_
 ·dsimp only
  rw [go_in hi,← gu]
 refine Eq.trans (ef r.aG.length (fun i=>(l7 (fun i=>(r.aG.getD i default).name) i,i)) (l7 (fun i=>(r.aG.getD i default).name) r.aG.length) (fun i hi=>?_) cU (by omega)) ?_
 ·dsimp only
  rw [go_in hi,← gu]
 rfl
theorem Pl {γ δ ι:Type} (n:Nat) (st:Nat→ι) (Q:Nat→Prop) (u:δ) {f:ι→(γ ⊕ δ) ⊕ ι} {d:γ ⊕ δ} {g:δ→γ} {z:γ} {m:Nat} (h:bN (iter f d m (st 0)) g=z) (hs:∀ i,i < n→(∃ b,f (st i)=.inl (.inl b)∧b≠z)∨(f (st i)=.inr (st (i+1))∧Q i)) (he:f (st n)=.inl (.inr u)) (hm:n < m):(∀ i,i < n→Q i)∧g u=z:=by
 have w:=dx n st u h (fun i hi=>(hs i hi).imp id And.left) he hm
 refine ⟨fun i hi=>?_,w.2⟩
 rcases hs i hi with ⟨b,h1,_⟩ | h1
 ·rw [w.1 i hi] at h1; exact absurd h1 (by simp)
 ·exact h1.2
theorem WX {B D2:Type} {z x1 x2:Int} {n:Nat} {C:Bool} {f2:Nat→((((Int ⊕ Unit) ⊕ Nat) ⊕ B) ⊕ D2) ⊕ Nat} {d:((((Int ⊕ Unit) ⊕ Nat) ⊕ B) ⊕ D2)} {m:Nat} {g2:D2→((Int ⊕ Unit) ⊕ Nat) ⊕ B} {G:B→(Int ⊕ Unit) ⊕ Nat} {j:Nat} {R:Prop} {Q:Nat→Prop} (u:D2) {v:B}
  (h1:x1≠z) (h2:x2≠z) (hs:∀ k,k < n→f2 k=.inl (.inl (.inl (.inl (.inl x2))))∨(f2 k=.inr (k+1)∧Q k)) (he:f2 n=.inl (.inr u)) (hg:g2 u=.inr v) (hG:G v=.inr j) (hm:n < m) (hR:C=false→(∀ k,k < n→Q k)→R) :
  (∃ b,bN (bif C then .inl (.inl (.inl x1)) else bN (iter f2 d m 0) g2) G=.inl (.inl b)∧b≠z)∨(bN (bif C then .inl (.inl (.inl x1)) else bN (iter f2 d m 0) g2) G=.inr j∧R):=by
 cases hc:C with
 | true=>exact .inl ⟨x1,rfl,h1⟩
 | false =>
  simp only [cond_false]
  rcases Kk n (fun k=>k) (fun b=>b=.inl (.inl (.inl x2))) u (f:=f2) (d:=d) (g:=g2) (fun k hk=>(hs k hk).imp (fun e=>⟨_,e,rfl⟩) And.left) he hm with e | ⟨e1,e2⟩
  ·rw [e]; exact .inl ⟨x2,rfl,h2⟩
  ·rw [e2,hg,wv]
   refine .inr ⟨hG,hR hc fun k hk=>?_⟩
   rcases hs k hk with e | e
   ·have:=e1 k hk; rw [e] at this; exact absurd this (by simp)
   ·exact e.2
theorem WY {B D2:Type} {x1:(Int ⊕ Unit) ⊕ Nat} {n:Nat} {C:Bool} {f2:Nat→((((Int ⊕ Unit) ⊕ Nat) ⊕ B) ⊕ D2) ⊕ Nat} {d:((((Int ⊕ Unit) ⊕ Nat) ⊕ B) ⊕ D2)} {m:Nat} {g2:D2→((Int ⊕ Unit) ⊕ Nat) ⊕ B} {G:B→(Int ⊕ Unit) ⊕ Nat} {j:Nat} (u:D2) {v:B}
  (hc:C=false) (hs:∀ k,k < n→f2 k=.inr (k+1)) (he:f2 n=.inl (.inr u)) (hg:g2 u=.inr v) (hG:G v=.inr j) (hm:n < m):bN (bif C then .inl x1 else bN (iter f2 d m 0) g2) G=.inr j:=by
 rw [hc,cond_false,ef n (fun k=>k) u hs he hm,hg,wv,hG]
def UsP (r:ai) (i:Nat):Prop:=(((!(ba ((r.aI.getD i default).from_) 0 (bI (((r.aL.length:Nat):Int) - 1))))||(!(ba ((r.aI.getD i default).cH) 0 (bI (((r.aL.length:Nat):Int) - 1)))))||(!(ba ((r.aI.getD i default).days) 1 20000)))=false ∧
 ∀ q,q < i→((((r.aI.getD q default).from_) == ((r.aI.getD i default).from_))&&(((r.aI.getD q default).cH) == ((r.aI.getD i default).cH)))=false
theorem Hw {r:ai} (h:rr r=0):(r.aI.length:Int)≤100∧∀ i,i < r.aI.length→UsP r i:=by
 simp only [rr,gU,Sk.cQ,Sk.eV,Sk.fA,Sk.da,Sk.fR,Sk.iC,Sk.cg,iM.Cq,kk,kp,bw.PV,bw.V9,aj] at h
 by_cases c:((r.aI.length:Nat):Int) > 100
 ·rw [decide_eq_true c,cond_true] at h; exact absurd h (by decide)
 ·rw [decide_eq_false c,cond_false] at h
  refine ⟨by omega,(Pl r.aI.length (fun i=>i) (UsP r) () h (fun i hi=>?_) (by rw [decide_eq_false (by omega),cond_false]) (by omega)).1⟩
  simp only [go_in hi]
  refine WX (Q:=fun q=>((((r.aI.getD q default).from_) == ((r.aI.getD i default).from_))&&(((r.aI.getD q default).cH) == ((r.aI.getD i default).cH)))=false) (((i:Nat):Int),((i:Nat):Int),((i:Nat):Int),decide (((i:Nat):Int) < ((i:Nat):Int))) (by decide) (show (5:Int)≠0 by decide) (fun k hk=>?_) cU rfl rfl (by omega) (fun h1 h2=>⟨h1,h2⟩)
  rw [go_in hk]
  cases e:(((r.aI.getD k default).from_) == ((r.aI.getD i default).from_))&&(((r.aI.getD k default).cH) == ((r.aI.getD i default).cH)) with
  | true=>exact .inl rfl
  | false=>exact .inr ⟨rfl,rfl⟩
theorem Kv {r:ai} (h0:(r.aI.length:Int)≤100) (h:∀ i,i < r.aI.length→UsP r i) (hc:r.aL.length≤1000000):kZ r=0:=by
 simp only [kZ,gX,Sk.cQ,Sk.eV,Sk.fA,Sk.da,Sk.fR,Sk.iC,Sk.cg,iM.Cq,kk,kp,bw.PV,bw.V9,bS]
 rw [decide_eq_false (by omega),cond_false]
 refine ef r.aI.length (fun i=>i) () (fun i hi=>?_) cU (by omega)
 simp only [go_in hi]
 obtain ⟨h1,h2⟩:=h i hi
 simp only [Bool.or_eq_false_iff] at h1
 have hd:=hY h1.2
 have Gq:(dz r.aI 0 i).length=i:=by unfold dz; rw [List.length_map,List.length_range]
 refine WY (n:=(dz r.aI 0 i).length) (((((dz r.aI 0 i).length:Nat):Int)),decide (((((dz r.aI 0 i).length):Nat):Int) < ((((dz r.aI 0 i).length):Nat):Int))) ?_ (fun k hk=>?_) cU rfl rfl (by omega)
 ·rw [Ai h1.1.1 hc,Ai h1.1.2 hc,decide_eq_false (by omega),decide_eq_false (by omega)]; rfl
 ·rw [go_in hk]
  have Py:k < i:=by omega
  have e:(dz r.aI 0 i).getD k default=r.aI.getD k default:=by simp [dz,List.getD,Py]
  rw [e,h2 k Py,cond_false]
def RtP (r:ai) (i:Nat):Prop:=(((!(ba ((r.dL.getD i default).from_) 0 (bI (((r.aM.length:Nat):Int) - 1))))||(!(ba ((r.dL.getD i default).cH) 0 (bI (((r.aM.length:Nat):Int) - 1)))))||(((r.dL.getD i default).from_) == ((r.dL.getD i default).cH)))=false ∧
 (((!(ba ((r.dL.getD i default).num) 1 1073741824))||(!(ba ((r.dL.getD i default).den) 1 1073741824)))||(!(ba ((r.dL.getD i default).since) 0 100000)))=false
def HlP (r:ai) (i:Nat):Prop:=(((!(ba ((r.e9.getD i default).order) 0 (bI (((r.aG.length:Nat):Int) - 1))))||(!(ba ((r.e9.getD i default).from_) 0 ((r.e9.getD i default).cH))))||(decide (((r.e9.getD i default).cH) > 100000)))=false
theorem Kw {r:ai} (h:ur r=0):((r.dL.length:Int)≤100∧∀ i,i < r.dL.length→RtP r i)∧(r.e9.length:Int)≤20∧∀ i,i < r.e9.length→HlP r i:=by
 simp only [ur,jf,Sk.cQ,Sk.eV,Sk.fA,Sk.da,Sk.fR,Sk.iC,Sk.cg,iM.Cq,kk,kp,bw.PV,bw.V9,aj] at h
 by_cases c:((r.dL.length:Nat):Int) > 100
 ·rw [decide_eq_true c,cond_true] at h; exact absurd h (by decide)
 ·rw [decide_eq_false c,cond_false] at h
  obtain ⟨w,h⟩:=dx r.dL.length (fun i=>i) () h (fun i hi=>go2 hi (fun _=>by decide) (by decide)) cU (by omega)
  by_cases c2:((r.e9.length:Nat):Int) > 20
  ·rw [decide_eq_true c2,cond_true] at h; exact absurd h (by decide)
  ·rw [decide_eq_false c2,cond_false] at h
   obtain ⟨w2,-⟩:=dx r.e9.length (fun i=>i) () h (fun i hi=>go1 hi (fun _=>by decide)) cU (by omega)
   exact ⟨⟨by omega,fun i hi=>XP hi (w i hi)⟩,by omega,fun i hi=>in1 hi (w2 i hi)⟩
theorem R2 {r:ai} (h0:(r.dL.length:Int)≤100) (h:∀ i,i < r.dL.length→RtP r i) (k0:(r.e9.length:Int)≤20) (k:∀ i,i < r.e9.length→HlP r i) (hc:r.aM.length≤1000000) (ho:r.aG.length≤1000000):uz r=0:=by
 simp only [uz,jg,Sk.cQ,Sk.eV,Sk.fA,Sk.da,Sk.fR,Sk.iC,Sk.cg,iM.Cq,kk,kp,bw.PV,bw.V9,bS]
 rw [decide_eq_false (by omega),cond_false]
 refine Eq.trans (ef r.dL.length (fun i=>i) () (fun i hi=>on1 hi ?_) cU (by omega)) ?_
 ·obtain ⟨h1,h2⟩:=h i hi
  simp only [Bool.or_eq_false_iff] at h1 h2
  have e1:=hY h2.1.1
  have e2:=hY h2.1.2
  have e3:=hY h2.2
  rw [Ai h1.1.1 hc,Ai h1.1.2 hc,h1.2,aD (by omega) (by omega),aD (by omega) (by omega),RY (by omega),RY (by omega),RY (by omega)]
  rfl
 ·rw [decide_eq_false (by omega),cond_false]
  refine ef r.e9.length (fun i=>i) () (fun i hi=>on1 hi ?_) cU (by omega)
  have h1:=k i hi
  unfold HlP at h1
  simp only [Bool.or_eq_false_iff,decide_eq_false_iff_not] at h1
  have e1:=hY h1.1.2
  rw [Ai h1.1.1 ho,decide_eq_false (by omega),decide_eq_false (by omega),decide_eq_false h1.2]
  rfl
theorem Nq {r:ai} (h:eo r=0):dt r=0:=by
 have e:eo r=bN (bif qC r == 0 then .inr (sQ r) else .inr (qC r)) fun b2=>bN (bif b2 == 0 then .inr (uo r) else .inr b2) fun b4=>bN (bif b4 == 0 then .inr (rr r) else .inr b4) fun b6=>bif b6 == 0 then ur r else b6:=by kernel_rfl
 have z:∀ x:Int,x≠0→(x == 0)=false:=fun x hx=>beq_eq_false_iff_ne.2 hx
 have one:∀ (x y:Int),bN (bif x == 0 then (Sum.inr y:Int ⊕ Int) else .inr x) id=0→x=0∧y=0:=fun x y q=>by
  by_cases c:x=0
  ·subst c; exact ⟨rfl,q⟩
  ·rw [z _ c,cond_false] at q; exact absurd q c
 have fl:∀ (x y:Int) (F:Int→Int),bN (bif x == 0 then (Sum.inr y:Int ⊕ Int) else .inr x) F=F (bif x == 0 then y else x):=fun x y F=>by cases (x == 0) <;> rfl
 have two:∀ (x y:Int),(bif x == 0 then y else x)=0→x=0∧y=0:=fun x y q=>by
  by_cases c:x=0
  ·subst c; exact ⟨rfl,q⟩
  ·rw [z _ c,cond_false] at q; exact absurd q c
 rw [e,fl,fl,fl] at h
 obtain ⟨h,q5⟩:=two _ _ h
 obtain ⟨h,q4⟩:=two _ _ h
 obtain ⟨h,q3⟩:=two _ _ h
 obtain ⟨q1,q2⟩:=two _ _ h
 obtain ⟨⟨a1,a2⟩,a3,a4⟩:=Kt q1
 obtain ⟨⟨b1,b2⟩,b3,b4⟩:=Np q2
 obtain ⟨c1,c2⟩:=Ku q3
 obtain ⟨d1,d2⟩:=Hw q4
 obtain ⟨⟨f1,f2⟩,f3,f4⟩:=Kw q5
 have p:dt r=bif jV r.aM 8 != 0 then jV r.aM 8 else bif jX (eB r).1 40 r != 0 then jX (eB r).1 40 r else bif decide (((r.ch.length:Nat):Int) > 20) then 6 else
   bN (iter (fun i5:Nat=>bif decide ((i5:Int) < ((r.ch.length:Nat):Int)) then (bif !(jW ((r.ch.getD i5 default).BW) 10) then .inl (.inl 1) else .inr (i5+1)) else (.inl (.inr ()):(Int ⊕ Unit) ⊕ Nat)) default (r.ch.length - 0+1) 0) fun _ =>
   bif jY (eB r).2.1 200 r != 0 then jY (eB r).2.1 200 r else bif jZ (eB r).2.2 20 r != 0 then jZ (eB r).2.2 20 r else bif kZ r != 0 then kZ r else uz r:=by kernel_rfl
 have t1:jV r.aM 8=0:=(abC _ _).trans (DI a1 fun i hi=>⟨Gc (BE hi (a2 i hi)).1 (BE hi (a2 i hi)).2,rfl⟩)
 have t2:jX (eB r).1 40 r=0:=(abD _ _ _).trans (by
  rw [Gd]
  exact DI (by rw [j7]; exact a3) fun i hi=>by
   rw [j7] at hi
   exact ⟨yB hi (a4 i hi).1,R1 (a4 i hi).2 (by omega) (by omega)⟩)
 have t3:jY (eB r).2.1 200 r=0:=(abE _ _ _).trans (by
  rw [Gd]
  exact DI (by rw [j7]; exact b3) fun i hi=>by
   rw [j7] at hi
   have:=(b4 i hi).2
   rw [Bool.or_eq_false_iff] at this
   exact ⟨yB hi (b4 i hi).1,by rw [Ai this.1 (by omega),Ai this.2 (by omega)]; rfl⟩)
 have t4:jZ (eB r).2.2 20 r=0:=(abF _ _ _).trans (by
  rw [Gd]
  exact DI (by rw [j7]; exact c1) fun i hi=>by
   rw [j7] at hi
   exact ⟨yB hi (c2 i hi).1,Pk (c2 i hi).2⟩)
 have zz:((0:Int) != 0)=false:=rfl
 rw [p,t1,t2,zz,cond_false,cond_false,decide_eq_false (by omega),cond_false]
 refine Eq.trans (ef r.ch.length (fun i=>i) () (fun i hi=>on1 hi ?_) cU (by omega)) ?_
 ·have:=hY (b2 i hi)
  rw [RY (by omega)]; rfl
 ·rw [t3,t4,Kv d1 d2 (by omega),R2 f1 f2 f3 f4 (by omega) (by omega)]
  rfl
def eQ (r:ai) (l:List ah) (bill:Int) (day:Int) (x_:ae) (s:ByteArray):Sk (Bool):=let bF:=(decide (((s.size:Nat):Int) > 300));
 .r 1 OQ.c fun x1 =>
 .r 2 (.dep ((Rk l).c) fun x2=>.dep (.wh ((!x2)||bF) false ((Rl r).c)) fun x3=>.wh (((!x2)||bF)||(!x3)) false ((ru r).c)) fun MK =>
 .br ((((!MK.1)||bF)||(!MK.2.1))||(MK.2.2 != 0))
 (.fin x1)
 (.r 4 ((rT s).c) fun x5 =>
 .r 5 ((O2 s).c) fun x6 =>
 .r 6 (.dep ((dA x_).c) fun x7=>.dep ((jN x_).c) fun x8=>.dep (.wh (!(x7 == x8)) false ((kU x_).c)) fun _=>.wh (!(x7 == x8)) false ((uw x_).c)) fun ZD =>
 .br ((((!(ZD.1 == ZD.2.1))||(!(ZD.2.2.1.toList == ZD.2.2.2.toList)))||(!(bZ (ae.cells x5.1) (ae.cells x6.1))))||(!(x5.2 == x6.2)))
 (.fin false)
 (.bt
 (.loop (default:Sum (Bool) (Unit)) (fun i12=>i12≤l.length) (fun i12=>l.length - i12) (0:Nat)
 (fun (i12:Nat)=>⟨[(18,iv (i12:Int))],[]⟩) fun i12=>let eX:=((l.getD i12 default).report); let dm:=(cM (i12:Int) l.length);
 .lt 1 0 i12 l.length
 (.r 11 (.ak (.p dm) (.dep ((mq x_ eX).c) fun _=>.ak (.p dm) ((vJ x_ eX).c))) fun p15 =>
 .br (!(p15.1 == p15.2))
 (.fin (.inl (.inl false)))
 (.nx 10 18 i12 (i12+1)))
 (.fin (.inl (.inr ()))))
 (fun (_:Unit)=>⟨[],[]⟩) fun _ =>
 .r 13 ((Hc r l bill day).c) fun Mn =>
 .r 14 ((Ng r l bill day).c) fun O0=>let aC:=(Mn.2 == (decide (((O0.2.length:Nat):Int) > 0)));
 .r 15 (.dep ((qy l day).c) fun P4=>.dep ((Nh l day).c) fun x19=>.dep ((Fe P4 x19).c) fun x20=>.dep (.wh (!x20) false ((ed l day).c)) fun x21=>.dep (.wh (!x20) false ((B3 l day).c)) fun zB=>.wh (!x20) false ((rk x21 zB).c)) fun p28 =>
 .br ((!p28.2.2.1)||(!p28.2.2.2.2.2))
 (.fin false)
 (.r 17 (.dep (.wh x1 true ((Pj Mn.1 O0.1).c)) fun x24=>.dep (.wh ((x1&&x24)&&aC) true ((Hv r l bill day).c)) fun Wq=>.wh ((x1&&x24)&&aC) true ((BB Wq O0.2).c)) fun ZE =>
 .fin (((x1&&ZE.1)&&aC)&&ZE.2.2))))
def jc r l bill day x_ s:=(eQ r l bill day x_ s).val
theorem xg (r:ai) (l:List ah) (bill:Int) (day:Int) (x_:ae) (s:ByteArray) (hP:(∀ a,a∈l→a.report.dT)∧x_.dT):(eQ r l bill day x_ s).dj (fun (x:Bool)=>x=true):=by
 unfold eQ
 obtain ⟨hi,hx⟩:=hP
 have st:∀ {i n:Nat},decide ((i:Int) < (n:Int))=true→i < n:=fun h=>by have h:=of_decide_eq_true h; omega
 refine fun x1 e1 _=>?_
 have e1:x1=true:=(show x1=vG from e1).trans Rq
 refine fun MK hp _=>⟨fun _=>e1,fun hc=>?_⟩
 have hp:MK=(DC l,DD r,eo r):=hp
 subst hp
 simp only [Bool.or_eq_false_iff,Bool.not_eq_false',Ff,decide_eq_true_eq,decide_eq_false_iff_not,bne_eq_false_iff_eq] at hc
 obtain ⟨⟨⟨hl1,hs1⟩,hf⟩,hk⟩:=hc
 have l2:l.length≤1200:=by omega
 have hs:s.size≤1000000:=by omega
 have hQ:=Nq hk
 refine fun x5 e5 _=>fun x6 e6 k6=>fun ZD e29 _=>⟨fun h=>?_,fun _=>?_⟩
 ·exfalso
  have e5:x5=bV s:=e5
  have e6:x6=mw s:=e6
  have e29:ZD=(au x_,gq x_,bg x_,eY x_):=e29
  have e:x6=x5:=by rw [e6,e5]; exact RA hs (e6 ▸ k6 hs)
  rw [e29,e,nC,sV hx,Nk] at h
  simp only [beq_self_eq_true,Bool.not_true,Bool.or_self] at h
  cases h
 refine ⟨⟨Nat.zero_le _,fun i12 h12=>⟨fun hd=>fun p15 XM _=>⟨fun h=>?_,fun _=>fun _ _ _=>⟨by have:=st hd; show i12+1≤l.length; omega,by have:=st hd; show l.length - (i12+1) < l.length - i12; omega⟩⟩,fun hd=>trivial⟩⟩,fun _ _ _=>?_⟩
 ·exfalso
  have XM:p15=(de x_ (l.getD i12 default).report,my x_ (l.getD i12 default).report):=XM
  rw [XM,xy] at h
  simp only [beq_self_eq_true,Bool.not_true] at h
  cases h
 refine fun Mn WD _=>fun O0 e17 k17=>fun p28 e28 _=>⟨fun h=>?_,fun _=>fun ZE e27 _=>?_⟩
 ·exfalso
  have e28:p28=(bJ l day,tB l day,sP (bJ l day) (tB l day),aB l day,nK l day,gn (aB l day) (nK l day)):=e28
  have eL:tB l day=bJ l day:=vW l day l2
  have eK:nK l day=aB l day:=mJ l day ⟨l2,hi⟩
  rw [e28,eL,eK,Nl,BD] at h
  cases h
 ·have k17:B7 r l bill day O0:=k17 ⟨l2,hi,hk,hQ⟩
  obtain ⟨k1,k2⟩:=k17
  have WD:Mn=((dJ r l bill day).file,decide ((((dJ r l bill day).used.length:Nat):Int) > 0)):=WD
  have e27:ZE=(Af Mn.1 O0.1,(dJ r l bill day).used,mS (dJ r l bill day).used O0.2):=e27
  rw [WD,k1,k2] at e27
  show (((x1&&ZE.1)&&(Mn.2 == (decide (((O0.2.length:Nat):Int) > 0))))&&ZE.2.2)=true
  rw [e27,e1,WD,k2,Nn,C0,beq_self_eq_true]
  rfl
theorem oQ (r:ai) (l:List ah) (bill:Int) (day:Int) (x_:ae) (s:ByteArray):(fun (x:Bool)=>((∀ a,a∈l→a.report.dT)∧x_.dT)→(x=true)) (jc r l bill day x_ s):=fun hP=>have h:=Sk.cN _ (xg r l bill day x_ s hP); h
theorem yC (r:ai) (l:List ah) (bill:Int) (day:Int) (x_:ae) (s:ByteArray) (hi:∀ a,a∈l→a.report.dT) (hx:x_.dT):(eQ r l bill day x_ s).bO (fun _=>True):=by
 unfold eQ
 have st:∀ {i n:Nat},decide ((i:Int) < (n:Int))=true→i < n:=fun h=>by have h:=of_decide_eq_true h; omega
 have w:∀ {i n:Nat},i < n→n≤9223372036854775807→bI ((i:Int)+1)=((i+1:Nat):Int):=fun h h'=>by rw [aD (by omega) (by omega)]; omega
 refine ⟨trivial,fun x1 _ _=>⟨⟨trivial,fun _ _ _=>⟨fun _=>trivial,fun _ _ _=>fun _=>trivial⟩⟩,fun MK hp _=>⟨fun _=>trivial,fun hc=>?_⟩⟩⟩
 have hp:MK=(DC l,DD r,eo r):=hp
 subst hp
 simp only [Bool.or_eq_false_iff,Bool.not_eq_false',Ff,decide_eq_true_eq,decide_eq_false_iff_not,bne_eq_false_iff_eq] at hc
 obtain ⟨⟨⟨hl1,hs1⟩,hf⟩,hk⟩:=hc
 have l2:l.length≤1200:=by omega
 have hs:s.size≤1000000:=by omega
 have hr:r.Small:=JL r hf
 have hQ:=Nq hk
 refine ⟨hs,fun x5 e5 _=>⟨hs,fun x6 e6 k6=>⟨⟨trivial,fun _ _ _=>⟨trivial,fun _ _ _=>⟨fun _=>hx,fun _ _ _=>fun _=>hx⟩⟩⟩,fun ZD e29 _=>⟨fun h=>trivial,fun _=>?_⟩⟩⟩⟩
 refine ⟨⟨Nat.zero_le _,fun i12 h12 hb=>⟨fun hd=>⟨⟨⟨by omega,by have:=st hd; omega⟩,trivial,fun _ _ _=>⟨⟨by omega,by have:=st hd; omega⟩,trivial⟩⟩,fun p15 XM _=>⟨fun h=>trivial,fun _=>⟨trivial,fun _ _ _=>⟨w (st hd) (by omega),by have:=st hd; show i12+1≤l.length; omega,by have:=st hd; show l.length - (i12+1) < l.length - i12; omega⟩⟩⟩⟩,fun hd=>trivial⟩⟩,fun _ _ _=>?_⟩
 refine ⟨⟨hi,hr⟩,fun Mn WD _=>⟨⟨l2,hi,hk,hQ⟩,fun O0 e17 k17=>⟨⟨trivial,fun _ _ _=>⟨trivial,fun _ _ _=>⟨trivial,fun _ _ _=>⟨fun _=>hi,fun _ _ _=>⟨fun _=>hi,fun _ _ _=>fun _=>trivial⟩⟩⟩⟩⟩,fun p28 e28 _=>⟨fun h=>trivial,fun _=>⟨?_,fun ZE e27 _=>trivial⟩⟩⟩⟩⟩
 exact ⟨fun _=>trivial,fun _ _ _=>⟨fun _=>⟨hi,hr⟩,fun _ _ _=>fun _=>trivial⟩⟩
def Aj r l bill day x_ s:=kk tok mixed Tryz.func5 [av r.cells,lv ah.cells l,iv bill,iv day,av x_.cells,sv s] (fun x=>bv x) true (eQ r l bill day x_ s) (jc r l bill day x_ s) (u2 (yC r l bill day x_ s)) (fun (x:Bool)=>((∀ a,a∈l→a.report.dT)∧x_.dT)→(x=true)) (oQ r l bill day x_ s)
theorem yD (r:ai) (l:List ah) (bill:Int) (day:Int) (x_:ae) (s:ByteArray) (hi:∀ a,a∈l→a.report.dT) (hx:x_.dT):kE Tryz.prog 5 [av r.cells,lv ah.cells l,iv bill,iv day,av x_.cells,sv s] [] (bv (jc r l bill day x_ s)) []:=(Aj r l bill day x_ s).pf ⟨hi,hx⟩
end
end Go.Proofs.YtihmmpaalpghbaaGreatDoor
