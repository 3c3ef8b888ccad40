/- Functions, as sketches. -/
import Derived.Test.YtkbkoaoolojhaaaGreatDoorLe
import Derived.RangeFuncNested
import Derived.RangeFuncBound
import Derived.RangeFuncBox
import Derived.RangeFuncFrom
import Derived.RangeFuncCalls
import Derived.RangeFuncLeaves
import Derived.Shelf.Abstract
import Derived.OwnWalkIn
import Derived.TacticsInMore
import Derived.LoopNIn
import Derived.LoopIn
set_option linter.unusedSimpArgs false
set_option linter.unusedVariables false
set_option maxHeartbeats 1000000
set_option maxRecDepth 100000
namespace Go.Proofs.YtkbkoaoolojhaaaGreatDoor
noncomputable section
open Go Go.Av
inductive yi:Term→Int→Prop
 | int {n:Int} (h : -1099511627776≤n∧n≤1099511627776):yi ⟨0,n,[]⟩ 0
 | bool {n:Int} (h:0≤n∧n≤1):yi ⟨1,n,[]⟩ 1
 | var {n:Int} (h:0≤n∧n≤19):yi ⟨2,n,[]⟩ (if n < 7 then 0 else 1)
 | not {a:Term}:yi a 1→yi ⟨3,0,[a]⟩ 1
 | acO {op:Int} {a b:Term} (h:op=4∨op=5):yi a 1→yi b 1→yi ⟨op,0,[a,b]⟩ 1
 | ite {a b c:Term} {k:Int}:yi a 1→yi b k→yi c k→yi ⟨6,0,[a,b,c]⟩ k
 | less {a b:Term}:yi a 0→yi b 0→yi ⟨7,0,[a,b]⟩ 1
 | eq {a b:Term} {k:Int}:yi a k→yi b k→yi ⟨8,0,[a,b]⟩ 1
 | arith {op:Int} {a b:Term} (h:9≤op∧op≤13):yi a 0→yi b 0→yi ⟨op,0,[a,b]⟩ 0
theorem yi.kind {t:Term} {k:Int} (h:yi t k):k=0∨k=1:=by
 induction h with
 | var _=>split <;> simp
 | ite _ _ _ _ ih _=>exact ih
 | _=>simp
def wy (rv:Term→Int × Int) (rp:Term→Prop) (rf:∀ (t:Term),rp t→eC Tryz.prog 209 [av t.cells] [] (.fj [iv ((rv t).1),iv ((rv t).2)]) []) (t:Term):iI (Int × Int):=⟨Tryz.prog,209,[av t.cells],fun x=>.fj [iv x.1,iv x.2],true,rv t,rp t,rf t,fun _=>True,trivial⟩
def eF (rv:Term→Int × Int) (rp:Term→Prop) (rf:∀ (t:Term),rp t→eC Tryz.prog 209 [av t.cells] [] (.fj [iv ((rv t).1),iv ((rv t).2)]) []) (t:Term):Sk (Int × Int) :=
 .r 1 (.al (.o [.dn (mkC dV t.args.length 0)]) (.p (mkP ((t.args.length:Nat):Int) 8))) fun _ =>
 .bind true (fun b1=>b1.length=t.args.length∧∀ q,q < t.args.length→(rv (t.args.getD q default)).2=0∧b1.getD q default=(rv (t.args.getD q default)).1)
 (.loop (default:Sum (Int × Int) ((List Int))) (fun i2=>i2.1.length=t.args.length∧i2.2≤t.args.length∧∀ q,q < i2.2→(rv (t.args.getD q default)).2=0∧i2.1.getD q default=(rv (t.args.getD q default)).1) (fun i2=>t.args.length - i2.2) ((List.replicate t.args.length (0:Int),0):(List Int) × Nat)
 (fun (i2:(List Int) × Nat)=>⟨[(4,ow 100002 i2.1),(20,iv (i2.2:Int))],[(100002,aU 3 1 bS i2.1)]⟩) fun i2 =>
 .lt 18 0 i2.2 t.args.length
 (.r 4 (.al (.p (bN (i2.2:Int) t.args.length)) (.o [.cast 23 (acH (Term.MR (t.args.getD i2.2 default)))])) fun _ =>
 .r 5 ((wy rv rp rf (t.args.getD i2.2 default)).c) fun x3 =>
 .br (x3.2 != 0)
 (.fin (.inl (.inl (0,x3.2))))
 (.r 8 (.al (.p (bN (i2.2:Int) i2.1.length)) (.al (.o [.dn (uj dV i2.1 i2.2 x3.1)]) (.p (i2.2 < i2.1.length)))) fun _ =>
 .wn 100002 i2.1.length (i2.1.set i2.2 x3.1).length <|
 .nx 9 20 i2.2 (i2.1.set i2.2 x3.1,i2.2+1)))
 (.fin (.inl (.inr i2.1))))
 (fun (b1:(List Int))=>⟨[(4,ow 100001 b1)],[(100001,aU 3 1 bS b1)]⟩) fun b1 =>
 .br ((decide (t.op < 0))||(decide (t.op > 13)))
 (.fin (0,1))
 (.br (((t.op == 0)||(t.op == 1))||(t.op == 2))
 (.r 13 ((AA t).c) fun x4 =>
 .fin (x4.1,x4.2))
 (.r 14 ((uw t.op).c) fun x5 =>
 .br ((((b1.length:Nat):Int) != ((x5.args.length:Nat):Int))||(t.n != 0))
 (.fin (0,2))
 (.bind true (fun b6=>∀ q,q < x5.args.length→(x5.args.getD q default = -1→b1.getD q default=b6∨b1.getD q default = -1)∧(x5.args.getD q default≠-1→b1.getD q default=x5.args.getD q default))
 (.loop (default:Sum (Int × Int) (Int)) (fun i7=>i7.2≤x5.args.length∧∀ q,q < i7.2→(x5.args.getD q default = -1→b1.getD q default=i7.1∨b1.getD q default = -1)∧(x5.args.getD q default≠-1→b1.getD q default=x5.args.getD q default)) (fun i7=>x5.args.length - i7.2) (((-1),0):Int × Nat)
 (fun (i7:Int × Nat)=>⟨[(10,iv i7.1),(82,iv (i7.2:Int))],[]⟩) fun i7 =>
 .lt 80 0 i7.2 x5.args.length
 (.r 20 (.p (bN (i7.2:Int) x5.args.length)) fun _ =>
 .bind false (fun b8=>b8=if (x5.args.getD i7.2 default) = -1∧i7.1 = -1 then b1.getD i7.2 default else i7.1)
 (.br (((x5.args.getD i7.2 default) == (-1))&&(i7.1 == (-1)))
 (.r 22 (.al (.p (bN (i7.2:Int) b1.length)) (.p (i7.2 < b1.length))) fun _ =>
 .fin (.inr (b1.getD i7.2 default)))
 (.fin (.inr i7.1)))
 (fun (b8:Int)=>⟨[(10,iv b8)],[]⟩) fun b8 =>
 .bind false (fun b9=>b9=if (x5.args.getD i7.2 default) = -1 then b8 else (x5.args.getD i7.2 default))
 (.br ((x5.args.getD i7.2 default) == (-1))
 (.fin (.inr b8))
 (.fin (.inr (x5.args.getD i7.2 default))))
 (fun (b9:Int)=>⟨[(12,iv b9)],[]⟩) fun b9 =>
 .r 25 (.al (.p (bN (i7.2:Int) b1.length)) (.p (i7.2 < b1.length))) fun _ =>
 .br ((b1.getD i7.2 default) != b9)
 (.fin (.inl (.inl (0,11))))
 (.nx 27 82 i7.2 (b8,i7.2+1)))
 (.fin (.inl (.inr i7.1))))
 (fun (b6:Int)=>⟨[(10,iv b6)],[]⟩) fun b6 =>
 .br (x5.result == (-1))
 (.fin (b6,0))
 (.fin (x5.result,0)))))
def ck:Nat→Term→Int × Int
 | 0,_=>default
 | fu+1,t=>(eF (ck fu) (fun _=>False) (fun _=>fun h=>h.elim) t).val
theorem Pn (fu:Nat) (rf:∀ (t:Term),t.depth≤fu∧(He t)→eC Tryz.prog 209 [av t.cells] [] (.fj [iv ((ck fu t).1),iv ((ck fu t).2)]) []) (t:Term) (hm:t.depth≤fu+1) (hth:He t):(eF (ck fu) (fun t=>t.depth≤fu∧(He t)) rf t).a6 (fun _=>True):=by
 refine Sk.aG _ ?_
 unfold eF
 simp only [Sk.gL,Sk.aA,reduceCtorEq,ON,kk,kp,AA,uw,wy,maxLen]
 have aif:=hth
 obtain ⟨ht1,ht2⟩:=aif
 refine ⟨⟨by omega,by omega,by omega⟩,fun _=>⟨⟨⟨by simp,by omega,fun q hq=>absurd hq (by omega)⟩,fun i hi hl=>⟨fun hc=>⟨⟨by omega,of_decide_eq_true hc⟩,fun _=>⟨⟨?_,?_⟩,fun x hx he=>⟨⟨⟨by omega,?_⟩,?_⟩,fun _=>⟨by simp,fun _=>⟨?_,⟨⟨by simp [hi.1],?_,fun q hq=>?_⟩,?_⟩⟩⟩⟩⟩⟩,fun hc=>⟨hi.1,fun q hq=>hi.2.2 q (by simp only [LN] at hc; omega)⟩⟩⟩,fun b hb hc CU x hx hl=>⟨⟨by omega,fun q hq=>absurd hq (by omega)⟩,fun i hi hl2=>⟨fun hc=>⟨⟨by omega,of_decide_eq_true hc⟩,fun _=>⟨⟨fun h=>⟨⟨⟨by omega,?_⟩,?_⟩,fun _=>?_⟩,fun h=>?_⟩,fun y _ hy=>⟨⟨fun h=>?_,fun h=>?_⟩,fun z _ hz=>⟨⟨⟨by omega,?_⟩,?_⟩,fun _=>fun he _=>⟨?_,⟨⟨?_,fun q hq=>?_⟩,?_⟩⟩⟩⟩⟩⟩,fun hc q hq=>hi.2 q (by simp only [LN] at hc; omega)⟩⟩⟩⟩
 all_goals (try simp only [LN] at hc)
 ·have:=t.kN i.2 (by omega); omega
 ·exact ht2 i.2 (by omega)
 ·omega
 ·omega
 ·exact ar (by omega) (by omega)
 ·omega
 ·simp only [LN] at he
  by_cases e:q=i.2
  ·subst e
   subst hx
   exact ⟨he,vF _ (by omega) _ _⟩
  ·have:=hi.2.2 q (by omega)
   refine ⟨this.1,?_⟩
   rw [← this.2]
   exact vG _ e _ _
 ·omega
 all_goals (try simp only [LN] at hl)
 ·omega
 ·omega
 ·simp only [LN] at h
  rw [if_pos h]
 ·rw [if_neg]
  simp only [LN] at h
  intro ⟨h1,h2⟩
  rcases h with h | h
  ·exact h h1
  ·exact h h2
 ·simp only [LN] at h; rw [if_pos h]
 ·simp only [LN] at h; rw [if_neg h]
 ·omega
 ·omega
 ·exact ar (by omega) (by omega)
 ·omega
 ·simp only [LN] at he
  by_cases e:q=i.2
  ·subst e
   refine ⟨fun h=>?_,fun h=>?_⟩
   ·rw [if_pos h] at hz; left; rw [he,hz]
   ·rw [if_neg h] at hz; rw [he,hz]
  ·have:=hi.2 q (by omega)
   refine ⟨fun h=>?_,this.2⟩
   rcases this.1 h with h1 | h1
   ·by_cases c:x.args.getD i.snd default = -1∧i.fst = -1
    ·right; rw [h1,c.2]
    ·rw [if_neg c] at hy; left; rw [h1,hy]
   ·exact .inr h1
 ·omega
theorem M4 (fu:Nat) (rp:Term→Prop) (rf:∀ (t:Term),rp t→eC Tryz.prog 209 [av t.cells] [] (.fj [iv ((ck fu t).1),iv ((ck fu t).2)]) []) (t:Term):(eF (ck fu) rp rf t).val=ck (fu+1) t:=by kernel_rfl
theorem M5 (fu:Nat):∀ (t:Term),t.depth≤fu→(He t)→eC Tryz.prog 209 [av t.cells] [] (.fj [iv ((ck fu t).1),iv ((ck fu t).2)]) []:=by
 induction fu with
 | zero=>intro t hm h0; exact absurd hm (by have:=Term.tQ t; omega)
 | succ fu ih =>
  intro t hm h0
  have h:eC Tryz.prog 209 [av t.cells] [] (.fj [iv (((eF (ck fu) (fun t=>t.depth≤fu∧(He t)) (fun t h=>ih t h.1 h.2) t).val).1),iv (((eF (ck fu) (fun t=>t.depth≤fu∧(He t)) (fun t h=>ih t h.1 h.2) t).val).2)]) []:=eC.sk tok mixed (fun x=>.fj [iv x.1,iv x.2]) (fun _=>[]) Tryz.func209 rfl (by kernel_rfl) 3000 (eF (ck fu) (fun t=>t.depth≤fu∧(He t)) (fun t h=>ih t h.1 h.2) t) (by kernel_rfl) (Pn fu _ t hm h0)
  rw [M4] at h
  exact h
def Di (t:Term):Int × Int:=ck (t.depth) t
theorem Po (t:Term) (hth:He t):eC Tryz.prog 209 [av t.cells] [] (.fj [iv ((Di t).1),iv ((Di t).2)]) []:=M5 _ t (Nat.le_refl _) hth
def yB (t:Term):iI (Int × Int):=⟨Tryz.prog,209,[av t.cells],fun x=>.fj [iv x.1,iv x.2],true,Di t,(He t),fun h=>Po t h,fun _=>True,trivial⟩
theorem JV (t:Term) (CU:t.op=0∨t.op=1∨t.op=2) (h:(pq t).2=0):yi t (pq t).1:=by
 obtain ⟨op,n,args⟩:=t
 simp only at CU
 revert h
 cases args with
 | cons a r =>
  intro h
  exfalso
  revert h
  simp only [pq,jj,Sk.kL,Sk.gN]
  rw [show decide ((((a :: r).length:Nat):Int) > 0)=true from by simp]
  simp
 | nil =>
  rcases CU with rfl | rfl | rfl
  ·simp only [pq,jj,Sk.kL,Sk.gN,Sk.qF,iI.G3,kk,kp,jH,rX]
   intro h
   by_cases c:cS (bW n (-1099511627776)) 1099511627776=n
   ·have : -1099511627776≤n∧n≤1099511627776:=by simp only [cS,bW] at c; omega
    have e:(cS (bW n (-1099511627776)) 1099511627776 != n)=false:=by simpa using c
    rw [e]
    exact yi.int this
   ·have e:(cS (bW n (-1099511627776)) 1099511627776 != n)=true:=by simpa using c
    rw [e] at h
    exact absurd (show (3:Int)=0 from h) (by decide)
  ·simp only [pq,jj,Sk.kL,Sk.gN,Sk.qF,iI.G3,kk,kp,jH,rX]
   intro h
   by_cases c:n < 0∨n > 1
   ·have e:(decide (n < 0)||decide (n > 1))=true:=by simpa using c
    rw [e] at h
    exact absurd (show (3:Int)=0 from h) (by decide)
   ·have:0≤n∧n≤1:=by omega
    have e:(decide (n < 0)||decide (n > 1))=false:=by simp; omega
    rw [e]
    exact yi.bool this
  ·intro h
   have e:pq ⟨2,n,[]⟩=(if n < 0∨n > 19 then (0,10) else if n < 7 then (0,0) else (1,0)):=by
    simp only [pq,jj,Sk.kL,Sk.gN,Sk.qF,iI.G3,kk,kp,j8,yA,iY]
    by_cases c:n < 0∨n > 19
    ·have:(decide (n < 0)||decide (n > 19))=true:=by simpa using c
     simp [this,c]
    ·have:(decide (n < 0)||decide (n > 19))=false:=by simp; omega
     by_cases d:n < 7 <;> simp [this,c,d]
   rw [e] at h ⊢
   by_cases c:n < 0∨n > 19
   ·simp [c] at h
   ·have:0≤n∧n≤19:=by omega
    have:=yi.var this
    by_cases d:n < 7 <;> simpa [c,d] using this
theorem aey:bX 3=⟨[1],1⟩:=by kernel_rfl
theorem aez:bX 4=⟨[1,1],1⟩:=by kernel_rfl
theorem aeA:bX 5=⟨[1,1],1⟩:=by kernel_rfl
theorem aeB:bX 6=⟨[1,-1,-1],-1⟩:=by kernel_rfl
theorem aeC:bX 7=⟨[0,0],1⟩:=by kernel_rfl
theorem aeD:bX 8=⟨[-1,-1],1⟩:=by kernel_rfl
theorem abb:bX 9=⟨[0,0],0⟩:=by kernel_rfl
theorem Zo:bX 10=⟨[0,0],0⟩:=by kernel_rfl
theorem Zp:bX 11=⟨[0,0],0⟩:=by kernel_rfl
theorem Zq:bX 12=⟨[0,0],0⟩:=by kernel_rfl
theorem Zr:bX 13=⟨[0,0],0⟩:=by kernel_rfl
theorem aeE (op:Int) (h:9≤op∧op≤13):bX op=⟨[0,0],0⟩:=by
 have:op=9∨op=10∨op=11∨op=12∨op=13:=by omega
 rcases this with e | e | e | e | e <;> rw [e]
 ·exact abb
 ·exact Zo
 ·exact Zp
 ·exact Zq
 ·exact Zr
theorem agm {α:Type} {l:List α} (h:l.length=1):∃ a,l=[a]:=by
 match l,h with
 | [a],_=>exact ⟨a,rfl⟩
theorem UG {α:Type} {l:List α} (h:l.length=2):∃ a b,l=[a,b]:=by
 match l,h with
 | [a,b],_=>exact ⟨a,b,rfl⟩
theorem agn {α:Type} {l:List α} (h:l.length=3):∃ a b c,l=[a,b,c]:=by
 match l,h with
 | [a,b,c],_=>exact ⟨a,b,c,rfl⟩
theorem M6 {t:Term} {b1:List Int} {common:Int} (CU:3≤t.op∧t.op≤13) (hn:t.n=0) (hl:b1.length=(bX t.op).args.length) (hb:b1.length=t.args.length) (RQ:∀ q,q < t.args.length→yi (t.args.getD q default) (b1.getD q default))
  (hc:∀ q,q < (bX t.op).args.length→((bX t.op).args.getD q default = -1→b1.getD q default=common∨b1.getD q default = -1)∧((bX t.op).args.getD q default≠-1→b1.getD q default=(bX t.op).args.getD q default)) :
  yi t (if (bX t.op).result = -1 then common else (bX t.op).result):=by
 obtain ⟨op,n,args⟩:=t
 simp only at CU hn hl hb RQ hc ⊢
 subst hn
 have aeF:op=3∨op=4∨op=5∨op=6∨op=7∨op=8∨(9≤op∧op≤13):=by omega
 rcases aeF with rfl | rfl | rfl | rfl | rfl | rfl | h9
 ·rw [aey] at hl hc ⊢
  obtain ⟨a,rfl⟩:=agm (hb.symm.trans hl)
  have h0:=RQ 0 (by simp)
  have c0:=hc 0 (by simp)
  simp at h0 c0 ⊢
  rw [c0] at h0
  exact .not h0
 ·rw [aez] at hl hc ⊢
  obtain ⟨a,b,rfl⟩:=UG (hb.symm.trans hl)
  have h0:=RQ 0 (by simp); have h1:=RQ 1 (by simp)
  have c0:=hc 0 (by simp); have c1:=hc 1 (by simp)
  simp at h0 h1 c0 c1 ⊢
  rw [c0] at h0; rw [c1] at h1
  exact .acO (.inl rfl) h0 h1
 ·rw [aeA] at hl hc ⊢
  obtain ⟨a,b,rfl⟩:=UG (hb.symm.trans hl)
  have h0:=RQ 0 (by simp); have h1:=RQ 1 (by simp)
  have c0:=hc 0 (by simp); have c1:=hc 1 (by simp)
  simp at h0 h1 c0 c1 ⊢
  rw [c0] at h0; rw [c1] at h1
  exact .acO (.inr rfl) h0 h1
 ·rw [aeB] at hl hc ⊢
  obtain ⟨a,b,c,rfl⟩:=agn (hb.symm.trans hl)
  have h0:=RQ 0 (by simp); have h1:=RQ 1 (by simp); have h2:=RQ 2 (by simp)
  have c0:=hc 0 (by simp); have c1:=hc 1 (by simp); have c2:=hc 2 (by simp)
  simp at h0 h1 h2 c0 c1 c2 ⊢
  have k1:=h1.kind; have k2:=h2.kind
  rw [c0] at h0
  have e1:b1[1]?.getD 0=common:=by omega
  have e2:b1[2]?.getD 0=common:=by omega
  rw [e1] at h1; rw [e2] at h2
  exact .ite h0 h1 h2
 ·rw [aeC] at hl hc ⊢
  obtain ⟨a,b,rfl⟩:=UG (hb.symm.trans hl)
  have h0:=RQ 0 (by simp); have h1:=RQ 1 (by simp)
  have c0:=hc 0 (by simp); have c1:=hc 1 (by simp)
  simp at h0 h1 c0 c1 ⊢
  rw [c0] at h0; rw [c1] at h1
  exact .less h0 h1
 ·rw [aeD] at hl hc ⊢
  obtain ⟨a,b,rfl⟩:=UG (hb.symm.trans hl)
  have h0:=RQ 0 (by simp); have h1:=RQ 1 (by simp)
  have c0:=hc 0 (by simp); have c1:=hc 1 (by simp)
  simp at h0 h1 c0 c1 ⊢
  have k1:=h0.kind; have k2:=h1.kind
  have e1:b1[0]?.getD 0=common:=by omega
  have e2:b1[1]?.getD 0=common:=by omega
  rw [e1] at h0; rw [e2] at h1
  exact .eq h0 h1
 ·rw [aeE op h9] at hl hc ⊢
  obtain ⟨a,b,rfl⟩:=UG (hb.symm.trans hl)
  have h0:=RQ 0 (by simp); have h1:=RQ 1 (by simp)
  have c0:=hc 0 (by simp); have c1:=hc 1 (by simp)
  simp at h0 h1 c0 c1 ⊢
  rw [c0] at h0; rw [c1] at h1
  exact .arith h9 h0 h1
theorem xA:∀ (fu:Nat) (t:Term),t.depth≤fu→(ck fu t).2=0→yi t (ck fu t).1
 | 0,t,hd,_=>absurd hd (by have:=t.tQ; omega)
 | fu+1,t,hd,h=>by
  have ih:=xA fu
  have key:ck (fu+1) t=(eF (ck fu) (fun _=>False) (fun _ h=>h.elim) t).val:=rfl
  rw [key] at h ⊢
  refine (Sk.cI (eF (ck fu) (fun _=>False) (fun _ h=>h.elim) t) (L:=fun x=>x.2=0→yi t x.1) (Sk.aP _ ?_)) h
  unfold eF
  simp only [Sk.ct,Sk.aA,reduceCtorEq,false_implies,qE,gW,bn.z,bn.p,bn.t,bn.pt,bn.o,bn.and,bn.al,bn.ER,bn.wh,bn.dep,bn.nK,iI.c,kk,kp,wy,AA,uw,implies_true,true_and,and_true,and_self,true_implies,forall_eq,forall_const]
  refine ⟨⟨⟨by simp,Nat.zero_le _,fun q hq=>absurd hq (by omega)⟩,fun i hi=>⟨fun hc=>⟨fun he h=>?_,fun he=>⟨⟨by simp [hi.1],?_,fun q hq=>?_⟩,?_⟩⟩,fun hc=>⟨hi.1,fun q hq=>hi.2.2 q (by simp at hc; omega)⟩⟩⟩,fun b hb=>⟨fun hc h=>absurd h (by decide),fun hc=>⟨fun CU h=>?_,fun CU=>⟨fun _ h=>absurd h (by decide),fun hl=>⟨⟨⟨Nat.zero_le _,fun q hq=>absurd hq (by omega)⟩,fun i hi=>⟨fun hc=>⟨⟨?_,?_⟩,fun y _ hy=>⟨⟨?_,?_⟩,fun z _ hz=>⟨fun _ h=>absurd h (by decide),fun he=>⟨⟨?_,fun q hq=>?_⟩,?_⟩⟩⟩⟩,fun hc q hq=>hi.2 q (by simp at hc; omega)⟩⟩,fun y hy=>⟨?_,?_⟩⟩⟩⟩⟩⟩
  ·rw [h] at he; exact absurd he (by decide)
  ·simp only [LN] at hc; omega
  ·simp only [LN] at hc he
   by_cases e:q=i.2
   ·subst e
    exact ⟨he,vF _ (by omega) _ _⟩
   ·have:=hi.2.2 q (by omega)
    refine ⟨this.1,?_⟩
    rw [← this.2]
    exact vG _ e _ _
  ·simp only [LN] at hc; omega
  ·exact JV t (by simp only [LN] at CU; omega) h
  ·intro h; simp only [LN] at h; rw [if_pos h]
  ·intro h
   rw [if_neg]
   simp only [LN] at h
   intro ⟨h1,h2⟩
   rcases h with h | h
   ·exact h h1
   ·exact h h2
  ·intro h; simp only [LN] at h; rw [if_pos h]
  ·intro h; simp only [LN] at h; rw [if_neg h]
  ·simp only [LN] at hc; omega
  ·simp only [LN] at hc he
   by_cases e:q=i.2
   ·subst e
    refine ⟨fun h=>?_,fun h=>?_⟩
    ·rw [if_pos h] at hz; left; rw [he,hz]
    ·rw [if_neg h] at hz; rw [he,hz]
   ·have:=hi.2 q (by omega)
    refine ⟨fun h=>?_,this.2⟩
    rcases this.1 h with h1 | h1
    ·by_cases c:(bX t.op).args.getD i.snd default = -1∧i.fst = -1
     ·right; rw [h1,c.2]
     ·rw [if_neg c] at hy; left; rw [h1,hy]
    ·exact .inr h1
  ·simp only [LN] at hc; omega
  ·intro h
   simp only [LN] at hc CU hl h
   have:=M6 (t:=t) (b1:=b) (common:=y) (by omega) hl.2 (by omega) hb.1 (fun q hq=>by
    have h1:=hb.2 q hq
    rw [h1.2]
    exact ih _ (by have:=t.kN q hq; omega) h1.1) hy
   rw [if_pos h] at this
   exact this
  ·intro h
   simp only [LN] at hc CU hl h
   have:=M6 (t:=t) (b1:=b) (common:=y) (by omega) hl.2 (by omega) hb.1 (fun q hq=>by
    have h1:=hb.2 q hq
    rw [h1.2]
    exact ih _ (by have:=t.kN q hq; omega) h1.1) hy
   rw [if_neg h] at this
   exact this
def nN (t:Term):Sk (Int × Int) :=
 .r 1 ((uv t 1).c) fun x1 =>
 .br (decide (x1 > 60))
 (.fin (0,6))
 (.r 3 ((yB t).c) fun x2 =>
 .fin (x2.1,x2.2))
def WL t:=(nN t).val
def Term.E1 (t:Term):Prop:=(∃ k,yi t k)∧t.depth≤8
theorem M7 (t:Term):(nN t).cC (fun (x:Int × Int)=>x.2=0→yi t x.1∧t.depth≤8):=by
 refine Sk.aP _ ?_
 unfold nN
 simp only [Sk.ct,Sk.aA,reduceCtorEq,false_implies,qE,gW,bn.z,bn.p,bn.t,bn.pt,bn.o,bn.and,bn.al,bn.ER,bn.wh,bn.dep,bn.nK,iI.c,kk,kp,iI.nil,iI.ES,iJ.c,iJ.nil,uv,yB,forall_eq,forall_const]
 have hm:=sD _ t 1 (Nat.le_refl _) (by omega) (by omega)
 have hc:=xA _ t (Nat.le_refl _)
 refine ⟨fun _ h=>absurd h (by decide),fun c h=>⟨hc h,?_⟩⟩
 simp only [decide_eq_false_iff_not] at c
 have:bI t.depth t 1≤60:=Int.not_lt.1 c
 have:=hm.2.2.1 this
 omega
theorem Pp (t:Term):(nN t).a6 (fun _=>True):=by
 refine Sk.aG _ ?_
 unfold nN
 simp only [Sk.gL,Sk.aA,reduceCtorEq,ON,kk,kp,yB,uv,maxLen]
 exact fun x hx h=>(sD _ t 1 (Nat.le_refl _) (by omega) (by omega)).2.2.2 (by subst hx; simp only [LN] at h; exact h)
def tn t:=kp tok mixed Tryz.func183 [av t.cells] (fun x=>.fj [iv x.1,iv x.2]) true (WL t) (u0 (Pp t)) (M7 t)
def ry (o:Order) (ask:Int):Sk (Term × Int) :=
 .r 1 ((kR ask).c) fun x1 =>
 .br (!x1.2)
 (.fin (({ op:=0,n:=0,args:=[] }:Term),1))
 (.r 4 ((pQ o.rules ask).c) fun x2 =>
 .br (decide (x2 < 0))
 (.fin (({ op:=0,n:=0,args:=[] }:Term),4))
 (.r 7 (.p (bN x2 o.rules.length)) fun _ =>
 .r 8 ((tn ((o.rules.getD x2.toNat default).term)).c) fun x3 =>
 .br ((x3.2 != 0)||(x3.1 != x1.1))
 (.fin (({ op:=0,n:=0,args:=[] }:Term),11))
 (.fin ((o.rules.getD x2.toNat default).term,0))))
def WM o ask:=(ry o ask).val
theorem Pq (o:Order) (ask:Int):(ry o ask).a6 (fun _=>True):=by
 unfold ry
 try simp only [kR,pQ,tn]
 exact nF
def E2 o ask:=kk tok mixed Tryz.func149 [av o.cells,iv ask] (fun x=>.fj [av x.1.cells,iv x.2]) false (ry o ask) (WM o ask) (u0 (Pq o ask))
structure Machine where
 fE:List aH
 deriving Inhabited
def vL (Pj:Bool):Sk (aH) :=
 .br Pj
 (.fin ({ known:=true,n:=1 }:aH))
 (.fin ({ known:=true,n:=0 }:aH))
def xB Pj:=(vL Pj).val
theorem UH (Pj:Bool):(vL Pj).a6 (fun _=>True):=by
 unfold vL
 exact od
def gC Pj:=kk tok mixed Tryz.func239 [bv Pj] (fun x=>av x.cells) true (vL Pj) (xB Pj) (u0 (UH Pj))
def fy (m:Machine) (v:Int):Sk (aH) :=
 .r 1 (.wh (decide (v≥((m.fE.length:Nat):Int))) false (.p (bN v m.fE.length))) fun _ =>
 .br ((decide (v≥((m.fE.length:Nat):Int)))||(!((m.fE.getD v.toNat default).known)))
 (.fin ({ known:=false,n:=0 }:aH))
 (.r 3 ((j8 v).c) fun x1 =>
 .br (x1.1 == 1)
 (.r 5 (.al (.p (bN v m.fE.length)) ((gC (((m.fE.getD v.toNat default).n) != 0)).c)) fun x2 =>
 .fin x2)
 (.r 6 (.al (.p (bN v m.fE.length)) ((jH ((m.fE.getD v.toNat default).n)).c)) fun x3 =>
 .fin ({ known:=true,n:=x3 }:aH)))
def ig m v:=(fy m v).val
theorem zH (m:Machine) (v:Int) (hv:0≤v):(fy m v).a6 (fun _=>True):=by
 unfold fy
 try simp only [j8,jH,gC,rX]
 exact GD
def rY m v:=kk tok mixed Tryz.func210 [av [mR aH.cells m.fE],iv v] (fun x=>av x.cells) true (fy m v) (ig m v) (zH m v)
theorem M8 {a:Int} (h0:0≤a) (h1:a < 18446744073709551616):aD .u64 a 4294967295=a % 4294967296:=by
 obtain ⟨a,rfl⟩:=Int.eq_ofNat_of_zero_le h0
 unfold aD
 have h2:(BitVec.ofInt IntKind.u64.bits ((a:Nat):Int) &&& BitVec.ofInt IntKind.u64.bits 4294967295).toNat=a % 4294967296:=by
  have e:(4294967295:Int)=((4294967295:Nat):Int):=rfl
  rw [e,BitVec.toNat_and,BitVec.ofInt_natCast,BitVec.ofInt_natCast,BitVec.toNat_ofNat,BitVec.toNat_ofNat]
  have hb:IntKind.u64.bits=64:=rfl
  rw [hb,Nat.mod_eq_of_lt (by omega),Nat.mod_eq_of_lt (by omega)]
  exact Nat.and_two_pow_sub_one_eq_mod a 32
 rw [h2,c6 (by omega) (by omega)]
 omega
theorem acP {x y:Int} (hx:0≤x∧x < 18446744073709551616) (hy:0≤y∧y < 18446744073709551616) :
  IntKind.u64.wrap ((IntKind.u64.wrap ((IntKind.u64.wrap ((a8 .u64 x 32) * (a8 .u64 y 32)))+(a8 .u64 (IntKind.u64.wrap ((IntKind.u64.wrap ((a8 .u64 x 32) * (aD .u64 y 4294967295)))+(a8 .u64 (IntKind.u64.wrap ((aD .u64 x 4294967295) * (aD .u64 y 4294967295))) 32))) 32)))+(a8 .u64 (IntKind.u64.wrap ((aD .u64 (IntKind.u64.wrap ((IntKind.u64.wrap ((a8 .u64 x 32) * (aD .u64 y 4294967295)))+(a8 .u64 (IntKind.u64.wrap ((aD .u64 x 4294967295) * (aD .u64 y 4294967295))) 32))) 4294967295)+(IntKind.u64.wrap ((aD .u64 x 4294967295) * (a8 .u64 y 32))))) 32)) * 18446744073709551616+IntKind.u64.wrap (x * y)=x * y:=by
 have s32:∀ a:Int,a8 .u64 a 32=a / 4294967296:=fun a=>G4 .u64 (b:=32) (by decide)
 have ax:=M8 hx.1 hx.2
 have ay:=M8 hy.1 hy.2
 rw [M8 (jO _).1 (jO _).2,ax,ay,s32,s32,s32,s32,s32]
 have bd:∀ a b:Int,0≤a∧a < 4294967296→0≤b∧b < 4294967296→0≤a * b∧a * b≤18446744065119617025:=fun a b ha hb =>
  ⟨Int.mul_nonneg ha.1 hb.1,by have:=Int.mul_le_mul (show a≤4294967295 by omega) (show b≤4294967295 by omega) hb.1 (by omega); omega⟩
 have Bu:0≤x / 4294967296∧x / 4294967296 < 4294967296:=by omega
 have hx0:0≤x % 4294967296∧x % 4294967296 < 4294967296:=by omega
 have Yj:0≤y / 4294967296∧y / 4294967296 < 4294967296:=by omega
 have V4:0≤y % 4294967296∧y % 4294967296 < 4294967296:=by omega
 have b11:=bd _ _ Bu Yj
 have Up:=bd _ _ Bu V4
 have b01:=bd _ _ hx0 Yj
 have b00:=bd _ _ hx0 V4
 have e:x * y=(x / 4294967296) * (y / 4294967296) * 18446744073709551616+((x / 4294967296) * (y % 4294967296)+(x % 4294967296) * (y / 4294967296)) * 4294967296+(x % 4294967296) * (y % 4294967296):=by
  have ex:x=x / 4294967296 * 4294967296+x % 4294967296:=by omega
  have ey:y=y / 4294967296 * 4294967296+y % 4294967296:=by omega
  generalize x / 4294967296=x1 at ex ⊢
  generalize x % 4294967296=x0 at ex ⊢
  generalize y / 4294967296=y1 at ey ⊢
  generalize y % 4294967296=y0 at ey ⊢
  subst ex; subst ey
  have a1:x1 * 4294967296 * (y1 * 4294967296)=x1 * y1 * 18446744073709551616:=by rw [Int.mul_assoc,Int.mul_left_comm 4294967296 y1,← Int.mul_assoc]; rfl
  have a2:x1 * 4294967296 * y0=x1 * y0 * 4294967296:=Int.mul_right_comm _ _ _
  have a3:x0 * (y1 * 4294967296)=x0 * y1 * 4294967296:=(Int.mul_assoc _ _ _).symm
  rw [Int.add_mul,Int.mul_add,Int.mul_add,a1,a2,a3,Int.add_mul]
  omega
 rw [e]
 generalize x / 4294967296 * (y / 4294967296)=GF at *
 generalize x / 4294967296 * (y % 4294967296)=UI at *
 generalize x % 4294967296 * (y / 4294967296)=p01 at *
 generalize x % 4294967296 * (y % 4294967296)=p00 at *
 simp only [MN]
 omega
def ly (x_:Int) (y:Int):Sk (Int × Int) :=
 .r 2 (.p (0≤(32:Int))) fun _ =>
 .r 4 (.p (0≤(32:Int))) fun _ =>
 .r 6 (.p (0≤(32:Int))) fun _ =>
 .r 8 (.p (0≤(32:Int))) fun _ =>
 .r 10 (.p (0≤(32:Int))) fun _ =>
 .fin (IntKind.u64.wrap ((IntKind.u64.wrap ((IntKind.u64.wrap ((a8 .u64 x_ 32) * (a8 .u64 y 32)))+(a8 .u64 (IntKind.u64.wrap ((IntKind.u64.wrap ((a8 .u64 x_ 32) * (aD .u64 y 4294967295)))+(a8 .u64 (IntKind.u64.wrap ((aD .u64 x_ 4294967295) * (aD .u64 y 4294967295))) 32))) 32)))+(a8 .u64 (IntKind.u64.wrap ((aD .u64 (IntKind.u64.wrap ((IntKind.u64.wrap ((a8 .u64 x_ 32) * (aD .u64 y 4294967295)))+(a8 .u64 (IntKind.u64.wrap ((aD .u64 x_ 4294967295) * (aD .u64 y 4294967295))) 32))) 4294967295)+(IntKind.u64.wrap ((aD .u64 x_ 4294967295) * (a8 .u64 y 32))))) 32)),IntKind.u64.wrap (x_ * y))
def M9 x_ y:=(ly x_ y).val
theorem Na (x_:Int) (y:Int) (hP:(0≤x_∧x_ < 18446744073709551616)∧0≤y∧y < 18446744073709551616):(ly x_ y).cC (fun (x:Int × Int)=>(0≤x.1∧x.1 < 18446744073709551616)∧(0≤x.2∧x.2 < 18446744073709551616)∧x.1 * 18446744073709551616+x.2=x_ * y):=by
 refine Sk.aP _ ?_
 unfold ly
 simp only [Sk.ct,Sk.aA,reduceCtorEq,ON,kk,kp,maxLen]
 intro _ _ _ _ _
 exact ⟨jO _,jO _,acP hP.1 hP.2⟩
theorem JW (x_:Int) (y:Int):(fun (x:Int × Int)=>((0≤x_∧x_ < 18446744073709551616)∧0≤y∧y < 18446744073709551616)→((0≤x.1∧x.1 < 18446744073709551616)∧(0≤x.2∧x.2 < 18446744073709551616)∧x.1 * 18446744073709551616+x.2=x_ * y)) (M9 x_ y):=fun hP=>Sk.cI _ (Na x_ y hP)
theorem Pr (x_:Int) (y:Int):(ly x_ y).a6 (fun _=>True):=by
 unfold ly
 exact nF
def jl x_ y:=kk tok mixed Tryz.func199 [.d (.v (.int .u64 x_)),.d (.v (.int .u64 y))] (fun x=>.fj [.d (.v (.int .u64 x.1)),.d (.v (.int .u64 x.2))]) true (ly x_ y) (M9 x_ y) (u0 (Pr x_ y)) (fun (x:Int × Int)=>((0≤x_∧x_ < 18446744073709551616)∧0≤y∧y < 18446744073709551616)→((0≤x.1∧x.1 < 18446744073709551616)∧(0≤x.2∧x.2 < 18446744073709551616)∧x.1 * 18446744073709551616+x.2=x_ * y)) (JW x_ y)
def oh (a:Int) (b:Int):Sk (Int) :=
 .r 1 ((jl (IntKind.u64.wrap (bW a (au (0 - a)))) (IntKind.u64.wrap (bW b (au (0 - b))))).c) fun x1 =>
 .bind false (fun _=>True)
 (.br ((x1.1 == 0)&&(decide (x1.2 < 1099511627776)))
 (.fin (.inr (au (x1.2))))
 (.fin (.inr 1099511627776)))
 (fun (b2:Int)=>⟨[(7,iv b2)],[]⟩) fun b2 =>
 .br (!((decide (a < 0)) == (decide (b < 0))))
 (.fin (au (0 - b2)))
 (.fin b2)
def R5 a b:=(oh a b).val
theorem JX (a:Int) (b:Int):(oh a b).a6 (fun _=>True):=by
 unfold oh
 try simp only [jl]
 exact od
def AB a b:=kk tok mixed Tryz.func249 [iv a,iv b] (fun x=>iv x) true (oh a b) (R5 a b) (u0 (JX a b))
def kT (op:Int) (a:Int) (b:Int):Sk (Int) :=
 .br (op == 9)
 (.r 3 ((jH (au (a+b))).c) fun x1 =>
 .fin x1)
 (.br (op == 10)
 (.r 5 ((jH (au (a - b))).c) fun x2 =>
 .fin x2)
 (.br (op == 11)
 (.r 7 ((AB a b).c) fun x3 =>
 .fin x3)
 (.br (op == 12)
 (.fin (cS a b))
 (.fin (bW a b)))))
def zt op a b:=(kT op a b).val
theorem Dj (op:Int) (a:Int) (b:Int):(kT op a b).a6 (fun _=>True):=by
 unfold kT
 try simp only [jH,AB,rX]
 exact GD
def pR op a b:=kk tok mixed Tryz.func241 [iv op,iv a,iv b] (fun x=>iv x) true (kT op a b) (zt op a b) (u0 (Dj op a b))
def eZ (op:Int) (l:List aH):Sk (aH) :=
 .bind true (fun b1=>op≠3∧op≠6)
 (.br (op == 3)
 (.r 3 (.p (bN (0:Int) l.length)) fun _ =>
 .br ((l.getD 0 default).known)
 (.r 4 (.al (.p (bN (0:Int) l.length)) ((gC (((l.getD 0 default).n) == 0)).c)) fun x2 =>
 .fin (.inl x2))
 (.fin (.inl ({ known:=false,n:=0 }:aH))))
 (.bind false (fun b3=>b3=(op == 4||op == 5))
 (.br (op == 4)
 (.fin (.inr (op == 4)))
 (.fin (.inr (op == 5))))
 (fun (b3:Bool)=>⟨[(22,bv b3)],[]⟩) fun b3 =>
 .br b3
 (.r 8 ((gC (op == 5)).c) fun x4 =>
 .r 9 (.al (.p (bN (0:Int) l.length)) (.wh ((((l.getD 0 default).known) == x4.known)&&((((l.getD 0 default).n) == x4.n)&&true)) false (.p (bN (1:Int) l.length)))) fun _ =>
 .br (((((l.getD 0 default).known) == x4.known)&&((((l.getD 0 default).n) == x4.n)&&true))||((((l.getD 1 default).known) == x4.known)&&((((l.getD 1 default).n) == x4.n)&&true)))
 (.fin (.inl x4))
 (.fin (.inr ())))
 (.br (op == 6)
 (.r 12 (.al (.p (bN (1:Int) l.length)) (.al (.wh ((l.getD 1 default).known) true (.p (bN (1:Int) l.length))) (.wh ((l.getD 1 default).known) true (.p (bN (2:Int) l.length))))) fun _ =>
 .br (((l.getD 1 default).known)&&((((l.getD 1 default).known) == ((l.getD 2 default).known))&&((((l.getD 1 default).n) == ((l.getD 2 default).n))&&true)))
 (.r 13 (.p (bN (1:Int) l.length)) fun _ =>
 .fin (.inl (l.getD 1 default)))
 (.fin (.inl ({ known:=false,n:=0 }:aH))))
 (.fin (.inr ())))))
 (fun (_:Unit)=>⟨[],[]⟩) fun _ =>
 .r 15 (.al (.p (bN (0:Int) l.length)) (.wh (!((l.getD 0 default).known)) false (.p (bN (1:Int) l.length)))) fun _ =>
 .br ((!((l.getD 0 default).known))||(!((l.getD 1 default).known)))
 (.fin ({ known:=false,n:=0 }:aH))
 (.r 17 (.al (.p (bN (0:Int) l.length)) (.p (bN (1:Int) l.length))) fun _ =>
 .bind false (fun _=>True)
 (.br (op == 4)
 (.fin (.inr (op == 4)))
 (.fin (.inr (op == 5))))
 (fun (b5:Bool)=>⟨[(82,bv b5)],[]⟩) fun b5 =>
 .br b5
 (.r 21 ((gC (op == 4)).c) fun x6 =>
 .fin x6)
 (.br (op == 7)
 (.r 23 ((gC (decide (((l.getD 0 default).n) < ((l.getD 1 default).n)))).c) fun x7 =>
 .fin x7)
 (.br (op == 8)
 (.r 25 ((gC (((l.getD 0 default).n) == ((l.getD 1 default).n))).c) fun x8 =>
 .fin x8)
 (.r 26 ((pR op ((l.getD 0 default).n) ((l.getD 1 default).n)).c) fun x9 =>
 .fin ({ known:=true,n:=x9 }:aH)))))
def cZ op l:=(eZ op l).val
theorem JY (op:Int) (l:List aH) (ha:(op=3∧1≤l.length)∨(op=6∧3≤l.length)∨(op≠3∧op≠6∧2≤l.length)):(eZ op l).a6 (fun _=>True):=by
 unfold eZ
 try simp only [pR,gC]
 exact nF
def AD op l:=kk tok mixed Tryz.func211 [iv op,lv aH.cells l] (fun x=>av x.cells) true (eZ op l) (cZ op l) (JY op l)
def fF (n:Int):Sk ((List Int)) :=
 .bind false (fun _=>True)
 (.br (decide (n < 0))
 (.dead default)
 (.fin (.inr ())))
 (fun (_:Unit)=>⟨[],[]⟩) fun _ =>
 .br (decide ((au (n - (au ((0:Int) - 0)))) > 0))
 (.r 5 (.al (.p (0≤(0:Int)∧(0:Int)≤0)) (.al (.al (.o [.dn (mkC dV ((au (n - (au ((0:Int) - 0)))).toNat) (0:Int))]) (.p (mkP (au (n - (au ((0:Int) - 0)))) 8))) (.al (.o [.dn (af4 dV (List.replicate ((au (n - (au ((0:Int) - 0)))).toNat) (0:Int)) 0)]) (.p (0≤(0:Int)∧0≤(((List.replicate ((au (n - (au ((0:Int) - 0)))).toNat) (0:Int)).length:Nat):Int)))))) fun _ =>
 .fin (fa (List.replicate ((au (n - (au ((0:Int) - 0)))).toNat) (0:Int)) 0 0))
 (.fin [])
def oj n:=(fF n).val
theorem B1 (n:Int):(fF n).cC (fun (x:(List Int))=>x=[]):=by
 unfold fF
 exact ET
theorem AE (n:Int):(fun (x:(List Int))=>x=[]) (oj n):=have h:=Sk.cI _ (B1 n); h
theorem Dk (n:Int) (hn:0≤n∧n≤1000000000):(fF n).a6 (fun _=>True):=by
 unfold fF
 exact nF
theorem B2 (n:Int) (hn:0≤n∧n≤1000000000):eC Tryz.prog 242 [nv,iv n] [] (ow 777777 (oj n)) [(777777,aU 3 1 bS (oj n))] :=
 eC.sk tok mixed (fun x=>ow 777777 x) (fun x=>[(777777,aU 3 1 bS x)]) Tryz.func242 rfl (by kernel_rfl) 3000 (fF n) (by kernel_rfl) (Dk n hn)
def oY (κ:Nat) (n:Int):iJ ((List Int)):=⟨Tryz.prog,242,[nv,iv n],fun x=>ow κ x,fun x=>[(κ,aU 3 1 bS x)],oj n,(0≤n∧n≤1000000000),fun h=>eC.Ur κ (B2 n h),fun (x:(List Int))=>x=[],AE n⟩
theorem Hh {α:Type} [Inhabited α] (l:List (List α)) (n:Nat) (h:n < l.length):(l.take (n+1)).flatten=(l.take n).flatten++l.getD n default:=by
 rw [List.take_succ_eq_append_getElem h,List.flatten_append]
 simp only [List.getD,h,List.getElem?_eq_getElem,Option.getD_some,List.flatten_cons,List.flatten_nil,List.append_nil]
theorem R6 {α:Type} [Inhabited α] (l:List (List α)) (B:Nat) (h:∀ i,i < l.length→(l.getD i default).length≤B):∀ n,n≤l.length→(l.take n).flatten.length≤B * n
 | 0,_=>by simp
 | n+1,hn=>by
  have:=R6 l B h n (by omega)
  rw [Hh l n (by omega),List.length_append,Nat.mul_add]
  have:=h n (by omega)
  omega
def j9 (bE:List (List Int)):Sk ((List Int)) :=
 .bind true (fun b1=>(bE.length≤100∧∀ i,i < bE.length→(bE.getD i default).length≤1000000)→(0:Int)≤b1∧b1≤100000000)
 (.loop (default:Sum ((List Int)) (Int)) (fun i2=>(bE.length≤100∧∀ i,i < bE.length→(bE.getD i default).length≤1000000)→(0:Int)≤i2.1∧i2.1≤((1000000 * i2.2:Nat):Int)∧i2.2≤bE.length) (fun i2=>bE.length - i2.2) ((0,0):Int × Nat)
 (fun (i2:Int × Nat)=>⟨[(3,iv i2.1),(11,iv (i2.2:Int))],[]⟩) fun i2 =>
 .lt 0 0 i2.2 bE.length
 (.r 4 (.p (bN (i2.2:Int) bE.length)) fun _ =>
 .br (decide ((au (i2.1+(((bE.getD i2.2 default).length:Nat):Int))) < 0))
 (.dead default)
 (.r 8 .z fun _ =>
 .wi 11 (au ((i2.2:Int)+1)) ((i2.2+1:Nat):Int) <|
 .fin (.inr (au (i2.1+(((bE.getD i2.2 default).length:Nat):Int)),i2.2+1))))
 (.fin (.inl (.inr i2.1))))
 (fun (b1:Int)=>⟨[(3,iv b1)],[]⟩) fun b1 =>
 .r 9 ((oY 24 b1).c) fun x3 =>
 .bind true (fun b4=>(bE.length≤100∧∀ i,i < bE.length→(bE.getD i default).length≤1000000)→b4=bE.flatten)
 (.loop (default:Sum ((List Int)) ((List Int))) (fun i5=>(bE.length≤100∧∀ i,i < bE.length→(bE.getD i default).length≤1000000)→i5.1=(bE.take i5.2).flatten∧i5.2≤bE.length) (fun i5=>bE.length - i5.2) ((x3,0):(List Int) × Nat)
 (fun (i5:(List Int) × Nat)=>⟨[(6,ow 100002 i5.1),(27,iv (i5.2:Int))],[(100002,aU 3 1 bS i5.1)]⟩) fun i5 =>
 .lt 25 0 i5.2 bE.length
 (.r 12 (.p (bN (i5.2:Int) bE.length)) fun _ =>
 .r 13 (.al (.o [.dn (kE dV i5.1 (bE.getD i5.2 default))]) (.al (.t (dV.src (bE.getD i5.2 default))) (.p (vE i5.1.length (bE.getD i5.2 default).length 8)))) fun _ =>
 .nx 14 27 i5.2 (i5.1++(bE.getD i5.2 default),i5.2+1))
 (.fin (.inl (.inr i5.1))))
 (fun (b4:(List Int))=>⟨[(6,ow 100001 b4)],[(100001,aU 3 1 bS b4)]⟩) fun b4 =>
 .fin b4
def wz bE:=(j9 bE).val
theorem vM (bE:List (List Int)):(j9 bE).cC (fun (x:(List Int))=>(bE.length≤100∧∀ i,i < bE.length→(bE.getD i default).length≤1000000)→x=bE.flatten):=by
 refine Sk.aP _ ?_
 unfold j9
 simp only [Sk.ct,Sk.aA,reduceCtorEq,ON,kk,kp,oY,maxLen]
 refine ⟨⟨fun h=>⟨by omega,by omega,by omega⟩,fun i hi=>⟨fun hc _=>⟨fun hd=>?_,fun hd _=>⟨fun h=>?_,?_⟩⟩,fun hc h=>?_⟩⟩,fun b hb x _ hx=>⟨⟨fun h=>⟨by simp [hx],by omega⟩,fun i hi=>⟨fun hc _ _ _=>⟨fun h=>⟨?_,?_⟩,?_⟩,fun hc h=>?_⟩⟩,fun b hb=>hb⟩⟩
 all_goals (try simp only [LN] at hc)
 all_goals (try simp only [LN] at hd)
 ·show (bE.length≤100∧∀ (i:Nat),i < bE.length→(bE.getD i default).length≤1000000)→_
  intro h
  have h1:=hi h
  have h2:=h.2 i.2 (by omega)
  rw [ar (by omega) (by omega)] at hd
  omega
 ·have h1:=hi h
  have h2:=h.2 i.2 (by omega)
  rw [ar (by omega) (by omega)]
  omega
 ·omega
 ·have:=hi h
  omega
 ·rw [Hh bE i.2 (by omega),(hi h).1]
 ·have:=hi h; omega
 ·omega
 ·have:=hi h
  rw [this.1,show i.2=bE.length by omega,List.take_length]
theorem Dl (bE:List (List Int)):(fun (x:(List Int))=>(bE.length≤100∧∀ i,i < bE.length→(bE.getD i default).length≤1000000)→x=bE.flatten) (wz bE):=have h:=Sk.cI _ (vM bE); h
theorem Hi (bE:List (List Int)) (hn:(bE.length≤100∧∀ i,i < bE.length→(bE.getD i default).length≤1000000)):(j9 bE).a6 (fun _=>True):=by
 refine Sk.aG _ ?_
 unfold j9
 simp only [Sk.gL,Sk.aA,reduceCtorEq,ON,kk,kp,oY,maxLen]
 refine ⟨⟨fun h=>⟨by omega,by omega,by omega⟩,fun i hi hl=>⟨fun hc=>⟨⟨by omega,of_decide_eq_true hc⟩,fun _=>⟨fun hd=>?_,fun hd _=>⟨?_,⟨fun h=>?_,?_⟩⟩⟩⟩,fun hc h=>?_⟩⟩,fun b hb=>⟨?_,fun x _ hx=>⟨fun h=>⟨by simp [hx],by omega⟩,fun i hi hl=>⟨fun hc=>⟨⟨by omega,of_decide_eq_true hc⟩,fun _=>⟨?_,fun _ _=>⟨?_,⟨fun h=>⟨?_,?_⟩,?_⟩⟩⟩⟩,fun hc h=>?_⟩⟩⟩⟩
 all_goals (try simp only [LN] at hc)
 all_goals (try simp only [LN] at hd)
 ·have h1:=hi hn
  have h2:=hn.2 i.2 (by omega)
  rw [ar (by omega) (by omega)] at hd
  omega
 ·exact ar (by omega) (by omega)
 ·have h1:=hi h
  have h2:=h.2 i.2 (by omega)
  rw [ar (by omega) (by omega)]
  omega
 ·omega
 ·have:=hi h
  omega
 ·have:=hb hn; omega
 ·have h1:=hi hn
  have h2:=hn.2 i.2 (by omega)
  have h3:=R6 bE 1000000 hn.2 i.2 (by omega)
  rw [← h1.1] at h3
  omega
 ·exact ar (by omega) (by omega)
 ·rw [Hh bE i.2 (by omega),(hi h).1]
 ·have:=hi h; omega
 ·omega
 ·have:=hi h
  rw [this.1,show i.2=bE.length by omega,List.take_length]
def zu bE:=kp tok mixed Tryz.func212 [lv (LC dV).cells bE] (fun x=>lv bS x) false (wz bE) (Hi bE) (vM bE)
def sW (rv:Machine→Term→aH × (List Int)) (rp:Machine→Term→Prop) (rf:∀ (m:Machine) (t:Term),rp m t→eC Tryz.prog 184 [av [mR aH.cells m.fE],av t.cells] [] (.fj [av ((rv m t).1).cells,lv bS ((rv m t).2)]) []) (m:Machine) (t:Term):iI (aH × (List Int)):=⟨Tryz.prog,184,[av [mR aH.cells m.fE],av t.cells],fun x=>.fj [av x.1.cells,lv bS x.2],false,rv m t,rp m t,rf m t,fun _=>True,trivial⟩
def dz (rv:Machine→Term→aH × (List Int)) (rp:Machine→Term→Prop) (rf:∀ (m:Machine) (t:Term),rp m t→eC Tryz.prog 184 [av [mR aH.cells m.fE],av t.cells] [] (.fj [av ((rv m t).1).cells,lv bS ((rv m t).2)]) []) (m:Machine) (t:Term):Sk (aH × (List Int)) :=
 .bind false (fun b1=>b1=(t.op == 0||t.op == 1))
 (.br (t.op == 0)
 (.fin (.inr (t.op == 0)))
 (.fin (.inr (t.op == 1))))
 (fun (b1:Bool)=>⟨[(15,bv b1)],[]⟩) fun b1 =>
 .br b1
 (.fin (({ known:=true,n:=t.n }:aH),[]))
 (.br (t.op == 2)
 (.r 6 ((rY m t.n).c) fun x2 =>
 .br x2.known
 (.fin (x2,[]))
 (.r 9 (.o [.dn (dH dV [t.n])]) fun _ =>
 .fin (({ known:=false,n:=0 }:aH),[t.n])))
 (.r 10 (.al (.o [.dn (mkC aH.E t.args.length ({ known:=false,n:=0 }:aH))]) (.p (mkP ((t.args.length:Nat):Int) 16))) fun _ =>
 .r 11 (.al (.o [.dn (mkN (LC dV) t.args.length ([]:List Int) [.v (.slice none 0 0)] (by kernel_rfl))]) (.p (mkP ((t.args.length:Nat):Int) 24))) fun _ =>
 .bind true (fun b3=>b3.1.length=t.args.length∧b3.2.length=t.args.length∧∀ q,q < t.args.length→b3.1.getD q default=(rv m (t.args.getD q default)).1∧b3.2.getD q default=(rv m (t.args.getD q default)).2)
 (.loop (default:Sum (aH × (List Int)) ((List aH) × (List (List Int)))) (fun i4=>i4.1.length=t.args.length∧i4.2.1.length=t.args.length∧i4.2.2≤t.args.length∧∀ q,q < i4.2.2→i4.1.getD q default=(rv m (t.args.getD q default)).1∧i4.2.1.getD q default=(rv m (t.args.getD q default)).2) (fun i4=>t.args.length - i4.2.2) ((List.replicate t.args.length ({ known:=false,n:=0 }:aH),List.replicate t.args.length ([]:List Int),0):(List aH) × (List (List Int)) × Nat)
 (fun (i4:(List aH) × (List (List Int)) × Nat)=>⟨[(7,ow 100004 i4.1),(8,ow 100005 i4.2.1),(45,iv (i4.2.2:Int))],[(100004,aU 39 2 aH.cells i4.1),(100005,aU 105 1 (LC dV).cells i4.2.1)]⟩) fun i4 =>
 .lt 43 0 i4.2.2 t.args.length
 (.r 14 (.al (.p (bN (i4.2.2:Int) t.args.length)) (.o [.cast 48 (acH (Term.MR (t.args.getD i4.2.2 default)))])) fun _ =>
 .r 15 (.nK ((sW rv rp rf m (t.args.getD i4.2.2 default)).c) fun x5=>.al (.p (bN (i4.2.2:Int) i4.1.length)) (.al (.al (.o [.dn (uj aH.E i4.1 i4.2.2 x5.1)]) (.p (i4.2.2 < i4.1.length))) (.al (.p (bN (i4.2.2:Int) i4.2.1.length)) (.al (.o [.dn (uj (LC dV) i4.2.1 i4.2.2 x5.2)]) (.p (i4.2.2 < i4.2.1.length)))))) fun x5 =>
 .wn 100004 i4.1.length (i4.1.set i4.2.2 x5.1).length <|
 .wn 100005 i4.2.1.length (i4.2.1.set i4.2.2 x5.2).length <|
 .nx 16 45 i4.2.2 (i4.1.set i4.2.2 x5.1,i4.2.1.set i4.2.2 x5.2,i4.2.2+1))
 (.fin (.inl (.inr (i4.1,i4.2.1)))))
 (fun (b3:(List aH) × (List (List Int)))=>⟨[(7,ow 100002 b3.1),(8,ow 100003 b3.2)],[(100002,aU 39 2 aH.cells b3.1),(100003,aU 105 1 (LC dV).cells b3.2)]⟩) fun b3 =>
 .r 17 (.al (.wh (t.op == 6) true (.p (bN (0:Int) b3.1.length))) (.wh (t.op == 6) true (.p (0 < b3.1.length)))) fun _ =>
 .br ((t.op == 6)&&((b3.1.getD 0 default).known))
 (.r 18 (.al (.p (bN (0:Int) b3.1.length)) (.p (0 < b3.1.length))) fun _ =>
 .r 19 (.al (.p (bN (au ((2:Int) - ((b3.1.getD 0 default).n))) b3.1.length)) (.al (.p ((au ((2:Int) - ((b3.1.getD 0 default).n))).toNat < b3.1.length)) (.al (.p (bN (au ((2:Int) - ((b3.1.getD 0 default).n))) b3.2.length)) (.p ((au ((2:Int) - ((b3.1.getD 0 default).n))).toNat < b3.2.length))))) fun _ =>
 .fin (b3.1.getD ((au ((2:Int) - ((b3.1.getD 0 default).n))).toNat) default,b3.2.getD ((au ((2:Int) - ((b3.1.getD 0 default).n))).toNat) default))
 (.r 20 ((AD t.op b3.1).c) fun x6 =>
 .br x6.known
 (.fin (x6,[]))
 (.fz 100003 <|
 .r 23 ((zu b3.2).c) fun x7 =>
 .fin (({ known:=false,n:=0 }:aH),x7)))))
def af:Nat→Machine→Term→aH × (List Int)
 | 0,_,_=>default
 | fu+1,m,t=>(dz (af fu) (fun _ _=>False) (fun _ _=>fun h=>h.elim) m t).val
theorem acQ (fu:Nat) (m:Machine) (n:Int):af (fu+1) m ⟨0,n,[]⟩=(⟨true,n⟩,[]):=by kernel_rfl
theorem abc (fu:Nat) (m:Machine) (n:Int):af (fu+1) m ⟨1,n,[]⟩=(⟨true,n⟩,[]):=by kernel_rfl
theorem acR (fu:Nat) (m:Machine) (n:Int):af (fu+1) m ⟨2,n,[]⟩=bif (ig m n).known then (ig m n,[]) else (⟨false,0⟩,[n]):=by kernel_rfl
def sX (op:Int) (cs:List aH) (ns:List (List Int)):aH × List Int:=bif (cZ op cs).known then (cZ op cs,[]) else (⟨false,0⟩,wz ns)
theorem acS (fu:Nat) (m:Machine) (n:Int) (a:Term):af (fu+1) m ⟨3,n,[a]⟩=sX 3 [(af fu m a).1] [(af fu m a).2]:=by kernel_rfl
theorem run_ite (fu:Nat) (m:Machine) (n:Int) (a b c:Term):af (fu+1) m ⟨6,n,[a,b,c]⟩ = 
 (let x:=(af fu m a); let y:=(af fu m b); let z:=(af fu m c);
  bif x.1.known then ([x.1,y.1,z.1].getD (au (2 - x.1.n)).toNat default,[x.2,y.2,z.2].getD (au (2 - x.1.n)).toNat default) else sX 6 [x.1,y.1,z.1] [x.2,y.2,z.2]):=by kernel_rfl
theorem abd (fu:Nat) (m:Machine) (n:Int) (a b:Term):af (fu+1) m ⟨4,n,[a,b]⟩=sX 4 [(af fu m a).1,(af fu m b).1] [(af fu m a).2,(af fu m b).2]:=by kernel_rfl
theorem abe (fu:Nat) (m:Machine) (n:Int) (a b:Term):af (fu+1) m ⟨5,n,[a,b]⟩=sX 5 [(af fu m a).1,(af fu m b).1] [(af fu m a).2,(af fu m b).2]:=by kernel_rfl
theorem abf (fu:Nat) (m:Machine) (n:Int) (a b:Term):af (fu+1) m ⟨7,n,[a,b]⟩=sX 7 [(af fu m a).1,(af fu m b).1] [(af fu m a).2,(af fu m b).2]:=by kernel_rfl
theorem abg (fu:Nat) (m:Machine) (n:Int) (a b:Term):af (fu+1) m ⟨8,n,[a,b]⟩=sX 8 [(af fu m a).1,(af fu m b).1] [(af fu m a).2,(af fu m b).2]:=by kernel_rfl
theorem abh (fu:Nat) (m:Machine) (n:Int) (a b:Term):af (fu+1) m ⟨9,n,[a,b]⟩=sX 9 [(af fu m a).1,(af fu m b).1] [(af fu m a).2,(af fu m b).2]:=by kernel_rfl
theorem Zs (fu:Nat) (m:Machine) (n:Int) (a b:Term):af (fu+1) m ⟨10,n,[a,b]⟩=sX 10 [(af fu m a).1,(af fu m b).1] [(af fu m a).2,(af fu m b).2]:=by kernel_rfl
theorem Zt (fu:Nat) (m:Machine) (n:Int) (a b:Term):af (fu+1) m ⟨11,n,[a,b]⟩=sX 11 [(af fu m a).1,(af fu m b).1] [(af fu m a).2,(af fu m b).2]:=by kernel_rfl
theorem Zu (fu:Nat) (m:Machine) (n:Int) (a b:Term):af (fu+1) m ⟨12,n,[a,b]⟩=sX 12 [(af fu m a).1,(af fu m b).1] [(af fu m a).2,(af fu m b).2]:=by kernel_rfl
theorem Zv (fu:Nat) (m:Machine) (n:Int) (a b:Term):af (fu+1) m ⟨13,n,[a,b]⟩=sX 13 [(af fu m a).1,(af fu m b).1] [(af fu m a).2,(af fu m b).2]:=by kernel_rfl
theorem LF (fu:Nat) (m:Machine) (op n:Int) (h:op=4∨op=5∨op=7∨op=8∨(9≤op∧op≤13)) (a b:Term):af (fu+1) m ⟨op,n,[a,b]⟩=sX op [(af fu m a).1,(af fu m b).1] [(af fu m a).2,(af fu m b).2]:=by
 have:op=4∨op=5∨op=7∨op=8∨op=9∨op=10∨op=11∨op=12∨op=13:=by omega
 rcases this with rfl | rfl | rfl | rfl | rfl | rfl | rfl | rfl | rfl
 ·exact abd fu m n a b
 ·exact abe fu m n a b
 ·exact abf fu m n a b
 ·exact abg fu m n a b
 ·exact abh fu m n a b
 ·exact Zs fu m n a b
 ·exact Zt fu m n a b
 ·exact Zu fu m n a b
 ·exact Zv fu m n a b
def b01 (c:aH):Prop:=c.known=true→c.n=0∨c.n=1
theorem R7 (b:Bool):xB b=⟨true,if b then 1 else 0⟩:=by cases b <;> kernel_rfl
theorem abi (b:Bool):b01 (xB b):=by rw [R7]; intro _; cases b <;> simp
theorem abj (a:aH):cZ 3 [a]=bif a.known then xB (a.n == 0) else ⟨false,0⟩:=by
 obtain ⟨k,n⟩:=a
 cases k <;> kernel_rfl
def Zw (c:aH) (n:Int):aH:=bif c.known then (bif decide (n < 7) then ⟨true,M3 c.n⟩ else ⟨true,bif c.n != 0 then 1 else 0⟩) else ⟨false,0⟩
theorem abk (m:Machine) (n:Int) (h:0≤n∧n≤19):ig m n=Zw (m.fE.getD n.toNat default) n:=by
 simp only [ig,fy,Sk.qF,Sk.kL,Sk.gN,iI.G3,kk,kp,bn.Ao,j8,gC,yA,iY,jH,Zw,R7]
 rw [show (decide (n < 0)||decide (n > 19))=false from by simp; omega]
 by_cases hl:n≥m.fE.length
 ·have e:m.fE.getD n.toNat default=⟨false,0⟩:=by
   rw [List.getD,List.getElem?_eq_none (by omega)]
   rfl
  rw [e,decide_eq_true hl]
  rfl
 ·rw [decide_eq_false hl]
  cases hk:(m.fE.getD n.toNat default).known with
  | false=>rfl
  | true =>
   by_cases c:n < 7
   ·rw [decide_eq_true c]; rfl
   ·rw [decide_eq_false c]
    cases hn:((m.fE.getD n.toNat default).n != 0) <;> rfl
theorem aeG (c:aH) (n:Int) (h:7≤n):b01 (Zw c n):=by
 unfold Zw
 rw [decide_eq_false (by omega)]
 intro hk
 cases hc:c.known with
 | false=>rw [hc] at hk; exact absurd (show false=true from hk) (by decide)
 | true =>
  cases hn:(c.n != 0)
  ·left; rfl
  ·right; rfl
theorem Zx (op:Int) (h:op=4∨op=5) (a b:aH):cZ op [a,b]=(let z:Int:=if op=5 then 1 else 0; bif (a.known&&a.n == z)||(b.known&&b.n == z) then ⟨true,z⟩ else bif a.known&&b.known then ⟨true,1 - z⟩ else ⟨false,0⟩):=by
 obtain ⟨k,n⟩:=a
 obtain ⟨k',n'⟩:=b
 rcases h with rfl | rfl
 ·cases k <;> cases k' <;> cases h1:(n == 0) <;> cases h2:(n' == 0) <;> simp [cZ,eZ,gC,R7,h1,h2]
 ·cases k <;> cases k' <;> cases h1:(n == 1) <;> cases h2:(n' == 1) <;> simp [cZ,eZ,gC,R7,h1,h2]
theorem acT (a b c:aH):cZ 6 [a,b,c]=bif b.known&&(c.known&&b.n == c.n) then b else ⟨false,0⟩:=by
 obtain ⟨k,n⟩:=b
 obtain ⟨k',n'⟩:=c
 cases k <;> cases k' <;> cases h1:(n == n') <;> simp [cZ,eZ,h1]
theorem Nb (op:Int) (h:7≤op) (a b:aH):cZ op [a,b]=bif a.known&&b.known then (if op=7 then xB (decide (a.n < b.n)) else if op=8 then xB (a.n == b.n) else ⟨true,zt op a.n b.n⟩) else ⟨false,0⟩:=by
 obtain ⟨k,n⟩:=a
 obtain ⟨k',n'⟩:=b
 have e3:(op == 3)=false:=by simp; omega
 have e4:(op == 4)=false:=by simp; omega
 have e5:(op == 5)=false:=by simp; omega
 have e6:(op == 6)=false:=by simp; omega
 simp only [cZ,eZ,Sk.j3,Sk.kL,Sk.qF,Sk.gN,e3,e4,e5,e6,cond_false,Zm,tP,iI.G3,kk,kp,gC,pR]
 cases k <;> cases k' <;> (try rfl)
 by_cases c7:op=7
 ·subst c7; rfl
 ·have e7:(op == 7)=false:=by simpa using c7
  by_cases c8:op=8
  ·subst c8; rfl
  ·have e8:(op == 8)=false:=by simpa using c8
   simp [e7,e8,c7,c8]
theorem xC (op:Int) (cs:List aH) (ns:List (List Int)) (h:b01 (cZ op cs)):b01 (sX op cs ns).1:=by
 unfold sX
 cases hk:(cZ op cs).known with
 | true=>exact h
 | false=>intro h; exact absurd (show false=true from h) (by decide)
theorem tT (op:Int) (cs:List aH) (ns:List (List Int)) (B:Nat) (hB:B≤1000000) (hl:ns.length≤3) (h:∀ q,q < ns.length→(ns.getD q default).length≤B):(sX op cs ns).2.length≤3 * B:=by
 unfold sX
 cases hk:(cZ op cs).known with
 | true=>simp
 | false =>
  simp only [cond_false]
  rw [Dl ns ⟨by omega,fun q hq=>Nat.le_trans (h q hq) hB⟩]
  have:=R6 ns B h ns.length (Nat.le_refl _)
  rw [List.take_length] at this
  have:B * ns.length≤B * 3:=Nat.mul_le_mul_left _ hl
  omega
theorem aeH (op n:Int) (a:Term):Term.depth ⟨op,n,[a]⟩=a.depth+1:=by simp [Term.depth,Term.ib]
theorem R8 (op n:Int) (a b:Term):Term.depth ⟨op,n,[a,b]⟩=max a.depth b.depth+1:=by simp [Term.depth,Term.ib]
theorem aeI (op n:Int) (a b c:Term):Term.depth ⟨op,n,[a,b,c]⟩=max a.depth (max b.depth c.depth)+1:=by simp [Term.depth,Term.ib]
theorem lW {a b:Nat} (h:a≤b):3 ^ a≤3 ^ b:=Nat.pow_le_pow_right (by omega) h
theorem QO {t:Term} {k:Int} (h:yi t k):∀ (fu:Nat) (m:Machine),t.depth≤fu→t.depth≤8→(k=1→b01 (af fu m t).1)∧(af fu m t).2.length≤3 ^ t.depth:=by
 have h8:∀ d,d≤8→3 ^ d≤1000000:=fun d hd=>Nat.le_trans (lW hd) (by decide)
 induction h with
 | int hn =>
  intro fu m hd _
  cases fu with
  | zero=>exact absurd hd (by simp [Term.depth,Term.ib])
  | succ fu=>rw [acQ]; exact ⟨fun h=>absurd h (by decide),by simp⟩
 | @bool n hn =>
  intro fu m hd _
  cases fu with
  | zero=>exact absurd hd (by simp [Term.depth,Term.ib])
  | succ fu=>rw [abc]; exact ⟨fun _ _=>by show n=0∨n=1; omega,by simp⟩
 | @var n hn =>
  intro fu m hd _
  cases fu with
  | zero=>exact absurd hd (by simp [Term.depth,Term.ib])
  | succ fu =>
   rw [acR,abk m n hn]
   refine ⟨fun h=>?_,?_⟩
   ·have:=aeG (m.fE.getD n.toNat default) n (by split at h <;> omega)
    cases hk:(Zw (m.fE.getD n.toNat default) n).known with
    | true=>exact this
    | false=>intro h; exact absurd (show false=true from h) (by decide)
   ·cases hk:(Zw (m.fE.getD n.toNat default) n).known <;> simp [Term.depth,Term.ib]
 | @not a _ ih =>
  intro fu m hd h8d
  cases fu with
  | zero=>exact absurd hd (by simp [Term.depth,Term.ib])
  | succ fu =>
   rw [aeH] at hd h8d ⊢
   have ih:=ih fu m (by omega) (by omega)
   rw [acS]
   refine ⟨fun _=>xC _ _ _ ?_,?_⟩
   ·rw [abj]
    cases hk:(af fu m a).1.known with
    | true=>exact abi _
    | false=>intro h; exact absurd (show false=true from h) (by decide)
   ·have:=tT 3 [(af fu m a).1] [(af fu m a).2] (3 ^ a.depth) (h8 _ (by omega)) (by simp) (fun q hq=>by
     have:q=0:=by simpa using hq
     subst this
     exact ih.2)
    rw [Nat.pow_succ]; omega
 | @acO op a b CU _ _ QP OZ =>
  intro fu m hd h8d
  cases fu with
  | zero=>exact absurd hd (by simp [Term.depth,Term.ib])
  | succ fu =>
   rw [R8] at hd h8d ⊢
   have QP:=QP fu m (by omega) (by omega)
   have OZ:=OZ fu m (by omega) (by omega)
   rw [LF _ _ _ _ (by omega)]
   refine ⟨fun _=>xC _ _ _ ?_,?_⟩
   ·rw [Zx op CU]
    dsimp only
    split
    ·cases (((af fu m a).1.known&&(af fu m a).1.n == 1)||((af fu m b).1.known&&(af fu m b).1.n == 1)) <;> cases ((af fu m a).1.known&&(af fu m b).1.known) <;> simp [b01]
    ·cases (((af fu m a).1.known&&(af fu m a).1.n == 0)||((af fu m b).1.known&&(af fu m b).1.n == 0)) <;> cases ((af fu m a).1.known&&(af fu m b).1.known) <;> simp [b01]
   ·have:=tT op [(af fu m a).1,(af fu m b).1] [(af fu m a).2,(af fu m b).2] (3 ^ (max a.depth b.depth)) (h8 _ (by omega)) (by simp) (fun q hq=>by
     have:q=0∨q=1:=by simp at hq; omega
     rcases this with rfl | rfl
     ·exact Nat.le_trans QP.2 (lW (by omega))
     ·exact Nat.le_trans OZ.2 (lW (by omega)))
    rw [Nat.pow_succ]; omega
 | @ite a b c k ha _ _ QP OZ ihc =>
  intro fu m hd h8d
  cases fu with
  | zero=>exact absurd hd (by simp [Term.depth,Term.ib])
  | succ fu =>
   rw [aeI] at hd h8d ⊢
   have QP:=QP fu m (by omega) (by omega)
   have OZ:=OZ fu m (by omega) (by omega)
   have ihc:=ihc fu m (by omega) (by omega)
   rw [run_ite]
   dsimp only
   have lb:=Nat.le_trans OZ.2 (lW (b:=max a.depth (max b.depth c.depth)+1) (by omega))
   have lc:=Nat.le_trans ihc.2 (lW (b:=max a.depth (max b.depth c.depth)+1) (by omega))
   cases hk:(af fu m a).1.known with
   | true =>
    simp only [cond_true]
    rcases QP.1 rfl hk with e | e
    ·rw [e]
     exact ⟨ihc.1,lc⟩
    ·rw [e]
     exact ⟨OZ.1,lb⟩
   | false =>
    simp only [cond_false]
    refine ⟨fun h=>xC _ _ _ ?_,?_⟩
    ·rw [acT]
     cases ((af fu m b).1.known&&((af fu m c).1.known&&(af fu m b).1.n == (af fu m c).1.n)) with
     | true=>exact OZ.1 h
     | false=>intro h; exact absurd (show false=true from h) (by decide)
    ·have:=tT 6 [(af fu m a).1,(af fu m b).1,(af fu m c).1] [(af fu m a).2,(af fu m b).2,(af fu m c).2] (3 ^ (max a.depth (max b.depth c.depth))) (h8 _ (by omega)) (by simp) (fun q hq=>by
      have:q=0∨q=1∨q=2:=by simp at hq; omega
      rcases this with rfl | rfl | rfl
      ·exact Nat.le_trans QP.2 (lW (by omega))
      ·exact Nat.le_trans OZ.2 (lW (by omega))
      ·exact Nat.le_trans ihc.2 (lW (by omega)))
     rw [Nat.pow_succ]; omega
 | @less a b _ _ QP OZ =>
  intro fu m hd h8d
  cases fu with
  | zero=>exact absurd hd (by simp [Term.depth,Term.ib])
  | succ fu =>
   rw [R8] at hd h8d ⊢
   have QP:=QP fu m (by omega) (by omega)
   have OZ:=OZ fu m (by omega) (by omega)
   rw [LF _ _ _ _ (by omega)]
   refine ⟨fun _=>xC _ _ _ ?_,?_⟩
   ·rw [Nb 7 (by omega)]
    cases ((af fu m a).1.known&&(af fu m b).1.known) with
    | true=>exact abi _
    | false=>intro h; exact absurd (show false=true from h) (by decide)
   ·have:=tT 7 [(af fu m a).1,(af fu m b).1] [(af fu m a).2,(af fu m b).2] (3 ^ (max a.depth b.depth)) (h8 _ (by omega)) (by simp) (fun q hq=>by
     have:q=0∨q=1:=by simp at hq; omega
     rcases this with rfl | rfl
     ·exact Nat.le_trans QP.2 (lW (by omega))
     ·exact Nat.le_trans OZ.2 (lW (by omega)))
    rw [Nat.pow_succ]; omega
 | @eq a b _ _ _ QP OZ =>
  intro fu m hd h8d
  cases fu with
  | zero=>exact absurd hd (by simp [Term.depth,Term.ib])
  | succ fu =>
   rw [R8] at hd h8d ⊢
   have QP:=QP fu m (by omega) (by omega)
   have OZ:=OZ fu m (by omega) (by omega)
   rw [LF _ _ _ _ (by omega)]
   refine ⟨fun _=>xC _ _ _ ?_,?_⟩
   ·rw [Nb 8 (by omega)]
    cases ((af fu m a).1.known&&(af fu m b).1.known) with
    | true=>exact abi _
    | false=>intro h; exact absurd (show false=true from h) (by decide)
   ·have:=tT 8 [(af fu m a).1,(af fu m b).1] [(af fu m a).2,(af fu m b).2] (3 ^ (max a.depth b.depth)) (h8 _ (by omega)) (by simp) (fun q hq=>by
     have:q=0∨q=1:=by simp at hq; omega
     rcases this with rfl | rfl
     ·exact Nat.le_trans QP.2 (lW (by omega))
     ·exact Nat.le_trans OZ.2 (lW (by omega)))
    rw [Nat.pow_succ]; omega
 | @arith op a b CU _ _ QP OZ =>
  intro fu m hd h8d
  cases fu with
  | zero=>exact absurd hd (by simp [Term.depth,Term.ib])
  | succ fu =>
   rw [R8] at hd h8d ⊢
   have QP:=QP fu m (by omega) (by omega)
   have OZ:=OZ fu m (by omega) (by omega)
   rw [LF _ _ _ _ (by omega)]
   refine ⟨fun h=>absurd h (by decide),?_⟩
   have:=tT op [(af fu m a).1,(af fu m b).1] [(af fu m a).2,(af fu m b).2] (3 ^ (max a.depth b.depth)) (h8 _ (by omega)) (by simp) (fun q hq=>by
    have:q=0∨q=1:=by simp at hq; omega
    rcases this with rfl | rfl
    ·exact Nat.le_trans QP.2 (lW (by omega))
    ·exact Nat.le_trans OZ.2 (lW (by omega)))
   rw [Nat.pow_succ]; omega
theorem yi.parts {t:Term} {k:Int} (h:yi t k):(t.op=0∨t.op=1∨(t.op=2∧0≤t.n))∨((∀ q,q < t.args.length→∃ j,yi (t.args.getD q default) j)∧((t.op=3∧t.args.length=1)∨(t.op=6∧t.args.length=3∧yi (t.args.getD 0 default) 1)∨(t.op≠0∧t.op≠1∧t.op≠2∧t.op≠3∧t.op≠6∧t.args.length=2))):=by
 cases h with
 | int _=>left; left; rfl
 | bool _=>left; right; left; rfl
 | var h=>left; right; right; exact ⟨rfl,h.1⟩
 | not h =>
  right
  refine ⟨fun q hq=>?_,.inl ⟨rfl,rfl⟩⟩
  obtain rfl:q=0:=by simpa using hq
  exact ⟨_,h⟩
 | acO o h1 h2 =>
  right
  refine ⟨fun q hq=>?_,.inr (.inr ⟨by dsimp only; omega,by dsimp only; omega,by dsimp only; omega,by dsimp only; omega,by dsimp only; omega,rfl⟩)⟩
  have:q=0∨q=1:=by simp at hq; omega
  rcases this with rfl | rfl
  ·exact ⟨_,h1⟩
  ·exact ⟨_,h2⟩
 | ite h1 h2 h3 =>
  right
  refine ⟨fun q hq=>?_,.inr (.inl ⟨rfl,rfl,h1⟩)⟩
  have:q=0∨q=1∨q=2:=by simp at hq; omega
  rcases this with rfl | rfl | rfl
  ·exact ⟨_,h1⟩
  ·exact ⟨_,h2⟩
  ·exact ⟨_,h3⟩
 | less h1 h2 =>
  right
  refine ⟨fun q hq=>?_,.inr (.inr ⟨by dsimp only; omega,by dsimp only; omega,by dsimp only; omega,by dsimp only; omega,by dsimp only; omega,rfl⟩)⟩
  have:q=0∨q=1:=by simp at hq; omega
  rcases this with rfl | rfl
  ·exact ⟨_,h1⟩
  ·exact ⟨_,h2⟩
 | eq h1 h2 =>
  right
  refine ⟨fun q hq=>?_,.inr (.inr ⟨by dsimp only; omega,by dsimp only; omega,by dsimp only; omega,by dsimp only; omega,by dsimp only; omega,rfl⟩)⟩
  have:q=0∨q=1:=by simp at hq; omega
  rcases this with rfl | rfl
  ·exact ⟨_,h1⟩
  ·exact ⟨_,h2⟩
 | arith o h1 h2 =>
  right
  refine ⟨fun q hq=>?_,.inr (.inr ⟨by dsimp only; omega,by dsimp only; omega,by dsimp only; omega,by dsimp only; omega,by dsimp only; omega,rfl⟩)⟩
  have:q=0∨q=1:=by simp at hq; omega
  rcases this with rfl | rfl
  ·exact ⟨_,h1⟩
  ·exact ⟨_,h2⟩
theorem B3 (fu:Nat) (rf:∀ (m:Machine) (t:Term),t.depth≤fu∧(t.E1)→eC Tryz.prog 184 [av [mR aH.cells m.fE],av t.cells] [] (.fj [av ((af fu m t).1).cells,lv bS ((af fu m t).2)]) []) (m:Machine) (t:Term) (hm:t.depth≤fu+1) (ht:t.E1):(dz (af fu) (fun m t=>t.depth≤fu∧(t.E1)) rf m t).a6 (fun _=>True):=by
 refine Sk.aG _ ?_
 unfold dz
 simp only [Sk.gL,Sk.aA,reduceCtorEq,ON,kk,kp,zu,AD,rY,sW,maxLen]
 obtain ⟨⟨k,hk⟩,h8⟩:=ht
 have abl:=hk.parts
 refine ⟨⟨fun _=>by simp_all,fun _=>by simp_all⟩,fun b _ hb hbf=>?_⟩
 rw [hb] at hbf
 simp only [LN] at hbf
 refine ⟨fun h2=>?_,fun h2=>?_⟩
 ·simp only [LN] at h2
  rcases abl with h | h
  ·omega
  ·omega
 ·simp only [LN] at h2
  have hp:(∀ q,q < t.args.length→∃ j,yi (t.args.getD q default) j)∧((t.op=3∧t.args.length=1)∨(t.op=6∧t.args.length=3∧yi (t.args.getD 0 default) 1)∨(t.op≠0∧t.op≠1∧t.op≠2∧t.op≠3∧t.op≠6∧t.args.length=2)):=by
   rcases abl with h | h
   ·omega
   ·exact h
  obtain ⟨hp1,hp2⟩:=hp
  have hlen:t.args.length≤3:=by omega
  have WN:∀ q,q < t.args.length→(t.args.getD q default).depth≤fu∧(t.args.getD q default).depth≤8:=fun q hq=>by have:=t.kN q hq; omega
  refine ⟨⟨by omega,by omega,by omega⟩,fun _=>⟨⟨by omega,by omega,by omega⟩,fun _=>⟨⟨⟨by simp,by simp,by omega,fun q hq=>absurd hq (by omega)⟩,fun i hi hl=>⟨fun hc=>⟨⟨by omega,of_decide_eq_true hc⟩,fun _=>⟨⟨⟨?_,?_⟩,fun x hx=>⟨⟨by omega,?_⟩,?_,⟨by omega,?_⟩,?_⟩⟩,fun x hx=>⟨by simp,by simp,fun _=>⟨?_,⟨⟨by simp [hi.1],by simp [hi.2.1],?_,fun q hq=>?_⟩,?_⟩⟩⟩⟩⟩,fun hc=>⟨hi.1,hi.2.1,fun q hq=>hi.2.2.2 q (by simp only [LN] at hc; omega)⟩⟩⟩,fun b hb=>?_⟩⟩⟩
  all_goals (try simp only [LN] at hc)
  ·exact (WN _ (by omega)).1
  ·exact ⟨hp1 _ (by omega),(WN _ (by omega)).2⟩
  ·omega
  ·omega
  ·omega
  ·omega
  ·exact ar (by omega) (by omega)
  ·omega
  ·by_cases e:q=i.2.2
   ·subst e
    subst hx
    exact ⟨vF _ (by omega) _ _,vF _ (by omega) _ _⟩
   ·have:=hi.2.2.2 q (by omega)
    rw [← this.1,← this.2]
    exact ⟨vG _ e _ _,vG _ e _ _⟩
  ·omega
  ·refine ⟨⟨fun _=>⟨by omega,by omega⟩,fun _=>by omega⟩,fun _=>⟨fun h6=>?_,fun _=>⟨?_,fun x _ _=>⟨?_,?_⟩⟩⟩⟩
   ·simp only [LN] at h6
    have h01:b01 (b.1.getD 0 default):=by
     rw [(hb.2.2 0 (by omega)).1]
     rcases hp2 with h | h | h
     ·omega
     ·exact (QO h.2.2 fu m (WN 0 (by omega)).1 (WN 0 (by omega)).2).1 rfl
     ·omega
    have h01:=h01 h6.2
    have hw:au (2 - (b.1.getD 0 default).n)=2 - (b.1.getD 0 default).n:=ar (by omega) (by omega)
    rw [hw]
    refine ⟨⟨by omega,by omega⟩,fun _=>⟨⟨by omega,by omega⟩,by omega,⟨by omega,by omega⟩,by omega⟩⟩
   ·omega
   ·omega
   ·intro q hq
    rw [hb.2.1] at hq
    rw [(hb.2.2 q hq).2]
    obtain ⟨j,hj⟩:=hp1 q hq
    have:=(QO hj fu m (WN q hq).1 (WN q hq).2).2
    have h3:(3:Nat) ^ (t.args.getD q default).depth≤3 ^ 8:=Nat.pow_le_pow_right (by omega) (WN q hq).2
    have:(3:Nat) ^ 8=6561:=by decide
    omega
theorem AF (fu:Nat) (rp:Machine→Term→Prop) (rf:∀ (m:Machine) (t:Term),rp m t→eC Tryz.prog 184 [av [mR aH.cells m.fE],av t.cells] [] (.fj [av ((af fu m t).1).cells,lv bS ((af fu m t).2)]) []) (m:Machine) (t:Term):(dz (af fu) rp rf m t).val=af (fu+1) m t:=by kernel_rfl
theorem AG (fu:Nat):∀ (m:Machine) (t:Term),t.depth≤fu→t.E1→eC Tryz.prog 184 [av [mR aH.cells m.fE],av t.cells] [] (.fj [av ((af fu m t).1).cells,lv bS ((af fu m t).2)]) []:=by
 induction fu with
 | zero=>intro m t hm h0; exact absurd hm (by have:=Term.tQ t; omega)
 | succ fu ih =>
  intro m t hm h0
  have h:eC Tryz.prog 184 [av [mR aH.cells m.fE],av t.cells] [] (.fj [av (((dz (af fu) (fun m t=>t.depth≤fu∧(t.E1)) (fun m t h=>ih m t h.1 h.2) m t).val).1).cells,lv bS (((dz (af fu) (fun m t=>t.depth≤fu∧(t.E1)) (fun m t h=>ih m t h.1 h.2) m t).val).2)]) []:=eC.sk tok mixed (fun x=>.fj [av x.1.cells,lv bS x.2]) (fun _=>[]) Tryz.func184 rfl (by kernel_rfl) 3000 (dz (af fu) (fun m t=>t.depth≤fu∧(t.E1)) (fun m t h=>ih m t h.1 h.2) m t) (by kernel_rfl) (B3 fu _ m t hm h0)
  rw [AF] at h
  exact h
def qW (m:Machine) (t:Term):aH × (List Int):=af (t.depth) m t
theorem B4 (m:Machine) (t:Term) (ht:t.E1):eC Tryz.prog 184 [av [mR aH.cells m.fE],av t.cells] [] (.fj [av ((qW m t).1).cells,lv bS ((qW m t).2)]) []:=AG _ m t (Nat.le_refl _) ht
def ux (m:Machine) (t:Term):iI (aH × (List Int)):=⟨Tryz.prog,184,[av [mR aH.cells m.fE],av t.cells],fun x=>.fj [av x.1.cells,lv bS x.2],false,qW m t,(t.E1),fun h=>B4 m t h,fun _=>True,trivial⟩
def tp (t:Term) (cells:List aH):Sk (aH) :=
 .r 1 ((tn t).c) fun x1 =>
 .br (x1.2 != 0)
 (.fin ({ known:=false,n:=0 }:aH))
 (.r 4 ((ux ({ fE:=cells }:Machine) t).c) fun x2 =>
 .fin x2.1)
def Zy t cells:=(tp t cells).val
theorem R9 (t:Term) (cells:List aH):(tp t cells).a6 (fun _=>True):=by
 refine Sk.aG _ ?_
 unfold tp
 simp only [Sk.gL,Sk.aA,reduceCtorEq,ON,kk,kp,tn,ux,maxLen]
 intro x _ h hc
 simp only [LN] at hc
 exact ⟨⟨_,(h hc).1⟩,(h hc).2⟩
def Jc t cells:=kk tok mixed Tryz.func150 [av t.cells,lv aH.cells cells] (fun x=>av x.cells) true (tp t cells) (Zy t cells) (u0 (R9 t cells))
def oo (o:Order) (ask:Int) (cells:List aH):Sk (aH × Int) :=
 .r 1 ((E2 o ask).c) fun x1 =>
 .br (x1.2 != 0)
 (.fin (({ known:=false,n:=0 }:aH),x1.2))
 (.r 4 ((Jc x1.1 cells).c) fun x2 =>
 .r 5 ((kR ask).c) fun x3 =>
 .br ((x3.1 == 0)&&x2.known)
 (.fin (({ known:=x2.known,n:=cS (bW x2.n 0) 20000 }:aH),0))
 (.fin (x2,0)))
def Sa o ask cells:=(oo o ask cells).val
theorem JZ (o:Order) (ask:Int) (cells:List aH):(oo o ask cells).a6 (fun _=>True):=by
 unfold oo
 try simp only [kR,E2,Jc]
 exact od
def AH o ask cells:=kk tok mixed Tryz.func115 [av o.cells,iv ask,lv aH.cells cells] (fun x=>.fj [av x.1.cells,iv x.2]) true (oo o ask cells) (Sa o ask cells) (u0 (JZ o ask cells))
def yC (r:ah) (forum:Int) (aR:Int) (c_:fR):Sk (wo) :=
 .r 1 ((M1 r forum aR c_).c) fun x1 =>
 .br (x1.1.order != (-1))
 (.r 3 (.al (.p (bN x1.1.order r.aN.length)) ((AH (r.aN.getD x1.1.order.toNat default) aR x1.2).c)) fun x2 =>
 .fin ({ cell:=x2.1,order:=x1.1.order,path:=x1.1.path,err:=x2.2 }:wo))
 (.fin x1.1)
def acU r forum aR c_:=(yC r forum aR c_).val
theorem WO (r:ah) (forum:Int) (aR:Int) (c_:fR) (hf:c_.file.Small) (hb:r.bD) (hr:r.Small):(yC r forum aR c_).a6 (fun _=>True):=by
 simp only [ai.Small,ah.Small,ah.bD] at hf
 simp only [ai.Small,ah.Small,ah.bD] at hb
 simp only [ai.Small,ah.Small,ah.bD] at hr
 unfold yC
 try simp only [M1,AH,ai.Small,ah.Small,ah.bD]
 exact nF
def gr r forum aR c_:=kk tok mixed Tryz.func89 [av r.cells,iv forum,iv aR,av c_.cells] (fun x=>av x.cells) false (yC r forum aR c_) (acU r forum aR c_) (u3 (WO r forum aR c_))
def vN (r:ah) (forum:Int) (aR:Int) (f:ai) (day:Int):Sk (wo) :=
 .r 2 (((gr r forum aR ({ file:={ f with facts:=[] },sign:=0,iP:=(-1),jh:=(-1),due:=(-1),day:=day }:fR)).ES 3 18 _ rfl ⟨_,rfl⟩).c) fun x1 =>
 .fin x1
def abm r forum aR f day:=(vN r forum aR f day).val
theorem UJ (r:ah) (forum:Int) (aR:Int) (f:ai) (day:Int) (hf:f.Small) (bg:r.bD) (aO:r.Small):(vN r forum aR f day).a6 (fun _=>True):=by
 simp only [ai.Small,ah.Small,ah.bD] at hf
 simp only [ai.Small,ah.Small,ah.bD] at bg
 simp only [ai.Small,ah.Small,ah.bD] at aO
 unfold vN
 try simp only [gr,ai.Small,ah.Small,ah.bD]
 exact nF
def oZ r forum aR f day:=kk tok mixed Tryz.func111 [av r.cells,iv forum,iv aR,av f.cells,iv day] (fun x=>av x.cells) false (vN r forum aR f day) (abm r forum aR f day) (u3 (UJ r forum aR f day))
def rz (s:wo):Sk (Int) :=
 .br ((s.err != 0)||(!s.cell.known))
 (.fin (-1))
 (.fin s.cell.n)
def WQ s:=(rz s).val
theorem Ps (s:wo):(rz s).a6 (fun _=>True):=by
 unfold rz
 exact od
def pS s:=kk tok mixed Tryz.func110 [av s.cells] (fun x=>iv x) true (rz s) (WQ s) (u0 (Ps s))
def rA (x_:List Int):Sk (Int) :=
 .bind false (fun _=>True)
 (.br (decide (((x_.length:Nat):Int) < 1))
 (.dead default)
 (.fin (.inr ())))
 (fun (_:Unit)=>⟨[],[]⟩) fun _ =>
 .r 3 (.p (bN (0:Int) x_.length)) fun _ =>
 .bt
 (.loop (default:Sum (Int) (Int)) (fun i3=>(1:Int)≤i3.2∧i3.2≤(x_.length:Int)) (fun i3=>((x_.length:Int) - i3.2).toNat) ((x_.getD 0 default,1):Int × Int)
 (fun (i3:Int × Int)=>⟨[(3,iv i3.1),(4,iv i3.2)],[]⟩) fun i3 =>
 .br (decide (i3.2 < ((x_.length:Nat):Int)))
 (.r 7 (.p (bN i3.2 x_.length)) fun _ =>
 .fin (.inr (cS i3.1 (x_.getD i3.2.toNat default),au (i3.2+1))))
 (.fin (.inl (.inr i3.1))))
 (fun (b2:Int)=>⟨[(3,iv b2)],[]⟩) fun b2 =>
 .fin b2
def WR x_:=(rA x_).val
theorem Pt (x_:List Int) (hx:x_.length≠0) (hl:x_.length≤1000000000):(rA x_).a6 (fun _=>True):=by
 unfold rA
 exact nF
def E3 x_:=kk tok mixed Tryz.func144 [lv bS x_] (fun x=>iv x) true (rA x_) (WR x_) (u2 (Pt x_))
def pT (f:ai):Sk (Int) :=
 .bind true (fun b1=>b1.length≤0+f.ae.length)
 (.loop (default:Sum (Int) ((List Int))) (fun i2=>i2.2≤f.ae.length∧i2.1.length≤0+i2.2) (fun i2=>f.ae.length - i2.2) (([],0):(List Int) × Nat)
 (fun (i2:(List Int) × Nat)=>⟨[(3,ow 100002 i2.1),(16,iv (i2.2:Int))],[(100002,aU 3 1 bS i2.1)]⟩) fun i2 =>
 .lt 14 0 i2.2 f.ae.length
 (.r 5 (.p (bN (i2.2:Int) f.ae.length)) fun _ =>
 .br ((f.aX.da.kind == 1)&&(((f.ae.getD i2.2 default).kind) == 1))
 (.r 7 (.al (.o [.dn (dH dV [(f.ae.getD i2.2 default).day])]) (.al (.o [.dn (kE dV i2.1 [(f.ae.getD i2.2 default).day])]) (.al (.t (dV.mT [(f.ae.getD i2.2 default).day])) (.p (vE i2.1.length [(f.ae.getD i2.2 default).day].length 8))))) fun _ =>
 .nx 8 16 i2.2 (i2.1++[(f.ae.getD i2.2 default).day],i2.2+1))
 (.nx 8 16 i2.2 (i2.1,i2.2+1)))
 (.fin (.inl (.inr i2.1))))
 (fun (b1:(List Int))=>⟨[(3,ow 100001 b1)],[(100001,aU 3 1 bS b1)]⟩) fun b1 =>
 .bind true (fun b3=>b3.length≤b1.length+f.aw.length)
 (.loop (default:Sum (Int) ((List Int))) (fun i4=>i4.2≤f.aw.length∧i4.1.length≤b1.length+i4.2) (fun i4=>f.aw.length - i4.2) ((b1,0):(List Int) × Nat)
 (fun (i4:(List Int) × Nat)=>⟨[(3,ow 100005 i4.1),(36,iv (i4.2:Int))],[(100005,aU 3 1 bS i4.1)]⟩) fun i4 =>
 .lt 34 0 i4.2 f.aw.length
 (.r 11 (.p (bN (i4.2:Int) f.aw.length)) fun _ =>
 .br ((f.aX.da.kind == 0)&&(((f.aw.getD i4.2 default).kind) == 2))
 (.fin (.inl (.inl ((f.aw.getD i4.2 default).day))))
 (.br ((f.aX.da.kind == 1)&&(((f.aw.getD i4.2 default).kind) == 1))
 (.r 15 (.al (.o [.dn (dH dV [(f.aw.getD i4.2 default).day])]) (.al (.o [.dn (kE dV i4.1 [(f.aw.getD i4.2 default).day])]) (.al (.t (dV.mT [(f.aw.getD i4.2 default).day])) (.p (vE i4.1.length [(f.aw.getD i4.2 default).day].length 8))))) fun _ =>
 .nx 16 36 i4.2 (i4.1++[(f.aw.getD i4.2 default).day],i4.2+1))
 (.nx 16 36 i4.2 (i4.1,i4.2+1))))
 (.fin (.inl (.inr i4.1))))
 (fun (b3:(List Int))=>⟨[(3,ow 100004 b3)],[(100004,aU 3 1 bS b3)]⟩) fun b3 =>
 .br (((b3.length:Nat):Int) == 0)
 (.fin (-1))
 (.r 19 ((E3 b3).c) fun x5 =>
 .fin x5)
def UK f:=(pT f).val
theorem Nc (f:ai) (hf:f.Small):(pT f).a6 (fun _=>True):=by
 simp only [ai.Small,ah.Small] at hf
 unfold pT
 try simp only [E3,ai.Small,ah.Small]
 exact nF
def rB f:=kk tok mixed Tryz.func113 [av f.cells] (fun x=>iv x) true (pT f) (UK f) (Nc f)
def my (r:ah):Sk ((List ByteArray) × (List ByteArray) × (List ByteArray)) :=
 .bind true (fun b1=>b1.length=r.bo.length)
 (.loop (default:Sum ((List ByteArray) × (List ByteArray) × (List ByteArray)) ((List ByteArray))) (fun i2=>i2.2≤r.bo.length∧i2.1.length=i2.2) (fun i2=>r.bo.length - i2.2) (([],0):(List ByteArray) × Nat)
 (fun (i2:(List ByteArray) × Nat)=>⟨[(2,ow 100002 i2.1),(14,iv (i2.2:Int))],[(100002,aU 9 1 kJ i2.1)]⟩) fun i2 =>
 .lt 12 0 i2.2 r.bo.length
 (.r 3 (.p (bN (i2.2:Int) r.bo.length)) fun _ =>
 .r 4 (.al (.o [.dn (dH JI [(r.bo.getD i2.2 default).name])]) (.al (.o [.dn (kE JI i2.1 [(r.bo.getD i2.2 default).name])]) (.al (.t (JI.mT [(r.bo.getD i2.2 default).name])) (.p (vE i2.1.length [(r.bo.getD i2.2 default).name].length 16))))) fun _ =>
 .nx 5 14 i2.2 (i2.1++[(r.bo.getD i2.2 default).name],i2.2+1))
 (.fin (.inl (.inr i2.1))))
 (fun (b1:(List ByteArray))=>⟨[(2,ow 100001 b1)],[(100001,aU 9 1 kJ b1)]⟩) fun b1 =>
 .bind true (fun b3=>b3.length=r.bU.length)
 (.loop (default:Sum ((List ByteArray) × (List ByteArray) × (List ByteArray)) ((List ByteArray))) (fun i4=>i4.2≤r.bU.length∧i4.1.length=i4.2) (fun i4=>r.bU.length - i4.2) (([],0):(List ByteArray) × Nat)
 (fun (i4:(List ByteArray) × Nat)=>⟨[(3,ow 100005 i4.1),(27,iv (i4.2:Int))],[(100005,aU 9 1 kJ i4.1)]⟩) fun i4 =>
 .lt 25 0 i4.2 r.bU.length
 (.r 8 (.p (bN (i4.2:Int) r.bU.length)) fun _ =>
 .r 9 (.al (.o [.dn (dH JI [(r.bU.getD i4.2 default).name])]) (.al (.o [.dn (kE JI i4.1 [(r.bU.getD i4.2 default).name])]) (.al (.t (JI.mT [(r.bU.getD i4.2 default).name])) (.p (vE i4.1.length [(r.bU.getD i4.2 default).name].length 16))))) fun _ =>
 .nx 10 27 i4.2 (i4.1++[(r.bU.getD i4.2 default).name],i4.2+1))
 (.fin (.inl (.inr i4.1))))
 (fun (b3:(List ByteArray))=>⟨[(3,ow 100004 b3)],[(100004,aU 9 1 kJ b3)]⟩) fun b3 =>
 .bind true (fun b5=>b5.length=r.aN.length)
 (.loop (default:Sum ((List ByteArray) × (List ByteArray) × (List ByteArray)) ((List ByteArray))) (fun i6=>i6.2≤r.aN.length∧i6.1.length=i6.2) (fun i6=>r.aN.length - i6.2) (([],0):(List ByteArray) × Nat)
 (fun (i6:(List ByteArray) × Nat)=>⟨[(4,ow 100008 i6.1),(40,iv (i6.2:Int))],[(100008,aU 9 1 kJ i6.1)]⟩) fun i6 =>
 .lt 38 0 i6.2 r.aN.length
 (.r 13 (.p (bN (i6.2:Int) r.aN.length)) fun _ =>
 .r 14 (.al (.o [.dn (dH JI [(r.aN.getD i6.2 default).name])]) (.al (.o [.dn (kE JI i6.1 [(r.aN.getD i6.2 default).name])]) (.al (.t (JI.mT [(r.aN.getD i6.2 default).name])) (.p (vE i6.1.length [(r.aN.getD i6.2 default).name].length 16))))) fun _ =>
 .nx 15 40 i6.2 (i6.1++[(r.aN.getD i6.2 default).name],i6.2+1))
 (.fin (.inl (.inr i6.1))))
 (fun (b5:(List ByteArray))=>⟨[(4,ow 100007 b5)],[(100007,aU 9 1 kJ b5)]⟩) fun b5 =>
 .fin (b1,b3,b5)
def UL r:=(my r).val
theorem J0 (r:ah):(my r).cC (fun (x:(List ByteArray) × (List ByteArray) × (List ByteArray))=>x.1.length=r.bo.length∧x.2.1.length=r.bU.length∧x.2.2.length=r.aN.length):=by
 unfold my
 try simp only [ai.Small,ah.Small]
 exact ET
theorem Nd (r:ah) (hr:r.Small):(my r).a6 (fun _=>True):=by
 simp only [ai.Small,ah.Small] at hr
 unfold my
 try simp only [ai.Small,ah.Small]
 exact nF
def wA r:=kp tok mixed Tryz.func53 [av r.cells] (fun x=>.fj [lv kJ x.1,lv kJ x.2.1,lv kJ x.2.2]) false (UL r) (Nd r) (J0 r)
def ot (s:ByteArray):Sk (Bool) :=
 .br ((s.toList == (⟨#[]⟩:ByteArray).toList)||(decide (((s.size:Nat):Int) > 20)))
 (.fin false)
 (.r 3 (.al (.o [.dn (aer s)]) (.p (s.size≤maxLen))) fun _ =>
 .bt
 (.loop (default:Sum (Bool) (Unit)) (fun i2=>i2≤(nA s).length) (fun i2=>(nA s).length - i2) (0:Nat)
 (fun (i2:Nat)=>⟨[(16,iv (i2:Int))],[]⟩) fun i2 =>
 .lt 14 0 i2 ((nA s).length)
 (.r 5 (.p (bN (i2:Int) ((nA s).length))) fun _ =>
 .br ((!(((decide (((nA s).getD i2 default)≥97))&&(decide (((nA s).getD i2 default)≤122)))||((decide (((nA s).getD i2 default)≥65))&&(decide (((nA s).getD i2 default)≤90)))))&&(((i2:Int) == 0)||((((nA s).getD i2 default) != 95)&&((decide (((nA s).getD i2 default) < 48))||(decide (((nA s).getD i2 default) > 57))))))
 (.fin (.inl (.inl false)))
 (.nx 9 16 i2 (i2+1)))
 (.fin (.inl (.inr ()))))
 (fun (_:Unit)=>⟨[],[]⟩) fun _ =>
 .fin true)
def Sb s:=(ot s).val
theorem J1 (s:ByteArray):(ot s).a6 (fun _=>True):=by
 unfold ot
 exact nF
def AI s:=kk tok mixed Tryz.func95 [sv s] (fun x=>bv x) true (ot s) (Sb s) (u0 (J1 s))
def ka (s:List ByteArray) (v:ByteArray):Sk (Int) :=
 .bind true (fun b1=>∀ q,q < s.length→((s.getD q default).toList == v.toList)=false)
 (.loop (default:Sum (Int) (Unit)) (fun i2=>∀ q,q < i2→((s.getD q default).toList == v.toList)=false) (fun i2=>s.length - i2) (0:Nat)
 (fun (i2:Nat)=>⟨[(8,iv (i2:Int))],[]⟩) fun i2 =>
 .lt 0 0 i2 s.length
 (.r 4 (.p (bN (i2:Int) s.length)) fun _ =>
 .br (v.toList == (s.getD i2 default).toList)
 (.fin (.inl (.inl (i2:Int))))
 (.nx 6 8 i2 (i2+1)))
 (.fin (.inl (.inr ()))))
 (fun (_:Unit)=>⟨[],[]⟩) fun _ =>
 .fin (-1)
def Pu s v:=(ka s v).val
theorem E4 (s:List ByteArray) (v:ByteArray):(ka s v).cC (fun (x:Int)=>(x = -1∧∀ q,q < s.length→((s.getD q default).toList == v.toList)=false)∨(0≤x∧x < s.length∧((s.getD x.toNat default).toList == v.toList)=true∧∀ q,(q:Nat) < x.toNat→((s.getD q default).toList == v.toList)=false)):=by
 unfold ka
 exact ET
theorem Hj (s:List ByteArray) (v:ByteArray):(ka s v).a6 (fun _=>True):=by
 unfold ka
 exact nF
def sE s v:=kp tok mixed Tryz.func118 [lv kJ s,sv v] (fun x=>iv x) true (Pu s v) (u0 (Hj s v)) (E4 s v)
def gJ (s:List ByteArray) (v:ByteArray):Sk (Bool) :=
 .r 1 ((sE s v).c) fun x1 =>
 .fin (decide (x1≥0))
def Hk s v:=(gJ s v).val
theorem AJ (s:List ByteArray) (v:ByteArray):(gJ s v).cC (fun (x:Bool)=>(x=true↔∃ q,q < s.length∧((s.getD q default).toList == v.toList)=true)):=by
 unfold gJ
 try simp only [sE]
 exact ET
theorem B5 (s:List ByteArray) (v:ByteArray):(gJ s v).a6 (fun _=>True):=by
 unfold gJ
 try simp only [sE]
 exact od
def uy s v:=kp tok mixed Tryz.func96 [lv kJ s,sv v] (fun x=>bv x) true (Hk s v) (u0 (B5 s v)) (AJ s v)
def pU (names:List ByteArray) (i:Int):Sk (Int) :=
 .r 1 (.al (.p (bN i names.length)) ((AI (names.getD i.toNat default)).c)) fun x1 =>
 .br (!x1)
 (.fin 2)
 (.r 3 (.al (.al (.o [.dn (aa0 JI names 0 i.toNat)]) (.pt (0≤i∧i≤((names.length:Nat):Int)) (JI.lens names))) (.al (.p (bN i names.length)) ((uy (fa names 0 i.toNat) (names.getD i.toNat default)).c))) fun x2 =>
 .br x2
 (.fin 5)
 (.fin 0))
def UM names i:=(pU names i).val
theorem Nf (names:List ByteArray) (i:Int) (hi:0≤i∧i < (names.length:Int)):(pU names i).a6 (fun _=>True):=by
 unfold pU
 try simp only [AI,uy]
 exact nF
def eG names i:=kk tok mixed Tryz.func81 [lv kJ names,iv i] (fun x=>iv x) true (pU names i) (UM names i) (Nf names i)
def lX (p:Int):Sk (Bool) :=
 .fin true
def AK p:=(lX p).val
theorem E5 (p:Int):AK p=true:=rfl
theorem E6 (p:Int):(lX p).a6 (fun _=>True):=by
 unfold lX
 exact od
def xD p:=kk tok mixed Tryz.func55 [iv p] (fun x=>bv x) true (lX p) (AK p) (u0 (E6 p))
def m4 (names:List ByteArray) (cK:Int):Sk (Int) :=
 .br (decide (((names.length:Nat):Int) > cK))
 (.fin 6)
 (.bt
 (.loop (default:Sum (Int) (Unit)) (fun i2=>i2≤names.length) (fun i2=>names.length - i2) (0:Nat)
 (fun (i2:Nat)=>⟨[(15,iv (i2:Int))],[]⟩) fun i2 =>
 .lt 0 0 i2 names.length
 (.r 6 ((eG names (i2:Int)).c) fun x3 =>
 .br (x3 != 0)
 (.fin (.inl (.inl x3)))
 (.r 9 ((xD (i2:Int)).c) fun x4 =>
 .br (!x4)
 (.fin (.inl (.inl 1)))
 (.nx 11 15 i2 (i2+1))))
 (.fin (.inl (.inr ()))))
 (fun (_:Unit)=>⟨[],[]⟩) fun _ =>
 .fin 0)
def Pv names cK:=(m4 names cK).val
theorem Hl (names:List ByteArray) (cK:Int):(m4 names cK).a6 (fun _=>True):=by
 unfold m4
 try simp only [xD,eG,E5]
 exact GD
def sF names cK:=kk tok mixed Tryz.func54 [lv kJ names,iv cK,.fn 55 []] (fun x=>iv x) true (m4 names cK) (Pv names cK) (u0 (Hl names cK))
def ou (l:List Int) (low:Int) (high:Int):Sk (Bool) :=
 .bt
 (.loop (default:Sum (Bool) (Unit)) (fun i2=>i2≤l.length) (fun i2=>l.length - i2) (0:Nat)
 (fun (i2:Nat)=>⟨[(11,iv (i2:Int))],[]⟩) fun i2 =>
 .lt 0 0 i2 l.length
 (.r 3 (.p (bN (i2:Int) l.length)) fun _ =>
 .r 4 (.wh ((decide ((l.getD i2 default) < low))||(decide ((l.getD i2 default) > high))) false (.wh (decide ((i2:Int) > 0)) true (.p (bN (au ((i2:Int) - 1)) l.length)))) fun _ =>
 .br (((decide ((l.getD i2 default) < low))||(decide ((l.getD i2 default) > high)))||((decide ((i2:Int) > 0))&&(decide ((l.getD i2 default)≤(l.getD ((au ((i2:Int) - 1)).toNat) default)))))
 (.fin (.inl (.inl false)))
 (.nx 6 11 i2 (i2+1)))
 (.fin (.inl (.inr ()))))
 (fun (_:Unit)=>⟨[],[]⟩) fun _ =>
 .fin true
def Sc l low high:=(ou l low high).val
theorem J2 (l:List Int) (low:Int) (high:Int):(ou l low high).a6 (fun _=>True):=by
 unfold ou
 exact nF
def gd l low high:=kk tok mixed Tryz.func82 [lv bS l,iv low,iv high] (fun x=>bv x) true (ou l low high) (Sc l low high) (u0 (J2 l low high))
def rC (r:ah) (c_:jg):Sk (Bool) :=
 .bt
 (.loop (default:Sum (Bool) (Unit)) (fun i2=>i2≤c_.j4.length) (fun i2=>c_.j4.length - i2) (0:Nat)
 (fun (i2:Nat)=>⟨[(10,iv (i2:Int))],[]⟩) fun i2 =>
 .lt 8 0 i2 c_.j4.length
 (.r 3 (.p (bN (i2:Int) c_.j4.length)) fun _ =>
 .r 4 (.al (.p ((100:Int)≠0)) (.wh (decide (((c_.j4.getD i2 default).tmod 100) < 1)) false (.p ((100:Int)≠0)))) fun _ =>
 .br ((decide (((c_.j4.getD i2 default).tmod 100) < 1))||(decide (((c_.j4.getD i2 default).tmod 100) > 31)))
 (.fin (.inl (.inl false)))
 (.nx 6 10 i2 (i2+1)))
 (.fin (.inl (.inr ()))))
 (fun (_:Unit)=>⟨[],[]⟩) fun _ =>
 .r 7 (.dep (.wh ((decide (((c_.j4.length:Nat):Int) > 60))||(decide (((c_.shut.length:Nat):Int) > 200))) false ((cg c_.order ((r.aN.length:Nat):Int)).c)) fun x3=>.wh (((decide (((c_.j4.length:Nat):Int) > 60))||(decide (((c_.shut.length:Nat):Int) > 200)))||(!x3)) false ((cg c_.aE ((r.eJ.length:Nat):Int)).c)) fun p9 =>
 .br ((((decide (((c_.j4.length:Nat):Int) > 60))||(decide (((c_.shut.length:Nat):Int) > 200)))||(!p9.1))||(!p9.2))
 (.fin false)
 (.r 9 (.dep ((gd c_.rest 0 6).c) fun x5=>.dep (.wh x5 true ((gd c_.j4 101 1231).c)) fun x6=>.wh (x5&&x6) true ((gd c_.shut 0 100000).c)) fun p8 =>
 .fin ((p8.1&&p8.2.1)&&p8.2.2))
def WS r c_:=(rC r c_).val
theorem Pw (r:ah) (c_:jg):(rC r c_).a6 (fun _=>True):=by
 unfold rC
 try simp only [cg,gd,gb]
 exact GD
def E7 r c_:=kk tok mixed Tryz.func57 [av r.cells,av c_.cells] (fun x=>bv x) true (rC r c_) (WS r c_) (u0 (Pw r c_))
def lY (i:Int) (v:ah):Sk (Bool) :=
 .r 1 (.al (.p (bN i v.bo.length)) ((E7 v (v.bo.getD i.toNat default)).c)) fun x1 =>
 .fin x1
def Ng i v:=(lY i v).val
theorem E8 (i:Int) (v:ah) (hi:0≤i∧i < (v.bo.length:Int)):(lY i v).a6 (fun _=>True):=by
 unfold lY
 try simp only [E7]
 exact nF
def xE i v:=kk tok mixed Tryz.func56 [iv i,.ref v.cells] (fun x=>bv x) true (lY i v) (Ng i v) (E8 i v)
def m5 (names:List ByteArray) (cK:Int) (v:ah):Sk (Int) :=
 .br (decide (((names.length:Nat):Int) > cK))
 (.fin 6)
 (.bt
 (.loop (default:Sum (Int) (Unit)) (fun i2=>i2≤names.length) (fun i2=>names.length - i2) (0:Nat)
 (fun (i2:Nat)=>⟨[(15,iv (i2:Int))],[]⟩) fun i2 =>
 .lt 0 0 i2 names.length
 (.r 6 ((eG names (i2:Int)).c) fun x3 =>
 .br (x3 != 0)
 (.fin (.inl (.inl x3)))
 (.r 9 ((xE (i2:Int) v).c) fun x4 =>
 .br (!x4)
 (.fin (.inl (.inl 1)))
 (.nx 11 15 i2 (i2+1))))
 (.fin (.inl (.inr ()))))
 (fun (_:Unit)=>⟨[],[]⟩) fun _ =>
 .fin 0)
def Px names cK v:=(m5 names cK v).val
theorem Hm (names:List ByteArray) (cK:Int) (v:ah) (hv:names.length≤v.bo.length):(m5 names cK v).a6 (fun _=>True):=by
 unfold m5
 try simp only [xE,eG]
 exact nF
def sG names cK v:=kk tok mixed Tryz.func54 [lv kJ names,iv cK,.fn 56 [.ref v.cells]] (fun x=>iv x) true (m5 names cK v) (Px names cK v) (Hm names cK v)
def jm (i:Int) (v:ah):Sk (Bool) :=
 .r 1 (.al (.p (bN i v.bU.length)) (.dep ((cg ((v.bU.getD i.toNat default).bK) ((v.bo.length:Nat):Int)).c) fun x1=>.al (.wh x1 true (.p (bN i v.bU.length))) (.wh x1 true ((cg ((v.bU.getD i.toNat default).group) ((v.oW.length:Nat):Int)).c)))) fun p3 =>
 .fin (p3.1&&p3.2)
def mz i v:=(jm i v).val
theorem uz (i:Int) (v:ah):(jm i v).cC (fun (x:Bool)=>x=true→0≤(v.bU.getD i.toNat default).bK∧(v.bU.getD i.toNat default).bK < (v.bo.length:Int)):=by
 unfold jm
 try simp only [cg,gb]
 exact X9
theorem B6 (i:Int) (v:ah):(fun (x:Bool)=>x=true→0≤(v.bU.getD i.toNat default).bK∧(v.bU.getD i.toNat default).bK < (v.bo.length:Int)) (mz i v):=have h:=Sk.cI _ (uz i v); h
theorem E9 (i:Int) (v:ah) (hi:0≤i∧i < (v.bU.length:Int)):(jm i v).a6 (fun _=>True):=by
 unfold jm
 try simp only [cg,gb]
 exact GD
def qX i v:=kp tok mixed Tryz.func59 [iv i,.ref v.cells] (fun x=>bv x) true (mz i v) (E9 i v) (uz i v)
def kb (names:List ByteArray) (cK:Int) (v:ah):Sk (Int) :=
 .br (decide (((names.length:Nat):Int) > cK))
 (.fin 6)
 (.bind true (fun b1=>∀ q,q < names.length→mz ((q:Nat):Int) v=true)
 (.loop (default:Sum (Int) (Unit)) (fun i2=>i2≤names.length∧∀ q,q < i2→mz ((q:Nat):Int) v=true) (fun i2=>names.length - i2) (0:Nat)
 (fun (i2:Nat)=>⟨[(15,iv (i2:Int))],[]⟩) fun i2 =>
 .lt 0 0 i2 names.length
 (.r 6 ((eG names (i2:Int)).c) fun x3 =>
 .br (x3 != 0)
 (.fin (.inl (.inl x3)))
 (.r 9 ((qX (i2:Int) v).c) fun x4 =>
 .br (!x4)
 (.fin (.inl (.inl 1)))
 (.nx 11 15 i2 (i2+1))))
 (.fin (.inl (.inr ()))))
 (fun (_:Unit)=>⟨[],[]⟩) fun _ =>
 .fin 0)
def Py names cK v:=(kb names cK v).val
theorem Fa (names:List ByteArray) (cK:Int) (v:ah):(kb names cK v).cC (fun (x:Int)=>x=0→(names.length:Int)≤cK∧∀ q,q < names.length→mz ((q:Nat):Int) v=true):=by
 refine Sk.aP _ ?_
 unfold kb
 simp only [Sk.ct,Sk.aA,reduceCtorEq,ON,kk,kp,qX,eG,maxLen]
 all_goals (repeat' first | assumption | (apply And.intro) | (intro h))
 all_goals first | trivial | assumption | omega | ((try simp only [LN] at *) <;> first | omega | (refine (ar ?_ ?_).trans ?_ <;> omega) | (simp (disch:=omega) only [ar] at *; omega) | (grind) | (simp_all; done) | (simp_all; omega))
theorem Hn (names:List ByteArray) (cK:Int) (v:ah) (hv:names.length≤v.bU.length):(kb names cK v).a6 (fun _=>True):=by
 refine Sk.aG _ ?_
 unfold kb
 simp only [Sk.gL,Sk.aA,reduceCtorEq,ON,kk,kp,qX,eG,maxLen]
 all_goals (repeat' first | assumption | (apply And.intro) | (intro h))
 all_goals first | trivial | assumption | omega | ((try simp only [LN] at *) <;> first | omega | (refine (ar ?_ ?_).trans ?_ <;> omega) | (simp (disch:=omega) only [ar] at *; omega) | (grind) | (simp_all; done) | (simp_all; omega))
def sH names cK v:=kp tok mixed Tryz.func54 [lv kJ names,iv cK,.fn 59 [.ref v.cells]] (fun x=>iv x) true (Py names cK v) (Hn names cK v) (Fa names cK v)
def mA (o:Order):Sk (Bool) :=
 .bind true (fun b1=>b1.length≤o.bG.length∧(∀ j,j < o.bG.length→0≤(o.bG.getD j default).cz∧(o.bG.getD j default).cz < 5))
 (.loop (default:Sum (Bool) ((List Int))) (fun i2=>i2.2≤o.bG.length∧i2.1.length≤i2.2∧(∀ j,j < i2.2→0≤(o.bG.getD j default).cz∧(o.bG.getD j default).cz < 5)) (fun i2=>o.bG.length - i2.2) (([],0):(List Int) × Nat)
 (fun (i2:(List Int) × Nat)=>⟨[(3,ow 100002 i2.1),(12,iv (i2.2:Int))],[(100002,aU 3 1 bS i2.1)]⟩) fun i2 =>
 .lt 10 0 i2.2 o.bG.length
 (.r 4 (.p (bN (i2.2:Int) o.bG.length)) fun _ =>
 .r 5 (.al (.o [.dn (dH dV [(o.bG.getD i2.2 default).ask])]) (.al (.o [.dn (kE dV i2.1 [(o.bG.getD i2.2 default).ask])]) (.al (.t (dV.mT [(o.bG.getD i2.2 default).ask])) (.p (vE i2.1.length [(o.bG.getD i2.2 default).ask].length 8))))) fun _ =>
 .r 6 ((cg ((o.bG.getD i2.2 default).cz) 5).c) fun x3 =>
 .br (!x3)
 (.fin (.inl (.inl false)))
 (.nx 8 12 i2.2 (i2.1++[(o.bG.getD i2.2 default).ask],i2.2+1)))
 (.fin (.inl (.inr i2.1))))
 (fun (b1:(List Int))=>⟨[(3,ow 100001 b1)],[(100001,aU 3 1 bS b1)]⟩) fun b1 =>
 .bind true (fun b4=>b4.length≤0+o.rules.length)
 (.loop (default:Sum (Bool) ((List Int))) (fun i5=>i5.2≤o.rules.length∧i5.1.length≤0+i5.2) (fun i5=>o.rules.length - i5.2) (([],0):(List Int) × Nat)
 (fun (i5:(List Int) × Nat)=>⟨[(4,ow 100005 i5.1),(29,iv (i5.2:Int))],[(100005,aU 3 1 bS i5.1)]⟩) fun i5 =>
 .lt 27 0 i5.2 o.rules.length
 (.r 11 (.p (bN (i5.2:Int) o.rules.length)) fun _ =>
 .r 12 (.al (.o [.dn (dH dV [(o.rules.getD i5.2 default).ask])]) (.al (.o [.dn (kE dV i5.1 [(o.rules.getD i5.2 default).ask])]) (.al (.t (dV.mT [(o.rules.getD i5.2 default).ask])) (.p (vE i5.1.length [(o.rules.getD i5.2 default).ask].length 8))))) fun _ =>
 .nx 13 29 i5.2 (i5.1++[(o.rules.getD i5.2 default).ask],i5.2+1))
 (.fin (.inl (.inr i5.1))))
 (fun (b4:(List Int))=>⟨[(4,ow 100004 b4)],[(100004,aU 3 1 bS b4)]⟩) fun b4 =>
 .r 14 (.dep ((gd b1 0 21).c) fun x6=>.wh x6 true ((gd b4 0 21).c)) fun p8 =>
 .fin (p8.1&&p8.2)
def UN o:=(mA o).val
theorem J3 (o:Order):(mA o).cC (fun (x:Bool)=>x=true→(∀ j,j < o.bG.length→0≤(o.bG.getD j default).cz∧(o.bG.getD j default).cz < 5)):=by
 unfold mA
 try simp only [cg,gd,gb]
 exact X9
theorem Nh (o:Order) (ho:o.bG.length≤1000000∧o.rules.length≤1000000):(mA o).a6 (fun _=>True):=by
 unfold mA
 try simp only [cg,gd,gb]
 exact GD
def wB o:=kp tok mixed Tryz.func61 [av o.cells] (fun x=>bv x) true (UN o) (Nh o) (J3 o)
def jo (i:Int) (v:ah):Sk (Bool) :=
 .r 1 (.al (.p (bN i v.aN.length)) ((wB (v.aN.getD i.toNat default)).c)) fun x1 =>
 .fin x1
def mB i v:=(jo i v).val
theorem uA (i:Int) (v:ah):(jo i v).cC (fun (x:Bool)=>x=true→∀ j,j < (v.aN.getD i.toNat default).bG.length→0≤((v.aN.getD i.toNat default).bG.getD j default).cz∧((v.aN.getD i.toNat default).bG.getD j default).cz < 5):=by
 unfold jo
 try simp only [wB,ai.Small,ah.Small]
 exact ET
theorem B7 (i:Int) (v:ah):(fun (x:Bool)=>x=true→∀ j,j < (v.aN.getD i.toNat default).bG.length→0≤((v.aN.getD i.toNat default).bG.getD j default).cz∧((v.aN.getD i.toNat default).bG.getD j default).cz < 5) (mB i v):=have h:=Sk.cI _ (uA i v); h
theorem Fb (i:Int) (v:ah) (hi:0≤i∧i < (v.aN.length:Int)) (hv:v.Small):(jo i v).a6 (fun _=>True):=by
 simp only [ai.Small,ah.Small] at hv
 unfold jo
 try simp only [wB,ai.Small,ah.Small]
 exact nF
def qY i v:=kp tok mixed Tryz.func60 [iv i,.ref v.cells] (fun x=>bv x) true (mB i v) (u2 (Fb i v)) (uA i v)
def kd (names:List ByteArray) (cK:Int) (v:ah):Sk (Int) :=
 .br (decide (((names.length:Nat):Int) > cK))
 (.fin 6)
 (.bind true (fun b1=>∀ q,q < names.length→mB ((q:Nat):Int) v=true)
 (.loop (default:Sum (Int) (Unit)) (fun i2=>i2≤names.length∧∀ q,q < i2→mB ((q:Nat):Int) v=true) (fun i2=>names.length - i2) (0:Nat)
 (fun (i2:Nat)=>⟨[(15,iv (i2:Int))],[]⟩) fun i2 =>
 .lt 0 0 i2 names.length
 (.r 6 ((eG names (i2:Int)).c) fun x3 =>
 .br (x3 != 0)
 (.fin (.inl (.inl x3)))
 (.r 9 ((qY (i2:Int) v).c) fun x4 =>
 .br (!x4)
 (.fin (.inl (.inl 1)))
 (.nx 11 15 i2 (i2+1))))
 (.fin (.inl (.inr ()))))
 (fun (_:Unit)=>⟨[],[]⟩) fun _ =>
 .fin 0)
def Pz names cK v:=(kd names cK v).val
theorem Fc (names:List ByteArray) (cK:Int) (v:ah):(kd names cK v).cC (fun (x:Int)=>x=0→(names.length:Int)≤cK∧∀ q,q < names.length→mB ((q:Nat):Int) v=true):=by
 refine Sk.aP _ ?_
 unfold kd
 simp only [Sk.ct,Sk.aA,reduceCtorEq,ON,kk,kp,qY,eG,ai.Small,ah.Small,maxLen]
 all_goals (repeat' first | assumption | (apply And.intro) | (intro h))
 all_goals first | trivial | assumption | omega | ((try simp only [LN] at *) <;> first | omega | (refine (ar ?_ ?_).trans ?_ <;> omega) | (simp (disch:=omega) only [ar] at *; omega) | (grind) | (simp_all; done) | (simp_all; omega))
theorem Ho (names:List ByteArray) (cK:Int) (v:ah) (hv:names.length≤v.aN.length) (hs:v.Small):(kd names cK v).a6 (fun _=>True):=by
 simp only [ai.Small,ah.Small] at hs
 refine Sk.aG _ ?_
 unfold kd
 simp only [Sk.gL,Sk.aA,reduceCtorEq,ON,kk,kp,qY,eG,ai.Small,ah.Small,maxLen]
 all_goals (repeat' first | assumption | (apply And.intro) | (intro h))
 all_goals first | trivial | assumption | omega | ((try simp only [LN] at *) <;> first | omega | (refine (ar ?_ ?_).trans ?_ <;> omega) | (simp (disch:=omega) only [ar] at *; omega) | (grind) | (simp_all; done) | (simp_all; omega))
def sI names cK v:=kp tok mixed Tryz.func54 [lv kJ names,iv cK,.fn 60 [.ref v.cells]] (fun x=>iv x) true (Pz names cK v) (u2 (Ho names cK v)) (Fc names cK v)
def m6 (r:ah):Sk (Int) :=
 .br (decide (((r.bR.length:Nat):Int) > 100))
 (.fin 6)
 (.bt
 (.loop (default:Sum (Int) (Unit)) (fun i2=>i2≤r.bR.length) (fun i2=>r.bR.length - i2) (0:Nat)
 (fun (i2:Nat)=>⟨[(14,iv (i2:Int))],[]⟩) fun i2 =>
 .lt 12 0 i2 r.bR.length
 (.bt
 (.r 5 (.p (bN (i2:Int) r.bR.length)) fun _ =>
 .r 6 (.dep ((cg ((r.bR.getD i2 default).from_) ((r.bo.length:Nat):Int)).c) fun x4=>.wh (!x4) false ((cg ((r.bR.getD i2 default).cw) ((r.bo.length:Nat):Int)).c)) fun p8 =>
 .br ((((!p8.1)||(!p8.2))||(decide (((r.bR.getD i2 default).days) < 1)))||(decide (((r.bR.getD i2 default).days) > 20000)))
 (.fin (.inl (.inl (.inl 1))))
 (.r 8 (.al (.o [.dn (aa0 eI.E r.bR 0 i2)]) (.pt (0≤(i2:Int)∧(i2:Int)≤((r.bR.length:Nat):Int)) (eI.E.lens r.bR))) fun _ =>
 .bt
 (.loop (default:Sum (Sum (Sum (Sum (Int) (Unit)) (Nat)) (Int × Int × eI × Int × (List jg) × Int × Bool × Bool × Bool × Bool × Bool × Bool × Bool × Bool × (List eI) × Int × (List eI) × Int × Int × Bool)) (Int × Bool)) (fun i7=>i7≤(fa r.bR 0 i2).length) (fun i7=>(fa r.bR 0 i2).length - i7) (0:Nat)
 (fun (i7:Nat)=>⟨[(50,iv (i7:Int))],[]⟩) fun i7 =>
 .lt 48 0 i7 ((fa r.bR 0 i2).length)
 (.r 10 (.p (bN (i7:Int) ((fa r.bR 0 i2).length))) fun _ =>
 .br (((((fa r.bR 0 i2).getD i7 default).from_) == ((r.bR.getD i2 default).from_))&&((((fa r.bR 0 i2).getD i7 default).cw) == ((r.bR.getD i2 default).cw)))
 (.fin (.inl (.inl (.inl (.inl (.inl 5))))))
 (.nx 13 50 i7 (i7+1)))
 (.fin (.inl (.inr ((i7:Int),decide ((i7:Int) < (((fa r.bR 0 i2).length:Nat):Int)))))))
 (fun (b6:Int × Bool)=>⟨[(50,iv b6.1),(51,bv b6.2)],[]⟩) fun b6 =>
 .fin (.inr ((i2:Int),(i2:Int),r.bR.getD i2 default,(r.bR.getD i2 default).from_,r.bo,((r.bo.length:Nat):Int),p8.1,!p8.1,!p8.1,(!p8.1)||(!p8.2),(!p8.1)||(!p8.2),((!p8.1)||(!p8.2))||(decide (((r.bR.getD i2 default).days) < 1)),((!p8.1)||(!p8.2))||(decide (((r.bR.getD i2 default).days) < 1)),(((!p8.1)||(!p8.2))||(decide (((r.bR.getD i2 default).days) < 1)))||(decide (((r.bR.getD i2 default).days) > 20000)),r.bR,(i2:Int),fa r.bR 0 i2,(((fa r.bR 0 i2).length:Nat):Int),b6.1,b6.2))))
 (fun (b3:Int × Int × eI × Int × (List jg) × Int × Bool × Bool × Bool × Bool × Bool × Bool × Bool × Bool × (List eI) × Int × (List eI) × Int × Int × Bool)=>⟨[(3,iv b3.1),(16,iv b3.2.1),(18,av b3.2.2.1.cells),(20,iv b3.2.2.2.1),(22,lv jg.cells b3.2.2.2.2.1),(23,iv b3.2.2.2.2.2.1),(24,bv b3.2.2.2.2.2.2.1),(25,bv b3.2.2.2.2.2.2.2.1),(26,bv b3.2.2.2.2.2.2.2.2.1),(34,bv b3.2.2.2.2.2.2.2.2.2.1),(35,bv b3.2.2.2.2.2.2.2.2.2.2.1),(39,bv b3.2.2.2.2.2.2.2.2.2.2.2.1),(40,bv b3.2.2.2.2.2.2.2.2.2.2.2.2.1),(44,bv b3.2.2.2.2.2.2.2.2.2.2.2.2.2.1),(46,lv eI.cells b3.2.2.2.2.2.2.2.2.2.2.2.2.2.2.1),(47,iv b3.2.2.2.2.2.2.2.2.2.2.2.2.2.2.2.1),(48,lv eI.cells b3.2.2.2.2.2.2.2.2.2.2.2.2.2.2.2.2.1),(49,iv b3.2.2.2.2.2.2.2.2.2.2.2.2.2.2.2.2.2.1),(50,iv b3.2.2.2.2.2.2.2.2.2.2.2.2.2.2.2.2.2.2.1),(51,bv b3.2.2.2.2.2.2.2.2.2.2.2.2.2.2.2.2.2.2.2)],[]⟩) fun _ =>
 .nx 14 14 i2 (i2+1))
 (.fin (.inl (.inr ()))))
 (fun (_:Unit)=>⟨[],[]⟩) fun _ =>
 .fin 0)
def PA r:=(m6 r).val
theorem Hp (r:ah):(m6 r).a6 (fun _=>True):=by
 unfold m6
 try simp only [cg,gb]
 exact GD
def sJ r:=kk tok mixed Tryz.func62 [av r.cells] (fun x=>iv x) true (m6 r) (PA r) (u0 (Hp r))
theorem LG {n:Int} (h : -9223372036854775808≤n∧n≤9223372036854775807) (h0:0≤au (n - 1)) (h1:au (n - 1) < 1073741824):1≤n∧n≤1073741824:=by
 by_cases e:n = -9223372036854775808
 ·subst e
  have:au (-9223372036854775808 - 1)=9223372036854775807:=by decide
  omega
 ·rw [ar (by omega) (by omega)] at h0 h1
  omega
def nP (r:ah):Sk (Int) :=
 .br (decide (((r.aI.length:Nat):Int) > 100))
 (.fin 6)
 (.bind true (fun b1=>(∀ x,x∈r.aI→(-9223372036854775808≤x.num∧x.num≤9223372036854775807)∧(-9223372036854775808≤x.den∧x.den≤9223372036854775807))→r.cp)
 (.loop (default:Sum (Int) (Unit)) (fun i2=>i2≤r.aI.length∧((∀ x,x∈r.aI→(-9223372036854775808≤x.num∧x.num≤9223372036854775807)∧(-9223372036854775808≤x.den∧x.den≤9223372036854775807))→(∀ i,i < i2→(1≤(r.aI.getD i default).num∧(r.aI.getD i default).num≤1073741824)∧1≤(r.aI.getD i default).den∧(r.aI.getD i default).den≤1073741824))) (fun i2=>r.aI.length - i2) (0:Nat)
 (fun (i2:Nat)=>⟨[(14,iv (i2:Int))],[]⟩) fun i2 =>
 .lt 12 0 i2 r.aI.length
 (.r 5 (.p (bN (i2:Int) r.aI.length)) fun _ =>
 .r 6 (.dep ((cg ((r.aI.getD i2 default).from_) ((r.eJ.length:Nat):Int)).c) fun x3=>.dep (.wh (!x3) false ((cg ((r.aI.getD i2 default).cw) ((r.eJ.length:Nat):Int)).c)) fun x4=>.dep (.wh (((!x3)||(!x4))||(((r.aI.getD i2 default).from_) == ((r.aI.getD i2 default).cw))) false ((cg (au (((r.aI.getD i2 default).num) - 1)) 1073741824).c)) fun x5=>.dep (.wh ((((!x3)||(!x4))||(((r.aI.getD i2 default).from_) == ((r.aI.getD i2 default).cw)))||(!x5)) false ((cg (au (((r.aI.getD i2 default).den) - 1)) 1073741824).c)) fun x6=>.wh (((((!x3)||(!x4))||(((r.aI.getD i2 default).from_) == ((r.aI.getD i2 default).cw)))||(!x5))||(!x6)) false ((cg ((r.aI.getD i2 default).since) 100001).c)) fun p8 =>
 .br ((((((!p8.1)||(!p8.2.1))||(((r.aI.getD i2 default).from_) == ((r.aI.getD i2 default).cw)))||(!p8.2.2.1))||(!p8.2.2.2.1))||(!p8.2.2.2.2))
 (.fin (.inl (.inl 1)))
 (.nx 8 14 i2 (i2+1)))
 (.fin (.inl (.inr ()))))
 (fun (_:Unit)=>⟨[],[]⟩) fun _ =>
 .br (decide (((r.gq.length:Nat):Int) > 20))
 (.fin 6)
 (.bind true (fun b9=>r.fb)
 (.loop (default:Sum (Int) (Unit)) (fun i10=>(∀ i,i < i10→(r.gq.getD i default).cw≤100000)∧i10≤r.gq.length) (fun i10=>r.gq.length - i10) (0:Nat)
 (fun (i10:Nat)=>⟨[(69,iv (i10:Int))],[]⟩) fun i10 =>
 .lt 67 0 i10 r.gq.length
 (.r 13 (.p (bN (i10:Int) r.gq.length)) fun _ =>
 .r 14 ((cg ((r.gq.getD i10 default).order) ((r.aN.length:Nat):Int)).c) fun Zz =>
 .br ((((!Zz)||(decide (((r.gq.getD i10 default).from_) < 0)))||(decide (((r.gq.getD i10 default).from_) > ((r.gq.getD i10 default).cw))))||(decide (((r.gq.getD i10 default).cw) > 100000)))
 (.fin (.inl (.inl 1)))
 (.nx 16 69 i10 (i10+1)))
 (.fin (.inl (.inr ()))))
 (fun (_:Unit)=>⟨[],[]⟩) fun _ =>
 .fin 0))
def WT r:=(nP r).val
theorem Ni (r:ah):(nP r).cC (fun (x:Int)=>x=0→r.fb∧((∀ x,x∈r.aI→(-9223372036854775808≤x.num∧x.num≤9223372036854775807)∧(-9223372036854775808≤x.den∧x.den≤9223372036854775807))→r.cp)):=by
 refine Sk.aP _ ?_
 unfold nP
 simp only [Sk.ct,Sk.aA,reduceCtorEq,ON,kk,kp,cg,gb,forall_eq,ah.fb,ah.cp,maxLen]
 refine ⟨fun _ e=>absurd e (by omega),fun _=>⟨⟨⟨Nat.zero_le _,fun _ q hq=>absurd hq (by omega)⟩,fun i hi=>⟨fun hc _=>⟨fun _ e=>absurd e (by omega),fun hx _=>⟨⟨?_,fun hw q hq=>?_⟩,?_⟩⟩,fun hc hw=>?_⟩⟩,fun b hb=>⟨fun _ e=>absurd e (by omega),fun _=>⟨⟨⟨fun q hq=>absurd hq (by omega),Nat.zero_le _⟩,fun i hi=>⟨fun hc _=>⟨fun _ e=>absurd e (by omega),fun hx _=>⟨⟨fun q hq=>?_,?_⟩,?_⟩⟩,fun hc=>?_⟩⟩,fun b2 Ez=>?_⟩⟩⟩⟩
 all_goals try simp only [LN] at hc
 ·omega
 ·rcases Nat.lt_succ_iff_lt_or_eq.1 hq with h1 | rfl
  ·exact hi.2 hw q h1
  ·simp only [LN] at hx
   have h2:=hw _ (gH (show q < r.aI.length by omega) default)
   have a1:0≤au ((r.aI.getD q default).num - 1)∧au ((r.aI.getD q default).num - 1) < 1073741824:=by omega
   have a2:0≤au ((r.aI.getD q default).den - 1)∧au ((r.aI.getD q default).den - 1) < 1073741824:=by omega
   exact ⟨LG h2.1 a1.1 a1.2,LG h2.2 a2.1 a2.2⟩
 ·omega
 ·have e:i=r.aI.length:=by omega
  rw [e] at hi
  exact hi.2 hw
 ·rcases Nat.lt_succ_iff_lt_or_eq.1 hq with h1 | rfl
  ·exact hi.1 q h1
  ·simp only [LN] at hx; omega
 ·omega
 ·omega
 ·have e:i=r.gq.length:=by omega
  rw [e] at hi
  exact hi.1
 ·exact ⟨Ez,hb⟩
theorem PB (r:ah):(nP r).a6 (fun _=>True):=by
 refine Sk.aG _ ?_
 unfold nP
 simp only [Sk.gL,Sk.aA,reduceCtorEq,ON,kk,kp,cg,gb,forall_eq,ah.fb,ah.cp,maxLen]
 intro _
 refine ⟨⟨⟨Nat.zero_le _,fun _ q hq=>absurd hq (by omega)⟩,fun i hi hm=>⟨fun hc=>⟨?_,fun _ hx _=>⟨?_,⟨?_,fun hw q hq=>?_⟩,?_⟩⟩,fun hc hw=>?_⟩⟩,fun b hb _=>⟨⟨fun q hq=>absurd hq (by omega),Nat.zero_le _⟩,fun i hi hm=>⟨fun hc=>⟨?_,fun _ hx _=>⟨?_,⟨fun q hq=>?_,?_⟩,?_⟩⟩,fun hc=>?_⟩⟩⟩
 all_goals simp only [LN] at hc
 ·omega
 ·exact (ar (by omega) (by omega)).trans (by omega)
 ·omega
 ·rcases Nat.lt_succ_iff_lt_or_eq.1 hq with h1 | rfl
  ·exact hi.2 hw q h1
  ·simp only [LN] at hx
   have h2:=hw _ (gH (show q < r.aI.length by omega) default)
   have a1:0≤au ((r.aI.getD q default).num - 1)∧au ((r.aI.getD q default).num - 1) < 1073741824:=by omega
   have a2:0≤au ((r.aI.getD q default).den - 1)∧au ((r.aI.getD q default).den - 1) < 1073741824:=by omega
   exact ⟨LG h2.1 a1.1 a1.2,LG h2.2 a2.1 a2.2⟩
 ·omega
 ·have e:i=r.aI.length:=by omega
  rw [e] at hi
  exact hi.2 hw
 ·omega
 ·exact (ar (by omega) (by omega)).trans (by omega)
 ·rcases Nat.lt_succ_iff_lt_or_eq.1 hq with h1 | rfl
  ·exact hi.1 q h1
  ·simp only [LN] at hx; omega
 ·omega
 ·omega
 ·have e:i=r.gq.length:=by omega
  rw [e] at hi
  exact hi.1
def yD r:=kp tok mixed Tryz.func63 [av r.cells] (fun x=>iv x) true (WT r) (u0 (PB r)) (Ni r)
def mC (r:ah):Sk (Int) :=
 .r 1 ((wA r).c) fun x1 =>
 .r 2 ((sF r.eJ 8).c) fun x2 =>
 .br (x2 != 0)
 (.fin x2)
 (.r 5 ((sG x1.1 40 r).c) fun x3 =>
 .br (x3 != 0)
 (.fin x3)
 (.br (decide (((r.oW.length:Nat):Int) > 20))
 (.fin 6)
 (.bt
 (.loop (default:Sum (Int) (Unit)) (fun i5=>i5≤r.oW.length) (fun i5=>r.oW.length - i5) (0:Nat)
 (fun (i5:Nat)=>⟨[(38,iv (i5:Int))],[]⟩) fun i5 =>
 .lt 36 0 i5 r.oW.length
 (.r 12 (.p (bN (i5:Int) r.oW.length)) fun _ =>
 .r 13 ((cg ((r.oW.getD i5 default).QJ) 10).c) fun x6 =>
 .br (!x6)
 (.fin (.inl (.inl 1)))
 (.nx 15 38 i5 (i5+1)))
 (.fin (.inl (.inr ()))))
 (fun (_:Unit)=>⟨[],[]⟩) fun _ =>
 .r 16 ((sH x1.2.1 200 r).c) fun x7 =>
 .br (x7 != 0)
 (.fin x7)
 (.r 19 ((sI x1.2.2 20 r).c) fun x8 =>
 .br (x8 != 0)
 (.fin x8)
 (.r 22 ((sJ r).c) fun x9 =>
 .br (x9 != 0)
 (.fin x9)
 (.r 25 ((yD r).c) fun JN =>
 .fin JN))))))
def UO r:=(mC r).val
theorem J4 (r:ah):(mC r).cC (fun (x:Int)=>x=0→r.fb∧((∀ x,x∈r.aI→(-9223372036854775808≤x.num∧x.num≤9223372036854775807)∧(-9223372036854775808≤x.den∧x.den≤9223372036854775807))→r.cp)∧r.bD∧r.fD∧r.bU.length≤200):=by
 refine Sk.aP _ ?_
 unfold mC
 simp only [Sk.ct,Sk.aA,reduceCtorEq,ON,kk,kp,sF,sG,sH,sI,cg,wA,yD,sJ,gb,forall_eq,maxLen]
 intro hn
 have no:∀ {x:Int} {P:Prop},(x != 0)=true→x=0→P:=fun h e=>by rw [e] at h; cases h
 refine ⟨fun h e=>no h e,fun _=>⟨fun h e=>no h e,fun _=>⟨fun _ e=>absurd e (by omega),fun _=>⟨⟨Nat.zero_le _,fun i hi hc _=>⟨fun _ e=>absurd e (by omega),fun _ _=>⟨by simp only [LN] at hc; omega,by simp only [LN] at hc; omega⟩⟩⟩,fun _ h59=>⟨fun h e=>no h e,fun c59 h60=>⟨fun h e=>no h e,fun c60=>⟨fun h e=>no h e,fun _ hr e=>?_⟩⟩⟩⟩⟩⟩⟩
 have f59:=h59 (by simpa using c59)
 have f60:=h60 (by simpa using c60)
 have hr2:=hr e
 refine ⟨hr2.1,hr2.2,fun i j hi hj=>?_,fun i hi=>?_,by omega⟩
 ·have:=B7 ((i:Nat):Int) r (f60.2 i (by omega)) j
  rw [Int.toNat_natCast] at this
  exact this hj
 ·have:=B6 ((i:Nat):Int) r (f59.2 i (by omega))
  rw [Int.toNat_natCast] at this
  exact this
theorem Nj (r:ah) (hr:r.Small):(mC r).a6 (fun _=>True):=by
 refine Sk.aG _ ?_
 unfold mC
 simp only [Sk.gL,Sk.aA,reduceCtorEq,ON,kk,kp,sF,sG,sH,sI,cg,wA,yD,sJ,gb,forall_eq,maxLen]
 all_goals (repeat' first | assumption | (apply And.intro) | (intro h))
 all_goals first | trivial | assumption | omega | ((try simp only [LN] at *) <;> first | omega | (refine (ar ?_ ?_).trans ?_ <;> omega) | (simp (disch:=omega) only [ar] at *; omega) | (grind) | (simp_all; done) | (simp_all; omega))
def fT r:=kp tok mixed Tryz.func27 [av r.cells] (fun x=>iv x) true (UO r) (Nj r) (J4 r)
def ov (r:ah) (bK:Int):Sk (Bool) :=
 .fin ((decide (bK≥0))&&(decide (bK < ((r.bo.length:Nat):Int))))
def Fe r bK:=(ov r bK).val
theorem zw (r:ah) (bK:Int):Fe r bK=((decide (bK≥0))&&(decide (bK < ((r.bo.length:Nat):Int)))):=rfl
theorem J5 (r:ah) (bK:Int):(ov r bK).a6 (fun _=>True):=by
 unfold ov
 exact od
def pV r bK:=kk tok mixed Tryz.func139 [av r.cells,iv bK] (fun x=>bv x) true (ov r bK) (Fe r bK) (u0 (J5 r bK))
def pW (n:Int):Sk (Bool) :=
 .fin ((decide (n≥0))&&(decide (n≤100000)))
def Jd n:=(pW n).val
theorem AL (n:Int):Jd n=((decide (n≥0))&&(decide (n≤100000))):=rfl
theorem Nk (n:Int):(pW n).a6 (fun _=>True):=by
 unfold pW
 exact od
def nQ n:=kk tok mixed Tryz.func140 [iv n] (fun x=>bv x) true (pW n) (Jd n) (u0 (Nk n))
def oz (t:qG):Sk (Bool) :=
 .fin ((t.kind == 0)||(t.kind == 1))
def Ff t:=(oz t).val
theorem zx (t:qG):Ff t=((t.kind == 0)||(t.kind == 1)):=rfl
theorem J6 (t:qG):(oz t).a6 (fun _=>True):=by
 unfold oz
 exact od
def uB t:=kk tok mixed Tryz.func141 [av t.cells] (fun x=>bv x) true (oz t) (Ff t) (u0 (J6 t))
def jq (day:Int):Sk (Bool) :=
 .fin ((decide ((0:Int)≤day))&&(decide (day≤100000)))
def eK day:=(jq day).val
theorem pX (day:Int):eK day=((decide ((0:Int)≤day))&&(decide (day≤100000))):=rfl
theorem Fg (day:Int):(jq day).a6 (fun _=>True):=by
 unfold jq
 exact od
def fH day:=kk tok mixed Tryz.func202 [iv day] (fun x=>bv x) true (jq day) (eK day) (u0 (Fg day))
theorem Fh (day:Int):eC Tryz.prog 202 [iv day] [] (bv (eK day)) []:=(fH day).pf trivial
def lZ (day:Int):Sk (Int × Int × Int) :=
 .r 2 (.al (.p ((146097:Int)≠0)) (.p ((146097:Int)≠0))) fun _ =>
 .r 3 (.al (.p ((1460:Int)≠0)) (.al (.p ((36524:Int)≠0)) (.al (.p ((146096:Int)≠0)) (.p ((365:Int)≠0))))) fun _ =>
 .r 4 (.al (.p ((4:Int)≠0)) (.p ((100:Int)≠0))) fun _ =>
 .r 5 (.p ((153:Int)≠0)) fun _ =>
 .r 6 (.p ((5:Int)≠0)) fun _ =>
 .bind false (fun _=>True)
 (.br (decide ((au ((au ((au ((au ((5:Int) * (au (((au (day+730425)).tmod 146097) - (au ((au ((au ((365:Int) * (au ((au ((au ((au (((au (day+730425)).tmod 146097) - (au (((au (day+730425)).tmod 146097).tdiv 1460))))+(au (((au (day+730425)).tmod 146097).tdiv 36524)))) - (au (((au (day+730425)).tmod 146097).tdiv 146096)))).tdiv 365))))+(au ((au ((au ((au ((au (((au (day+730425)).tmod 146097) - (au (((au (day+730425)).tmod 146097).tdiv 1460))))+(au (((au (day+730425)).tmod 146097).tdiv 36524)))) - (au (((au (day+730425)).tmod 146097).tdiv 146096)))).tdiv 365)).tdiv 4)))) - (au ((au ((au ((au ((au (((au (day+730425)).tmod 146097) - (au (((au (day+730425)).tmod 146097).tdiv 1460))))+(au (((au (day+730425)).tmod 146097).tdiv 36524)))) - (au (((au (day+730425)).tmod 146097).tdiv 146096)))).tdiv 365)).tdiv 100))))))))+2)).tdiv 153))+3)) > 12))
 (.fin (.inr (au ((au ((au ((au ((au ((5:Int) * (au (((au (day+730425)).tmod 146097) - (au ((au ((au ((365:Int) * (au ((au ((au ((au (((au (day+730425)).tmod 146097) - (au (((au (day+730425)).tmod 146097).tdiv 1460))))+(au (((au (day+730425)).tmod 146097).tdiv 36524)))) - (au (((au (day+730425)).tmod 146097).tdiv 146096)))).tdiv 365))))+(au ((au ((au ((au ((au (((au (day+730425)).tmod 146097) - (au (((au (day+730425)).tmod 146097).tdiv 1460))))+(au (((au (day+730425)).tmod 146097).tdiv 36524)))) - (au (((au (day+730425)).tmod 146097).tdiv 146096)))).tdiv 365)).tdiv 4)))) - (au ((au ((au ((au ((au (((au (day+730425)).tmod 146097) - (au (((au (day+730425)).tmod 146097).tdiv 1460))))+(au (((au (day+730425)).tmod 146097).tdiv 36524)))) - (au (((au (day+730425)).tmod 146097).tdiv 146096)))).tdiv 365)).tdiv 100))))))))+2)).tdiv 153))+3)) - 12))))
 (.fin (.inr (au ((au ((au ((au ((5:Int) * (au (((au (day+730425)).tmod 146097) - (au ((au ((au ((365:Int) * (au ((au ((au ((au (((au (day+730425)).tmod 146097) - (au (((au (day+730425)).tmod 146097).tdiv 1460))))+(au (((au (day+730425)).tmod 146097).tdiv 36524)))) - (au (((au (day+730425)).tmod 146097).tdiv 146096)))).tdiv 365))))+(au ((au ((au ((au ((au (((au (day+730425)).tmod 146097) - (au (((au (day+730425)).tmod 146097).tdiv 1460))))+(au (((au (day+730425)).tmod 146097).tdiv 36524)))) - (au (((au (day+730425)).tmod 146097).tdiv 146096)))).tdiv 365)).tdiv 4)))) - (au ((au ((au ((au ((au (((au (day+730425)).tmod 146097) - (au (((au (day+730425)).tmod 146097).tdiv 1460))))+(au (((au (day+730425)).tmod 146097).tdiv 36524)))) - (au (((au (day+730425)).tmod 146097).tdiv 146096)))).tdiv 365)).tdiv 100))))))))+2)).tdiv 153))+3)))))
 (fun (b1:Int)=>⟨[(3,iv b1)],[]⟩) fun b1 =>
 .br (decide (b1 < 3))
 (.fin (au ((au ((au ((au ((au ((au (((au (day+730425)).tmod 146097) - (au (((au (day+730425)).tmod 146097).tdiv 1460))))+(au (((au (day+730425)).tmod 146097).tdiv 36524)))) - (au (((au (day+730425)).tmod 146097).tdiv 146096)))).tdiv 365))+(au ((400:Int) * (au ((au (day+730425)).tdiv 146097))))))+1),b1,au ((au ((au (((au (day+730425)).tmod 146097) - (au ((au ((au ((365:Int) * (au ((au ((au ((au (((au (day+730425)).tmod 146097) - (au (((au (day+730425)).tmod 146097).tdiv 1460))))+(au (((au (day+730425)).tmod 146097).tdiv 36524)))) - (au (((au (day+730425)).tmod 146097).tdiv 146096)))).tdiv 365))))+(au ((au ((au ((au ((au (((au (day+730425)).tmod 146097) - (au (((au (day+730425)).tmod 146097).tdiv 1460))))+(au (((au (day+730425)).tmod 146097).tdiv 36524)))) - (au (((au (day+730425)).tmod 146097).tdiv 146096)))).tdiv 365)).tdiv 4)))) - (au ((au ((au ((au ((au (((au (day+730425)).tmod 146097) - (au (((au (day+730425)).tmod 146097).tdiv 1460))))+(au (((au (day+730425)).tmod 146097).tdiv 36524)))) - (au (((au (day+730425)).tmod 146097).tdiv 146096)))).tdiv 365)).tdiv 100)))))) - (au ((au ((au ((153:Int) * (au ((au ((au ((5:Int) * (au (((au (day+730425)).tmod 146097) - (au ((au ((au ((365:Int) * (au ((au ((au ((au (((au (day+730425)).tmod 146097) - (au (((au (day+730425)).tmod 146097).tdiv 1460))))+(au (((au (day+730425)).tmod 146097).tdiv 36524)))) - (au (((au (day+730425)).tmod 146097).tdiv 146096)))).tdiv 365))))+(au ((au ((au ((au ((au (((au (day+730425)).tmod 146097) - (au (((au (day+730425)).tmod 146097).tdiv 1460))))+(au (((au (day+730425)).tmod 146097).tdiv 36524)))) - (au (((au (day+730425)).tmod 146097).tdiv 146096)))).tdiv 365)).tdiv 4)))) - (au ((au ((au ((au ((au (((au (day+730425)).tmod 146097) - (au (((au (day+730425)).tmod 146097).tdiv 1460))))+(au (((au (day+730425)).tmod 146097).tdiv 36524)))) - (au (((au (day+730425)).tmod 146097).tdiv 146096)))).tdiv 365)).tdiv 100))))))))+2)).tdiv 153))))+2)).tdiv 5))))+1)))
 (.fin (au ((au ((au ((au ((au (((au (day+730425)).tmod 146097) - (au (((au (day+730425)).tmod 146097).tdiv 1460))))+(au (((au (day+730425)).tmod 146097).tdiv 36524)))) - (au (((au (day+730425)).tmod 146097).tdiv 146096)))).tdiv 365))+(au ((400:Int) * (au ((au (day+730425)).tdiv 146097))))),b1,au ((au ((au (((au (day+730425)).tmod 146097) - (au ((au ((au ((365:Int) * (au ((au ((au ((au (((au (day+730425)).tmod 146097) - (au (((au (day+730425)).tmod 146097).tdiv 1460))))+(au (((au (day+730425)).tmod 146097).tdiv 36524)))) - (au (((au (day+730425)).tmod 146097).tdiv 146096)))).tdiv 365))))+(au ((au ((au ((au ((au (((au (day+730425)).tmod 146097) - (au (((au (day+730425)).tmod 146097).tdiv 1460))))+(au (((au (day+730425)).tmod 146097).tdiv 36524)))) - (au (((au (day+730425)).tmod 146097).tdiv 146096)))).tdiv 365)).tdiv 4)))) - (au ((au ((au ((au ((au (((au (day+730425)).tmod 146097) - (au (((au (day+730425)).tmod 146097).tdiv 1460))))+(au (((au (day+730425)).tmod 146097).tdiv 36524)))) - (au (((au (day+730425)).tmod 146097).tdiv 146096)))).tdiv 365)).tdiv 100)))))) - (au ((au ((au ((153:Int) * (au ((au ((au ((5:Int) * (au (((au (day+730425)).tmod 146097) - (au ((au ((au ((365:Int) * (au ((au ((au ((au (((au (day+730425)).tmod 146097) - (au (((au (day+730425)).tmod 146097).tdiv 1460))))+(au (((au (day+730425)).tmod 146097).tdiv 36524)))) - (au (((au (day+730425)).tmod 146097).tdiv 146096)))).tdiv 365))))+(au ((au ((au ((au ((au (((au (day+730425)).tmod 146097) - (au (((au (day+730425)).tmod 146097).tdiv 1460))))+(au (((au (day+730425)).tmod 146097).tdiv 36524)))) - (au (((au (day+730425)).tmod 146097).tdiv 146096)))).tdiv 365)).tdiv 4)))) - (au ((au ((au ((au ((au (((au (day+730425)).tmod 146097) - (au (((au (day+730425)).tmod 146097).tdiv 1460))))+(au (((au (day+730425)).tmod 146097).tdiv 36524)))) - (au (((au (day+730425)).tmod 146097).tdiv 146096)))).tdiv 365)).tdiv 100))))))))+2)).tdiv 153))))+2)).tdiv 5))))+1)))
def Nl day:=(lZ day).val
theorem Fi (day:Int):(lZ day).a6 (fun _=>True):=by
 unfold lZ
 exact nF
def m7 day:=kk tok mixed Tryz.func229 [iv day] (fun x=>.fj [iv x.1,iv x.2.1,iv x.2.2]) true (lZ day) (Nl day) (u0 (Fi day))
def kU (year:Int) (month:Int) (J7:Int):Sk (Int) :=
 .br (decide (month < 3))
 (.r 3 (.al (.p ((4:Int)≠0)) (.al (.p ((100:Int)≠0)) (.al (.p ((400:Int)≠0)) (.p ((5:Int)≠0))))) fun _ =>
 .fin (au ((au ((au ((au ((au ((au ((au ((au ((365:Int) * (au (year - 1))))+(au ((au (year - 1)).tdiv 4)))) - (au ((au (year - 1)).tdiv 100))))+(au ((au (year - 1)).tdiv 400))))+(au ((au ((au ((153:Int) * (au ((au (month+12)) - 3))))+2)).tdiv 5))))+J7)) - 1)) - 730425)))
 (.r 3 (.al (.p ((4:Int)≠0)) (.al (.p ((100:Int)≠0)) (.al (.p ((400:Int)≠0)) (.p ((5:Int)≠0))))) fun _ =>
 .fin (au ((au ((au ((au ((au ((au ((au ((au ((365:Int) * year))+(au (year.tdiv 4)))) - (au (year.tdiv 100))))+(au (year.tdiv 400))))+(au ((au ((au ((153:Int) * (au (month - 3))))+2)).tdiv 5))))+J7)) - 1)) - 730425)))
def J8 year month J7:=(kU year month J7).val
theorem Dm (year:Int) (month:Int) (J7:Int):(kU year month J7).a6 (fun _=>True):=by
 unfold kU
 exact nF
def jr year month J7:=kk tok mixed Tryz.func248 [iv year,iv month,iv J7] (fun x=>iv x) true (kU year month J7) (J8 year month J7) (u0 (Dm year month J7))
def kV (year:Int) (month:Int):Sk (Int) :=
 .br (month == 12)
 (.fin 31)
 (.r 3 (.dep ((jr year (au (month+1)) 1).c) fun _=>(jr year month 1).c) fun p3 =>
 .fin (au (p3.1 - p3.2)))
def J9 year month:=(kV year month).val
theorem Dn (year:Int) (month:Int):(kV year month).a6 (fun _=>True):=by
 unfold kV
 try simp only [jr]
 exact od
def l8 year month:=kk tok mixed Tryz.func231 [iv year,iv month] (fun x=>iv x) true (kV year month) (J9 year month) (u0 (Dn year month))
def oA (year:Int) (month:Int) (J7:Int):Sk (Int × Int) :=
 .r 1 (.wh (((((decide (year < 2000))||(decide (year > 2300)))||(decide (month < 1)))||(decide (month > 12)))||(decide (J7 < 1))) false ((l8 year month).c)) fun x1 =>
 .br ((((((decide (year < 2000))||(decide (year > 2300)))||(decide (month < 1)))||(decide (month > 12)))||(decide (J7 < 1)))||(decide (J7 > x1)))
 (.fin (0,3))
 (.r 3 ((jr year month J7).c) fun x2 =>
 .r 4 ((fH x2).c) fun x3 =>
 .br (!x3)
 (.fin (0,3))
 (.fin (x2,0)))
def Sd year month J7:=(oA year month J7).val
theorem Ka (year:Int) (month:Int) (J7:Int):(oA year month J7).a6 (fun _=>True):=by
 unfold oA
 try simp only [l8,jr,fH,pX]
 exact GD
def AM year month J7:=kk tok mixed Tryz.func230 [iv year,iv month,iv J7] (fun x=>.fj [iv x.1,iv x.2]) true (oA year month J7) (Sd year month J7) (u0 (Ka year month J7))
def iD (day:Int) (n:Int):Sk (Int × Int) :=
 .r 1 ((fH day).c) fun x1 =>
 .br (((!x1)||(decide (n < (-5000))))||(decide (n > 5000)))
 (.fin (0,3))
 (.r 3 ((m7 day).c) fun x2 =>
 .r 5 (.al (.p ((12:Int)≠0)) (.p ((12:Int)≠0))) fun _ =>
 .r 6 (.dep ((l8 (au ((au ((au ((au ((au ((12:Int) * x2.1))+x2.2.1)) - 1))+n)).tdiv 12)) (au (((au ((au ((au ((au ((12:Int) * x2.1))+x2.2.1)) - 1))+n)).tmod 12)+1))).c) fun x3=>(AM (au ((au ((au ((au ((au ((12:Int) * x2.1))+x2.2.1)) - 1))+n)).tdiv 12)) (au (((au ((au ((au ((au ((12:Int) * x2.1))+x2.2.1)) - 1))+n)).tmod 12)+1)) (cS x2.2.2 x3)).c) fun p5 =>
 .fin (p5.2.1,p5.2.2))
def Dp day n:=(iD day n).val
theorem zI (day:Int) (n:Int):(iD day n).a6 (fun _=>True):=by
 unfold iD
 try simp only [AM,m7,l8,fH,pX]
 exact GD
def rZ day n:=kk tok mixed Tryz.func201 [iv day,iv n] (fun x=>.fj [iv x.1,iv x.2]) true (iD day n) (Dp day n) (u0 (zI day n))
def pY (day:Int) (t:qG):Sk (Int × Int) :=
 .br ((decide (t.n < 0))||(decide (t.n > 20000)))
 (.fin (0,3))
 (.br (t.unit == 1)
 (.r 4 ((rZ day t.n).c) fun x1 =>
 .fin (x1.1,x1.2))
 (.fin (au (day+t.n),0)))
def UP day t:=(pY day t).val
theorem Nm (day:Int) (t:qG):(pY day t).a6 (fun _=>True):=by
 unfold pY
 try simp only [rZ]
 exact od
def wC day t:=kk tok mixed Tryz.func174 [iv day,av t.cells] (fun x=>.fj [iv x.1,iv x.2]) true (pY day t) (UP day t) (u0 (Nm day t))
def oB (r:ah) (from_:Int) (cw:Int):Sk (Int × Int) :=
 .bt
 (.loop (default:Sum (Int × Int) (Unit)) (fun i2=>i2≤r.bR.length) (fun i2=>r.bR.length - i2) (0:Nat)
 (fun (i2:Nat)=>⟨[(13,iv (i2:Int))],[]⟩) fun i2 =>
 .lt 11 0 i2 r.bR.length
 (.r 3 (.p (bN (i2:Int) r.bR.length)) fun _ =>
 .br ((((r.bR.getD i2 default).from_) == from_)&&(((r.bR.getD i2 default).cw) == cw))
 (.fin (.inl (.inl ((r.bR.getD i2 default).days,0))))
 (.nx 6 13 i2 (i2+1)))
 (.fin (.inl (.inr ()))))
 (fun (_:Unit)=>⟨[],[]⟩) fun _ =>
 .fin (0,4)
def Se r from_ cw:=(oB r from_ cw).val
theorem Kb (r:ah) (from_:Int) (cw:Int):(oB r from_ cw).a6 (fun _=>True):=by
 unfold oB
 exact nF
def mD r from_ cw:=kk tok mixed Tryz.func77 [av r.cells,iv from_,iv cw] (fun x=>.fj [iv x.1,iv x.2]) true (oB r from_ cw) (Se r from_ cw) (u0 (Kb r from_ cw))
def rD (r:ah) (b:qA) (seen:Int):Sk (Int × Int) :=
 .br (b.da.kind == 0)
 (.fin (seen,0))
 (.br (b.da.kind == 1)
 (.r 5 ((wC seen b.da).c) fun x1 =>
 .fin (x1.1,x1.2))
 (.br (b.da.kind == 2)
 (.r 7 ((wC b.day b.da).c) fun x2 =>
 .fin (x2.1,x2.2))
 (.br (b.da.kind == 4)
 (.r 9 ((mD r b.bK b.JK).c) fun x3 =>
 .fin (au (b.day+x3.1),x3.2))
 (.fin (b.da.n,0)))))
def WU r b seen:=(rD r b seen).val
theorem PC (r:ah) (b:qA) (seen:Int):(rD r b seen).a6 (fun _=>True):=by
 unfold rD
 try simp only [mD,wC]
 exact od
def yE r b seen:=kk tok mixed Tryz.func142 [av r.cells,av b.cells,iv seen] (fun x=>.fj [iv x.1,iv x.2]) true (rD r b seen) (WU r b seen) (u0 (PC r b seen))
def lz (r:ah) (order:Int) (day:Int):Sk (Int) :=
 .bind true (fun b1=>day≤b1∧b1≤100001)
 (.loop (default:Sum (Int) (Int)) (fun i2=>day≤i2.1∧i2.1≤100001) (fun i2=>2 * (100001 - i2.1).toNat+(if i2.2 then 1 else 0)) ((day,true):Int × Bool)
 (fun (i2:Int × Bool)=>⟨[(2,iv i2.1),(7,bv i2.2)],[]⟩) fun i2 =>
 .br i2.2
 (.bind true (fun b3=>i2.1≤b3.1∧b3.1≤100001∧(b3.2.1=true→i2.1 < b3.1)∧(b3.2.1=false→b3.1=i2.1))
 (.bind true (fun b4=>i2.1≤b4.1∧b4.1≤100001∧(b4.2.1=true→i2.1 < b4.1)∧(b4.2.1=false→b4.1=i2.1))
 (.loop (default:Sum (Sum (Sum (Sum (Int) (Int)) (Int × Bool)) (Int × Bool × (List Halt) × Int × Int × Bool)) (Int × Bool × Int × Bool)) (fun i5=>i5.2.2≤r.gq.length∧i2.1≤i5.1∧i5.1≤100001∧(i5.2.1=true→i2.1 < i5.1)∧(i5.2.1=false→i5.1=i2.1)) (fun i5=>r.gq.length - i5.2.2) ((i2.1,false,0):Int × Bool × Nat)
 (fun (i5:Int × Bool × Nat)=>⟨[(2,iv i5.1),(7,bv i5.2.1),(14,iv (i5.2.2:Int))],[]⟩) fun i5 =>
 .lt 12 0 i5.2.2 r.gq.length
 (.r 6 (.p (bN (i5.2.2:Int) r.gq.length)) fun _ =>
 .br (((((r.gq.getD i5.2.2 default).order) == order)&&(decide (((r.gq.getD i5.2.2 default).from_)≤i5.1)))&&(decide (i5.1≤((r.gq.getD i5.2.2 default).cw))))
 (.r 9 .z fun _ =>
 .wi 14 (au ((i5.2.2:Int)+1)) ((i5.2.2+1:Nat):Int) <|
 .fin (.inr (au (((r.gq.getD i5.2.2 default).cw)+1),true,i5.2.2+1)))
 (.nx 9 14 i5.2.2 (i5.1,i5.2.1,i5.2.2+1)))
 (.fin (.inl (.inr (i5.1,i5.2.1,(i5.2.2:Int),decide ((i5.2.2:Int) < ((r.gq.length:Nat):Int)))))))
 (fun (b4:Int × Bool × Int × Bool)=>⟨[(2,iv b4.1),(7,bv b4.2.1),(14,iv b4.2.2.1),(15,bv b4.2.2.2)],[]⟩) fun b4 =>
 .fin (.inr (b4.1,b4.2.1,r.gq,((r.gq.length:Nat):Int),b4.2.2.1,b4.2.2.2)))
 (fun (b3:Int × Bool × (List Halt) × Int × Int × Bool)=>⟨[(2,iv b3.1),(7,bv b3.2.1),(12,lv Halt.cells b3.2.2.1),(13,iv b3.2.2.2.1),(14,iv b3.2.2.2.2.1),(15,bv b3.2.2.2.2.2)],[]⟩) fun b3 =>
 .fin (.inr (b3.1,b3.2.1)))
 (.fin (.inl (.inr i2.1))))
 (fun (b1:Int)=>⟨[(2,iv b1)],[]⟩) fun b1 =>
 .fin b1
def Nn r order day:=(lz r order day).val
theorem Np (r:ah) (order:Int) (day:Int) (hP:r.fb∧0≤day∧day≤100001):(lz r order day).cC (fun (x:Int)=>day≤x∧x≤100001):=by
 refine Sk.aP _ ?_
 unfold lz
 simp only [Sk.ct,Sk.aA,reduceCtorEq,ON,kk,kp,ah.fb,maxLen]
 obtain ⟨hh,hd⟩:=hP
 refine ⟨⟨by omega,fun i hi=>⟨fun hch=>⟨⟨⟨⟨by omega,⟨by omega,by omega⟩⟩,fun j hj=>⟨fun hc _=>⟨fun ht _=>⟨⟨?_,?_⟩,?_⟩,fun ht _=>⟨⟨?_,hj.2⟩,?_⟩⟩,fun hc=>hj.2⟩⟩,fun b hb=>hb⟩,fun b _ hb=>⟨?_,?_⟩⟩,fun hch=>hi⟩⟩,fun b hb=>hb⟩
 all_goals (try simp only [LN] at hc)
 all_goals (try simp only [LN] at ht)
 ·omega
 ·have h2:=hh j.2.2 (by omega)
  rw [ar (by omega) (by omega)]
  omega
 ·omega
 ·omega
 ·omega
 ·omega
 ·rw [if_pos hch]
  cases Ez:b.2.1 with
  | true=>have:=hb.2.2.1 Ez; simp only [if_true]; omega
  | false=>have:=hb.2.2.2 Ez; simp only [Bool.false_eq_true,if_false]; omega
theorem Kc (r:ah) (order:Int) (day:Int):(fun (x:Int)=>(r.fb∧0≤day∧day≤100001)→(day≤x∧x≤100001)) (Nn r order day):=fun hP=>Sk.cI _ (Np r order day hP)
theorem PD (r:ah) (order:Int) (day:Int) (hh:r.fb) (hd:0≤day∧day≤100001):(lz r order day).a6 (fun _=>True):=by
 simp only [ah.fb] at hh
 refine Sk.aG _ ?_
 unfold lz
 simp only [Sk.gL,Sk.aA,reduceCtorEq,ON,kk,kp,ah.fb,maxLen]
 refine ⟨⟨by omega,by omega⟩,fun i hi=>⟨fun hch=>⟨⟨⟨⟨by omega,by omega,by omega⟩,fun j hj hl=>⟨fun hc=>⟨⟨by omega,of_decide_eq_true hc⟩,fun _=>⟨fun ht _=>⟨?_,⟨?_,?_⟩,?_⟩,fun ht _=>⟨?_,⟨?_,hj.2⟩,?_⟩⟩⟩,fun hc=>hj.2⟩⟩,fun b hb=>hb⟩,fun b _ hb=>⟨?_,?_⟩⟩,fun hch=>hi⟩⟩
 all_goals (try simp only [LN] at hc)
 all_goals (try simp only [LN] at ht)
 ·exact ar (by omega) (by omega)
 ·omega
 ·have h2:=hh j.2.2 (by omega)
  rw [ar (by omega) (by omega)]
  omega
 ·omega
 ·exact ar (by omega) (by omega)
 ·omega
 ·omega
 ·omega
 ·rw [if_pos hch]
  cases Ez:b.2.1 with
  | true=>have:=hb.2.2.1 Ez; simp only [if_true]; omega
  | false=>have:=hb.2.2.2 Ez; simp only [Bool.false_eq_true,if_false]; omega
def yF r order day:=kk tok mixed Tryz.func176 [av r.cells,iv order,iv day] (fun x=>iv x) true (lz r order day) (Nn r order day) (u2 (PD r order day)) (fun (x:Int)=>(r.fb∧0≤day∧day≤100001)→(day≤x∧x≤100001)) (Kc r order day)
def m8 (c_:jg) (day:Int):Sk (Bool) :=
 .r 1 ((m7 day).c) fun x1 =>
 .r 2 (.al (.p ((7:Int)≠0)) (.dep ((aC c_.rest ((au (day+5)).tmod 7)).c) fun x2=>.dep (.wh (!x2) true ((aC c_.j4 (au ((au ((100:Int) * x1.2.1))+x1.2.2))).c)) fun x3=>.wh ((!x2)&&(!x3)) true ((aC c_.shut day).c))) fun p5 =>
 .fin (((!p5.1)&&(!p5.2.1))&&(!p5.2.2))
def fU c_ day:=(m8 c_ day).val
theorem Hq (c_:jg) (day:Int):(m8 c_ day).a6 (fun _=>True):=by
 unfold m8
 try simp only [m7,aC]
 exact nF
def Kd c_ day:=kk tok mixed Tryz.func233 [av c_.cells,iv day] (fun x=>bv x) true (m8 c_ day) (fU c_ day) (u0 (Hq c_ day))
theorem Hr (c_:jg) (day:Int):eC Tryz.prog 233 [av c_.cells,iv day] [] (bv (fU c_ day)) []:=(Kd c_ day).pf trivial
section
open Go Go.Av Go.RowKit Go.Shelf
attribute [local go_sem] Oper.semAt_some
set_option linter.unusedSimpArgs false
set_option linter.unusedVariables false
set_option maxHeartbeats 1000000
set_option maxRecDepth 100000
/-- Jw first open day from one day to XW -/
def uC (c:jg):Nat→Int→Option Int
  | 0,_=>none
  | n+1,d=>bif fU c d then some d else uC c n (d+1)
def BB (c:jg) (day last:Int):Option Int:=uC c (last - day+1).toNat day
def dJ (c:jg) (day:Int):Int × Int :=
  bif !(eK day) then (0,3) else match BB c day (min (au (day+400)) 100000) with | some d=>(d,0) | none=>(0,3)
theorem Tryz.ntmps232:Tryz.f232.ntmps=21:=by kernel_rfl
theorem Tryz.ntmps177:Tryz.f177.ntmps=18:=by kernel_rfl

def eM (c:jg):Nat→Int→List Int
  | 0,_=>[]
  | n+1,d=>bif fU c d then d :: eM c n (d+1) else eM c n (d+1)

theorem WV (c:jg) (d:Int) (v:Value) (w:World) (S:Nat→Prop) (hb:∀ b,S b→b < w.heap.size) (hg:gM w S) (hr:Rd w S (.agg c.cells) v) :
    Calls Tryz.prog 233 #[v,.int .i64 d] w fun e w'=>e=.returned (.bool (fU c d))∧w.grownBy w' none:=by
  refine Calls.mono ((Hr c d).2 w S (fun _=>none) #[v,.int .i64 d] hb hg (fun ν=>⟨rfl,fun i hi=>?_⟩) (fun κ b h=>by simp [Go.Av.look] at h) (fun κ κ' b b' g c c' h=>by simp [Go.Av.look] at h)) ?_
  · match i,hi with
    | 0,_=>exact .d hr
    | 1,_=>exact gF rfl
    | i+2,hi=>simp at hi; omega
  · rintro e w' ⟨u,S',μ',rfl,B⟩
    have hu:u=.bool (fU c d):=nH (B.res fun _=>false)
    subst hu
    exact ⟨rfl,B.kept.os,B.kept.tape,B.kept.output,B.kept.size,fun k hk _=>B.kept.block k hk (fun ⟨κ,b,c,h,_⟩=>by simp [Go.Av.look] at h)⟩

theorem abn (l bf bt bc n₁ m:Nat) (c:jg) (from_ last:Int) (v0 v1 v2 v3 v4 v5:Value) (S:Nat→Prop) (J Jx:List Int→World→Prop)
    (aiS : -9000000000000000000≤from_) (adI:last≤9000000000000000000) (hS:∀ b,S b→b < n₁) (hbf:bf < n₁) (hbt:bt < n₁) (hbc:bc < n₁) (hJ:AbidesFrom m J)
    (hY:∀ pre x W,J pre W→pre.length < (eM c (last - from_+1).toNat from_).length→YieldAt Fence.wide 2 Tryz.prog l #[.int .i64 x] W fun e W' =>
      (e=.returned (.bool true)∧J (pre++[x]) W'∧Below n₁ W W')∨(e=.returned (.bool false)∧Jx (pre++[x]) W'))
    (W:World) (hn₁:n₁≤W.heap.size) (hG:gM W S) (hR:Rd W S (.agg c.cells) (.agg #[v0,v1,v2,v3,v4,v5]))
    (hBf:W.cell? ⟨bf,0,none⟩=some (.int .i64 from_)) (hBt:W.cell? ⟨bt,0,none⟩=some (.int .i64 last))
    (hC0:W.cell? ⟨bc,0,none⟩=some v0) (hC1:W.cell? ⟨bc,1,none⟩=some v1) (hC2:W.cell? ⟨bc,2,none⟩=some v2) (hC3:W.cell? ⟨bc,3,none⟩=some v3) (hC4:W.cell? ⟨bc,4,none⟩=some v4) (hC5:W.cell? ⟨bc,5,none⟩=some v5) (h0:J [] W) :
    CallsIn Fence.wide 3 Tryz.prog 232 #[.func (.yield l) #[] #[],.pointer (some ⟨bf,0,none⟩),.pointer (some ⟨bt,0,none⟩),.pointer (some ⟨bc,0,none⟩)] W fun e W'=>(∃ v,e=.returned v) ∧
      ((∃ ys,ys=eM c (last - from_+1).toNat from_∧J ys W')∨(∃ pre,pre <+: eM c (last - from_+1).toNat from_∧Jx pre W')):=by
  refine callsIn_of_wp Tryz.func232 rfl trivial ?_ rfl
  simp only [Tryz.ntmps232,List.size_toArray,List.length_cons,List.length_nil,Nat.reduceAdd,Nat.reduceSub,Array.replicate_succ,Array.replicate_zero,List.push_toArray,List.append_toArray,List.nil_append,List.cons_append]
  gi_wp2
  gi_loopw [5] (fun p wr=>∃ (d:Int) (pre:List Int),p=.int .i64 d∧from_≤d∧eM c (last - from_+1).toNat from_=pre++eM c (last - d+1).toNat d∧J pre wr∧Below n₁ W wr)
    (fun p _=>(last+1 - intOf p).toNat)
  case atStart=>exact ⟨from_,[],rfl,Int.le_refl _,rfl,h0,Below.refl _ _⟩
  case round =>
    obtain ⟨d,pre,rfl,hd,hx,hJs,Db⟩:=hrel
    have ai5:wr.cell? ⟨bt,0,none⟩=some (.int .i64 last):=(Db.cell (p:=⟨bt,0,none⟩) hbt).trans hBt
    have ai6:=(Db.cell (p:=⟨bc,0,none⟩) hbc).trans hC0
    have ai7:=(Db.cell (p:=⟨bc,1,none⟩) hbc).trans hC1
    have ai8:=(Db.cell (p:=⟨bc,2,none⟩) hbc).trans hC2
    have ai9:=(Db.cell (p:=⟨bc,3,none⟩) hbc).trans hC3
    have aja:=(Db.cell (p:=⟨bc,4,none⟩) hbc).trans hC4
    have ajb:=(Db.cell (p:=⟨bc,5,none⟩) hbc).trans hC5
    have Yk:=WV c d (.agg #[v0,v1,v2,v3,v4,v5]) wr S (fun b hb=>Nat.lt_of_lt_of_le (hS b hb) (Nat.le_trans hn₁ Db.size)) (hG.mono (fun _ h=>h) (fun b hb=>Db.block b (hS b hb))) (hR.mono (fun _ h=>h) (fun b hb=>Db.block b (hS b hb)))
    have hJ2:∀ W2,wr.grownBy W2 none→J pre W2:=fun W2 hg=>hJ pre wr W2 none hJs hg (fun r e=>by cases e)
    have hB2:∀ W2,wr.grownBy W2 none→Below n₁ W W2:=fun W2 hg=>Db.trans ⟨hg.os,hg.tape,hg.output,hg.size,fun k hk=>hg.block k (Nat.lt_of_lt_of_le hk (Nat.le_trans hn₁ Db.size)) (by simp)⟩
    by_cases hle:d≤last
    · have hfu:(last - d+1).toNat=(last - (d+1)+1).toNat+1:=by omega
      cases ho:fU c d with
      | true =>
        rw [ho] at Yk
        rw [hfu,eM,ho,cond_true] at hx
        have hlen:pre.length < (eM c (last - from_+1).toNat from_).length:=by rw [hx]; simp
        gi_wp2
        refine ⟨trivial,(callsIn_wide.2 Yk).mono ?_⟩
        rintro e W2 ⟨rfl,Tb⟩
        obtain ⟨fn,tmps,assign,body,hy,hRR⟩:=hY pre d W2 (hJ2 W2 Tb) hlen
        gi_wp2
        refine hRR.mono ?_
        rintro e W3 (⟨rfl,hJ3,hk3⟩ | ⟨rfl,aih⟩)
        · gi_wp2
          go_roundw
          case rel=>exact ⟨d+1,pre++[d],by simp,by omega,by rw [hx]; simp,hJ3,(hB2 W2 Tb).trans hk3⟩
          case measure=>simp [intOf]; omega
        · gi_wp2
          refine bodyPost_ret (results_none rfl _ _ _) rfl ?_
          exact ⟨⟨_,rfl⟩,.inr ⟨pre++[d],⟨eM c (last - (d+1)+1).toNat (d+1),by rw [hx]; simp⟩,aih⟩⟩
      | false =>
        rw [ho] at Yk
        rw [hfu,eM,ho,cond_false] at hx
        gi_wp2
        refine ⟨trivial,(callsIn_wide.2 Yk).mono ?_⟩
        rintro e W2 ⟨rfl,Tb⟩
        gi_wp2
        refine ⟨fun _ h=>(by cases h),?_⟩
        gi_wp2
        go_roundw
        case rel=>exact ⟨d+1,pre,by simp,by omega,hx,hJ2 W2 Tb,hB2 W2 Tb⟩
        case measure=>simp [intOf]; omega
    · gi_wp2
      go_end0
      have h0:(last - d+1).toNat=0:=by omega
      rw [h0,eM,List.append_nil]
      exact ⟨⟨_,rfl⟩,.inl hJs⟩

theorem Tryz.ntmps203:Tryz.f203.ntmps=8:=by kernel_rfl
theorem acV (v0 v1 v2 v3 v4 v5:Value) (day last:Int) (w:World):CallsIn Fence.wide 3 Tryz.prog 203 #[.agg #[v0,v1,v2,v3,v4,v5],.int .i64 day,.int .i64 last] w fun e w' =>
    e=.returned (.func (.func 232) #[] #[.pointer (some ⟨w.heap.size+1,0,none⟩),.pointer (some ⟨w.heap.size+2,0,none⟩),.pointer (some ⟨w.heap.size,0,none⟩)])∧w'=((w.alloc (.cells #[v0,v1,v2,v3,v4,v5] 107)).alloc (.cells #[.int .i64 day] 3)).alloc (.cells #[.int .i64 last] 3):=by
  refine callsIn_of_wp Tryz.func203 rfl trivial ?_ rfl
  simp only [Tryz.ntmps203,List.size_toArray,List.length_cons,List.length_nil,Nat.reduceAdd,Nat.reduceSub,Array.replicate_succ,Array.replicate_zero,List.push_toArray,List.append_toArray,List.nil_append,List.cons_append]
  gi_wp2
  go_ret
  exact ⟨rfl,rfl⟩

theorem UQ (d:Int) (w:World) (S:Nat→Prop) (hb:∀ b,S b→b < w.heap.size) (hg:gM w S) :
    Calls Tryz.prog 202 #[.int .i64 d] w fun e w'=>e=.returned (.bool (eK d))∧w.grownBy w' none:=by
  refine Calls.mono ((Fh d).2 w S (fun _=>none) #[.int .i64 d] hb hg (fun ν=>⟨rfl,fun i hi=>?_⟩) (fun κ b h=>by simp [Go.Av.look] at h) (fun κ κ' b b' g c c' h=>by simp [Go.Av.look] at h)) ?_
  · match i,hi with
    | 0,_=>exact gF rfl
    | i+1,hi=>simp at hi
  · rintro e w' ⟨u,S',μ',rfl,B⟩
    have hu:u=.bool (eK d):=nH (B.res fun _=>false)
    subst hu
    exact ⟨rfl,B.kept.os,B.kept.tape,B.kept.output,B.kept.size,fun k hk _=>B.kept.block k hk (fun ⟨κ,b,c,h,_⟩=>by simp [Go.Av.look] at h)⟩

theorem Hs {w w':World} {S:Nat→Prop} {T:Nat→Prop} {a b:Int} (hS:∀ q,S q→q < w.heap.size) (h:Below w.heap.size w w'):∃ v S' μ',Ending.returned (.tuple #[.int .i64 a,.int .i64 b])=.returned v∧Rx w S T (.fj [iv a,iv b]) [] v S' μ' w':=by
  refine ⟨_,S,fun _=>none,rfl,⟨fun ν=>.fj rfl (fun i hi=>?_),fun κ b h=>by simp [Go.Av.look] at h,fun κ κ' b b' g c c' h=>by simp [Go.Av.look] at h,fun κ b g c h=>by simp [Go.Av.look] at h,fun _ h=>h,fun _ h=>.inl h,fun q hq=>Nat.lt_of_lt_of_le (hS q hq) h.size,⟨h.os,h.tape,h.output,h.size,fun k hk _=>h.block k hk⟩⟩⟩
  match i,hi with
  | 0,_=>exact gF rfl
  | 1,_=>exact gF rfl
  | i+2,hi=>simp at hi; omega

theorem results177 (tmps:Array Value) (W:World) (b4 b5:Nat) (x y:Int) (h4:tmps.getD 4 undef=.pointer (some ⟨b4,0,none⟩)) (h5:tmps.getD 5 undef=.pointer (some ⟨b5,0,none⟩)) (hx:W.cell? ⟨b4,0,none⟩=some (.int .i64 x)) (hy:W.cell? ⟨b5,0,none⟩=some (.int .i64 y)) :
    (results Tryz.f177 tmps).run Tryz.prog W=.ok (.tuple #[.int .i64 x,.int .i64 y]) W:=by
  have e:Tryz.f177.results = #[.cell 4 3,.cell 5 60]:=by kernel_rfl
  have u3:Tryz.prog.underlying 3=some (.int .i64):=by kernel_rfl
  have u49:Tryz.prog.underlying 60=some (.int .i64):=by kernel_rfl
  have h4':tmps[4]?.getD undef=.pointer (some ⟨b4,0,none⟩):=by simpa [Array.getD_eq_getD_getElem?] using h4
  have h5':tmps[5]?.getD undef=.pointer (some ⟨b5,0,none⟩):=by simpa [Array.getD_eq_getD_getElem?] using h5
  simp [results,e,h4',h5',go_sem,run_underlying u3,run_underlying u49,hx,hy]

theorem wD (c:jg):∀ (n:Nat) (d:Int),(eM c n d).head? = uC c n d
  | 0,_=>rfl
  | n+1,d=>by
    simp only [eM,uC]
    cases fU c d with
    | true=>rfl
    | false=>exact wD c n (d+1)


theorem abo (c:jg) (day last t13:Int) (v0 v1 v2 v3 v4 v5:Value) (w W1:World) (S:Nat→Prop) (Q:Exit→Act→World→Prop) (abp : -9000000000000000000≤day) (adI:last≤9000000000000000000)
    (hb:∀ b,S b→b < w.heap.size) (hg:gM w S) (hR:Rd w S (.agg c.cells) (.agg #[v0,v1,v2,v3,v4,v5])) (hB1:Below w.heap.size w W1) (h41:Boxed W1 (w.heap.size+1) 3 (.int .i64 0)) (h51:Boxed W1 (w.heap.size+1+1) 60 (.int .i64 0))
    (tm:Value→Value→Array Value) (htm:tm=fun x y=>#[Value.agg #[v0,v1,v2,v3,v4,v5],Value.int IntKind.i64 day,Value.pointer (some { block:=w.heap.size,off:=0 }),undef,Value.pointer (some { block:=w.heap.size+1,off:=0 }),
          Value.pointer (some { block:=w.heap.size+1+1,off:=0 }),y,Value.int IntKind.i64 day,Value.bool true,Value.bool false,Value.agg #[v0,v1,v2,v3,v4,v5],Value.int IntKind.i64 day,Value.int IntKind.i64 day,Value.int IntKind.i64 t13,Value.int IntKind.i64 last,
          Value.func (Fn.func 232) #[] #[Value.pointer (some { block:=W1.heap.size+1,off:=0 }),Value.pointer (some { block:=W1.heap.size+2,off:=0 }),Value.pointer (some { block:=W1.heap.size,off:=0 })],x,undef])
    (ago:eM c (last - day+1).toNat day=[]→∀ (D:Nat) (W:World),W1.heap.size+3≤D→Boxed W (w.heap.size+1) 3 (.int .i64 0)→Boxed W (w.heap.size+1+1) 60 (.int .i64 0)→Below w.heap.size w W→W.heap[D]? = some (.deferred (some []))→Q .normal { tmps:=tm undef undef,defers:=[{ target:=.collected D,args:=#[] }] } W)
    (agp:∀ (x:Int) (D:Nat) (W:World),(eM c (last - day+1).toNat day).head? = some x→W1.heap.size+3≤D→Boxed W (w.heap.size+1) 3 (.int .i64 x)→Boxed W (w.heap.size+1+1) 60 (.int .i64 0)→Below w.heap.size w W→W.heap[D]? = some (.deferred (some []))→Code.ret.wpIn Fence.wide 4 Tryz.prog Q { tmps:=tm undef undef,defers:=[{ target:=.collected D,args:=#[] }] } W) :
    Code.wpIn Fence.wide 4 Tryz.prog
    (Code.rangeFunc (Operand.tmp 15) #[16]
      (Code.region 4
        #[{ dst:=some 6,op:=Op.assign (Operand.tmp 16),type:=3,pos:= "calendar.go:125",after:=#[],
            guard:=none }]
        false)
      (Code.block 1
        ((Code.region 5
              #[{ dst:=some 17,op:=Op.move (Operand.tmp 6),type:=3,pos:= "calendar.go:126",after:=#[],
                  guard:=none },
                { dst:=none,op:=Op.store 3 (Operand.tmp 4) (Operand.tmp 17),type:=0,pos:= "calendar.go:126",
                  after:=#[{ on:=0,ground:=Ground.data },{ on:=0,ground:=Ground.phase }],guard:=none },
                { dst:=none,op:=Op.store 60 (Operand.tmp 5) (Operand.const (Value.int IntKind.i64 0)),type:=0,
                  pos:= "calendar.go:126",
                  after :=
                    #[{ on:=1,ground:=Ground.chain },{ on:=0,ground:=Ground.phase },
                      { on:=1,ground:=Ground.phase }],
                  guard:=none }]
              false).seq
          Code.ret))) Q { tmps:=tm undef undef,defers:=[] }
    (((W1.alloc (Obj.cells #[v0,v1,v2,v3,v4,v5] 107)).alloc (Obj.cells #[Value.int IntKind.i64 day] 3)).alloc
      (Obj.cells #[Value.int IntKind.i64 last] 3)):=by
  obtain ⟨W2,Z6⟩:∃ W2,((W1.alloc (Obj.cells #[v0,v1,v2,v3,v4,v5] 107)).alloc (Obj.cells #[Value.int IntKind.i64 day] 3)).alloc (Obj.cells #[Value.int IntKind.i64 last] 3)=W2:=⟨_,rfl⟩
  rw [Z6]
  have jF:W2.heap.size=W1.heap.size+3:=by rw [← Z6]; simp
  have dK:=h41.lt
  have UR:=h51.lt
  have hB2:Below w.heap.size w W2:=by rw [← Z6]; exact ((hB1.alloc hB1.size _).alloc (by have:=hB1.size; simp; omega) _).alloc (by have:=hB1.size; simp; omega) _
  have h42:Boxed W2 (w.heap.size+1) 3 (.int .i64 0):=by rw [← Z6]; exact ((h41.alloc _).alloc _).alloc _
  have h52:Boxed W2 (w.heap.size+1+1) 60 (.int .i64 0):=by rw [← Z6]; exact ((h51.alloc _).alloc _).alloc _
  have CW:W2.heap[W1.heap.size]? = some (.cells #[v0,v1,v2,v3,v4,v5] 107 (0,0)):=by
    rw [← Z6]
    exact ((Below.heap_alloc _ _ _ (by simp; omega)).trans (Below.heap_alloc _ _ _ (by simp))).trans (World.alloc_heap_new W1 _)
  have hf2:Boxed W2 (W1.heap.size+1) 3 (.int .i64 day):=by
    rw [← Z6]
    have:=(Boxed.new (W1.alloc (Obj.cells #[v0,v1,v2,v3,v4,v5] 107)) 3 (.int .i64 day)).alloc (Obj.cells #[Value.int IntKind.i64 last] 3)
    simpa using this
  have ht2:Boxed W2 (W1.heap.size+2) 3 (.int .i64 last):=by
    rw [← Z6]
    have:=Boxed.new ((W1.alloc (Obj.cells #[v0,v1,v2,v3,v4,v5] 107)).alloc (Obj.cells #[Value.int IntKind.i64 day] 3)) 3 (.int .i64 last)
    simpa using this
  have TF:∀ (x y:List Int→Int→Prop) (s:List Int) (W W':World) (row:Option Nat),(∃ q,x s q∧Boxed W (w.heap.size+1) 3 (.int .i64 q)∧Boxed W (w.heap.size+1+1) 60 (.int .i64 0)∧Below w.heap.size w W)→W.grownBy W' row→(∀ r,row=some r→W2.heap.size≤r∧∃ o:Obj,W.heap[r]? = some o∧o.isCells=false) →
      ∃ q,x s q∧Boxed W' (w.heap.size+1) 3 (.int .i64 q)∧Boxed W' (w.heap.size+1+1) 60 (.int .i64 0)∧Below w.heap.size w W':=by
    rintro x y s W W' row ⟨q,hq,b4,b5,hB⟩ Tb hr
    exact ⟨q,hq,b4.kept Tb (fun e=>by have:=(hr _ e.symm).1; omega),b5.kept Tb (fun e=>by have:=(hr _ e.symm).1; omega),hB.grown Tb hB.size (fun k e=>by have:=(hr k e).1; omega)⟩
  refine wpIn_rangeFunc_ownF (F:=Fence.wide) (n:=4) (P:=Tryz.prog) rfl (by decide) (gf:=232) (lb:=#[.pointer (some ⟨W1.heap.size+1,0,none⟩),.pointer (some ⟨W1.heap.size+2,0,none⟩),.pointer (some ⟨W1.heap.size,0,none⟩)]) (by rw [htm]; rfl) trivial (enters_of Tryz.func232 (by kernel_rfl) rfl)
    (encs:=fun x:Int=>#[.int .i64 x]) (Kp:=Below (W1.heap.size+3)) (S:=fun xs=>xs=eM c (last - day+1).toNat day) (Sp:=fun pre=>pre <+: eM c (last - day+1).toNat day) (N:=(eM c (last - day+1).toNat day).length) (w0:=W2) ?seq belowK_t (belowK_b (by omega)) (Below.refl _ _) (fun _=>rfl)
    (fun pre W=>∃ q,(pre=[]∧q=0)∧Boxed W (w.heap.size+1) 3 (.int .i64 q)∧Boxed W (w.heap.size+1+1) 60 (.int .i64 0)∧Below w.heap.size w W)
    (fun cd pre W=>∃ q,(cd=.ret∧pre=[q])∧Boxed W (w.heap.size+1) 3 (.int .i64 q)∧Boxed W (w.heap.size+1+1) 60 (.int .i64 0)∧Below w.heap.size w W)
    (fun s W W' row=>TF (fun pre q=>pre=[]∧q=0) (fun _ _=>True) s W W' row) (fun cd s W W' row=>TF (fun pre q=>cd=.ret∧pre=[q]) (fun _ _=>True) s W W' row) ⟨0,⟨rfl,rfl⟩,h42,h52,hB2⟩
    (fun x=>{ tmps:=tm (.int .i64 x) (.int .i64 x),defers:=[] }) ?assign ?body ?done ?stop
  case seq =>
    intro l J Jx W hW hJ hJx hY h0
    have hBW:Below w.heap.size w W:=hB2.trans (hW.mono (by have:=hB2.size; omega))
    have cc:∀ j,W.cell? ⟨W1.heap.size,j,none⟩ = #[v0,v1,v2,v3,v4,v5][j]?:=fun j=>by rw [gG W _ j _ _ _ ((hW.block _ (by omega)).trans CW)]
    exact abn l (W1.heap.size+1) (W1.heap.size+2) W1.heap.size (W1.heap.size+3) W.heap.size c day last v0 v1 v2 v3 v4 v5 S J Jx abp adI (fun b h=>by have:=hb b h; have:=hB1.size; omega) (by omega) (by omega) (by omega) hJ hY W (by have:=hW.size; omega)
      (hg.mono (fun _ h=>h) (fun b h=>hBW.block b (hb b h))) (hR.mono (fun _ h=>h) (fun b h=>hBW.block b (hb b h))) ((hW.cell (p:=⟨W1.heap.size+1,0,none⟩) (by simp; omega)).trans hf2.cell) ((hW.cell (p:=⟨W1.heap.size+2,0,none⟩) (by simp; omega)).trans ht2.cell) (cc 0) (cc 1) (cc 2) (cc 3) (cc 4) (cc 5) h0
  case assign =>
    intro l x W K hK
    subst htm
    gi_wp2
    exact hK
  case body =>
    rintro l pre x W ⟨q,⟨rfl,rfl⟩,b4,b5,hB⟩ _
    subst htm
    have c4:=b4.cell
    have f4:=b4.frozen
    have c5:=b5.cell
    have f5:=b5.frozen
    gi_wp2
    have q4:=b4.set (.int .i64 x)
    have q5:=(b5.other (B':=w.heap.size+1) (by omega) (.int .i64 x)).set (.int .i64 0)
    have q4':=q4.other (B':=w.heap.size+1+1) (by omega) (.int .i64 0)
    exact ⟨(KeepsOthers.setCell _ _ _).trans (KeepsOthers.setCell _ _ _),x,⟨rfl,rfl⟩,q4',q5,(hB.setCell (p:=⟨w.heap.size+1,0,none⟩) (by simp) _).setCell (p:=⟨w.heap.size+1+1,0,none⟩) (by simp; omega) _⟩
  case done =>
    rintro D xs W hD hx ⟨q,⟨rfl,rfl⟩,b4,b5,hB⟩ hK
    exact ago hx.symm D W (by omega) b4 b5 hB hK
  case stop =>
    rintro D cd pre W hD ⟨t,hp⟩ ⟨q,⟨rfl,rfl⟩,b4,b5,hB⟩ hK
    exact agp q D W (by rw [← hp]; rfl) (by omega) b4 b5 hB hK

theorem Ht (c:jg) (day:Int):eC Tryz.prog 177 [av c.cells,iv day] [] (.fj [iv (dJ c day).1,iv (dJ c day).2]) []:=by
  refine ⟨by kernel_rfl,fun w S μ vs hb hg hr _ _=>?_⟩
  obtain ⟨v0,v1,v2,v3,v4,v5,rfl,hR⟩:∃ v0 v1 v2 v3 v4 v5:Value,vs = #[.agg #[v0,v1,v2,v3,v4,v5],.int .i64 day]∧Rd w S (.agg c.cells) (.agg #[v0,v1,v2,v3,v4,v5]):=by
    obtain ⟨hl,h⟩:=hr fun _=>false
    have h0:=iK.1 (h 0 (by simp))
    have h1:=dL (h 1 (by simp))
    match vs,hl with
    | ⟨[a,b]⟩,_ =>
      simp only [List.getD_cons_zero,List.getD_cons_succ] at h0 h1
      subst h1
      cases h0 with
      | agg _ xs hx hh =>
        match xs,hx with
        | ⟨[x0,x1,x2,x3,x4,x5]⟩,_=>exact ⟨x0,x1,x2,x3,x4,x5,rfl,.agg _ _ rfl hh⟩
  refine callsIn_wide.1 (callsIn_of_wp_marks (n:=4) Tryz.func177 rfl trivial ?_ rfl)
  simp only [Tryz.ntmps177,List.size_toArray,List.length_cons,List.length_nil,Nat.reduceAdd,Nat.reduceSub,Array.replicate_succ,Array.replicate_zero,List.push_toArray,List.append_toArray,List.nil_append,List.cons_append]
  obtain ⟨W0,hW0⟩:∃ W0,((w.alloc (Obj.cells #[v0,v1,v2,v3,v4,v5] 107)).alloc (Obj.cells #[Value.int IntKind.i64 0] 3)).alloc (Obj.cells #[Value.int IntKind.i64 0] 60)=W0:=⟨_,rfl⟩
  have ajc:W0.heap.size=w.heap.size+3:=by rw [← hW0]; simp
  have hB0:Below w.heap.size w W0:=by rw [← hW0]; exact (((Below.refl _ w).alloc (Nat.le_refl _) _).alloc (by simp) _).alloc (by simp; omega) _
  have hc0:W0.heap[w.heap.size]? = some (.cells #[v0,v1,v2,v3,v4,v5] 107 (0,0)):=by
    rw [← hW0]
    exact ((Below.heap_alloc _ _ _ (by simp; omega)).trans (Below.heap_alloc _ _ _ (by simp))).trans (World.alloc_heap_new w _)
  have h4:Boxed W0 (w.heap.size+1) 3 (.int .i64 0):=by
    rw [← hW0]
    have:=(Boxed.new (w.alloc (Obj.cells #[v0,v1,v2,v3,v4,v5] 107)) 3 (.int .i64 0)).alloc (Obj.cells #[Value.int IntKind.i64 0] 60)
    simpa using this
  have h5:Boxed W0 (w.heap.size+1+1) 60 (.int .i64 0):=by
    rw [← hW0]
    have:=Boxed.new ((w.alloc (Obj.cells #[v0,v1,v2,v3,v4,v5] 107)).alloc (Obj.cells #[Value.int IntKind.i64 0] 3)) 60 (.int .i64 0)
    simpa using this
  have MC:=UQ day W0 S (fun b h=>by have:=hb b h; omega) (hg.mono (fun _ h=>h) (fun b h=>hB0.block b (hb b h)))
  gi_wp2
  refine ⟨trivial,(callsIn_wide.2 MC).mono ?_⟩
  rintro e W1 ⟨rfl,Tb⟩
  have hB1:Below w.heap.size w W1:=hB0.trans ⟨Tb.os,Tb.tape,Tb.output,Tb.size,fun k hk=>Tb.block k (by omega) (by simp)⟩
  have O9:W1.heap[w.heap.size]? = some (.cells #[v0,v1,v2,v3,v4,v5] 107 (0,0)):=(Tb.block _ (by omega) (by simp)).trans hc0
  have h41:=h4.kept Tb (by simp)
  have h51:=h5.kept Tb (by simp)
  have h4c:=h41.cell
  have h4f:=h41.frozen
  have h5c:=h51.cell
  have h5f:=h51.frozen
  cases hv:eK day with
  | false =>
    gi_wp2
    have q4:=h41.set (.int .i64 0)
    have q5:=(h51.other (B':=w.heap.size+1) (by omega) (.int .i64 0)).set (.int .i64 3)
    have q4':=q4.other (B':=w.heap.size+1+1) (by omega) (.int .i64 3)
    refine ⟨_,results177 _ _ _ _ 0 3 rfl rfl q4'.cell q5.cell,?_⟩
    have e:dJ c day=(0,3):=by simp [dJ,hv]
    rw [e]
    exact Hs hb ((hB1.setCell (p:=⟨w.heap.size+1,0,none⟩) (by simp) _).setCell (p:=⟨w.heap.size+1+1,0,none⟩) (by simp; omega) _)
  | true =>
    have e0:W1.cell? ⟨w.heap.size,0,none⟩=some v0:=by rw [gG W1 _ 0 _ _ _ O9]; rfl
    have e1:W1.cell? ⟨w.heap.size,1,none⟩=some v1:=by rw [gG W1 _ 1 _ _ _ O9]; rfl
    have e2:W1.cell? ⟨w.heap.size,2,none⟩=some v2:=by rw [gG W1 _ 2 _ _ _ O9]; rfl
    have e3:W1.cell? ⟨w.heap.size,3,none⟩=some v3:=by rw [gG W1 _ 3 _ _ _ O9]; rfl
    have e4:W1.cell? ⟨w.heap.size,4,none⟩=some v4:=by rw [gG W1 _ 4 _ _ _ O9]; rfl
    have e5:W1.cell? ⟨w.heap.size,5,none⟩=some v5:=by rw [gG W1 _ 5 _ _ _ O9]; rfl
    have abp:0≤day∧day≤100000:=by simpa [eK,jq] using hv
    have QQ:au (day+400)=day+400:=ar (by omega) (by omega)
    gi_wp2
    all_goals (refine ⟨trivial,(acV v0 v1 v2 v3 v4 v5 day _ W1).mono ?_⟩; rintro e W2 ⟨rfl,rfl⟩; gi_wp2; refine abo c day _ _ v0 v1 v2 v3 v4 v5 w W1 S _ (by omega) ?_ hb hg hR hB1 h41 h51 _ rfl ?_ ?_)
    all_goals first
      | omega
      | (intro Ti D W hD b4 b5 hB hK
         have c4:=b4.cell
         have f4:=b4.frozen
         have c5:=b5.cell
         have f5:=b5.frozen
         gi_wp2
         have q4:=(b4.set (.int .i64 0)).other (B':=w.heap.size+1+1) (by omega) (.int .i64 3)
         have q5:=(b5.other (B':=w.heap.size+1) (by omega) (.int .i64 0)).set (.int .i64 3)
         have dK:=h41.lt
         have UR:=h51.lt
         have hK':=((KeepsOthers.setCell W ⟨w.heap.size+1,0,none⟩ (.int .i64 0)).trans (KeepsOthers.setCell _ ⟨w.heap.size+1+1,0,none⟩ (.int .i64 3))).same D _ hK rfl
         have hB':=(hB.setCell (p:=⟨w.heap.size+1,0,none⟩) (by simp) (.int .i64 0)).setCell (p:=⟨w.heap.size+1+1,0,none⟩) (by simp; omega) (.int .i64 3)
         refine ⟨by simp,.inl ⟨_,_,rfl,run_takeDeferred hK',?_⟩⟩
         refine ⟨_,results177 _ _ _ _ 0 3 rfl rfl (q4.kept (grownBy_putObj' _ D _) (fun e=>by cases e; omega)).cell (q5.kept (grownBy_putObj' _ D _) (fun e=>by cases e; omega)).cell,?_⟩
         have e:dJ c day=(0,3):=by
           simp only [dJ,hv,BB,← wD]
           first
             | (rw [show min (au (day+400)) 100000=100000 from by rw [QQ]; omega,Ti]; rfl)
             | (rw [show min (au (day+400)) 100000=day+400 from by rw [QQ]; omega,Ti]; rfl)
             | (rw [QQ,Ti]; rfl)
             | (rw [Ti]; rfl)
         rw [e]
         exact Hs hb (hB'.grown (grownBy_putObj' _ D _) hB'.size (fun k e=>by cases e; have:=hB1.size; omega)))
      | (intro x D W hx hD b4 b5 hB hK
         gi_wp2
         have dK:=h41.lt
         have UR:=h51.lt
         refine ⟨by simp,.inl ⟨_,_,rfl,run_takeDeferred hK,?_⟩⟩
         refine ⟨_,results177 _ _ _ _ x 0 rfl rfl (b4.kept (grownBy_putObj' _ D _) (fun e=>by cases e; omega)).cell (b5.kept (grownBy_putObj' _ D _) (fun e=>by cases e; omega)).cell,?_⟩
         have e:dJ c day=(x,0):=by
           simp only [dJ,hv,BB,← wD]
           first
             | (rw [show min (au (day+400)) 100000=100000 from by rw [QQ]; omega,hx]; rfl)
             | (rw [show min (au (day+400)) 100000=day+400 from by rw [QQ]; omega,hx]; rfl)
             | (rw [QQ,hx]; rfl)
             | (rw [hx]; rfl)
         rw [e]
         exact Hs hb (hB.grown (grownBy_putObj' _ D _) hB.size (fun k e=>by cases e; have:=hB1.size; omega)))
theorem Je (c:jg):∀ (n:Nat) (d x:Int),uC c n d=some x→d≤x∧x < d+n
  | 0,_,_,h=>by simp [uC] at h
  | n+1,d,x,h=>by
    simp only [uC] at h
    cases ho:fU c d with
    | true=>rw [ho] at h; simp only [cond_true,Option.some.injEq] at h; omega
    | false=>rw [ho] at h; have:=Je c n (d+1) x h; omega
theorem Dq (c:jg) (day:Int):(fun (x:Int × Int)=>x.2=0→day≤x.1∧x.1≤100000) (dJ c day):=by
  dsimp only
  unfold dJ
  cases hv:eK day with
  | false=>intro h; exact absurd (show (3:Int)=0 from h) (by decide)
  | true =>
    simp only [Bool.not_true,cond_false]
    cases hd:BB c day (min (au (day+400)) 100000) with
    | none=>intro h; exact absurd (show (3:Int)=0 from h) (by decide)
    | some d =>
      intro _
      have:=Je c _ _ _ hd
      simp only
      omega
def lj (c:jg) (day:Int):iI (Int × Int):=⟨Tryz.prog,177,[av c.cells,iv day],fun x=>.fj [iv x.1,iv x.2],true,dJ c day,True,fun _=>Ht c day,fun x=>x.2=0→day≤x.1∧x.1≤100000,Dq c day⟩
end
def iZ (r:ah) (bK:Int) (day:Int):Sk (Int × Int) :=
 .r 1 ((cG r bK).c) fun x1 =>
 .loop (default:Int × Int) (fun i2=>(0:Int)≤i2∧i2≤100001) (fun i2=>(100001 - i2).toNat) (day:Int)
 (fun (i2:Int)=>⟨[(2,iv i2)],[]⟩) fun i2 =>
 .r 2 ((yF r x1 i2).c) fun x3 =>
 .r 3 (.al (.p (bN bK r.bo.length)) ((lj (r.bo.getD bK.toNat default) x3).c)) fun x4 =>
 .br (x4.2 != 0)
 (.fin (.inl (0,3)))
 (.br (x4.1 == x3)
 (.fin (.inl (x3,0)))
 (.fin (.inr x4.1)))
def Fj r bK day:=(iZ r bK day).val
theorem Hu (r:ah) (bK:Int) (day:Int) (hP:(0≤bK∧bK < (r.bo.length:Int))∧(0≤day∧day≤100001)∧r.fb):(iZ r bK day).cC (fun (x:Int × Int)=>x.2=0→0≤x.1∧x.1≤100001):=by
 refine Sk.aP _ ?_
 unfold iZ
 simp only [Sk.ct,Sk.aA,reduceCtorEq,ON,kk,kp,lj,cG,yF,ah.fb,maxLen]
 obtain ⟨hc,hd,hh⟩:=hP
 intro _ _
 refine ⟨hd,fun i hi y hy hyp x hx hxp=>⟨fun _ h=>absurd h (by decide),fun he=>⟨fun hq=>?_,fun hq=>⟨?_,?_⟩⟩⟩⟩
 all_goals have h2:=hyp ⟨hh,hi⟩
 all_goals simp only [LN] at he hq
 all_goals have h3:=hxp he
 all_goals omega
theorem Fk (r:ah) (bK:Int) (day:Int):(fun (x:Int × Int)=>((0≤bK∧bK < (r.bo.length:Int))∧(0≤day∧day≤100001)∧r.fb)→(x.2=0→0≤x.1∧x.1≤100001)) (Fj r bK day):=fun hP=>Sk.cI _ (Hu r bK day hP)
theorem Ke (r:ah) (bK:Int) (day:Int) (hc:0≤bK∧bK < (r.bo.length:Int)) (hd:0≤day∧day≤100001) (hh:r.fb):(iZ r bK day).a6 (fun _=>True):=by
 simp only [ah.fb] at hh
 unfold iZ
 try simp only [lj,cG,yF,ah.fb]
 exact nF
def uD r bK day:=kk tok mixed Tryz.func143 [av r.cells,iv bK,iv day] (fun x=>.fj [iv x.1,iv x.2]) true (iZ r bK day) (Fj r bK day) (u3 (Ke r bK day)) (fun (x:Int × Int)=>((0≤bK∧bK < (r.bo.length:Int))∧(0≤day∧day≤100001)∧r.fb)→(x.2=0→0≤x.1∧x.1≤100001)) (Fk r bK day)
def pZ (r:ah) (b:qA) (seen:Int) (sa:Int):Sk (Int × Int) :=
 .r 2 (.dep ((fT r).c) fun x1=>.dep (.wh (x1 != 0) false ((pV r b.bK).c)) fun x2=>.dep (.wh ((x1 != 0)||(!x2)) false ((pV r b.JK).c)) fun x3=>.wh (((x1 != 0)||(!x2))||(!x3)) false ((nQ b.day).c)) fun UI =>
 .br ((((UI.1 != 0)||(!UI.2.1))||(!UI.2.2.1))||(!UI.2.2.2))
 (.fin (0,1))
 (.br ((((decide (b.da.kind < 0))||(decide (b.da.kind≥5)))||(decide (b.da.unit < 0)))||(decide (b.da.unit≥2)))
 (.fin (0,1))
 (.r 6 (.wh (seen != (-1)) true ((nQ seen).c)) fun x5 =>
 .br ((((seen != (-1))&&(!x5))||(decide (sa < 0)))||(decide (sa > 20000)))
 (.fin (0,1))
 (.r 8 ((uB b.da).c) fun x6 =>
 .br (x6&&(seen == (-1)))
 (.fin (0,4))
 (.r 10 ((yE r b seen).c) fun x7 =>
 .br (x7.2 != 0)
 (.fin (0,x7.2))
 (.r 13 ((nQ x7.1).c) fun x8 =>
 .br ((!x8)||(decide ((au (x7.1+sa)) > 100000)))
 (.fin (0,3))
 (.r 15 ((uD r b.JK (au (x7.1+sa))).c) fun x9 =>
 .fin (x9.1,x9.2)))))))
def ZA r b seen sa:=(pZ r b seen sa).val
theorem PE (r:ah) (b:qA) (seen:Int) (sa:Int):(pZ r b seen sa).cC (fun (x:Int × Int)=>x.2=0→0≤x.1∧x.1≤100001):=by
 refine Sk.aP _ ?_
 unfold pZ
 simp only [Sk.ct,Sk.aA,reduceCtorEq,ON,kk,kp,fT,uB,yE,pV,nQ,uD,zx,zw,AL,forall_eq,ai.Small,ah.Small,ah.bD,ah.fb,ah.fD,ah.cp,maxLen]
 intro hr
 refine ⟨fun _ h=>absurd h (by decide),fun h1=>⟨fun _ h=>absurd h (by decide),fun _=>⟨fun _ h=>absurd h (by decide),fun h3=>⟨fun _ h=>absurd h (by decide),fun _=>⟨fun h h'=>by rw [h'] at h; exact absurd h (by decide),fun h4=>⟨fun _ h=>absurd h (by decide),fun h5 himp=>?_⟩⟩⟩⟩⟩⟩
 simp only [LN] at h1 h5
 have e:∀ x g:Int,0≤x∧x≤100000→0≤g∧g≤20000→0≤au (x+g):=fun x g h1 h2=>by rw [ar (by omega) (by omega)]; omega
 have h6:0≤sa∧sa≤20000:=by simp only [LN] at h3; omega
 refine himp ⟨by omega,⟨e _ _ h5.1 h6,by omega⟩,(hr h1.1.1.1).1⟩
theorem Sf (r:ah) (b:qA) (seen:Int) (sa:Int) (aO:r.Small):(pZ r b seen sa).a6 (fun _=>True):=by
 simp only [ai.Small,ah.Small,ah.bD,ah.fb,ah.fD,ah.cp] at aO
 unfold pZ
 try simp only [fT,uB,yE,pV,nQ,uD,zx,zw,AL,ai.Small,ah.Small,ah.bD,ah.fb,ah.fD,ah.cp]
 exact GD
def Jf r b seen sa:=kp tok mixed Tryz.func112 [av r.cells,av b.cells,iv seen,iv sa] (fun x=>.fj [iv x.1,iv x.2]) true (ZA r b seen sa) (Sf r b seen sa) (PE r b seen sa)
def oC (r:ah) (forum:Int) (f:ai) (day:Int):Sk (Int) :=
 .r 1 ((bj f day).c) fun x1 =>
 .br (((x1.ae.length:Nat):Int) == 0)
 (.fin (-1))
 (.r 4 (.dep ((oZ r forum 6 x1 day).c) fun x2=>(pS x2).c) fun p7 =>
 .r 5 (.dep ((rB x1).c) fun x4=>(Jf r x1.aX x4 (bW p7.2 0)).c) fun p6 =>
 .br (p6.2.2 != 0)
 (.fin (-1))
 (.fin p6.2.1))
def qa r forum f day:=(oC r forum f day).val
theorem Kf (r:ah) (forum:Int) (f:ai) (day:Int) (aV:f.Small) (bg:r.bD) (aO:r.Small):(oC r forum f day).a6 (fun _=>True):=by
 simp only [ai.Small,ah.Small,ah.bD] at aV
 simp only [ai.Small,ah.Small,ah.bD] at bg
 simp only [ai.Small,ah.Small,ah.bD] at aO
 unfold oC
 try simp only [oZ,pS,bj,rB,Jf,ai.Small,ah.Small,ah.bD]
 exact nF
def cj r forum f day:=kk tok mixed Tryz.func88 [av r.cells,iv forum,av f.cells,iv day] (fun x=>iv x) true (oC r forum f day) (qa r forum f day) (u3 (Kf r forum f day))
def uE (r:ah) (forum:Int) (f:ai) (day:Int):Sk (fZ × Bool) :=
 .br ((decide (forum < 0))||(decide (forum≥((r.aN.length:Nat):Int))))
 (.fin (({ view:=({ all:=({ aX:=({ Ap:=0,qT:=0,eH:=0,sum:=0,aE:=0,da:=({ kind:=0,n:=0,unit:=0 }:qG),day:=0,bK:=0,JK:=0,need:=0,pF:=0,flags:=0,parts:=0 }:qA),ae:=[],aL:=[],aw:=[],facts:=[] }:ai),now:=({ aX:=({ Ap:=0,qT:=0,eH:=0,sum:=0,aE:=0,da:=({ kind:=0,n:=0,unit:=0 }:qG),day:=0,bK:=0,JK:=0,need:=0,pF:=0,flags:=0,parts:=0 }:qA),ae:=[],aL:=[],aw:=[],facts:=[] }:ai),day:=0,lead:=[] }:View),r:=({ eJ:=[],bo:=[],oW:=[],bU:=[],aN:=[],bR:=[],aI:=[],gq:=[] }:ah),forum:=0,due:=0 }:fZ),false))
 (.r 3 (.dep ((De f day).c) fun _=>(cj r forum f day).c) fun p3 =>
 .fin (({ view:=p3.1,r:=r,forum:=forum,due:=p3.2 }:fZ),true))
def aK r forum f day:=(uE r forum f day).val
theorem Jg (r:ah) (forum:Int) (f:ai) (day:Int):(uE r forum f day).cC (fun (x:fZ × Bool)=>x.2=true→x.1=⟨aQ f day,r,forum,qa r forum f day⟩∧0≤forum∧forum < (r.aN.length:Int)):=by
 unfold uE
 try simp only [cj,De,ai.Small,ah.Small,ah.bD]
 exact ET
theorem Fl (r:ah) (forum:Int) (f:ai) (day:Int):(fun (x:fZ × Bool)=>x.2=true→x.1=⟨aQ f day,r,forum,qa r forum f day⟩∧0≤forum∧forum < (r.aN.length:Int)) (aK r forum f day):=have h:=Sk.cI _ (Jg r forum f day); h
theorem WW (r:ah) (forum:Int) (f:ai) (day:Int) (aV:f.Small) (bg:r.bD) (aO:r.Small):(uE r forum f day).a6 (fun _=>True):=by
 simp only [ai.Small,ah.Small,ah.bD] at aV
 simp only [ai.Small,ah.Small,ah.bD] at bg
 simp only [ai.Small,ah.Small,ah.bD] at aO
 unfold uE
 try simp only [cj,De,ai.Small,ah.Small,ah.bD]
 exact nF
def Hv r forum f day:=kp tok mixed Tryz.func97 [av r.cells,iv forum,av f.cells,iv day] (fun x=>.fj [av x.1.cells,bv x.2]) false (aK r forum f day) (u3 (WW r forum f day)) (Jg r forum f day)
structure c9 where
 sign:Int
 kind:Int
 ke:Int
 binds:Int
 text:Int
 sum:Int
 nR:Bool
 deriving Inhabited
def c9.cells (c:c9):List D:=[dI c.sign,dI c.kind,dI c.ke,dI c.binds,dI c.text,dI c.sum,dB c.nR]
def c9.E:MK c9:=⟨c9.cells,7,fun _=>rfl,fun _=>rfl⟩
structure uF where
 r:ah
 forum:Int
 day:Int
 f:ai
 form:Int
 due:Int
 deriving Inhabited
def uF.cells (c:uF):List D:=c.r.cells++[dI c.forum,dI c.day]++c.f.cells++[dI c.form,dI c.due]
def yG (s:wo):Sk (Int) :=
 .br (s.err != 0)
 (.fin 0)
 (.br (!s.cell.known)
 (.fin 2)
 (.br (s.cell.n != 0)
 (.fin 1)
 (.fin 0)))
def acW s:=(yG s).val
theorem WX (s:wo):(yG s).a6 (fun _=>True):=by
 unfold yG
 exact od
def gu s:=kk tok mixed Tryz.func133 [av s.cells] (fun x=>iv x) true (yG s) (acW s) (u0 (WX s))
def qb (r:ah) (forum:Int) (f:ai) (day:Int):Sk (uF) :=
 .r 1 ((bj f day).c) fun x1 =>
 .r 2 (.dep ((oZ r forum 0 x1 day).c) fun x2=>.dep ((gu x2).c) fun _=>(cj r forum x1 day).c) fun p5 =>
 .fin ({ r:=r,forum:=forum,day:=day,f:=x1,form:=p5.2.1,due:=p5.2.2 }:uF)
def ZB r forum f day:=(qb r forum f day).val
theorem PF (r:ah) (forum:Int) (f:ai) (day:Int):(qb r forum f day).cC (fun (x:uF)=>x.f=aj f day∧x.r=r):=by
 unfold qb
 try simp only [oZ,cj,gu,bj,ai.Small,ah.Small,ah.bD]
 exact ET
theorem Sg (r:ah) (forum:Int) (f:ai) (day:Int) (aV:f.Small) (bg:r.bD) (aO:r.Small):(qb r forum f day).a6 (fun _=>True):=by
 simp only [ai.Small,ah.Small,ah.bD] at aV
 simp only [ai.Small,ah.Small,ah.bD] at bg
 simp only [ai.Small,ah.Small,ah.bD] at aO
 unfold qb
 try simp only [oZ,cj,gu,bj,ai.Small,ah.Small,ah.bD]
 exact nF
def pv r forum f day:=kp tok mixed Tryz.func120 [av r.cells,iv forum,av f.cells,iv day] (fun x=>av x.cells) false (ZB r forum f day) (u3 (Sg r forum f day)) (PF r forum f day)
def oD (f:ai) (day:Int):Sk ((List (Int × Bool))) :=
 .r 1 (.o [.rP (mkM dB)]) fun _ =>
 .bt
 (.loop (default:Sum ((List (Int × Bool))) ((List (Int × Bool)))) (fun i2=>i2.1≤f.aw.length) (fun i2=>f.aw.length - i2.1) ((0,([]:List (Int × Bool))):Nat × (List (Int × Bool)))
 (fun (i2:Nat × (List (Int × Bool)))=>⟨[(12,iv (i2.1:Int))],[(8,mpM dB i2.2)]⟩) fun i2 =>
 .lt 10 0 i2.1 f.aw.length
 (.r 4 (.p (bN (i2.1:Int) f.aw.length)) fun _ =>
 .br ((((f.aw.getD i2.1 default).kind) == 7)&&(decide (((f.aw.getD i2.1 default).day)≤day)))
 (.r 6 (.al (.t (I7 dB i2.2)) (.o [.rP (acG dB i2.2 ((f.aw.getD i2.1 default).at_) true)])) fun _ =>
 .r 7 .z fun _ =>
 .wi 12 (au ((i2.1:Int)+1)) ((i2.1+1:Nat):Int) <|
 .fin (.inr (i2.1+1,tc i2.2 ((f.aw.getD i2.1 default).at_) true)))
 (.nx 7 12 i2.1 (i2.1+1,i2.2)))
 (.fin (.inl (.inr i2.2))))
 (fun (b1:(List (Int × Bool)))=>⟨[],[(8,mpM dB b1)]⟩) fun b1 =>
 .fin b1
def eO f day:=(oD f day).val
theorem Kg (f:ai) (day:Int):(oD f day).a6 (fun _=>True):=by
 unfold oD
 exact nF
def qc f day:=kk tok mixed Tryz.func187 [av f.cells,iv day] (fun x=>pmM dB x) false (oD f day) (eO f day) (u0 (Kg f day))
def oE (f:ai) (sign:Int) (day:Int):Sk (Bool) :=
 .r 1 (.nK (.wh ((decide (sign≥0))&&(decide (sign < ((f.ae.length:Nat):Int)))) true ((qc f day).c)) fun x1=>.wh ((decide (sign≥0))&&(decide (sign < ((f.ae.length:Nat):Int)))) true (.al (.t (I7 dB x1)) (.o [.cast 21 (getM dB x1 sign false)]))) fun x1 =>
 .fin (((decide (sign≥0))&&(decide (sign < ((f.ae.length:Nat):Int))))&&(EO x1 sign false))
def Sh f sign day:=(oE f sign day).val
theorem Kh (f:ai) (sign:Int) (day:Int):(oE f sign day).a6 (fun _=>True):=by
 unfold oE
 try simp only [qc]
 exact od
def uG f sign day:=kk tok mixed Tryz.func154 [av f.cells,iv sign,iv day] (fun x=>bv x) true (oE f sign day) (Sh f sign day) (u0 (Kh f sign day))
def l9 (v:uF) (aR:Int) (sign:Int):Sk (Int) :=
 .r 2 (.dep ((gr v.r v.forum aR ({ file:=v.f,sign:=sign,iP:=sign,jh:=(-1),due:=v.due,day:=v.day }:fR)).c) fun x1=>(gu x1).c) fun p3 =>
 .fin p3.2
def Nq v aR sign:=(l9 v aR sign).val
theorem Fm (v:uF) (aR:Int) (sign:Int) (gX:v.f.Small) (mE:v.r.bD) (kH:v.r.Small):(l9 v aR sign).a6 (fun _=>True):=by
 unfold l9
 try simp only [gr,gu]
 exact nF
def fI v aR sign:=kk tok mixed Tryz.func156 [av v.cells,iv aR,iv sign] (fun x=>iv x) true (l9 v aR sign) (Nq v aR sign) (u3 (Fm v aR sign))
def jn:List Int→Int→Int
 | [],o=>o
 | x :: r,o=>if x=0 then 0 else if x=2 then jn r 2 else jn r o
theorem Fo {l:List Int} {n:Nat} (h:n < l.length) (o:Int):jn (l.drop n) o=if l.getD n default=0 then 0 else if l.getD n default=2 then jn (l.drop (n+1)) 2 else jn (l.drop (n+1)) o:=by
 rw [List.drop_eq_getElem_cons h]
 simp only [jn,List.getD,List.getElem?_eq_getElem h,Option.getD_some]
def qd (l:List Int):Sk (Int) :=
 .bind true (fun b1=>b1=jn l 1)
 (.loop (default:Sum (Int) (Int)) (fun i2=>i2.2≤l.length∧jn l 1=jn (l.drop i2.2) i2.1) (fun i2=>l.length - i2.2) ((1,0):Int × Nat)
 (fun (i2:Int × Nat)=>⟨[(3,iv i2.1),(8,iv (i2.2:Int))],[]⟩) fun i2 =>
 .lt 6 0 i2.2 l.length
 (.r 4 (.p (bN (i2.2:Int) l.length)) fun _ =>
 .br ((l.getD i2.2 default) == 0)
 (.fin (.inl (.inl 0)))
 (.br ((l.getD i2.2 default) == 2)
 (.nx 9 8 i2.2 (2,i2.2+1))
 (.nx 9 8 i2.2 (i2.1,i2.2+1))))
 (.fin (.inl (.inr i2.1))))
 (fun (b1:Int)=>⟨[(3,iv b1)],[]⟩) fun b1 =>
 .fin b1
def bind_join l:=(qd l).val
theorem PG (l:List Int):(qd l).cC (fun (x:Int)=>x=jn l 1):=by
 refine Sk.aP _ ?_
 unfold qd
 simp only [Sk.ct,Sk.aA,reduceCtorEq,ON,kk,kp,maxLen]
 all_goals simp only [LN] at *
 refine ⟨⟨⟨Nat.zero_le _,by simp⟩,fun i hi=>⟨fun hc _=>⟨fun h=>?_,fun h=>⟨fun h2 _=>⟨⟨by omega,?_⟩,by omega⟩,fun h2 _=>⟨⟨by omega,?_⟩,by omega⟩⟩⟩,fun hc=>?_⟩⟩,fun b hb=>hb⟩
 ·rw [hi.2,Fo (by omega),if_pos h]
 ·rw [hi.2,Fo (by omega),if_neg h,if_pos h2]
 ·rw [hi.2,Fo (by omega),if_neg h,if_neg h2]
 ·rw [hi.2,List.drop_eq_nil_of_le (by omega)]; rfl
theorem Si (l:List Int):(qd l).a6 (fun _=>True):=by
 refine Sk.aG _ ?_
 unfold qd
 simp only [Sk.gL,Sk.aA,reduceCtorEq,ON,kk,kp,maxLen]
 all_goals simp only [LN] at *
 have wi:∀ n:Nat,n < l.length→l.length≤9223372036854775807→au ((n:Int)+1)=((n+1:Nat):Int):=fun n h h1=>by rw [ar (by omega) (by omega)]; omega
 refine ⟨⟨Nat.zero_le _,by simp⟩,fun i hi hm=>⟨fun hc=>⟨by omega,fun _ h=>⟨fun h2 _=>⟨wi _ (by omega) (by omega),⟨by omega,?_⟩,by omega⟩,fun h2 _=>⟨wi _ (by omega) (by omega),⟨by omega,?_⟩,by omega⟩⟩⟩,fun hc=>?_⟩⟩
 ·rw [hi.2,Fo (by omega),if_neg h,if_pos h2]
 ·rw [hi.2,Fo (by omega),if_neg h,if_neg h2]
 ·rw [hi.2,List.drop_eq_nil_of_le (by omega)]; rfl
def sb l:=kp tok mixed Tryz.func155 [lv bS l] (fun x=>iv x) true (bind_join l) (u0 (Si l)) (PG l)
def kf (f:ai) (i:Int):Sk (Int) :=
 .bind true (fun b1=>f.pN→0≤b1∧b1≤1099511627776)
 (.loop (default:Sum (Int) (Int)) (fun i2=>i2.2≤f.aL.length∧(f.pN→0≤i2.1∧i2.1≤1099511627776)) (fun i2=>f.aL.length - i2.2) ((f.aX.sum,0):Int × Nat)
 (fun (i2:Int × Nat)=>⟨[(5,iv i2.1),(14,iv (i2.2:Int))],[]⟩) fun i2 =>
 .lt 12 0 i2.2 f.aL.length
 (.r 4 (.p (bN (i2.2:Int) f.aL.length)) fun _ =>
 .br (decide (((f.aL.getD i2.2 default).at_)≤i))
 (.nx 7 14 i2.2 ((f.aL.getD i2.2 default).sum,i2.2+1))
 (.nx 7 14 i2.2 (i2.1,i2.2+1)))
 (.fin (.inl (.inr i2.1))))
 (fun (b1:Int)=>⟨[(5,iv b1)],[]⟩) fun b1 =>
 .fin b1
def Jh f i:=(kf f i).val
theorem Ki (f:ai) (i:Int) (hP:f.pN):(kf f i).cC (fun (x:Int)=>0≤x∧x≤1099511627776):=by
 refine Sk.aP _ ?_
 unfold kf
 simp only [Sk.ct,Sk.aA,reduceCtorEq,ON,kk,kp,maxLen]
 refine ⟨⟨⟨Nat.zero_le _,fun h=>h.1⟩,fun i hi=>⟨fun hc _=>?_,fun _=>hi.2⟩⟩,fun b hb=>hb hP⟩
 simp only [LN] at hc
 exact ⟨fun _ _=>⟨⟨by omega,fun h=>h.2.1 _ (by omega)⟩,by omega⟩,fun _ _=>⟨⟨by omega,hi.2⟩,by omega⟩⟩
theorem Hw (f:ai) (i:Int):(fun (x:Int)=>(f.pN)→(0≤x∧x≤1099511627776)) (Jh f i):=fun hP=>Sk.cI _ (Ki f i hP)
theorem Nr (f:ai) (i:Int):(kf f i).a6 (fun _=>True):=by
 refine Sk.aG _ ?_
 unfold kf
 simp only [Sk.gL,Sk.aA,reduceCtorEq,ON,kk,kp,maxLen]
 refine ⟨⟨Nat.zero_le _,fun h=>h.1⟩,fun i hi hm=>⟨fun hc=>?_,fun _=>hi.2⟩⟩
 simp only [LN] at hc
 have hw:au ((i.2:Int)+1)=((i.2+1:Nat):Int):=(ar (by omega) (by omega)).trans (by omega)
 exact ⟨by omega,fun _=>⟨fun _ _=>⟨hw,⟨by omega,fun h=>h.2.1 _ (by omega)⟩,by omega⟩,fun _ _=>⟨hw,⟨by omega,hi.2⟩,by omega⟩⟩⟩
def wE f i:=kk tok mixed Tryz.func188 [av f.cells,iv i] (fun x=>iv x) true (kf f i) (Jh f i) (u0 (Nr f i)) (fun (x:Int)=>(f.pN)→(0≤x∧x≤1099511627776)) (Hw f i)
def gv (v:uF) (sign:Int):Sk (Int × Int) :=
 .r 1 ((wE v.f sign).c) fun x1 =>
 .bind true (fun b2=>b2=true→v.f.aL.length≠0)
 (.loop (default:Sum (Int × Int) (Bool)) (fun i3=>i3.2≤v.f.aL.length∧(i3.1=true→v.f.aL.length≠0)) (fun i3=>v.f.aL.length - i3.2) ((false,0):Bool × Nat)
 (fun (i3:Bool × Nat)=>⟨[(7,bv i3.1),(23,iv (i3.2:Int))],[]⟩) fun i3 =>
 .lt 21 0 i3.2 v.f.aL.length
 (.r 6 (.p (bN (i3.2:Int) v.f.aL.length)) fun _ =>
 .r 8 .z fun _ =>
 .wi 23 (au ((i3.2:Int)+1)) ((i3.2+1:Nat):Int) <|
 .fin (.inr (i3.1||(decide (((v.f.aL.getD i3.2 default).at_) > sign)),i3.2+1)))
 (.fin (.inl (.inr i3.1))))
 (fun (b2:Bool)=>⟨[(7,bv b2)],[]⟩) fun b2 =>
 .br (!b2)
 (.fin (0,x1))
 (.r 11 (.p (bN (au (((v.f.aL.length:Nat):Int) - 1)) v.f.aL.length)) fun _ =>
 .r 12 ((fI v 4 sign).c) fun x4 =>
 .br (x4 == 1)
 (.fin (x4,(v.f.aL.getD ((au (((v.f.aL.length:Nat):Int) - 1)).toNat) default).sum))
 (.br (x4 == 2)
 (.fin (x4,cS x1 ((v.f.aL.getD ((au (((v.f.aL.length:Nat):Int) - 1)).toNat) default).sum)))
 (.fin (x4,x1))))
def AN v sign:=(gv v sign).val
theorem Dr (v:uF) (sign:Int) (hP:v.f.pN∧v.f.Small):(gv v sign).cC (fun (x:Int × Int)=>0≤x.2∧x.2≤1099511627776):=by
 refine Sk.aP _ ?_
 unfold gv
 simp only [Sk.ct,Sk.aA,reduceCtorEq,ON,kk,kp,fI,wE,maxLen]
 intro x _ hx
 have hx:=hx hP.1
 refine ⟨⟨Nat.zero_le _,fun i hi=>⟨fun hc _ _=>?_,fun _=>hi.2⟩⟩,fun b hb=>⟨fun _=>hx,fun Ez _ y _=>?_⟩⟩
 ·simp only [LN] at hc
  exact ⟨⟨by omega,fun _=>by omega⟩,by omega⟩
 ·have hn:=hb (by simpa using Ez)
  have hl:=hP.2.2.1
  rw [ar (by omega) (by omega)]
  obtain ⟨h1,h2⟩:=hP.1.2.1 ((v.f.aL.length:Int) - 1).toNat (by omega)
  refine ⟨fun _=>⟨h1,h2⟩,fun _=>⟨fun _=>?_,fun _=>hx⟩⟩
  unfold cS
  split <;> omega
theorem B8 (v:uF) (sign:Int):(fun (x:Int × Int)=>(v.f.pN∧v.f.Small)→(0≤x.2∧x.2≤1099511627776)) (AN v sign):=fun hP=>Sk.cI _ (Dr v sign hP)
theorem Fp (v:uF) (sign:Int) (gX:v.f.Small) (mE:v.r.bD) (kH:v.r.Small):(gv v sign).a6 (fun _=>True):=by
 refine Sk.aG _ ?_
 unfold gv
 simp only [Sk.gL,Sk.aA,reduceCtorEq,ON,kk,kp,fI,wE,maxLen]
 intro x _ _
 refine ⟨⟨Nat.zero_le _,fun i hi hm=>⟨fun hc=>?_,fun _=>hi.2⟩⟩,fun b hb Ez=>?_⟩
 ·simp only [LN] at hc
  exact ⟨by omega,fun _ _=>⟨(ar (by omega) (by omega)).trans (by omega),⟨by omega,fun _=>by omega⟩,by omega⟩⟩
 ·have hn:=hb (by simpa using Ez)
  have hl:=gX.2.1
  rw [ar (by omega) (by omega)]
  exact ⟨by omega,fun _=>⟨gX,mE,kH⟩⟩
def qZ v sign:=kk tok mixed Tryz.func157 [av v.cells,iv sign] (fun x=>.fj [iv x.1,iv x.2]) true (gv v sign) (AN v sign) (u3 (Fp v sign)) (fun (x:Int × Int)=>(v.f.pN∧v.f.Small)→(0≤x.2∧x.2≤1099511627776)) (B8 v sign)
def eW (v:uF) (sign:Int):Sk (c9) :=
 .r 1 (.p (bN sign v.f.ae.length)) fun _ =>
 .r 3 ((uG v.f sign v.day).c) fun x1 =>
 .bind false (fun _=>True)
 (.br (!x1)
 (.r 4 (.dep ((fI v 1 sign).c) fun x3=>.dep ((fI v 2 sign).c) fun x4=>.al (.o [.dn (dH dV [v.form,x3,x4])]) ((sb [v.form,x3,x4]).c)) fun p6 =>
 .fin (.inr p6.2.2))
 (.fin (.inr 0)))
 (fun (b2:Int)=>⟨[],[(6,.box [iv sign,iv ((v.f.ae.getD sign.toNat default).kind),iv ((v.f.ae.getD sign.toNat default).dS),iv b2,iv 0,iv 0,bv ((((v.f.ae.getD sign.toNat default).kind) != 1)&&((aD .i64 ((v.f.ae.getD sign.toNat default).flags) 1) == 0))])]⟩) fun b2 =>
 .r 5 ((qZ v sign).c) fun x7 =>
 .br ((((v.f.ae.getD sign.toNat default).kind) == 1)||(((v.f.ae.getD sign.toNat default).kind) == 4))
 (.fin ({ sign:=sign,kind:=(v.f.ae.getD sign.toNat default).kind,ke:=(v.f.ae.getD sign.toNat default).dS,binds:=b2,text:=x7.1,sum:=cS x7.2 ((v.f.ae.getD sign.toNat default).sum),nR:=(((v.f.ae.getD sign.toNat default).kind) != 1)&&((aD .i64 ((v.f.ae.getD sign.toNat default).flags) 1) == 0) }:c9))
 (.fin ({ sign:=sign,kind:=(v.f.ae.getD sign.toNat default).kind,ke:=(v.f.ae.getD sign.toNat default).dS,binds:=b2,text:=x7.1,sum:=x7.2,nR:=(((v.f.ae.getD sign.toNat default).kind) != 1)&&((aD .i64 ((v.f.ae.getD sign.toNat default).flags) 1) == 0) }:c9))
def xF v sign:=(eW v sign).val
theorem AO (v:uF) (sign:Int) (hP:v.f.pN∧v.f.Small∧0≤sign∧sign < (v.f.ae.length:Int)):(eW v sign).cC (fun (x:c9)=>0≤x.sum∧x.sum≤1099511627776):=by
 refine Sk.aP _ ?_
 unfold eW
 simp only [Sk.ct,Sk.aA,reduceCtorEq,ON,kk,kp,sb,fI,qZ,uG,maxLen]
 intro _ x _ b _ y _ hy
 have hy:=hy ⟨hP.1,hP.2.1⟩
 obtain ⟨h1,h2⟩:=hP.1.2.2.1 sign.toNat (by omega)
 exact ⟨fun _=>by unfold cS; split <;> omega,fun _=>hy⟩
theorem zJ (v:uF) (sign:Int):(fun (x:c9)=>(v.f.pN∧v.f.Small∧0≤sign∧sign < (v.f.ae.length:Int))→(0≤x.sum∧x.sum≤1099511627776)) (xF v sign):=fun hP=>Sk.cI _ (AO v sign hP)
theorem B9 (v:uF) (sign:Int) (hs:0≤sign∧sign < (v.f.ae.length:Int)) (gX:v.f.Small) (mE:v.r.bD) (kH:v.r.Small):(eW v sign).a6 (fun _=>True):=by
 unfold eW
 try simp only [sb,fI,qZ,uG]
 exact nF
def fK v sign:=kk tok mixed Tryz.func121 [av v.cells,iv sign] (fun x=>av x.cells) true (eW v sign) (xF v sign) (u4 (B9 v sign)) (fun (x:c9)=>(v.f.pN∧v.f.Small∧0≤sign∧sign < (v.f.ae.length:Int))→(0≤x.sum∧x.sum≤1099511627776)) (zJ v sign)
def ln (r:ah) (forum:Int) (f:ai) (day:Int):Sk ((List c9)) :=
 .r 1 ((pv r forum f day).c) fun x1 =>
 .bind true (fun b2=>b2.length=x1.f.ae.length)
 (.loop (default:Sum ((List c9)) ((List c9))) (fun i3=>i3.2≤x1.f.ae.length∧i3.1.length=i3.2) (fun i3=>x1.f.ae.length - i3.2) (([],0):(List c9) × Nat)
 (fun (i3:(List c9) × Nat)=>⟨[(10,ow 100002 i3.1),(21,iv (i3.2:Int))],[(100002,aU 215 7 c9.cells i3.1)]⟩) fun i3 =>
 .lt 9 25 i3.2 x1.f.ae.length
 (.r 6 (.nK ((fK x1 (i3.2:Int)).c) fun x4=>.al (.o [.dn (dH c9.E [x4])]) (.al (.o [.dn (kE c9.E i3.1 [x4])]) (.al (.t (c9.E.mT [x4])) (.p (vE i3.1.length [x4].length 56))))) fun x4 =>
 .nx 7 21 i3.2 (i3.1++[x4],i3.2+1))
 (.fin (.inl (.inr i3.1))))
 (fun (b2:(List c9))=>⟨[(10,ow 100001 b2)],[(100001,aU 215 7 c9.cells b2)]⟩) fun b2 =>
 .fin b2
def cu r forum f day:=(ln r forum f day).val
theorem Hy (r:ah) (forum:Int) (f:ai) (day:Int):(ln r forum f day).cC (fun (x:(List c9))=>x.length=(aj f day).ae.length):=by
 unfold ln
 try simp only [pv,fK]
 exact ET
theorem Kj (r:ah) (forum:Int) (f:ai) (day:Int) (aV:f.Small) (bg:r.bD) (aO:r.Small):(ln r forum f day).a6 (fun _=>True):=by
 refine Sk.aG _ ?_
 unfold ln
 simp only [Sk.gL,Sk.aA,reduceCtorEq,ON,kk,kp,pv,fK,maxLen]
 refine ⟨⟨aV,bg,aO⟩,fun x _ hx=>?_⟩
 have hS:x.f.Small:=by rw [hx.1]; exact Aw aV day
 have hB:x.r.bD:=by rw [hx.2]; exact bg
 have hR:x.r.Small:=by rw [hx.2]; exact aO
 have hS1:=hS.1
 all_goals exact okT
def uH r forum f day:=kp tok mixed Tryz.func98 [av r.cells,iv forum,av f.cells,iv day] (fun x=>lv c9.cells x) false (cu r forum f day) (u3 (Kj r forum f day)) (Hy r forum f day)
structure QR where
 ae:List Int
 iP:Int
 broken:Int
 WY:Bool
 abq:Int
 late:List Int
 deriving Inhabited
def QR.cells (c:QR):List D:=[mR bS c.ae,dI c.iP,dI c.broken,dB c.WY,dI c.abq,mR bS c.late]
def js (f:ai) (day:Int):Sk (Int × Bool) :=
 .bt
 (.loop (default:Sum (Int × Bool) (Int × Bool)) (fun i2=>i2.2.2≤f.aw.length) (fun i2=>f.aw.length - i2.2.2) ((0,false,0):Int × Bool × Nat)
 (fun (i2:Int × Bool × Nat)=>⟨[(6,iv i2.1),(7,bv i2.2.1),(13,iv (i2.2.2:Int))],[]⟩) fun i2 =>
 .lt 11 0 i2.2.2 f.aw.length
 (.r 4 (.p (bN (i2.2.2:Int) f.aw.length)) fun _ =>
 .br ((((((f.aw.getD i2.2.2 default).kind) != 1)&&(((f.aw.getD i2.2.2 default).kind) != 3))&&(((f.aw.getD i2.2.2 default).kind) != 4))||(decide (((f.aw.getD i2.2.2 default).day) > day)))
 (.nx 8 13 i2.2.2 (i2.1,i2.2.1,i2.2.2+1))
 (.br ((!i2.2.1)||(decide (((f.aw.getD i2.2.2 default).day) < i2.1)))
 (.nx 8 13 i2.2.2 ((f.aw.getD i2.2.2 default).day,true,i2.2.2+1))
 (.nx 8 13 i2.2.2 (i2.1,i2.2.1,i2.2.2+1))))
 (.fin (.inl (.inr (i2.1,i2.2.1)))))
 (fun (b1:Int × Bool)=>⟨[(6,iv b1.1),(7,bv b1.2)],[]⟩) fun b1 =>
 .fin (b1.1,b1.2)
def jt f day:=(js f day).val
theorem AP (f:ai) (day:Int):(js f day).a6 (fun _=>True):=by
 unfold js
 exact nF
def jQ f day:=kk tok mixed Tryz.func158 [av f.cells,iv day] (fun x=>.fj [iv x.1,bv x.2]) true (js f day) (jt f day) (u0 (AP f day))
def iE (f:ai) (part:Int) (day:Int):Sk (Unit) :=
 .fin ()
def uI f part day:=(iE f part day).val
theorem qH (f:ai) (part:Int) (day:Int):uI f part day=():=rfl
theorem zK (f:ai) (part:Int) (day:Int):(iE f part day).a6 (fun _=>True):=by
 unfold iE
 exact od
def ju f part day:=kk tok mixed Tryz.func159 [av f.cells,iv part,iv day] (fun x=>.fn 189 [.ref f.cells,.ref [dI day],.ref [dI part]]) false (iE f part day) (uI f part day) (u0 (zK f part day))
end
end Go.Proofs.YtkbkoaoolojhaaaGreatDoor
