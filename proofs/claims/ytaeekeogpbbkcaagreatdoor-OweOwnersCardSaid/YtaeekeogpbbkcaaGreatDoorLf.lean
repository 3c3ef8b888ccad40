/- Functions, as sketches. -/
import Derived.Test.YtaeekeogpbbkcaaGreatDoorLe
import Derived.RangeFuncNested
import Derived.RangeFuncBound
import Derived.RangeFuncBox
import Derived.RangeFuncFrom
import Derived.RangeFuncCalls
import Derived.RangeFuncLeaves
import Derived.Shelf.Abstract
import Derived.OwnWalkIn
import Derived.TacticsInMore
import Derived.LoopNIn
import Derived.LoopIn
set_option linter.unusedSimpArgs false
set_option linter.unusedVariables false
set_option maxHeartbeats 1000000
set_option maxRecDepth 100000
namespace Go.Proofs.YtaeekeogpbbkcaaGreatDoor
noncomputable section
open Go Go.Av
inductive tw:Term→Int→Prop
 | int {n:Int} (h : -1099511627776≤n∧n≤1099511627776):tw ⟨0,n,[]⟩ 0
 | bool {n:Int} (h:0≤n∧n≤1):tw ⟨1,n,[]⟩ 1
 | var {n:Int} (h:0≤n∧n≤19):tw ⟨2,n,[]⟩ (if n < 7 then 0 else 1)
 | not {a:Term}:tw a 1→tw ⟨3,0,[a]⟩ 1
 | Ri {op:Int} {a b:Term} (h:op=4∨op=5):tw a 1→tw b 1→tw ⟨op,0,[a,b]⟩ 1
 | ite {a b c:Term} {k:Int}:tw a 1→tw b k→tw c k→tw ⟨6,0,[a,b,c]⟩ k
 | less {a b:Term}:tw a 0→tw b 0→tw ⟨7,0,[a,b]⟩ 1
 | eq {a b:Term} {k:Int}:tw a k→tw b k→tw ⟨8,0,[a,b]⟩ 1
 | arith {op:Int} {a b:Term} (h:9≤op∧op≤13):tw a 0→tw b 0→tw ⟨op,0,[a,b]⟩ 0
theorem tw.kind {t:Term} {k:Int} (h:tw t k):k=0∨k=1:=by
 induction h with
 | var _=>split <;> simp
 | ite _ _ _ _ ih _=>exact ih
 | _=>simp
def sE (rv:Term→Int × Int) (rp:Term→Prop) (rf:∀ (t:Term),rp t→jl Tryz.prog 254 [av t.cells] [] (.fb [iv ((rv t).1),iv ((rv t).2)]) []) (t:Term):fD (Int × Int):=⟨Tryz.prog,254,[av t.cells],fun x=>.fb [iv x.1,iv x.2],true,rv t,rp t,rf t,fun _=>True,trivial⟩
def dS (rv:Term→Int × Int) (rp:Term→Prop) (rf:∀ (t:Term),rp t→jl Tryz.prog 254 [av t.cells] [] (.fb [iv ((rv t).1),iv ((rv t).2)]) []) (t:Term):Sk (Int × Int) :=
 .r 1 (.aj (.o [.cU (mkC cN t.args.length 0)]) (.p (WK ((t.args.length:Nat):Int) 8))) fun _ =>
 .bind true (fun b1=>b1.length=t.args.length∧∀ q,q < t.args.length→(rv (t.args.getD q default)).2=0∧b1.getD q default=(rv (t.args.getD q default)).1)
 (.loop (default:Sum (Int × Int) ((List Int))) (fun i2=>i2.1.length=t.args.length∧i2.2≤t.args.length∧∀ q,q < i2.2→(rv (t.args.getD q default)).2=0∧i2.1.getD q default=(rv (t.args.getD q default)).1) (fun i2=>t.args.length - i2.2) ((List.replicate t.args.length (0:Int),0):(List Int) × Nat)
 (fun (i2:(List Int) × Nat)=>⟨[(4,ow 100002 i2.1),(20,iv (i2.2:Int))],[(100002,cp 3 1 bJ i2.1)]⟩) fun i2 =>
 .lt 18 0 i2.2 t.args.length
 (.r 4 (.aj (.p (bM (i2.2:Int) t.args.length)) (.o [.cast 23 (Zv (Term.EI (t.args.getD i2.2 default)))])) fun _ =>
 .r 5 ((sE rv rp rf (t.args.getD i2.2 default)).c) fun x3 =>
 .br (x3.2 != 0)
 (.fin (.inl (.inl (0,x3.2))))
 (.r 8 (.aj (.p (bM (i2.2:Int) i2.1.length)) (.aj (.o [.cU (j6 cN i2.1 i2.2 x3.1)]) (.p (i2.2 < i2.1.length)))) fun _ =>
 .wn 100002 i2.1.length (i2.1.set i2.2 x3.1).length <|
 .nx 9 20 i2.2 (i2.1.set i2.2 x3.1,i2.2+1)))
 (.fin (.inl (.inr i2.1))))
 (fun (b1:(List Int))=>⟨[(4,ow 100001 b1)],[(100001,cp 3 1 bJ b1)]⟩) fun b1 =>
 .br ((decide (t.op < 0))||(decide (t.op > 13)))
 (.fin (0,1))
 (.br (((t.op == 0)||(t.op == 1))||(t.op == 2))
 (.r 13 ((xk t).c) fun x4 =>
 .fin (x4.1,x4.2))
 (.r 14 ((qA t.op).c) fun x5 =>
 .br ((((b1.length:Nat):Int) != ((x5.args.length:Nat):Int))||(t.n != 0))
 (.fin (0,2))
 (.bind true (fun b6=>∀ q,q < x5.args.length→(x5.args.getD q default = -1→b1.getD q default=b6∨b1.getD q default = -1)∧(x5.args.getD q default≠-1→b1.getD q default=x5.args.getD q default))
 (.loop (default:Sum (Int × Int) (Int)) (fun i7=>i7.2≤x5.args.length∧∀ q,q < i7.2→(x5.args.getD q default = -1→b1.getD q default=i7.1∨b1.getD q default = -1)∧(x5.args.getD q default≠-1→b1.getD q default=x5.args.getD q default)) (fun i7=>x5.args.length - i7.2) (((-1),0):Int × Nat)
 (fun (i7:Int × Nat)=>⟨[(10,iv i7.1),(82,iv (i7.2:Int))],[]⟩) fun i7=>let aV:=(i7.2:Int); let az:=(x5.args.getD i7.2 default);
 .lt 80 0 i7.2 x5.args.length
 (.r 20 (.p (bM aV x5.args.length)) fun _ =>
 .bind false (fun b8=>b8=if az = -1∧i7.1 = -1 then b1.getD i7.2 default else i7.1)
 (.br ((az == (-1))&&(i7.1 == (-1)))
 (.r 22 (.aj (.p (bM aV b1.length)) (.p (i7.2 < b1.length))) fun _ =>
 .fin (.inr (b1.getD i7.2 default)))
 (.fin (.inr i7.1)))
 (fun (b8:Int)=>⟨[(10,iv b8)],[]⟩) fun b8 =>
 .bind false (fun b9=>b9=if az = -1 then b8 else az)
 (.br (az == (-1))
 (.fin (.inr b8))
 (.fin (.inr az)))
 (fun (b9:Int)=>⟨[(12,iv b9)],[]⟩) fun b9 =>
 .r 25 (.aj (.p (bM aV b1.length)) (.p (i7.2 < b1.length))) fun _ =>
 .br ((b1.getD i7.2 default) != b9)
 (.fin (.inl (.inl (0,11))))
 (.nx 27 82 i7.2 (b8,i7.2+1)))
 (.fin (.inl (.inr i7.1))))
 (fun (b6:Int)=>⟨[(10,iv b6)],[]⟩) fun b6 =>
 .br (x5.result == (-1))
 (.fin (b6,0))
 (.fin (x5.result,0)))))
def aG:Nat→Term→Int × Int
 | 0,_=>default
 | fu+1,t=>(dS (aG fu) (fun _=>False) (fun _=>fun h=>h.elim) t).val
theorem NI (fu:Nat) (rf:∀ (t:Term),t.depth≤fu∧(vI t)→jl Tryz.prog 254 [av t.cells] [] (.fb [iv ((aG fu t).1),iv ((aG fu t).2)]) []) (t:Term) (hm:t.depth≤fu+1) (hth:vI t):(dS (aG fu) (fun t=>t.depth≤fu∧(vI t)) rf t).bq (fun _=>True):=by
 refine Sk.aO _ ?_
 unfold dS
 simp only [Sk.gx,Sk.aD,reduceCtorEq,ON,kk,kp,xk,qA,sE,maxLen]
 have aeK:=hth
 obtain ⟨ht1,ht2⟩:=aeK
 refine ⟨⟨by omega,by omega,by omega⟩,fun _=>⟨⟨⟨by simp,by omega,fun q hq=>absurd hq (by omega)⟩,fun i hi hl=>⟨fun hc=>⟨⟨by omega,of_decide_eq_true hc⟩,fun _=>⟨⟨?_,?_⟩,fun x hx he=>⟨⟨⟨by omega,?_⟩,?_⟩,fun _=>⟨by simp,fun _=>⟨?_,⟨⟨by simp [hi.1],?_,fun q hq=>?_⟩,?_⟩⟩⟩⟩⟩⟩,fun hc=>⟨hi.1,fun q hq=>hi.2.2 q (by simp only [LN] at hc; omega)⟩⟩⟩,fun b hb hc DF x hx hl=>⟨⟨by omega,fun q hq=>absurd hq (by omega)⟩,fun i hi hl2=>⟨fun hc=>⟨⟨by omega,of_decide_eq_true hc⟩,fun _=>⟨⟨fun h=>⟨⟨⟨by omega,?_⟩,?_⟩,fun _=>?_⟩,fun h=>?_⟩,fun y _ hy=>⟨⟨fun h=>?_,fun h=>?_⟩,fun z _ hz=>⟨⟨⟨by omega,?_⟩,?_⟩,fun _=>fun he _=>⟨?_,⟨⟨?_,fun q hq=>?_⟩,?_⟩⟩⟩⟩⟩⟩,fun hc q hq=>hi.2 q (by simp only [LN] at hc; omega)⟩⟩⟩⟩
 all_goals (try simp only [LN] at hc)
 ·have:=t.gU i.2 (by omega); omega
 ·exact ht2 i.2 (by omega)
 ·omega
 ·omega
 ·exact aq (by omega) (by omega)
 ·omega
 ·simp only [LN] at he
  by_cases e:q=i.2
  ·subst e
   subst hx
   exact ⟨he,pX _ (by omega) _ _⟩
  ·have:=hi.2.2 q (by omega)
   refine ⟨this.1,?_⟩
   rw [← this.2]
   exact pY _ e _ _
 ·omega
 all_goals (try simp only [LN] at hl)
 ·omega
 ·omega
 ·simp only [LN] at h
  rw [if_pos h]
 ·rw [if_neg]
  simp only [LN] at h
  intro ⟨h1,h2⟩
  rcases h with h | h
  ·exact h h1
  ·exact h h2
 ·simp only [LN] at h; rw [if_pos h]
 ·simp only [LN] at h; rw [if_neg h]
 ·omega
 ·omega
 ·exact aq (by omega) (by omega)
 ·omega
 ·simp only [LN] at he
  by_cases e:q=i.2
  ·subst e
   refine ⟨fun h=>?_,fun h=>?_⟩
   ·rw [if_pos h] at hz; left; rw [he,hz]
   ·rw [if_neg h] at hz; rw [he,hz]
  ·have:=hi.2 q (by omega)
   refine ⟨fun h=>?_,this.2⟩
   rcases this.1 h with h1 | h1
   ·by_cases c:x.args.getD i.snd default = -1∧i.fst = -1
    ·right; rw [h1,c.2]
    ·rw [if_neg c] at hy; left; rw [h1,hy]
   ·exact .inr h1
 ·omega
theorem LM (fu:Nat) (rp:Term→Prop) (rf:∀ (t:Term),rp t→jl Tryz.prog 254 [av t.cells] [] (.fb [iv ((aG fu t).1),iv ((aG fu t).2)]) []) (t:Term):(dS (aG fu) rp rf t).val=aG (fu+1) t:=by kernel_rfl
theorem LO (fu:Nat):∀ (t:Term),t.depth≤fu→(vI t)→jl Tryz.prog 254 [av t.cells] [] (.fb [iv ((aG fu t).1),iv ((aG fu t).2)]) []:=by
 induction fu with
 | zero=>intro t hm h0; exact absurd hm (by have:=Term.gK t; omega)
 | succ fu ih =>
  intro t hm h0
  have h:jl Tryz.prog 254 [av t.cells] [] (.fb [iv (((dS (aG fu) (fun t=>t.depth≤fu∧(vI t)) (fun t h=>ih t h.1 h.2) t).val).1),iv (((dS (aG fu) (fun t=>t.depth≤fu∧(vI t)) (fun t h=>ih t h.1 h.2) t).val).2)]) []:=jl.sk tok mixed (fun x=>.fb [iv x.1,iv x.2]) (fun _=>[]) Tryz.func254 rfl (by kernel_rfl) 3000 (dS (aG fu) (fun t=>t.depth≤fu∧(vI t)) (fun t h=>ih t h.1 h.2) t) (by kernel_rfl) (NI fu _ t hm h0)
  rw [LM] at h
  exact h
def EM (t:Term):Int × Int:=aG (t.depth) t
theorem NJ (t:Term) (hth:vI t):jl Tryz.prog 254 [av t.cells] [] (.fb [iv ((EM t).1),iv ((EM t).2)]) []:=LO _ t (Nat.le_refl _) hth
def z8 (t:Term):fD (Int × Int):=⟨Tryz.prog,254,[av t.cells],fun x=>.fb [iv x.1,iv x.2],true,EM t,(vI t),fun h=>NJ t h,fun _=>True,trivial⟩
theorem JD (t:Term) (DF:t.op=0∨t.op=1∨t.op=2) (h:(iJ t).2=0):tw t (iJ t).1:=by
 obtain ⟨op,n,args⟩:=t
 simp only at DF
 revert h
 cases args with
 | cons a r =>
  intro h
  exfalso
  revert h
  simp only [iJ,jA,Sk.bK,Sk.bg]
  rw [show decide ((((a :: r).length:Nat):Int) > 0)=true from by simp]
  simp
 | nil =>
  rcases DF with rfl | rfl | rfl
  ·simp only [iJ,jA,Sk.bK,Sk.bg,Sk.cE,fD.wG,kk,kp,j0,tv]
   intro h
   by_cases c:fB (dk n (-1099511627776)) 1099511627776=n
   ·have : -1099511627776≤n∧n≤1099511627776:=by simp only [fB,dk] at c; omega
    have e:(fB (dk n (-1099511627776)) 1099511627776 != n)=false:=by simpa using c
    rw [e]
    exact tw.int this
   ·have e:(fB (dk n (-1099511627776)) 1099511627776 != n)=true:=by simpa using c
    rw [e] at h
    exact absurd (show (3:Int)=0 from h) (by decide)
  ·simp only [iJ,jA,Sk.bK,Sk.bg,Sk.cE,fD.wG,kk,kp,j0,tv]
   intro h
   by_cases c:n < 0∨n > 1
   ·have e:(decide (n < 0)||decide (n > 1))=true:=by simpa using c
    rw [e] at h
    exact absurd (show (3:Int)=0 from h) (by decide)
   ·have:0≤n∧n≤1:=by omega
    have e:(decide (n < 0)||decide (n > 1))=false:=by simp; omega
    rw [e]
    exact tw.bool this
  ·intro h
   have e:iJ ⟨2,n,[]⟩=(if n < 0∨n > 19 then (0,10) else if n < 7 then (0,0) else (1,0)):=by
    simp only [iJ,jA,Sk.bK,Sk.bg,Sk.cE,fD.wG,kk,kp,kB,z7,jn]
    by_cases c:n < 0∨n > 19
    ·have:(decide (n < 0)||decide (n > 19))=true:=by simpa using c
     simp [this,c]
    ·have:(decide (n < 0)||decide (n > 19))=false:=by simp; omega
     by_cases d:n < 7 <;> simp [this,c,d]
   rw [e] at h ⊢
   by_cases c:n < 0∨n > 19
   ·simp [c] at h
   ·have:0≤n∧n≤19:=by omega
    have:=tw.var this
    by_cases d:n < 7 <;> simpa [c,d] using this
theorem aeL:bp 3=⟨[1],1⟩:=by kernel_rfl
theorem aeM:bp 4=⟨[1,1],1⟩:=by kernel_rfl
theorem aeN:bp 5=⟨[1,1],1⟩:=by kernel_rfl
theorem aeO:bp 6=⟨[1,-1,-1],-1⟩:=by kernel_rfl
theorem aeP:bp 7=⟨[0,0],1⟩:=by kernel_rfl
theorem aeQ:bp 8=⟨[-1,-1],1⟩:=by kernel_rfl
theorem abn:bp 9=⟨[0,0],0⟩:=by kernel_rfl
theorem Zy:bp 10=⟨[0,0],0⟩:=by kernel_rfl
theorem Zz:bp 11=⟨[0,0],0⟩:=by kernel_rfl
theorem ZA:bp 12=⟨[0,0],0⟩:=by kernel_rfl
theorem ZB:bp 13=⟨[0,0],0⟩:=by kernel_rfl
theorem aeR (op:Int) (h:9≤op∧op≤13):bp op=⟨[0,0],0⟩:=by
 have:op=9∨op=10∨op=11∨op=12∨op=13:=by omega
 rcases this with e | e | e | e | e <;> rw [e]
 ·exact abn
 ·exact Zy
 ·exact Zz
 ·exact ZA
 ·exact ZB
theorem abo {α:Type} {l:List α} (h:l.length=1):∃ a,l=[a]:=by
 match l,h with
 | [a],_=>exact ⟨a,rfl⟩
theorem LP {α:Type} {l:List α} (h:l.length=2):∃ a b,l=[a,b]:=by
 match l,h with
 | [a,b],_=>exact ⟨a,b,rfl⟩
theorem abp {α:Type} {l:List α} (h:l.length=3):∃ a b c,l=[a,b,c]:=by
 match l,h with
 | [a,b,c],_=>exact ⟨a,b,c,rfl⟩
theorem LQ {t:Term} {b1:List Int} {common:Int} (DF:3≤t.op∧t.op≤13) (hn:t.n=0) (hl:b1.length=(bp t.op).args.length) (hb:b1.length=t.args.length) (Q0:∀ q,q < t.args.length→tw (t.args.getD q default) (b1.getD q default))
  (hc:∀ q,q < (bp t.op).args.length→((bp t.op).args.getD q default = -1→b1.getD q default=common∨b1.getD q default = -1)∧((bp t.op).args.getD q default≠-1→b1.getD q default=(bp t.op).args.getD q default)) :
  tw t (if (bp t.op).result = -1 then common else (bp t.op).result):=by
 obtain ⟨op,n,args⟩:=t
 simp only at DF hn hl hb Q0 hc ⊢
 subst hn
 have aeS:op=3∨op=4∨op=5∨op=6∨op=7∨op=8∨(9≤op∧op≤13):=by omega
 rcases aeS with rfl | rfl | rfl | rfl | rfl | rfl | h9
 ·rw [aeL] at hl hc ⊢
  obtain ⟨a,rfl⟩:=abo (hb.symm.trans hl)
  have h0:=Q0 0 (by simp)
  have c0:=hc 0 (by simp)
  simp at h0 c0 ⊢
  rw [c0] at h0
  exact .not h0
 ·rw [aeM] at hl hc ⊢
  obtain ⟨a,b,rfl⟩:=LP (hb.symm.trans hl)
  have h0:=Q0 0 (by simp); have h1:=Q0 1 (by simp)
  have c0:=hc 0 (by simp); have c1:=hc 1 (by simp)
  simp at h0 h1 c0 c1 ⊢
  rw [c0] at h0; rw [c1] at h1
  exact .Ri (.inl rfl) h0 h1
 ·rw [aeN] at hl hc ⊢
  obtain ⟨a,b,rfl⟩:=LP (hb.symm.trans hl)
  have h0:=Q0 0 (by simp); have h1:=Q0 1 (by simp)
  have c0:=hc 0 (by simp); have c1:=hc 1 (by simp)
  simp at h0 h1 c0 c1 ⊢
  rw [c0] at h0; rw [c1] at h1
  exact .Ri (.inr rfl) h0 h1
 ·rw [aeO] at hl hc ⊢
  obtain ⟨a,b,c,rfl⟩:=abp (hb.symm.trans hl)
  have h0:=Q0 0 (by simp); have h1:=Q0 1 (by simp); have h2:=Q0 2 (by simp)
  have c0:=hc 0 (by simp); have c1:=hc 1 (by simp); have c2:=hc 2 (by simp)
  simp at h0 h1 h2 c0 c1 c2 ⊢
  have k1:=h1.kind; have k2:=h2.kind
  rw [c0] at h0
  have e1:b1[1]?.getD 0=common:=by omega
  have e2:b1[2]?.getD 0=common:=by omega
  rw [e1] at h1; rw [e2] at h2
  exact .ite h0 h1 h2
 ·rw [aeP] at hl hc ⊢
  obtain ⟨a,b,rfl⟩:=LP (hb.symm.trans hl)
  have h0:=Q0 0 (by simp); have h1:=Q0 1 (by simp)
  have c0:=hc 0 (by simp); have c1:=hc 1 (by simp)
  simp at h0 h1 c0 c1 ⊢
  rw [c0] at h0; rw [c1] at h1
  exact .less h0 h1
 ·rw [aeQ] at hl hc ⊢
  obtain ⟨a,b,rfl⟩:=LP (hb.symm.trans hl)
  have h0:=Q0 0 (by simp); have h1:=Q0 1 (by simp)
  have c0:=hc 0 (by simp); have c1:=hc 1 (by simp)
  simp at h0 h1 c0 c1 ⊢
  have k1:=h0.kind; have k2:=h1.kind
  have e1:b1[0]?.getD 0=common:=by omega
  have e2:b1[1]?.getD 0=common:=by omega
  rw [e1] at h0; rw [e2] at h1
  exact .eq h0 h1
 ·rw [aeR op h9] at hl hc ⊢
  obtain ⟨a,b,rfl⟩:=LP (hb.symm.trans hl)
  have h0:=Q0 0 (by simp); have h1:=Q0 1 (by simp)
  have c0:=hc 0 (by simp); have c1:=hc 1 (by simp)
  simp at h0 h1 c0 c1 ⊢
  rw [c0] at h0; rw [c1] at h1
  exact .arith h9 h0 h1
theorem rP:∀ (fu:Nat) (t:Term),t.depth≤fu→(aG fu t).2=0→tw t (aG fu t).1
 | 0,t,hd,_=>absurd hd (by have:=t.gK; omega)
 | fu+1,t,hd,h=>by
  have ih:=rP fu
  have key:aG (fu+1) t=(dS (aG fu) (fun _=>False) (fun _ h=>h.elim) t).val:=rfl
  rw [key] at h ⊢
  refine (Sk.dc (dS (aG fu) (fun _=>False) (fun _ h=>h.elim) t) (L:=fun x=>x.2=0→tw t x.1) (Sk.bh _ ?_)) h
  unfold dS
  simp only [Sk.cK,Sk.aD,reduceCtorEq,false_implies,rC,iz,bH.z,bH.p,bH.t,bH.pt,bH.o,bH.and,bH.aj,bH.FT,bH.wh,bH.dep,bH.gw,fD.c,kk,kp,sE,xk,qA,implies_true,true_and,and_true,and_self,true_implies,forall_eq,forall_const]
  refine ⟨⟨⟨by simp,Nat.zero_le _,fun q hq=>absurd hq (by omega)⟩,fun i hi=>⟨fun hc=>⟨fun he h=>?_,fun he=>⟨⟨by simp [hi.1],?_,fun q hq=>?_⟩,?_⟩⟩,fun hc=>⟨hi.1,fun q hq=>hi.2.2 q (by simp at hc; omega)⟩⟩⟩,fun b hb=>⟨fun hc h=>absurd h (by decide),fun hc=>⟨fun DF h=>?_,fun DF=>⟨fun _ h=>absurd h (by decide),fun hl=>⟨⟨⟨Nat.zero_le _,fun q hq=>absurd hq (by omega)⟩,fun i hi=>⟨fun hc=>⟨⟨?_,?_⟩,fun y _ hy=>⟨⟨?_,?_⟩,fun z _ hz=>⟨fun _ h=>absurd h (by decide),fun he=>⟨⟨?_,fun q hq=>?_⟩,?_⟩⟩⟩⟩,fun hc q hq=>hi.2 q (by simp at hc; omega)⟩⟩,fun y hy=>⟨?_,?_⟩⟩⟩⟩⟩⟩
  ·rw [h] at he; exact absurd he (by decide)
  ·simp only [LN] at hc; omega
  ·simp only [LN] at hc he
   by_cases e:q=i.2
   ·subst e
    exact ⟨he,pX _ (by omega) _ _⟩
   ·have:=hi.2.2 q (by omega)
    refine ⟨this.1,?_⟩
    rw [← this.2]
    exact pY _ e _ _
  ·simp only [LN] at hc; omega
  ·exact JD t (by simp only [LN] at DF; omega) h
  ·intro h; simp only [LN] at h; rw [if_pos h]
  ·intro h
   rw [if_neg]
   simp only [LN] at h
   intro ⟨h1,h2⟩
   rcases h with h | h
   ·exact h h1
   ·exact h h2
  ·intro h; simp only [LN] at h; rw [if_pos h]
  ·intro h; simp only [LN] at h; rw [if_neg h]
  ·simp only [LN] at hc; omega
  ·simp only [LN] at hc he
   by_cases e:q=i.2
   ·subst e
    refine ⟨fun h=>?_,fun h=>?_⟩
    ·rw [if_pos h] at hz; left; rw [he,hz]
    ·rw [if_neg h] at hz; rw [he,hz]
   ·have:=hi.2 q (by omega)
    refine ⟨fun h=>?_,this.2⟩
    rcases this.1 h with h1 | h1
    ·by_cases c:(bp t.op).args.getD i.snd default = -1∧i.fst = -1
     ·right; rw [h1,c.2]
     ·rw [if_neg c] at hy; left; rw [h1,hy]
    ·exact .inr h1
  ·simp only [LN] at hc; omega
  ·intro h
   simp only [LN] at hc DF hl h
   have:=LQ (t:=t) (b1:=b) (common:=y) (by omega) hl.2 (by omega) hb.1 (fun q hq=>by
    have h1:=hb.2 q hq
    rw [h1.2]
    exact ih _ (by have:=t.gU q hq; omega) h1.1) hy
   rw [if_pos h] at this
   exact this
  ·intro h
   simp only [LN] at hc DF hl h
   have:=LQ (t:=t) (b1:=b) (common:=y) (by omega) hl.2 (by omega) hb.1 (fun q hq=>by
    have h1:=hb.2 q hq
    rw [h1.2]
    exact ih _ (by have:=t.gU q hq; omega) h1.1) hy
   rw [if_neg h] at this
   exact this
def oB (t:Term):Sk (Int × Int) :=
 .r 1 ((vJ t 1).c) fun x1 =>
 .br (decide (x1 > 60))
 (.fin (0,6))
 (.r 3 ((z8 t).c) fun x2 =>
 .fin (x2.1,x2.2))
def fE t:=(oB t).val
def Term.tx (t:Term):Prop:=(∃ k,tw t k)∧t.depth≤8
theorem B7 (t:Term):(oB t).dq (fun (x:Int × Int)=>x.2=0→tw t x.1∧t.depth≤8):=by
 refine Sk.bh _ ?_
 unfold oB
 simp only [Sk.cK,Sk.aD,reduceCtorEq,false_implies,rC,iz,bH.z,bH.p,bH.t,bH.pt,bH.o,bH.and,bH.aj,bH.FT,bH.wh,bH.dep,bH.gw,fD.c,kk,kp,fD.nil,fD.EH,lC.c,lC.nil,vJ,z8,forall_eq,forall_const]
 have hm:=pg _ t 1 (Nat.le_refl _) (by omega) (by omega)
 have hc:=rP _ t (Nat.le_refl _)
 refine ⟨fun _ h=>absurd h (by decide),fun c h=>⟨hc h,?_⟩⟩
 simp only [decide_eq_false_iff_not] at c
 have:aJ t.depth t 1≤60:=Int.not_lt.1 c
 have:=hm.2.2.1 this
 omega
theorem Bf (t:Term):(fun (x:Int × Int)=>x.2=0→tw t x.1∧t.depth≤8) (fE t):=have h:=Sk.dc _ (B7 t); h
theorem NK (t:Term):(oB t).bq (fun _=>True):=by
 refine Sk.aO _ ?_
 unfold oB
 simp only [Sk.gx,Sk.aD,reduceCtorEq,ON,kk,kp,z8,vJ,maxLen]
 exact fun x hx h=>(pg _ t 1 (Nat.le_refl _) (by omega) (by omega)).2.2.2 (by subst hx; simp only [LN] at h; exact h)
def uK t:=kp tok mixed Tryz.func223 [av t.cells] (fun x=>.fb [iv x.1,iv x.2]) true (fE t) (u0 (NK t)) (B7 t)
def sF (o:Order) (ask:Int):Sk (Term × Int) :=
 .r 1 ((k9 ask).c) fun x1 =>
 .br (!x1.2)
 (.fin (({ op:=0,n:=0,args:=[] }:Term),1))
 (.r 4 ((qz o.rules ask).c) fun x2=>let az:=(o.rules.getD x2.toNat default);
 .br (decide (x2 < 0))
 (.fin (({ op:=0,n:=0,args:=[] }:Term),4))
 (.r 7 (.p (bM x2 o.rules.length)) fun _ =>
 .r 8 ((uK (az.term)).c) fun x3 =>
 .br ((x3.2 != 0)||(x3.1 != x1.1))
 (.fin (({ op:=0,n:=0,args:=[] }:Term),11))
 (.fin (az.term,0))))
def j1 o ask:=(sF o ask).val
theorem NL (o:Order) (ask:Int):(sF o ask).bq (fun _=>True):=by
 unfold sF
 try simp only [k9,qz,uK]
 exact mH
def F5 o ask:=kk tok mixed Tryz.func169 [av o.cells,iv ask] (fun x=>.fb [av x.1.cells,iv x.2]) false (sF o ask) (j1 o ask) (u0 (NL o ask))
structure Machine where
 jh:List al
 deriving Inhabited
def xl (xY:Bool):Sk (al) :=
 .br xY
 (.fin ({ known:=true,n:=1 }:al))
 (.fin ({ known:=true,n:=0 }:al))
def oC xY:=(xl xY).val
theorem Un (xY:Bool):(xl xY).bq (fun _=>True):=by
 unfold xl
 exact mP
def gX xY:=kk tok mixed Tryz.func278 [bv xY] (fun x=>av x.cells) true (xl xY) (oC xY) (u0 (Un xY))
def fZ (m:Machine) (v:Int):Sk (al):=let cF:=(bM v m.jh.length); let aV:=(decide (v≥((m.jh.length:Nat):Int))); let az:=(m.jh.getD v.toNat default);
 .r 1 (.wh aV false (.p cF)) fun _ =>
 .br (aV||(!(az.known)))
 (.fin ({ known:=false,n:=0 }:al))
 (.r 3 ((kB v).c) fun x1 =>
 .br (x1.1 == 1)
 (.r 5 (.aj (.p cF) ((gX ((az.n) != 0)).c)) fun x2 =>
 .fin x2)
 (.r 6 (.aj (.p cF) ((j0 (az.n)).c)) fun x3 =>
 .fin ({ known:=true,n:=x3 }:al)))
def iR m v:=(fZ m v).val
theorem Bw (m:Machine) (v:Int) (hv:0≤v):(fZ m v).bq (fun _=>True):=by
 unfold fZ
 try simp only [kB,j0,gX,tv]
 exact xV
def tz m v:=kk tok mixed Tryz.func255 [av [mN al.cells m.jh],iv v] (fun x=>av x.cells) true (fZ m v) (iR m v) (Bw m v)
theorem LR {a:Int} (h0:0≤a) (h1:a < 18446744073709551616):dh .u64 a 4294967295=a % 4294967296:=by
 obtain ⟨a,rfl⟩:=Int.eq_ofNat_of_zero_le h0
 unfold dh
 have h2:(BitVec.ofInt IntKind.u64.bits ((a:Nat):Int) &&& BitVec.ofInt IntKind.u64.bits 4294967295).toNat=a % 4294967296:=by
  have e:(4294967295:Int)=((4294967295:Nat):Int):=rfl
  rw [e,BitVec.toNat_and,BitVec.ofInt_natCast,BitVec.ofInt_natCast,BitVec.toNat_ofNat,BitVec.toNat_ofNat]
  have hb:IntKind.u64.bits=64:=rfl
  rw [hb,Nat.mod_eq_of_lt (by omega),Nat.mod_eq_of_lt (by omega)]
  exact Nat.and_two_pow_sub_one_eq_mod a 32
 rw [h2,fa (by omega) (by omega)]
 omega
theorem ac2 {x y:Int} (hx:0≤x∧x < 18446744073709551616) (hy:0≤y∧y < 18446744073709551616) :
  IntKind.u64.wrap ((IntKind.u64.wrap ((IntKind.u64.wrap ((dW .u64 x 32) * (dW .u64 y 32)))+(dW .u64 (IntKind.u64.wrap ((IntKind.u64.wrap ((dW .u64 x 32) * (dh .u64 y 4294967295)))+(dW .u64 (IntKind.u64.wrap ((dh .u64 x 4294967295) * (dh .u64 y 4294967295))) 32))) 32)))+(dW .u64 (IntKind.u64.wrap ((dh .u64 (IntKind.u64.wrap ((IntKind.u64.wrap ((dW .u64 x 32) * (dh .u64 y 4294967295)))+(dW .u64 (IntKind.u64.wrap ((dh .u64 x 4294967295) * (dh .u64 y 4294967295))) 32))) 4294967295)+(IntKind.u64.wrap ((dh .u64 x 4294967295) * (dW .u64 y 32))))) 32)) * 18446744073709551616+IntKind.u64.wrap (x * y)=x * y:=by
 have s32:∀ a:Int,dW .u64 a 32=a / 4294967296:=fun a=>Hv .u64 (b:=32) (by decide)
 have ax:=LR hx.1 hx.2
 have ay:=LR hy.1 hy.2
 rw [LR (j9 _).1 (j9 _).2,ax,ay,s32,s32,s32,s32,s32]
 have bd:∀ a b:Int,0≤a∧a < 4294967296→0≤b∧b < 4294967296→0≤a * b∧a * b≤18446744065119617025:=fun a b ha hb =>
  ⟨Int.mul_nonneg ha.1 hb.1,by have:=Int.mul_le_mul (show a≤4294967295 by omega) (show b≤4294967295 by omega) hb.1 (by omega); omega⟩
 have VU:0≤x / 4294967296∧x / 4294967296 < 4294967296:=by omega
 have hx0:0≤x % 4294967296∧x % 4294967296 < 4294967296:=by omega
 have VW:0≤y / 4294967296∧y / 4294967296 < 4294967296:=by omega
 have Ti:0≤y % 4294967296∧y % 4294967296 < 4294967296:=by omega
 have b11:=bd _ _ VU VW
 have b10:=bd _ _ VU Ti
 have b01:=bd _ _ hx0 VW
 have b00:=bd _ _ hx0 Ti
 have e:x * y=(x / 4294967296) * (y / 4294967296) * 18446744073709551616+((x / 4294967296) * (y % 4294967296)+(x % 4294967296) * (y / 4294967296)) * 4294967296+(x % 4294967296) * (y % 4294967296):=by
  have ex:x=x / 4294967296 * 4294967296+x % 4294967296:=by omega
  have ey:y=y / 4294967296 * 4294967296+y % 4294967296:=by omega
  generalize x / 4294967296=x1 at ex ⊢
  generalize x % 4294967296=x0 at ex ⊢
  generalize y / 4294967296=y1 at ey ⊢
  generalize y % 4294967296=y0 at ey ⊢
  subst ex; subst ey
  have a1:x1 * 4294967296 * (y1 * 4294967296)=x1 * y1 * 18446744073709551616:=by rw [Int.mul_assoc,Int.mul_left_comm 4294967296 y1,← Int.mul_assoc]; rfl
  have a2:x1 * 4294967296 * y0=x1 * y0 * 4294967296:=Int.mul_right_comm _ _ _
  have a3:x0 * (y1 * 4294967296)=x0 * y1 * 4294967296:=(Int.mul_assoc _ _ _).symm
  rw [Int.add_mul,Int.mul_add,Int.mul_add,a1,a2,a3,Int.add_mul]
  omega
 rw [e]
 generalize x / 4294967296 * (y / 4294967296)=SP at *
 generalize x / 4294967296 * (y % 4294967296)=p10 at *
 generalize x % 4294967296 * (y / 4294967296)=p01 at *
 generalize x % 4294967296 * (y % 4294967296)=p00 at *
 simp only [Lx]
 omega
def lO (x_:Int) (y:Int):Sk (Int × Int) :=
 .r 2 (.p (0≤(32:Int))) fun _ =>
 .r 4 (.p (0≤(32:Int))) fun _ =>
 .r 6 (.p (0≤(32:Int))) fun _ =>
 .r 8 (.p (0≤(32:Int))) fun _ =>
 .r 10 (.p (0≤(32:Int))) fun _ =>
 .fin (IntKind.u64.wrap ((IntKind.u64.wrap ((IntKind.u64.wrap ((dW .u64 x_ 32) * (dW .u64 y 32)))+(dW .u64 (IntKind.u64.wrap ((IntKind.u64.wrap ((dW .u64 x_ 32) * (dh .u64 y 4294967295)))+(dW .u64 (IntKind.u64.wrap ((dh .u64 x_ 4294967295) * (dh .u64 y 4294967295))) 32))) 32)))+(dW .u64 (IntKind.u64.wrap ((dh .u64 (IntKind.u64.wrap ((IntKind.u64.wrap ((dW .u64 x_ 32) * (dh .u64 y 4294967295)))+(dW .u64 (IntKind.u64.wrap ((dh .u64 x_ 4294967295) * (dh .u64 y 4294967295))) 32))) 4294967295)+(IntKind.u64.wrap ((dh .u64 x_ 4294967295) * (dW .u64 y 32))))) 32)),IntKind.u64.wrap (x_ * y))
def gY x_ y:=(lO x_ y).val
theorem LS (x_:Int) (y:Int) (hP:(0≤x_∧x_ < 18446744073709551616)∧0≤y∧y < 18446744073709551616):(lO x_ y).dq (fun (x:Int × Int)=>(0≤x.1∧x.1 < 18446744073709551616)∧(0≤x.2∧x.2 < 18446744073709551616)∧x.1 * 18446744073709551616+x.2=x_ * y):=by
 refine Sk.bh _ ?_
 unfold lO
 simp only [Sk.cK,Sk.aD,reduceCtorEq,ON,kk,kp,maxLen]
 intro _ _ _ _ _
 exact ⟨j9 _,j9 _,ac2 hP.1 hP.2⟩
theorem Bg (x_:Int) (y:Int):(fun (x:Int × Int)=>((0≤x_∧x_ < 18446744073709551616)∧0≤y∧y < 18446744073709551616)→((0≤x.1∧x.1 < 18446744073709551616)∧(0≤x.2∧x.2 < 18446744073709551616)∧x.1 * 18446744073709551616+x.2=x_ * y)) (gY x_ y):=fun hP=>have h:=Sk.dc _ (LS x_ y hP); h
theorem NM (x_:Int) (y:Int):(lO x_ y).bq (fun _=>True):=by
 unfold lO
 exact mH
def il x_ y:=kk tok mixed Tryz.func175 [.d (.v (.int .u64 x_)),.d (.v (.int .u64 y))] (fun x=>.fb [.d (.v (.int .u64 x.1)),.d (.v (.int .u64 x.2))]) true (lO x_ y) (gY x_ y) (u0 (NM x_ y)) (fun (x:Int × Int)=>((0≤x_∧x_ < 18446744073709551616)∧0≤y∧y < 18446744073709551616)→((0≤x.1∧x.1 < 18446744073709551616)∧(0≤x.2∧x.2 < 18446744073709551616)∧x.1 * 18446744073709551616+x.2=x_ * y)) (Bg x_ y)
def lE (a:Int) (b:Int):Sk (Int) :=
 .r 1 ((il (IntKind.u64.wrap (dk a (aK (0 - a)))) (IntKind.u64.wrap (dk b (aK (0 - b))))).c) fun x1 =>
 .bind false (fun _=>True)
 (.br ((x1.1 == 0)&&(decide (x1.2 < 1099511627776)))
 (.fin (.inr (aK (x1.2))))
 (.fin (.inr 1099511627776)))
 (fun (b2:Int)=>⟨[(7,iv b2)],[]⟩) fun b2 =>
 .br (!((decide (a < 0)) == (decide (b < 0))))
 (.fin (aK (0 - b2)))
 (.fin b2)
def lg a b:=(lE a b).val
theorem JE (a:Int) (b:Int):(lE a b).bq (fun _=>True):=by
 unfold lE
 try simp only [il]
 exact mP
def B8 a b:=kk tok mixed Tryz.func284 [iv a,iv b] (fun x=>iv x) true (lE a b) (lg a b) (u0 (JE a b))
def lh (op:Int) (a:Int) (b:Int):Sk (Int) :=
 .br (op == 9)
 (.r 3 ((j0 (aK (a+b))).c) fun x1 =>
 .fin x1)
 (.br (op == 10)
 (.r 5 ((j0 (aK (a - b))).c) fun x2 =>
 .fin x2)
 (.br (op == 11)
 (.r 7 ((B8 a b).c) fun x3 =>
 .fin x3)
 (.br (op == 12)
 (.fin (fB a b))
 (.fin (dk a b)))))
def dT op a b:=(lh op a b).val
theorem EN (op:Int) (a:Int) (b:Int):(lh op a b).bq (fun _=>True):=by
 unfold lh
 try simp only [j0,B8,tv]
 exact xV
def qB op a b:=kk tok mixed Tryz.func280 [iv op,iv a,iv b] (fun x=>iv x) true (lh op a b) (dT op a b) (u0 (EN op a b))
def fP (op:Int) (l:List al):Sk (al):=let kV:=({ known:=false,n:=0 }:al); let eG:=(bM (0:Int) l.length); let cF:=(bM (1:Int) l.length); let aV:=(l.getD 0 default); let az:=(l.getD 1 default);
 .bind true (fun b1=>op≠3∧op≠6)
 (.br (op == 3)
 (.r 3 (.p eG) fun _ =>
 .br (aV.known)
 (.r 4 (.aj (.p eG) ((gX ((aV.n) == 0)).c)) fun x2 =>
 .fin (.inl x2))
 (.fin (.inl kV)))
 (.bind false (fun b3=>b3=(op == 4||op == 5))
 (.br (op == 4)
 (.fin (.inr (op == 4)))
 (.fin (.inr (op == 5))))
 (fun (b3:Bool)=>⟨[(22,bv b3)],[]⟩) fun b3 =>
 .br b3
 (.r 8 ((gX (op == 5)).c) fun x4=>let rz:=(((aV.known) == x4.known)&&(((aV.n) == x4.n)&&true));
 .r 9 (.aj (.p eG) (.wh rz false (.p cF))) fun _ =>
 .br (rz||(((az.known) == x4.known)&&(((az.n) == x4.n)&&true)))
 (.fin (.inl x4))
 (.fin (.inr ())))
 (.br (op == 6)
 (.r 12 (.aj (.p cF) (.aj (.wh (az.known) true (.p cF)) (.wh (az.known) true (.p (bM (2:Int) l.length))))) fun _ =>
 .br ((az.known)&&(((az.known) == ((l.getD 2 default).known))&&(((az.n) == ((l.getD 2 default).n))&&true)))
 (.r 13 (.p cF) fun _ =>
 .fin (.inl az))
 (.fin (.inl kV)))
 (.fin (.inr ())))))
 (fun (_:Unit)=>⟨[],[]⟩) fun _ =>
 .r 15 (.aj (.p eG) (.wh (!(aV.known)) false (.p cF))) fun _ =>
 .br ((!(aV.known))||(!(az.known)))
 (.fin kV)
 (.r 17 (.aj (.p eG) (.p cF)) fun _ =>
 .bind false (fun _=>True)
 (.br (op == 4)
 (.fin (.inr (op == 4)))
 (.fin (.inr (op == 5))))
 (fun (b5:Bool)=>⟨[(82,bv b5)],[]⟩) fun b5 =>
 .br b5
 (.r 21 ((gX (op == 4)).c) fun x6 =>
 .fin x6)
 (.br (op == 7)
 (.r 23 ((gX (decide ((aV.n) < (az.n)))).c) fun x7 =>
 .fin x7)
 (.br (op == 8)
 (.r 25 ((gX ((aV.n) == (az.n))).c) fun x8 =>
 .fin x8)
 (.r 26 ((qB op (aV.n) (az.n)).c) fun x9 =>
 .fin ({ known:=true,n:=x9 }:al)))))
def cP op l:=(fP op l).val
theorem JF (op:Int) (l:List al) (ha:(op=3∧1≤l.length)∨(op=6∧3≤l.length)∨(op≠3∧op≠6∧2≤l.length)):(fP op l).bq (fun _=>True):=by
 unfold fP
 try simp only [qB,gX]
 exact mH
def B9 op l:=kk tok mixed Tryz.func256 [iv op,lv al.cells l] (fun x=>av x.cells) true (fP op l) (cP op l) (JF op l)
def gj (n:Int):Sk ((List Int)):=let az:=(aK (n - (aK ((0:Int) - 0)))); let aV:=(List.replicate (az.toNat) (0:Int));
 .bind false (fun _=>True)
 (.br (decide (n < 0))
 (.dead default)
 (.fin (.inr ())))
 (fun (_:Unit)=>⟨[],[]⟩) fun _ =>
 .br (decide (az > 0))
 (.r 5 (.aj (.p (0≤(0:Int)∧(0:Int)≤0)) (.aj (.aj (.o [.cU (mkC cN (az.toNat) (0:Int))]) (.p (WK az 8))) (.aj (.o [.cU (aid cN aV 0)]) (.p (0≤(0:Int)∧0≤((aV.length:Nat):Int)))))) fun _ =>
 .fin (mO aV 0 0))
 (.fin [])
def pj n:=(gj n).val
theorem DQ (n:Int):(gj n).dq (fun (x:(List Int))=>x=[]):=by
 unfold gj
 exact Ly
theorem Ca (n:Int):(fun (x:(List Int))=>x=[]) (pj n):=have h:=Sk.dc _ (DQ n); h
theorem EO (n:Int) (hn:0≤n∧n≤1000000000):(gj n).bq (fun _=>True):=by
 unfold gj
 exact mH
theorem DR (n:Int) (hn:0≤n∧n≤1000000000):jl Tryz.prog 281 [nv,iv n] [] (ow 777777 (pj n)) [(777777,cp 3 1 bJ (pj n))] :=
 jl.sk tok mixed (fun x=>ow 777777 x) (fun x=>[(777777,cp 3 1 bJ x)]) Tryz.func281 rfl (by kernel_rfl) 3000 (gj n) (by kernel_rfl) (EO n hn)
def pL (κ:Nat) (n:Int):lC ((List Int)):=⟨Tryz.prog,281,[nv,iv n],fun x=>ow κ x,fun x=>[(κ,cp 3 1 bJ x)],pj n,(0≤n∧n≤1000000000),fun h=>jl.agv κ (DR n h),fun (x:(List Int))=>x=[],Ca n⟩
theorem HG {α:Type} [Inhabited α] (l:List (List α)) (n:Nat) (h:n < l.length):(l.take (n+1)).flatten=(l.take n).flatten++l.getD n default:=by
 rw [List.take_succ_eq_append_getElem h,List.flatten_append]
 simp only [List.getD,h,List.getElem?_eq_getElem,Option.getD_some,List.flatten_cons,List.flatten_nil,List.append_nil]
theorem Rj {α:Type} [Inhabited α] (l:List (List α)) (B:Nat) (h:∀ i,i < l.length→(l.getD i default).length≤B):∀ n,n≤l.length→(l.take n).flatten.length≤B * n
 | 0,_=>by simp
 | n+1,hn=>by
  have:=Rj l B h n (by omega)
  rw [HG l n (by omega),List.length_append,Nat.mul_add]
  have:=h n (by omega)
  omega
def kC (cb:List (List Int)):Sk ((List Int)) :=
 .bind true (fun b1=>(cb.length≤100∧∀ i,i < cb.length→(cb.getD i default).length≤1000000)→(0:Int)≤b1∧b1≤100000000)
 (.loop (default:Sum ((List Int)) (Int)) (fun i2=>(cb.length≤100∧∀ i,i < cb.length→(cb.getD i default).length≤1000000)→(0:Int)≤i2.1∧i2.1≤((1000000 * i2.2:Nat):Int)∧i2.2≤cb.length) (fun i2=>cb.length - i2.2) ((0,0):Int × Nat)
 (fun (i2:Int × Nat)=>⟨[(3,iv i2.1),(11,iv (i2.2:Int))],[]⟩) fun i2=>let aV:=(i2.1+(((cb.getD i2.2 default).length:Nat):Int));
 .lt 0 0 i2.2 cb.length
 (.r 4 (.p (bM (i2.2:Int) cb.length)) fun _ =>
 .br (decide ((aK aV) < 0))
 (.dead default)
 (.r 8 .z fun _ =>
 .wi 11 (aK ((i2.2:Int)+1)) ((i2.2+1:Nat):Int) <|
 .fin (.inr (aK aV,i2.2+1))))
 (.fin (.inl (.inr i2.1))))
 (fun (b1:Int)=>⟨[(3,iv b1)],[]⟩) fun b1 =>
 .r 9 ((pL 24 b1).c) fun x3 =>
 .bind true (fun b4=>(cb.length≤100∧∀ i,i < cb.length→(cb.getD i default).length≤1000000)→b4=cb.flatten)
 (.loop (default:Sum ((List Int)) ((List Int))) (fun i5=>(cb.length≤100∧∀ i,i < cb.length→(cb.getD i default).length≤1000000)→i5.1=(cb.take i5.2).flatten∧i5.2≤cb.length) (fun i5=>cb.length - i5.2) ((x3,0):(List Int) × Nat)
 (fun (i5:(List Int) × Nat)=>⟨[(6,ow 100002 i5.1),(27,iv (i5.2:Int))],[(100002,cp 3 1 bJ i5.1)]⟩) fun i5=>let az:=(cb.getD i5.2 default);
 .lt 25 0 i5.2 cb.length
 (.r 12 (.p (bM (i5.2:Int) cb.length)) fun _ =>
 .r 13 (.aj (.o [.cU (kx cN i5.1 az)]) (.aj (.t (cN.src az)) (.p (uG i5.1.length az.length 8)))) fun _ =>
 .nx 14 27 i5.2 (i5.1++az,i5.2+1))
 (.fin (.inl (.inr i5.1))))
 (fun (b4:(List Int))=>⟨[(6,ow 100001 b4)],[(100001,cp 3 1 bJ b4)]⟩) fun b4 =>
 .fin b4
def yc cb:=(kC cb).val
theorem xm (cb:List (List Int)):(kC cb).dq (fun (x:(List Int))=>(cb.length≤100∧∀ i,i < cb.length→(cb.getD i default).length≤1000000)→x=cb.flatten):=by
 refine Sk.bh _ ?_
 unfold kC
 simp only [Sk.cK,Sk.aD,reduceCtorEq,ON,kk,kp,pL,maxLen]
 refine ⟨⟨fun h=>⟨by omega,by omega,by omega⟩,fun i hi=>⟨fun hc _=>⟨fun hd=>?_,fun hd _=>⟨fun h=>?_,?_⟩⟩,fun hc h=>?_⟩⟩,fun b hb x _ hx=>⟨⟨fun h=>⟨by simp [hx],by omega⟩,fun i hi=>⟨fun hc _ _ _=>⟨fun h=>⟨?_,?_⟩,?_⟩,fun hc h=>?_⟩⟩,fun b hb=>hb⟩⟩
 all_goals (try simp only [LN] at hc)
 all_goals (try simp only [LN] at hd)
 ·show (cb.length≤100∧∀ (i:Nat),i < cb.length→(cb.getD i default).length≤1000000)→_
  intro h
  have h1:=hi h
  have h2:=h.2 i.2 (by omega)
  rw [aq (by omega) (by omega)] at hd
  omega
 ·have h1:=hi h
  have h2:=h.2 i.2 (by omega)
  rw [aq (by omega) (by omega)]
  omega
 ·omega
 ·have:=hi h
  omega
 ·rw [HG cb i.2 (by omega),(hi h).1]
 ·have:=hi h; omega
 ·omega
 ·have:=hi h
  rw [this.1,show i.2=cb.length by omega,List.take_length]
theorem EP (cb:List (List Int)):(fun (x:(List Int))=>(cb.length≤100∧∀ i,i < cb.length→(cb.getD i default).length≤1000000)→x=cb.flatten) (yc cb):=have h:=Sk.dc _ (xm cb); h
theorem HH (cb:List (List Int)) (hn:(cb.length≤100∧∀ i,i < cb.length→(cb.getD i default).length≤1000000)):(kC cb).bq (fun _=>True):=by
 refine Sk.aO _ ?_
 unfold kC
 simp only [Sk.gx,Sk.aD,reduceCtorEq,ON,kk,kp,pL,maxLen]
 refine ⟨⟨fun h=>⟨by omega,by omega,by omega⟩,fun i hi hl=>⟨fun hc=>⟨⟨by omega,of_decide_eq_true hc⟩,fun _=>⟨fun hd=>?_,fun hd _=>⟨?_,⟨fun h=>?_,?_⟩⟩⟩⟩,fun hc h=>?_⟩⟩,fun b hb=>⟨?_,fun x _ hx=>⟨fun h=>⟨by simp [hx],by omega⟩,fun i hi hl=>⟨fun hc=>⟨⟨by omega,of_decide_eq_true hc⟩,fun _=>⟨?_,fun _ _=>⟨?_,⟨fun h=>⟨?_,?_⟩,?_⟩⟩⟩⟩,fun hc h=>?_⟩⟩⟩⟩
 all_goals (try simp only [LN] at hc)
 all_goals (try simp only [LN] at hd)
 ·have h1:=hi hn
  have h2:=hn.2 i.2 (by omega)
  rw [aq (by omega) (by omega)] at hd
  omega
 ·exact aq (by omega) (by omega)
 ·have h1:=hi h
  have h2:=h.2 i.2 (by omega)
  rw [aq (by omega) (by omega)]
  omega
 ·omega
 ·have:=hi h
  omega
 ·have:=hb hn; omega
 ·have h1:=hi hn
  have h2:=hn.2 i.2 (by omega)
  have h3:=Rj cb 1000000 hn.2 i.2 (by omega)
  rw [← h1.1] at h3
  omega
 ·exact aq (by omega) (by omega)
 ·rw [HG cb i.2 (by omega),(hi h).1]
 ·have:=hi h; omega
 ·omega
 ·have:=hi h
  rw [this.1,show i.2=cb.length by omega,List.take_length]
def Bh cb:=kp tok mixed Tryz.func257 [lv (slE cN).cells cb] (fun x=>lv bJ x) false (yc cb) (HH cb) (xm cb)
def uu (rv:Machine→Term→al × (List Int)) (rp:Machine→Term→Prop) (rf:∀ (m:Machine) (t:Term),rp m t→jl Tryz.prog 224 [av [mN al.cells m.jh],av t.cells] [] (.fb [av ((rv m t).1).cells,lv bJ ((rv m t).2)]) []) (m:Machine) (t:Term):fD (al × (List Int)):=⟨Tryz.prog,224,[av [mN al.cells m.jh],av t.cells],fun x=>.fb [av x.1.cells,lv bJ x.2],false,rv m t,rp m t,rf m t,fun _=>True,trivial⟩
def eE (rv:Machine→Term→al × (List Int)) (rp:Machine→Term→Prop) (rf:∀ (m:Machine) (t:Term),rp m t→jl Tryz.prog 224 [av [mN al.cells m.jh],av t.cells] [] (.fb [av ((rv m t).1).cells,lv bJ ((rv m t).2)]) []) (m:Machine) (t:Term):Sk (al × (List Int)):=let eG:=((t.args.length:Nat):Int); let aV:=({ known:=false,n:=0 }:al);
 .bind false (fun b1=>b1=(t.op == 0||t.op == 1))
 (.br (t.op == 0)
 (.fin (.inr (t.op == 0)))
 (.fin (.inr (t.op == 1))))
 (fun (b1:Bool)=>⟨[(15,bv b1)],[]⟩) fun b1 =>
 .br b1
 (.fin (({ known:=true,n:=t.n }:al),[]))
 (.br (t.op == 2)
 (.r 6 ((tz m t.n).c) fun x2 =>
 .br x2.known
 (.fin (x2,[]))
 (.r 9 (.o [.cU (dG cN [t.n])]) fun _ =>
 .fin (aV,[t.n])))
 (.r 10 (.aj (.o [.cU (mkC al.E t.args.length aV)]) (.p (WK eG 16))) fun _ =>
 .r 11 (.aj (.o [.cU (mkN (slE cN) t.args.length ([]:List Int) [.v (.slice none 0 0)] (by kernel_rfl))]) (.p (WK eG 24))) fun _ =>
 .bind true (fun b3=>b3.1.length=t.args.length∧b3.2.length=t.args.length∧∀ q,q < t.args.length→b3.1.getD q default=(rv m (t.args.getD q default)).1∧b3.2.getD q default=(rv m (t.args.getD q default)).2)
 (.loop (default:Sum (al × (List Int)) ((List al) × (List (List Int)))) (fun i4=>i4.1.length=t.args.length∧i4.2.1.length=t.args.length∧i4.2.2≤t.args.length∧∀ q,q < i4.2.2→i4.1.getD q default=(rv m (t.args.getD q default)).1∧i4.2.1.getD q default=(rv m (t.args.getD q default)).2) (fun i4=>t.args.length - i4.2.2) ((List.replicate t.args.length aV,List.replicate t.args.length ([]:List Int),0):(List al) × (List (List Int)) × Nat)
 (fun (i4:(List al) × (List (List Int)) × Nat)=>⟨[(7,ow 100004 i4.1),(8,ow 100005 i4.2.1),(45,iv (i4.2.2:Int))],[(100004,cp 131 2 al.cells i4.1),(100005,cp 55 1 (slE cN).cells i4.2.1)]⟩) fun i4=>let kV:=(t.args.getD i4.2.2 default); let cF:=(i4.2.2:Int);
 .lt 43 0 i4.2.2 t.args.length
 (.r 14 (.aj (.p (bM cF t.args.length)) (.o [.cast 48 (Zv (Term.EI kV))])) fun _ =>
 .r 15 (.gw ((uu rv rp rf m kV).c) fun x5=>.aj (.p (bM cF i4.1.length)) (.aj (.aj (.o [.cU (j6 al.E i4.1 i4.2.2 x5.1)]) (.p (i4.2.2 < i4.1.length))) (.aj (.p (bM cF i4.2.1.length)) (.aj (.o [.cU (j6 (slE cN) i4.2.1 i4.2.2 x5.2)]) (.p (i4.2.2 < i4.2.1.length)))))) fun x5 =>
 .wn 100004 i4.1.length (i4.1.set i4.2.2 x5.1).length <|
 .wn 100005 i4.2.1.length (i4.2.1.set i4.2.2 x5.2).length <|
 .nx 16 45 i4.2.2 (i4.1.set i4.2.2 x5.1,i4.2.1.set i4.2.2 x5.2,i4.2.2+1))
 (.fin (.inl (.inr (i4.1,i4.2.1)))))
 (fun (b3:(List al) × (List (List Int)))=>⟨[(7,ow 100002 b3.1),(8,ow 100003 b3.2)],[(100002,cp 131 2 al.cells b3.1),(100003,cp 55 1 (slE cN).cells b3.2)]⟩) fun b3=>let rz:=(bM (0:Int) b3.1.length); let az:=(aK ((2:Int) - ((b3.1.getD 0 default).n)));
 .r 17 (.aj (.wh (t.op == 6) true (.p rz)) (.wh (t.op == 6) true (.p (0 < b3.1.length)))) fun _ =>
 .br ((t.op == 6)&&((b3.1.getD 0 default).known))
 (.r 18 (.aj (.p rz) (.p (0 < b3.1.length))) fun _ =>
 .r 19 (.aj (.p (bM az b3.1.length)) (.aj (.p (az.toNat < b3.1.length)) (.aj (.p (bM az b3.2.length)) (.p (az.toNat < b3.2.length))))) fun _ =>
 .fin (b3.1.getD (az.toNat) default,b3.2.getD (az.toNat) default))
 (.r 20 ((B9 t.op b3.1).c) fun x6 =>
 .br x6.known
 (.fin (x6,[]))
 (.fz 100003 <|
 .r 23 ((Bh b3.2).c) fun x7 =>
 .fin (aV,x7)))))
def ae:Nat→Machine→Term→al × (List Int)
 | 0,_,_=>default
 | fu+1,m,t=>(eE (ae fu) (fun _ _=>False) (fun _ _=>fun h=>h.elim) m t).val
theorem Yx (fu:Nat) (m:Machine) (n:Int):ae (fu+1) m ⟨0,n,[]⟩=(⟨true,n⟩,[]):=by kernel_rfl
theorem Uo (fu:Nat) (m:Machine) (n:Int):ae (fu+1) m ⟨1,n,[]⟩=(⟨true,n⟩,[]):=by kernel_rfl
theorem Yy (fu:Nat) (m:Machine) (n:Int):ae (fu+1) m ⟨2,n,[]⟩=bif (iR m n).known then (iR m n,[]) else (⟨false,0⟩,[n]):=by kernel_rfl
def rE (op:Int) (cs:List al) (ns:List (List Int)):al × List Int:=bif (cP op cs).known then (cP op cs,[]) else (⟨false,0⟩,yc ns)
theorem Yz (fu:Nat) (m:Machine) (n:Int) (a:Term):ae (fu+1) m ⟨3,n,[a]⟩=rE 3 [(ae fu m a).1] [(ae fu m a).2]:=by kernel_rfl
theorem run_ite (fu:Nat) (m:Machine) (n:Int) (a b c:Term):ae (fu+1) m ⟨6,n,[a,b,c]⟩ = 
 (let x:=(ae fu m a); let y:=(ae fu m b); let z:=(ae fu m c);
  bif x.1.known then ([x.1,y.1,z.1].getD (aK (2 - x.1.n)).toNat default,[x.2,y.2,z.2].getD (aK (2 - x.1.n)).toNat default) else rE 6 [x.1,y.1,z.1] [x.2,y.2,z.2]):=by kernel_rfl
theorem abq (fu:Nat) (m:Machine) (n:Int) (a b:Term):ae (fu+1) m ⟨4,n,[a,b]⟩=rE 4 [(ae fu m a).1,(ae fu m b).1] [(ae fu m a).2,(ae fu m b).2]:=by kernel_rfl
theorem abr (fu:Nat) (m:Machine) (n:Int) (a b:Term):ae (fu+1) m ⟨5,n,[a,b]⟩=rE 5 [(ae fu m a).1,(ae fu m b).1] [(ae fu m a).2,(ae fu m b).2]:=by kernel_rfl
theorem abt (fu:Nat) (m:Machine) (n:Int) (a b:Term):ae (fu+1) m ⟨7,n,[a,b]⟩=rE 7 [(ae fu m a).1,(ae fu m b).1] [(ae fu m a).2,(ae fu m b).2]:=by kernel_rfl
theorem abu (fu:Nat) (m:Machine) (n:Int) (a b:Term):ae (fu+1) m ⟨8,n,[a,b]⟩=rE 8 [(ae fu m a).1,(ae fu m b).1] [(ae fu m a).2,(ae fu m b).2]:=by kernel_rfl
theorem abv (fu:Nat) (m:Machine) (n:Int) (a b:Term):ae (fu+1) m ⟨9,n,[a,b]⟩=rE 9 [(ae fu m a).1,(ae fu m b).1] [(ae fu m a).2,(ae fu m b).2]:=by kernel_rfl
theorem ZC (fu:Nat) (m:Machine) (n:Int) (a b:Term):ae (fu+1) m ⟨10,n,[a,b]⟩=rE 10 [(ae fu m a).1,(ae fu m b).1] [(ae fu m a).2,(ae fu m b).2]:=by kernel_rfl
theorem ZD (fu:Nat) (m:Machine) (n:Int) (a b:Term):ae (fu+1) m ⟨11,n,[a,b]⟩=rE 11 [(ae fu m a).1,(ae fu m b).1] [(ae fu m a).2,(ae fu m b).2]:=by kernel_rfl
theorem ZE (fu:Nat) (m:Machine) (n:Int) (a b:Term):ae (fu+1) m ⟨12,n,[a,b]⟩=rE 12 [(ae fu m a).1,(ae fu m b).1] [(ae fu m a).2,(ae fu m b).2]:=by kernel_rfl
theorem ZF (fu:Nat) (m:Machine) (n:Int) (a b:Term):ae (fu+1) m ⟨13,n,[a,b]⟩=rE 13 [(ae fu m a).1,(ae fu m b).1] [(ae fu m a).2,(ae fu m b).2]:=by kernel_rfl
theorem xn (fu:Nat) (m:Machine) (op n:Int) (h:op=4∨op=5∨op=7∨op=8∨(9≤op∧op≤13)) (a b:Term):ae (fu+1) m ⟨op,n,[a,b]⟩=rE op [(ae fu m a).1,(ae fu m b).1] [(ae fu m a).2,(ae fu m b).2]:=by
 have:op=4∨op=5∨op=7∨op=8∨op=9∨op=10∨op=11∨op=12∨op=13:=by omega
 rcases this with rfl | rfl | rfl | rfl | rfl | rfl | rfl | rfl | rfl
 ·exact abq fu m n a b
 ·exact abr fu m n a b
 ·exact abt fu m n a b
 ·exact abu fu m n a b
 ·exact abv fu m n a b
 ·exact ZC fu m n a b
 ·exact ZD fu m n a b
 ·exact ZE fu m n a b
 ·exact ZF fu m n a b
def b01 (c:al):Prop:=c.known=true→c.n=0∨c.n=1
theorem Cb (b:Bool):oC b=⟨true,if b then 1 else 0⟩:=by cases b <;> kernel_rfl
theorem YA (b:Bool):b01 (oC b):=by rw [Cb]; intro _; cases b <;> simp
theorem Up (a:al):cP 3 [a]=bif a.known then oC (a.n == 0) else ⟨false,0⟩:=by
 obtain ⟨k,n⟩:=a
 cases k <;> kernel_rfl
def F6 (c:al) (n:Int):al:=bif c.known then (bif decide (n < 7) then ⟨true,tu c.n⟩ else ⟨true,bif c.n != 0 then 1 else 0⟩) else ⟨false,0⟩
theorem Uq (m:Machine) (n:Int) (h:0≤n∧n≤19):iR m n=F6 (m.jh.getD n.toNat default) n:=by
 simp only [iR,fZ,Sk.cE,Sk.bK,Sk.bg,fD.wG,kk,kp,bH.xU,kB,gX,z7,jn,j0,F6,Cb]
 rw [show (decide (n < 0)||decide (n > 19))=false from by simp; omega]
 by_cases hl:n≥m.jh.length
 ·have e:m.jh.getD n.toNat default=⟨false,0⟩:=by
   rw [List.getD,List.getElem?_eq_none (by omega)]
   rfl
  rw [e,decide_eq_true hl]
  rfl
 ·rw [decide_eq_false hl]
  cases hk:(m.jh.getD n.toNat default).known with
  | false=>rfl
  | true =>
   by_cases c:n < 7
   ·rw [decide_eq_true c]; rfl
   ·rw [decide_eq_false c]
    cases hn:((m.jh.getD n.toNat default).n != 0) <;> rfl
theorem abw (c:al) (n:Int) (h:7≤n):b01 (F6 c n):=by
 unfold F6
 rw [decide_eq_false (by omega)]
 intro hk
 cases hc:c.known with
 | false=>rw [hc] at hk; exact absurd (show false=true from hk) (by decide)
 | true =>
  cases hn:(c.n != 0)
  ·left; rfl
  ·right; rfl
theorem PY (op:Int) (h:op=4∨op=5) (a b:al):cP op [a,b]=(let z:Int:=if op=5 then 1 else 0; bif (a.known&&a.n == z)||(b.known&&b.n == z) then ⟨true,z⟩ else bif a.known&&b.known then ⟨true,1 - z⟩ else ⟨false,0⟩):=by
 obtain ⟨k,n⟩:=a
 obtain ⟨k',n'⟩:=b
 rcases h with rfl | rfl
 ·cases k <;> cases k' <;> cases h1:(n == 0) <;> cases h2:(n' == 0) <;> simp [cP,fP,gX,Cb,h1,h2]
 ·cases k <;> cases k' <;> cases h1:(n == 1) <;> cases h2:(n' == 1) <;> simp [cP,fP,gX,Cb,h1,h2]
theorem YB (a b c:al):cP 6 [a,b,c]=bif b.known&&(c.known&&b.n == c.n) then b else ⟨false,0⟩:=by
 obtain ⟨k,n⟩:=b
 obtain ⟨k',n'⟩:=c
 cases k <;> cases k' <;> cases h1:(n == n') <;> simp [cP,fP,h1]
theorem vK (op:Int) (h:7≤op) (a b:al):cP op [a,b]=bif a.known&&b.known then (if op=7 then oC (decide (a.n < b.n)) else if op=8 then oC (a.n == b.n) else ⟨true,dT op a.n b.n⟩) else ⟨false,0⟩:=by
 obtain ⟨k,n⟩:=a
 obtain ⟨k',n'⟩:=b
 have e3:(op == 3)=false:=by simp; omega
 have e4:(op == 4)=false:=by simp; omega
 have e5:(op == 5)=false:=by simp; omega
 have e6:(op == 6)=false:=by simp; omega
 simp only [cP,fP,Sk.cz,Sk.bK,Sk.cE,Sk.bg,e3,e4,e5,e6,cond_false,PQ,cX,fD.wG,kk,kp,gX,qB]
 cases k <;> cases k' <;> (try rfl)
 by_cases c7:op=7
 ·subst c7; rfl
 ·have e7:(op == 7)=false:=by simpa using c7
  by_cases c8:op=8
  ·subst c8; rfl
  ·have e8:(op == 8)=false:=by simpa using c8
   simp [e7,e8,c7,c8]
theorem yZ (op:Int) (cs:List al) (ns:List (List Int)) (h:b01 (cP op cs)):b01 (rE op cs ns).1:=by
 unfold rE
 cases hk:(cP op cs).known with
 | true=>exact h
 | false=>intro h; exact absurd (show false=true from h) (by decide)
theorem vj (op:Int) (cs:List al) (ns:List (List Int)) (B:Nat) (hB:B≤1000000) (hl:ns.length≤3) (h:∀ q,q < ns.length→(ns.getD q default).length≤B):(rE op cs ns).2.length≤3 * B:=by
 unfold rE
 cases hk:(cP op cs).known with
 | true=>simp
 | false =>
  simp only [cond_false]
  rw [EP ns ⟨by omega,fun q hq=>Nat.le_trans (h q hq) hB⟩]
  have:=Rj ns B h ns.length (Nat.le_refl _)
  rw [List.take_length] at this
  have:B * ns.length≤B * 3:=Nat.mul_le_mul_left _ hl
  omega
theorem aeT (op n:Int) (a:Term):Term.depth ⟨op,n,[a]⟩=a.depth+1:=by simp [Term.depth,Term.bT]
theorem Rk (op n:Int) (a b:Term):Term.depth ⟨op,n,[a,b]⟩=max a.depth b.depth+1:=by simp [Term.depth,Term.bT]
theorem aeU (op n:Int) (a b c:Term):Term.depth ⟨op,n,[a,b,c]⟩=max a.depth (max b.depth c.depth)+1:=by simp [Term.depth,Term.bT]
theorem ml {a b:Nat} (h:a≤b):3 ^ a≤3 ^ b:=Nat.pow_le_pow_right (by omega) h
theorem PZ {t:Term} {k:Int} (h:tw t k):∀ (fu:Nat) (m:Machine),t.depth≤fu→t.depth≤8→(k=1→b01 (ae fu m t).1)∧(ae fu m t).2.length≤3 ^ t.depth:=by
 have h8:∀ d,d≤8→3 ^ d≤1000000:=fun d hd=>Nat.le_trans (ml hd) (by decide)
 induction h with
 | int hn =>
  intro fu m hd _
  cases fu with
  | zero=>exact absurd hd (by simp [Term.depth,Term.bT])
  | succ fu=>rw [Yx]; exact ⟨fun h=>absurd h (by decide),by simp⟩
 | @bool n hn =>
  intro fu m hd _
  cases fu with
  | zero=>exact absurd hd (by simp [Term.depth,Term.bT])
  | succ fu=>rw [Uo]; exact ⟨fun _ _=>by show n=0∨n=1; omega,by simp⟩
 | @var n hn =>
  intro fu m hd _
  cases fu with
  | zero=>exact absurd hd (by simp [Term.depth,Term.bT])
  | succ fu =>
   rw [Yy,Uq m n hn]
   refine ⟨fun h=>?_,?_⟩
   ·have:=abw (m.jh.getD n.toNat default) n (by split at h <;> omega)
    cases hk:(F6 (m.jh.getD n.toNat default) n).known with
    | true=>exact this
    | false=>intro h; exact absurd (show false=true from h) (by decide)
   ·cases hk:(F6 (m.jh.getD n.toNat default) n).known <;> simp [Term.depth,Term.bT]
 | @not a _ ih =>
  intro fu m hd h8d
  cases fu with
  | zero=>exact absurd hd (by simp [Term.depth,Term.bT])
  | succ fu =>
   rw [aeT] at hd h8d ⊢
   have ih:=ih fu m (by omega) (by omega)
   rw [Yz]
   refine ⟨fun _=>yZ _ _ _ ?_,?_⟩
   ·rw [Up]
    cases hk:(ae fu m a).1.known with
    | true=>exact YA _
    | false=>intro h; exact absurd (show false=true from h) (by decide)
   ·have:=vj 3 [(ae fu m a).1] [(ae fu m a).2] (3 ^ a.depth) (h8 _ (by omega)) (by simp) (fun q hq=>by
     have:q=0:=by simpa using hq
     subst this
     exact ih.2)
    rw [Nat.pow_succ]; omega
 | @Ri op a b DF _ _ Fo Ei =>
  intro fu m hd h8d
  cases fu with
  | zero=>exact absurd hd (by simp [Term.depth,Term.bT])
  | succ fu =>
   rw [Rk] at hd h8d ⊢
   have Fo:=Fo fu m (by omega) (by omega)
   have Ei:=Ei fu m (by omega) (by omega)
   rw [xn _ _ _ _ (by omega)]
   refine ⟨fun _=>yZ _ _ _ ?_,?_⟩
   ·rw [PY op DF]
    dsimp only
    split
    ·cases (((ae fu m a).1.known&&(ae fu m a).1.n == 1)||((ae fu m b).1.known&&(ae fu m b).1.n == 1)) <;> cases ((ae fu m a).1.known&&(ae fu m b).1.known) <;> simp [b01]
    ·cases (((ae fu m a).1.known&&(ae fu m a).1.n == 0)||((ae fu m b).1.known&&(ae fu m b).1.n == 0)) <;> cases ((ae fu m a).1.known&&(ae fu m b).1.known) <;> simp [b01]
   ·have:=vj op [(ae fu m a).1,(ae fu m b).1] [(ae fu m a).2,(ae fu m b).2] (3 ^ (max a.depth b.depth)) (h8 _ (by omega)) (by simp) (fun q hq=>by
     have:q=0∨q=1:=by simp at hq; omega
     rcases this with rfl | rfl
     ·exact Nat.le_trans Fo.2 (ml (by omega))
     ·exact Nat.le_trans Ei.2 (ml (by omega)))
    rw [Nat.pow_succ]; omega
 | @ite a b c k ha _ _ Fo Ei ihc =>
  intro fu m hd h8d
  cases fu with
  | zero=>exact absurd hd (by simp [Term.depth,Term.bT])
  | succ fu =>
   rw [aeU] at hd h8d ⊢
   have Fo:=Fo fu m (by omega) (by omega)
   have Ei:=Ei fu m (by omega) (by omega)
   have ihc:=ihc fu m (by omega) (by omega)
   rw [run_ite]
   dsimp only
   have lb:=Nat.le_trans Ei.2 (ml (b:=max a.depth (max b.depth c.depth)+1) (by omega))
   have lc:=Nat.le_trans ihc.2 (ml (b:=max a.depth (max b.depth c.depth)+1) (by omega))
   cases hk:(ae fu m a).1.known with
   | true =>
    simp only [cond_true]
    rcases Fo.1 rfl hk with e | e
    ·rw [e]
     exact ⟨ihc.1,lc⟩
    ·rw [e]
     exact ⟨Ei.1,lb⟩
   | false =>
    simp only [cond_false]
    refine ⟨fun h=>yZ _ _ _ ?_,?_⟩
    ·rw [YB]
     cases ((ae fu m b).1.known&&((ae fu m c).1.known&&(ae fu m b).1.n == (ae fu m c).1.n)) with
     | true=>exact Ei.1 h
     | false=>intro h; exact absurd (show false=true from h) (by decide)
    ·have:=vj 6 [(ae fu m a).1,(ae fu m b).1,(ae fu m c).1] [(ae fu m a).2,(ae fu m b).2,(ae fu m c).2] (3 ^ (max a.depth (max b.depth c.depth))) (h8 _ (by omega)) (by simp) (fun q hq=>by
      have:q=0∨q=1∨q=2:=by simp at hq; omega
      rcases this with rfl | rfl | rfl
      ·exact Nat.le_trans Fo.2 (ml (by omega))
      ·exact Nat.le_trans Ei.2 (ml (by omega))
      ·exact Nat.le_trans ihc.2 (ml (by omega)))
     rw [Nat.pow_succ]; omega
 | @less a b _ _ Fo Ei =>
  intro fu m hd h8d
  cases fu with
  | zero=>exact absurd hd (by simp [Term.depth,Term.bT])
  | succ fu =>
   rw [Rk] at hd h8d ⊢
   have Fo:=Fo fu m (by omega) (by omega)
   have Ei:=Ei fu m (by omega) (by omega)
   rw [xn _ _ _ _ (by omega)]
   refine ⟨fun _=>yZ _ _ _ ?_,?_⟩
   ·rw [vK 7 (by omega)]
    cases ((ae fu m a).1.known&&(ae fu m b).1.known) with
    | true=>exact YA _
    | false=>intro h; exact absurd (show false=true from h) (by decide)
   ·have:=vj 7 [(ae fu m a).1,(ae fu m b).1] [(ae fu m a).2,(ae fu m b).2] (3 ^ (max a.depth b.depth)) (h8 _ (by omega)) (by simp) (fun q hq=>by
     have:q=0∨q=1:=by simp at hq; omega
     rcases this with rfl | rfl
     ·exact Nat.le_trans Fo.2 (ml (by omega))
     ·exact Nat.le_trans Ei.2 (ml (by omega)))
    rw [Nat.pow_succ]; omega
 | @eq a b _ _ _ Fo Ei =>
  intro fu m hd h8d
  cases fu with
  | zero=>exact absurd hd (by simp [Term.depth,Term.bT])
  | succ fu =>
   rw [Rk] at hd h8d ⊢
   have Fo:=Fo fu m (by omega) (by omega)
   have Ei:=Ei fu m (by omega) (by omega)
   rw [xn _ _ _ _ (by omega)]
   refine ⟨fun _=>yZ _ _ _ ?_,?_⟩
   ·rw [vK 8 (by omega)]
    cases ((ae fu m a).1.known&&(ae fu m b).1.known) with
    | true=>exact YA _
    | false=>intro h; exact absurd (show false=true from h) (by decide)
   ·have:=vj 8 [(ae fu m a).1,(ae fu m b).1] [(ae fu m a).2,(ae fu m b).2] (3 ^ (max a.depth b.depth)) (h8 _ (by omega)) (by simp) (fun q hq=>by
     have:q=0∨q=1:=by simp at hq; omega
     rcases this with rfl | rfl
     ·exact Nat.le_trans Fo.2 (ml (by omega))
     ·exact Nat.le_trans Ei.2 (ml (by omega)))
    rw [Nat.pow_succ]; omega
 | @arith op a b DF _ _ Fo Ei =>
  intro fu m hd h8d
  cases fu with
  | zero=>exact absurd hd (by simp [Term.depth,Term.bT])
  | succ fu =>
   rw [Rk] at hd h8d ⊢
   have Fo:=Fo fu m (by omega) (by omega)
   have Ei:=Ei fu m (by omega) (by omega)
   rw [xn _ _ _ _ (by omega)]
   refine ⟨fun h=>absurd h (by decide),?_⟩
   have:=vj op [(ae fu m a).1,(ae fu m b).1] [(ae fu m a).2,(ae fu m b).2] (3 ^ (max a.depth b.depth)) (h8 _ (by omega)) (by simp) (fun q hq=>by
    have:q=0∨q=1:=by simp at hq; omega
    rcases this with rfl | rfl
    ·exact Nat.le_trans Fo.2 (ml (by omega))
    ·exact Nat.le_trans Ei.2 (ml (by omega)))
   rw [Nat.pow_succ]; omega
theorem tw.parts {t:Term} {k:Int} (h:tw t k):(t.op=0∨t.op=1∨(t.op=2∧0≤t.n))∨((∀ q,q < t.args.length→∃ j,tw (t.args.getD q default) j)∧((t.op=3∧t.args.length=1)∨(t.op=6∧t.args.length=3∧tw (t.args.getD 0 default) 1)∨(t.op≠0∧t.op≠1∧t.op≠2∧t.op≠3∧t.op≠6∧t.args.length=2))):=by
 cases h with
 | int _=>left; left; rfl
 | bool _=>left; right; left; rfl
 | var h=>left; right; right; exact ⟨rfl,h.1⟩
 | not h =>
  right
  refine ⟨fun q hq=>?_,.inl ⟨rfl,rfl⟩⟩
  obtain rfl:q=0:=by simpa using hq
  exact ⟨_,h⟩
 | Ri o h1 h2 =>
  right
  refine ⟨fun q hq=>?_,.inr (.inr ⟨by dsimp only; omega,by dsimp only; omega,by dsimp only; omega,by dsimp only; omega,by dsimp only; omega,rfl⟩)⟩
  have:q=0∨q=1:=by simp at hq; omega
  rcases this with rfl | rfl
  ·exact ⟨_,h1⟩
  ·exact ⟨_,h2⟩
 | ite h1 h2 h3 =>
  right
  refine ⟨fun q hq=>?_,.inr (.inl ⟨rfl,rfl,h1⟩)⟩
  have:q=0∨q=1∨q=2:=by simp at hq; omega
  rcases this with rfl | rfl | rfl
  ·exact ⟨_,h1⟩
  ·exact ⟨_,h2⟩
  ·exact ⟨_,h3⟩
 | less h1 h2 =>
  right
  refine ⟨fun q hq=>?_,.inr (.inr ⟨by dsimp only; omega,by dsimp only; omega,by dsimp only; omega,by dsimp only; omega,by dsimp only; omega,rfl⟩)⟩
  have:q=0∨q=1:=by simp at hq; omega
  rcases this with rfl | rfl
  ·exact ⟨_,h1⟩
  ·exact ⟨_,h2⟩
 | eq h1 h2 =>
  right
  refine ⟨fun q hq=>?_,.inr (.inr ⟨by dsimp only; omega,by dsimp only; omega,by dsimp only; omega,by dsimp only; omega,by dsimp only; omega,rfl⟩)⟩
  have:q=0∨q=1:=by simp at hq; omega
  rcases this with rfl | rfl
  ·exact ⟨_,h1⟩
  ·exact ⟨_,h2⟩
 | arith o h1 h2 =>
  right
  refine ⟨fun q hq=>?_,.inr (.inr ⟨by dsimp only; omega,by dsimp only; omega,by dsimp only; omega,by dsimp only; omega,by dsimp only; omega,rfl⟩)⟩
  have:q=0∨q=1:=by simp at hq; omega
  rcases this with rfl | rfl
  ·exact ⟨_,h1⟩
  ·exact ⟨_,h2⟩
theorem DS (fu:Nat) (rf:∀ (m:Machine) (t:Term),t.depth≤fu∧(t.tx)→jl Tryz.prog 224 [av [mN al.cells m.jh],av t.cells] [] (.fb [av ((ae fu m t).1).cells,lv bJ ((ae fu m t).2)]) []) (m:Machine) (t:Term) (hm:t.depth≤fu+1) (ht:t.tx):(eE (ae fu) (fun m t=>t.depth≤fu∧(t.tx)) rf m t).bq (fun _=>True):=by
 refine Sk.aO _ ?_
 unfold eE
 simp only [Sk.gx,Sk.aD,reduceCtorEq,ON,kk,kp,Bh,B9,tz,uu,maxLen]
 obtain ⟨⟨k,hk⟩,h8⟩:=ht
 have Rl:=hk.parts
 refine ⟨⟨fun _=>by simp_all,fun _=>by simp_all⟩,fun b _ hb hbf=>?_⟩
 rw [hb] at hbf
 simp only [LN] at hbf
 refine ⟨fun h2=>?_,fun h2=>?_⟩
 ·simp only [LN] at h2
  rcases Rl with h | h
  ·omega
  ·omega
 ·simp only [LN] at h2
  have hp:(∀ q,q < t.args.length→∃ j,tw (t.args.getD q default) j)∧((t.op=3∧t.args.length=1)∨(t.op=6∧t.args.length=3∧tw (t.args.getD 0 default) 1)∨(t.op≠0∧t.op≠1∧t.op≠2∧t.op≠3∧t.op≠6∧t.args.length=2)):=by
   rcases Rl with h | h
   ·omega
   ·exact h
  obtain ⟨hp1,hp2⟩:=hp
  have hlen:t.args.length≤3:=by omega
  have JG:∀ q,q < t.args.length→(t.args.getD q default).depth≤fu∧(t.args.getD q default).depth≤8:=fun q hq=>by have:=t.gU q hq; omega
  refine ⟨⟨by omega,by omega,by omega⟩,fun _=>⟨⟨by omega,by omega,by omega⟩,fun _=>⟨⟨⟨by simp,by simp,by omega,fun q hq=>absurd hq (by omega)⟩,fun i hi hl=>⟨fun hc=>⟨⟨by omega,of_decide_eq_true hc⟩,fun _=>⟨⟨⟨?_,?_⟩,fun x hx=>⟨⟨by omega,?_⟩,?_,⟨by omega,?_⟩,?_⟩⟩,fun x hx=>⟨by simp,by simp,fun _=>⟨?_,⟨⟨by simp [hi.1],by simp [hi.2.1],?_,fun q hq=>?_⟩,?_⟩⟩⟩⟩⟩,fun hc=>⟨hi.1,hi.2.1,fun q hq=>hi.2.2.2 q (by simp only [LN] at hc; omega)⟩⟩⟩,fun b hb=>?_⟩⟩⟩
  all_goals (try simp only [LN] at hc)
  ·exact (JG _ (by omega)).1
  ·exact ⟨hp1 _ (by omega),(JG _ (by omega)).2⟩
  ·omega
  ·omega
  ·omega
  ·omega
  ·exact aq (by omega) (by omega)
  ·omega
  ·by_cases e:q=i.2.2
   ·subst e
    subst hx
    exact ⟨pX _ (by omega) _ _,pX _ (by omega) _ _⟩
   ·have:=hi.2.2.2 q (by omega)
    rw [← this.1,← this.2]
    exact ⟨pY _ e _ _,pY _ e _ _⟩
  ·omega
  ·refine ⟨⟨fun _=>⟨by omega,by omega⟩,fun _=>by omega⟩,fun _=>⟨fun h6=>?_,fun _=>⟨?_,fun x _ _=>⟨?_,?_⟩⟩⟩⟩
   ·simp only [LN] at h6
    have h01:b01 (b.1.getD 0 default):=by
     rw [(hb.2.2 0 (by omega)).1]
     rcases hp2 with h | h | h
     ·omega
     ·exact (PZ h.2.2 fu m (JG 0 (by omega)).1 (JG 0 (by omega)).2).1 rfl
     ·omega
    have h01:=h01 h6.2
    have hw:aK (2 - (b.1.getD 0 default).n)=2 - (b.1.getD 0 default).n:=aq (by omega) (by omega)
    rw [hw]
    refine ⟨⟨by omega,by omega⟩,fun _=>⟨⟨by omega,by omega⟩,by omega,⟨by omega,by omega⟩,by omega⟩⟩
   ·omega
   ·omega
   ·intro q hq
    rw [hb.2.1] at hq
    rw [(hb.2.2 q hq).2]
    obtain ⟨j,hj⟩:=hp1 q hq
    have:=(PZ hj fu m (JG q hq).1 (JG q hq).2).2
    have h3:(3:Nat) ^ (t.args.getD q default).depth≤3 ^ 8:=Nat.pow_le_pow_right (by omega) (JG q hq).2
    have:(3:Nat) ^ 8=6561:=by decide
    omega
theorem Cc (fu:Nat) (rp:Machine→Term→Prop) (rf:∀ (m:Machine) (t:Term),rp m t→jl Tryz.prog 224 [av [mN al.cells m.jh],av t.cells] [] (.fb [av ((ae fu m t).1).cells,lv bJ ((ae fu m t).2)]) []) (m:Machine) (t:Term):(eE (ae fu) rp rf m t).val=ae (fu+1) m t:=by kernel_rfl
theorem Cd (fu:Nat):∀ (m:Machine) (t:Term),t.depth≤fu→t.tx→jl Tryz.prog 224 [av [mN al.cells m.jh],av t.cells] [] (.fb [av ((ae fu m t).1).cells,lv bJ ((ae fu m t).2)]) []:=by
 induction fu with
 | zero=>intro m t hm h0; exact absurd hm (by have:=Term.gK t; omega)
 | succ fu ih =>
  intro m t hm h0
  have h:jl Tryz.prog 224 [av [mN al.cells m.jh],av t.cells] [] (.fb [av (((eE (ae fu) (fun m t=>t.depth≤fu∧(t.tx)) (fun m t h=>ih m t h.1 h.2) m t).val).1).cells,lv bJ (((eE (ae fu) (fun m t=>t.depth≤fu∧(t.tx)) (fun m t h=>ih m t h.1 h.2) m t).val).2)]) []:=jl.sk tok mixed (fun x=>.fb [av x.1.cells,lv bJ x.2]) (fun _=>[]) Tryz.func224 rfl (by kernel_rfl) 3000 (eE (ae fu) (fun m t=>t.depth≤fu∧(t.tx)) (fun m t h=>ih m t h.1 h.2) m t) (by kernel_rfl) (DS fu _ m t hm h0)
  rw [Cc] at h
  exact h
def rQ (m:Machine) (t:Term):al × (List Int):=ae (t.depth) m t
theorem DT (m:Machine) (t:Term) (ht:t.tx):jl Tryz.prog 224 [av [mN al.cells m.jh],av t.cells] [] (.fb [av ((rQ m t).1).cells,lv bJ ((rQ m t).2)]) []:=Cd _ m t (Nat.le_refl _) ht
def vL (m:Machine) (t:Term):fD (al × (List Int)):=⟨Tryz.prog,224,[av [mN al.cells m.jh],av t.cells],fun x=>.fb [av x.1.cells,lv bJ x.2],false,rQ m t,(t.tx),fun h=>DT m t h,fun _=>True,trivial⟩
def uL (t:Term) (cells:List al):Sk (al) :=
 .r 1 ((uK t).c) fun x1 =>
 .br (x1.2 != 0)
 (.fin ({ known:=false,n:=0 }:al))
 (.r 4 ((vL ({ jh:=cells }:Machine) t).c) fun x2 =>
 .fin x2.1)
def rR t cells:=(uL t cells).val
theorem Rm (t:Term) (cells:List al):(uL t cells).bq (fun _=>True):=by
 refine Sk.aO _ ?_
 unfold uL
 simp only [Sk.gx,Sk.aD,reduceCtorEq,ON,kk,kp,uK,vL,maxLen]
 intro x _ h hc
 simp only [LN] at hc
 exact ⟨⟨_,(h hc).1⟩,(h hc).2⟩
def IU t cells:=kk tok mixed Tryz.func170 [av t.cells,lv al.cells cells] (fun x=>av x.cells) true (uL t cells) (rR t cells) (u0 (Rm t cells))
def pk (o:Order) (ask:Int) (cells:List al):Sk (al × Int) :=
 .r 1 ((F5 o ask).c) fun x1 =>
 .br (x1.2 != 0)
 (.fin (({ known:=false,n:=0 }:al),x1.2))
 (.r 4 ((IU x1.1 cells).c) fun x2 =>
 .r 5 ((k9 ask).c) fun x3 =>
 .br ((x3.1 == 0)&&x2.known)
 (.fin (({ known:=x2.known,n:=fB (dk x2.n 0) 20000 }:al),0))
 (.fin (x2,0)))
def fF o ask cells:=(pk o ask cells).val
theorem JH (o:Order) (ask:Int) (cells:List al):(pk o ask cells).bq (fun _=>True):=by
 unfold pk
 try simp only [k9,F5,IU]
 exact mP
def Ce o ask cells:=kk tok mixed Tryz.func126 [av o.cells,iv ask,lv al.cells cells] (fun x=>.fb [av x.1.cells,iv x.2]) true (pk o ask cells) (fF o ask cells) (u0 (JH o ask cells))
def Aa (r:ah) (ai:Int) (aF:Int) (c_:cG):Sk (l7) :=
 .r 1 ((LL r ai aF c_).c) fun x1 =>
 .br (x1.1.order != (-1))
 (.r 3 (.aj (.p (bM x1.1.order r.ak.length)) ((Ce (r.ak.getD x1.1.order.toNat default) aF x1.2).c)) fun x2 =>
 .fin ({ cell:=x2.1,order:=x1.1.order,path:=x1.1.path,err:=x2.2 }:l7))
 (.fin x1.1)
def Ab r ai aF c_:=(Aa r ai aF c_).val
theorem WS (r:ah) (ai:Int) (aF:Int) (c_:cG) (hf:c_.file.Small) (hb:r.cx) (hr:r.Small):(Aa r ai aF c_).bq (fun _=>True):=by
 simp only [aw.Small,ah.Small,ah.cx] at hf
 simp only [aw.Small,ah.Small,ah.cx] at hb
 simp only [aw.Small,ah.Small,ah.cx] at hr
 unfold Aa
 try simp only [LL,Ce,aw.Small,ah.Small,ah.cx]
 exact mH
def jo r ai aF c_:=kk tok mixed Tryz.func78 [av r.cells,iv ai,iv aF,av c_.cells] (fun x=>av x.cells) false (Aa r ai aF c_) (Ab r ai aF c_) (u3 (WS r ai aF c_))
def xo (r:ah) (ai:Int) (aF:Int) (f:aw) (day:Int):Sk (l7) :=
 .r 2 (((jo r ai aF ({ file:={ f with facts:=[] },sign:=0,cL:=(-1),gy:=(-1),due:=(-1),day:=day }:cG)).EH 3 18 _ rfl ⟨_,rfl⟩).c) fun x1 =>
 .fin x1
def mT r ai aF f day:=(xo r ai aF f day).val
theorem Ur (r:ah) (ai:Int) (aF:Int) (f:aw) (day:Int) (hf:f.Small) (bV:r.cx) (aZ:r.Small):(xo r ai aF f day).bq (fun _=>True):=by
 simp only [aw.Small,ah.Small,ah.cx] at hf
 simp only [aw.Small,ah.Small,ah.cx] at bV
 simp only [aw.Small,ah.Small,ah.cx] at aZ
 unfold xo
 try simp only [jo,aw.Small,ah.Small,ah.cx]
 exact mH
def pM r ai aF f day:=kk tok mixed Tryz.func94 [av r.cells,iv ai,iv aF,av f.cells,iv day] (fun x=>av x.cells) false (xo r ai aF f day) (mT r ai aF f day) (u3 (Ur r ai aF f day))
def sG (s:l7):Sk (Int) :=
 .br ((s.err != 0)||(!s.cell.known))
 (.fin (-1))
 (.fin s.cell.n)
def mU s:=(sG s).val
theorem NN (s:l7):(sG s).bq (fun _=>True):=by
 unfold sG
 exact mP
def qC s:=kk tok mixed Tryz.func77 [av s.cells] (fun x=>iv x) true (sG s) (mU s) (u0 (NN s))
def oD (x_:List Int):Sk (Int) :=
 .bind false (fun _=>True)
 (.br (decide (((x_.length:Nat):Int) < 1))
 (.dead default)
 (.fin (.inr ())))
 (fun (_:Unit)=>⟨[],[]⟩) fun _ =>
 .r 3 (.p (bM (0:Int) x_.length)) fun _ =>
 .bt
 (.loop (default:Sum (Int) (Int)) (fun i3=>(1:Int)≤i3.2∧i3.2≤(x_.length:Int)) (fun i3=>((x_.length:Int) - i3.2).toNat) ((x_.getD 0 default,1):Int × Int)
 (fun (i3:Int × Int)=>⟨[(3,iv i3.1),(4,iv i3.2)],[]⟩) fun i3 =>
 .br (decide (i3.2 < ((x_.length:Nat):Int)))
 (.r 7 (.p (bM i3.2 x_.length)) fun _ =>
 .fin (.inr (fB i3.1 (x_.getD i3.2.toNat default),aK (i3.2+1))))
 (.fin (.inl (.inr i3.1))))
 (fun (b2:Int)=>⟨[(3,iv b2)],[]⟩) fun b2 =>
 .fin b2
def Ac x_:=(oD x_).val
theorem NP (x_:List Int) (hx:x_.length≠0) (hl:x_.length≤1000000000):(oD x_).bq (fun _=>True):=by
 unfold oD
 exact mH
def Ad x_:=kk tok mixed Tryz.func143 [lv bJ x_] (fun x=>iv x) true (oD x_) (Ac x_) (u2 (NP x_))
def mV (f:aw):Sk (Int) :=
 .bind true (fun b1=>b1.length≤0+f.af.length)
 (.loop (default:Sum (Int) ((List Int))) (fun i2=>i2.2≤f.af.length∧i2.1.length≤0+i2.2) (fun i2=>f.af.length - i2.2) (([],0):(List Int) × Nat)
 (fun (i2:(List Int) × Nat)=>⟨[(3,ow 100002 i2.1),(16,iv (i2.2:Int))],[(100002,cp 3 1 bJ i2.1)]⟩) fun i2=>let aV:=(f.af.getD i2.2 default);
 .lt 14 0 i2.2 f.af.length
 (.r 5 (.p (bM (i2.2:Int) f.af.length)) fun _ =>
 .br ((f.aM.aC.kind == 1)&&((aV.kind) == 1))
 (.r 7 (.aj (.o [.cU (dG cN [aV.day])]) (.aj (.o [.cU (kx cN i2.1 [aV.day])]) (.aj (.t (cN.k6 [aV.day])) (.p (uG i2.1.length [aV.day].length 8))))) fun _ =>
 .nx 8 16 i2.2 (i2.1++[aV.day],i2.2+1))
 (.nx 8 16 i2.2 (i2.1,i2.2+1)))
 (.fin (.inl (.inr i2.1))))
 (fun (b1:(List Int))=>⟨[(3,ow 100001 b1)],[(100001,cp 3 1 bJ b1)]⟩) fun b1 =>
 .bind true (fun b3=>b3.length≤b1.length+f.aU.length)
 (.loop (default:Sum (Int) ((List Int))) (fun i4=>i4.2≤f.aU.length∧i4.1.length≤b1.length+i4.2) (fun i4=>f.aU.length - i4.2) ((b1,0):(List Int) × Nat)
 (fun (i4:(List Int) × Nat)=>⟨[(3,ow 100005 i4.1),(36,iv (i4.2:Int))],[(100005,cp 3 1 bJ i4.1)]⟩) fun i4=>let az:=(f.aU.getD i4.2 default);
 .lt 34 0 i4.2 f.aU.length
 (.r 11 (.p (bM (i4.2:Int) f.aU.length)) fun _ =>
 .br ((f.aM.aC.kind == 0)&&((az.kind) == 2))
 (.fin (.inl (.inl (az.day))))
 (.br ((f.aM.aC.kind == 1)&&((az.kind) == 1))
 (.r 15 (.aj (.o [.cU (dG cN [az.day])]) (.aj (.o [.cU (kx cN i4.1 [az.day])]) (.aj (.t (cN.k6 [az.day])) (.p (uG i4.1.length [az.day].length 8))))) fun _ =>
 .nx 16 36 i4.2 (i4.1++[az.day],i4.2+1))
 (.nx 16 36 i4.2 (i4.1,i4.2+1))))
 (.fin (.inl (.inr i4.1))))
 (fun (b3:(List Int))=>⟨[(3,ow 100004 b3)],[(100004,cp 3 1 bJ b3)]⟩) fun b3 =>
 .br (((b3.length:Nat):Int) == 0)
 (.fin (-1))
 (.r 19 ((Ad b3).c) fun x5 =>
 .fin x5)
def tA f:=(mV f).val
theorem LU (f:aw) (hf:f.Small):(mV f).bq (fun _=>True):=by
 simp only [aw.Small,ah.Small] at hf
 unfold mV
 try simp only [Ad,aw.Small,ah.Small]
 exact mH
def sH f:=kk tok mixed Tryz.func96 [av f.cells] (fun x=>iv x) true (mV f) (tA f) (LU f)
def mW (r:ah):Sk ((List ByteArray) × (List ByteArray) × (List ByteArray)):=let eG:=((List ByteArray));
 .bind true (fun b1=>b1.length≤0+r.aB.length)
 (.loop (default:Sum ((List ByteArray) × (List ByteArray) × (List ByteArray)) eG) (fun i2=>i2.2≤r.aB.length∧i2.1.length≤0+i2.2) (fun i2=>r.aB.length - i2.2) (([],0):(List ByteArray) × Nat)
 (fun (i2:(List ByteArray) × Nat)=>⟨[(2,ow 100002 i2.1),(14,iv (i2.2:Int))],[(100002,cp 9 1 jV i2.1)]⟩) fun i2=>let az:=(r.aB.getD i2.2 default);
 .lt 12 0 i2.2 r.aB.length
 (.r 3 (.p (bM (i2.2:Int) r.aB.length)) fun _ =>
 .r 4 (.aj (.o [.cU (dG xT [az.name])]) (.aj (.o [.cU (kx xT i2.1 [az.name])]) (.aj (.t (xT.k6 [az.name])) (.p (uG i2.1.length [az.name].length 16))))) fun _ =>
 .nx 5 14 i2.2 (i2.1++[az.name],i2.2+1))
 (.fin (.inl (.inr i2.1))))
 (fun (b1:(List ByteArray))=>⟨[(2,ow 100001 b1)],[(100001,cp 9 1 jV b1)]⟩) fun b1 =>
 .bind true (fun b3=>b3.length≤0+r.bu.length)
 (.loop (default:Sum ((List ByteArray) × (List ByteArray) × (List ByteArray)) eG) (fun i4=>i4.2≤r.bu.length∧i4.1.length≤0+i4.2) (fun i4=>r.bu.length - i4.2) (([],0):(List ByteArray) × Nat)
 (fun (i4:(List ByteArray) × Nat)=>⟨[(3,ow 100005 i4.1),(27,iv (i4.2:Int))],[(100005,cp 9 1 jV i4.1)]⟩) fun i4=>let cF:=(r.bu.getD i4.2 default);
 .lt 25 0 i4.2 r.bu.length
 (.r 8 (.p (bM (i4.2:Int) r.bu.length)) fun _ =>
 .r 9 (.aj (.o [.cU (dG xT [cF.name])]) (.aj (.o [.cU (kx xT i4.1 [cF.name])]) (.aj (.t (xT.k6 [cF.name])) (.p (uG i4.1.length [cF.name].length 16))))) fun _ =>
 .nx 10 27 i4.2 (i4.1++[cF.name],i4.2+1))
 (.fin (.inl (.inr i4.1))))
 (fun (b3:(List ByteArray))=>⟨[(3,ow 100004 b3)],[(100004,cp 9 1 jV b3)]⟩) fun b3 =>
 .bind true (fun b5=>b5.length≤0+r.ak.length)
 (.loop (default:Sum ((List ByteArray) × (List ByteArray) × (List ByteArray)) eG) (fun i6=>i6.2≤r.ak.length∧i6.1.length≤0+i6.2) (fun i6=>r.ak.length - i6.2) (([],0):(List ByteArray) × Nat)
 (fun (i6:(List ByteArray) × Nat)=>⟨[(4,ow 100008 i6.1),(40,iv (i6.2:Int))],[(100008,cp 9 1 jV i6.1)]⟩) fun i6=>let aV:=(r.ak.getD i6.2 default);
 .lt 38 0 i6.2 r.ak.length
 (.r 13 (.p (bM (i6.2:Int) r.ak.length)) fun _ =>
 .r 14 (.aj (.o [.cU (dG xT [aV.name])]) (.aj (.o [.cU (kx xT i6.1 [aV.name])]) (.aj (.t (xT.k6 [aV.name])) (.p (uG i6.1.length [aV.name].length 16))))) fun _ =>
 .nx 15 40 i6.2 (i6.1++[aV.name],i6.2+1))
 (.fin (.inl (.inr i6.1))))
 (fun (b5:(List ByteArray))=>⟨[(4,ow 100007 b5)],[(100007,cp 9 1 jV b5)]⟩) fun b5 =>
 .fin (b1,b3,b5)
def fQ r:=(mW r).val
theorem JI (r:ah):(mW r).dq (fun (x:(List ByteArray) × (List ByteArray) × (List ByteArray))=>x.1.length≤r.aB.length∧x.2.1.length≤r.bu.length∧x.2.2.length≤r.ak.length):=by
 unfold mW
 try simp only [aw.Small,ah.Small]
 exact Ly
theorem LV (r:ah) (hr:r.Small):(mW r).bq (fun _=>True):=by
 simp only [aw.Small,ah.Small] at hr
 unfold mW
 try simp only [aw.Small,ah.Small]
 exact mH
def yd r:=kp tok mixed Tryz.func189 [av r.cells] (fun x=>.fb [lv jV x.1,lv jV x.2.1,lv jV x.2.2]) false (fQ r) (LV r) (JI r)
def pn (s:ByteArray):Sk (Bool) :=
 .br ((s.toList == (⟨#[]⟩:ByteArray).toList)||(decide (((s.size:Nat):Int) > 20)))
 (.fin false)
 (.r 3 (.aj (.o [.cU (aeG s)]) (.p (s.size≤maxLen))) fun _ =>
 .bt
 (.loop (default:Sum (Bool) (Unit)) (fun i2=>i2≤(l5 s).length) (fun i2=>(l5 s).length - i2) (0:Nat)
 (fun (i2:Nat)=>⟨[(16,iv (i2:Int))],[]⟩) fun i2=>let az:=((l5 s).getD i2 default);
 .lt 14 0 i2 ((l5 s).length)
 (.r 5 (.p (bM (i2:Int) ((l5 s).length))) fun _ =>
 .br ((!(((decide (az≥97))&&(decide (az≤122)))||((decide (az≥65))&&(decide (az≤90)))))&&(((i2:Int) == 0)||((az != 95)&&((decide (az < 48))||(decide (az > 57))))))
 (.fin (.inl (.inl false)))
 (.nx 9 16 i2 (i2+1)))
 (.fin (.inl (.inr ()))))
 (fun (_:Unit)=>⟨[],[]⟩) fun _ =>
 .fin true)
def uM s:=(pn s).val
theorem JJ (s:ByteArray):(pn s).bq (fun _=>True):=by
 unfold pn
 exact mH
def Cf s:=kk tok mixed Tryz.func259 [sv s] (fun x=>bv x) true (pn s) (uM s) (u0 (JJ s))
def kD (s:List ByteArray) (v:ByteArray):Sk (Int) :=
 .bind true (fun b1=>∀ q,q < s.length→((s.getD q default).toList == v.toList)=false)
 (.loop (default:Sum (Int) (Unit)) (fun i2=>∀ q,q < i2→((s.getD q default).toList == v.toList)=false) (fun i2=>s.length - i2) (0:Nat)
 (fun (i2:Nat)=>⟨[(8,iv (i2:Int))],[]⟩) fun i2 =>
 .lt 0 0 i2 s.length
 (.r 4 (.p (bM (i2:Int) s.length)) fun _ =>
 .br (v.toList == (s.getD i2 default).toList)
 (.fin (.inl (.inl (i2:Int))))
 (.nx 6 8 i2 (i2+1)))
 (.fin (.inl (.inr ()))))
 (fun (_:Unit)=>⟨[],[]⟩) fun _ =>
 .fin (-1)
def ye s v:=(kD s v).val
theorem xp (s:List ByteArray) (v:ByteArray):(kD s v).dq (fun (x:Int)=>(x = -1∧∀ q,q < s.length→((s.getD q default).toList == v.toList)=false)∨(0≤x∧x < s.length∧((s.getD x.toNat default).toList == v.toList)=true∧∀ q,(q:Nat) < x.toNat→((s.getD q default).toList == v.toList)=false)):=by
 unfold kD
 exact Ly
theorem ER (s:List ByteArray) (v:ByteArray):(fun (x:Int)=>(x = -1∧∀ q,q < s.length→((s.getD q default).toList == v.toList)=false)∨(0≤x∧x < s.length∧((s.getD x.toNat default).toList == v.toList)=true∧∀ q,(q:Nat) < x.toNat→((s.getD q default).toList == v.toList)=false)) (ye s v):=have h:=Sk.dc _ (xp s v); h
theorem HJ (s:List ByteArray) (v:ByteArray):(kD s v).bq (fun _=>True):=by
 unfold kD
 exact mH
def uc s v:=kp tok mixed Tryz.func282 [lv jV s,sv v] (fun x=>iv x) true (ye s v) (u0 (HJ s v)) (xp s v)
def ia (s:List ByteArray) (v:ByteArray):Sk (Bool) :=
 .r 1 ((uc s v).c) fun x1 =>
 .fin (decide (x1≥0))
def nH s v:=(ia s v).val
theorem Cg (s:List ByteArray) (v:ByteArray):(ia s v).dq (fun (x:Bool)=>(x=true↔∃ q,q < s.length∧((s.getD q default).toList == v.toList)=true)):=by
 unfold ia
 try simp only [uc]
 exact Ly
theorem DU (s:List ByteArray) (v:ByteArray):(ia s v).bq (fun _=>True):=by
 unfold ia
 try simp only [uc]
 exact mP
def vM s v:=kp tok mixed Tryz.func260 [lv jV s,sv v] (fun x=>bv x) true (nH s v) (u0 (DU s v)) (Cg s v)
def qD (names:List ByteArray) (i:Int):Sk (Int):=let az:=(names.getD i.toNat default);
 .r 1 (.aj (.p (bM i names.length)) ((Cf az).c)) fun x1 =>
 .br (!x1)
 (.fin 2)
 (.r 3 (.aj (.aj (.o [.cU (acX xT names 0 i.toNat)]) (.pt (0≤i∧i≤((names.length:Nat):Int)) (xT.lens names))) (.aj (.p (bM i names.length)) ((vM (mO names 0 i.toNat) az).c))) fun x2 =>
 .br x2
 (.fin 5)
 (.fin 0))
def mX names i:=(qD names i).val
theorem LW (names:List ByteArray) (i:Int) (hi:0≤i∧i < (names.length:Int)):(qD names i).bq (fun _=>True):=by
 unfold qD
 try simp only [Cf,vM]
 exact mH
def iB names i:=kk tok mixed Tryz.func235 [lv jV names,iv i] (fun x=>iv x) true (qD names i) (mX names i) (LW names i)
def mn (p:Int):Sk (Bool) :=
 .fin true
def Ch p:=(mn p).val
theorem F7 (p:Int):Ch p=true:=rfl
theorem F8 (p:Int):(mn p).bq (fun _=>True):=by
 unfold mn
 exact mP
def za p:=kk tok mixed Tryz.func191 [iv p] (fun x=>bv x) true (mn p) (Ch p) (u0 (F8 p))
def mo (names:List ByteArray) (fm:Int):Sk (Int) :=
 .br (decide (((names.length:Nat):Int) > fm))
 (.fin 6)
 (.bt
 (.loop (default:Sum (Int) (Unit)) (fun i2=>i2≤names.length) (fun i2=>names.length - i2) (0:Nat)
 (fun (i2:Nat)=>⟨[(15,iv (i2:Int))],[]⟩) fun i2 =>
 .lt 0 0 i2 names.length
 (.r 6 ((iB names (i2:Int)).c) fun x3 =>
 .br (x3 != 0)
 (.fin (.inl (.inl x3)))
 (.r 9 ((za (i2:Int)).c) fun x4 =>
 .br (!x4)
 (.fin (.inl (.inl 1)))
 (.nx 11 15 i2 (i2+1))))
 (.fin (.inl (.inr ()))))
 (fun (_:Unit)=>⟨[],[]⟩) fun _ =>
 .fin 0)
def mY names fm:=(mo names fm).val
theorem F9 (names:List ByteArray) (fm:Int):(mo names fm).bq (fun _=>True):=by
 unfold mo
 try simp only [za,iB,F7]
 exact xV
def rS names fm:=kk tok mixed Tryz.func190 [lv jV names,iv fm,.fn 191 []] (fun x=>iv x) true (mo names fm) (mY names fm) (u0 (F9 names fm))
def pq (l:List Int) (low:Int) (high:Int):Sk (Bool) :=
 .bt
 (.loop (default:Sum (Bool) (Unit)) (fun i2=>i2≤l.length) (fun i2=>l.length - i2) (0:Nat)
 (fun (i2:Nat)=>⟨[(11,iv (i2:Int))],[]⟩) fun i2=>let cF:=(l.getD i2 default); let aV:=(i2:Int); let az:=((decide (cF < low))||(decide (cF > high)));
 .lt 0 0 i2 l.length
 (.r 3 (.p (bM aV l.length)) fun _ =>
 .r 4 (.wh az false (.wh (decide (aV > 0)) true (.p (bM (aK (aV - 1)) l.length)))) fun _ =>
 .br (az||((decide (aV > 0))&&(decide (cF≤(l.getD ((aK (aV - 1)).toNat) default)))))
 (.fin (.inl (.inl false)))
 (.nx 6 11 i2 (i2+1)))
 (.fin (.inl (.inr ()))))
 (fun (_:Unit)=>⟨[],[]⟩) fun _ =>
 .fin true
def jB l low high:=(pq l low high).val
theorem JK (l:List Int) (low:Int) (high:Int):(pq l low high).bq (fun _=>True):=by
 unfold pq
 exact mH
def iU l low high:=kk tok mixed Tryz.func236 [lv bJ l,iv low,iv high] (fun x=>bv x) true (pq l low high) (jB l low high) (u0 (JK l low high))
def sI (r:ah) (c_:eB):Sk (Bool):=let az:=((decide (((c_.cW.length:Nat):Int) > 60))||(decide (((c_.shut.length:Nat):Int) > 200)));
 .bt
 (.loop (default:Sum (Bool) (Unit)) (fun i2=>i2≤c_.cW.length) (fun i2=>c_.cW.length - i2) (0:Nat)
 (fun (i2:Nat)=>⟨[(10,iv (i2:Int))],[]⟩) fun i2=>let aV:=((c_.cW.getD i2 default).tmod 100);
 .lt 8 0 i2 c_.cW.length
 (.r 3 (.p (bM (i2:Int) c_.cW.length)) fun _ =>
 .r 4 (.aj (.p ((100:Int)≠0)) (.wh (decide (aV < 1)) false (.p ((100:Int)≠0)))) fun _ =>
 .br ((decide (aV < 1))||(decide (aV > 31)))
 (.fin (.inl (.inl false)))
 (.nx 6 10 i2 (i2+1)))
 (.fin (.inl (.inr ()))))
 (fun (_:Unit)=>⟨[],[]⟩) fun _ =>
 .r 7 (.dep (.wh az false ((cy c_.order ((r.ak.length:Nat):Int)).c)) fun x3=>.wh (az||(!x3)) false ((cy c_.bj ((r.aY.length:Nat):Int)).c)) fun p9 =>
 .br ((az||(!p9.1))||(!p9.2))
 (.fin false)
 (.r 9 (.dep ((iU c_.rest 0 6).c) fun x5=>.dep (.wh x5 true ((iU c_.cW 101 1231).c)) fun x6=>.wh (x5&&x6) true ((iU c_.shut 0 100000).c)) fun p8 =>
 .fin ((p8.1&&p8.2.1)&&p8.2.2))
def Ae r c_:=(sI r c_).val
theorem NQ (r:ah) (c_:eB):(sI r c_).bq (fun _=>True):=by
 unfold sI
 try simp only [cy,iU,jz]
 exact xV
def Ga r c_:=kk tok mixed Tryz.func193 [av r.cells,av c_.cells] (fun x=>bv x) true (sI r c_) (Ae r c_) (u0 (NQ r c_))
def mq (i:Int) (v:ah):Sk (Bool) :=
 .r 1 (.aj (.p (bM i v.aB.length)) ((Ga v (v.aB.getD i.toNat default)).c)) fun x1 =>
 .fin x1
def LX i v:=(mq i v).val
theorem Gb (i:Int) (v:ah) (hi:0≤i∧i < (v.aB.length:Int)):(mq i v).bq (fun _=>True):=by
 unfold mq
 try simp only [Ga]
 exact mH
def zb i v:=kk tok mixed Tryz.func192 [iv i,.ref v.cells] (fun x=>bv x) true (mq i v) (LX i v) (Gb i v)
def mu (names:List ByteArray) (fm:Int) (v:ah):Sk (Int) :=
 .br (decide (((names.length:Nat):Int) > fm))
 (.fin 6)
 (.bt
 (.loop (default:Sum (Int) (Unit)) (fun i2=>i2≤names.length) (fun i2=>names.length - i2) (0:Nat)
 (fun (i2:Nat)=>⟨[(15,iv (i2:Int))],[]⟩) fun i2 =>
 .lt 0 0 i2 names.length
 (.r 6 ((iB names (i2:Int)).c) fun x3 =>
 .br (x3 != 0)
 (.fin (.inl (.inl x3)))
 (.r 9 ((zb (i2:Int) v).c) fun x4 =>
 .br (!x4)
 (.fin (.inl (.inl 1)))
 (.nx 11 15 i2 (i2+1))))
 (.fin (.inl (.inr ()))))
 (fun (_:Unit)=>⟨[],[]⟩) fun _ =>
 .fin 0)
def mZ names fm v:=(mu names fm v).val
theorem Gc (names:List ByteArray) (fm:Int) (v:ah) (hv:names.length≤v.aB.length):(mu names fm v).bq (fun _=>True):=by
 unfold mu
 try simp only [zb,iB]
 exact mH
def rT names fm v:=kk tok mixed Tryz.func190 [lv jV names,iv fm,.fn 192 [.ref v.cells]] (fun x=>iv x) true (mu names fm v) (mZ names fm v) (Gc names fm v)
def mw (i:Int) (v:ah):Sk (Bool):=let az:=(v.bu.getD i.toNat default);
 .r 1 (.aj (.p (bM i v.bu.length)) (.dep ((cy (az.aL) ((v.aB.length:Nat):Int)).c) fun x1=>.aj (.wh x1 true (.p (bM i v.bu.length))) (.wh x1 true ((cy (az.group) ((v.cO.length:Nat):Int)).c)))) fun p3 =>
 .fin (p3.1&&p3.2)
def LY i v:=(mw i v).val
theorem Gd (i:Int) (v:ah) (hi:0≤i∧i < (v.bu.length:Int)):(mw i v).bq (fun _=>True):=by
 unfold mw
 try simp only [cy,jz]
 exact xV
def zc i v:=kk tok mixed Tryz.func195 [iv i,.ref v.cells] (fun x=>bv x) true (mw i v) (LY i v) (Gd i v)
def my (names:List ByteArray) (fm:Int) (v:ah):Sk (Int) :=
 .br (decide (((names.length:Nat):Int) > fm))
 (.fin 6)
 (.bt
 (.loop (default:Sum (Int) (Unit)) (fun i2=>i2≤names.length) (fun i2=>names.length - i2) (0:Nat)
 (fun (i2:Nat)=>⟨[(15,iv (i2:Int))],[]⟩) fun i2 =>
 .lt 0 0 i2 names.length
 (.r 6 ((iB names (i2:Int)).c) fun x3 =>
 .br (x3 != 0)
 (.fin (.inl (.inl x3)))
 (.r 9 ((zc (i2:Int) v).c) fun x4 =>
 .br (!x4)
 (.fin (.inl (.inl 1)))
 (.nx 11 15 i2 (i2+1))))
 (.fin (.inl (.inr ()))))
 (fun (_:Unit)=>⟨[],[]⟩) fun _ =>
 .fin 0)
def m5 names fm v:=(my names fm v).val
theorem Ge (names:List ByteArray) (fm:Int) (v:ah) (hv:names.length≤v.bu.length):(my names fm v).bq (fun _=>True):=by
 unfold my
 try simp only [zc,iB]
 exact mH
def rU names fm v:=kk tok mixed Tryz.func190 [lv jV names,iv fm,.fn 195 [.ref v.cells]] (fun x=>iv x) true (my names fm v) (m5 names fm v) (Ge names fm v)
def qE (o:Order):Sk (Bool) :=
 .bind true (fun b1=>b1.length≤0+o.aE.length)
 (.loop (default:Sum (Bool) ((List Int))) (fun i2=>i2.2≤o.aE.length∧i2.1.length≤0+i2.2) (fun i2=>o.aE.length - i2.2) (([],0):(List Int) × Nat)
 (fun (i2:(List Int) × Nat)=>⟨[(3,ow 100002 i2.1),(12,iv (i2.2:Int))],[(100002,cp 3 1 bJ i2.1)]⟩) fun i2=>let az:=(o.aE.getD i2.2 default);
 .lt 10 0 i2.2 o.aE.length
 (.r 4 (.p (bM (i2.2:Int) o.aE.length)) fun _ =>
 .r 5 (.aj (.o [.cU (dG cN [az.ask])]) (.aj (.o [.cU (kx cN i2.1 [az.ask])]) (.aj (.t (cN.k6 [az.ask])) (.p (uG i2.1.length [az.ask].length 8))))) fun _ =>
 .r 6 ((cy (az.ka) 5).c) fun x3 =>
 .br (!x3)
 (.fin (.inl (.inl false)))
 (.nx 8 12 i2.2 (i2.1++[az.ask],i2.2+1)))
 (.fin (.inl (.inr i2.1))))
 (fun (b1:(List Int))=>⟨[(3,ow 100001 b1)],[(100001,cp 3 1 bJ b1)]⟩) fun b1 =>
 .bind true (fun b4=>b4.length≤0+o.rules.length)
 (.loop (default:Sum (Bool) ((List Int))) (fun i5=>i5.2≤o.rules.length∧i5.1.length≤0+i5.2) (fun i5=>o.rules.length - i5.2) (([],0):(List Int) × Nat)
 (fun (i5:(List Int) × Nat)=>⟨[(4,ow 100005 i5.1),(29,iv (i5.2:Int))],[(100005,cp 3 1 bJ i5.1)]⟩) fun i5=>let aV:=(o.rules.getD i5.2 default);
 .lt 27 0 i5.2 o.rules.length
 (.r 11 (.p (bM (i5.2:Int) o.rules.length)) fun _ =>
 .r 12 (.aj (.o [.cU (dG cN [aV.ask])]) (.aj (.o [.cU (kx cN i5.1 [aV.ask])]) (.aj (.t (cN.k6 [aV.ask])) (.p (uG i5.1.length [aV.ask].length 8))))) fun _ =>
 .nx 13 29 i5.2 (i5.1++[aV.ask],i5.2+1))
 (.fin (.inl (.inr i5.1))))
 (fun (b4:(List Int))=>⟨[(4,ow 100004 b4)],[(100004,cp 3 1 bJ b4)]⟩) fun b4 =>
 .r 14 (.dep ((iU b1 0 21).c) fun x6=>.wh x6 true ((iU b4 0 21).c)) fun p8 =>
 .fin (p8.1&&p8.2)
def xq o:=(qE o).val
theorem LZ (o:Order) (ho:o.aE.length≤1000000∧o.rules.length≤1000000):(qE o).bq (fun _=>True):=by
 unfold qE
 try simp only [cy,iU,jz]
 exact xV
def Ej o:=kk tok mixed Tryz.func197 [av o.cells] (fun x=>bv x) true (qE o) (xq o) (LZ o)
def mz (i:Int) (v:ah):Sk (Bool) :=
 .r 1 (.aj (.p (bM i v.ak.length)) ((Ej (v.ak.getD i.toNat default)).c)) fun x1 =>
 .fin x1
def L0 i v:=(mz i v).val
theorem Gf (i:Int) (v:ah) (hi:0≤i∧i < (v.ak.length:Int)) (hv:v.Small):(mz i v).bq (fun _=>True):=by
 simp only [aw.Small,ah.Small] at hv
 unfold mz
 try simp only [Ej,aw.Small,ah.Small]
 exact mH
def zd i v:=kk tok mixed Tryz.func196 [iv i,.ref v.cells] (fun x=>bv x) true (mz i v) (L0 i v) (u2 (Gf i v))
def mA (names:List ByteArray) (fm:Int) (v:ah):Sk (Int) :=
 .br (decide (((names.length:Nat):Int) > fm))
 (.fin 6)
 (.bt
 (.loop (default:Sum (Int) (Unit)) (fun i2=>i2≤names.length) (fun i2=>names.length - i2) (0:Nat)
 (fun (i2:Nat)=>⟨[(15,iv (i2:Int))],[]⟩) fun i2 =>
 .lt 0 0 i2 names.length
 (.r 6 ((iB names (i2:Int)).c) fun x3 =>
 .br (x3 != 0)
 (.fin (.inl (.inl x3)))
 (.r 9 ((zd (i2:Int) v).c) fun x4 =>
 .br (!x4)
 (.fin (.inl (.inl 1)))
 (.nx 11 15 i2 (i2+1))))
 (.fin (.inl (.inr ()))))
 (fun (_:Unit)=>⟨[],[]⟩) fun _ =>
 .fin 0)
def m6 names fm v:=(mA names fm v).val
theorem Gg (names:List ByteArray) (fm:Int) (v:ah) (hv:names.length≤v.ak.length) (hs:v.Small):(mA names fm v).bq (fun _=>True):=by
 simp only [aw.Small,ah.Small] at hs
 unfold mA
 try simp only [zd,iB,aw.Small,ah.Small]
 exact mH
def rV names fm v:=kk tok mixed Tryz.func190 [lv jV names,iv fm,.fn 196 [.ref v.cells]] (fun x=>iv x) true (mA names fm v) (m6 names fm v) (u2 (Gg names fm v))
def kE (r:ah):Sk (Int):=let HA:=((r.aR.length:Nat):Int); let kV:=((r.aB.length:Nat):Int);
 .br (decide (HA > 100))
 (.fin 6)
 (.bt
 (.loop (default:Sum (Int) (Unit)) (fun i2=>i2≤r.aR.length) (fun i2=>r.aR.length - i2) (0:Nat)
 (fun (i2:Nat)=>⟨[(14,iv (i2:Int))],[]⟩) fun i2=>let cF:=(i2:Int); let aV:=(mO r.aR 0 i2); let az:=(r.aR.getD i2 default); let NR:=(decide ((az.days) > 20000)); let eG:=(decide ((az.days) < 1));
 .lt 12 0 i2 r.aR.length
 (.bt
 (.r 5 (.p (bM cF r.aR.length)) fun _ =>
 .r 6 (.dep ((cy (az.from_) kV).c) fun x4=>.wh (!x4) false ((cy (az.cr) kV).c)) fun p8=>let rz:=((!p8.1)||(!p8.2));
 .br ((rz||eG)||NR)
 (.fin (.inl (.inl (.inl 1))))
 (.r 8 (.aj (.o [.cU (acX dJ.E r.aR 0 i2)]) (.pt (0≤cF∧cF≤HA) (dJ.E.lens r.aR))) fun _ =>
 .bt
 (.loop (default:Sum (Sum (Sum (Sum (Int) (Unit)) (Nat)) (Int × Int × dJ × Int × (List eB) × Int × Bool × Bool × Bool × Bool × Bool × Bool × Bool × Bool × (List dJ) × Int × (List dJ) × Int × Int × Bool)) (Int × Bool)) (fun i7=>i7≤aV.length) (fun i7=>aV.length - i7) (0:Nat)
 (fun (i7:Nat)=>⟨[(50,iv (i7:Int))],[]⟩) fun i7=>let B2:=(i7:Int);
 .lt 48 0 i7 (aV.length)
 (.r 10 (.p (bM B2 (aV.length))) fun _ =>
 .br ((((aV.getD i7 default).from_) == (az.from_))&&(((aV.getD i7 default).cr) == (az.cr)))
 (.fin (.inl (.inl (.inl (.inl (.inl 5))))))
 (.nx 13 50 i7 (i7+1)))
 (.fin (.inl (.inr (B2,decide (B2 < ((aV.length:Nat):Int)))))))
 (fun (b6:Int × Bool)=>⟨[(50,iv b6.1),(51,bv b6.2)],[]⟩) fun b6 =>
 .fin (.inr (cF,cF,r.aR.getD i2 default,az.from_,r.aB,kV,p8.1,!p8.1,!p8.1,(!p8.1)||(!p8.2),(!p8.1)||(!p8.2),rz||eG,rz||eG,(rz||eG)||NR,r.aR,cF,mO r.aR 0 i2,((aV.length:Nat):Int),b6.1,b6.2))))
 (fun (b3:Int × Int × dJ × Int × (List eB) × Int × Bool × Bool × Bool × Bool × Bool × Bool × Bool × Bool × (List dJ) × Int × (List dJ) × Int × Int × Bool)=>⟨[(3,iv b3.1),(16,iv b3.2.1),(18,av b3.2.2.1.cells),(20,iv b3.2.2.2.1),(22,lv eB.cells b3.2.2.2.2.1),(23,iv b3.2.2.2.2.2.1),(24,bv b3.2.2.2.2.2.2.1),(25,bv b3.2.2.2.2.2.2.2.1),(26,bv b3.2.2.2.2.2.2.2.2.1),(34,bv b3.2.2.2.2.2.2.2.2.2.1),(35,bv b3.2.2.2.2.2.2.2.2.2.2.1),(39,bv b3.2.2.2.2.2.2.2.2.2.2.2.1),(40,bv b3.2.2.2.2.2.2.2.2.2.2.2.2.1),(44,bv b3.2.2.2.2.2.2.2.2.2.2.2.2.2.1),(46,lv dJ.cells b3.2.2.2.2.2.2.2.2.2.2.2.2.2.2.1),(47,iv b3.2.2.2.2.2.2.2.2.2.2.2.2.2.2.2.1),(48,lv dJ.cells b3.2.2.2.2.2.2.2.2.2.2.2.2.2.2.2.2.1),(49,iv b3.2.2.2.2.2.2.2.2.2.2.2.2.2.2.2.2.2.1),(50,iv b3.2.2.2.2.2.2.2.2.2.2.2.2.2.2.2.2.2.2.1),(51,bv b3.2.2.2.2.2.2.2.2.2.2.2.2.2.2.2.2.2.2.2)],[]⟩) fun _ =>
 .nx 14 14 i2 (i2+1))
 (.fin (.inl (.inr ()))))
 (fun (_:Unit)=>⟨[],[]⟩) fun _ =>
 .fin 0)
def oE r:=(kE r).val
theorem HK (r:ah):(kE r).bq (fun _=>True):=by
 unfold kE
 try simp only [cy,jz]
 exact xV
def ud r:=kk tok mixed Tryz.func198 [av r.cells] (fun x=>iv x) true (kE r) (oE r) (u0 (HK r))
def lP (r:ah):Sk (Int):=let eG:=((r.aY.length:Nat):Int);
 .br (decide (((r.cg.length:Nat):Int) > 100))
 (.fin 6)
 (.bt
 (.loop (default:Sum (Int) (Unit)) (fun i2=>i2≤r.cg.length) (fun i2=>r.cg.length - i2) (0:Nat)
 (fun (i2:Nat)=>⟨[(14,iv (i2:Int))],[]⟩) fun i2=>let az:=(r.cg.getD i2 default);
 .lt 12 0 i2 r.cg.length
 (.r 5 (.p (bM (i2:Int) r.cg.length)) fun _ =>
 .r 6 (.dep ((cy (az.from_) eG).c) fun x3=>.dep (.wh (!x3) false ((cy (az.cr) eG).c)) fun x4=>let cF:=(((!x3)||(!x4))||((az.from_) == (az.cr))); .dep (.wh cF false ((cy (aK ((az.num) - 1)) 1073741824).c)) fun x5=>.dep (.wh (cF||(!x5)) false ((cy (aK ((az.den) - 1)) 1073741824).c)) fun x6=>.wh ((cF||(!x5))||(!x6)) false ((cy (az.since) 100001).c)) fun p8 =>
 .br ((((((!p8.1)||(!p8.2.1))||((az.from_) == (az.cr)))||(!p8.2.2.1))||(!p8.2.2.2.1))||(!p8.2.2.2.2))
 (.fin (.inl (.inl 1)))
 (.nx 8 14 i2 (i2+1)))
 (.fin (.inl (.inr ()))))
 (fun (_:Unit)=>⟨[],[]⟩) fun _ =>
 .br (decide (((r.ca.length:Nat):Int) > 20))
 (.fin 6)
 (.bind true (fun b9=>r.cj)
 (.loop (default:Sum (Int) (Unit)) (fun i10=>(∀ i,i < i10→(r.ca.getD i default).cr≤100000)∧i10≤r.ca.length) (fun i10=>r.ca.length - i10) (0:Nat)
 (fun (i10:Nat)=>⟨[(69,iv (i10:Int))],[]⟩) fun i10=>let aV:=(r.ca.getD i10 default);
 .lt 67 0 i10 r.ca.length
 (.r 13 (.p (bM (i10:Int) r.ca.length)) fun _ =>
 .r 14 ((cy (aV.order) ((r.ak.length:Nat):Int)).c) fun VX =>
 .br ((((!VX)||(decide ((aV.from_) < 0)))||(decide ((aV.from_) > (aV.cr))))||(decide ((aV.cr) > 100000)))
 (.fin (.inl (.inl 1)))
 (.nx 16 69 i10 (i10+1)))
 (.fin (.inl (.inr ()))))
 (fun (_:Unit)=>⟨[],[]⟩) fun _ =>
 .fin 0))
def Af r:=(lP r).val
theorem L1 (r:ah):(lP r).dq (fun (x:Int)=>x=0→r.cj):=by
 unfold lP
 try simp only [cy,jz,ah.cj]
 exact Yp
theorem NS (r:ah):(lP r).bq (fun _=>True):=by
 unfold lP
 try simp only [cy,jz,ah.cj]
 exact xV
def Ag r:=kp tok mixed Tryz.func199 [av r.cells] (fun x=>iv x) true (Af r) (u0 (NS r)) (L1 r)
def m7 (r:ah):Sk (Int) :=
 .r 1 ((yd r).c) fun x1 =>
 .r 2 ((rS r.aY 8).c) fun x2 =>
 .br (x2 != 0)
 (.fin x2)
 (.r 5 ((rT x1.1 40 r).c) fun x3 =>
 .br (x3 != 0)
 (.fin x3)
 (.br (decide (((r.cO.length:Nat):Int) > 20))
 (.fin 6)
 (.bt
 (.loop (default:Sum (Int) (Unit)) (fun i5=>i5≤r.cO.length) (fun i5=>r.cO.length - i5) (0:Nat)
 (fun (i5:Nat)=>⟨[(38,iv (i5:Int))],[]⟩) fun i5 =>
 .lt 36 0 i5 r.cO.length
 (.r 12 (.p (bM (i5:Int) r.cO.length)) fun _ =>
 .r 13 ((cy ((r.cO.getD i5 default).Eg) 10).c) fun x6 =>
 .br (!x6)
 (.fin (.inl (.inl 1)))
 (.nx 15 38 i5 (i5+1)))
 (.fin (.inl (.inr ()))))
 (fun (_:Unit)=>⟨[],[]⟩) fun _ =>
 .r 16 ((rU x1.2.1 200 r).c) fun x7 =>
 .br (x7 != 0)
 (.fin x7)
 (.r 19 ((rV x1.2.2 20 r).c) fun x8 =>
 .br (x8 != 0)
 (.fin x8)
 (.r 22 ((ud r).c) fun x9 =>
 .br (x9 != 0)
 (.fin x9)
 (.r 25 ((Ag r).c) fun Ju =>
 .fin Ju))))))
def m8 r:=(m7 r).val
theorem JL (r:ah):(m7 r).dq (fun (x:Int)=>x=0→r.cj):=by
 unfold m7
 try simp only [rS,rT,rU,rV,cy,yd,Ag,ud,jz,aw.Small,ah.Small,ah.cj]
 exact Yp
theorem L2 (r:ah) (hr:r.Small):(m7 r).bq (fun _=>True):=by
 simp only [aw.Small,ah.Small,ah.cj] at hr
 unfold m7
 try simp only [rS,rT,rU,rV,cy,yd,Ag,ud,jz,aw.Small,ah.Small,ah.cj]
 exact xV
def yf r:=kp tok mixed Tryz.func137 [av r.cells] (fun x=>iv x) true (m8 r) (L2 r) (JL r)
def pv (r:ah) (aL:Int):Sk (Bool) :=
 .fin ((decide (aL≥0))&&(decide (aL < ((r.aB.length:Nat):Int))))
def qF r aL:=(pv r aL).val
theorem Bi (r:ah) (aL:Int):qF r aL=((decide (aL≥0))&&(decide (aL < ((r.aB.length:Nat):Int)))):=rfl
theorem JM (r:ah) (aL:Int):(pv r aL).bq (fun _=>True):=by
 unfold pv
 exact mP
def qG r aL:=kk tok mixed Tryz.func138 [av r.cells,iv aL] (fun x=>bv x) true (pv r aL) (qF r aL) (u0 (JM r aL))
def qH (n:Int):Sk (Bool) :=
 .fin ((decide (n≥0))&&(decide (n≤100000)))
def qb n:=(qH n).val
theorem Ci (n:Int):qb n=((decide (n≥0))&&(decide (n≤100000))):=rfl
theorem L3 (n:Int):(qH n).bq (fun _=>True):=by
 unfold qH
 exact mP
def oG n:=kk tok mixed Tryz.func139 [iv n] (fun x=>bv x) true (qH n) (qb n) (u0 (L3 n))
def px (t:ov):Sk (Bool) :=
 .fin ((t.kind == 0)||(t.kind == 1))
def uN t:=(px t).val
theorem Bj (t:ov):uN t=((t.kind == 0)||(t.kind == 1)):=rfl
theorem JN (t:ov):(px t).bq (fun _=>True):=by
 unfold px
 exact mP
def vN t:=kk tok mixed Tryz.func140 [av t.cells] (fun x=>bv x) true (px t) (uN t) (u0 (JN t))
def jC (day:Int):Sk (Bool) :=
 .fin ((decide ((0:Int)≤day))&&(decide (day≤100000)))
def bF day:=(jC day).val
theorem qI (day:Int):bF day=((decide ((0:Int)≤day))&&(decide (day≤100000))):=rfl
theorem Gh (day:Int):(jC day).bq (fun _=>True):=by
 unfold jC
 exact mP
def dX day:=kk tok mixed Tryz.func238 [iv day] (fun x=>bv x) true (jC day) (bF day) (u0 (Gh day))
theorem Gi (day:Int):jl Tryz.prog 238 [iv day] [] (bv (bF day)) []:=(dX day).pf trivial
def jD (day:Int):Sk (Int × Int × Int):=let eG:=((aK (day+730425)).tmod 146097); let az:=(aK ((aK ((aK ((aK (eG - (aK (eG.tdiv 1460))))+(aK (eG.tdiv 36524)))) - (aK (eG.tdiv 146096)))).tdiv 365)); let rz:=(az+(aK ((400:Int) * (aK ((aK (day+730425)).tdiv 146097))))); let aV:=(aK (eG - (aK ((aK ((aK ((365:Int) * az))+(aK (az.tdiv 4)))) - (aK (az.tdiv 100)))))); let cF:=(aK ((aK ((aK ((5:Int) * aV))+2)).tdiv 153)); let kV:=((aK (aV - (aK ((aK ((aK ((153:Int) * cF))+2)).tdiv 5))))+1);
 .r 2 (.aj (.p ((146097:Int)≠0)) (.p ((146097:Int)≠0))) fun _ =>
 .r 3 (.aj (.p ((1460:Int)≠0)) (.aj (.p ((36524:Int)≠0)) (.aj (.p ((146096:Int)≠0)) (.p ((365:Int)≠0))))) fun _ =>
 .r 4 (.aj (.p ((4:Int)≠0)) (.p ((100:Int)≠0))) fun _ =>
 .r 5 (.p ((153:Int)≠0)) fun _ =>
 .r 6 (.p ((5:Int)≠0)) fun _ =>
 .bind false (fun _=>True)
 (.br (decide ((aK (cF+3)) > 12))
 (.fin (.inr (aK ((aK (cF+3)) - 12))))
 (.fin (.inr (aK (cF+3)))))
 (fun (b1:Int)=>⟨[(3,iv b1)],[]⟩) fun b1 =>
 .br (decide (b1 < 3))
 (.fin (aK ((aK rz)+1),b1,aK kV))
 (.fin (aK rz,b1,aK kV))
def bG day:=(jD day).val
theorem Gj (day:Int):(jD day).bq (fun _=>True):=by
 unfold jD
 exact mH
def kF day:=kk tok mixed Tryz.func261 [iv day] (fun x=>.fb [iv x.1,iv x.2.1,iv x.2.2]) true (jD day) (bG day) (u0 (Gj day))
def iV (year:Int) (month:Int) (uv:Int):Sk (Int) :=
 .br (decide (month < 3))
 (.r 3 (.aj (.p ((4:Int)≠0)) (.aj (.p ((100:Int)≠0)) (.aj (.p ((400:Int)≠0)) (.p ((5:Int)≠0))))) fun _ =>
 .fin (aK ((aK ((aK ((aK ((aK ((aK ((aK ((aK ((365:Int) * (aK (year - 1))))+(aK ((aK (year - 1)).tdiv 4)))) - (aK ((aK (year - 1)).tdiv 100))))+(aK ((aK (year - 1)).tdiv 400))))+(aK ((aK ((aK ((153:Int) * (aK ((aK (month+12)) - 3))))+2)).tdiv 5))))+uv)) - 1)) - 730425)))
 (.r 3 (.aj (.p ((4:Int)≠0)) (.aj (.p ((100:Int)≠0)) (.aj (.p ((400:Int)≠0)) (.p ((5:Int)≠0))))) fun _ =>
 .fin (aK ((aK ((aK ((aK ((aK ((aK ((aK ((aK ((365:Int) * year))+(aK (year.tdiv 4)))) - (aK (year.tdiv 100))))+(aK (year.tdiv 400))))+(aK ((aK ((aK ((153:Int) * (aK (month - 3))))+2)).tdiv 5))))+uv)) - 1)) - 730425)))
def gZ year month uv:=(iV year month uv).val
theorem ES (year:Int) (month:Int) (uv:Int):(iV year month uv).bq (fun _=>True):=by
 unfold iV
 exact mH
def jE year month uv:=kk tok mixed Tryz.func283 [iv year,iv month,iv uv] (fun x=>iv x) true (iV year month uv) (gZ year month uv) (u0 (ES year month uv))
def lj (year:Int) (month:Int):Sk (Int) :=
 .br (month == 12)
 (.fin 31)
 (.r 3 (.dep ((jE year (aK (month+1)) 1).c) fun _=>(jE year month 1).c) fun p3 =>
 .fin (aK (p3.1 - p3.2)))
def g0 year month:=(lj year month).val
theorem ET (year:Int) (month:Int):(lj year month).bq (fun _=>True):=by
 unfold lj
 try simp only [jE]
 exact mP
def jF year month:=kk tok mixed Tryz.func263 [iv year,iv month] (fun x=>iv x) true (lj year month) (g0 year month) (u0 (ET year month))
def py (year:Int) (month:Int) (uv:Int):Sk (Int × Int):=let az:=(((((decide (year < 2000))||(decide (year > 2300)))||(decide (month < 1)))||(decide (month > 12)))||(decide (uv < 1)));
 .r 1 (.wh az false ((jF year month).c)) fun x1 =>
 .br (az||(decide (uv > x1)))
 (.fin (0,3))
 (.r 3 ((jE year month uv).c) fun x2 =>
 .r 4 ((dX x2).c) fun x3 =>
 .br (!x3)
 (.fin (0,3))
 (.fin (x2,0)))
def qJ year month uv:=(py year month uv).val
theorem JO (year:Int) (month:Int) (uv:Int):(py year month uv).bq (fun _=>True):=by
 unfold py
 try simp only [jF,jE,dX,qI]
 exact xV
def vO year month uv:=kk tok mixed Tryz.func262 [iv year,iv month,iv uv] (fun x=>.fb [iv x.1,iv x.2]) true (py year month uv) (qJ year month uv) (u0 (JO year month uv))
def eH (day:Int) (n:Int):Sk (Int × Int) :=
 .r 1 ((dX day).c) fun x1 =>
 .br (((!x1)||(decide (n < (-5000))))||(decide (n > 5000)))
 (.fin (0,3))
 (.r 3 ((kF day).c) fun x2=>let az:=(aK ((aK ((aK ((aK ((12:Int) * x2.1))+x2.2.1)) - 1))+n));
 .r 5 (.aj (.p ((12:Int)≠0)) (.p ((12:Int)≠0))) fun _ =>
 .r 6 (.dep ((jF (aK (az.tdiv 12)) (aK ((az.tmod 12)+1))).c) fun x3=>(vO (aK (az.tdiv 12)) (aK ((az.tmod 12)+1)) (fB x2.2.2 x3)).c) fun p5 =>
 .fin (p5.2.1,p5.2.2))
def cC day n:=(eH day n).val
theorem Bx (day:Int) (n:Int):(eH day n).bq (fun _=>True):=by
 unfold eH
 try simp only [vO,kF,jF,dX,qI]
 exact xV
def tB day n:=kk tok mixed Tryz.func237 [iv day,iv n] (fun x=>.fb [iv x.1,iv x.2]) true (eH day n) (cC day n) (u0 (Bx day n))
def qK (day:Int) (t:ov):Sk (Int × Int) :=
 .br ((decide (t.n < 0))||(decide (t.n > 20000)))
 (.fin (0,3))
 (.br (t.unit == 1)
 (.r 4 ((tB day t.n).c) fun x1 =>
 .fin (x1.1,x1.2))
 (.fin (aK (day+t.n),0)))
def Us day t:=(qK day t).val
theorem L4 (day:Int) (t:ov):(qK day t).bq (fun _=>True):=by
 unfold qK
 try simp only [tB]
 exact mP
def yg day t:=kk tok mixed Tryz.func200 [iv day,av t.cells] (fun x=>.fb [iv x.1,iv x.2]) true (qK day t) (Us day t) (u0 (L4 day t))
def lF (r:ah) (from_:Int) (cr:Int):Sk (Int × Int) :=
 .bt
 (.loop (default:Sum (Int × Int) (Unit)) (fun i2=>i2≤r.aR.length) (fun i2=>r.aR.length - i2) (0:Nat)
 (fun (i2:Nat)=>⟨[(13,iv (i2:Int))],[]⟩) fun i2=>let az:=(r.aR.getD i2 default);
 .lt 11 0 i2 r.aR.length
 (.r 3 (.p (bM (i2:Int) r.aR.length)) fun _ =>
 .br (((az.from_) == from_)&&((az.cr) == cr))
 (.fin (.inl (.inl (az.days,0))))
 (.nx 6 13 i2 (i2+1)))
 (.fin (.inl (.inr ()))))
 (fun (_:Unit)=>⟨[],[]⟩) fun _ =>
 .fin (0,4)
def cQ r from_ cr:=(lF r from_ cr).val
theorem JP (r:ah) (from_:Int) (cr:Int):(lF r from_ cr).bq (fun _=>True):=by
 unfold lF
 exact mH
def Cj r from_ cr:=kk tok mixed Tryz.func201 [av r.cells,iv from_,iv cr] (fun x=>.fb [iv x.1,iv x.2]) true (lF r from_ cr) (cQ r from_ cr) (u0 (JP r from_ cr))
def sJ (r:ah) (b:jX) (seen:Int):Sk (Int × Int) :=
 .br (b.aC.kind == 0)
 (.fin (seen,0))
 (.br (b.aC.kind == 1)
 (.r 5 ((yg seen b.aC).c) fun x1 =>
 .fin (x1.1,x1.2))
 (.br (b.aC.kind == 2)
 (.r 7 ((yg b.day b.aC).c) fun x2 =>
 .fin (x2.1,x2.2))
 (.br (b.aC.kind == 4)
 (.r 9 ((Cj r b.aL b.rD).c) fun x3 =>
 .fin (aK (b.day+x3.1),x3.2))
 (.fin (b.aC.n,0)))))
def m9 r b seen:=(sJ r b seen).val
theorem NT (r:ah) (b:jX) (seen:Int):(sJ r b seen).bq (fun _=>True):=by
 unfold sJ
 try simp only [Cj,yg]
 exact mP
def Ah r b seen:=kk tok mixed Tryz.func141 [av r.cells,av b.cells,iv seen] (fun x=>.fb [iv x.1,iv x.2]) true (sJ r b seen) (m9 r b seen) (u0 (NT r b seen))
def qc (r:ah) (o x:Int):Bool:=r.ca.any fun h=>(h.order == o)&&(decide (h.from_≤x)&&decide (x≤h.cr))
def vP (r:ah) (o d x:Int):Prop:=d≤x∧qc r o x=false∧∀ y,d≤y→y < x→qc r o y=true
theorem vP.uniq {r:ah} {o d x y:Int} (h:vP r o d x) (k:vP r o d y):x=y:=by
 rcases Int.lt_trichotomy x y with hl | hl | hl
 ·have:=k.2.2 x h.1 hl
  rw [h.2.1] at this; cases this
 ·exact hl
 ·have:=h.2.2 y k.1 hl
  rw [k.2.1] at this; cases this
theorem vP.back {r:ah} {o d n x:Int} (h:vP r o n x) (hd:d≤n) (hh:∀ y,d≤y→y < n→qc r o y=true):vP r o d x :=
 ⟨by have:=h.1; omega,h.2.1,fun y h1 h2=>by
  by_cases e:y < n
  ·exact hh y h1 e
  ·exact h.2.2 y (by omega) h2⟩
theorem ZG {r:ah} (hr:r.cj) (o:Int) {x:Int} (hx:100000 < x):qc r o x=false:=by
 rw [qc,List.any_eq_false]
 intro h hm
 obtain ⟨i,hi,e⟩:=List.getElem_of_mem hm
 have:=hr i hi
 rw [show r.ca.getD i default=r.ca[i] by simp [List.getD,hi],e] at this
 simp only [Bool.and_eq_true,decide_eq_true_eq]
 omega
theorem Gk {r:ah} {o x:Int} {i:Nat} (hi:i < r.ca.length) (h:(r.ca.getD i default).order=o∧(r.ca.getD i default).from_≤x∧x≤(r.ca.getD i default).cr):qc r o x=true:=by
 rw [qc,List.any_eq_true]
 refine ⟨_,fX hi default,?_⟩
 simp only [Bool.and_eq_true,beq_iff_eq,decide_eq_true_eq]
 exact ⟨h.1,h.2⟩
theorem Dn {r:ah} {o x:Int} (h:∀ q,q < r.ca.length→¬ ((r.ca.getD q default).order=o∧(r.ca.getD q default).from_≤x∧x≤(r.ca.getD q default).cr)):qc r o x=false:=by
 rw [qc,List.any_eq_false]
 intro e hm hq
 obtain ⟨i,hi,rfl⟩:=List.getElem_of_mem hm
 have:=h i hi
 rw [show r.ca.getD i default=r.ca[i] by simp [List.getD,hi]] at this
 simp only [Bool.and_eq_true,decide_eq_true_eq,beq_iff_eq] at hq
 exact this ⟨hq.1,hq.2.1,hq.2.2⟩
def lQ (r:ah) (order:Int) (day:Int):Sk (Int):=let cF:=((r.ca.length:Nat):Int);
 .bind true (fun b1=>(day≤b1∧b1≤100001)∧vP r order day b1)
 (.loop (default:Sum (Int) (Int)) (fun i2=>(day≤i2.1∧i2.1≤100001)∧(∀ y,day≤y→y < i2.1→qc r order y=true)∧(i2.2=false→qc r order i2.1=false)) (fun i2=>2 * (100001 - i2.1).toNat+(if i2.2 then 1 else 0)) ((day,true):Int × Bool)
 (fun (i2:Int × Bool)=>⟨[(2,iv i2.1),(7,bv i2.2)],[]⟩) fun i2 =>
 .br i2.2
 (.bind true (fun b3=>i2.1≤b3.1∧b3.1≤100001∧(b3.2.1=true→i2.1 < b3.1)∧(b3.2.1=false→b3.1=i2.1)∧(∀ y,i2.1≤y→y < b3.1→qc r order y=true)∧(b3.2.1=false→qc r order b3.1=false))
 (.bind true (fun b4=>i2.1≤b4.1∧b4.1≤100001∧(b4.2.1=true→i2.1 < b4.1)∧(b4.2.1=false→b4.1=i2.1)∧(∀ y,i2.1≤y→y < b4.1→qc r order y=true)∧(b4.2.1=false→qc r order b4.1=false))
 (.loop (default:Sum (Sum (Sum (Sum (Int) (Int)) (Int × Bool)) (Int × Bool × (List Halt) × Int × Int × Bool)) (Int × Bool × Int × Bool)) (fun i5=>i5.2.2≤r.ca.length∧i2.1≤i5.1∧i5.1≤100001∧(i5.2.1=true→i2.1 < i5.1)∧(i5.2.1=false→i5.1=i2.1)∧(∀ y,i2.1≤y→y < i5.1→qc r order y=true)∧(i5.2.1=false→∀ q,q < i5.2.2→¬ ((r.ca.getD q default).order=order∧(r.ca.getD q default).from_≤i5.1∧i5.1≤(r.ca.getD q default).cr))) (fun i5=>r.ca.length - i5.2.2) ((i2.1,false,0):Int × Bool × Nat)
 (fun (i5:Int × Bool × Nat)=>⟨[(2,iv i5.1),(7,bv i5.2.1),(14,iv (i5.2.2:Int))],[]⟩) fun i5=>let aV:=(i5.2.2:Int); let az:=(r.ca.getD i5.2.2 default);
 .lt 12 0 i5.2.2 r.ca.length
 (.r 6 (.p (bM aV r.ca.length)) fun _ =>
 .br ((((az.order) == order)&&(decide ((az.from_)≤i5.1)))&&(decide (i5.1≤(az.cr))))
 (.r 9 .z fun _ =>
 .wi 14 (aK (aV+1)) ((i5.2.2+1:Nat):Int) <|
 .fin (.inr (aK ((az.cr)+1),true,i5.2.2+1)))
 (.nx 9 14 i5.2.2 (i5.1,i5.2.1,i5.2.2+1)))
 (.fin (.inl (.inr (i5.1,i5.2.1,aV,decide (aV < cF))))))
 (fun (b4:Int × Bool × Int × Bool)=>⟨[(2,iv b4.1),(7,bv b4.2.1),(14,iv b4.2.2.1),(15,bv b4.2.2.2)],[]⟩) fun b4 =>
 .fin (.inr (b4.1,b4.2.1,r.ca,cF,b4.2.2.1,b4.2.2.2)))
 (fun (b3:Int × Bool × (List Halt) × Int × Int × Bool)=>⟨[(2,iv b3.1),(7,bv b3.2.1),(12,lv Halt.cells b3.2.2.1),(13,iv b3.2.2.2.1),(14,iv b3.2.2.2.2.1),(15,bv b3.2.2.2.2.2)],[]⟩) fun b3 =>
 .fin (.inr (b3.1,b3.2.1)))
 (.fin (.inl (.inr i2.1))))
 (fun (b1:Int)=>⟨[(2,iv b1)],[]⟩) fun b1 =>
 .fin b1
def L5 r order day:=(lQ r order day).val
theorem L6 (r:ah) (order:Int) (day:Int) (hP:r.cj∧0≤day∧day≤100001):(lQ r order day).dq (fun (x:Int)=>(day≤x∧x≤100001)∧vP r order day x):=by
 refine Sk.bh _ ?_
 unfold lQ
 simp only [Sk.cK,Sk.aD,reduceCtorEq,ON,kk,kp,ah.cj,maxLen]
 obtain ⟨hh,hd⟩:=hP
 refine ⟨⟨⟨⟨by omega,by omega⟩,fun y a b=>by omega⟩,fun i hi=>⟨fun hch=>⟨⟨⟨⟨by omega,by omega,by omega,fun y a b=>by omega,fun q hq=>by omega⟩,fun j hj=>⟨fun hc _=>⟨fun ht _=>?_,fun ht _=>?_⟩,fun hc=>?_⟩⟩,fun b hb=>hb⟩,fun b _ hb=>?_⟩,fun hch=>?_⟩⟩,fun b hb=>hb⟩
 ·simp only [LN] at hc ht
  have h2:=hh j.2.2 (by omega)
  have hj6:=hj.2.2.2.2.2.1
  rw [aq (n:=(r.ca.getD j.2.2 default).cr+1) (by omega) (by omega)]
  refine ⟨⟨by omega,by omega,by omega,by omega,fun y a b=>?_⟩,by omega⟩
  by_cases e:y < j.1
  ·exact hj6 y a e
  ·exact Gk (i:=j.2.2) (by omega) ⟨ht.1.1,by omega,by omega⟩
 ·simp only [LN] at hc ht
  refine ⟨⟨by omega,hj.2.1,hj.2.2.1,hj.2.2.2.1,hj.2.2.2.2.1,hj.2.2.2.2.2.1,fun hf q hq=>?_⟩,by omega⟩
  rcases Nat.lt_succ_iff_lt_or_eq.1 hq with h1 | h1
  ·exact hj.2.2.2.2.2.2 hf q h1
  ·subst h1
   omega
 ·simp only [LN] at hc
  refine ⟨hj.2.1,hj.2.2.1,hj.2.2.2.1,hj.2.2.2.2.1,hj.2.2.2.2.2.1,fun hf=>?_⟩
  exact Dn (fun q hq=>hj.2.2.2.2.2.2 hf q (by omega))
 ·refine ⟨⟨by omega,fun y a c=>?_,hb.2.2.2.2.2⟩,?_⟩
  ·by_cases e:y < i.1
   ·exact hi.2.1 y a e
   ·exact hb.2.2.2.2.1 y (by omega) c
  ·rw [if_pos hch]
   cases Bb:b.2.1 with
   | true=>have:=hb.2.2.1 Bb; simp only [if_true]; omega
   | false=>have:=hb.2.2.2.1 Bb; simp only [Bool.false_eq_true,if_false]; omega
 ·exact ⟨hi.1,hi.1.1,hi.2.2 hch,hi.2.1⟩
theorem JQ (r:ah) (order:Int) (day:Int):(fun (x:Int)=>(r.cj∧0≤day∧day≤100001)→((day≤x∧x≤100001)∧vP r order day x)) (L5 r order day):=fun hP=>have h:=Sk.dc _ (L6 r order day hP); h
theorem NU (r:ah) (order:Int) (day:Int) (hh:r.cj) (hd:0≤day∧day≤100001):(lQ r order day).bq (fun _=>True):=by
 simp only [ah.cj] at hh
 refine Sk.aO _ ?_
 unfold lQ
 simp only [Sk.gx,Sk.aD,reduceCtorEq,ON,kk,kp,ah.cj,maxLen]
 refine ⟨⟨⟨by omega,by omega⟩,fun y a b=>by omega⟩,fun i hi=>⟨fun hch=>⟨⟨⟨⟨by omega,by omega,by omega,fun y a b=>by omega,fun q hq=>by omega⟩,fun j hj hl=>⟨fun hc=>⟨⟨by omega,of_decide_eq_true hc⟩,fun _=>⟨fun ht _=>?_,fun ht _=>?_⟩⟩,fun hc=>?_⟩⟩,fun b hb=>hb⟩,fun b _ hb=>?_⟩,fun hch=>?_⟩⟩
 ·simp only [LN] at hc ht
  have h2:=hh j.2.2 (by omega)
  have hj6:=hj.2.2.2.2.2.1
  rw [aq (n:=(r.ca.getD j.2.2 default).cr+1) (by omega) (by omega)]
  refine ⟨(aq (by omega) (by omega)).trans (by omega),⟨by omega,by omega,by omega,by omega,fun y a b=>?_⟩,by omega⟩
  by_cases e:y < j.1
  ·exact hj6 y a e
  ·exact Gk (i:=j.2.2) (by omega) ⟨ht.1.1,by omega,by omega⟩
 ·simp only [LN] at hc ht
  refine ⟨(aq (by omega) (by omega)).trans (by omega),⟨by omega,hj.2.1,hj.2.2.1,hj.2.2.2.1,hj.2.2.2.2.1,hj.2.2.2.2.2.1,fun hf q hq=>?_⟩,by omega⟩
  rcases Nat.lt_succ_iff_lt_or_eq.1 hq with h1 | h1
  ·exact hj.2.2.2.2.2.2 hf q h1
  ·subst h1
   omega
 ·simp only [LN] at hc
  refine ⟨hj.2.1,hj.2.2.1,hj.2.2.2.1,hj.2.2.2.2.1,hj.2.2.2.2.2.1,fun hf=>?_⟩
  exact Dn (fun q hq=>hj.2.2.2.2.2.2 hf q (by omega))
 ·refine ⟨⟨by omega,fun y a c=>?_,hb.2.2.2.2.2⟩,?_⟩
  ·by_cases e:y < i.1
   ·exact hi.2.1 y a e
   ·exact hb.2.2.2.2.1 y (by omega) c
  ·rw [if_pos hch]
   cases Bb:b.2.1 with
   | true=>have:=hb.2.2.1 Bb; simp only [if_true]; omega
   | false=>have:=hb.2.2.2.1 Bb; simp only [Bool.false_eq_true,if_false]; omega
 ·exact ⟨hi.1,hi.1.1,hi.2.2 hch,hi.2.1⟩
def Ai r order day:=kk tok mixed Tryz.func203 [av r.cells,iv order,iv day] (fun x=>iv x) true (lQ r order day) (L5 r order day) (u2 (NU r order day)) (fun (x:Int)=>(r.cj∧0≤day∧day≤100001)→((day≤x∧x≤100001)∧vP r order day x)) (JQ r order day)
def nI (c_:eB) (day:Int):Sk (Bool) :=
 .r 1 ((kF day).c) fun x1 =>
 .r 2 (.aj (.p ((7:Int)≠0)) (.dep ((aP c_.rest ((aK (day+5)).tmod 7)).c) fun x2=>.dep (.wh (!x2) true ((aP c_.cW (aK ((aK ((100:Int) * x1.2.1))+x1.2.2))).c)) fun x3=>.wh ((!x2)&&(!x3)) true ((aP c_.shut day).c))) fun p5 =>
 .fin (((!p5.1)&&(!p5.2.1))&&(!p5.2.2))
def bS c_ day:=(nI c_ day).val
theorem HL (c_:eB) (day:Int):(nI c_ day).bq (fun _=>True):=by
 unfold nI
 try simp only [kF,aP]
 exact mH
def JR c_ day:=kk tok mixed Tryz.func265 [av c_.cells,iv day] (fun x=>bv x) true (nI c_ day) (bS c_ day) (u0 (HL c_ day))
theorem HM (c_:eB) (day:Int):jl Tryz.prog 265 [av c_.cells,iv day] [] (bv (bS c_ day)) []:=(JR c_ day).pf trivial
section
open Go Go.Av Go.RowKit Go.Shelf
attribute [local go_sem] Oper.semAt_some
set_option linter.unusedSimpArgs false
set_option linter.unusedVariables false
set_option maxHeartbeats 1000000
set_option maxRecDepth 100000
/-- Pv first open day from one day to acD -/
def na (c:eB):Nat→Int→Option Int
  | 0,_=>none
  | n+1,d=>bif bS c d then some d else na c n (d+1)
def rW (c:eB) (day last:Int):Option Int:=na c (last - day+1).toNat day
def bA (c:eB) (day:Int):Int × Int :=
  bif !(bF day) then (0,3) else match rW c day (min (aK (day+400)) 100000) with | some d=>(d,0) | none=>(0,3)
theorem Tryz.ntmps264:Tryz.f264.ntmps=21:=by kernel_rfl
theorem Tryz.ntmps204:Tryz.f204.ntmps=18:=by kernel_rfl

def fG (c:eB):Nat→Int→List Int
  | 0,_=>[]
  | n+1,d=>bif bS c d then d :: fG c n (d+1) else fG c n (d+1)

theorem WT (c:eB) (d:Int) (v:Value) (w:World) (S:Nat→Prop) (hb:∀ b,S b→b < w.heap.size) (hg:jU w S) (hr:Rd w S (.agg c.cells) v) :
    Calls Tryz.prog 265 #[v,.int .i64 d] w fun e w'=>e=.returned (.bool (bS c d))∧w.grownBy w' none:=by
  refine Calls.mono ((HM c d).2 w S (fun _=>none) #[v,.int .i64 d] hb hg (fun ν=>⟨rfl,fun i hi=>?_⟩) (fun κ b h=>by simp [Go.Av.look] at h) (fun κ κ' b b' g c c' h=>by simp [Go.Av.look] at h)) ?_
  · match i,hi with
    | 0,_=>exact .d hr
    | 1,_=>exact g7 rfl
    | i+2,hi=>simp at hi; omega
  · rintro e w' ⟨u,S',μ',rfl,B⟩
    have hu:u=.bool (bS c d):=oj (B.res fun _=>false)
    subst hu
    exact ⟨rfl,B.kept.os,B.kept.tape,B.kept.output,B.kept.size,fun k hk _=>B.kept.block k hk (fun ⟨κ,b,c,h,_⟩=>by simp [Go.Av.look] at h)⟩

theorem abx (l bf bt bc n₁ m:Nat) (c:eB) (from_ last:Int) (v0 v1 v2 v3 v4 v5:Value) (S:Nat→Prop) (J Jx:List Int→World→Prop)
    (ajc : -9000000000000000000≤from_) (Ut:last≤9000000000000000000) (hS:∀ b,S b→b < n₁) (hbf:bf < n₁) (hbt:bt < n₁) (hbc:bc < n₁) (hJ:AbidesFrom m J)
    (hY:∀ pre x W,J pre W→pre.length < (fG c (last - from_+1).toNat from_).length→YieldAt Fence.wide 2 Tryz.prog l #[.int .i64 x] W fun e W' =>
      (e=.returned (.bool true)∧J (pre++[x]) W'∧Below n₁ W W')∨(e=.returned (.bool false)∧Jx (pre++[x]) W'))
    (W:World) (hn₁:n₁≤W.heap.size) (hG:jU W S) (hR:Rd W S (.agg c.cells) (.agg #[v0,v1,v2,v3,v4,v5]))
    (hBf:W.cell? ⟨bf,0,none⟩=some (.int .i64 from_)) (hBt:W.cell? ⟨bt,0,none⟩=some (.int .i64 last))
    (hC0:W.cell? ⟨bc,0,none⟩=some v0) (hC1:W.cell? ⟨bc,1,none⟩=some v1) (hC2:W.cell? ⟨bc,2,none⟩=some v2) (hC3:W.cell? ⟨bc,3,none⟩=some v3) (hC4:W.cell? ⟨bc,4,none⟩=some v4) (hC5:W.cell? ⟨bc,5,none⟩=some v5) (h0:J [] W) :
    CallsIn Fence.wide 3 Tryz.prog 264 #[.func (.yield l) #[] #[],.pointer (some ⟨bf,0,none⟩),.pointer (some ⟨bt,0,none⟩),.pointer (some ⟨bc,0,none⟩)] W fun e W'=>(∃ v,e=.returned v) ∧
      ((∃ ys,ys=fG c (last - from_+1).toNat from_∧J ys W')∨(∃ pre,pre <+: fG c (last - from_+1).toNat from_∧Jx pre W')):=by
  refine callsIn_of_wp Tryz.func264 rfl trivial ?_ rfl
  simp only [Tryz.ntmps264,List.size_toArray,List.length_cons,List.length_nil,Nat.reduceAdd,Nat.reduceSub,Array.replicate_succ,Array.replicate_zero,List.push_toArray,List.append_toArray,List.nil_append,List.cons_append]
  gi_wp2
  gi_loopw [5] (fun p wr=>∃ (d:Int) (pre:List Int),p=.int .i64 d∧from_≤d∧fG c (last - from_+1).toNat from_=pre++fG c (last - d+1).toNat d∧J pre wr∧Below n₁ W wr)
    (fun p _=>(last+1 - intOf p).toNat)
  case atStart=>exact ⟨from_,[],rfl,Int.le_refl _,rfl,h0,Below.refl _ _⟩
  case round =>
    obtain ⟨d,pre,rfl,hd,hx,hJs,EE⟩:=hrel
    have ajq:wr.cell? ⟨bt,0,none⟩=some (.int .i64 last):=(EE.cell (p:=⟨bt,0,none⟩) hbt).trans hBt
    have ajr:=(EE.cell (p:=⟨bc,0,none⟩) hbc).trans hC0
    have ajs:=(EE.cell (p:=⟨bc,1,none⟩) hbc).trans hC1
    have ajt:=(EE.cell (p:=⟨bc,2,none⟩) hbc).trans hC2
    have aju:=(EE.cell (p:=⟨bc,3,none⟩) hbc).trans hC3
    have ajv:=(EE.cell (p:=⟨bc,4,none⟩) hbc).trans hC4
    have ajw:=(EE.cell (p:=⟨bc,5,none⟩) hbc).trans hC5
    have YC:=WT c d (.agg #[v0,v1,v2,v3,v4,v5]) wr S (fun b hb=>Nat.lt_of_lt_of_le (hS b hb) (Nat.le_trans hn₁ EE.size)) (hG.mono (fun _ h=>h) (fun b hb=>EE.block b (hS b hb))) (hR.mono (fun _ h=>h) (fun b hb=>EE.block b (hS b hb)))
    have hJ2:∀ W2,wr.grownBy W2 none→J pre W2:=fun W2 hg=>hJ pre wr W2 none hJs hg (fun r e=>by cases e)
    have hB2:∀ W2,wr.grownBy W2 none→Below n₁ W W2:=fun W2 hg=>EE.trans ⟨hg.os,hg.tape,hg.output,hg.size,fun k hk=>hg.block k (Nat.lt_of_lt_of_le hk (Nat.le_trans hn₁ EE.size)) (by simp)⟩
    by_cases hle:d≤last
    · have hfu:(last - d+1).toNat=(last - (d+1)+1).toNat+1:=by omega
      cases ho:bS c d with
      | true =>
        rw [ho] at YC
        rw [hfu,fG,ho,cond_true] at hx
        have hlen:pre.length < (fG c (last - from_+1).toNat from_).length:=by rw [hx]; simp
        gi_wp2
        refine ⟨trivial,(callsIn_wide.2 YC).mono ?_⟩
        rintro e W2 ⟨rfl,SQ⟩
        obtain ⟨fn,tmps,assign,body,hy,hRR⟩:=hY pre d W2 (hJ2 W2 SQ) hlen
        gi_wp2
        refine hRR.mono ?_
        rintro e W3 (⟨rfl,hJ3,hk3⟩ | ⟨rfl,aiF⟩)
        · gi_wp2
          go_roundw
          case rel=>exact ⟨d+1,pre++[d],by simp,by omega,by rw [hx]; simp,hJ3,(hB2 W2 SQ).trans hk3⟩
          case measure=>simp [intOf]; omega
        · gi_wp2
          refine bodyPost_ret (results_none rfl _ _ _) rfl ?_
          exact ⟨⟨_,rfl⟩,.inr ⟨pre++[d],⟨fG c (last - (d+1)+1).toNat (d+1),by rw [hx]; simp⟩,aiF⟩⟩
      | false =>
        rw [ho] at YC
        rw [hfu,fG,ho,cond_false] at hx
        gi_wp2
        refine ⟨trivial,(callsIn_wide.2 YC).mono ?_⟩
        rintro e W2 ⟨rfl,SQ⟩
        gi_wp2
        refine ⟨fun _ h=>(by cases h),?_⟩
        gi_wp2
        go_roundw
        case rel=>exact ⟨d+1,pre,by simp,by omega,hx,hJ2 W2 SQ,hB2 W2 SQ⟩
        case measure=>simp [intOf]; omega
    · gi_wp2
      go_end0
      have h0:(last - d+1).toNat=0:=by omega
      rw [h0,fG,List.append_nil]
      exact ⟨⟨_,rfl⟩,.inl hJs⟩

theorem Tryz.ntmps239:Tryz.f239.ntmps=8:=by kernel_rfl
theorem ac3 (v0 v1 v2 v3 v4 v5:Value) (day last:Int) (w:World):CallsIn Fence.wide 3 Tryz.prog 239 #[.agg #[v0,v1,v2,v3,v4,v5],.int .i64 day,.int .i64 last] w fun e w' =>
    e=.returned (.func (.func 264) #[] #[.pointer (some ⟨w.heap.size+1,0,none⟩),.pointer (some ⟨w.heap.size+2,0,none⟩),.pointer (some ⟨w.heap.size,0,none⟩)])∧w'=((w.alloc (.cells #[v0,v1,v2,v3,v4,v5] 105)).alloc (.cells #[.int .i64 day] 3)).alloc (.cells #[.int .i64 last] 3):=by
  refine callsIn_of_wp Tryz.func239 rfl trivial ?_ rfl
  simp only [Tryz.ntmps239,List.size_toArray,List.length_cons,List.length_nil,Nat.reduceAdd,Nat.reduceSub,Array.replicate_succ,Array.replicate_zero,List.push_toArray,List.append_toArray,List.nil_append,List.cons_append]
  gi_wp2
  go_ret
  exact ⟨rfl,rfl⟩

theorem Uu (d:Int) (w:World) (S:Nat→Prop) (hb:∀ b,S b→b < w.heap.size) (hg:jU w S) :
    Calls Tryz.prog 238 #[.int .i64 d] w fun e w'=>e=.returned (.bool (bF d))∧w.grownBy w' none:=by
  refine Calls.mono ((Gi d).2 w S (fun _=>none) #[.int .i64 d] hb hg (fun ν=>⟨rfl,fun i hi=>?_⟩) (fun κ b h=>by simp [Go.Av.look] at h) (fun κ κ' b b' g c c' h=>by simp [Go.Av.look] at h)) ?_
  · match i,hi with
    | 0,_=>exact g7 rfl
    | i+1,hi=>simp at hi
  · rintro e w' ⟨u,S',μ',rfl,B⟩
    have hu:u=.bool (bF d):=oj (B.res fun _=>false)
    subst hu
    exact ⟨rfl,B.kept.os,B.kept.tape,B.kept.output,B.kept.size,fun k hk _=>B.kept.block k hk (fun ⟨κ,b,c,h,_⟩=>by simp [Go.Av.look] at h)⟩

theorem HN {w w':World} {S:Nat→Prop} {T:Nat→Prop} {a b:Int} (hS:∀ q,S q→q < w.heap.size) (h:Below w.heap.size w w'):∃ v S' μ',Ending.returned (.tuple #[.int .i64 a,.int .i64 b])=.returned v∧Tj w S T (.fb [iv a,iv b]) [] v S' μ' w':=by
  refine ⟨_,S,fun _=>none,rfl,⟨fun ν=>.fb rfl (fun i hi=>?_),fun κ b h=>by simp [Go.Av.look] at h,fun κ κ' b b' g c c' h=>by simp [Go.Av.look] at h,fun κ b g c h=>by simp [Go.Av.look] at h,fun _ h=>h,fun _ h=>.inl h,fun q hq=>Nat.lt_of_lt_of_le (hS q hq) h.size,⟨h.os,h.tape,h.output,h.size,fun k hk _=>h.block k hk⟩⟩⟩
  match i,hi with
  | 0,_=>exact g7 rfl
  | 1,_=>exact g7 rfl
  | i+2,hi=>simp at hi; omega

theorem results204 (tmps:Array Value) (W:World) (b4 b5:Nat) (x y:Int) (h4:tmps.getD 4 undef=.pointer (some ⟨b4,0,none⟩)) (h5:tmps.getD 5 undef=.pointer (some ⟨b5,0,none⟩)) (hx:W.cell? ⟨b4,0,none⟩=some (.int .i64 x)) (hy:W.cell? ⟨b5,0,none⟩=some (.int .i64 y)) :
    (results Tryz.f204 tmps).run Tryz.prog W=.ok (.tuple #[.int .i64 x,.int .i64 y]) W:=by
  have e:Tryz.f204.results = #[.cell 4 3,.cell 5 60]:=by kernel_rfl
  have u3:Tryz.prog.underlying 3=some (.int .i64):=by kernel_rfl
  have u49:Tryz.prog.underlying 60=some (.int .i64):=by kernel_rfl
  have h4':tmps[4]?.getD undef=.pointer (some ⟨b4,0,none⟩):=by simpa [Array.getD_eq_getD_getElem?] using h4
  have h5':tmps[5]?.getD undef=.pointer (some ⟨b5,0,none⟩):=by simpa [Array.getD_eq_getD_getElem?] using h5
  simp [results,e,h4',h5',go_sem,run_underlying u3,run_underlying u49,hx,hy]

theorem yh (c:eB):∀ (n:Nat) (d:Int),(fG c n d).head? = na c n d
  | 0,_=>rfl
  | n+1,d=>by
    simp only [fG,na]
    cases bS c d with
    | true=>rfl
    | false=>exact yh c n (d+1)


theorem aby (c:eB) (day last t13:Int) (v0 v1 v2 v3 v4 v5:Value) (w W1:World) (S:Nat→Prop) (Q:Exit→Act→World→Prop) (JS : -9000000000000000000≤day) (Ut:last≤9000000000000000000)
    (hb:∀ b,S b→b < w.heap.size) (hg:jU w S) (hR:Rd w S (.agg c.cells) (.agg #[v0,v1,v2,v3,v4,v5])) (hB1:Below w.heap.size w W1) (h41:Boxed W1 (w.heap.size+1) 3 (.int .i64 0)) (h51:Boxed W1 (w.heap.size+1+1) 60 (.int .i64 0))
    (tm:Value→Value→Array Value) (htm:tm=fun x y=>#[Value.agg #[v0,v1,v2,v3,v4,v5],Value.int IntKind.i64 day,Value.pointer (some { block:=w.heap.size,off:=0 }),undef,Value.pointer (some { block:=w.heap.size+1,off:=0 }),
          Value.pointer (some { block:=w.heap.size+1+1,off:=0 }),y,Value.int IntKind.i64 day,Value.bool true,Value.bool false,Value.agg #[v0,v1,v2,v3,v4,v5],Value.int IntKind.i64 day,Value.int IntKind.i64 day,Value.int IntKind.i64 t13,Value.int IntKind.i64 last,
          Value.func (Fn.func 264) #[] #[Value.pointer (some { block:=W1.heap.size+1,off:=0 }),Value.pointer (some { block:=W1.heap.size+2,off:=0 }),Value.pointer (some { block:=W1.heap.size,off:=0 })],x,undef])
    (agE:fG c (last - day+1).toNat day=[]→∀ (D:Nat) (W:World),W1.heap.size+3≤D→Boxed W (w.heap.size+1) 3 (.int .i64 0)→Boxed W (w.heap.size+1+1) 60 (.int .i64 0)→Below w.heap.size w W→W.heap[D]? = some (.deferred (some []))→Q .normal { tmps:=tm undef undef,defers:=[{ target:=.collected D,args:=#[] }] } W)
    (agF:∀ (x:Int) (D:Nat) (W:World),(fG c (last - day+1).toNat day).head? = some x→W1.heap.size+3≤D→Boxed W (w.heap.size+1) 3 (.int .i64 x)→Boxed W (w.heap.size+1+1) 60 (.int .i64 0)→Below w.heap.size w W→W.heap[D]? = some (.deferred (some []))→Code.ret.wpIn Fence.wide 4 Tryz.prog Q { tmps:=tm undef undef,defers:=[{ target:=.collected D,args:=#[] }] } W) :
    Code.wpIn Fence.wide 4 Tryz.prog
    (Code.rangeFunc (Operand.tmp 15) #[16]
      (Code.region 4
        #[{ dst:=some 6,op:=Op.assign (Operand.tmp 16),type:=3,pos:= "calendar.go:125",after:=#[],
            guard:=none }]
        false)
      (Code.block 1
        ((Code.region 5
              #[{ dst:=some 17,op:=Op.move (Operand.tmp 6),type:=3,pos:= "calendar.go:126",after:=#[],
                  guard:=none },
                { dst:=none,op:=Op.store 3 (Operand.tmp 4) (Operand.tmp 17),type:=0,pos:= "calendar.go:126",
                  after:=#[{ on:=0,ground:=Ground.data },{ on:=0,ground:=Ground.phase }],guard:=none },
                { dst:=none,op:=Op.store 60 (Operand.tmp 5) (Operand.const (Value.int IntKind.i64 0)),type:=0,
                  pos:= "calendar.go:126",
                  after :=
                    #[{ on:=1,ground:=Ground.chain },{ on:=0,ground:=Ground.phase },
                      { on:=1,ground:=Ground.phase }],
                  guard:=none }]
              false).seq
          Code.ret))) Q { tmps:=tm undef undef,defers:=[] }
    (((W1.alloc (Obj.cells #[v0,v1,v2,v3,v4,v5] 105)).alloc (Obj.cells #[Value.int IntKind.i64 day] 3)).alloc
      (Obj.cells #[Value.int IntKind.i64 last] 3)):=by
  obtain ⟨W2,hW2⟩:∃ W2,((W1.alloc (Obj.cells #[v0,v1,v2,v3,v4,v5] 105)).alloc (Obj.cells #[Value.int IntKind.i64 day] 3)).alloc (Obj.cells #[Value.int IntKind.i64 last] 3)=W2:=⟨_,rfl⟩
  rw [hW2]
  have jT:W2.heap.size=W1.heap.size+3:=by rw [← hW2]; simp
  have gJ:=h41.lt
  have agG:=h51.lt
  have hB2:Below w.heap.size w W2:=by rw [← hW2]; exact ((hB1.alloc hB1.size _).alloc (by have:=hB1.size; simp; omega) _).alloc (by have:=hB1.size; simp; omega) _
  have h42:Boxed W2 (w.heap.size+1) 3 (.int .i64 0):=by rw [← hW2]; exact ((h41.alloc _).alloc _).alloc _
  have h52:Boxed W2 (w.heap.size+1+1) 60 (.int .i64 0):=by rw [← hW2]; exact ((h51.alloc _).alloc _).alloc _
  have uE:W2.heap[W1.heap.size]? = some (.cells #[v0,v1,v2,v3,v4,v5] 105 (0,0)):=by
    rw [← hW2]
    exact ((Below.heap_alloc _ _ _ (by simp; omega)).trans (Below.heap_alloc _ _ _ (by simp))).trans (World.alloc_heap_new W1 _)
  have hf2:Boxed W2 (W1.heap.size+1) 3 (.int .i64 day):=by
    rw [← hW2]
    have:=(Boxed.new (W1.alloc (Obj.cells #[v0,v1,v2,v3,v4,v5] 105)) 3 (.int .i64 day)).alloc (Obj.cells #[Value.int IntKind.i64 last] 3)
    simpa using this
  have ht2:Boxed W2 (W1.heap.size+2) 3 (.int .i64 last):=by
    rw [← hW2]
    have:=Boxed.new ((W1.alloc (Obj.cells #[v0,v1,v2,v3,v4,v5] 105)).alloc (Obj.cells #[Value.int IntKind.i64 day] 3)) 3 (.int .i64 last)
    simpa using this
  have Wa:∀ (x y:List Int→Int→Prop) (s:List Int) (W W':World) (row:Option Nat),(∃ q,x s q∧Boxed W (w.heap.size+1) 3 (.int .i64 q)∧Boxed W (w.heap.size+1+1) 60 (.int .i64 0)∧Below w.heap.size w W)→W.grownBy W' row→(∀ r,row=some r→W2.heap.size≤r∧∃ o:Obj,W.heap[r]? = some o∧o.isCells=false) →
      ∃ q,x s q∧Boxed W' (w.heap.size+1) 3 (.int .i64 q)∧Boxed W' (w.heap.size+1+1) 60 (.int .i64 0)∧Below w.heap.size w W':=by
    rintro x y s W W' row ⟨q,hq,b4,b5,hB⟩ SQ hr
    exact ⟨q,hq,b4.kept SQ (fun e=>by have:=(hr _ e.symm).1; omega),b5.kept SQ (fun e=>by have:=(hr _ e.symm).1; omega),hB.grown SQ hB.size (fun k e=>by have:=(hr k e).1; omega)⟩
  refine wpIn_rangeFunc_ownF (F:=Fence.wide) (n:=4) (P:=Tryz.prog) rfl (by decide) (gf:=264) (lb:=#[.pointer (some ⟨W1.heap.size+1,0,none⟩),.pointer (some ⟨W1.heap.size+2,0,none⟩),.pointer (some ⟨W1.heap.size,0,none⟩)]) (by rw [htm]; rfl) trivial (enters_of Tryz.func264 (by kernel_rfl) rfl)
    (encs:=fun x:Int=>#[.int .i64 x]) (Kp:=Below (W1.heap.size+3)) (S:=fun xs=>xs=fG c (last - day+1).toNat day) (Sp:=fun pre=>pre <+: fG c (last - day+1).toNat day) (N:=(fG c (last - day+1).toNat day).length) (w0:=W2) ?seq belowK_t (belowK_b (by omega)) (Below.refl _ _) (fun _=>rfl)
    (fun pre W=>∃ q,(pre=[]∧q=0)∧Boxed W (w.heap.size+1) 3 (.int .i64 q)∧Boxed W (w.heap.size+1+1) 60 (.int .i64 0)∧Below w.heap.size w W)
    (fun cd pre W=>∃ q,(cd=.ret∧pre=[q])∧Boxed W (w.heap.size+1) 3 (.int .i64 q)∧Boxed W (w.heap.size+1+1) 60 (.int .i64 0)∧Below w.heap.size w W)
    (fun s W W' row=>Wa (fun pre q=>pre=[]∧q=0) (fun _ _=>True) s W W' row) (fun cd s W W' row=>Wa (fun pre q=>cd=.ret∧pre=[q]) (fun _ _=>True) s W W' row) ⟨0,⟨rfl,rfl⟩,h42,h52,hB2⟩
    (fun x=>{ tmps:=tm (.int .i64 x) (.int .i64 x),defers:=[] }) ?assign ?body ?done ?stop
  case seq =>
    intro l J Jx W hW hJ hJx hY h0
    have hBW:Below w.heap.size w W:=hB2.trans (hW.mono (by have:=hB2.size; omega))
    have cc:∀ j,W.cell? ⟨W1.heap.size,j,none⟩ = #[v0,v1,v2,v3,v4,v5][j]?:=fun j=>by rw [g8 W _ j _ _ _ ((hW.block _ (by omega)).trans uE)]
    exact abx l (W1.heap.size+1) (W1.heap.size+2) W1.heap.size (W1.heap.size+3) W.heap.size c day last v0 v1 v2 v3 v4 v5 S J Jx JS Ut (fun b h=>by have:=hb b h; have:=hB1.size; omega) (by omega) (by omega) (by omega) hJ hY W (by have:=hW.size; omega)
      (hg.mono (fun _ h=>h) (fun b h=>hBW.block b (hb b h))) (hR.mono (fun _ h=>h) (fun b h=>hBW.block b (hb b h))) ((hW.cell (p:=⟨W1.heap.size+1,0,none⟩) (by simp; omega)).trans hf2.cell) ((hW.cell (p:=⟨W1.heap.size+2,0,none⟩) (by simp; omega)).trans ht2.cell) (cc 0) (cc 1) (cc 2) (cc 3) (cc 4) (cc 5) h0
  case assign =>
    intro l x W K hK
    subst htm
    gi_wp2
    exact hK
  case body =>
    rintro l pre x W ⟨q,⟨rfl,rfl⟩,b4,b5,hB⟩ _
    subst htm
    have c4:=b4.cell
    have f4:=b4.frozen
    have c5:=b5.cell
    have f5:=b5.frozen
    gi_wp2
    have q4:=b4.set (.int .i64 x)
    have q5:=(b5.other (B':=w.heap.size+1) (by omega) (.int .i64 x)).set (.int .i64 0)
    have q4':=q4.other (B':=w.heap.size+1+1) (by omega) (.int .i64 0)
    exact ⟨(KeepsOthers.setCell _ _ _).trans (KeepsOthers.setCell _ _ _),x,⟨rfl,rfl⟩,q4',q5,(hB.setCell (p:=⟨w.heap.size+1,0,none⟩) (by simp) _).setCell (p:=⟨w.heap.size+1+1,0,none⟩) (by simp; omega) _⟩
  case done =>
    rintro D xs W hD hx ⟨q,⟨rfl,rfl⟩,b4,b5,hB⟩ hK
    exact agE hx.symm D W (by omega) b4 b5 hB hK
  case stop =>
    rintro D cd pre W hD ⟨t,hp⟩ ⟨q,⟨rfl,rfl⟩,b4,b5,hB⟩ hK
    exact agF q D W (by rw [← hp]; rfl) (by omega) b4 b5 hB hK

theorem HO (c:eB) (day:Int):jl Tryz.prog 204 [av c.cells,iv day] [] (.fb [iv (bA c day).1,iv (bA c day).2]) []:=by
  refine ⟨by kernel_rfl,fun w S μ vs hb hg hr _ _=>?_⟩
  obtain ⟨v0,v1,v2,v3,v4,v5,rfl,hR⟩:∃ v0 v1 v2 v3 v4 v5:Value,vs = #[.agg #[v0,v1,v2,v3,v4,v5],.int .i64 day]∧Rd w S (.agg c.cells) (.agg #[v0,v1,v2,v3,v4,v5]):=by
    obtain ⟨hl,h⟩:=hr fun _=>false
    have h0:=jd.1 (h 0 (by simp))
    have h1:=eT (h 1 (by simp))
    match vs,hl with
    | ⟨[a,b]⟩,_ =>
      simp only [List.getD_cons_zero,List.getD_cons_succ] at h0 h1
      subst h1
      cases h0 with
      | agg _ xs hx hh =>
        match xs,hx with
        | ⟨[x0,x1,x2,x3,x4,x5]⟩,_=>exact ⟨x0,x1,x2,x3,x4,x5,rfl,.agg _ _ rfl hh⟩
  refine callsIn_wide.1 (callsIn_of_wp_marks (n:=4) Tryz.func204 rfl trivial ?_ rfl)
  simp only [Tryz.ntmps204,List.size_toArray,List.length_cons,List.length_nil,Nat.reduceAdd,Nat.reduceSub,Array.replicate_succ,Array.replicate_zero,List.push_toArray,List.append_toArray,List.nil_append,List.cons_append]
  obtain ⟨W0,hW0⟩:∃ W0,((w.alloc (Obj.cells #[v0,v1,v2,v3,v4,v5] 105)).alloc (Obj.cells #[Value.int IntKind.i64 0] 3)).alloc (Obj.cells #[Value.int IntKind.i64 0] 60)=W0:=⟨_,rfl⟩
  have ajx:W0.heap.size=w.heap.size+3:=by rw [← hW0]; simp
  have hB0:Below w.heap.size w W0:=by rw [← hW0]; exact (((Below.refl _ w).alloc (Nat.le_refl _) _).alloc (by simp) _).alloc (by simp; omega) _
  have hc0:W0.heap[w.heap.size]? = some (.cells #[v0,v1,v2,v3,v4,v5] 105 (0,0)):=by
    rw [← hW0]
    exact ((Below.heap_alloc _ _ _ (by simp; omega)).trans (Below.heap_alloc _ _ _ (by simp))).trans (World.alloc_heap_new w _)
  have h4:Boxed W0 (w.heap.size+1) 3 (.int .i64 0):=by
    rw [← hW0]
    have:=(Boxed.new (w.alloc (Obj.cells #[v0,v1,v2,v3,v4,v5] 105)) 3 (.int .i64 0)).alloc (Obj.cells #[Value.int IntKind.i64 0] 60)
    simpa using this
  have h5:Boxed W0 (w.heap.size+1+1) 60 (.int .i64 0):=by
    rw [← hW0]
    have:=Boxed.new ((w.alloc (Obj.cells #[v0,v1,v2,v3,v4,v5] 105)).alloc (Obj.cells #[Value.int IntKind.i64 0] 3)) 60 (.int .i64 0)
    simpa using this
  have aa2:=Uu day W0 S (fun b h=>by have:=hb b h; omega) (hg.mono (fun _ h=>h) (fun b h=>hB0.block b (hb b h)))
  gi_wp2
  refine ⟨trivial,(callsIn_wide.2 aa2).mono ?_⟩
  rintro e W1 ⟨rfl,SQ⟩
  have hB1:Below w.heap.size w W1:=hB0.trans ⟨SQ.os,SQ.tape,SQ.output,SQ.size,fun k hk=>SQ.block k (by omega) (by simp)⟩
  have Zb:W1.heap[w.heap.size]? = some (.cells #[v0,v1,v2,v3,v4,v5] 105 (0,0)):=(SQ.block _ (by omega) (by simp)).trans hc0
  have h41:=h4.kept SQ (by simp)
  have h51:=h5.kept SQ (by simp)
  have h4c:=h41.cell
  have h4f:=h41.frozen
  have h5c:=h51.cell
  have h5f:=h51.frozen
  cases hv:bF day with
  | false =>
    gi_wp2
    have q4:=h41.set (.int .i64 0)
    have q5:=(h51.other (B':=w.heap.size+1) (by omega) (.int .i64 0)).set (.int .i64 3)
    have q4':=q4.other (B':=w.heap.size+1+1) (by omega) (.int .i64 3)
    refine ⟨_,results204 _ _ _ _ 0 3 rfl rfl q4'.cell q5.cell,?_⟩
    have e:bA c day=(0,3):=by simp [bA,hv]
    rw [e]
    exact HN hb ((hB1.setCell (p:=⟨w.heap.size+1,0,none⟩) (by simp) _).setCell (p:=⟨w.heap.size+1+1,0,none⟩) (by simp; omega) _)
  | true =>
    have e0:W1.cell? ⟨w.heap.size,0,none⟩=some v0:=by rw [g8 W1 _ 0 _ _ _ Zb]; rfl
    have e1:W1.cell? ⟨w.heap.size,1,none⟩=some v1:=by rw [g8 W1 _ 1 _ _ _ Zb]; rfl
    have e2:W1.cell? ⟨w.heap.size,2,none⟩=some v2:=by rw [g8 W1 _ 2 _ _ _ Zb]; rfl
    have e3:W1.cell? ⟨w.heap.size,3,none⟩=some v3:=by rw [g8 W1 _ 3 _ _ _ Zb]; rfl
    have e4:W1.cell? ⟨w.heap.size,4,none⟩=some v4:=by rw [g8 W1 _ 4 _ _ _ Zb]; rfl
    have e5:W1.cell? ⟨w.heap.size,5,none⟩=some v5:=by rw [g8 W1 _ 5 _ _ _ Zb]; rfl
    have JS:0≤day∧day≤100000:=by simpa [bF,jC] using hv
    have P1:aK (day+400)=day+400:=aq (by omega) (by omega)
    gi_wp2
    all_goals (refine ⟨trivial,(ac3 v0 v1 v2 v3 v4 v5 day _ W1).mono ?_⟩; rintro e W2 ⟨rfl,rfl⟩; gi_wp2; refine aby c day _ _ v0 v1 v2 v3 v4 v5 w W1 S _ (by omega) ?_ hb hg hR hB1 h41 h51 _ rfl ?_ ?_)
    all_goals first
      | omega
      | (intro SU D W hD b4 b5 hB hK
         have c4:=b4.cell
         have f4:=b4.frozen
         have c5:=b5.cell
         have f5:=b5.frozen
         gi_wp2
         have q4:=(b4.set (.int .i64 0)).other (B':=w.heap.size+1+1) (by omega) (.int .i64 3)
         have q5:=(b5.other (B':=w.heap.size+1) (by omega) (.int .i64 0)).set (.int .i64 3)
         have gJ:=h41.lt
         have agG:=h51.lt
         have hK':=((KeepsOthers.setCell W ⟨w.heap.size+1,0,none⟩ (.int .i64 0)).trans (KeepsOthers.setCell _ ⟨w.heap.size+1+1,0,none⟩ (.int .i64 3))).same D _ hK rfl
         have hB':=(hB.setCell (p:=⟨w.heap.size+1,0,none⟩) (by simp) (.int .i64 0)).setCell (p:=⟨w.heap.size+1+1,0,none⟩) (by simp; omega) (.int .i64 3)
         refine ⟨by simp,.inl ⟨_,_,rfl,run_takeDeferred hK',?_⟩⟩
         refine ⟨_,results204 _ _ _ _ 0 3 rfl rfl (q4.kept (grownBy_putObj' _ D _) (fun e=>by cases e; omega)).cell (q5.kept (grownBy_putObj' _ D _) (fun e=>by cases e; omega)).cell,?_⟩
         have e:bA c day=(0,3):=by
           simp only [bA,hv,rW,← yh]
           first
             | (rw [show min (aK (day+400)) 100000=100000 from by rw [P1]; omega,SU]; rfl)
             | (rw [show min (aK (day+400)) 100000=day+400 from by rw [P1]; omega,SU]; rfl)
             | (rw [P1,SU]; rfl)
             | (rw [SU]; rfl)
         rw [e]
         exact HN hb (hB'.grown (grownBy_putObj' _ D _) hB'.size (fun k e=>by cases e; have:=hB1.size; omega)))
      | (intro x D W hx hD b4 b5 hB hK
         gi_wp2
         have gJ:=h41.lt
         have agG:=h51.lt
         refine ⟨by simp,.inl ⟨_,_,rfl,run_takeDeferred hK,?_⟩⟩
         refine ⟨_,results204 _ _ _ _ x 0 rfl rfl (b4.kept (grownBy_putObj' _ D _) (fun e=>by cases e; omega)).cell (b5.kept (grownBy_putObj' _ D _) (fun e=>by cases e; omega)).cell,?_⟩
         have e:bA c day=(x,0):=by
           simp only [bA,hv,rW,← yh]
           first
             | (rw [show min (aK (day+400)) 100000=100000 from by rw [P1]; omega,hx]; rfl)
             | (rw [show min (aK (day+400)) 100000=day+400 from by rw [P1]; omega,hx]; rfl)
             | (rw [P1,hx]; rfl)
             | (rw [hx]; rfl)
         rw [e]
         exact HN hb (hB.grown (grownBy_putObj' _ D _) hB.size (fun k e=>by cases e; have:=hB1.size; omega)))
theorem IV (c:eB):∀ (n:Nat) (d x:Int),na c n d=some x→d≤x∧x < d+n
  | 0,_,_,h=>by simp [na] at h
  | n+1,d,x,h=>by
    simp only [na] at h
    cases ho:bS c d with
    | true=>rw [ho] at h; simp only [cond_true,Option.some.injEq] at h; omega
    | false=>rw [ho] at h; have:=IV c n (d+1) x h; omega
theorem pN (c:eB) (day:Int):(fun (x:Int × Int)=>x.2=0→day≤x.1∧x.1≤100000) (bA c day):=by
  dsimp only
  unfold bA
  cases hv:bF day with
  | false=>intro h; exact absurd (show (3:Int)=0 from h) (by decide)
  | true =>
    simp only [Bool.not_true,cond_false]
    cases hd:rW c day (min (aK (day+400)) 100000) with
    | none=>intro h; exact absurd (show (3:Int)=0 from h) (by decide)
    | some d =>
      intro _
      have:=IV c _ _ _ hd
      simp only
      omega
def lG (c:eB) (day:Int):fD (Int × Int):=⟨Tryz.prog,204,[av c.cells,iv day],fun x=>.fb [iv x.1,iv x.2],true,bA c day,True,fun _=>HO c day,fun x=>x.2=0→day≤x.1∧x.1≤100000,pN c day⟩
end
inductive dF (r:ah) (o:Int) (c:eB):Int→Int × Int→Prop
 | stop {d s:Int}:vP r o d s→(bA c s).2≠0→dF r o c d (0,3)
 | here {d s:Int}:vP r o d s→(bA c s).2=0→(bA c s).1=s→dF r o c d (s,0)
 | go {d s:Int} {x:Int × Int}:vP r o d s→(bA c s).2=0→(bA c s).1≠s→dF r o c (bA c s).1 x→dF r o c d x
theorem dF.uniq {r:ah} {o:Int} {c:eB} {d:Int} {x y:Int × Int} (h:dF r o c d x) (k:dF r o c d y):x=y:=by
 induction h with
 | stop a b =>
  cases k with
  | stop _ _=>rfl
  | here a2 b2 _=>rw [a.uniq a2] at b; exact absurd b2 b
  | go a2 b2 _ _=>rw [a.uniq a2] at b; exact absurd b2 b
 | here a b e =>
  cases k with
  | stop a2 b2=>rw [a.uniq a2] at b; exact absurd b b2
  | here a2 _ _=>rw [a.uniq a2]
  | go a2 _ e2 _=>rw [a.uniq a2] at e; exact absurd e e2
 | go a b e h ih =>
  cases k with
  | stop a2 b2=>rw [a.uniq a2] at b; exact absurd b b2
  | here a2 _ e2=>rw [a.uniq a2] at e; exact absurd e2 e
  | go a2 _ _ k2=>exact ih (by rw [a.uniq a2]; exact k2)
theorem dF.back {r:ah} {o:Int} {c:eB} {d n:Int} {x:Int × Int} (h:dF r o c n x) (hd:d≤n) (hh:∀ y,d≤y→y < n→qc r o y=true):dF r o c d x:=by
 cases h with
 | stop a b=>exact .stop (a.back hd hh) b
 | here a b e=>exact .here (a.back hd hh) b e
 | go a b e k=>exact .go (a.back hd hh) b e k
def jq (r:ah) (aL:Int) (day:Int):Sk (Int × Int):=let az:=(r.aB.getD aL.toNat default);
 .r 1 ((df r aL).c) fun x1 =>
 .loop (default:Int × Int) (fun i2=>((0:Int)≤i2∧i2≤100001)∧∀ x,dF r (bz r aL) az i2 x→dF r (bz r aL) az day x) (fun i2=>(100001 - i2).toNat) (day:Int)
 (fun (i2:Int)=>⟨[(2,iv i2)],[]⟩) fun i2 =>
 .r 2 ((Ai r x1 i2).c) fun x3 =>
 .r 3 (.aj (.p (bM aL r.aB.length)) ((lG az x3).c)) fun x4 =>
 .br (x4.2 != 0)
 (.fin (.inl (0,3)))
 (.br (x4.1 == x3)
 (.fin (.inl (x3,0)))
 (.fin (.inr x4.1)))
def ln r aL day:=(jq r aL day).val
theorem HP (r:ah) (aL:Int) (day:Int) (hP:(0≤aL∧aL < (r.aB.length:Int))∧(0≤day∧day≤100001)∧r.cj):(jq r aL day).dq (fun (x:Int × Int)=>(x.2=0→0≤x.1∧x.1≤100001)∧dF r (bz r aL) (r.aB.getD aL.toNat default) day x):=by
 refine Sk.bh _ ?_
 unfold jq
 simp only [Sk.cK,Sk.aD,reduceCtorEq,ON,kk,kp,lG,df,Ai,ah.cj,maxLen]
 obtain ⟨hc,hd,hh⟩:=hP
 intro _ hx
 subst hx
 refine ⟨⟨hd,fun x h=>h⟩,fun i hi y hy hyp x hx hxp=>?_⟩
 obtain ⟨h2,h3⟩:=hyp ⟨hh,hi.1⟩
 subst hx
 refine ⟨fun he=>⟨fun h=>absurd h (by decide),hi.2 _ (.stop h3 (bne_iff_ne.1 he))⟩,fun he=>⟨fun hq=>⟨by omega,hi.2 _ ?_⟩,fun hq=>⟨⟨?_,fun z hz=>hi.2 _ (.go h3 ?_ ?_ hz)⟩,?_⟩⟩⟩
 all_goals simp only [LN] at he hq
 ·exact dF.here h3 he hq
 ·have:=hxp he; omega
 ·exact he
 ·exact hq
 ·have:=hxp he; omega
theorem xr (r:ah) (aL:Int) (day:Int):(fun (x:Int × Int)=>((0≤aL∧aL < (r.aB.length:Int))∧(0≤day∧day≤100001)∧r.cj)→((x.2=0→0≤x.1∧x.1≤100001)∧dF r (bz r aL) (r.aB.getD aL.toNat default) day x)) (ln r aL day):=fun hP=>have h:=Sk.dc _ (HP r aL day hP); h
theorem JT (r:ah) (aL:Int) (day:Int) (hc:0≤aL∧aL < (r.aB.length:Int)) (hd:0≤day∧day≤100001) (hh:r.cj):(jq r aL day).bq (fun _=>True):=by
 simp only [ah.cj] at hh
 refine Sk.aO _ ?_
 unfold jq
 simp only [Sk.gx,Sk.aD,reduceCtorEq,ON,kk,kp,lG,df,Ai,ah.cj,maxLen]
 intro _ hx
 subst hx
 refine ⟨⟨hd,fun x h=>h⟩,fun i hi=>⟨⟨hh,hi.1⟩,fun y hy hyp=>⟨hc,fun x hx hxp he hq=>?_⟩⟩⟩
 obtain ⟨h2,h3⟩:=hyp ⟨hh,hi.1⟩
 subst hx
 simp only [LN] at he hq
 have:=hxp he
 exact ⟨⟨by omega,fun z hz=>hi.2 _ (.go h3 he hq hz)⟩,by omega⟩
def vQ r aL day:=kk tok mixed Tryz.func142 [av r.cells,iv aL,iv day] (fun x=>.fb [iv x.1,iv x.2]) true (jq r aL day) (ln r aL day) (u3 (JT r aL day)) (fun (x:Int × Int)=>((0≤aL∧aL < (r.aB.length:Int))∧(0≤day∧day≤100001)∧r.cj)→((x.2=0→0≤x.1∧x.1≤100001)∧dF r (bz r aL) (r.aB.getD aL.toNat default) day x)) (xr r aL day)
def qL (r:ah) (b:jX) (seen:Int) (cR:Int):Sk (Int × Int) :=
 .r 2 (.dep ((yf r).c) fun x1=>.dep (.wh (x1 != 0) false ((qG r b.aL).c)) fun x2=>.dep (.wh ((x1 != 0)||(!x2)) false ((qG r b.rD).c)) fun x3=>.wh (((x1 != 0)||(!x2))||(!x3)) false ((oG b.day).c)) fun p10 =>
 .br ((((p10.1 != 0)||(!p10.2.1))||(!p10.2.2.1))||(!p10.2.2.2))
 (.fin (0,1))
 (.br ((((decide (b.aC.kind < 0))||(decide (b.aC.kind≥5)))||(decide (b.aC.unit < 0)))||(decide (b.aC.unit≥2)))
 (.fin (0,1))
 (.r 6 (.wh (seen != (-1)) true ((oG seen).c)) fun x5 =>
 .br ((((seen != (-1))&&(!x5))||(decide (cR < 0)))||(decide (cR > 20000)))
 (.fin (0,1))
 (.r 8 ((vN b.aC).c) fun x6 =>
 .br (x6&&(seen == (-1)))
 (.fin (0,4))
 (.r 10 ((Ah r b seen).c) fun x7 =>
 .br (x7.2 != 0)
 (.fin (0,x7.2))
 (.r 13 ((oG x7.1).c) fun x8 =>
 .br ((!x8)||(decide ((aK (x7.1+cR)) > 100000)))
 (.fin (0,3))
 (.r 15 ((vQ r b.rD (aK (x7.1+cR))).c) fun x9 =>
 .fin (x9.1,x9.2)))))))
def Dp r b seen cR:=(qL r b seen cR).val
theorem NV (r:ah) (b:jX) (seen:Int) (cR:Int):(qL r b seen cR).dq (fun (x:Int × Int)=>x.2=0→0≤x.1∧x.1≤100001):=by
 refine Sk.bh _ ?_
 unfold qL
 simp only [Sk.cK,Sk.aD,reduceCtorEq,ON,kk,kp,yf,vN,Ah,qG,oG,vQ,Bj,Bi,Ci,forall_eq,aw.Small,ah.Small,ah.cj,maxLen]
 intro hr
 refine ⟨fun _ h=>absurd h (by decide),fun h1=>⟨fun _ h=>absurd h (by decide),fun _=>⟨fun _ h=>absurd h (by decide),fun h3=>⟨fun _ h=>absurd h (by decide),fun _=>⟨fun h h'=>by rw [h'] at h; exact absurd h (by decide),fun h4=>⟨fun _ h=>absurd h (by decide),fun h5 himp=>?_⟩⟩⟩⟩⟩⟩
 simp only [LN] at h1 h5
 have e:∀ x g:Int,0≤x∧x≤100000→0≤g∧g≤20000→0≤aK (x+g):=fun x g h1 h2=>by rw [aq (by omega) (by omega)]; omega
 have h6:0≤cR∧cR≤20000:=by simp only [LN] at h3; omega
 exact (himp ⟨by omega,⟨e _ _ h5.1 h6,by omega⟩,hr h1.1.1.1⟩).1
theorem Rn (r:ah) (b:jX) (seen:Int) (cR:Int) (aZ:r.Small):(qL r b seen cR).bq (fun _=>True):=by
 simp only [aw.Small,ah.Small,ah.cj] at aZ
 unfold qL
 try simp only [yf,vN,Ah,qG,oG,vQ,Bj,Bi,Ci,aw.Small,ah.Small,ah.cj]
 exact xV
def IW r b seen cR:=kp tok mixed Tryz.func95 [av r.cells,av b.cells,iv seen,iv cR] (fun x=>.fb [iv x.1,iv x.2]) true (Dp r b seen cR) (Rn r b seen cR) (NV r b seen cR)
def pz (r:ah) (ai:Int) (f:aw) (day:Int):Sk (Int) :=
 .r 1 ((c9 f day).c) fun x1 =>
 .br (((x1.af.length:Nat):Int) == 0)
 (.fin (-1))
 (.r 4 (.dep ((pM r ai 6 x1 day).c) fun x2=>(qC x2).c) fun p7 =>
 .r 5 (.dep ((sH x1).c) fun x4=>(IW r x1.aM x4 (dk p7.2 0)).c) fun p6 =>
 .br (p6.2.2 != 0)
 (.fin (-1))
 (.fin p6.2.1))
def dY r ai f day:=(pz r ai f day).val
theorem JU (r:ah) (ai:Int) (f:aw) (day:Int) (bn:f.Small) (bV:r.cx) (aZ:r.Small):(pz r ai f day).bq (fun _=>True):=by
 simp only [aw.Small,ah.Small,ah.cx] at bn
 simp only [aw.Small,ah.Small,ah.cx] at bV
 simp only [aw.Small,ah.Small,ah.cx] at aZ
 unfold pz
 try simp only [pM,qC,c9,sH,IW,aw.Small,ah.Small,ah.cx]
 exact mH
def dx r ai f day:=kk tok mixed Tryz.func48 [av r.cells,iv ai,av f.cells,iv day] (fun x=>iv x) true (pz r ai f day) (dY r ai f day) (u3 (JU r ai f day))
theorem Uv (r:ah) (fo:Int) (f:aw) (day:Int):dY r fo f day = 
  bif ((au f day).af.length:Int) == 0 then -1 else (fun p:Int × Int=>bif p.2 != 0 then -1 else p.1) (Dp r (au f day).aM (tA (au f day)) (dk (mU (mT r fo 6 (au f day) day)) 0)):=by
 kernel_rfl
def vR (r:ah) (ai:Int) (f:aw) (day:Int):Sk (gG × Bool):=let az:=({ kind:=0,n:=0,unit:=0 }:ov); let aV:=({ EJ:=0,zY:=0,fY:=0,sum:=0,bj:=0,aC:=az,day:=0,aL:=0,rD:=0,need:=0,oz:=0,flags:=0,parts:=0 }:jX);
 .br ((decide (ai < 0))||(decide (ai≥((r.ak.length:Nat):Int))))
 (.fin (({ view:=({ all:=({ aM:=aV,af:=[],aN:=[],aU:=[],facts:=[] }:aw),now:=({ aM:=aV,af:=[],aN:=[],aU:=[],facts:=[] }:aw),day:=0,lead:=[] }:View),r:=({ aY:=[],aB:=[],cO:=[],bu:=[],ak:=[],aR:=[],cg:=[],ca:=[] }:ah),ai:=0,due:=0 }:gG),false))
 (.r 3 (.dep ((pJ f day).c) fun _=>(dx r ai f day).c) fun p3 =>
 .fin (({ view:=p3.1,r:=r,ai:=ai,due:=p3.2 }:gG),true))
def bB r ai f day:=(vR r ai f day).val
theorem IX (r:ah) (ai:Int) (f:aw) (day:Int):(vR r ai f day).dq (fun (x:gG × Bool)=>x.2=true→x.1=⟨bN f day,r,ai,dY r ai f day⟩∧0≤ai∧ai < (r.ak.length:Int)):=by
 unfold vR
 try simp only [dx,pJ,aw.Small,ah.Small,ah.cx]
 exact Ly
theorem Ro (r:ah) (ai:Int) (f:aw) (day:Int):(fun (x:gG × Bool)=>x.2=true→x.1=⟨bN f day,r,ai,dY r ai f day⟩∧0≤ai∧ai < (r.ak.length:Int)) (bB r ai f day):=have h:=Sk.dc _ (IX r ai f day); h
theorem WU (r:ah) (ai:Int) (f:aw) (day:Int) (bn:f.Small) (bV:r.cx) (aZ:r.Small):(vR r ai f day).bq (fun _=>True):=by
 simp only [aw.Small,ah.Small,ah.cx] at bn
 simp only [aw.Small,ah.Small,ah.cx] at bV
 simp only [aw.Small,ah.Small,ah.cx] at aZ
 unfold vR
 try simp only [dx,pJ,aw.Small,ah.Small,ah.cx]
 exact mH
def zf r ai f day:=kp tok mixed Tryz.func20 [av r.cells,iv ai,av f.cells,iv day] (fun x=>.fb [av x.1.cells,bv x.2]) false (bB r ai f day) (u3 (WU r ai f day)) (IX r ai f day)
structure dZ where
 sign:Int
 kind:Int
 qj:Int
 binds:Int
 text:Int
 sum:Int
 Ck:Bool
 deriving Inhabited
def dZ.cells (c:dZ):List D:=[dI c.sign,dI c.kind,dI c.qj,dI c.binds,dI c.text,dI c.sum,dB c.Ck]
def dZ.E:Lt dZ:=⟨dZ.cells,7,fun _=>rfl,fun _=>rfl⟩
structure vS where
 r:ah
 ai:Int
 day:Int
 f:aw
 form:Int
 due:Int
 deriving Inhabited
def vS.cells (c:vS):List D:=c.r.cells++[dI c.ai,dI c.day]++c.f.cells++[dI c.form,dI c.due]
def Aj (s:l7):Sk (Int) :=
 .br (s.err != 0)
 (.fin 0)
 (.br (!s.cell.known)
 (.fin 2)
 (.br (s.cell.n != 0)
 (.fin 1)
 (.fin 0)))
def Dq s:=(Aj s).val
theorem WV (s:l7):(Aj s).bq (fun _=>True):=by
 unfold Aj
 exact mP
def gN s:=kk tok mixed Tryz.func80 [av s.cells] (fun x=>iv x) true (Aj s) (Dq s) (u0 (WV s))
def qM (r:ah) (ai:Int) (f:aw) (day:Int):Sk (vS) :=
 .r 1 ((c9 f day).c) fun x1 =>
 .r 2 (.dep ((pM r ai 0 x1 day).c) fun x2=>.dep ((gN x2).c) fun _=>(dx r ai x1 day).c) fun p5 =>
 .fin ({ r:=r,ai:=ai,day:=day,f:=x1,form:=p5.2.1,due:=p5.2.2 }:vS)
def ZH r ai f day:=(qM r ai f day).val
theorem NW (r:ah) (ai:Int) (f:aw) (day:Int):(qM r ai f day).dq (fun (x:vS)=>x.f=au f day∧x.r=r):=by
 unfold qM
 try simp only [pM,dx,gN,c9,aw.Small,ah.Small,ah.cx]
 exact Ly
theorem Rp (r:ah) (ai:Int) (f:aw) (day:Int) (bn:f.Small) (bV:r.cx) (aZ:r.Small):(qM r ai f day).bq (fun _=>True):=by
 simp only [aw.Small,ah.Small,ah.cx] at bn
 simp only [aw.Small,ah.Small,ah.cx] at bV
 simp only [aw.Small,ah.Small,ah.cx] at aZ
 unfold qM
 try simp only [pM,dx,gN,c9,aw.Small,ah.Small,ah.cx]
 exact mH
def qd r ai f day:=kp tok mixed Tryz.func67 [av r.cells,iv ai,av f.cells,iv day] (fun x=>av x.cells) false (ZH r ai f day) (u3 (Rp r ai f day)) (NW r ai f day)
def lH (f:aw) (day:Int):Sk ((List (Int × Bool))) :=
 .r 1 (.o [.wK (mkM dB)]) fun _ =>
 .bt
 (.loop (default:Sum ((List (Int × Bool))) ((List (Int × Bool)))) (fun i2=>i2.1≤f.aU.length) (fun i2=>f.aU.length - i2.1) ((0,([]:List (Int × Bool))):Nat × (List (Int × Bool)))
 (fun (i2:Nat × (List (Int × Bool)))=>⟨[(12,iv (i2.1:Int))],[(8,mpM dB i2.2)]⟩) fun i2=>let az:=(f.aU.getD i2.1 default);
 .lt 10 0 i2.1 f.aU.length
 (.r 4 (.p (bM (i2.1:Int) f.aU.length)) fun _ =>
 .br (((az.kind) == 7)&&(decide ((az.day)≤day)))
 (.r 6 (.aj (.t (T3 dB i2.2)) (.o [.wK (agl dB i2.2 (az.at_) true)])) fun _ =>
 .r 7 .z fun _ =>
 .wi 12 (aK ((i2.1:Int)+1)) ((i2.1+1:Nat):Int) <|
 .fin (.inr (i2.1+1,vB i2.2 (az.at_) true)))
 (.nx 7 12 i2.1 (i2.1+1,i2.2)))
 (.fin (.inl (.inr i2.2))))
 (fun (b1:(List (Int × Bool)))=>⟨[],[(8,mpM dB b1)]⟩) fun b1 =>
 .fin b1
def ee f day:=(lH f day).val
theorem JV (f:aw) (day:Int):(lH f day).bq (fun _=>True):=by
 unfold lH
 exact mH
def qN f day:=kk tok mixed Tryz.func147 [av f.cells,iv day] (fun x=>pmM dB x) false (lH f day) (ee f day) (u0 (JV f day))
def pA (f:aw) (sign:Int) (day:Int):Sk (Bool):=let az:=((decide (sign≥0))&&(decide (sign < ((f.af.length:Nat):Int))));
 .r 1 (.gw (.wh az true ((qN f day).c)) fun x1=>.wh az true (.aj (.t (T3 dB x1)) (.o [.cast 21 (getM dB x1 sign false)]))) fun x1 =>
 .fin (az&&(Ht x1 sign false))
def Rq f sign day:=(pA f sign day).val
theorem JW (f:aw) (sign:Int) (day:Int):(pA f sign day).bq (fun _=>True):=by
 unfold pA
 try simp only [qN]
 exact mP
def vT f sign day:=kk tok mixed Tryz.func112 [av f.cells,iv sign,iv day] (fun x=>bv x) true (pA f sign day) (Rq f sign day) (u0 (JW f sign day))
def mB (v:vS) (aF:Int) (sign:Int):Sk (Int) :=
 .r 2 (.dep ((jo v.r v.ai aF ({ file:=v.f,sign:=sign,cL:=sign,gy:=(-1),due:=v.due,day:=v.day }:cG)).c) fun x1=>(gN x1).c) fun p3 =>
 .fin p3.2
def L7 v aF sign:=(mB v aF sign).val
theorem Gl (v:vS) (aF:Int) (sign:Int) (iC:v.f.Small) (nb:v.r.cx) (kX:v.r.Small):(mB v aF sign).bq (fun _=>True):=by
 unfold mB
 try simp only [jo,gN]
 exact mH
def gm v aF sign:=kk tok mixed Tryz.func114 [av v.cells,iv aF,iv sign] (fun x=>iv x) true (mB v aF sign) (L7 v aF sign) (u3 (Gl v aF sign))
def uO (l:List Int):Sk (Int) :=
 .bt
 (.loop (default:Sum (Int) (Int)) (fun i2=>i2.2≤l.length) (fun i2=>l.length - i2.2) ((1,0):Int × Nat)
 (fun (i2:Int × Nat)=>⟨[(3,iv i2.1),(8,iv (i2.2:Int))],[]⟩) fun i2 =>
 .lt 6 0 i2.2 l.length
 (.r 4 (.p (bM (i2.2:Int) l.length)) fun _ =>
 .br ((l.getD i2.2 default) == 0)
 (.fin (.inl (.inl 0)))
 (.br ((l.getD i2.2 default) == 2)
 (.nx 9 8 i2.2 (2,i2.2+1))
 (.nx 9 8 i2.2 (i2.1,i2.2+1))))
 (.fin (.inl (.inr i2.1))))
 (fun (b1:Int)=>⟨[(3,iv b1)],[]⟩) fun b1 =>
 .fin b1
def bind_join l:=(uO l).val
theorem Rs (l:List Int):(uO l).bq (fun _=>True):=by
 unfold uO
 exact mH
def Cl l:=kk tok mixed Tryz.func113 [lv bJ l] (fun x=>iv x) true (uO l) (bind_join l) (u0 (Rs l))
def kG (f:aw) (i:Int):Sk (Int) :=
 .bind true (fun b1=>f.qu→0≤b1∧b1≤1099511627776)
 (.loop (default:Sum (Int) (Int)) (fun i2=>i2.2≤f.aN.length∧(f.qu→0≤i2.1∧i2.1≤1099511627776)) (fun i2=>f.aN.length - i2.2) ((f.aM.sum,0):Int × Nat)
 (fun (i2:Int × Nat)=>⟨[(5,iv i2.1),(14,iv (i2.2:Int))],[]⟩) fun i2=>let az:=(f.aN.getD i2.2 default);
 .lt 12 0 i2.2 f.aN.length
 (.r 4 (.p (bM (i2.2:Int) f.aN.length)) fun _ =>
 .br (decide ((az.at_)≤i))
 (.nx 7 14 i2.2 (az.sum,i2.2+1))
 (.nx 7 14 i2.2 (i2.1,i2.2+1)))
 (.fin (.inl (.inr i2.1))))
 (fun (b1:Int)=>⟨[(5,iv b1)],[]⟩) fun b1 =>
 .fin b1
def IY f i:=(kG f i).val
theorem JX (f:aw) (i:Int) (hP:f.qu):(kG f i).dq (fun (x:Int)=>0≤x∧x≤1099511627776):=by
 refine Sk.bh _ ?_
 unfold kG
 simp only [Sk.cK,Sk.aD,reduceCtorEq,ON,kk,kp,maxLen]
 refine ⟨⟨⟨Nat.zero_le _,fun h=>h.1⟩,fun i hi=>⟨fun hc _=>?_,fun _=>hi.2⟩⟩,fun b hb=>hb hP⟩
 simp only [LN] at hc
 exact ⟨fun _ _=>⟨⟨by omega,fun h=>h.2.1 _ (by omega)⟩,by omega⟩,fun _ _=>⟨⟨by omega,hi.2⟩,by omega⟩⟩
theorem HR (f:aw) (i:Int):(fun (x:Int)=>(f.qu)→(0≤x∧x≤1099511627776)) (IY f i):=fun hP=>have h:=Sk.dc _ (JX f i hP); h
theorem L8 (f:aw) (i:Int):(kG f i).bq (fun _=>True):=by
 refine Sk.aO _ ?_
 unfold kG
 simp only [Sk.gx,Sk.aD,reduceCtorEq,ON,kk,kp,maxLen]
 refine ⟨⟨Nat.zero_le _,fun h=>h.1⟩,fun i hi hm=>⟨fun hc=>?_,fun _=>hi.2⟩⟩
 simp only [LN] at hc
 have hw:aK ((i.2:Int)+1)=((i.2+1:Nat):Int):=(aq (by omega) (by omega)).trans (by omega)
 exact ⟨by omega,fun _=>⟨fun _ _=>⟨hw,⟨by omega,fun h=>h.2.1 _ (by omega)⟩,by omega⟩,fun _ _=>⟨hw,⟨by omega,hi.2⟩,by omega⟩⟩⟩
def yi f i:=kk tok mixed Tryz.func158 [av f.cells,iv i] (fun x=>iv x) true (kG f i) (IY f i) (u0 (L8 f i)) (fun (x:Int)=>(f.qu)→(0≤x∧x≤1099511627776)) (HR f i)
def gP (v:vS) (sign:Int):Sk (Int × Int):=let az:=(aK (((v.f.aN.length:Nat):Int) - 1)); let aV:=(v.f.aN.getD (az.toNat) default);
 .r 1 ((yi v.f sign).c) fun x1 =>
 .bind true (fun b2=>b2=true→v.f.aN.length≠0)
 (.loop (default:Sum (Int × Int) (Bool)) (fun i3=>i3.2≤v.f.aN.length∧(i3.1=true→v.f.aN.length≠0)) (fun i3=>v.f.aN.length - i3.2) ((false,0):Bool × Nat)
 (fun (i3:Bool × Nat)=>⟨[(7,bv i3.1),(23,iv (i3.2:Int))],[]⟩) fun i3 =>
 .lt 21 0 i3.2 v.f.aN.length
 (.r 6 (.p (bM (i3.2:Int) v.f.aN.length)) fun _ =>
 .r 8 .z fun _ =>
 .wi 23 (aK ((i3.2:Int)+1)) ((i3.2+1:Nat):Int) <|
 .fin (.inr (i3.1||(decide (((v.f.aN.getD i3.2 default).at_) > sign)),i3.2+1)))
 (.fin (.inl (.inr i3.1))))
 (fun (b2:Bool)=>⟨[(7,bv b2)],[]⟩) fun b2 =>
 .br (!b2)
 (.fin (0,x1))
 (.r 11 (.p (bM az v.f.aN.length)) fun _ =>
 .r 12 ((gm v 4 sign).c) fun x4 =>
 .br (x4 == 1)
 (.fin (x4,aV.sum))
 (.br (x4 == 2)
 (.fin (x4,fB x1 (aV.sum)))
 (.fin (x4,x1))))
def Cm v sign:=(gP v sign).val
theorem EU (v:vS) (sign:Int) (hP:v.f.qu∧v.f.Small):(gP v sign).dq (fun (x:Int × Int)=>0≤x.2∧x.2≤1099511627776):=by
 refine Sk.bh _ ?_
 unfold gP
 simp only [Sk.cK,Sk.aD,reduceCtorEq,ON,kk,kp,gm,yi,maxLen]
 intro x _ hx
 have hx:=hx hP.1
 refine ⟨⟨Nat.zero_le _,fun i hi=>⟨fun hc _ _=>?_,fun _=>hi.2⟩⟩,fun b hb=>⟨fun _=>hx,fun Bb _ y _=>?_⟩⟩
 ·simp only [LN] at hc
  exact ⟨⟨by omega,fun _=>by omega⟩,by omega⟩
 ·have hn:=hb (by simpa using Bb)
  have hl:=hP.2.2.1
  rw [aq (by omega) (by omega)]
  obtain ⟨h1,h2⟩:=hP.1.2.1 ((v.f.aN.length:Int) - 1).toNat (by omega)
  refine ⟨fun _=>⟨h1,h2⟩,fun _=>⟨fun _=>?_,fun _=>hx⟩⟩
  unfold fB
  split <;> omega
theorem DV (v:vS) (sign:Int):(fun (x:Int × Int)=>(v.f.qu∧v.f.Small)→(0≤x.2∧x.2≤1099511627776)) (Cm v sign):=fun hP=>have h:=Sk.dc _ (EU v sign hP); h
theorem Gm (v:vS) (sign:Int) (iC:v.f.Small) (nb:v.r.cx) (kX:v.r.Small):(gP v sign).bq (fun _=>True):=by
 refine Sk.aO _ ?_
 unfold gP
 simp only [Sk.gx,Sk.aD,reduceCtorEq,ON,kk,kp,gm,yi,maxLen]
 intro x _ _
 refine ⟨⟨Nat.zero_le _,fun i hi hm=>⟨fun hc=>?_,fun _=>hi.2⟩⟩,fun b hb Bb=>?_⟩
 ·simp only [LN] at hc
  exact ⟨by omega,fun _ _=>⟨(aq (by omega) (by omega)).trans (by omega),⟨by omega,fun _=>by omega⟩,by omega⟩⟩
 ·have hn:=hb (by simpa using Bb)
  have hl:=iC.2.1
  rw [aq (by omega) (by omega)]
  exact ⟨by omega,fun _=>⟨iC,nb,kX⟩⟩
def rX v sign:=kk tok mixed Tryz.func115 [av v.cells,iv sign] (fun x=>.fb [iv x.1,iv x.2]) true (gP v sign) (Cm v sign) (u3 (Gm v sign)) (fun (x:Int × Int)=>(v.f.qu∧v.f.Small)→(0≤x.2∧x.2≤1099511627776)) (DV v sign)
def fN (v:vS) (sign:Int):Sk (dZ):=let az:=(v.f.af.getD sign.toNat default);
 .r 1 (.p (bM sign v.f.af.length)) fun _ =>
 .r 3 ((vT v.f sign v.day).c) fun x1 =>
 .bind false (fun _=>True)
 (.br (!x1)
 (.r 4 (.dep ((gm v 1 sign).c) fun x3=>.dep ((gm v 2 sign).c) fun x4=>.aj (.o [.cU (dG cN [v.form,x3,x4])]) ((Cl [v.form,x3,x4]).c)) fun p6 =>
 .fin (.inr p6.2.2))
 (.fin (.inr 0)))
 (fun (b2:Int)=>⟨[],[(6,.box [iv sign,iv (az.kind),iv (az.ja),iv b2,iv 0,iv 0,bv (((az.kind) != 1)&&((dh .i64 (az.flags) 1) == 0))])]⟩) fun b2 =>
 .r 5 ((rX v sign).c) fun x7 =>
 .br (((az.kind) == 1)||((az.kind) == 4))
 (.fin ({ sign:=sign,kind:=az.kind,qj:=az.ja,binds:=b2,text:=x7.1,sum:=fB x7.2 (az.sum),Ck:=((az.kind) != 1)&&((dh .i64 (az.flags) 1) == 0) }:dZ))
 (.fin ({ sign:=sign,kind:=az.kind,qj:=az.ja,binds:=b2,text:=x7.1,sum:=x7.2,Ck:=((az.kind) != 1)&&((dh .i64 (az.flags) 1) == 0) }:dZ))
def zg v sign:=(fN v sign).val
theorem Cn (v:vS) (sign:Int) (hP:v.f.qu∧v.f.Small∧0≤sign∧sign < (v.f.af.length:Int)):(fN v sign).dq (fun (x:dZ)=>0≤x.sum∧x.sum≤1099511627776):=by
 refine Sk.bh _ ?_
 unfold fN
 simp only [Sk.cK,Sk.aD,reduceCtorEq,ON,kk,kp,Cl,gm,rX,vT,maxLen]
 intro _ x _ b _ y _ hy
 have hy:=hy ⟨hP.1,hP.2.1⟩
 obtain ⟨h1,h2⟩:=hP.1.2.2.1 sign.toNat (by omega)
 exact ⟨fun _=>by unfold fB; split <;> omega,fun _=>hy⟩
theorem Bz (v:vS) (sign:Int):(fun (x:dZ)=>(v.f.qu∧v.f.Small∧0≤sign∧sign < (v.f.af.length:Int))→(0≤x.sum∧x.sum≤1099511627776)) (zg v sign):=fun hP=>have h:=Sk.dc _ (Cn v sign hP); h
theorem DW (v:vS) (sign:Int) (hs:0≤sign∧sign < (v.f.af.length:Int)) (iC:v.f.Small) (nb:v.r.cx) (kX:v.r.Small):(fN v sign).bq (fun _=>True):=by
 unfold fN
 try simp only [Cl,gm,rX,vT]
 exact mH
def gn v sign:=kk tok mixed Tryz.func68 [av v.cells,iv sign] (fun x=>av x.cells) true (fN v sign) (zg v sign) (u4 (DW v sign)) (fun (x:dZ)=>(v.f.qu∧v.f.Small∧0≤sign∧sign < (v.f.af.length:Int))→(0≤x.sum∧x.sum≤1099511627776)) (Bz v sign)
def lI (r:ah) (ai:Int) (f:aw) (day:Int):Sk ((List dZ)) :=
 .r 1 ((qd r ai f day).c) fun x1 =>
 .bind true (fun b2=>b2.length=x1.f.af.length)
 (.loop (default:Sum ((List dZ)) ((List dZ))) (fun i3=>i3.2≤x1.f.af.length∧i3.1.length=i3.2) (fun i3=>x1.f.af.length - i3.2) (([],0):(List dZ) × Nat)
 (fun (i3:(List dZ) × Nat)=>⟨[(10,ow 100002 i3.1),(21,iv (i3.2:Int))],[(100002,cp 146 7 dZ.cells i3.1)]⟩) fun i3 =>
 .lt 9 25 i3.2 x1.f.af.length
 (.r 6 (.gw ((gn x1 (i3.2:Int)).c) fun x4=>.aj (.o [.cU (dG dZ.E [x4])]) (.aj (.o [.cU (kx dZ.E i3.1 [x4])]) (.aj (.t (dZ.E.k6 [x4])) (.p (uG i3.1.length [x4].length 56))))) fun x4 =>
 .nx 7 21 i3.2 (i3.1++[x4],i3.2+1))
 (.fin (.inl (.inr i3.1))))
 (fun (b2:(List dZ))=>⟨[(10,ow 100001 b2)],[(100001,cp 146 7 dZ.cells b2)]⟩) fun b2 =>
 .fin b2
def fH r ai f day:=(lI r ai f day).val
theorem HS (r:ah) (ai:Int) (f:aw) (day:Int):(lI r ai f day).dq (fun (x:(List dZ))=>x.length=(au f day).af.length):=by
 unfold lI
 try simp only [qd,gn]
 exact Ly
theorem JY (r:ah) (ai:Int) (f:aw) (day:Int) (bn:f.Small) (bV:r.cx) (aZ:r.Small):(lI r ai f day).bq (fun _=>True):=by
 refine Sk.aO _ ?_
 unfold lI
 simp only [Sk.gx,Sk.aD,reduceCtorEq,ON,kk,kp,qd,gn,maxLen]
 refine ⟨⟨bn,bV,aZ⟩,fun x _ hx=>?_⟩
 have hS:x.f.Small:=by rw [hx.1]; exact qy bn day
 have hB:x.r.cx:=by rw [hx.2]; exact bV
 have hR:x.r.Small:=by rw [hx.2]; exact aZ
 have hS1:=hS.1
 all_goals exact okT
def vU r ai f day:=kp tok mixed Tryz.func31 [av r.cells,iv ai,av f.cells,iv day] (fun x=>lv dZ.cells x) false (fH r ai f day) (u3 (JY r ai f day)) (HS r ai f day)
structure Bk where
 af:List Int
 cL:Int
 broken:Int
 Ru:Bool
 YD:Int
 late:List Int
 deriving Inhabited
def Bk.cells (c:Bk):List D:=[mN bJ c.af,dI c.cL,dI c.broken,dB c.Ru,dI c.YD,mN bJ c.late]
def jG (f:aw) (day:Int):Sk (Int × Bool) :=
 .bt
 (.loop (default:Sum (Int × Bool) (Int × Bool)) (fun i2=>i2.2.2≤f.aU.length) (fun i2=>f.aU.length - i2.2.2) ((0,false,0):Int × Bool × Nat)
 (fun (i2:Int × Bool × Nat)=>⟨[(6,iv i2.1),(7,bv i2.2.1),(13,iv (i2.2.2:Int))],[]⟩) fun i2=>let az:=(f.aU.getD i2.2.2 default);
 .lt 11 0 i2.2.2 f.aU.length
 (.r 4 (.p (bM (i2.2.2:Int) f.aU.length)) fun _ =>
 .br (((((az.kind) != 1)&&((az.kind) != 3))&&((az.kind) != 4))||(decide ((az.day) > day)))
 (.nx 8 13 i2.2.2 (i2.1,i2.2.1,i2.2.2+1))
 (.br ((!i2.2.1)||(decide ((az.day) < i2.1)))
 (.nx 8 13 i2.2.2 (az.day,true,i2.2.2+1))
 (.nx 8 13 i2.2.2 (i2.1,i2.2.1,i2.2.2+1))))
 (.fin (.inl (.inr (i2.1,i2.2.1)))))
 (fun (b1:Int × Bool)=>⟨[(6,iv b1.1),(7,bv b1.2)],[]⟩) fun b1 =>
 .fin (b1.1,b1.2)
def jH f day:=(jG f day).val
theorem Co (f:aw) (day:Int):(jG f day).bq (fun _=>True):=by
 unfold jG
 exact mH
def ke f day:=kk tok mixed Tryz.func99 [av f.cells,iv day] (fun x=>.fb [iv x.1,bv x.2]) true (jG f day) (jH f day) (u0 (Co f day))
def jb (f:aw) (part:Int) (day:Int):Sk (Unit) :=
 .fin ()
def vV f part day:=(jb f part day).val
theorem rF (f:aw) (part:Int) (day:Int):vV f part day=():=rfl
theorem BA (f:aw) (part:Int) (day:Int):(jb f part day).bq (fun _=>True):=by
 unfold jb
 exact mP
def jI f part day:=kk tok mixed Tryz.func100 [av f.cells,iv part,iv day] (fun x=>.fn 146 [.ref f.cells,.ref [dI day],.ref [dI part]]) false (jb f part day) (vV f part day) (u0 (BA f part day))
end
end Go.Proofs.YtaeekeogpbbkcaaGreatDoor
