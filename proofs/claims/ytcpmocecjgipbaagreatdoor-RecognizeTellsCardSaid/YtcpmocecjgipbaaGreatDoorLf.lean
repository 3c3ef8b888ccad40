/- Functions, as sketches. -/
import Derived.Test.YtcpmocecjgipbaaGreatDoorLe
set_option linter.unusedSimpArgs false
set_option linter.unusedVariables false
set_option maxHeartbeats 1000000
set_option maxRecDepth 100000
namespace Go.Proofs.YtcpmocecjgipbaaGreatDoor
noncomputable section
open Go Go.Av
inductive pO:Term→Int→Prop
 | int {n:Int} (h : -1099511627776≤n∧n≤1099511627776):pO ⟨0,n,[]⟩ 0
 | bool {n:Int} (h:0≤n∧n≤1):pO ⟨1,n,[]⟩ 1
 | var {n:Int} (h:0≤n∧n≤19):pO ⟨2,n,[]⟩ (if n < 7 then 0 else 1)
 | not {a:Term}:pO a 1→pO ⟨3,0,[a]⟩ 1
 | Lh {op:Int} {a b:Term} (h:op=4∨op=5):pO a 1→pO b 1→pO ⟨op,0,[a,b]⟩ 1
 | ite {a b c:Term} {k:Int}:pO a 1→pO b k→pO c k→pO ⟨6,0,[a,b,c]⟩ k
 | less {a b:Term}:pO a 0→pO b 0→pO ⟨7,0,[a,b]⟩ 1
 | eq {a b:Term} {k:Int}:pO a k→pO b k→pO ⟨8,0,[a,b]⟩ 1
 | arith {op:Int} {a b:Term} (h:9≤op∧op≤13):pO a 0→pO b 0→pO ⟨op,0,[a,b]⟩ 0
theorem pO.kind {t:Term} {k:Int} (h:pO t k):k=0∨k=1:=by
 induction h with
 | var _=>split <;> simp
 | ite _ _ _ _ ih _=>exact ih
 | _=>simp
def oY (rv:Term→Int × Int) (rp:Term→Prop) (rf:∀ (t:Term),rp t→iU Tryz.prog 165 [av t.cells] [] (.ef [iv ((rv t).1),iv ((rv t).2)]) []) (t:Term):eo (Int × Int):=⟨Tryz.prog,165,[av t.cells],fun x=>.ef [iv x.1,iv x.2],true,rv t,rp t,rf t,fun _=>True,trivial⟩
def dm (rv:Term→Int × Int) (rp:Term→Prop) (rf:∀ (t:Term),rp t→iU Tryz.prog 165 [av t.cells] [] (.ef [iv ((rv t).1),iv ((rv t).2)]) []) (t:Term):Sk (Int × Int) :=
 .r 1 (.au (.o [.dy (Xr eZ t.args.length 0)]) (.p (PL ((t.args.length:Nat):Int) 8))) fun _ =>
 .bind true (fun b1=>b1.length=t.args.length∧∀ q,q < t.args.length→(rv (t.args.getD q default)).2=0∧b1.getD q default=(rv (t.args.getD q default)).1)
 (.loop (default:Sum (Int × Int) ((List Int))) (fun i2=>i2.1.length=t.args.length∧i2.2≤t.args.length∧∀ q,q < i2.2→(rv (t.args.getD q default)).2=0∧i2.1.getD q default=(rv (t.args.getD q default)).1) (fun i2=>t.args.length - i2.2) ((List.replicate t.args.length (0:Int),0):(List Int) × Nat)
 (fun (i2:(List Int) × Nat)=>⟨[(4,ow 100002 i2.1),(20,iv (i2.2:Int))],[(100002,fg 3 1 cM i2.1)]⟩) fun i2 =>
 .lt 18 0 i2.2 t.args.length
 (.r 4 (.au (.p (bz (i2.2:Int) t.args.length)) (.o [.cast 23 (Sr (Term.zY (t.args.getD i2.2 default)))])) fun _ =>
 .r 5 ((oY rv rp rf (t.args.getD i2.2 default)).c) fun x3 =>
 .br (x3.2 != 0)
 (.fin (.inl (.inl (0,x3.2))))
 (.r 8 (.au (.p (bz (i2.2:Int) i2.1.length)) (.au (.o [.dy (iQ eZ i2.1 i2.2 x3.1)]) (.p (i2.2 < i2.1.length)))) fun _ =>
 .wn 100002 i2.1.length (i2.1.set i2.2 x3.1).length <|
 .nx 9 20 i2.2 (i2.1.set i2.2 x3.1,i2.2+1)))
 (.fin (.inl (.inr i2.1))))
 (fun (b1:(List Int))=>⟨[(4,ow 100001 b1)],[(100001,fg 3 1 cM b1)]⟩) fun b1 =>
 .br ((decide (t.op < 0))||(decide (t.op > 13)))
 (.fin (0,1))
 (.br (((t.op == 0)||(t.op == 1))||(t.op == 2))
 (.r 13 ((sY t).c) fun x4 =>
 .fin (x4.1,x4.2))
 (.r 14 ((np t.op).c) fun x5 =>
 .br ((((b1.length:Nat):Int) != ((x5.args.length:Nat):Int))||(t.n != 0))
 (.fin (0,2))
 (.bind true (fun b6=>∀ q,q < x5.args.length→(x5.args.getD q default = -1→b1.getD q default=b6∨b1.getD q default = -1)∧(x5.args.getD q default≠-1→b1.getD q default=x5.args.getD q default))
 (.loop (default:Sum (Int × Int) (Int)) (fun i7=>i7.2≤x5.args.length∧∀ q,q < i7.2→(x5.args.getD q default = -1→b1.getD q default=i7.1∨b1.getD q default = -1)∧(x5.args.getD q default≠-1→b1.getD q default=x5.args.getD q default)) (fun i7=>x5.args.length - i7.2) (((-1),0):Int × Nat)
 (fun (i7:Int × Nat)=>⟨[(10,iv i7.1),(82,iv (i7.2:Int))],[]⟩) fun i7 =>
 .lt 80 0 i7.2 x5.args.length
 (.r 20 (.p (bz (i7.2:Int) x5.args.length)) fun _ =>
 .bind false (fun b8=>b8=if (x5.args.getD i7.2 default) = -1∧i7.1 = -1 then b1.getD i7.2 default else i7.1)
 (.br (((x5.args.getD i7.2 default) == (-1))&&(i7.1 == (-1)))
 (.r 22 (.au (.p (bz (i7.2:Int) b1.length)) (.p (i7.2 < b1.length))) fun _ =>
 .fin (.inr (b1.getD i7.2 default)))
 (.fin (.inr i7.1)))
 (fun (b8:Int)=>⟨[(10,iv b8)],[]⟩) fun b8 =>
 .bind false (fun b9=>b9=if (x5.args.getD i7.2 default) = -1 then b8 else (x5.args.getD i7.2 default))
 (.br ((x5.args.getD i7.2 default) == (-1))
 (.fin (.inr b8))
 (.fin (.inr (x5.args.getD i7.2 default))))
 (fun (b9:Int)=>⟨[(12,iv b9)],[]⟩) fun b9 =>
 .r 25 (.au (.p (bz (i7.2:Int) b1.length)) (.p (i7.2 < b1.length))) fun _ =>
 .br ((b1.getD i7.2 default) != b9)
 (.fin (.inl (.inl (0,11))))
 (.nx 27 82 i7.2 (b8,i7.2+1)))
 (.fin (.inl (.inr i7.1))))
 (fun (b6:Int)=>⟨[(10,iv b6)],[]⟩) fun b6 =>
 .br (x5.result == (-1))
 (.fin (b6,0))
 (.fin (x5.result,0)))))
def aG:Nat→Term→Int × Int
 | 0,_=>default
 | fu+1,t=>(dm (aG fu) (fun _=>False) (fun _=>fun h=>h.elim) t).val
theorem IL (fu:Nat) (rf:∀ (t:Term),t.depth≤fu∧(rT t)→iU Tryz.prog 165 [av t.cells] [] (.ef [iv ((aG fu t).1),iv ((aG fu t).2)]) []) (t:Term) (hm:t.depth≤fu+1) (YJ:rT t):(dm (aG fu) (fun t=>t.depth≤fu∧(rT t)) rf t).bE (fun _=>True):=by
 refine Sk.bm _ ?_
 unfold dm
 simp only [Sk.j2,Sk.aU,reduceCtorEq,ON,kk,kp,sY,np,oY,maxLen]
 have YK:=YJ
 obtain ⟨ZI,Xj⟩:=YK
 refine ⟨⟨by omega,by omega,by omega⟩,fun _=>⟨⟨⟨by simp,by omega,fun q hq=>absurd hq (by omega)⟩,fun i hi hl=>⟨fun hc=>⟨⟨by omega,of_decide_eq_true hc⟩,fun _=>⟨⟨?_,?_⟩,fun x hx he=>⟨⟨⟨by omega,?_⟩,?_⟩,fun _=>⟨by simp,fun _=>⟨?_,⟨⟨by simp [hi.1],?_,fun q hq=>?_⟩,?_⟩⟩⟩⟩⟩⟩,fun hc=>⟨hi.1,fun q hq=>hi.2.2 q (by simp only [LN] at hc; omega)⟩⟩⟩,fun b hb hc Im x hx hl=>⟨⟨by omega,fun q hq=>absurd hq (by omega)⟩,fun i hi hl2=>⟨fun hc=>⟨⟨by omega,of_decide_eq_true hc⟩,fun _=>⟨⟨fun h=>⟨⟨⟨by omega,?_⟩,?_⟩,fun _=>?_⟩,fun h=>?_⟩,fun y _ hy=>⟨⟨fun h=>?_,fun h=>?_⟩,fun z _ hz=>⟨⟨⟨by omega,?_⟩,?_⟩,fun _=>fun he _=>⟨?_,⟨⟨?_,fun q hq=>?_⟩,?_⟩⟩⟩⟩⟩⟩,fun hc q hq=>hi.2 q (by simp only [LN] at hc; omega)⟩⟩⟩⟩
 all_goals (try simp only [LN] at hc)
 ·have:=t.fS i.2 (by omega); omega
 ·exact Xj i.2 (by omega)
 ·omega
 ·omega
 ·exact az (by omega) (by omega)
 ·omega
 ·simp only [LN] at he
  by_cases e:q=i.2
  ·subst e
   subst hx
   exact ⟨he,mV _ (by omega) _ _⟩
  ·have:=hi.2.2 q (by omega)
   refine ⟨this.1,?_⟩
   rw [← this.2]
   exact mW _ e _ _
 ·omega
 all_goals (try simp only [LN] at hl)
 ·omega
 ·omega
 ·simp only [LN] at h
  rw [if_pos h]
 ·rw [if_neg]
  simp only [LN] at h
  intro ⟨h1,h2⟩
  rcases h with h | h
  ·exact h h1
  ·exact h h2
 ·simp only [LN] at h; rw [if_pos h]
 ·simp only [LN] at h; rw [if_neg h]
 ·omega
 ·omega
 ·exact az (by omega) (by omega)
 ·omega
 ·simp only [LN] at he
  by_cases e:q=i.2
  ·subst e
   refine ⟨fun h=>?_,fun h=>?_⟩
   ·rw [if_pos h] at hz; left; rw [he,hz]
   ·rw [if_neg h] at hz; rw [he,hz]
  ·have:=hi.2 q (by omega)
   refine ⟨fun h=>?_,this.2⟩
   rcases this.1 h with h1 | h1
   ·by_cases c:x.args.getD i.snd default = -1∧i.fst = -1
    ·right; rw [h1,c.2]
    ·rw [if_neg c] at hy; left; rw [h1,hy]
   ·exact .inr h1
 ·omega
theorem GU (fu:Nat) (rp:Term→Prop) (rf:∀ (t:Term),rp t→iU Tryz.prog 165 [av t.cells] [] (.ef [iv ((aG fu t).1),iv ((aG fu t).2)]) []) (t:Term):(dm (aG fu) rp rf t).val=aG (fu+1) t:=by kernel_rfl
theorem GV (fu:Nat):∀ (t:Term),t.depth≤fu→(rT t)→iU Tryz.prog 165 [av t.cells] [] (.ef [iv ((aG fu t).1),iv ((aG fu t).2)]) []:=by
 induction fu with
 | zero=>intro t hm h0; exact absurd hm (by have:=Term.fK t; omega)
 | succ fu ih =>
  intro t hm h0
  have h:iU Tryz.prog 165 [av t.cells] [] (.ef [iv (((dm (aG fu) (fun t=>t.depth≤fu∧(rT t)) (fun t h=>ih t h.1 h.2) t).val).1),iv (((dm (aG fu) (fun t=>t.depth≤fu∧(rT t)) (fun t h=>ih t h.1 h.2) t).val).2)]) []:=iU.sk tok mixed (fun x=>.ef [iv x.1,iv x.2]) (fun _=>[]) Tryz.func165 rfl (by kernel_rfl) 3000 (dm (aG fu) (fun t=>t.depth≤fu∧(rT t)) (fun t h=>ih t h.1 h.2) t) (by kernel_rfl) (IL fu _ t hm h0)
  rw [GU] at h
  exact h
def z7 (t:Term):Int × Int:=aG (t.depth) t
theorem IM (t:Term) (YJ:rT t):iU Tryz.prog 165 [av t.cells] [] (.ef [iv ((z7 t).1),iv ((z7 t).2)]) []:=GV _ t (Nat.le_refl _) YJ
def vz (t:Term):eo (Int × Int):=⟨Tryz.prog,165,[av t.cells],fun x=>.ef [iv x.1,iv x.2],true,z7 t,(rT t),fun h=>IM t h,fun _=>True,trivial⟩
theorem EH (t:Term) (Im:t.op=0∨t.op=1∨t.op=2) (h:(gC t).2=0):pO t (gC t).1:=by
 obtain ⟨op,n,args⟩:=t
 simp only at Im
 revert h
 cases args with
 | cons a r =>
  intro h
  exfalso
  revert h
  simp only [gC,im,Sk.aZ,Sk.aN]
  rw [show decide ((((a :: r).length:Nat):Int) > 0)=true from by simp]
  simp
 | nil =>
  rcases Im with rfl | rfl | rfl
  ·simp only [gC,im,Sk.aZ,Sk.aN,Sk.bU,eo.qB,kk,kp,iL,pN]
   intro h
   by_cases c:eG (cp n (-1099511627776)) 1099511627776=n
   ·have : -1099511627776≤n∧n≤1099511627776:=by simp only [eG,cp] at c; omega
    have e:(eG (cp n (-1099511627776)) 1099511627776 != n)=false:=by simpa using c
    rw [e]
    exact pO.int this
   ·have e:(eG (cp n (-1099511627776)) 1099511627776 != n)=true:=by simpa using c
    rw [e] at h
    exact absurd (show (3:Int)=0 from h) (by decide)
  ·simp only [gC,im,Sk.aZ,Sk.aN,Sk.bU,eo.qB,kk,kp,iL,pN]
   intro h
   by_cases c:n < 0∨n > 1
   ·have e:(decide (n < 0)||decide (n > 1))=true:=by simpa using c
    rw [e] at h
    exact absurd (show (3:Int)=0 from h) (by decide)
   ·have:0≤n∧n≤1:=by omega
    have e:(decide (n < 0)||decide (n > 1))=false:=by simp; omega
    rw [e]
    exact pO.bool this
  ·intro h
   have e:gC ⟨2,n,[]⟩=(if n < 0∨n > 19 then (0,10) else if n < 7 then (0,0) else (1,0)):=by
    simp only [gC,im,Sk.aZ,Sk.aN,Sk.bU,eo.qB,kk,kp,jl,vy,g5]
    by_cases c:n < 0∨n > 19
    ·have:(decide (n < 0)||decide (n > 19))=true:=by simpa using c
     simp [this,c]
    ·have:(decide (n < 0)||decide (n > 19))=false:=by simp; omega
     by_cases d:n < 7 <;> simp [this,c,d]
   rw [e] at h ⊢
   by_cases c:n < 0∨n > 19
   ·simp [c] at h
   ·have:0≤n∧n≤19:=by omega
    have:=pO.var this
    by_cases d:n < 7 <;> simpa [c,d] using this
theorem YL:aY 3=⟨[1],1⟩:=by kernel_rfl
theorem YM:aY 4=⟨[1,1],1⟩:=by kernel_rfl
theorem YN:aY 5=⟨[1,1],1⟩:=by kernel_rfl
theorem YO:aY 6=⟨[1,-1,-1],-1⟩:=by kernel_rfl
theorem YP:aY 7=⟨[0,0],1⟩:=by kernel_rfl
theorem YQ:aY 8=⟨[-1,-1],1⟩:=by kernel_rfl
theorem UD:aY 9=⟨[0,0],0⟩:=by kernel_rfl
theorem Sy:aY 10=⟨[0,0],0⟩:=by kernel_rfl
theorem Sz:aY 11=⟨[0,0],0⟩:=by kernel_rfl
theorem SA:aY 12=⟨[0,0],0⟩:=by kernel_rfl
theorem SB:aY 13=⟨[0,0],0⟩:=by kernel_rfl
theorem YR (op:Int) (h:9≤op∧op≤13):aY op=⟨[0,0],0⟩:=by
 have:op=9∨op=10∨op=11∨op=12∨op=13:=by omega
 rcases this with e | e | e | e | e <;> rw [e]
 ·exact UD
 ·exact Sy
 ·exact Sz
 ·exact SA
 ·exact SB
theorem UE {α:Type} {l:List α} (h:l.length=1):∃ a,l=[a]:=by
 match l,h with
 | [a],_=>exact ⟨a,rfl⟩
theorem GW {α:Type} {l:List α} (h:l.length=2):∃ a b,l=[a,b]:=by
 match l,h with
 | [a,b],_=>exact ⟨a,b,rfl⟩
theorem UF {α:Type} {l:List α} (h:l.length=3):∃ a b c,l=[a,b,c]:=by
 match l,h with
 | [a,b,c],_=>exact ⟨a,b,c,rfl⟩
theorem GX {t:Term} {b1:List Int} {common:Int} (Im:3≤t.op∧t.op≤13) (hn:t.n=0) (hl:b1.length=(aY t.op).args.length) (hb:b1.length=t.args.length) (K2:∀ q,q < t.args.length→pO (t.args.getD q default) (b1.getD q default))
  (hc:∀ q,q < (aY t.op).args.length→((aY t.op).args.getD q default = -1→b1.getD q default=common∨b1.getD q default = -1)∧((aY t.op).args.getD q default≠-1→b1.getD q default=(aY t.op).args.getD q default)) :
  pO t (if (aY t.op).result = -1 then common else (aY t.op).result):=by
 obtain ⟨op,n,args⟩:=t
 simp only at Im hn hl hb K2 hc ⊢
 subst hn
 have YS:op=3∨op=4∨op=5∨op=6∨op=7∨op=8∨(9≤op∧op≤13):=by omega
 rcases YS with rfl | rfl | rfl | rfl | rfl | rfl | h9
 ·rw [YL] at hl hc ⊢
  obtain ⟨a,rfl⟩:=UE (hb.symm.trans hl)
  have h0:=K2 0 (by simp)
  have c0:=hc 0 (by simp)
  simp at h0 c0 ⊢
  rw [c0] at h0
  exact .not h0
 ·rw [YM] at hl hc ⊢
  obtain ⟨a,b,rfl⟩:=GW (hb.symm.trans hl)
  have h0:=K2 0 (by simp); have h1:=K2 1 (by simp)
  have c0:=hc 0 (by simp); have c1:=hc 1 (by simp)
  simp at h0 h1 c0 c1 ⊢
  rw [c0] at h0; rw [c1] at h1
  exact .Lh (.inl rfl) h0 h1
 ·rw [YN] at hl hc ⊢
  obtain ⟨a,b,rfl⟩:=GW (hb.symm.trans hl)
  have h0:=K2 0 (by simp); have h1:=K2 1 (by simp)
  have c0:=hc 0 (by simp); have c1:=hc 1 (by simp)
  simp at h0 h1 c0 c1 ⊢
  rw [c0] at h0; rw [c1] at h1
  exact .Lh (.inr rfl) h0 h1
 ·rw [YO] at hl hc ⊢
  obtain ⟨a,b,c,rfl⟩:=UF (hb.symm.trans hl)
  have h0:=K2 0 (by simp); have h1:=K2 1 (by simp); have h2:=K2 2 (by simp)
  have c0:=hc 0 (by simp); have c1:=hc 1 (by simp); have c2:=hc 2 (by simp)
  simp at h0 h1 h2 c0 c1 c2 ⊢
  have k1:=h1.kind; have k2:=h2.kind
  rw [c0] at h0
  have e1:b1[1]?.getD 0=common:=by omega
  have e2:b1[2]?.getD 0=common:=by omega
  rw [e1] at h1; rw [e2] at h2
  exact .ite h0 h1 h2
 ·rw [YP] at hl hc ⊢
  obtain ⟨a,b,rfl⟩:=GW (hb.symm.trans hl)
  have h0:=K2 0 (by simp); have h1:=K2 1 (by simp)
  have c0:=hc 0 (by simp); have c1:=hc 1 (by simp)
  simp at h0 h1 c0 c1 ⊢
  rw [c0] at h0; rw [c1] at h1
  exact .less h0 h1
 ·rw [YQ] at hl hc ⊢
  obtain ⟨a,b,rfl⟩:=GW (hb.symm.trans hl)
  have h0:=K2 0 (by simp); have h1:=K2 1 (by simp)
  have c0:=hc 0 (by simp); have c1:=hc 1 (by simp)
  simp at h0 h1 c0 c1 ⊢
  have k1:=h0.kind; have k2:=h1.kind
  have e1:b1[0]?.getD 0=common:=by omega
  have e2:b1[1]?.getD 0=common:=by omega
  rw [e1] at h0; rw [e2] at h1
  exact .eq h0 h1
 ·rw [YR op h9] at hl hc ⊢
  obtain ⟨a,b,rfl⟩:=GW (hb.symm.trans hl)
  have h0:=K2 0 (by simp); have h1:=K2 1 (by simp)
  have c0:=hc 0 (by simp); have c1:=hc 1 (by simp)
  simp at h0 h1 c0 c1 ⊢
  rw [c0] at h0; rw [c1] at h1
  exact .arith h9 h0 h1
theorem ou:∀ (fu:Nat) (t:Term),t.depth≤fu→(aG fu t).2=0→pO t (aG fu t).1
 | 0,t,hd,_=>absurd hd (by have:=t.fK; omega)
 | fu+1,t,hd,h=>by
  have ih:=ou fu
  have key:aG (fu+1) t=(dm (aG fu) (fun _=>False) (fun _ h=>h.elim) t).val:=rfl
  rw [key] at h ⊢
  refine (Sk.dA (dm (aG fu) (fun _=>False) (fun _ h=>h.elim) t) (L:=fun x=>x.2=0→pO t x.1) (Sk.bq _ ?_)) h
  unfold dm
  simp only [Sk.cV,Sk.aU,reduceCtorEq,false_implies,ni,gd,bD.z,bD.p,bD.t,bD.pt,bD.o,bD.and,bD.au,bD.zX,bD.wh,bD.dep,bD.fA,eo.c,kk,kp,oY,sY,np,implies_true,true_and,and_true,and_self,true_implies,forall_eq,forall_const]
  refine ⟨⟨⟨by simp,Nat.zero_le _,fun q hq=>absurd hq (by omega)⟩,fun i hi=>⟨fun hc=>⟨fun he h=>?_,fun he=>⟨⟨by simp [hi.1],?_,fun q hq=>?_⟩,?_⟩⟩,fun hc=>⟨hi.1,fun q hq=>hi.2.2 q (by simp at hc; omega)⟩⟩⟩,fun b hb=>⟨fun hc h=>absurd h (by decide),fun hc=>⟨fun Im h=>?_,fun Im=>⟨fun _ h=>absurd h (by decide),fun hl=>⟨⟨⟨Nat.zero_le _,fun q hq=>absurd hq (by omega)⟩,fun i hi=>⟨fun hc=>⟨⟨?_,?_⟩,fun y _ hy=>⟨⟨?_,?_⟩,fun z _ hz=>⟨fun _ h=>absurd h (by decide),fun he=>⟨⟨?_,fun q hq=>?_⟩,?_⟩⟩⟩⟩,fun hc q hq=>hi.2 q (by simp at hc; omega)⟩⟩,fun y hy=>⟨?_,?_⟩⟩⟩⟩⟩⟩
  ·rw [h] at he; exact absurd he (by decide)
  ·simp only [LN] at hc; omega
  ·simp only [LN] at hc he
   by_cases e:q=i.2
   ·subst e
    exact ⟨he,mV _ (by omega) _ _⟩
   ·have:=hi.2.2 q (by omega)
    refine ⟨this.1,?_⟩
    rw [← this.2]
    exact mW _ e _ _
  ·simp only [LN] at hc; omega
  ·exact EH t (by simp only [LN] at Im; omega) h
  ·intro h; simp only [LN] at h; rw [if_pos h]
  ·intro h
   rw [if_neg]
   simp only [LN] at h
   intro ⟨h1,h2⟩
   rcases h with h | h
   ·exact h h1
   ·exact h h2
  ·intro h; simp only [LN] at h; rw [if_pos h]
  ·intro h; simp only [LN] at h; rw [if_neg h]
  ·simp only [LN] at hc; omega
  ·simp only [LN] at hc he
   by_cases e:q=i.2
   ·subst e
    refine ⟨fun h=>?_,fun h=>?_⟩
    ·rw [if_pos h] at hz; left; rw [he,hz]
    ·rw [if_neg h] at hz; rw [he,hz]
   ·have:=hi.2 q (by omega)
    refine ⟨fun h=>?_,this.2⟩
    rcases this.1 h with h1 | h1
    ·by_cases c:(aY t.op).args.getD i.snd default = -1∧i.fst = -1
     ·right; rw [h1,c.2]
     ·rw [if_neg c] at hy; left; rw [h1,hy]
    ·exact .inr h1
  ·simp only [LN] at hc; omega
  ·intro h
   simp only [LN] at hc Im hl h
   have:=GX (t:=t) (b1:=b) (common:=y) (by omega) hl.2 (by omega) hb.1 (fun q hq=>by
    have h1:=hb.2 q hq
    rw [h1.2]
    exact ih _ (by have:=t.fS q hq; omega) h1.1) hy
   rw [if_pos h] at this
   exact this
  ·intro h
   simp only [LN] at hc Im hl h
   have:=GX (t:=t) (b1:=b) (common:=y) (by omega) hl.2 (by omega) hb.1 (fun q hq=>by
    have h1:=hb.2 q hq
    rw [h1.2]
    exact ih _ (by have:=t.fS q hq; omega) h1.1) hy
   rw [if_neg h] at this
   exact this
def lQ (t:Term):Sk (Int × Int) :=
 .r 1 ((rU t 1).c) fun x1 =>
 .br (decide (x1 > 60))
 (.fin (0,6))
 (.r 3 ((vz t).c) fun x2 =>
 .fin (x2.1,x2.2))
def eO t:=(lQ t).val
def Term.pP (t:Term):Prop:=(∃ k,pO t k)∧t.depth≤8
theorem xE (t:Term):(lQ t).dz (fun (x:Int × Int)=>x.2=0→pO t x.1∧t.depth≤8):=by
 refine Sk.bq _ ?_
 unfold lQ
 simp only [Sk.cV,Sk.aU,reduceCtorEq,false_implies,ni,gd,bD.z,bD.p,bD.t,bD.pt,bD.o,bD.and,bD.au,bD.zX,bD.wh,bD.dep,bD.fA,eo.c,kk,kp,eo.nil,eo.zc,jg.c,jg.nil,rU,vz,forall_eq,forall_const]
 have hm:=mj _ t 1 (Nat.le_refl _) (by omega) (by omega)
 have hc:=ou _ t (Nat.le_refl _)
 refine ⟨fun _ h=>absurd h (by decide),fun c h=>⟨hc h,?_⟩⟩
 simp only [decide_eq_false_iff_not] at c
 have:aI t.depth t 1≤60:=Int.not_lt.1 c
 have:=hm.2.2.1 this
 omega
theorem wD (t:Term):(fun (x:Int × Int)=>x.2=0→pO t x.1∧t.depth≤8) (eO t):=have h:=Sk.dA _ (xE t); h
theorem IP (t:Term):(lQ t).bE (fun _=>True):=by
 refine Sk.bm _ ?_
 unfold lQ
 simp only [Sk.j2,Sk.aU,reduceCtorEq,ON,kk,kp,vz,rU,maxLen]
 exact fun x hx h=>(mj _ t 1 (Nat.le_refl _) (by omega) (by omega)).2.2.2 (by subst hx; simp only [LN] at h; exact h)
def qL t:=kp tok mixed Tryz.func134 [av t.cells] (fun x=>.ef [iv x.1,iv x.2]) true (eO t) (u0 (IP t)) (xE t)
def oZ (o:Order) (ask:Int):Sk (Term × Int) :=
 .r 1 ((jI ask).c) fun x1 =>
 .br (!x1.2)
 (.fin (({ op:=0,n:=0,args:=[] }:Term),1))
 (.r 4 ((nm o.rules ask).c) fun x2 =>
 .br (decide (x2 < 0))
 (.fin (({ op:=0,n:=0,args:=[] }:Term),4))
 (.r 7 (.p (bz x2 o.rules.length)) fun _ =>
 .r 8 ((qL ((o.rules.getD x2.toNat default).term)).c) fun x3 =>
 .br ((x3.2 != 0)||(x3.1 != x1.1))
 (.fin (({ op:=0,n:=0,args:=[] }:Term),11))
 (.fin ((o.rules.getD x2.toNat default).term,0))))
def iM o ask:=(oZ o ask).val
theorem IQ (o:Order) (ask:Int):(oZ o ask).bE (fun _=>True):=by
 unfold oZ
 try simp only [jI,nm,qL]
 exact oj
def BA o ask:=kk tok mixed Tryz.func94 [av o.cells,iv ask] (fun x=>.ef [av x.1.cells,iv x.2]) false (oZ o ask) (iM o ask) (u0 (IQ o ask))
structure Machine where
 fD:List ah
 deriving Inhabited
def sZ (tN:Bool):Sk (ah) :=
 .br tN
 (.fin ({ known:=true,n:=1 }:ah))
 (.fin ({ known:=true,n:=0 }:ah))
def lR tN:=(sZ tN).val
theorem Nu (tN:Bool):(sZ tN).bE (fun _=>True):=by
 unfold sZ
 exact mY
def fU tN:=kk tok mixed Tryz.func191 [bv tN] (fun x=>av x.cells) true (sZ tN) (lR tN) (u0 (Nu tN))
def fx (m:Machine) (v:Int):Sk (ah) :=
 .r 1 (.wh (decide (v≥((m.fD.length:Nat):Int))) false (.p (bz v m.fD.length))) fun _ =>
 .br ((decide (v≥((m.fD.length:Nat):Int)))||(!((m.fD.getD v.toNat default).known)))
 (.fin ({ known:=false,n:=0 }:ah))
 (.r 3 ((jl v).c) fun x1 =>
 .br (x1.1 == 1)
 (.r 5 (.au (.p (bz v m.fD.length)) ((fU (((m.fD.getD v.toNat default).n) != 0)).c)) fun x2 =>
 .fin x2)
 (.r 6 (.au (.p (bz v m.fD.length)) ((iL ((m.fD.getD v.toNat default).n)).c)) fun x3 =>
 .fin ({ known:=true,n:=x3 }:ah)))
def gK m v:=(fx m v).val
theorem wQ (m:Machine) (v:Int) (hv:0≤v):(fx m v).bE (fun _=>True):=by
 unfold fx
 try simp only [jl,iL,fU,pN]
 exact qJ
def pQ m v:=kk tok mixed Tryz.func166 [av [mS ah.cells m.fD],iv v] (fun x=>av x.cells) true (fx m v) (gK m v) (wQ m v)
def jW (a:Int) (b:Int):Sk (Int) :=
 .r 1 ((lr (IntKind.u64.wrap (cp a (ar (0 - a)))) (IntKind.u64.wrap (cp b (ar (0 - b))))).c) fun x1 =>
 .bind false (fun _=>True)
 (.br ((x1.1 == 0)&&(decide (x1.2 < 1099511627776)))
 (.fin (.inr (ar (x1.2))))
 (.fin (.inr 1099511627776)))
 (fun (b2:Int)=>⟨[(7,iv b2)],[]⟩) fun b2 =>
 .br (!((decide (a < 0)) == (decide (b < 0))))
 (.fin (ar (0 - b2)))
 (.fin b2)
def jK a b:=(jW a b).val
theorem EI (a:Int) (b:Int):(jW a b).bE (fun _=>True):=by
 unfold jW
 try simp only [lr]
 exact mY
def xF a b:=kk tok mixed Tryz.func205 [iv a,iv b] (fun x=>iv x) true (jW a b) (jK a b) (u0 (EI a b))
def jL (op:Int) (a:Int) (b:Int):Sk (Int) :=
 .br (op == 9)
 (.r 3 ((iL (ar (a+b))).c) fun x1 =>
 .fin x1)
 (.br (op == 10)
 (.r 5 ((iL (ar (a - b))).c) fun x2 =>
 .fin x2)
 (.br (op == 11)
 (.r 7 ((xF a b).c) fun x3 =>
 .fin x3)
 (.br (op == 12)
 (.fin (eG a b))
 (.fin (cp a b)))))
def dn op a b:=(jL op a b).val
theorem z8 (op:Int) (a:Int) (b:Int):(jL op a b).bE (fun _=>True):=by
 unfold jL
 try simp only [iL,xF,pN]
 exact qJ
def nr op a b:=kk tok mixed Tryz.func193 [iv op,iv a,iv b] (fun x=>iv x) true (jL op a b) (dn op a b) (u0 (z8 op a b))
def fb (op:Int) (l:List ah):Sk (ah) :=
 .bind true (fun b1=>op≠3∧op≠6)
 (.br (op == 3)
 (.r 3 (.p (bz (0:Int) l.length)) fun _ =>
 .br ((l.getD 0 default).known)
 (.r 4 (.au (.p (bz (0:Int) l.length)) ((fU (((l.getD 0 default).n) == 0)).c)) fun x2 =>
 .fin (.inl x2))
 (.fin (.inl ({ known:=false,n:=0 }:ah))))
 (.bind false (fun b3=>b3=(op == 4||op == 5))
 (.br (op == 4)
 (.fin (.inr (op == 4)))
 (.fin (.inr (op == 5))))
 (fun (b3:Bool)=>⟨[(22,bv b3)],[]⟩) fun b3 =>
 .br b3
 (.r 8 ((fU (op == 5)).c) fun x4 =>
 .r 9 (.au (.p (bz (0:Int) l.length)) (.wh ((((l.getD 0 default).known) == x4.known)&&((((l.getD 0 default).n) == x4.n)&&true)) false (.p (bz (1:Int) l.length)))) fun _ =>
 .br (((((l.getD 0 default).known) == x4.known)&&((((l.getD 0 default).n) == x4.n)&&true))||((((l.getD 1 default).known) == x4.known)&&((((l.getD 1 default).n) == x4.n)&&true)))
 (.fin (.inl x4))
 (.fin (.inr ())))
 (.br (op == 6)
 (.r 12 (.au (.p (bz (1:Int) l.length)) (.au (.wh ((l.getD 1 default).known) true (.p (bz (1:Int) l.length))) (.wh ((l.getD 1 default).known) true (.p (bz (2:Int) l.length))))) fun _ =>
 .br (((l.getD 1 default).known)&&((((l.getD 1 default).known) == ((l.getD 2 default).known))&&((((l.getD 1 default).n) == ((l.getD 2 default).n))&&true)))
 (.r 13 (.p (bz (1:Int) l.length)) fun _ =>
 .fin (.inl (l.getD 1 default)))
 (.fin (.inl ({ known:=false,n:=0 }:ah))))
 (.fin (.inr ())))))
 (fun (_:Unit)=>⟨[],[]⟩) fun _ =>
 .r 15 (.au (.p (bz (0:Int) l.length)) (.wh (!((l.getD 0 default).known)) false (.p (bz (1:Int) l.length)))) fun _ =>
 .br ((!((l.getD 0 default).known))||(!((l.getD 1 default).known)))
 (.fin ({ known:=false,n:=0 }:ah))
 (.r 17 (.au (.p (bz (0:Int) l.length)) (.p (bz (1:Int) l.length))) fun _ =>
 .bind false (fun _=>True)
 (.br (op == 4)
 (.fin (.inr (op == 4)))
 (.fin (.inr (op == 5))))
 (fun (b5:Bool)=>⟨[(82,bv b5)],[]⟩) fun b5 =>
 .br b5
 (.r 21 ((fU (op == 4)).c) fun x6 =>
 .fin x6)
 (.br (op == 7)
 (.r 23 ((fU (decide (((l.getD 0 default).n) < ((l.getD 1 default).n)))).c) fun x7 =>
 .fin x7)
 (.br (op == 8)
 (.r 25 ((fU (((l.getD 0 default).n) == ((l.getD 1 default).n))).c) fun x8 =>
 .fin x8)
 (.r 26 ((nr op ((l.getD 0 default).n) ((l.getD 1 default).n)).c) fun x9 =>
 .fin ({ known:=true,n:=x9 }:ah)))))
def cC op l:=(fb op l).val
theorem EJ (op:Int) (l:List ah) (ha:(op=3∧1≤l.length)∨(op=6∧3≤l.length)∨(op≠3∧op≠6∧2≤l.length)):(fb op l).bE (fun _=>True):=by
 unfold fb
 try simp only [nr,fU]
 exact oj
def xG op l:=kk tok mixed Tryz.func167 [iv op,lv ah.cells l] (fun x=>av x.cells) true (fb op l) (cC op l) (EJ op l)
def fE (n:Int):Sk ((List Int)) :=
 .bind false (fun _=>True)
 (.br (decide (n < 0))
 (.dead default)
 (.fin (.inr ())))
 (fun (_:Unit)=>⟨[],[]⟩) fun _ =>
 .br (decide ((ar (n - (ar ((0:Int) - 0)))) > 0))
 (.r 5 (.au (.p (0≤(0:Int)∧(0:Int)≤0)) (.au (.au (.o [.dy (Xr eZ ((ar (n - (ar ((0:Int) - 0)))).toNat) (0:Int))]) (.p (PL (ar (n - (ar ((0:Int) - 0)))) 8))) (.au (.o [.dy (acs eZ (List.replicate ((ar (n - (ar ((0:Int) - 0)))).toNat) (0:Int)) 0)]) (.p (0≤(0:Int)∧0≤(((List.replicate ((ar (n - (ar ((0:Int) - 0)))).toNat) (0:Int)).length:Nat):Int)))))) fun _ =>
 .fin (fI (List.replicate ((ar (n - (ar ((0:Int) - 0)))).toNat) (0:Int)) 0 0))
 (.fin [])
def mn n:=(fE n).val
theorem zk (n:Int):(fE n).dz (fun (x:(List Int))=>x=[]):=by
 unfold fE
 exact Rg
theorem xH (n:Int):(fun (x:(List Int))=>x=[]) (mn n):=have h:=Sk.dA _ (zk n); h
theorem z9 (n:Int) (hn:0≤n∧n≤1000000000):(fE n).bE (fun _=>True):=by
 unfold fE
 exact oj
theorem zl (n:Int) (hn:0≤n∧n≤1000000000):iU Tryz.prog 194 [nv,iv n] [] (ow 777777 (mn n)) [(777777,fg 3 1 cM (mn n))] :=
 iU.sk tok mixed (fun x=>ow 777777 x) (fun x=>[(777777,fg 3 1 cM x)]) Tryz.func194 rfl (by kernel_rfl) 3000 (fE n) (by kernel_rfl) (z9 n hn)
def mK (κ:Nat) (n:Int):jg ((List Int)):=⟨Tryz.prog,194,[nv,iv n],fun x=>ow κ x,fun x=>[(κ,fg 3 1 cM x)],mn n,(0≤n∧n≤1000000000),fun h=>iU.Xs κ (zl n h),fun (x:(List Int))=>x=[],xH n⟩
theorem Db {α:Type} [Inhabited α] (l:List (List α)) (n:Nat) (h:n < l.length):(l.take (n+1)).flatten=(l.take n).flatten++l.getD n default:=by
 rw [List.take_succ_eq_append_getElem h,List.flatten_append]
 simp only [List.getD,h,List.getElem?_eq_getElem,Option.getD_some,List.flatten_cons,List.flatten_nil,List.append_nil]
theorem Li {α:Type} [Inhabited α] (l:List (List α)) (B:Nat) (h:∀ i,i < l.length→(l.getD i default).length≤B):∀ n,n≤l.length→(l.take n).flatten.length≤B * n
 | 0,_=>by simp
 | n+1,hn=>by
  have:=Li l B h n (by omega)
  rw [Db l n (by omega),List.length_append,Nat.mul_add]
  have:=h n (by omega)
  omega
def jm (bP:List (List Int)):Sk ((List Int)) :=
 .bind true (fun b1=>(bP.length≤100∧∀ i,i < bP.length→(bP.getD i default).length≤1000000)→(0:Int)≤b1∧b1≤100000000)
 (.loop (default:Sum ((List Int)) (Int)) (fun i2=>(bP.length≤100∧∀ i,i < bP.length→(bP.getD i default).length≤1000000)→(0:Int)≤i2.1∧i2.1≤((1000000 * i2.2:Nat):Int)∧i2.2≤bP.length) (fun i2=>bP.length - i2.2) ((0,0):Int × Nat)
 (fun (i2:Int × Nat)=>⟨[(3,iv i2.1),(11,iv (i2.2:Int))],[]⟩) fun i2 =>
 .lt 0 0 i2.2 bP.length
 (.r 4 (.p (bz (i2.2:Int) bP.length)) fun _ =>
 .br (decide ((ar (i2.1+(((bP.getD i2.2 default).length:Nat):Int))) < 0))
 (.dead default)
 (.r 8 .z fun _ =>
 .wi 11 (ar ((i2.2:Int)+1)) ((i2.2+1:Nat):Int) <|
 .fin (.inr (ar (i2.1+(((bP.getD i2.2 default).length:Nat):Int)),i2.2+1))))
 (.fin (.inl (.inr i2.1))))
 (fun (b1:Int)=>⟨[(3,iv b1)],[]⟩) fun b1 =>
 .r 9 ((mK 24 b1).c) fun x3 =>
 .bind true (fun b4=>(bP.length≤100∧∀ i,i < bP.length→(bP.getD i default).length≤1000000)→b4=bP.flatten)
 (.loop (default:Sum ((List Int)) ((List Int))) (fun i5=>(bP.length≤100∧∀ i,i < bP.length→(bP.getD i default).length≤1000000)→i5.1=(bP.take i5.2).flatten∧i5.2≤bP.length) (fun i5=>bP.length - i5.2) ((x3,0):(List Int) × Nat)
 (fun (i5:(List Int) × Nat)=>⟨[(6,ow 100002 i5.1),(27,iv (i5.2:Int))],[(100002,fg 3 1 cM i5.1)]⟩) fun i5 =>
 .lt 25 0 i5.2 bP.length
 (.r 12 (.p (bz (i5.2:Int) bP.length)) fun _ =>
 .r 13 (.au (.o [.dy (nY eZ i5.1 (bP.getD i5.2 default))]) (.au (.t (eZ.src (bP.getD i5.2 default))) (.p (zb i5.1.length (bP.getD i5.2 default).length 8)))) fun _ =>
 .nx 14 27 i5.2 (i5.1++(bP.getD i5.2 default),i5.2+1))
 (.fin (.inl (.inr i5.1))))
 (fun (b4:(List Int))=>⟨[(6,ow 100001 b4)],[(100001,fg 3 1 cM b4)]⟩) fun b4 =>
 .fin b4
def tS bP:=(jm bP).val
theorem s5 (bP:List (List Int)):(jm bP).dz (fun (x:(List Int))=>(bP.length≤100∧∀ i,i < bP.length→(bP.getD i default).length≤1000000)→x=bP.flatten):=by
 refine Sk.bq _ ?_
 unfold jm
 simp only [Sk.cV,Sk.aU,reduceCtorEq,ON,kk,kp,mK,maxLen]
 refine ⟨⟨fun h=>⟨by omega,by omega,by omega⟩,fun i hi=>⟨fun hc _=>⟨fun hd=>?_,fun hd _=>⟨fun h=>?_,?_⟩⟩,fun hc h=>?_⟩⟩,fun b hb x _ hx=>⟨⟨fun h=>⟨by simp [hx],by omega⟩,fun i hi=>⟨fun hc _ _ _=>⟨fun h=>⟨?_,?_⟩,?_⟩,fun hc h=>?_⟩⟩,fun b hb=>hb⟩⟩
 all_goals (try simp only [LN] at hc)
 all_goals (try simp only [LN] at hd)
 ·show (bP.length≤100∧∀ (i:Nat),i < bP.length→(bP.getD i default).length≤1000000)→_
  intro h
  have h1:=hi h
  have h2:=h.2 i.2 (by omega)
  rw [az (by omega) (by omega)] at hd
  omega
 ·have h1:=hi h
  have h2:=h.2 i.2 (by omega)
  rw [az (by omega) (by omega)]
  omega
 ·omega
 ·have:=hi h
  omega
 ·rw [Db bP i.2 (by omega),(hi h).1]
 ·have:=hi h; omega
 ·omega
 ·have:=hi h
  rw [this.1,show i.2=bP.length by omega,List.take_length]
theorem Aa (bP:List (List Int)):(fun (x:(List Int))=>(bP.length≤100∧∀ i,i < bP.length→(bP.getD i default).length≤1000000)→x=bP.flatten) (tS bP):=have h:=Sk.dA _ (s5 bP); h
theorem Dc (bP:List (List Int)) (hn:(bP.length≤100∧∀ i,i < bP.length→(bP.getD i default).length≤1000000)):(jm bP).bE (fun _=>True):=by
 refine Sk.bm _ ?_
 unfold jm
 simp only [Sk.j2,Sk.aU,reduceCtorEq,ON,kk,kp,mK,maxLen]
 refine ⟨⟨fun h=>⟨by omega,by omega,by omega⟩,fun i hi hl=>⟨fun hc=>⟨⟨by omega,of_decide_eq_true hc⟩,fun _=>⟨fun hd=>?_,fun hd _=>⟨?_,⟨fun h=>?_,?_⟩⟩⟩⟩,fun hc h=>?_⟩⟩,fun b hb=>⟨?_,fun x _ hx=>⟨fun h=>⟨by simp [hx],by omega⟩,fun i hi hl=>⟨fun hc=>⟨⟨by omega,of_decide_eq_true hc⟩,fun _=>⟨?_,fun _ _=>⟨?_,⟨fun h=>⟨?_,?_⟩,?_⟩⟩⟩⟩,fun hc h=>?_⟩⟩⟩⟩
 all_goals (try simp only [LN] at hc)
 all_goals (try simp only [LN] at hd)
 ·have h1:=hi hn
  have h2:=hn.2 i.2 (by omega)
  rw [az (by omega) (by omega)] at hd
  omega
 ·exact az (by omega) (by omega)
 ·have h1:=hi h
  have h2:=h.2 i.2 (by omega)
  rw [az (by omega) (by omega)]
  omega
 ·omega
 ·have:=hi h
  omega
 ·have:=hb hn; omega
 ·have h1:=hi hn
  have h2:=hn.2 i.2 (by omega)
  have h3:=Li bP 1000000 hn.2 i.2 (by omega)
  rw [← h1.1] at h3
  omega
 ·exact az (by omega) (by omega)
 ·rw [Db bP i.2 (by omega),(hi h).1]
 ·have:=hi h; omega
 ·omega
 ·have:=hi h
  rw [this.1,show i.2=bP.length by omega,List.take_length]
def wE bP:=kp tok mixed Tryz.func168 [lv (slE eZ).cells bP] (fun x=>lv cM x) false (tS bP) (Dc bP) (s5 bP)
def qF (rv:Machine→Term→ah × (List Int)) (rp:Machine→Term→Prop) (rf:∀ (m:Machine) (t:Term),rp m t→iU Tryz.prog 135 [av [mS ah.cells m.fD],av t.cells] [] (.ef [av ((rv m t).1).cells,lv cM ((rv m t).2)]) []) (m:Machine) (t:Term):eo (ah × (List Int)):=⟨Tryz.prog,135,[av [mS ah.cells m.fD],av t.cells],fun x=>.ef [av x.1.cells,lv cM x.2],false,rv m t,rp m t,rf m t,fun _=>True,trivial⟩
def dE (rv:Machine→Term→ah × (List Int)) (rp:Machine→Term→Prop) (rf:∀ (m:Machine) (t:Term),rp m t→iU Tryz.prog 135 [av [mS ah.cells m.fD],av t.cells] [] (.ef [av ((rv m t).1).cells,lv cM ((rv m t).2)]) []) (m:Machine) (t:Term):Sk (ah × (List Int)) :=
 .bind false (fun b1=>b1=(t.op == 0||t.op == 1))
 (.br (t.op == 0)
 (.fin (.inr (t.op == 0)))
 (.fin (.inr (t.op == 1))))
 (fun (b1:Bool)=>⟨[(15,bv b1)],[]⟩) fun b1 =>
 .br b1
 (.fin (({ known:=true,n:=t.n }:ah),[]))
 (.br (t.op == 2)
 (.r 6 ((pQ m t.n).c) fun x2 =>
 .br x2.known
 (.fin (x2,[]))
 (.r 9 (.o [.dy (gr eZ [t.n])]) fun _ =>
 .fin (({ known:=false,n:=0 }:ah),[t.n])))
 (.r 10 (.au (.o [.dy (Xr ah.E t.args.length ({ known:=false,n:=0 }:ah))]) (.p (PL ((t.args.length:Nat):Int) 16))) fun _ =>
 .r 11 (.au (.o [.dy (mkN (slE eZ) t.args.length ([]:List Int) [.v (.slice none 0 0)] (by kernel_rfl))]) (.p (PL ((t.args.length:Nat):Int) 24))) fun _ =>
 .bind true (fun b3=>b3.1.length=t.args.length∧b3.2.length=t.args.length∧∀ q,q < t.args.length→b3.1.getD q default=(rv m (t.args.getD q default)).1∧b3.2.getD q default=(rv m (t.args.getD q default)).2)
 (.loop (default:Sum (ah × (List Int)) ((List ah) × (List (List Int)))) (fun i4=>i4.1.length=t.args.length∧i4.2.1.length=t.args.length∧i4.2.2≤t.args.length∧∀ q,q < i4.2.2→i4.1.getD q default=(rv m (t.args.getD q default)).1∧i4.2.1.getD q default=(rv m (t.args.getD q default)).2) (fun i4=>t.args.length - i4.2.2) ((List.replicate t.args.length ({ known:=false,n:=0 }:ah),List.replicate t.args.length ([]:List Int),0):(List ah) × (List (List Int)) × Nat)
 (fun (i4:(List ah) × (List (List Int)) × Nat)=>⟨[(7,ow 100004 i4.1),(8,ow 100005 i4.2.1),(45,iv (i4.2.2:Int))],[(100004,fg 78 2 ah.cells i4.1),(100005,fg 79 1 (slE eZ).cells i4.2.1)]⟩) fun i4 =>
 .lt 43 0 i4.2.2 t.args.length
 (.r 14 (.au (.p (bz (i4.2.2:Int) t.args.length)) (.o [.cast 48 (Sr (Term.zY (t.args.getD i4.2.2 default)))])) fun _ =>
 .r 15 (.fA ((qF rv rp rf m (t.args.getD i4.2.2 default)).c) fun x5=>.au (.p (bz (i4.2.2:Int) i4.1.length)) (.au (.au (.o [.dy (iQ ah.E i4.1 i4.2.2 x5.1)]) (.p (i4.2.2 < i4.1.length))) (.au (.p (bz (i4.2.2:Int) i4.2.1.length)) (.au (.o [.dy (iQ (slE eZ) i4.2.1 i4.2.2 x5.2)]) (.p (i4.2.2 < i4.2.1.length)))))) fun x5 =>
 .wn 100004 i4.1.length (i4.1.set i4.2.2 x5.1).length <|
 .wn 100005 i4.2.1.length (i4.2.1.set i4.2.2 x5.2).length <|
 .nx 16 45 i4.2.2 (i4.1.set i4.2.2 x5.1,i4.2.1.set i4.2.2 x5.2,i4.2.2+1))
 (.fin (.inl (.inr (i4.1,i4.2.1)))))
 (fun (b3:(List ah) × (List (List Int)))=>⟨[(7,ow 100002 b3.1),(8,ow 100003 b3.2)],[(100002,fg 78 2 ah.cells b3.1),(100003,fg 79 1 (slE eZ).cells b3.2)]⟩) fun b3 =>
 .r 17 (.au (.wh (t.op == 6) true (.p (bz (0:Int) b3.1.length))) (.wh (t.op == 6) true (.p (0 < b3.1.length)))) fun _ =>
 .br ((t.op == 6)&&((b3.1.getD 0 default).known))
 (.r 18 (.au (.p (bz (0:Int) b3.1.length)) (.p (0 < b3.1.length))) fun _ =>
 .r 19 (.au (.p (bz (ar ((2:Int) - ((b3.1.getD 0 default).n))) b3.1.length)) (.au (.p ((ar ((2:Int) - ((b3.1.getD 0 default).n))).toNat < b3.1.length)) (.au (.p (bz (ar ((2:Int) - ((b3.1.getD 0 default).n))) b3.2.length)) (.p ((ar ((2:Int) - ((b3.1.getD 0 default).n))).toNat < b3.2.length))))) fun _ =>
 .fin (b3.1.getD ((ar ((2:Int) - ((b3.1.getD 0 default).n))).toNat) default,b3.2.getD ((ar ((2:Int) - ((b3.1.getD 0 default).n))).toNat) default))
 (.r 20 ((xG t.op b3.1).c) fun x6 =>
 .br x6.known
 (.fin (x6,[]))
 (.fz 100003 <|
 .r 23 ((wE b3.2).c) fun x7 =>
 .fin (({ known:=false,n:=0 }:ah),x7)))))
def ae:Nat→Machine→Term→ah × (List Int)
 | 0,_,_=>default
 | fu+1,m,t=>(dE (ae fu) (fun _ _=>False) (fun _ _=>fun h=>h.elim) m t).val
theorem Rl (fu:Nat) (m:Machine) (n:Int):ae (fu+1) m ⟨0,n,[]⟩=(⟨true,n⟩,[]):=by kernel_rfl
theorem Nv (fu:Nat) (m:Machine) (n:Int):ae (fu+1) m ⟨1,n,[]⟩=(⟨true,n⟩,[]):=by kernel_rfl
theorem Rm (fu:Nat) (m:Machine) (n:Int):ae (fu+1) m ⟨2,n,[]⟩=bif (gK m n).known then (gK m n,[]) else (⟨false,0⟩,[n]):=by kernel_rfl
def n8 (op:Int) (cs:List ah) (ns:List (List Int)):ah × List Int:=bif (cC op cs).known then (cC op cs,[]) else (⟨false,0⟩,tS ns)
theorem Rn (fu:Nat) (m:Machine) (n:Int) (a:Term):ae (fu+1) m ⟨3,n,[a]⟩=n8 3 [(ae fu m a).1] [(ae fu m a).2]:=by kernel_rfl
theorem run_ite (fu:Nat) (m:Machine) (n:Int) (a b c:Term):ae (fu+1) m ⟨6,n,[a,b,c]⟩ = 
 (let x:=(ae fu m a); let y:=(ae fu m b); let z:=(ae fu m c);
  bif x.1.known then ([x.1,y.1,z.1].getD (ar (2 - x.1.n)).toNat default,[x.2,y.2,z.2].getD (ar (2 - x.1.n)).toNat default) else n8 6 [x.1,y.1,z.1] [x.2,y.2,z.2]):=by kernel_rfl
theorem UG (fu:Nat) (m:Machine) (n:Int) (a b:Term):ae (fu+1) m ⟨4,n,[a,b]⟩=n8 4 [(ae fu m a).1,(ae fu m b).1] [(ae fu m a).2,(ae fu m b).2]:=by kernel_rfl
theorem UH (fu:Nat) (m:Machine) (n:Int) (a b:Term):ae (fu+1) m ⟨5,n,[a,b]⟩=n8 5 [(ae fu m a).1,(ae fu m b).1] [(ae fu m a).2,(ae fu m b).2]:=by kernel_rfl
theorem UI (fu:Nat) (m:Machine) (n:Int) (a b:Term):ae (fu+1) m ⟨7,n,[a,b]⟩=n8 7 [(ae fu m a).1,(ae fu m b).1] [(ae fu m a).2,(ae fu m b).2]:=by kernel_rfl
theorem UJ (fu:Nat) (m:Machine) (n:Int) (a b:Term):ae (fu+1) m ⟨8,n,[a,b]⟩=n8 8 [(ae fu m a).1,(ae fu m b).1] [(ae fu m a).2,(ae fu m b).2]:=by kernel_rfl
theorem UK (fu:Nat) (m:Machine) (n:Int) (a b:Term):ae (fu+1) m ⟨9,n,[a,b]⟩=n8 9 [(ae fu m a).1,(ae fu m b).1] [(ae fu m a).2,(ae fu m b).2]:=by kernel_rfl
theorem SC (fu:Nat) (m:Machine) (n:Int) (a b:Term):ae (fu+1) m ⟨10,n,[a,b]⟩=n8 10 [(ae fu m a).1,(ae fu m b).1] [(ae fu m a).2,(ae fu m b).2]:=by kernel_rfl
theorem SD (fu:Nat) (m:Machine) (n:Int) (a b:Term):ae (fu+1) m ⟨11,n,[a,b]⟩=n8 11 [(ae fu m a).1,(ae fu m b).1] [(ae fu m a).2,(ae fu m b).2]:=by kernel_rfl
theorem SE (fu:Nat) (m:Machine) (n:Int) (a b:Term):ae (fu+1) m ⟨12,n,[a,b]⟩=n8 12 [(ae fu m a).1,(ae fu m b).1] [(ae fu m a).2,(ae fu m b).2]:=by kernel_rfl
theorem SF (fu:Nat) (m:Machine) (n:Int) (a b:Term):ae (fu+1) m ⟨13,n,[a,b]⟩=n8 13 [(ae fu m a).1,(ae fu m b).1] [(ae fu m a).2,(ae fu m b).2]:=by kernel_rfl
theorem s6 (fu:Nat) (m:Machine) (op n:Int) (h:op=4∨op=5∨op=7∨op=8∨(9≤op∧op≤13)) (a b:Term):ae (fu+1) m ⟨op,n,[a,b]⟩=n8 op [(ae fu m a).1,(ae fu m b).1] [(ae fu m a).2,(ae fu m b).2]:=by
 have:op=4∨op=5∨op=7∨op=8∨op=9∨op=10∨op=11∨op=12∨op=13:=by omega
 rcases this with rfl | rfl | rfl | rfl | rfl | rfl | rfl | rfl | rfl
 ·exact UG fu m n a b
 ·exact UH fu m n a b
 ·exact UI fu m n a b
 ·exact UJ fu m n a b
 ·exact UK fu m n a b
 ·exact SC fu m n a b
 ·exact SD fu m n a b
 ·exact SE fu m n a b
 ·exact SF fu m n a b
def VH (c:ah):Prop:=c.known=true→c.n=0∨c.n=1
theorem xI (b:Bool):lR b=⟨true,if b then 1 else 0⟩:=by cases b <;> kernel_rfl
theorem Ro (b:Bool):VH (lR b):=by rw [xI]; intro _; cases b <;> simp
theorem Nw (a:ah):cC 3 [a]=bif a.known then lR (a.n == 0) else ⟨false,0⟩:=by
 obtain ⟨k,n⟩:=a
 cases k <;> kernel_rfl
def BB (c:ah) (n:Int):ah:=bif c.known then (bif decide (n < 7) then ⟨true,pM c.n⟩ else ⟨true,bif c.n != 0 then 1 else 0⟩) else ⟨false,0⟩
theorem Nx (m:Machine) (n:Int) (h:0≤n∧n≤19):gK m n=BB (m.fD.getD n.toNat default) n:=by
 simp only [gK,fx,Sk.bU,Sk.aZ,Sk.aN,eo.qB,kk,kp,bD.tJ,jl,fU,vy,g5,iL,BB,xI]
 rw [show (decide (n < 0)||decide (n > 19))=false from by simp; omega]
 by_cases hl:n≥m.fD.length
 ·have e:m.fD.getD n.toNat default=⟨false,0⟩:=by
   rw [List.getD,List.getElem?_eq_none (by omega)]
   rfl
  rw [e,decide_eq_true hl]
  rfl
 ·rw [decide_eq_false hl]
  cases hk:(m.fD.getD n.toNat default).known with
  | false=>rfl
  | true =>
   by_cases c:n < 7
   ·rw [decide_eq_true c]; rfl
   ·rw [decide_eq_false c]
    cases hn:((m.fD.getD n.toNat default).n != 0) <;> rfl
theorem UL (c:ah) (n:Int) (h:7≤n):VH (BB c n):=by
 unfold BB
 rw [decide_eq_false (by omega)]
 intro hk
 cases hc:c.known with
 | false=>rw [hc] at hk; exact absurd (show false=true from hk) (by decide)
 | true =>
  cases hn:(c.n != 0)
  ·left; rfl
  ·right; rfl
theorem Kf (op:Int) (h:op=4∨op=5) (a b:ah):cC op [a,b]=(let z:Int:=if op=5 then 1 else 0; bif (a.known&&a.n == z)||(b.known&&b.n == z) then ⟨true,z⟩ else bif a.known&&b.known then ⟨true,1 - z⟩ else ⟨false,0⟩):=by
 obtain ⟨k,n⟩:=a
 obtain ⟨k',n'⟩:=b
 rcases h with rfl | rfl
 ·cases k <;> cases k' <;> cases h1:(n == 0) <;> cases h2:(n' == 0) <;> simp [cC,fb,fU,xI,h1,h2]
 ·cases k <;> cases k' <;> cases h1:(n == 1) <;> cases h2:(n' == 1) <;> simp [cC,fb,fU,xI,h1,h2]
theorem Rp (a b c:ah):cC 6 [a,b,c]=bif b.known&&(c.known&&b.n == c.n) then b else ⟨false,0⟩:=by
 obtain ⟨k,n⟩:=b
 obtain ⟨k',n'⟩:=c
 cases k <;> cases k' <;> cases h1:(n == n') <;> simp [cC,fb,h1]
theorem rV (op:Int) (h:7≤op) (a b:ah):cC op [a,b]=bif a.known&&b.known then (if op=7 then lR (decide (a.n < b.n)) else if op=8 then lR (a.n == b.n) else ⟨true,dn op a.n b.n⟩) else ⟨false,0⟩:=by
 obtain ⟨k,n⟩:=a
 obtain ⟨k',n'⟩:=b
 have e3:(op == 3)=false:=by simp; omega
 have e4:(op == 4)=false:=by simp; omega
 have e5:(op == 5)=false:=by simp; omega
 have e6:(op == 6)=false:=by simp; omega
 simp only [cC,fb,Sk.cu,Sk.aZ,Sk.bU,Sk.aN,e3,e4,e5,e6,cond_false,Ss,cN,eo.qB,kk,kp,fU,nr]
 cases k <;> cases k' <;> (try rfl)
 by_cases c7:op=7
 ·subst c7; rfl
 ·have e7:(op == 7)=false:=by simpa using c7
  by_cases c8:op=8
  ·subst c8; rfl
  ·have e8:(op == 8)=false:=by simpa using c8
   simp [e7,e8,c7,c8]
theorem uL (op:Int) (cs:List ah) (ns:List (List Int)) (h:VH (cC op cs)):VH (n8 op cs ns).1:=by
 unfold n8
 cases hk:(cC op cs).known with
 | true=>exact h
 | false=>intro h; exact absurd (show false=true from h) (by decide)
theorem rr (op:Int) (cs:List ah) (ns:List (List Int)) (B:Nat) (hB:B≤1000000) (hl:ns.length≤3) (h:∀ q,q < ns.length→(ns.getD q default).length≤B):(n8 op cs ns).2.length≤3 * B:=by
 unfold n8
 cases hk:(cC op cs).known with
 | true=>simp
 | false =>
  simp only [cond_false]
  rw [Aa ns ⟨by omega,fun q hq=>Nat.le_trans (h q hq) hB⟩]
  have:=Li ns B h ns.length (Nat.le_refl _)
  rw [List.take_length] at this
  have:B * ns.length≤B * 3:=Nat.mul_le_mul_left _ hl
  omega
theorem YT (op n:Int) (a:Term):Term.depth ⟨op,n,[a]⟩=a.depth+1:=by simp [Term.depth,Term.bO]
theorem Lj (op n:Int) (a b:Term):Term.depth ⟨op,n,[a,b]⟩=max a.depth b.depth+1:=by simp [Term.depth,Term.bO]
theorem YU (op n:Int) (a b c:Term):Term.depth ⟨op,n,[a,b,c]⟩=max a.depth (max b.depth c.depth)+1:=by simp [Term.depth,Term.bO]
theorem ky {a b:Nat} (h:a≤b):3 ^ a≤3 ^ b:=Nat.pow_le_pow_right (by omega) h
theorem Kg {t:Term} {k:Int} (h:pO t k):∀ (fu:Nat) (m:Machine),t.depth≤fu→t.depth≤8→(k=1→VH (ae fu m t).1)∧(ae fu m t).2.length≤3 ^ t.depth:=by
 have h8:∀ d,d≤8→3 ^ d≤1000000:=fun d hd=>Nat.le_trans (ky hd) (by decide)
 induction h with
 | int hn =>
  intro fu m hd _
  cases fu with
  | zero=>exact absurd hd (by simp [Term.depth,Term.bO])
  | succ fu=>rw [Rl]; exact ⟨fun h=>absurd h (by decide),by simp⟩
 | @bool n hn =>
  intro fu m hd _
  cases fu with
  | zero=>exact absurd hd (by simp [Term.depth,Term.bO])
  | succ fu=>rw [Nv]; exact ⟨fun _ _=>by show n=0∨n=1; omega,by simp⟩
 | @var n hn =>
  intro fu m hd _
  cases fu with
  | zero=>exact absurd hd (by simp [Term.depth,Term.bO])
  | succ fu =>
   rw [Rm,Nx m n hn]
   refine ⟨fun h=>?_,?_⟩
   ·have:=UL (m.fD.getD n.toNat default) n (by split at h <;> omega)
    cases hk:(BB (m.fD.getD n.toNat default) n).known with
    | true=>exact this
    | false=>intro h; exact absurd (show false=true from h) (by decide)
   ·cases hk:(BB (m.fD.getD n.toNat default) n).known <;> simp [Term.depth,Term.bO]
 | @not a _ ih =>
  intro fu m hd UM
  cases fu with
  | zero=>exact absurd hd (by simp [Term.depth,Term.bO])
  | succ fu =>
   rw [YT] at hd UM ⊢
   have ih:=ih fu m (by omega) (by omega)
   rw [Rn]
   refine ⟨fun _=>uL _ _ _ ?_,?_⟩
   ·rw [Nw]
    cases hk:(ae fu m a).1.known with
    | true=>exact Ro _
    | false=>intro h; exact absurd (show false=true from h) (by decide)
   ·have:=rr 3 [(ae fu m a).1] [(ae fu m a).2] (3 ^ a.depth) (h8 _ (by omega)) (by simp) (fun q hq=>by
     have:q=0:=by simpa using hq
     subst this
     exact ih.2)
    rw [Nat.pow_succ]; omega
 | @Lh op a b Im _ _ AZ zB =>
  intro fu m hd UM
  cases fu with
  | zero=>exact absurd hd (by simp [Term.depth,Term.bO])
  | succ fu =>
   rw [Lj] at hd UM ⊢
   have AZ:=AZ fu m (by omega) (by omega)
   have zB:=zB fu m (by omega) (by omega)
   rw [s6 _ _ _ _ (by omega)]
   refine ⟨fun _=>uL _ _ _ ?_,?_⟩
   ·rw [Kf op Im]
    dsimp only
    split
    ·cases (((ae fu m a).1.known&&(ae fu m a).1.n == 1)||((ae fu m b).1.known&&(ae fu m b).1.n == 1)) <;> cases ((ae fu m a).1.known&&(ae fu m b).1.known) <;> simp [VH]
    ·cases (((ae fu m a).1.known&&(ae fu m a).1.n == 0)||((ae fu m b).1.known&&(ae fu m b).1.n == 0)) <;> cases ((ae fu m a).1.known&&(ae fu m b).1.known) <;> simp [VH]
   ·have:=rr op [(ae fu m a).1,(ae fu m b).1] [(ae fu m a).2,(ae fu m b).2] (3 ^ (max a.depth b.depth)) (h8 _ (by omega)) (by simp) (fun q hq=>by
     have:q=0∨q=1:=by simp at hq; omega
     rcases this with rfl | rfl
     ·exact Nat.le_trans AZ.2 (ky (by omega))
     ·exact Nat.le_trans zB.2 (ky (by omega)))
    rw [Nat.pow_succ]; omega
 | @ite a b c k ha _ _ AZ zB YV =>
  intro fu m hd UM
  cases fu with
  | zero=>exact absurd hd (by simp [Term.depth,Term.bO])
  | succ fu =>
   rw [YU] at hd UM ⊢
   have AZ:=AZ fu m (by omega) (by omega)
   have zB:=zB fu m (by omega) (by omega)
   have YV:=YV fu m (by omega) (by omega)
   rw [run_ite]
   dsimp only
   have lb:=Nat.le_trans zB.2 (ky (b:=max a.depth (max b.depth c.depth)+1) (by omega))
   have lc:=Nat.le_trans YV.2 (ky (b:=max a.depth (max b.depth c.depth)+1) (by omega))
   cases hk:(ae fu m a).1.known with
   | true =>
    simp only [cond_true]
    rcases AZ.1 rfl hk with e | e
    ·rw [e]
     exact ⟨YV.1,lc⟩
    ·rw [e]
     exact ⟨zB.1,lb⟩
   | false =>
    simp only [cond_false]
    refine ⟨fun h=>uL _ _ _ ?_,?_⟩
    ·rw [Rp]
     cases ((ae fu m b).1.known&&((ae fu m c).1.known&&(ae fu m b).1.n == (ae fu m c).1.n)) with
     | true=>exact zB.1 h
     | false=>intro h; exact absurd (show false=true from h) (by decide)
    ·have:=rr 6 [(ae fu m a).1,(ae fu m b).1,(ae fu m c).1] [(ae fu m a).2,(ae fu m b).2,(ae fu m c).2] (3 ^ (max a.depth (max b.depth c.depth))) (h8 _ (by omega)) (by simp) (fun q hq=>by
      have:q=0∨q=1∨q=2:=by simp at hq; omega
      rcases this with rfl | rfl | rfl
      ·exact Nat.le_trans AZ.2 (ky (by omega))
      ·exact Nat.le_trans zB.2 (ky (by omega))
      ·exact Nat.le_trans YV.2 (ky (by omega)))
     rw [Nat.pow_succ]; omega
 | @less a b _ _ AZ zB =>
  intro fu m hd UM
  cases fu with
  | zero=>exact absurd hd (by simp [Term.depth,Term.bO])
  | succ fu =>
   rw [Lj] at hd UM ⊢
   have AZ:=AZ fu m (by omega) (by omega)
   have zB:=zB fu m (by omega) (by omega)
   rw [s6 _ _ _ _ (by omega)]
   refine ⟨fun _=>uL _ _ _ ?_,?_⟩
   ·rw [rV 7 (by omega)]
    cases ((ae fu m a).1.known&&(ae fu m b).1.known) with
    | true=>exact Ro _
    | false=>intro h; exact absurd (show false=true from h) (by decide)
   ·have:=rr 7 [(ae fu m a).1,(ae fu m b).1] [(ae fu m a).2,(ae fu m b).2] (3 ^ (max a.depth b.depth)) (h8 _ (by omega)) (by simp) (fun q hq=>by
     have:q=0∨q=1:=by simp at hq; omega
     rcases this with rfl | rfl
     ·exact Nat.le_trans AZ.2 (ky (by omega))
     ·exact Nat.le_trans zB.2 (ky (by omega)))
    rw [Nat.pow_succ]; omega
 | @eq a b _ _ _ AZ zB =>
  intro fu m hd UM
  cases fu with
  | zero=>exact absurd hd (by simp [Term.depth,Term.bO])
  | succ fu =>
   rw [Lj] at hd UM ⊢
   have AZ:=AZ fu m (by omega) (by omega)
   have zB:=zB fu m (by omega) (by omega)
   rw [s6 _ _ _ _ (by omega)]
   refine ⟨fun _=>uL _ _ _ ?_,?_⟩
   ·rw [rV 8 (by omega)]
    cases ((ae fu m a).1.known&&(ae fu m b).1.known) with
    | true=>exact Ro _
    | false=>intro h; exact absurd (show false=true from h) (by decide)
   ·have:=rr 8 [(ae fu m a).1,(ae fu m b).1] [(ae fu m a).2,(ae fu m b).2] (3 ^ (max a.depth b.depth)) (h8 _ (by omega)) (by simp) (fun q hq=>by
     have:q=0∨q=1:=by simp at hq; omega
     rcases this with rfl | rfl
     ·exact Nat.le_trans AZ.2 (ky (by omega))
     ·exact Nat.le_trans zB.2 (ky (by omega)))
    rw [Nat.pow_succ]; omega
 | @arith op a b Im _ _ AZ zB =>
  intro fu m hd UM
  cases fu with
  | zero=>exact absurd hd (by simp [Term.depth,Term.bO])
  | succ fu =>
   rw [Lj] at hd UM ⊢
   have AZ:=AZ fu m (by omega) (by omega)
   have zB:=zB fu m (by omega) (by omega)
   rw [s6 _ _ _ _ (by omega)]
   refine ⟨fun h=>absurd h (by decide),?_⟩
   have:=rr op [(ae fu m a).1,(ae fu m b).1] [(ae fu m a).2,(ae fu m b).2] (3 ^ (max a.depth b.depth)) (h8 _ (by omega)) (by simp) (fun q hq=>by
    have:q=0∨q=1:=by simp at hq; omega
    rcases this with rfl | rfl
    ·exact Nat.le_trans AZ.2 (ky (by omega))
    ·exact Nat.le_trans zB.2 (ky (by omega)))
   rw [Nat.pow_succ]; omega
theorem pO.parts {t:Term} {k:Int} (h:pO t k):(t.op=0∨t.op=1∨(t.op=2∧0≤t.n))∨((∀ q,q < t.args.length→∃ j,pO (t.args.getD q default) j)∧((t.op=3∧t.args.length=1)∨(t.op=6∧t.args.length=3∧pO (t.args.getD 0 default) 1)∨(t.op≠0∧t.op≠1∧t.op≠2∧t.op≠3∧t.op≠6∧t.args.length=2))):=by
 cases h with
 | int _=>left; left; rfl
 | bool _=>left; right; left; rfl
 | var h=>left; right; right; exact ⟨rfl,h.1⟩
 | not h =>
  right
  refine ⟨fun q hq=>?_,.inl ⟨rfl,rfl⟩⟩
  obtain rfl:q=0:=by simpa using hq
  exact ⟨_,h⟩
 | Lh o h1 h2 =>
  right
  refine ⟨fun q hq=>?_,.inr (.inr ⟨by dsimp only; omega,by dsimp only; omega,by dsimp only; omega,by dsimp only; omega,by dsimp only; omega,rfl⟩)⟩
  have:q=0∨q=1:=by simp at hq; omega
  rcases this with rfl | rfl
  ·exact ⟨_,h1⟩
  ·exact ⟨_,h2⟩
 | ite h1 h2 h3 =>
  right
  refine ⟨fun q hq=>?_,.inr (.inl ⟨rfl,rfl,h1⟩)⟩
  have:q=0∨q=1∨q=2:=by simp at hq; omega
  rcases this with rfl | rfl | rfl
  ·exact ⟨_,h1⟩
  ·exact ⟨_,h2⟩
  ·exact ⟨_,h3⟩
 | less h1 h2 =>
  right
  refine ⟨fun q hq=>?_,.inr (.inr ⟨by dsimp only; omega,by dsimp only; omega,by dsimp only; omega,by dsimp only; omega,by dsimp only; omega,rfl⟩)⟩
  have:q=0∨q=1:=by simp at hq; omega
  rcases this with rfl | rfl
  ·exact ⟨_,h1⟩
  ·exact ⟨_,h2⟩
 | eq h1 h2 =>
  right
  refine ⟨fun q hq=>?_,.inr (.inr ⟨by dsimp only; omega,by dsimp only; omega,by dsimp only; omega,by dsimp only; omega,by dsimp only; omega,rfl⟩)⟩
  have:q=0∨q=1:=by simp at hq; omega
  rcases this with rfl | rfl
  ·exact ⟨_,h1⟩
  ·exact ⟨_,h2⟩
 | arith o h1 h2 =>
  right
  refine ⟨fun q hq=>?_,.inr (.inr ⟨by dsimp only; omega,by dsimp only; omega,by dsimp only; omega,by dsimp only; omega,by dsimp only; omega,rfl⟩)⟩
  have:q=0∨q=1:=by simp at hq; omega
  rcases this with rfl | rfl
  ·exact ⟨_,h1⟩
  ·exact ⟨_,h2⟩
theorem zm (fu:Nat) (rf:∀ (m:Machine) (t:Term),t.depth≤fu∧(t.pP)→iU Tryz.prog 135 [av [mS ah.cells m.fD],av t.cells] [] (.ef [av ((ae fu m t).1).cells,lv cM ((ae fu m t).2)]) []) (m:Machine) (t:Term) (hm:t.depth≤fu+1) (ht:t.pP):(dE (ae fu) (fun m t=>t.depth≤fu∧(t.pP)) rf m t).bE (fun _=>True):=by
 refine Sk.bm _ ?_
 unfold dE
 simp only [Sk.j2,Sk.aU,reduceCtorEq,ON,kk,kp,wE,xG,pQ,qF,maxLen]
 obtain ⟨⟨k,hk⟩,h8⟩:=ht
 have Lk:=hk.parts
 refine ⟨⟨fun _=>by simp_all,fun _=>by simp_all⟩,fun b _ hb ZX=>?_⟩
 rw [hb] at ZX
 simp only [LN] at ZX
 refine ⟨fun h2=>?_,fun h2=>?_⟩
 ·simp only [LN] at h2
  rcases Lk with h | h
  ·omega
  ·omega
 ·simp only [LN] at h2
  have hp:(∀ q,q < t.args.length→∃ j,pO (t.args.getD q default) j)∧((t.op=3∧t.args.length=1)∨(t.op=6∧t.args.length=3∧pO (t.args.getD 0 default) 1)∨(t.op≠0∧t.op≠1∧t.op≠2∧t.op≠3∧t.op≠6∧t.args.length=2)):=by
   rcases Lk with h | h
   ·omega
   ·exact h
  obtain ⟨hp1,hp2⟩:=hp
  have hlen:t.args.length≤3:=by omega
  have EK:∀ q,q < t.args.length→(t.args.getD q default).depth≤fu∧(t.args.getD q default).depth≤8:=fun q hq=>by have:=t.fS q hq; omega
  refine ⟨⟨by omega,by omega,by omega⟩,fun _=>⟨⟨by omega,by omega,by omega⟩,fun _=>⟨⟨⟨by simp,by simp,by omega,fun q hq=>absurd hq (by omega)⟩,fun i hi hl=>⟨fun hc=>⟨⟨by omega,of_decide_eq_true hc⟩,fun _=>⟨⟨⟨?_,?_⟩,fun x hx=>⟨⟨by omega,?_⟩,?_,⟨by omega,?_⟩,?_⟩⟩,fun x hx=>⟨by simp,by simp,fun _=>⟨?_,⟨⟨by simp [hi.1],by simp [hi.2.1],?_,fun q hq=>?_⟩,?_⟩⟩⟩⟩⟩,fun hc=>⟨hi.1,hi.2.1,fun q hq=>hi.2.2.2 q (by simp only [LN] at hc; omega)⟩⟩⟩,fun b hb=>?_⟩⟩⟩
  all_goals (try simp only [LN] at hc)
  ·exact (EK _ (by omega)).1
  ·exact ⟨hp1 _ (by omega),(EK _ (by omega)).2⟩
  ·omega
  ·omega
  ·omega
  ·omega
  ·exact az (by omega) (by omega)
  ·omega
  ·by_cases e:q=i.2.2
   ·subst e
    subst hx
    exact ⟨mV _ (by omega) _ _,mV _ (by omega) _ _⟩
   ·have:=hi.2.2.2 q (by omega)
    rw [← this.1,← this.2]
    exact ⟨mW _ e _ _,mW _ e _ _⟩
  ·omega
  ·refine ⟨⟨fun _=>⟨by omega,by omega⟩,fun _=>by omega⟩,fun _=>⟨fun h6=>?_,fun _=>⟨?_,fun x _ _=>⟨?_,?_⟩⟩⟩⟩
   ·simp only [LN] at h6
    have h01:VH (b.1.getD 0 default):=by
     rw [(hb.2.2 0 (by omega)).1]
     rcases hp2 with h | h | h
     ·omega
     ·exact (Kg h.2.2 fu m (EK 0 (by omega)).1 (EK 0 (by omega)).2).1 rfl
     ·omega
    have h01:=h01 h6.2
    have hw:ar (2 - (b.1.getD 0 default).n)=2 - (b.1.getD 0 default).n:=az (by omega) (by omega)
    rw [hw]
    refine ⟨⟨by omega,by omega⟩,fun _=>⟨⟨by omega,by omega⟩,by omega,⟨by omega,by omega⟩,by omega⟩⟩
   ·omega
   ·omega
   ·intro q hq
    rw [hb.2.1] at hq
    rw [(hb.2.2 q hq).2]
    obtain ⟨j,hj⟩:=hp1 q hq
    have:=(Kg hj fu m (EK q hq).1 (EK q hq).2).2
    have h3:(3:Nat) ^ (t.args.getD q default).depth≤3 ^ 8:=Nat.pow_le_pow_right (by omega) (EK q hq).2
    have:(3:Nat) ^ 8=6561:=by decide
    omega
theorem xJ (fu:Nat) (rp:Machine→Term→Prop) (rf:∀ (m:Machine) (t:Term),rp m t→iU Tryz.prog 135 [av [mS ah.cells m.fD],av t.cells] [] (.ef [av ((ae fu m t).1).cells,lv cM ((ae fu m t).2)]) []) (m:Machine) (t:Term):(dE (ae fu) rp rf m t).val=ae (fu+1) m t:=by kernel_rfl
theorem xK (fu:Nat):∀ (m:Machine) (t:Term),t.depth≤fu→t.pP→iU Tryz.prog 135 [av [mS ah.cells m.fD],av t.cells] [] (.ef [av ((ae fu m t).1).cells,lv cM ((ae fu m t).2)]) []:=by
 induction fu with
 | zero=>intro m t hm h0; exact absurd hm (by have:=Term.fK t; omega)
 | succ fu ih =>
  intro m t hm h0
  have h:iU Tryz.prog 135 [av [mS ah.cells m.fD],av t.cells] [] (.ef [av (((dE (ae fu) (fun m t=>t.depth≤fu∧(t.pP)) (fun m t h=>ih m t h.1 h.2) m t).val).1).cells,lv cM (((dE (ae fu) (fun m t=>t.depth≤fu∧(t.pP)) (fun m t h=>ih m t h.1 h.2) m t).val).2)]) []:=iU.sk tok mixed (fun x=>.ef [av x.1.cells,lv cM x.2]) (fun _=>[]) Tryz.func135 rfl (by kernel_rfl) 3000 (dE (ae fu) (fun m t=>t.depth≤fu∧(t.pP)) (fun m t h=>ih m t h.1 h.2) m t) (by kernel_rfl) (zm fu _ m t hm h0)
  rw [xJ] at h
  exact h
def ov (m:Machine) (t:Term):ah × (List Int):=ae (t.depth) m t
theorem zn (m:Machine) (t:Term) (ht:t.pP):iU Tryz.prog 135 [av [mS ah.cells m.fD],av t.cells] [] (.ef [av ((ov m t).1).cells,lv cM ((ov m t).2)]) []:=xK _ m t (Nat.le_refl _) ht
def rW (m:Machine) (t:Term):eo (ah × (List Int)):=⟨Tryz.prog,135,[av [mS ah.cells m.fD],av t.cells],fun x=>.ef [av x.1.cells,lv cM x.2],false,ov m t,(t.pP),fun h=>zn m t h,fun _=>True,trivial⟩
def qM (t:Term) (cells:List ah):Sk (ah) :=
 .r 1 ((qL t).c) fun x1 =>
 .br (x1.2 != 0)
 (.fin ({ known:=false,n:=0 }:ah))
 (.r 4 ((rW ({ fD:=cells }:Machine) t).c) fun x2 =>
 .fin x2.1)
def oz t cells:=(qM t cells).val
theorem Ll (t:Term) (cells:List ah):(qM t cells).bE (fun _=>True):=by
 refine Sk.bm _ ?_
 unfold qM
 simp only [Sk.j2,Sk.aU,reduceCtorEq,ON,kk,kp,qL,rW,maxLen]
 intro x _ h hc
 simp only [LN] at hc
 exact ⟨⟨_,(h hc).1⟩,(h hc).2⟩
def D0 t cells:=kk tok mixed Tryz.func95 [av t.cells,lv ah.cells cells] (fun x=>av x.cells) true (qM t cells) (oz t cells) (u0 (Ll t cells))
def mo (o:Order) (ask:Int) (cells:List ah):Sk (ah × Int) :=
 .r 1 ((BA o ask).c) fun x1 =>
 .br (x1.2 != 0)
 (.fin (({ known:=false,n:=0 }:ah),x1.2))
 (.r 4 ((D0 x1.1 cells).c) fun x2 =>
 .r 5 ((jI ask).c) fun x3 =>
 .br ((x3.1 == 0)&&x2.known)
 (.fin (({ known:=x2.known,n:=eG (cp x2.n 0) 20000 }:ah),0))
 (.fin (x2,0)))
def eP o ask cells:=(mo o ask cells).val
theorem EL (o:Order) (ask:Int) (cells:List ah):(mo o ask cells).bE (fun _=>True):=by
 unfold mo
 try simp only [jI,BA,D0]
 exact mY
def xL o ask cells:=kk tok mixed Tryz.func66 [av o.cells,iv ask,lv ah.cells cells] (fun x=>.ef [av x.1.cells,iv x.2]) true (mo o ask cells) (eP o ask cells) (u0 (EL o ask cells))
def vA (r:af) (aj:Int) (aL:Int) (c_:cy):Sk (lO) :=
 .r 1 ((GS r aj aL c_).c) fun x1 =>
 .br (x1.1.order != (-1))
 (.r 3 (.au (.p (bz x1.1.order r.al.length)) ((xL (r.al.getD x1.1.order.toNat default) aL x1.2).c)) fun x2 =>
 .fin ({ cell:=x2.1,order:=x1.1.order,path:=x1.1.path,err:=x2.2 }:lO))
 (.fin x1.1)
def s7 r aj aL c_:=(vA r aj aL c_).val
theorem PS (r:af) (aj:Int) (aL:Int) (c_:cy) (hf:c_.file.Small) (hb:r.ck) (hr:r.Small):(vA r aj aL c_).bE (fun _=>True):=by
 simp only [aD.Small,af.Small,af.ck] at hf
 simp only [aD.Small,af.Small,af.ck] at hb
 simp only [aD.Small,af.Small,af.ck] at hr
 unfold vA
 try simp only [GS,xL,aD.Small,af.Small,af.ck]
 exact oj
def yG r aj aL c_:=kk tok mixed Tryz.func36 [av r.cells,iv aj,iv aL,av c_.cells] (fun x=>av x.cells) false (vA r aj aL c_) (s7 r aj aL c_) (u3 (PS r aj aL c_))
def s9 (r:af) (aj:Int) (aL:Int) (f:aD) (day:Int):Sk (lO) :=
 .r 2 (((yG r aj aL ({ file:={ f with facts:=[] },sign:=0,cF:=(-1),fL:=(-1),due:=(-1),day:=day }:cy)).zc 3 18 _ rfl ⟨_,rfl⟩).c) fun x1 =>
 .fin x1
def kR r aj aL f day:=(s9 r aj aL f day).val
theorem Ny (r:af) (aj:Int) (aL:Int) (f:aD) (day:Int) (hf:f.Small) (db:r.ck) (bG:r.Small):(s9 r aj aL f day).bE (fun _=>True):=by
 simp only [aD.Small,af.Small,af.ck] at hf
 simp only [aD.Small,af.Small,af.ck] at db
 simp only [aD.Small,af.Small,af.ck] at bG
 unfold s9
 try simp only [yG,aD.Small,af.Small,af.ck]
 exact oj
def GY r aj aL f day:=kk tok mixed Tryz.func62 [av r.cells,iv aj,iv aL,av f.cells,iv day] (fun x=>av x.cells) false (s9 r aj aL f day) (kR r aj aL f day) (u3 (Ny r aj aL f day))
def o8 (s:lO):Sk (Int) :=
 .br ((s.err != 0)||(!s.cell.known))
 (.fin (-1))
 (.fin s.cell.n)
def kS s:=(o8 s).val
theorem IU (s:lO):(o8 s).bE (fun _=>True):=by
 unfold o8
 exact mY
def BC s:=kk tok mixed Tryz.func61 [av s.cells] (fun x=>iv x) true (o8 s) (kS s) (u0 (IU s))
def lS (x_:List Int):Sk (Int) :=
 .bind false (fun _=>True)
 (.br (decide (((x_.length:Nat):Int) < 1))
 (.dead default)
 (.fin (.inr ())))
 (fun (_:Unit)=>⟨[],[]⟩) fun _ =>
 .r 3 (.p (bz (0:Int) x_.length)) fun _ =>
 .bt
 (.loop (default:Sum (Int) (Int)) (fun i3=>(1:Int)≤i3.2∧i3.2≤(x_.length:Int)) (fun i3=>((x_.length:Int) - i3.2).toNat) ((x_.getD 0 default,1):Int × Int)
 (fun (i3:Int × Int)=>⟨[(3,iv i3.1),(4,iv i3.2)],[]⟩) fun i3 =>
 .br (decide (i3.2 < ((x_.length:Nat):Int)))
 (.r 7 (.p (bz i3.2 x_.length)) fun _ =>
 .fin (.inr (eG i3.1 (x_.getD i3.2.toNat default),ar (i3.2+1))))
 (.fin (.inl (.inr i3.1))))
 (fun (b2:Int)=>⟨[(3,iv b2)],[]⟩) fun b2 =>
 .fin b2
def vB x_:=(lS x_).val
theorem IV (x_:List Int) (hx:x_.length≠0) (hl:x_.length≤1000000000):(lS x_).bE (fun _=>True):=by
 unfold lS
 exact oj
def vC x_:=kk tok mixed Tryz.func89 [lv cM x_] (fun x=>iv x) true (lS x_) (vB x_) (u2 (IV x_))
def kT (f:aD):Sk (Int) :=
 .bind true (fun b1=>b1.length≤0+f.ai.length)
 (.loop (default:Sum (Int) ((List Int))) (fun i2=>i2.2≤f.ai.length∧i2.1.length≤0+i2.2) (fun i2=>f.ai.length - i2.2) (([],0):(List Int) × Nat)
 (fun (i2:(List Int) × Nat)=>⟨[(3,ow 100002 i2.1),(16,iv (i2.2:Int))],[(100002,fg 3 1 cM i2.1)]⟩) fun i2 =>
 .lt 14 0 i2.2 f.ai.length
 (.r 5 (.p (bz (i2.2:Int) f.ai.length)) fun _ =>
 .br ((f.aA.aE.kind == 1)&&(((f.ai.getD i2.2 default).kind) == 1))
 (.r 7 (.au (.o [.dy (gr eZ [(f.ai.getD i2.2 default).day])]) (.au (.o [.dy (nY eZ i2.1 [(f.ai.getD i2.2 default).day])]) (.au (.t (eZ.sE [(f.ai.getD i2.2 default).day])) (.p (zb i2.1.length [(f.ai.getD i2.2 default).day].length 8))))) fun _ =>
 .nx 8 16 i2.2 (i2.1++[(f.ai.getD i2.2 default).day],i2.2+1))
 (.nx 8 16 i2.2 (i2.1,i2.2+1)))
 (.fin (.inl (.inr i2.1))))
 (fun (b1:(List Int))=>⟨[(3,ow 100001 b1)],[(100001,fg 3 1 cM b1)]⟩) fun b1 =>
 .bind true (fun b3=>b3.length≤b1.length+f.bo.length)
 (.loop (default:Sum (Int) ((List Int))) (fun i4=>i4.2≤f.bo.length∧i4.1.length≤b1.length+i4.2) (fun i4=>f.bo.length - i4.2) ((b1,0):(List Int) × Nat)
 (fun (i4:(List Int) × Nat)=>⟨[(3,ow 100005 i4.1),(36,iv (i4.2:Int))],[(100005,fg 3 1 cM i4.1)]⟩) fun i4 =>
 .lt 34 0 i4.2 f.bo.length
 (.r 11 (.p (bz (i4.2:Int) f.bo.length)) fun _ =>
 .br ((f.aA.aE.kind == 0)&&(((f.bo.getD i4.2 default).kind) == 2))
 (.fin (.inl (.inl ((f.bo.getD i4.2 default).day))))
 (.br ((f.aA.aE.kind == 1)&&(((f.bo.getD i4.2 default).kind) == 1))
 (.r 15 (.au (.o [.dy (gr eZ [(f.bo.getD i4.2 default).day])]) (.au (.o [.dy (nY eZ i4.1 [(f.bo.getD i4.2 default).day])]) (.au (.t (eZ.sE [(f.bo.getD i4.2 default).day])) (.p (zb i4.1.length [(f.bo.getD i4.2 default).day].length 8))))) fun _ =>
 .nx 16 36 i4.2 (i4.1++[(f.bo.getD i4.2 default).day],i4.2+1))
 (.nx 16 36 i4.2 (i4.1,i4.2+1))))
 (.fin (.inl (.inr i4.1))))
 (fun (b3:(List Int))=>⟨[(3,ow 100004 b3)],[(100004,fg 3 1 cM b3)]⟩) fun b3 =>
 .br (((b3.length:Nat):Int) == 0)
 (.fin (-1))
 (.r 19 ((vC b3).c) fun x5 =>
 .fin x5)
def pR f:=(kT f).val
theorem GZ (f:aD) (hf:f.Small):(kT f).bE (fun _=>True):=by
 simp only [aD.Small,af.Small] at hf
 unfold kT
 try simp only [vC,aD.Small,af.Small]
 exact oj
def zC f:=kk tok mixed Tryz.func64 [av f.cells] (fun x=>iv x) true (kT f) (pR f) (GZ f)
def kU (r:af):Sk ((List ByteArray) × (List ByteArray) × (List ByteArray)) :=
 .bind true (fun b1=>b1.length≤0+r.aC.length)
 (.loop (default:Sum ((List ByteArray) × (List ByteArray) × (List ByteArray)) ((List ByteArray))) (fun i2=>i2.2≤r.aC.length∧i2.1.length≤0+i2.2) (fun i2=>r.aC.length - i2.2) (([],0):(List ByteArray) × Nat)
 (fun (i2:(List ByteArray) × Nat)=>⟨[(2,ow 100002 i2.1),(14,iv (i2.2:Int))],[(100002,fg 9 1 gV i2.1)]⟩) fun i2 =>
 .lt 12 0 i2.2 r.aC.length
 (.r 3 (.p (bz (i2.2:Int) r.aC.length)) fun _ =>
 .r 4 (.au (.o [.dy (gr tI [(r.aC.getD i2.2 default).name])]) (.au (.o [.dy (nY tI i2.1 [(r.aC.getD i2.2 default).name])]) (.au (.t (tI.sE [(r.aC.getD i2.2 default).name])) (.p (zb i2.1.length [(r.aC.getD i2.2 default).name].length 16))))) fun _ =>
 .nx 5 14 i2.2 (i2.1++[(r.aC.getD i2.2 default).name],i2.2+1))
 (.fin (.inl (.inr i2.1))))
 (fun (b1:(List ByteArray))=>⟨[(2,ow 100001 b1)],[(100001,fg 9 1 gV b1)]⟩) fun b1 =>
 .bind true (fun b3=>b3.length≤0+r.bg.length)
 (.loop (default:Sum ((List ByteArray) × (List ByteArray) × (List ByteArray)) ((List ByteArray))) (fun i4=>i4.2≤r.bg.length∧i4.1.length≤0+i4.2) (fun i4=>r.bg.length - i4.2) (([],0):(List ByteArray) × Nat)
 (fun (i4:(List ByteArray) × Nat)=>⟨[(3,ow 100005 i4.1),(27,iv (i4.2:Int))],[(100005,fg 9 1 gV i4.1)]⟩) fun i4 =>
 .lt 25 0 i4.2 r.bg.length
 (.r 8 (.p (bz (i4.2:Int) r.bg.length)) fun _ =>
 .r 9 (.au (.o [.dy (gr tI [(r.bg.getD i4.2 default).name])]) (.au (.o [.dy (nY tI i4.1 [(r.bg.getD i4.2 default).name])]) (.au (.t (tI.sE [(r.bg.getD i4.2 default).name])) (.p (zb i4.1.length [(r.bg.getD i4.2 default).name].length 16))))) fun _ =>
 .nx 10 27 i4.2 (i4.1++[(r.bg.getD i4.2 default).name],i4.2+1))
 (.fin (.inl (.inr i4.1))))
 (fun (b3:(List ByteArray))=>⟨[(3,ow 100004 b3)],[(100004,fg 9 1 gV b3)]⟩) fun b3 =>
 .bind true (fun b5=>b5.length≤0+r.al.length)
 (.loop (default:Sum ((List ByteArray) × (List ByteArray) × (List ByteArray)) ((List ByteArray))) (fun i6=>i6.2≤r.al.length∧i6.1.length≤0+i6.2) (fun i6=>r.al.length - i6.2) (([],0):(List ByteArray) × Nat)
 (fun (i6:(List ByteArray) × Nat)=>⟨[(4,ow 100008 i6.1),(40,iv (i6.2:Int))],[(100008,fg 9 1 gV i6.1)]⟩) fun i6 =>
 .lt 38 0 i6.2 r.al.length
 (.r 13 (.p (bz (i6.2:Int) r.al.length)) fun _ =>
 .r 14 (.au (.o [.dy (gr tI [(r.al.getD i6.2 default).name])]) (.au (.o [.dy (nY tI i6.1 [(r.al.getD i6.2 default).name])]) (.au (.t (tI.sE [(r.al.getD i6.2 default).name])) (.p (zb i6.1.length [(r.al.getD i6.2 default).name].length 16))))) fun _ =>
 .nx 15 40 i6.2 (i6.1++[(r.al.getD i6.2 default).name],i6.2+1))
 (.fin (.inl (.inr i6.1))))
 (fun (b5:(List ByteArray))=>⟨[(4,ow 100007 b5)],[(100007,fg 9 1 gV b5)]⟩) fun b5 =>
 .fin (b1,b3,b5)
def Nz r:=(kU r).val
theorem EM (r:af):(kU r).dz (fun (x:(List ByteArray) × (List ByteArray) × (List ByteArray))=>x.1.length≤r.aC.length∧x.2.1.length≤r.bg.length∧x.2.2.length≤r.al.length):=by
 unfold kU
 try simp only [aD.Small,af.Small]
 exact Rg
theorem G0 (r:af) (hr:r.Small):(kU r).bE (fun _=>True):=by
 simp only [aD.Small,af.Small] at hr
 unfold kU
 try simp only [aD.Small,af.Small]
 exact oj
def tT r:=kp tok mixed Tryz.func109 [av r.cells] (fun x=>.ef [lv gV x.1,lv gV x.2.1,lv gV x.2.2]) false (Nz r) (G0 r) (EM r)
def mq (s:ByteArray):Sk (Bool) :=
 .br ((s.toList == (⟨#[]⟩:ByteArray).toList)||(decide (((s.size:Nat):Int) > 20)))
 (.fin false)
 (.r 3 (.au (.o [.dy (YE s)]) (.p (s.size≤maxLen))) fun _ =>
 .bt
 (.loop (default:Sum (Bool) (Unit)) (fun i2=>i2≤(lJ s).length) (fun i2=>(lJ s).length - i2) (0:Nat)
 (fun (i2:Nat)=>⟨[(16,iv (i2:Int))],[]⟩) fun i2 =>
 .lt 14 0 i2 ((lJ s).length)
 (.r 5 (.p (bz (i2:Int) ((lJ s).length))) fun _ =>
 .br ((!(((decide (((lJ s).getD i2 default)≥97))&&(decide (((lJ s).getD i2 default)≤122)))||((decide (((lJ s).getD i2 default)≥65))&&(decide (((lJ s).getD i2 default)≤90)))))&&(((i2:Int) == 0)||((((lJ s).getD i2 default) != 95)&&((decide (((lJ s).getD i2 default) < 48))||(decide (((lJ s).getD i2 default) > 57))))))
 (.fin (.inl (.inl false)))
 (.nx 9 16 i2 (i2+1)))
 (.fin (.inl (.inr ()))))
 (fun (_:Unit)=>⟨[],[]⟩) fun _ =>
 .fin true)
def Lm s:=(mq s).val
theorem EN (s:ByteArray):(mq s).bE (fun _=>True):=by
 unfold mq
 exact oj
def xM s:=kk tok mixed Tryz.func179 [sv s] (fun x=>bv x) true (mq s) (Lm s) (u0 (EN s))
def jn (s:List ByteArray) (v:ByteArray):Sk (Int) :=
 .bind true (fun b1=>∀ q,q < s.length→((s.getD q default).toList == v.toList)=false)
 (.loop (default:Sum (Int) (Unit)) (fun i2=>∀ q,q < i2→((s.getD q default).toList == v.toList)=false) (fun i2=>s.length - i2) (0:Nat)
 (fun (i2:Nat)=>⟨[(8,iv (i2:Int))],[]⟩) fun i2 =>
 .lt 0 0 i2 s.length
 (.r 4 (.p (bz (i2:Int) s.length)) fun _ =>
 .br (v.toList == (s.getD i2 default).toList)
 (.fin (.inl (.inl (i2:Int))))
 (.nx 6 8 i2 (i2+1)))
 (.fin (.inl (.inr ()))))
 (fun (_:Unit)=>⟨[],[]⟩) fun _ =>
 .fin (-1)
def IW s v:=(jn s v).val
theorem BD (s:List ByteArray) (v:ByteArray):(jn s v).dz (fun (x:Int)=>(x = -1∧∀ q,q < s.length→((s.getD q default).toList == v.toList)=false)∨(0≤x∧x < s.length∧((s.getD x.toNat default).toList == v.toList)=true∧∀ q,(q:Nat) < x.toNat→((s.getD q default).toList == v.toList)=false)):=by
 unfold jn
 exact Rg
theorem Dd (s:List ByteArray) (v:ByteArray):(jn s v).bE (fun _=>True):=by
 unfold jn
 exact oj
def qo s v:=kp tok mixed Tryz.func203 [lv gV s,sv v] (fun x=>iv x) true (IW s v) (u0 (Dd s v)) (BD s v)
def gj (s:List ByteArray) (v:ByteArray):Sk (Bool) :=
 .r 1 ((qo s v).c) fun x1 =>
 .fin (decide (x1≥0))
def De s v:=(gj s v).val
theorem xN (s:List ByteArray) (v:ByteArray):(gj s v).dz (fun (x:Bool)=>(x=true↔∃ q,q < s.length∧((s.getD q default).toList == v.toList)=true)):=by
 unfold gj
 try simp only [qo]
 exact Rg
theorem zo (s:List ByteArray) (v:ByteArray):(gj s v).bE (fun _=>True):=by
 unfold gj
 try simp only [qo]
 exact mY
def rX s v:=kp tok mixed Tryz.func180 [lv gV s,sv v] (fun x=>bv x) true (De s v) (u0 (zo s v)) (xN s v)
def nw (names:List ByteArray) (i:Int):Sk (Int) :=
 .r 1 (.au (.p (bz i names.length)) ((xM (names.getD i.toNat default)).c)) fun x1 =>
 .br (!x1)
 (.fin 2)
 (.r 3 (.au (.au (.o [.dy (Uv tI names 0 i.toNat)]) (.pt (0≤i∧i≤((names.length:Nat):Int)) (tI.lens names))) (.au (.p (bz i names.length)) ((rX (fI names 0 i.toNat) (names.getD i.toNat default)).c))) fun x2 =>
 .br x2
 (.fin 5)
 (.fin 0))
def NA names i:=(nw names i).val
theorem G1 (names:List ByteArray) (i:Int) (hi:0≤i∧i < (names.length:Int)):(nw names i).bE (fun _=>True):=by
 unfold nw
 try simp only [xM,rX]
 exact oj
def gw names i:=kk tok mixed Tryz.func151 [lv gV names,iv i] (fun x=>iv x) true (nw names i) (NA names i) (G1 names i)
def kz (p:Int):Sk (Bool) :=
 .fin true
def xO p:=(kz p).val
theorem BE (p:Int):xO p=true:=rfl
theorem BF (p:Int):(kz p).bE (fun _=>True):=by
 unfold kz
 exact mY
def uM p:=kk tok mixed Tryz.func111 [iv p] (fun x=>bv x) true (kz p) (xO p) (u0 (BF p))
def kA (names:List ByteArray) (fi:Int):Sk (Int) :=
 .br (decide (((names.length:Nat):Int) > fi))
 (.fin 6)
 (.bt
 (.loop (default:Sum (Int) (Unit)) (fun i2=>i2≤names.length) (fun i2=>names.length - i2) (0:Nat)
 (fun (i2:Nat)=>⟨[(15,iv (i2:Int))],[]⟩) fun i2 =>
 .lt 0 0 i2 names.length
 (.r 6 ((gw names (i2:Int)).c) fun x3 =>
 .br (x3 != 0)
 (.fin (.inl (.inl x3)))
 (.r 9 ((uM (i2:Int)).c) fun x4 =>
 .br (!x4)
 (.fin (.inl (.inl 1)))
 (.nx 11 15 i2 (i2+1))))
 (.fin (.inl (.inr ()))))
 (fun (_:Unit)=>⟨[],[]⟩) fun _ =>
 .fin 0)
def G2 names fi:=(kA names fi).val
theorem BG (names:List ByteArray) (fi:Int):(kA names fi).bE (fun _=>True):=by
 unfold kA
 try simp only [uM,gw,BE]
 exact qJ
def oA names fi:=kk tok mixed Tryz.func110 [lv gV names,iv fi,.fn 111 []] (fun x=>iv x) true (kA names fi) (G2 names fi) (u0 (BG names fi))
def mu (l:List Int) (low:Int) (high:Int):Sk (Bool) :=
 .bt
 (.loop (default:Sum (Bool) (Unit)) (fun i2=>i2≤l.length) (fun i2=>l.length - i2) (0:Nat)
 (fun (i2:Nat)=>⟨[(11,iv (i2:Int))],[]⟩) fun i2 =>
 .lt 0 0 i2 l.length
 (.r 3 (.p (bz (i2:Int) l.length)) fun _ =>
 .r 4 (.wh ((decide ((l.getD i2 default) < low))||(decide ((l.getD i2 default) > high))) false (.wh (decide ((i2:Int) > 0)) true (.p (bz (ar ((i2:Int) - 1)) l.length)))) fun _ =>
 .br (((decide ((l.getD i2 default) < low))||(decide ((l.getD i2 default) > high)))||((decide ((i2:Int) > 0))&&(decide ((l.getD i2 default)≤(l.getD ((ar ((i2:Int) - 1)).toNat) default)))))
 (.fin (.inl (.inl false)))
 (.nx 6 11 i2 (i2+1)))
 (.fin (.inl (.inr ()))))
 (fun (_:Unit)=>⟨[],[]⟩) fun _ =>
 .fin true
def Ln l low high:=(mu l low high).val
theorem EO (l:List Int) (low:Int) (high:Int):(mu l low high).bE (fun _=>True):=by
 unfold mu
 exact oj
def gL l low high:=kk tok mixed Tryz.func152 [lv cM l,iv low,iv high] (fun x=>bv x) true (mu l low high) (Ln l low high) (u0 (EO l low high))
def o9 (r:af) (c_:dL):Sk (Bool) :=
 .bt
 (.loop (default:Sum (Bool) (Unit)) (fun i2=>i2≤c_.dM.length) (fun i2=>c_.dM.length - i2) (0:Nat)
 (fun (i2:Nat)=>⟨[(10,iv (i2:Int))],[]⟩) fun i2 =>
 .lt 8 0 i2 c_.dM.length
 (.r 3 (.p (bz (i2:Int) c_.dM.length)) fun _ =>
 .r 4 (.au (.p ((100:Int)≠0)) (.wh (decide (((c_.dM.getD i2 default).tmod 100) < 1)) false (.p ((100:Int)≠0)))) fun _ =>
 .br ((decide (((c_.dM.getD i2 default).tmod 100) < 1))||(decide (((c_.dM.getD i2 default).tmod 100) > 31)))
 (.fin (.inl (.inl false)))
 (.nx 6 10 i2 (i2+1)))
 (.fin (.inl (.inr ()))))
 (fun (_:Unit)=>⟨[],[]⟩) fun _ =>
 .r 7 (.dep (.wh ((decide (((c_.dM.length:Nat):Int) > 60))||(decide (((c_.shut.length:Nat):Int) > 200))) false ((ct c_.order ((r.al.length:Nat):Int)).c)) fun x3=>.wh (((decide (((c_.dM.length:Nat):Int) > 60))||(decide (((c_.shut.length:Nat):Int) > 200)))||(!x3)) false ((ct c_.aq ((r.aX.length:Nat):Int)).c)) fun p9 =>
 .br ((((decide (((c_.dM.length:Nat):Int) > 60))||(decide (((c_.shut.length:Nat):Int) > 200)))||(!p9.1))||(!p9.2))
 (.fin false)
 (.r 9 (.dep ((gL c_.rest 0 6).c) fun x5=>.dep (.wh x5 true ((gL c_.dM 101 1231).c)) fun x6=>.wh (x5&&x6) true ((gL c_.shut 0 100000).c)) fun p8 =>
 .fin ((p8.1&&p8.2.1)&&p8.2.2))
def PT r c_:=(o9 r c_).val
theorem IX (r:af) (c_:dL):(o9 r c_).bE (fun _=>True):=by
 unfold o9
 try simp only [ct,gL,ij]
 exact qJ
def BH r c_:=kk tok mixed Tryz.func113 [av r.cells,av c_.cells] (fun x=>bv x) true (o9 r c_) (PT r c_) (u0 (IX r c_))
def kB (i:Int) (v:af):Sk (Bool) :=
 .r 1 (.au (.p (bz i v.aC.length)) ((BH v (v.aC.getD i.toNat default)).c)) fun x1 =>
 .fin x1
def G3 i v:=(kB i v).val
theorem BI (i:Int) (v:af) (hi:0≤i∧i < (v.aC.length:Int)):(kB i v).bE (fun _=>True):=by
 unfold kB
 try simp only [BH]
 exact oj
def uN i v:=kk tok mixed Tryz.func112 [iv i,.ref v.cells] (fun x=>bv x) true (kB i v) (G3 i v) (BI i v)
def kC (names:List ByteArray) (fi:Int) (v:af):Sk (Int) :=
 .br (decide (((names.length:Nat):Int) > fi))
 (.fin 6)
 (.bt
 (.loop (default:Sum (Int) (Unit)) (fun i2=>i2≤names.length) (fun i2=>names.length - i2) (0:Nat)
 (fun (i2:Nat)=>⟨[(15,iv (i2:Int))],[]⟩) fun i2 =>
 .lt 0 0 i2 names.length
 (.r 6 ((gw names (i2:Int)).c) fun x3 =>
 .br (x3 != 0)
 (.fin (.inl (.inl x3)))
 (.r 9 ((uN (i2:Int) v).c) fun x4 =>
 .br (!x4)
 (.fin (.inl (.inl 1)))
 (.nx 11 15 i2 (i2+1))))
 (.fin (.inl (.inr ()))))
 (fun (_:Unit)=>⟨[],[]⟩) fun _ =>
 .fin 0)
def G4 names fi v:=(kC names fi v).val
theorem BJ (names:List ByteArray) (fi:Int) (v:af) (hv:names.length≤v.aC.length):(kC names fi v).bE (fun _=>True):=by
 unfold kC
 try simp only [uN,gw]
 exact oj
def oB names fi v:=kk tok mixed Tryz.func110 [lv gV names,iv fi,.fn 112 [.ref v.cells]] (fun x=>iv x) true (kC names fi v) (G4 names fi v) (BJ names fi v)
def kD (i:Int) (v:af):Sk (Bool) :=
 .r 1 (.au (.p (bz i v.bg.length)) (.dep ((ct ((v.bg.getD i.toNat default).aJ) ((v.aC.length:Nat):Int)).c) fun x1=>.au (.wh x1 true (.p (bz i v.bg.length))) (.wh x1 true ((ct ((v.bg.getD i.toNat default).group) ((v.fh.length:Nat):Int)).c)))) fun p3 =>
 .fin (p3.1&&p3.2)
def G5 i v:=(kD i v).val
theorem BK (i:Int) (v:af) (hi:0≤i∧i < (v.bg.length:Int)):(kD i v).bE (fun _=>True):=by
 unfold kD
 try simp only [ct,ij]
 exact qJ
def uO i v:=kk tok mixed Tryz.func115 [iv i,.ref v.cells] (fun x=>bv x) true (kD i v) (G5 i v) (BK i v)
def kE (names:List ByteArray) (fi:Int) (v:af):Sk (Int) :=
 .br (decide (((names.length:Nat):Int) > fi))
 (.fin 6)
 (.bt
 (.loop (default:Sum (Int) (Unit)) (fun i2=>i2≤names.length) (fun i2=>names.length - i2) (0:Nat)
 (fun (i2:Nat)=>⟨[(15,iv (i2:Int))],[]⟩) fun i2 =>
 .lt 0 0 i2 names.length
 (.r 6 ((gw names (i2:Int)).c) fun x3 =>
 .br (x3 != 0)
 (.fin (.inl (.inl x3)))
 (.r 9 ((uO (i2:Int) v).c) fun x4 =>
 .br (!x4)
 (.fin (.inl (.inl 1)))
 (.nx 11 15 i2 (i2+1))))
 (.fin (.inl (.inr ()))))
 (fun (_:Unit)=>⟨[],[]⟩) fun _ =>
 .fin 0)
def G6 names fi v:=(kE names fi v).val
theorem BL (names:List ByteArray) (fi:Int) (v:af) (hv:names.length≤v.bg.length):(kE names fi v).bE (fun _=>True):=by
 unfold kE
 try simp only [uO,gw]
 exact oj
def oC names fi v:=kk tok mixed Tryz.func110 [lv gV names,iv fi,.fn 115 [.ref v.cells]] (fun x=>iv x) true (kE names fi v) (G6 names fi v) (BL names fi v)
def ny (o:Order):Sk (Bool) :=
 .bind true (fun b1=>b1.length≤0+o.aF.length)
 (.loop (default:Sum (Bool) ((List Int))) (fun i2=>i2.2≤o.aF.length∧i2.1.length≤0+i2.2) (fun i2=>o.aF.length - i2.2) (([],0):(List Int) × Nat)
 (fun (i2:(List Int) × Nat)=>⟨[(3,ow 100002 i2.1),(12,iv (i2.2:Int))],[(100002,fg 3 1 cM i2.1)]⟩) fun i2 =>
 .lt 10 0 i2.2 o.aF.length
 (.r 4 (.p (bz (i2.2:Int) o.aF.length)) fun _ =>
 .r 5 (.au (.o [.dy (gr eZ [(o.aF.getD i2.2 default).ask])]) (.au (.o [.dy (nY eZ i2.1 [(o.aF.getD i2.2 default).ask])]) (.au (.t (eZ.sE [(o.aF.getD i2.2 default).ask])) (.p (zb i2.1.length [(o.aF.getD i2.2 default).ask].length 8))))) fun _ =>
 .r 6 ((ct ((o.aF.getD i2.2 default).wA) 5).c) fun x3 =>
 .br (!x3)
 (.fin (.inl (.inl false)))
 (.nx 8 12 i2.2 (i2.1++[(o.aF.getD i2.2 default).ask],i2.2+1)))
 (.fin (.inl (.inr i2.1))))
 (fun (b1:(List Int))=>⟨[(3,ow 100001 b1)],[(100001,fg 3 1 cM b1)]⟩) fun b1 =>
 .bind true (fun b4=>b4.length≤0+o.rules.length)
 (.loop (default:Sum (Bool) ((List Int))) (fun i5=>i5.2≤o.rules.length∧i5.1.length≤0+i5.2) (fun i5=>o.rules.length - i5.2) (([],0):(List Int) × Nat)
 (fun (i5:(List Int) × Nat)=>⟨[(4,ow 100005 i5.1),(29,iv (i5.2:Int))],[(100005,fg 3 1 cM i5.1)]⟩) fun i5 =>
 .lt 27 0 i5.2 o.rules.length
 (.r 11 (.p (bz (i5.2:Int) o.rules.length)) fun _ =>
 .r 12 (.au (.o [.dy (gr eZ [(o.rules.getD i5.2 default).ask])]) (.au (.o [.dy (nY eZ i5.1 [(o.rules.getD i5.2 default).ask])]) (.au (.t (eZ.sE [(o.rules.getD i5.2 default).ask])) (.p (zb i5.1.length [(o.rules.getD i5.2 default).ask].length 8))))) fun _ =>
 .nx 13 29 i5.2 (i5.1++[(o.rules.getD i5.2 default).ask],i5.2+1))
 (.fin (.inl (.inr i5.1))))
 (fun (b4:(List Int))=>⟨[(4,ow 100004 b4)],[(100004,fg 3 1 cM b4)]⟩) fun b4 =>
 .r 14 (.dep ((gL b1 0 21).c) fun x6=>.wh x6 true ((gL b4 0 21).c)) fun p8 =>
 .fin (p8.1&&p8.2)
def NB o:=(ny o).val
theorem G7 (o:Order) (ho:o.aF.length≤1000000∧o.rules.length≤1000000):(ny o).bE (fun _=>True):=by
 unfold ny
 try simp only [ct,gL,ij]
 exact qJ
def zD o:=kk tok mixed Tryz.func117 [av o.cells] (fun x=>bv x) true (ny o) (NB o) (G7 o)
def kF (i:Int) (v:af):Sk (Bool) :=
 .r 1 (.au (.p (bz i v.al.length)) ((zD (v.al.getD i.toNat default)).c)) fun x1 =>
 .fin x1
def G8 i v:=(kF i v).val
theorem BM (i:Int) (v:af) (hi:0≤i∧i < (v.al.length:Int)) (hv:v.Small):(kF i v).bE (fun _=>True):=by
 simp only [aD.Small,af.Small] at hv
 unfold kF
 try simp only [zD,aD.Small,af.Small]
 exact oj
def uP i v:=kk tok mixed Tryz.func116 [iv i,.ref v.cells] (fun x=>bv x) true (kF i v) (G8 i v) (u2 (BM i v))
def kG (names:List ByteArray) (fi:Int) (v:af):Sk (Int) :=
 .br (decide (((names.length:Nat):Int) > fi))
 (.fin 6)
 (.bt
 (.loop (default:Sum (Int) (Unit)) (fun i2=>i2≤names.length) (fun i2=>names.length - i2) (0:Nat)
 (fun (i2:Nat)=>⟨[(15,iv (i2:Int))],[]⟩) fun i2 =>
 .lt 0 0 i2 names.length
 (.r 6 ((gw names (i2:Int)).c) fun x3 =>
 .br (x3 != 0)
 (.fin (.inl (.inl x3)))
 (.r 9 ((uP (i2:Int) v).c) fun x4 =>
 .br (!x4)
 (.fin (.inl (.inl 1)))
 (.nx 11 15 i2 (i2+1))))
 (.fin (.inl (.inr ()))))
 (fun (_:Unit)=>⟨[],[]⟩) fun _ =>
 .fin 0)
def G9 names fi v:=(kG names fi v).val
theorem BN (names:List ByteArray) (fi:Int) (v:af) (hv:names.length≤v.al.length) (hs:v.Small):(kG names fi v).bE (fun _=>True):=by
 simp only [aD.Small,af.Small] at hs
 unfold kG
 try simp only [uP,gw,aD.Small,af.Small]
 exact oj
def oD names fi v:=kk tok mixed Tryz.func110 [lv gV names,iv fi,.fn 116 [.ref v.cells]] (fun x=>iv x) true (kG names fi v) (G9 names fi v) (u2 (BN names fi v))
def lz (r:af):Sk (Int) :=
 .br (decide (((r.aM.length:Nat):Int) > 100))
 (.fin 6)
 (.bt
 (.loop (default:Sum (Int) (Unit)) (fun i2=>i2≤r.aM.length) (fun i2=>r.aM.length - i2) (0:Nat)
 (fun (i2:Nat)=>⟨[(14,iv (i2:Int))],[]⟩) fun i2 =>
 .lt 12 0 i2 r.aM.length
 (.bt
 (.r 5 (.p (bz (i2:Int) r.aM.length)) fun _ =>
 .r 6 (.dep ((ct ((r.aM.getD i2 default).from_) ((r.aC.length:Nat):Int)).c) fun x4=>.wh (!x4) false ((ct ((r.aM.getD i2 default).bZ) ((r.aC.length:Nat):Int)).c)) fun p8 =>
 .br ((((!p8.1)||(!p8.2))||(decide (((r.aM.getD i2 default).days) < 1)))||(decide (((r.aM.getD i2 default).days) > 20000)))
 (.fin (.inl (.inl (.inl 1))))
 (.r 8 (.au (.o [.dy (Uv dh.E r.aM 0 i2)]) (.pt (0≤(i2:Int)∧(i2:Int)≤((r.aM.length:Nat):Int)) (dh.E.lens r.aM))) fun _ =>
 .bt
 (.loop (default:Sum (Sum (Sum (Sum (Int) (Unit)) (Nat)) (Int × Int × dh × Int × (List dL) × Int × Bool × Bool × Bool × Bool × Bool × Bool × Bool × Bool × (List dh) × Int × (List dh) × Int × Int × Bool)) (Int × Bool)) (fun i7=>i7≤(fI r.aM 0 i2).length) (fun i7=>(fI r.aM 0 i2).length - i7) (0:Nat)
 (fun (i7:Nat)=>⟨[(50,iv (i7:Int))],[]⟩) fun i7 =>
 .lt 48 0 i7 ((fI r.aM 0 i2).length)
 (.r 10 (.p (bz (i7:Int) ((fI r.aM 0 i2).length))) fun _ =>
 .br (((((fI r.aM 0 i2).getD i7 default).from_) == ((r.aM.getD i2 default).from_))&&((((fI r.aM 0 i2).getD i7 default).bZ) == ((r.aM.getD i2 default).bZ)))
 (.fin (.inl (.inl (.inl (.inl (.inl 5))))))
 (.nx 13 50 i7 (i7+1)))
 (.fin (.inl (.inr ((i7:Int),decide ((i7:Int) < (((fI r.aM 0 i2).length:Nat):Int)))))))
 (fun (b6:Int × Bool)=>⟨[(50,iv b6.1),(51,bv b6.2)],[]⟩) fun b6 =>
 .fin (.inr ((i2:Int),(i2:Int),r.aM.getD i2 default,(r.aM.getD i2 default).from_,r.aC,((r.aC.length:Nat):Int),p8.1,!p8.1,!p8.1,(!p8.1)||(!p8.2),(!p8.1)||(!p8.2),((!p8.1)||(!p8.2))||(decide (((r.aM.getD i2 default).days) < 1)),((!p8.1)||(!p8.2))||(decide (((r.aM.getD i2 default).days) < 1)),(((!p8.1)||(!p8.2))||(decide (((r.aM.getD i2 default).days) < 1)))||(decide (((r.aM.getD i2 default).days) > 20000)),r.aM,(i2:Int),fI r.aM 0 i2,(((fI r.aM 0 i2).length:Nat):Int),b6.1,b6.2))))
 (fun (b3:Int × Int × dh × Int × (List dL) × Int × Bool × Bool × Bool × Bool × Bool × Bool × Bool × Bool × (List dh) × Int × (List dh) × Int × Int × Bool)=>⟨[(3,iv b3.1),(16,iv b3.2.1),(18,av b3.2.2.1.cells),(20,iv b3.2.2.2.1),(22,lv dL.cells b3.2.2.2.2.1),(23,iv b3.2.2.2.2.2.1),(24,bv b3.2.2.2.2.2.2.1),(25,bv b3.2.2.2.2.2.2.2.1),(26,bv b3.2.2.2.2.2.2.2.2.1),(34,bv b3.2.2.2.2.2.2.2.2.2.1),(35,bv b3.2.2.2.2.2.2.2.2.2.2.1),(39,bv b3.2.2.2.2.2.2.2.2.2.2.2.1),(40,bv b3.2.2.2.2.2.2.2.2.2.2.2.2.1),(44,bv b3.2.2.2.2.2.2.2.2.2.2.2.2.2.1),(46,lv dh.cells b3.2.2.2.2.2.2.2.2.2.2.2.2.2.2.1),(47,iv b3.2.2.2.2.2.2.2.2.2.2.2.2.2.2.2.1),(48,lv dh.cells b3.2.2.2.2.2.2.2.2.2.2.2.2.2.2.2.2.1),(49,iv b3.2.2.2.2.2.2.2.2.2.2.2.2.2.2.2.2.2.1),(50,iv b3.2.2.2.2.2.2.2.2.2.2.2.2.2.2.2.2.2.2.1),(51,bv b3.2.2.2.2.2.2.2.2.2.2.2.2.2.2.2.2.2.2.2)],[]⟩) fun _ =>
 .nx 14 14 i2 (i2+1))
 (.fin (.inl (.inr ()))))
 (fun (_:Unit)=>⟨[],[]⟩) fun _ =>
 .fin 0)
def IY r:=(lz r).val
theorem Df (r:af):(lz r).bE (fun _=>True):=by
 unfold lz
 try simp only [ct,ij]
 exact qJ
def qp r:=kk tok mixed Tryz.func118 [av r.cells] (fun x=>iv x) true (lz r) (IY r) (u0 (Df r))
def lT (r:af):Sk (Int) :=
 .br (decide (((r.ak.length:Nat):Int) > 100))
 (.fin 6)
 (.bt
 (.loop (default:Sum (Int) (Unit)) (fun i2=>i2≤r.ak.length) (fun i2=>r.ak.length - i2) (0:Nat)
 (fun (i2:Nat)=>⟨[(14,iv (i2:Int))],[]⟩) fun i2 =>
 .lt 12 0 i2 r.ak.length
 (.r 5 (.p (bz (i2:Int) r.ak.length)) fun _ =>
 .r 6 (.dep ((ct ((r.ak.getD i2 default).from_) ((r.aX.length:Nat):Int)).c) fun x3=>.dep (.wh (!x3) false ((ct ((r.ak.getD i2 default).bZ) ((r.aX.length:Nat):Int)).c)) fun x4=>.dep (.wh (((!x3)||(!x4))||(((r.ak.getD i2 default).from_) == ((r.ak.getD i2 default).bZ))) false ((ct (ar (((r.ak.getD i2 default).num) - 1)) 1073741824).c)) fun x5=>.dep (.wh ((((!x3)||(!x4))||(((r.ak.getD i2 default).from_) == ((r.ak.getD i2 default).bZ)))||(!x5)) false ((ct (ar (((r.ak.getD i2 default).den) - 1)) 1073741824).c)) fun x6=>.wh (((((!x3)||(!x4))||(((r.ak.getD i2 default).from_) == ((r.ak.getD i2 default).bZ)))||(!x5))||(!x6)) false ((ct ((r.ak.getD i2 default).since) 100001).c)) fun p8 =>
 .br ((((((!p8.1)||(!p8.2.1))||(((r.ak.getD i2 default).from_) == ((r.ak.getD i2 default).bZ)))||(!p8.2.2.1))||(!p8.2.2.2.1))||(!p8.2.2.2.2))
 (.fin (.inl (.inl 1)))
 (.nx 8 14 i2 (i2+1)))
 (.fin (.inl (.inr ()))))
 (fun (_:Unit)=>⟨[],[]⟩) fun _ =>
 .br (decide (((r.bJ.length:Nat):Int) > 20))
 (.fin 6)
 (.bind true (fun b9=>r.ba)
 (.loop (default:Sum (Int) (Unit)) (fun i10=>(∀ i,i < i10→(r.bJ.getD i default).bZ≤100000)∧i10≤r.bJ.length) (fun i10=>r.bJ.length - i10) (0:Nat)
 (fun (i10:Nat)=>⟨[(69,iv (i10:Int))],[]⟩) fun i10 =>
 .lt 67 0 i10 r.bJ.length
 (.r 13 (.p (bz (i10:Int) r.bJ.length)) fun _ =>
 .r 14 ((ct ((r.bJ.getD i10 default).order) ((r.al.length:Nat):Int)).c) fun Ri =>
 .br ((((!Ri)||(decide (((r.bJ.getD i10 default).from_) < 0)))||(decide (((r.bJ.getD i10 default).from_) > ((r.bJ.getD i10 default).bZ))))||(decide (((r.bJ.getD i10 default).bZ) > 100000)))
 (.fin (.inl (.inl 1)))
 (.nx 16 69 i10 (i10+1)))
 (.fin (.inl (.inr ()))))
 (fun (_:Unit)=>⟨[],[]⟩) fun _ =>
 .fin 0))
def PU r:=(lT r).val
theorem Ha (r:af):(lT r).dz (fun (x:Int)=>x=0→r.ba):=by
 unfold lT
 try simp only [ct,ij,af.ba]
 exact Su
theorem IZ (r:af):(lT r).bE (fun _=>True):=by
 unfold lT
 try simp only [ct,ij,af.ba]
 exact qJ
def vD r:=kp tok mixed Tryz.func119 [av r.cells] (fun x=>iv x) true (PU r) (u0 (IZ r)) (Ha r)
def kV (r:af):Sk (Int) :=
 .r 1 ((tT r).c) fun x1 =>
 .r 2 ((oA r.aX 8).c) fun x2 =>
 .br (x2 != 0)
 (.fin x2)
 (.r 5 ((oB x1.1 40 r).c) fun x3 =>
 .br (x3 != 0)
 (.fin x3)
 (.br (decide (((r.fh.length:Nat):Int) > 20))
 (.fin 6)
 (.bt
 (.loop (default:Sum (Int) (Unit)) (fun i5=>i5≤r.fh.length) (fun i5=>r.fh.length - i5) (0:Nat)
 (fun (i5:Nat)=>⟨[(38,iv (i5:Int))],[]⟩) fun i5 =>
 .lt 36 0 i5 r.fh.length
 (.r 12 (.p (bz (i5:Int) r.fh.length)) fun _ =>
 .r 13 ((ct ((r.fh.getD i5 default).Gy) 10).c) fun x6 =>
 .br (!x6)
 (.fin (.inl (.inl 1)))
 (.nx 15 38 i5 (i5+1)))
 (.fin (.inl (.inr ()))))
 (fun (_:Unit)=>⟨[],[]⟩) fun _ =>
 .r 16 ((oC x1.2.1 200 r).c) fun x7 =>
 .br (x7 != 0)
 (.fin x7)
 (.r 19 ((oD x1.2.2 20 r).c) fun x8 =>
 .br (x8 != 0)
 (.fin x8)
 (.r 22 ((qp r).c) fun x9 =>
 .br (x9 != 0)
 (.fin x9)
 (.r 25 ((vD r).c) fun C0 =>
 .fin C0))))))
def jx r:=(kV r).val
theorem EP (r:af):(kV r).dz (fun (x:Int)=>x=0→r.ba):=by
 unfold kV
 try simp only [oA,oB,oC,oD,ct,tT,vD,qp,ij,aD.Small,af.Small,af.ba]
 exact Su
theorem Hb (r:af) (hr:r.Small):(kV r).bE (fun _=>True):=by
 simp only [aD.Small,af.Small,af.ba] at hr
 unfold kV
 try simp only [oA,oB,oC,oD,ct,tT,vD,qp,ij,aD.Small,af.Small,af.ba]
 exact qJ
def iO r:=kp tok mixed Tryz.func74 [av r.cells] (fun x=>iv x) true (jx r) (Hb r) (EP r)
def mw (r:af) (aJ:Int):Sk (Bool) :=
 .fin ((decide (aJ≥0))&&(decide (aJ < ((r.aC.length:Nat):Int))))
def nz r aJ:=(mw r aJ).val
theorem wF (r:af) (aJ:Int):nz r aJ=((decide (aJ≥0))&&(decide (aJ < ((r.aC.length:Nat):Int)))):=rfl
theorem ER (r:af) (aJ:Int):(mw r aJ).bE (fun _=>True):=by
 unfold mw
 exact mY
def nA r aJ:=kk tok mixed Tryz.func84 [av r.cells,iv aJ] (fun x=>bv x) true (mw r aJ) (nz r aJ) (u0 (ER r aJ))
def nB (n:Int):Sk (Bool) :=
 .fin ((decide (n≥0))&&(decide (n≤100000)))
def m5 n:=(nB n).val
theorem xP (n:Int):m5 n=((decide (n≥0))&&(decide (n≤100000))):=rfl
theorem Hc (n:Int):(nB n).bE (fun _=>True):=by
 unfold nB
 exact mY
def lU n:=kk tok mixed Tryz.func85 [iv n] (fun x=>bv x) true (nB n) (m5 n) (u0 (Hc n))
def my (t:mZ):Sk (Bool) :=
 .fin ((t.kind == 0)||(t.kind == 1))
def qN t:=(my t).val
theorem wG (t:mZ):qN t=((t.kind == 0)||(t.kind == 1)):=rfl
theorem ES (t:mZ):(my t).bE (fun _=>True):=by
 unfold my
 exact mY
def rY t:=kk tok mixed Tryz.func86 [av t.cells] (fun x=>bv x) true (my t) (qN t) (u0 (ES t))
def iq (day:Int):Sk (Bool) :=
 .fin ((decide ((0:Int)≤day))&&(decide (day≤100000)))
def bB day:=(iq day).val
theorem tc (day:Int):bB day=((decide ((0:Int)≤day))&&(decide (day≤100000))):=rfl
theorem BO (day:Int):(iq day).bE (fun _=>True):=by
 unfold iq
 exact mY
def fF day:=kk tok mixed Tryz.func155 [iv day] (fun x=>bv x) true (iq day) (bB day) (u0 (BO day))
theorem BP (day:Int):iU Tryz.prog 155 [iv day] [] (bv (bB day)) []:=(fF day).pf trivial
def iu (day:Int):Sk (Int × Int × Int) :=
 .r 2 (.au (.p ((146097:Int)≠0)) (.p ((146097:Int)≠0))) fun _ =>
 .r 3 (.au (.p ((1460:Int)≠0)) (.au (.p ((36524:Int)≠0)) (.au (.p ((146096:Int)≠0)) (.p ((365:Int)≠0))))) fun _ =>
 .r 4 (.au (.p ((4:Int)≠0)) (.p ((100:Int)≠0))) fun _ =>
 .r 5 (.p ((153:Int)≠0)) fun _ =>
 .r 6 (.p ((5:Int)≠0)) fun _ =>
 .bind false (fun _=>True)
 (.br (decide ((ar ((ar ((ar ((ar ((5:Int) * (ar (((ar (day+730425)).tmod 146097) - (ar ((ar ((ar ((365:Int) * (ar ((ar ((ar ((ar (((ar (day+730425)).tmod 146097) - (ar (((ar (day+730425)).tmod 146097).tdiv 1460))))+(ar (((ar (day+730425)).tmod 146097).tdiv 36524)))) - (ar (((ar (day+730425)).tmod 146097).tdiv 146096)))).tdiv 365))))+(ar ((ar ((ar ((ar ((ar (((ar (day+730425)).tmod 146097) - (ar (((ar (day+730425)).tmod 146097).tdiv 1460))))+(ar (((ar (day+730425)).tmod 146097).tdiv 36524)))) - (ar (((ar (day+730425)).tmod 146097).tdiv 146096)))).tdiv 365)).tdiv 4)))) - (ar ((ar ((ar ((ar ((ar (((ar (day+730425)).tmod 146097) - (ar (((ar (day+730425)).tmod 146097).tdiv 1460))))+(ar (((ar (day+730425)).tmod 146097).tdiv 36524)))) - (ar (((ar (day+730425)).tmod 146097).tdiv 146096)))).tdiv 365)).tdiv 100))))))))+2)).tdiv 153))+3)) > 12))
 (.fin (.inr (ar ((ar ((ar ((ar ((ar ((5:Int) * (ar (((ar (day+730425)).tmod 146097) - (ar ((ar ((ar ((365:Int) * (ar ((ar ((ar ((ar (((ar (day+730425)).tmod 146097) - (ar (((ar (day+730425)).tmod 146097).tdiv 1460))))+(ar (((ar (day+730425)).tmod 146097).tdiv 36524)))) - (ar (((ar (day+730425)).tmod 146097).tdiv 146096)))).tdiv 365))))+(ar ((ar ((ar ((ar ((ar (((ar (day+730425)).tmod 146097) - (ar (((ar (day+730425)).tmod 146097).tdiv 1460))))+(ar (((ar (day+730425)).tmod 146097).tdiv 36524)))) - (ar (((ar (day+730425)).tmod 146097).tdiv 146096)))).tdiv 365)).tdiv 4)))) - (ar ((ar ((ar ((ar ((ar (((ar (day+730425)).tmod 146097) - (ar (((ar (day+730425)).tmod 146097).tdiv 1460))))+(ar (((ar (day+730425)).tmod 146097).tdiv 36524)))) - (ar (((ar (day+730425)).tmod 146097).tdiv 146096)))).tdiv 365)).tdiv 100))))))))+2)).tdiv 153))+3)) - 12))))
 (.fin (.inr (ar ((ar ((ar ((ar ((5:Int) * (ar (((ar (day+730425)).tmod 146097) - (ar ((ar ((ar ((365:Int) * (ar ((ar ((ar ((ar (((ar (day+730425)).tmod 146097) - (ar (((ar (day+730425)).tmod 146097).tdiv 1460))))+(ar (((ar (day+730425)).tmod 146097).tdiv 36524)))) - (ar (((ar (day+730425)).tmod 146097).tdiv 146096)))).tdiv 365))))+(ar ((ar ((ar ((ar ((ar (((ar (day+730425)).tmod 146097) - (ar (((ar (day+730425)).tmod 146097).tdiv 1460))))+(ar (((ar (day+730425)).tmod 146097).tdiv 36524)))) - (ar (((ar (day+730425)).tmod 146097).tdiv 146096)))).tdiv 365)).tdiv 4)))) - (ar ((ar ((ar ((ar ((ar (((ar (day+730425)).tmod 146097) - (ar (((ar (day+730425)).tmod 146097).tdiv 1460))))+(ar (((ar (day+730425)).tmod 146097).tdiv 36524)))) - (ar (((ar (day+730425)).tmod 146097).tdiv 146096)))).tdiv 365)).tdiv 100))))))))+2)).tdiv 153))+3)))))
 (fun (b1:Int)=>⟨[(3,iv b1)],[]⟩) fun b1 =>
 .br (decide (b1 < 3))
 (.fin (ar ((ar ((ar ((ar ((ar ((ar (((ar (day+730425)).tmod 146097) - (ar (((ar (day+730425)).tmod 146097).tdiv 1460))))+(ar (((ar (day+730425)).tmod 146097).tdiv 36524)))) - (ar (((ar (day+730425)).tmod 146097).tdiv 146096)))).tdiv 365))+(ar ((400:Int) * (ar ((ar (day+730425)).tdiv 146097))))))+1),b1,ar ((ar ((ar (((ar (day+730425)).tmod 146097) - (ar ((ar ((ar ((365:Int) * (ar ((ar ((ar ((ar (((ar (day+730425)).tmod 146097) - (ar (((ar (day+730425)).tmod 146097).tdiv 1460))))+(ar (((ar (day+730425)).tmod 146097).tdiv 36524)))) - (ar (((ar (day+730425)).tmod 146097).tdiv 146096)))).tdiv 365))))+(ar ((ar ((ar ((ar ((ar (((ar (day+730425)).tmod 146097) - (ar (((ar (day+730425)).tmod 146097).tdiv 1460))))+(ar (((ar (day+730425)).tmod 146097).tdiv 36524)))) - (ar (((ar (day+730425)).tmod 146097).tdiv 146096)))).tdiv 365)).tdiv 4)))) - (ar ((ar ((ar ((ar ((ar (((ar (day+730425)).tmod 146097) - (ar (((ar (day+730425)).tmod 146097).tdiv 1460))))+(ar (((ar (day+730425)).tmod 146097).tdiv 36524)))) - (ar (((ar (day+730425)).tmod 146097).tdiv 146096)))).tdiv 365)).tdiv 100)))))) - (ar ((ar ((ar ((153:Int) * (ar ((ar ((ar ((5:Int) * (ar (((ar (day+730425)).tmod 146097) - (ar ((ar ((ar ((365:Int) * (ar ((ar ((ar ((ar (((ar (day+730425)).tmod 146097) - (ar (((ar (day+730425)).tmod 146097).tdiv 1460))))+(ar (((ar (day+730425)).tmod 146097).tdiv 36524)))) - (ar (((ar (day+730425)).tmod 146097).tdiv 146096)))).tdiv 365))))+(ar ((ar ((ar ((ar ((ar (((ar (day+730425)).tmod 146097) - (ar (((ar (day+730425)).tmod 146097).tdiv 1460))))+(ar (((ar (day+730425)).tmod 146097).tdiv 36524)))) - (ar (((ar (day+730425)).tmod 146097).tdiv 146096)))).tdiv 365)).tdiv 4)))) - (ar ((ar ((ar ((ar ((ar (((ar (day+730425)).tmod 146097) - (ar (((ar (day+730425)).tmod 146097).tdiv 1460))))+(ar (((ar (day+730425)).tmod 146097).tdiv 36524)))) - (ar (((ar (day+730425)).tmod 146097).tdiv 146096)))).tdiv 365)).tdiv 100))))))))+2)).tdiv 153))))+2)).tdiv 5))))+1)))
 (.fin (ar ((ar ((ar ((ar ((ar (((ar (day+730425)).tmod 146097) - (ar (((ar (day+730425)).tmod 146097).tdiv 1460))))+(ar (((ar (day+730425)).tmod 146097).tdiv 36524)))) - (ar (((ar (day+730425)).tmod 146097).tdiv 146096)))).tdiv 365))+(ar ((400:Int) * (ar ((ar (day+730425)).tdiv 146097))))),b1,ar ((ar ((ar (((ar (day+730425)).tmod 146097) - (ar ((ar ((ar ((365:Int) * (ar ((ar ((ar ((ar (((ar (day+730425)).tmod 146097) - (ar (((ar (day+730425)).tmod 146097).tdiv 1460))))+(ar (((ar (day+730425)).tmod 146097).tdiv 36524)))) - (ar (((ar (day+730425)).tmod 146097).tdiv 146096)))).tdiv 365))))+(ar ((ar ((ar ((ar ((ar (((ar (day+730425)).tmod 146097) - (ar (((ar (day+730425)).tmod 146097).tdiv 1460))))+(ar (((ar (day+730425)).tmod 146097).tdiv 36524)))) - (ar (((ar (day+730425)).tmod 146097).tdiv 146096)))).tdiv 365)).tdiv 4)))) - (ar ((ar ((ar ((ar ((ar (((ar (day+730425)).tmod 146097) - (ar (((ar (day+730425)).tmod 146097).tdiv 1460))))+(ar (((ar (day+730425)).tmod 146097).tdiv 36524)))) - (ar (((ar (day+730425)).tmod 146097).tdiv 146096)))).tdiv 365)).tdiv 100)))))) - (ar ((ar ((ar ((153:Int) * (ar ((ar ((ar ((5:Int) * (ar (((ar (day+730425)).tmod 146097) - (ar ((ar ((ar ((365:Int) * (ar ((ar ((ar ((ar (((ar (day+730425)).tmod 146097) - (ar (((ar (day+730425)).tmod 146097).tdiv 1460))))+(ar (((ar (day+730425)).tmod 146097).tdiv 36524)))) - (ar (((ar (day+730425)).tmod 146097).tdiv 146096)))).tdiv 365))))+(ar ((ar ((ar ((ar ((ar (((ar (day+730425)).tmod 146097) - (ar (((ar (day+730425)).tmod 146097).tdiv 1460))))+(ar (((ar (day+730425)).tmod 146097).tdiv 36524)))) - (ar (((ar (day+730425)).tmod 146097).tdiv 146096)))).tdiv 365)).tdiv 4)))) - (ar ((ar ((ar ((ar ((ar (((ar (day+730425)).tmod 146097) - (ar (((ar (day+730425)).tmod 146097).tdiv 1460))))+(ar (((ar (day+730425)).tmod 146097).tdiv 36524)))) - (ar (((ar (day+730425)).tmod 146097).tdiv 146096)))).tdiv 365)).tdiv 100))))))))+2)).tdiv 153))))+2)).tdiv 5))))+1)))
def bC day:=(iu day).val
theorem BQ (day:Int):(iu day).bE (fun _=>True):=by
 unfold iu
 exact oj
def jo day:=kk tok mixed Tryz.func181 [iv day] (fun x=>.ef [iv x.1,iv x.2.1,iv x.2.2]) true (iu day) (bC day) (u0 (BQ day))
def gM (year:Int) (month:Int) (qh:Int):Sk (Int) :=
 .br (decide (month < 3))
 (.r 3 (.au (.p ((4:Int)≠0)) (.au (.p ((100:Int)≠0)) (.au (.p ((400:Int)≠0)) (.p ((5:Int)≠0))))) fun _ =>
 .fin (ar ((ar ((ar ((ar ((ar ((ar ((ar ((ar ((365:Int) * (ar (year - 1))))+(ar ((ar (year - 1)).tdiv 4)))) - (ar ((ar (year - 1)).tdiv 100))))+(ar ((ar (year - 1)).tdiv 400))))+(ar ((ar ((ar ((153:Int) * (ar ((ar (month+12)) - 3))))+2)).tdiv 5))))+qh)) - 1)) - 730425)))
 (.r 3 (.au (.p ((4:Int)≠0)) (.au (.p ((100:Int)≠0)) (.au (.p ((400:Int)≠0)) (.p ((5:Int)≠0))))) fun _ =>
 .fin (ar ((ar ((ar ((ar ((ar ((ar ((ar ((ar ((365:Int) * year))+(ar (year.tdiv 4)))) - (ar (year.tdiv 100))))+(ar (year.tdiv 400))))+(ar ((ar ((ar ((153:Int) * (ar (month - 3))))+2)).tdiv 5))))+qh)) - 1)) - 730425)))
def fV year month qh:=(gM year month qh).val
theorem Ab (year:Int) (month:Int) (qh:Int):(gM year month qh).bE (fun _=>True):=by
 unfold gM
 exact oj
def iw year month qh:=kk tok mixed Tryz.func204 [iv year,iv month,iv qh] (fun x=>iv x) true (gM year month qh) (fV year month qh) (u0 (Ab year month qh))
def jM (year:Int) (month:Int):Sk (Int) :=
 .br (month == 12)
 (.fin 31)
 (.r 3 (.dep ((iw year (ar (month+1)) 1).c) fun _=>(iw year month 1).c) fun p3 =>
 .fin (ar (p3.1 - p3.2)))
def fW year month:=(jM year month).val
theorem Ac (year:Int) (month:Int):(jM year month).bE (fun _=>True):=by
 unfold jM
 try simp only [iw]
 exact mY
def iy year month:=kk tok mixed Tryz.func183 [iv year,iv month] (fun x=>iv x) true (jM year month) (fW year month) (u0 (Ac year month))
def mz (year:Int) (month:Int) (qh:Int):Sk (Int × Int) :=
 .r 1 (.wh (((((decide (year < 2000))||(decide (year > 2300)))||(decide (month < 1)))||(decide (month > 12)))||(decide (qh < 1))) false ((iy year month).c)) fun x1 =>
 .br ((((((decide (year < 2000))||(decide (year > 2300)))||(decide (month < 1)))||(decide (month > 12)))||(decide (qh < 1)))||(decide (qh > x1)))
 (.fin (0,3))
 (.r 3 ((iw year month qh).c) fun x2 =>
 .r 4 ((fF x2).c) fun x3 =>
 .br (!x3)
 (.fin (0,3))
 (.fin (x2,0)))
def nC year month qh:=(mz year month qh).val
theorem ET (year:Int) (month:Int) (qh:Int):(mz year month qh).bE (fun _=>True):=by
 unfold mz
 try simp only [iy,iw,fF,tc]
 exact qJ
def rZ year month qh:=kk tok mixed Tryz.func182 [iv year,iv month,iv qh] (fun x=>.ef [iv x.1,iv x.2]) true (mz year month qh) (nC year month qh) (u0 (ET year month qh))
def dJ (day:Int) (n:Int):Sk (Int × Int) :=
 .r 1 ((fF day).c) fun x1 =>
 .br (((!x1)||(decide (n < (-5000))))||(decide (n > 5000)))
 (.fin (0,3))
 (.r 3 ((jo day).c) fun x2 =>
 .r 5 (.au (.p ((12:Int)≠0)) (.p ((12:Int)≠0))) fun _ =>
 .r 6 (.dep ((iy (ar ((ar ((ar ((ar ((ar ((12:Int) * x2.1))+x2.2.1)) - 1))+n)).tdiv 12)) (ar (((ar ((ar ((ar ((ar ((12:Int) * x2.1))+x2.2.1)) - 1))+n)).tmod 12)+1))).c) fun x3=>(rZ (ar ((ar ((ar ((ar ((ar ((12:Int) * x2.1))+x2.2.1)) - 1))+n)).tdiv 12)) (ar (((ar ((ar ((ar ((ar ((12:Int) * x2.1))+x2.2.1)) - 1))+n)).tmod 12)+1)) (eG x2.2.2 x3)).c) fun p5 =>
 .fin (p5.2.1,p5.2.2))
def ch day n:=(dJ day n).val
theorem wR (day:Int) (n:Int):(dJ day n).bE (fun _=>True):=by
 unfold dJ
 try simp only [rZ,jo,iy,fF,tc]
 exact qJ
def pS day n:=kk tok mixed Tryz.func154 [iv day,iv n] (fun x=>.ef [iv x.1,iv x.2]) true (dJ day n) (ch day n) (u0 (wR day n))
def nE (day:Int) (t:mZ):Sk (Int × Int) :=
 .br ((decide (t.n < 0))||(decide (t.n > 20000)))
 (.fin (0,3))
 (.br (t.unit == 1)
 (.r 4 ((pS day t.n).c) fun x1 =>
 .fin (x1.1,x1.2))
 (.fin (ar (day+t.n),0)))
def NC day t:=(nE day t).val
theorem Hd (day:Int) (t:mZ):(nE day t).bE (fun _=>True):=by
 unfold nE
 try simp only [pS]
 exact mY
def tU day t:=kk tok mixed Tryz.func124 [iv day,av t.cells] (fun x=>.ef [iv x.1,iv x.2]) true (nE day t) (NC day t) (u0 (Hd day t))
def jX (r:af) (from_:Int) (bZ:Int):Sk (Int × Int) :=
 .bt
 (.loop (default:Sum (Int × Int) (Unit)) (fun i2=>i2≤r.aM.length) (fun i2=>r.aM.length - i2) (0:Nat)
 (fun (i2:Nat)=>⟨[(13,iv (i2:Int))],[]⟩) fun i2 =>
 .lt 11 0 i2 r.aM.length
 (.r 3 (.p (bz (i2:Int) r.aM.length)) fun _ =>
 .br ((((r.aM.getD i2 default).from_) == from_)&&(((r.aM.getD i2 default).bZ) == bZ))
 (.fin (.inl (.inl ((r.aM.getD i2 default).days,0))))
 (.nx 6 13 i2 (i2+1)))
 (.fin (.inl (.inr ()))))
 (fun (_:Unit)=>⟨[],[]⟩) fun _ =>
 .fin (0,4)
def cD r from_ bZ:=(jX r from_ bZ).val
theorem EU (r:af) (from_:Int) (bZ:Int):(jX r from_ bZ).bE (fun _=>True):=by
 unfold jX
 exact oj
def kW r from_ bZ:=kk tok mixed Tryz.func77 [av r.cells,iv from_,iv bZ] (fun x=>.ef [iv x.1,iv x.2]) true (jX r from_ bZ) (cD r from_ bZ) (u0 (EU r from_ bZ))
def pa (r:af) (b:jT) (seen:Int):Sk (Int × Int) :=
 .br (b.aE.kind == 0)
 (.fin (seen,0))
 (.br (b.aE.kind == 1)
 (.r 5 ((tU seen b.aE).c) fun x1 =>
 .fin (x1.1,x1.2))
 (.br (b.aE.kind == 2)
 (.r 7 ((tU b.day b.aE).c) fun x2 =>
 .fin (x2.1,x2.2))
 (.br (b.aE.kind == 4)
 (.r 9 ((kW r b.aJ b.qC).c) fun x3 =>
 .fin (ar (b.day+x3.1),x3.2))
 (.fin (b.aE.n,0)))))
def kX r b seen:=(pa r b seen).val
theorem I0 (r:af) (b:jT) (seen:Int):(pa r b seen).bE (fun _=>True):=by
 unfold pa
 try simp only [kW,tU]
 exact mY
def vE r b seen:=kk tok mixed Tryz.func87 [av r.cells,av b.cells,iv seen] (fun x=>.ef [iv x.1,iv x.2]) true (pa r b seen) (kX r b seen) (u0 (I0 r b seen))
def m6 (r:af) (o x:Int):Bool:=r.bJ.any fun h=>(h.order == o)&&(decide (h.from_≤x)&&decide (x≤h.bZ))
def sa (r:af) (o d x:Int):Prop:=d≤x∧m6 r o x=false∧∀ y,d≤y→y < x→m6 r o y=true
theorem sa.uniq {r:af} {o d x y:Int} (h:sa r o d x) (k:sa r o d y):x=y:=by
 rcases Int.lt_trichotomy x y with hl | hl | hl
 ·have:=k.2.2 x h.1 hl
  rw [h.2.1] at this; cases this
 ·exact hl
 ·have:=h.2.2 y k.1 hl
  rw [k.2.1] at this; cases this
theorem sa.back {r:af} {o d n x:Int} (h:sa r o n x) (hd:d≤n) (hh:∀ y,d≤y→y < n→m6 r o y=true):sa r o d x :=
 ⟨by have:=h.1; omega,h.2.1,fun y h1 h2=>by
  by_cases e:y < n
  ·exact hh y h1 e
  ·exact h.2.2 y (by omega) h2⟩
theorem SG {r:af} (hr:r.ba) (o:Int) {x:Int} (hx:100000 < x):m6 r o x=false:=by
 rw [m6,List.any_eq_false]
 intro h hm
 obtain ⟨i,hi,e⟩:=List.getElem_of_mem hm
 have:=hr i hi
 rw [show r.bJ.getD i default=r.bJ[i] by simp [List.getD,hi],e] at this
 simp only [Bool.and_eq_true,decide_eq_true_eq]
 omega
theorem BS {r:af} {o x:Int} {i:Nat} (hi:i < r.bJ.length) (h:(r.bJ.getD i default).order=o∧(r.bJ.getD i default).from_≤x∧x≤(r.bJ.getD i default).bZ):m6 r o x=true:=by
 rw [m6,List.any_eq_true]
 refine ⟨_,ic hi default,?_⟩
 simp only [Bool.and_eq_true,beq_iff_eq,decide_eq_true_eq]
 exact ⟨h.1,h.2⟩
theorem yH {r:af} {o x:Int} (h:∀ q,q < r.bJ.length→¬ ((r.bJ.getD q default).order=o∧(r.bJ.getD q default).from_≤x∧x≤(r.bJ.getD q default).bZ)):m6 r o x=false:=by
 rw [m6,List.any_eq_false]
 intro e hm hq
 obtain ⟨i,hi,rfl⟩:=List.getElem_of_mem hm
 have:=h i hi
 rw [show r.bJ.getD i default=r.bJ[i] by simp [List.getD,hi]] at this
 simp only [Bool.and_eq_true,decide_eq_true_eq,beq_iff_eq] at hq
 exact this ⟨hq.1,hq.2.1,hq.2.2⟩
def j9 (r:af) (order:Int) (day:Int):Sk (Int) :=
 .bind true (fun b1=>(day≤b1∧b1≤100001)∧sa r order day b1)
 (.loop (default:Sum (Int) (Int)) (fun i2=>(day≤i2.1∧i2.1≤100001)∧(∀ y,day≤y→y < i2.1→m6 r order y=true)∧(i2.2=false→m6 r order i2.1=false)) (fun i2=>2 * (100001 - i2.1).toNat+(if i2.2 then 1 else 0)) ((day,true):Int × Bool)
 (fun (i2:Int × Bool)=>⟨[(2,iv i2.1),(7,bv i2.2)],[]⟩) fun i2 =>
 .br i2.2
 (.bind true (fun b3=>i2.1≤b3.1∧b3.1≤100001∧(b3.2.1=true→i2.1 < b3.1)∧(b3.2.1=false→b3.1=i2.1)∧(∀ y,i2.1≤y→y < b3.1→m6 r order y=true)∧(b3.2.1=false→m6 r order b3.1=false))
 (.bind true (fun b4=>i2.1≤b4.1∧b4.1≤100001∧(b4.2.1=true→i2.1 < b4.1)∧(b4.2.1=false→b4.1=i2.1)∧(∀ y,i2.1≤y→y < b4.1→m6 r order y=true)∧(b4.2.1=false→m6 r order b4.1=false))
 (.loop (default:Sum (Sum (Sum (Sum (Int) (Int)) (Int × Bool)) (Int × Bool × (List Halt) × Int × Int × Bool)) (Int × Bool × Int × Bool)) (fun i5=>i5.2.2≤r.bJ.length∧i2.1≤i5.1∧i5.1≤100001∧(i5.2.1=true→i2.1 < i5.1)∧(i5.2.1=false→i5.1=i2.1)∧(∀ y,i2.1≤y→y < i5.1→m6 r order y=true)∧(i5.2.1=false→∀ q,q < i5.2.2→¬ ((r.bJ.getD q default).order=order∧(r.bJ.getD q default).from_≤i5.1∧i5.1≤(r.bJ.getD q default).bZ))) (fun i5=>r.bJ.length - i5.2.2) ((i2.1,false,0):Int × Bool × Nat)
 (fun (i5:Int × Bool × Nat)=>⟨[(2,iv i5.1),(7,bv i5.2.1),(14,iv (i5.2.2:Int))],[]⟩) fun i5 =>
 .lt 12 0 i5.2.2 r.bJ.length
 (.r 6 (.p (bz (i5.2.2:Int) r.bJ.length)) fun _ =>
 .br (((((r.bJ.getD i5.2.2 default).order) == order)&&(decide (((r.bJ.getD i5.2.2 default).from_)≤i5.1)))&&(decide (i5.1≤((r.bJ.getD i5.2.2 default).bZ))))
 (.r 9 .z fun _ =>
 .wi 14 (ar ((i5.2.2:Int)+1)) ((i5.2.2+1:Nat):Int) <|
 .fin (.inr (ar (((r.bJ.getD i5.2.2 default).bZ)+1),true,i5.2.2+1)))
 (.nx 9 14 i5.2.2 (i5.1,i5.2.1,i5.2.2+1)))
 (.fin (.inl (.inr (i5.1,i5.2.1,(i5.2.2:Int),decide ((i5.2.2:Int) < ((r.bJ.length:Nat):Int)))))))
 (fun (b4:Int × Bool × Int × Bool)=>⟨[(2,iv b4.1),(7,bv b4.2.1),(14,iv b4.2.2.1),(15,bv b4.2.2.2)],[]⟩) fun b4 =>
 .fin (.inr (b4.1,b4.2.1,r.bJ,((r.bJ.length:Nat):Int),b4.2.2.1,b4.2.2.2)))
 (fun (b3:Int × Bool × (List Halt) × Int × Int × Bool)=>⟨[(2,iv b3.1),(7,bv b3.2.1),(12,lv Halt.cells b3.2.2.1),(13,iv b3.2.2.2.1),(14,iv b3.2.2.2.2.1),(15,bv b3.2.2.2.2.2)],[]⟩) fun b3 =>
 .fin (.inr (b3.1,b3.2.1)))
 (.fin (.inl (.inr i2.1))))
 (fun (b1:Int)=>⟨[(2,iv b1)],[]⟩) fun b1 =>
 .fin b1
def He r order day:=(j9 r order day).val
theorem Hf (r:af) (order:Int) (day:Int) (hP:r.ba∧0≤day∧day≤100001):(j9 r order day).dz (fun (x:Int)=>(day≤x∧x≤100001)∧sa r order day x):=by
 refine Sk.bq _ ?_
 unfold j9
 simp only [Sk.cV,Sk.aU,reduceCtorEq,ON,kk,kp,af.ba,maxLen]
 obtain ⟨hh,hd⟩:=hP
 refine ⟨⟨⟨⟨by omega,by omega⟩,fun y a b=>by omega⟩,fun i hi=>⟨fun YW=>⟨⟨⟨⟨by omega,by omega,by omega,fun y a b=>by omega,fun q hq=>by omega⟩,fun j hj=>⟨fun hc _=>⟨fun ht _=>?_,fun ht _=>?_⟩,fun hc=>?_⟩⟩,fun b hb=>hb⟩,fun b _ hb=>?_⟩,fun YW=>?_⟩⟩,fun b hb=>hb⟩
 ·simp only [LN] at hc ht
  have h2:=hh j.2.2 (by omega)
  have hj6:=hj.2.2.2.2.2.1
  rw [az (n:=(r.bJ.getD j.2.2 default).bZ+1) (by omega) (by omega)]
  refine ⟨⟨by omega,by omega,by omega,by omega,fun y a b=>?_⟩,by omega⟩
  by_cases e:y < j.1
  ·exact hj6 y a e
  ·exact BS (i:=j.2.2) (by omega) ⟨ht.1.1,by omega,by omega⟩
 ·simp only [LN] at hc ht
  refine ⟨⟨by omega,hj.2.1,hj.2.2.1,hj.2.2.2.1,hj.2.2.2.2.1,hj.2.2.2.2.2.1,fun hf q hq=>?_⟩,by omega⟩
  rcases Nat.lt_succ_iff_lt_or_eq.1 hq with h1 | h1
  ·exact hj.2.2.2.2.2.2 hf q h1
  ·subst h1
   omega
 ·simp only [LN] at hc
  refine ⟨hj.2.1,hj.2.2.1,hj.2.2.2.1,hj.2.2.2.2.1,hj.2.2.2.2.2.1,fun hf=>?_⟩
  exact yH (fun q hq=>hj.2.2.2.2.2.2 hf q (by omega))
 ·refine ⟨⟨by omega,fun y a c=>?_,hb.2.2.2.2.2⟩,?_⟩
  ·by_cases e:y < i.1
   ·exact hi.2.1 y a e
   ·exact hb.2.2.2.2.1 y (by omega) c
  ·rw [if_pos YW]
   cases Ik:b.2.1 with
   | true=>have:=hb.2.2.1 Ik; simp only [if_true]; omega
   | false=>have:=hb.2.2.2.1 Ik; simp only [Bool.false_eq_true,if_false]; omega
 ·exact ⟨hi.1,hi.1.1,hi.2.2 YW,hi.2.1⟩
theorem EV (r:af) (order:Int) (day:Int):(fun (x:Int)=>(r.ba∧0≤day∧day≤100001)→((day≤x∧x≤100001)∧sa r order day x)) (He r order day):=fun hP=>have h:=Sk.dA _ (Hf r order day hP); h
theorem I1 (r:af) (order:Int) (day:Int) (hh:r.ba) (hd:0≤day∧day≤100001):(j9 r order day).bE (fun _=>True):=by
 simp only [af.ba] at hh
 refine Sk.bm _ ?_
 unfold j9
 simp only [Sk.j2,Sk.aU,reduceCtorEq,ON,kk,kp,af.ba,maxLen]
 refine ⟨⟨⟨by omega,by omega⟩,fun y a b=>by omega⟩,fun i hi=>⟨fun YW=>⟨⟨⟨⟨by omega,by omega,by omega,fun y a b=>by omega,fun q hq=>by omega⟩,fun j hj hl=>⟨fun hc=>⟨⟨by omega,of_decide_eq_true hc⟩,fun _=>⟨fun ht _=>?_,fun ht _=>?_⟩⟩,fun hc=>?_⟩⟩,fun b hb=>hb⟩,fun b _ hb=>?_⟩,fun YW=>?_⟩⟩
 ·simp only [LN] at hc ht
  have h2:=hh j.2.2 (by omega)
  have hj6:=hj.2.2.2.2.2.1
  rw [az (n:=(r.bJ.getD j.2.2 default).bZ+1) (by omega) (by omega)]
  refine ⟨(az (by omega) (by omega)).trans (by omega),⟨by omega,by omega,by omega,by omega,fun y a b=>?_⟩,by omega⟩
  by_cases e:y < j.1
  ·exact hj6 y a e
  ·exact BS (i:=j.2.2) (by omega) ⟨ht.1.1,by omega,by omega⟩
 ·simp only [LN] at hc ht
  refine ⟨(az (by omega) (by omega)).trans (by omega),⟨by omega,hj.2.1,hj.2.2.1,hj.2.2.2.1,hj.2.2.2.2.1,hj.2.2.2.2.2.1,fun hf q hq=>?_⟩,by omega⟩
  rcases Nat.lt_succ_iff_lt_or_eq.1 hq with h1 | h1
  ·exact hj.2.2.2.2.2.2 hf q h1
  ·subst h1
   omega
 ·simp only [LN] at hc
  refine ⟨hj.2.1,hj.2.2.1,hj.2.2.2.1,hj.2.2.2.2.1,hj.2.2.2.2.2.1,fun hf=>?_⟩
  exact yH (fun q hq=>hj.2.2.2.2.2.2 hf q (by omega))
 ·refine ⟨⟨by omega,fun y a c=>?_,hb.2.2.2.2.2⟩,?_⟩
  ·by_cases e:y < i.1
   ·exact hi.2.1 y a e
   ·exact hb.2.2.2.2.1 y (by omega) c
  ·rw [if_pos YW]
   cases Ik:b.2.1 with
   | true=>have:=hb.2.2.1 Ik; simp only [if_true]; omega
   | false=>have:=hb.2.2.2.1 Ik; simp only [Bool.false_eq_true,if_false]; omega
 ·exact ⟨hi.1,hi.1.1,hi.2.2 YW,hi.2.1⟩
def vF r order day:=kk tok mixed Tryz.func126 [av r.cells,iv order,iv day] (fun x=>iv x) true (j9 r order day) (He r order day) (u2 (I1 r order day)) (fun (x:Int)=>(r.ba∧0≤day∧day≤100001)→((day≤x∧x≤100001)∧sa r order day x)) (EV r order day)
def lA (c_:dL) (day:Int):Sk (Bool) :=
 .r 1 ((jo day).c) fun x1 =>
 .r 2 (.au (.p ((7:Int)≠0)) (.dep ((bS c_.rest ((ar (day+5)).tmod 7)).c) fun x2=>.dep (.wh (!x2) true ((bS c_.dM (ar ((ar ((100:Int) * x1.2.1))+x1.2.2))).c)) fun x3=>.wh ((!x2)&&(!x3)) true ((bS c_.shut day).c))) fun p5 =>
 .fin (((!p5.1)&&(!p5.2.1))&&(!p5.2.2))
def bM c_ day:=(lA c_ day).val
theorem Dg (c_:dL) (day:Int):(lA c_ day).bE (fun _=>True):=by
 unfold lA
 try simp only [jo,bS]
 exact oj
def EW c_ day:=kk tok mixed Tryz.func185 [av c_.cells,iv day] (fun x=>bv x) true (lA c_ day) (bM c_ day) (u0 (Dg c_ day))
theorem Dh (c_:dL) (day:Int):iU Tryz.prog 185 [av c_.cells,iv day] [] (bv (bM c_ day)) []:=(EW c_ day).pf trivial
end
end Go.Proofs.YtcpmocecjgipbaaGreatDoor
