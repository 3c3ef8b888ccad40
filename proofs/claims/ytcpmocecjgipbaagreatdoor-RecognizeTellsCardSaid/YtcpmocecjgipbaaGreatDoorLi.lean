/- Functions, as sketches. -/
import Derived.Test.YtcpmocecjgipbaaGreatDoorLh
set_option linter.unusedSimpArgs false
set_option linter.unusedVariables false
set_option maxHeartbeats 1000000
set_option maxRecDepth 100000
namespace Go.Proofs.YtcpmocecjgipbaaGreatDoor
noncomputable section
open Go Go.Av
def tz (op:Int) (l:List Int):Sk (Int × Bool) :=
 .br (op == 3)
 (.r 3 (.p (bz (0:Int) l.length)) fun _ =>
 .fin (1,(l.getD 0 default) == 1))
 (.bind false (fun _=>True)
 (.br (op == 4)
 (.fin (.inr (op == 4)))
 (.fin (.inr (op == 5))))
 (fun (b1:Bool)=>⟨[(13,bv b1)],[]⟩) fun b1 =>
 .br b1
 (.r 6 (.au (.p (bz (0:Int) l.length)) (.wh ((l.getD 0 default) == 1) true (.p (bz (1:Int) l.length)))) fun _ =>
 .fin (1,((l.getD 0 default) == 1)&&((l.getD 1 default) == 1)))
 (.br (op == 6)
 (.r 8 (.au (.p (bz (1:Int) l.length)) (.au (.p (bz (0:Int) l.length)) (.au (.wh ((l.getD 0 default) == 1) true (.p (bz (1:Int) l.length))) (.wh ((l.getD 0 default) == 1) true (.p (bz (2:Int) l.length)))))) fun _ =>
 .fin (l.getD 1 default,((l.getD 0 default) == 1)&&((l.getD 1 default) == (l.getD 2 default))))
 (.br (op == 7)
 (.r 10 (.au (.p (bz (0:Int) l.length)) (.wh ((l.getD 0 default) == 0) true (.p (bz (1:Int) l.length)))) fun _ =>
 .fin (1,((l.getD 0 default) == 0)&&((l.getD 1 default) == 0)))
 (.br (op == 8)
 (.r 12 (.au (.p (bz (0:Int) l.length)) (.p (bz (1:Int) l.length))) fun _ =>
 .fin (1,(l.getD 0 default) == (l.getD 1 default)))
 (.r 13 (.au (.p (bz (0:Int) l.length)) (.wh ((l.getD 0 default) == 0) true (.p (bz (1:Int) l.length)))) fun _ =>
 .fin (0,((l.getD 0 default) == 0)&&((l.getD 1 default) == 0)))))))
def fy op l:=(tz op l).val
theorem Oa (op:Int) (l:List Int) (ha:(op=3∧1≤l.length)∨(op=6∧3≤l.length)∨(op≠3∧op≠6∧2≤l.length)):(tz op l).bE (fun _=>True):=by
 unfold tz
 exact oj
def Ah op l:=kk tok mixed Tryz.func211 [iv op,lv cM l] (fun x=>.ef [iv x.1,bv x.2]) true (tz op l) (fy op l) (Oa op l)
def vW (rv:Term→Int × Int) (rp:Term→Prop) (rf:∀ (t:Term),rp t→iU Tryz.prog 199 [av t.cells] [] (.ef [iv ((rv t).1),iv ((rv t).2)]) []) (t:Term):eo (Int × Int):=⟨Tryz.prog,199,[av t.cells],fun x=>.ef [iv x.1,iv x.2],true,rv t,rp t,rf t,fun _=>True,trivial⟩
def gv (rv:Term→Int × Int) (rp:Term→Prop) (rf:∀ (t:Term),rp t→iU Tryz.prog 199 [av t.cells] [] (.ef [iv ((rv t).1),iv ((rv t).2)]) []) (t:Term):Sk (Int × Int) :=
 .r 1 (.o [.dy (gr eZ ([]:List Int))]) fun _ =>
 .bind true (fun b1=>b1.length≤([]:List Int).length+t.args.length)
 (.loop (default:Sum (Int × Int) ((List Int))) (fun i2=>i2.2≤t.args.length∧i2.1.length≤([]:List Int).length+i2.2) (fun i2=>t.args.length - i2.2) ((([]:List Int),0):(List Int) × Nat)
 (fun (i2:(List Int) × Nat)=>⟨[(4,ow 100002 i2.1),(5,iv (i2.2:Int))],[(100002,fg 3 1 cM i2.1)]⟩) fun i2 =>
 .lt 1 2 i2.2 t.args.length
 (.r 5 (.au (.au (.p (bz (i2.2:Int) t.args.length)) (.o [.cast 23 (Sr (Term.zY (t.args.getD i2.2 default)))])) ((vW rv rp rf (t.args.getD i2.2 default)).c)) fun x3 =>
 .br (x3.2 != 0)
 (.fin (.inl (.inl (0,x3.2))))
 (.r 8 (.au (.o [.dy (gr eZ [x3.1])]) (.au (.o [.dy (nY eZ i2.1 [x3.1])]) (.au (.t (eZ.sE [x3.1])) (.p (zb i2.1.length [x3.1].length 8))))) fun _ =>
 .nx 4 5 i2.2 (i2.1++[x3.1],i2.2+1)))
 (.fin (.inl (.inr i2.1))))
 (fun (b1:(List Int))=>⟨[(4,ow 100001 b1)],[(100001,fg 3 1 cM b1)]⟩) fun b1 =>
 .br ((decide (t.op < 0))||(decide (t.op≥14)))
 (.fin (0,1))
 (.r 11 ((yd t.op).c) fun x4 =>
 .br ((((b1.length:Nat):Int) != x4)||((decide (x4 > 0))&&(t.n != 0)))
 (.fin (0,2))
 (.br (x4 == 0)
 (.r 15 ((Ag t).c) fun x5 =>
 .fin (x5.1,x5.2))
 (.r 16 ((Ah t.op b1).c) fun x6 =>
 .br (!x6.2)
 (.fin (0,11))
 (.fin (x6.1,0)))))
def bI:Nat→Term→Int × Int
 | 0,_=>default
 | fu+1,t=>(gv (bI fu) (fun _=>False) (fun _=>fun h=>h.elim) t).val
theorem LQ (fu:Nat) (rf:∀ (t:Term),t.depth≤fu∧(rT t)→iU Tryz.prog 199 [av t.cells] [] (.ef [iv ((bI fu t).1),iv ((bI fu t).2)]) []) (t:Term) (hm:t.depth≤fu+1) (YJ:rT t):(gv (bI fu) (fun t=>t.depth≤fu∧(rT t)) rf t).bE (fun _=>True):=by
 refine Sk.bm _ ?_
 unfold gv
 simp only [Sk.j2,Sk.aU,reduceCtorEq,ON,kk,kp,yd,Ah,Ag,vW,maxLen]
 have YK:=YJ
 obtain ⟨ZI,Xj⟩:=YK
 refine fun _=>⟨⟨⟨by omega,by simp⟩,fun i hi hl=>⟨fun hc=>⟨⟨⟨by omega,of_decide_eq_true hc⟩,?_,?_⟩,fun x _ _=>⟨⟨?_,?_⟩,fun _ _=>⟨?_,⟨?_,?_⟩,?_⟩⟩⟩,fun hc=>?_⟩⟩,fun i hi Im x _ hx rA h0=>?_⟩
 rotate_right
 ·simp only [LN] at Im rA h0
  rw [hx] at rA h0
  split at rA <;> (try split at rA) <;> (try split at rA) <;> (try split at h0) <;> omega
 all_goals simp only [LN] at hc
 ·have:=t.fS i.2 (by omega); omega
 ·exact Xj i.2 (by omega)
 all_goals (try simp only [LN] at hi ⊢)
 all_goals first | omega | exact (az (by omega) (by omega)).trans (by omega)
theorem Jv (fu:Nat) (rp:Term→Prop) (rf:∀ (t:Term),rp t→iU Tryz.prog 199 [av t.cells] [] (.ef [iv ((bI fu t).1),iv ((bI fu t).2)]) []) (t:Term):(gv (bI fu) rp rf t).val=bI (fu+1) t:=by kernel_rfl
theorem Jw (fu:Nat):∀ (t:Term),t.depth≤fu→(rT t)→iU Tryz.prog 199 [av t.cells] [] (.ef [iv ((bI fu t).1),iv ((bI fu t).2)]) []:=by
 induction fu with
 | zero=>intro t hm h0; exact absurd hm (by have:=Term.fK t; omega)
 | succ fu ih =>
  intro t hm h0
  have h:iU Tryz.prog 199 [av t.cells] [] (.ef [iv (((gv (bI fu) (fun t=>t.depth≤fu∧(rT t)) (fun t h=>ih t h.1 h.2) t).val).1),iv (((gv (bI fu) (fun t=>t.depth≤fu∧(rT t)) (fun t h=>ih t h.1 h.2) t).val).2)]) []:=iU.sk tok mixed (fun x=>.ef [iv x.1,iv x.2]) (fun _=>[]) Tryz.func199 rfl (by kernel_rfl) 3000 (gv (bI fu) (fun t=>t.depth≤fu∧(rT t)) (fun t h=>ih t h.1 h.2) t) (by kernel_rfl) (LQ fu _ t hm h0)
  rw [Jv] at h
  exact h
def DD (t:Term):Int × Int:=bI (t.depth) t
theorem LR (t:Term) (YJ:rT t):iU Tryz.prog 199 [av t.cells] [] (.ef [iv ((DD t).1),iv ((DD t).2)]) []:=Jw _ t (Nat.le_refl _) YJ
def D6 (t:Term):eo (Int × Int):=⟨Tryz.prog,199,[av t.cells],fun x=>.ef [iv x.1,iv x.2],true,DD t,(rT t),fun h=>LR t h,fun _=>True,trivial⟩
def qX (t:Term):Sk (Int × Int) :=
 .r 1 ((vH t 60 8).c) fun x1 =>
 .br (decide (x1 < 0))
 (.fin (0,6))
 (.r 3 ((D6 t).c) fun x2 =>
 .fin (x2.1,x2.2))
def gE t:=(qX t).val
def qw (fu:Nat) (x:Term) (s:List Int):(Int × Int) ⊕ List Int:=bif (bI fu x).2 != 0 then .inl (0,(bI fu x).2) else .inr (s++[(bI fu x).1])
def vX (t:Term) (l:List Int):Int × Int :=
 bif (decide (t.op < 0))||(decide (t.op≥14)) then (0,1)
 else bif (((l.length:Nat):Int) != cO t.op)||((decide (cO t.op > 0))&&(t.n != 0)) then (0,2)
 else bif cO t.op == 0 then sn t
 else bif !(fy t.op l).2 then (0,11) else ((fy t.op l).1,0)
theorem Qk (fu:Nat) (t:Term):bI (fu+1) t=walk (qw fu) (vX t) t.args []:=by
 show (gv (bI fu) (fun _=>False) (fun _ h=>h.elim) t).val=_
 simp only [gv,Sk.bU,Sk.aZ,Sk.cu,Sk.cS,Sk.aN,eo.qB,kk,kp,yd,Ag,Ah]
 refine a9 t.args (fun s i=>(s,i)) (qw fu) id (vX t) (fun s i hi=>?_) (fun s=>?_) (by simp) []
 ·simp only [Sk.bQ,Sk.aZ,Sk.bU,Sk.cw,Sk.aN,eo.qB,kk,kp,bD.tJ,vW]
  rw [decide_eq_true (by omega),cond_true]
  unfold qw
  cases ((bI fu (t.args.getD i default)).2 != 0) <;> rfl
 ·simp only [Sk.bQ,Sk.aZ,Sk.bU,Sk.cw,Sk.aN,eo.qB,kk,kp]
  rw [decide_eq_false (by omega),cond_false]
  rfl
def WL (fu:Nat):List Term→List Int→Prop
 | [],[]=>True
 | x :: r,k :: q=>bI fu x=(k,0)∧WL fu r q
 | _,_=>False
theorem iP (fu:Nat) (fin:List Int→Int × Int):∀ (ts:List Term) (ks l:List Int),WL fu ts ks→walk (qw fu) fin ts l=fin (l++ks)
 | [],[],l,_=>by simp [walk]
 | x :: r,k :: q,l,h=>by
  have e:qw fu x l=.inr (l++[k]):=by
   unfold qw; rw [h.1]; rfl
  simp only [walk,e]
  rw [iP fu fin r q (l++[k]) h.2,List.append_assoc]; rfl
 | [],_ :: _,_,h=>h.elim
 | _ :: _,[],_,h=>h.elim
theorem D7 (fu:Nat) (fin:List Int→Int × Int):∀ (ts:List Term) (l:List Int),(walk (qw fu) fin ts l).2=0→∃ ks,WL fu ts ks∧walk (qw fu) fin ts l=fin (l++ks)
 | [],l,_=>⟨[],trivial,by simp [walk]⟩
 | x :: r,l,h=>by
  by_cases h0:(bI fu x).2=0
  ·have e:qw fu x l=.inr (l++[(bI fu x).1]):=by
    unfold qw; rw [h0]; rfl
   simp only [walk,e] at h ⊢
   obtain ⟨ks,h1,h2⟩:=D7 fu fin r _ h
   exact ⟨(bI fu x).1 :: ks,⟨by rw [← h0],h1⟩,by rw [h2,List.append_assoc]; rfl⟩
  ·exfalso
   have e:qw fu x l=.inl (0,(bI fu x).2):=by
    unfold qw; rw [bne_iff_ne.2 h0]; rfl
   simp only [walk,e] at h
   exact h0 h
theorem U1 (fu:Nat):∀ (ts:List Term) (ks:List Int),WL fu ts ks→ts.length=ks.length
 | [],[],_=>rfl
 | _ :: r,_ :: q,h=>by simp [U1 fu r q h.2]
 | [],_ :: _,h=>h.elim
 | _ :: _,[],h=>h.elim
theorem LS (t:Term) (h:t.op=0∨t.op=1∨t.op=2) (k:Int):sn t=(k,0)↔pO ⟨t.op,t.n,[]⟩ k:=by
 obtain ⟨op,n,args⟩:=t
 simp only at h ⊢
 rcases h with rfl | rfl | rfl
 ·have e:sn ⟨0,n,args⟩=bif (decide (n < (-1099511627776)))||(decide (n > 1099511627776)) then (0,3) else (0,0):=rfl
  rw [e]
  by_cases c : -1099511627776≤n∧n≤1099511627776
  ·have:((decide (n < (-1099511627776)))||(decide (n > 1099511627776)))=false:=by simp only [LN]; omega
   rw [this,cond_false]
   constructor
   ·intro h; cases h; exact .int c
   ·intro h; cases h; rfl
  ·have:((decide (n < (-1099511627776)))||(decide (n > 1099511627776)))=true:=by simp only [LN]; omega
   rw [this,cond_true]
   constructor
   ·intro h; cases h
   ·intro h; cases h with | int h=>exact absurd h c
 ·have e:sn ⟨1,n,args⟩=bif (n != 0)&&(n != 1) then (0,3) else (1,0):=rfl
  rw [e]
  by_cases c:0≤n∧n≤1
  ·have:((n != 0)&&(n != 1))=false:=by simp only [LN]; omega
   rw [this,cond_false]
   constructor
   ·intro h; cases h; exact .bool c
   ·intro h; cases h; rfl
  ·have:((n != 0)&&(n != 1))=true:=by simp only [LN]; omega
   rw [this,cond_true]
   constructor
   ·intro h; cases h
   ·intro h; cases h with | bool h=>exact absurd h c
 ·have e:sn ⟨2,n,args⟩=bif !(bif (decide (n < 0))||(decide (n≥20)) then ((0:Int),false) else bif decide (n≤6) then (0,true) else (1,true)).2 then (0,10) else ((bif (decide (n < 0))||(decide (n≥20)) then ((0:Int),false) else bif decide (n≤6) then (0,true) else (1,true)).1,0):=rfl
  rw [e]
  by_cases c:0≤n∧n≤19
  ·have:((decide (n < 0))||(decide (n≥20)))=false:=by simp only [LN]; omega
   rw [this,cond_false]
   by_cases d:n≤6
   ·rw [decide_eq_true d]
    constructor
    ·intro h; cases h; have:=pO.var c; rw [if_pos (by omega)] at this; exact this
    ·intro h; cases h with | var _=>rw [if_pos (by omega)]; rfl
   ·rw [decide_eq_false d]
    constructor
    ·intro h; cases h; have:=pO.var c; rw [if_neg (by omega)] at this; exact this
    ·intro h; cases h with | var _=>rw [if_neg (by omega)]; rfl
  ·have:((decide (n < 0))||(decide (n≥20)))=true:=by simp only [LN]; omega
   rw [this,cond_true]
   constructor
   ·intro h; cases h
   ·intro h; cases h with | var h=>exact absurd h c
theorem XA (a:Int):fy 3 [a]=(1,a == 1):=by kernel_rfl
theorem XB (a b:Int):fy 4 [a,b]=(1,(a == 1)&&(b == 1)):=by kernel_rfl
theorem XC (a b:Int):fy 5 [a,b]=(1,(a == 1)&&(b == 1)):=by kernel_rfl
theorem XD (a b c:Int):fy 6 [a,b,c]=(b,(a == 1)&&(b == c)):=by kernel_rfl
theorem XE (a b:Int):fy 7 [a,b]=(1,(a == 0)&&(b == 0)):=by kernel_rfl
theorem XF (a b:Int):fy 8 [a,b]=(1,a == b):=by kernel_rfl
theorem WM (a b:Int):fy 9 [a,b]=(0,(a == 0)&&(b == 0)):=by kernel_rfl
theorem U2 (a b:Int):fy 10 [a,b]=(0,(a == 0)&&(b == 0)):=by kernel_rfl
theorem U3 (a b:Int):fy 11 [a,b]=(0,(a == 0)&&(b == 0)):=by kernel_rfl
theorem U4 (a b:Int):fy 12 [a,b]=(0,(a == 0)&&(b == 0)):=by kernel_rfl
theorem U5 (a b:Int):fy 13 [a,b]=(0,(a == 0)&&(b == 0)):=by kernel_rfl
theorem XG (op:Int) (h:9≤op∧op≤13) (a b:Int):fy op [a,b]=(0,(a == 0)&&(b == 0)):=by
 have:op=9∨op=10∨op=11∨op=12∨op=13:=by omega
 rcases this with rfl | rfl | rfl | rfl | rfl
 ·exact WM a b
 ·exact U2 a b
 ·exact U3 a b
 ·exact U4 a b
 ·exact U5 a b
theorem WN {op n:Int} {args:List Term} {ks:List Int} {k:Int} (hl:args.length=ks.length) (h:vX ⟨op,n,args⟩ ks=(k,0)):(0≤op∧op≤13)∧(ks.length:Int)=cO op∧(0 < cO op→n=0):=by
 unfold vX at h
 simp only at h
 by_cases c:0≤op∧op≤13
 ·have e:((decide (op < 0))||(decide (op≥14)))=false:=by simp only [LN]; omega
  rw [e,cond_false] at h
  by_cases c2:(ks.length:Int)=cO op∧(0 < cO op→n=0)
  ·exact ⟨c,c2⟩
  ·have e:((((ks.length:Nat):Int) != cO op)||((decide (cO op > 0))&&(n != 0)))=true:=by
    simp only [LN]
    by_cases q:(ks.length:Int)=cO op
    ·right
     by_cases q2:0 < cO op
     ·exact ⟨q2,fun h=>c2 ⟨q,fun _=>h⟩⟩
     ·exact absurd ⟨q,fun h=>absurd h q2⟩ c2
    ·exact .inl q
   rw [e,cond_true] at h
   cases h
 ·have e:((decide (op < 0))||(decide (op≥14)))=true:=by simp only [LN]; omega
  rw [e,cond_true] at h
  cases h
theorem oP {op:Int} {args:List Term} {ks:List Int} (h3:3≤op∧op≤13) (hl:(ks.length:Int)=cO op):vX ⟨op,0,args⟩ ks=bif !(fy op ks).2 then (0,11) else ((fy op ks).1,0):=by
 unfold vX
 simp only
 have e:((decide (op < 0))||(decide (op≥14)))=false:=by simp only [LN]; omega
 have e2:((((ks.length:Nat):Int) != cO op)||((decide (cO op > 0))&&((0:Int) != 0)))=false:=by
  rw [bne_eq_false_iff_eq.2 hl]; simp
 have e3:(cO op == 0)=false:=by
  rw [beq_eq_false_iff_ne,j1,if_neg (by omega)]
  split <;> (try split) <;> omega
 rw [e,cond_false,e2,cond_false,e3,cond_false]
theorem yO {op n:Int} {args:List Term} (h:op=0∨op=1∨op=2):vX ⟨op,n,args⟩ []=sn ⟨op,n,args⟩:=by
 unfold vX
 simp only
 have ha:cO op=0:=by rw [j1,if_pos h]
 have e:((decide (op < 0))||(decide (op≥14)))=false:=by simp only [LN]; omega
 rw [e,ha]
 rfl
theorem Kv:∀ (fu:Nat) (t:Term) (k:Int),t.depth≤fu→(bI fu t=(k,0)↔pO t k)
 | 0,t,_,hd=>absurd hd (by have:=t.fK; omega)
 | fu+1,t,k,hd=>by
  rw [Qk]
  have ih:=Kv fu
  constructor
  ·intro h
   obtain ⟨ks,h1,h2⟩:=D7 fu (vX t) t.args [] (by rw [h])
   rw [h2,List.nil_append] at h
   clear h2
   obtain ⟨op,n,args⟩:=t
   simp only [Term.depth] at hd
   simp only at h1
   have hl:=U1 fu args ks h1
   obtain ⟨ho,hk,hn⟩:=WN hl h
   by_cases h3:op=0∨op=1∨op=2
   ·rw [j1,if_pos h3] at hk
    have e:ks=[]:=List.length_eq_zero_iff.1 (by omega)
    subst e
    have e:args=[]:=List.length_eq_zero_iff.1 (by omega)
    subst e
    rw [yO h3] at h
    exact (LS ⟨op,n,[]⟩ h3 k).1 h
   ·have hp:0 < cO op:=by
     rw [j1,if_neg h3]; split <;> (try split) <;> omega
    have Zy:=hn hp
    subst Zy
    rw [oP (by omega) hk] at h
    rw [j1,if_neg h3] at hk
    by_cases c3:op=3
    ·subst c3
     rw [if_pos rfl] at hk
     obtain ⟨k1,rfl⟩:=UE (l:=ks) (by omega)
     obtain ⟨a,rfl⟩:=UE (l:=args) (by simpa using hl)
     rw [XA] at h
     cases c:(k1 == 1) with
     | false=>rw [c] at h; cases h
     | true =>
      rw [c] at h
      cases h
      rw [beq_iff_eq] at c
      subst c
      simp only [Term.bO] at hd
      exact .not ((ih a 1 (by omega)).1 h1.1)
    by_cases c6:op=6
    ·subst c6
     rw [if_neg (by omega),if_pos rfl] at hk
     obtain ⟨k1,k2,k3,rfl⟩:=UF (l:=ks) (by omega)
     obtain ⟨a,b,c,rfl⟩:=UF (l:=args) (by simpa using hl)
     rw [XD] at h
     cases c1:(k1 == 1) with
     | false=>rw [c1] at h; cases h
     | true =>
      cases c2:(k2 == k3) with
      | false=>rw [c1,c2] at h; cases h
      | true =>
       rw [c1,c2] at h
       cases h
       rw [beq_iff_eq] at c1 c2
       subst c1 c2
       simp only [Term.bO] at hd
       exact .ite ((ih a 1 (by omega)).1 h1.1) ((ih b _ (by omega)).1 h1.2.1) ((ih c _ (by omega)).1 h1.2.2.1)
    rw [if_neg c3,if_neg c6] at hk
    obtain ⟨k1,k2,rfl⟩:=GW (l:=ks) (by omega)
    obtain ⟨a,b,rfl⟩:=GW (l:=args) (by simpa using hl)
    simp only [Term.bO] at hd
    have ta:=(ih a k1 (by omega)).1 h1.1
    have tb:=(ih b k2 (by omega)).1 h1.2.1
    have two:∀ (m:Int) (z:Int),fy op [k1,k2]=(z,(k1 == m)&&(k2 == m))→k=z∧k1=m∧k2=m:=fun m z e=>by
     rw [e] at h
     cases c1:(k1 == m) with
     | false=>rw [c1] at h; cases h
     | true =>
      cases c2:(k2 == m) with
      | false=>rw [c1,c2] at h; cases h
      | true =>
       rw [c1,c2] at h
       cases h
       exact ⟨rfl,by simpa using c1,by simpa using c2⟩
    by_cases c4:op=4
    ·subst c4
     obtain ⟨rfl,rfl,rfl⟩:=two 1 1 (XB k1 k2)
     exact .Lh (.inl rfl) ta tb
    by_cases c5:op=5
    ·subst c5
     obtain ⟨rfl,rfl,rfl⟩:=two 1 1 (XC k1 k2)
     exact .Lh (.inr rfl) ta tb
    by_cases c7:op=7
    ·subst c7
     obtain ⟨rfl,rfl,rfl⟩:=two 0 1 (XE k1 k2)
     exact .less ta tb
    by_cases c8:op=8
    ·subst c8
     rw [XF] at h
     cases c1:(k1 == k2) with
     | false=>rw [c1] at h; cases h
     | true =>
      rw [c1] at h
      cases h
      rw [beq_iff_eq] at c1
      subst c1
      exact .eq ta tb
    obtain ⟨rfl,rfl,rfl⟩:=two 0 0 (XG op (by omega) k1 k2)
    exact .arith (by omega) ta tb
  ·intro h
   cases h with
   | int h=>exact (iP fu _ [] [] [] trivial).trans ((yO (.inl rfl)).trans ((LS ⟨0,_,[]⟩ (.inl rfl) _).2 (.int h)))
   | bool h=>exact (iP fu _ [] [] [] trivial).trans ((yO (.inr (.inl rfl))).trans ((LS ⟨1,_,[]⟩ (.inr (.inl rfl)) _).2 (.bool h)))
   | var h=>exact (iP fu _ [] [] [] trivial).trans ((yO (.inr (.inr rfl))).trans ((LS ⟨2,_,[]⟩ (.inr (.inr rfl)) _).2 (.var h)))
   | @not a ha =>
    simp only [Term.depth,Term.bO] at hd
    refine (iP fu _ [a] [1] [] ⟨(ih a 1 (by omega)).2 ha,trivial⟩).trans ((oP (by omega) (by rw [j1]; rfl)).trans ?_)
    rw [List.nil_append,XA]; rfl
   | @Lh op a b ho ha hb =>
    simp only [Term.depth,Term.bO] at hd
    refine (iP fu _ [a,b] [1,1] [] ⟨(ih a 1 (by omega)).2 ha,(ih b 1 (by omega)).2 hb,trivial⟩).trans ((oP (by omega) (by rcases ho with rfl | rfl <;> (rw [j1]; rfl))).trans ?_)
    rw [List.nil_append]
    rcases ho with rfl | rfl
    ·rw [XB]; rfl
    ·rw [XC]; rfl
   | @ite a b c k ha hb hc =>
    simp only [Term.depth,Term.bO] at hd
    refine (iP fu _ [a,b,c] [1,k,k] [] ⟨(ih a 1 (by omega)).2 ha,(ih b k (by omega)).2 hb,(ih c k (by omega)).2 hc,trivial⟩).trans ((oP (by omega) (by rw [j1]; rfl)).trans ?_)
    rw [List.nil_append,XD]; simp
   | @less a b ha hb =>
    simp only [Term.depth,Term.bO] at hd
    refine (iP fu _ [a,b] [0,0] [] ⟨(ih a 0 (by omega)).2 ha,(ih b 0 (by omega)).2 hb,trivial⟩).trans ((oP (by omega) (by rw [j1]; rfl)).trans ?_)
    rw [List.nil_append,XE]; rfl
   | @eq a b k ha hb =>
    simp only [Term.depth,Term.bO] at hd
    refine (iP fu _ [a,b] [k,k] [] ⟨(ih a k (by omega)).2 ha,(ih b k (by omega)).2 hb,trivial⟩).trans ((oP (by omega) (by rw [j1]; rfl)).trans ?_)
    rw [List.nil_append,XF]; simp
   | @arith op a b ho ha hb =>
    simp only [Term.depth,Term.bO] at hd
    refine (iP fu _ [a,b] [0,0] [] ⟨(ih a 0 (by omega)).2 ha,(ih b 0 (by omega)).2 hb,trivial⟩).trans ((oP (by omega) (by rw [j1,if_neg (by omega),if_neg (by omega),if_neg (by omega)]; rfl)).trans ?_)
    rw [List.nil_append,XG op ho]; rfl
def ko (fu:Nat) (t:Term) (i:Nat) (s:List Int):(Int × Int) ⊕ List Int:=bif (aG fu (t.args.getD i default)).2 != 0 then .inl (0,(aG fu (t.args.getD i default)).2) else .inr (s.set i (aG fu (t.args.getD i default)).1)
def U6 (sh:Shape) (b1:List Int) (i:Nat) (c:Int):Int:=bif (sh.args.getD i default == -1)&&(c == -1) then b1.getD i default else c
def U7 (sh:Shape) (b1:List Int) (i:Nat) (c:Int):Int:=bif sh.args.getD i default == -1 then U6 sh b1 i c else sh.args.getD i default
def Ql (sh:Shape) (b1:List Int) (i:Nat) (c:Int):(Int × Int) ⊕ Int:=bif b1.getD i default != U7 sh b1 i c then .inl (0,11) else .inr (U6 sh b1 i c)
def gQ (t:Term) (b1:List Int):Int × Int :=
 bif (decide (t.op < 0))||(decide (t.op > 13)) then (0,1)
 else bif ((t.op == 0)||(t.op == 1))||(t.op == 2) then gC t
 else bif (((b1.length:Nat):Int) != (((aY t.op).args.length:Nat):Int))||(t.n != 0) then (0,2)
 else walk (Ql (aY t.op) b1) (fun b6=>bif (aY t.op).result == (-1) then (b6,0) else ((aY t.op).result,0)) (List.range (aY t.op).args.length) (-1)
theorem HT (n i:Nat) (h:i < n):(List.range n).getD i default=i:=by simp [List.getD,h]
theorem oQ (fu:Nat) (t:Term):aG (fu+1) t=walk (ko fu t) (gQ t) (List.range t.args.length) (List.replicate t.args.length 0):=by
 show (dm (aG fu) (fun _=>False) (fun _ h=>h.elim) t).val=_
 simp only [dm,Sk.bU,Sk.aZ,Sk.cu,Sk.cS,Sk.aN,eo.qB,kk,kp,sY,np]
 refine (a9 (List.range t.args.length) (fun s i=>(s,i)) (ko fu t) id _ (fun s i hi=>?_) (fun s=>?_) (by simp) _).trans ?_
 ·rw [List.length_range] at hi
  simp only [Sk.bQ,Sk.aZ,Sk.bU,Sk.cw,Sk.Ux,Sk.aN,eo.qB,kk,kp,bD.tJ,oY]
  rw [decide_eq_true (by omega),cond_true,HT _ _ hi]
  unfold ko
  cases ((aG fu (t.args.getD i default)).2 != 0) <;> rfl
 ·simp only [Sk.bQ,Sk.aZ,Sk.bU,Sk.cw,Sk.aN,eo.qB,kk,kp]
  rw [List.length_range,decide_eq_false (by omega),cond_false]
  rfl
 ·congr 1
  funext b1
  unfold gQ
  simp only [id]
  congr 1
  congr 1
  congr 1
  refine a9 (List.range (aY t.op).args.length) (fun s i=>(s,i)) (Ql (aY t.op) b1) id _ (fun s i hi=>?_) (fun s=>?_) (by simp) (-1)
  ·rw [List.length_range] at hi
   simp only [Sk.bQ,Sk.aZ,Sk.bU,Sk.cu,Sk.cw,Sk.Ux,Sk.aN,eo.qB,kk,kp]
   have iR:((i:Nat):Int) < (((aY t.op).args.length:Nat):Int):=by omega
   rw [HT _ _ hi]
   simp only [iR,decide_true,cond_true]
   unfold Ql U7 U6
   cases h1:((aY t.op).args.getD i default == -1) <;> cases h2:(s == -1) <;> simp only [Bool.true_and,Bool.false_and,cond_true,cond_false,cN]
   ·cases (b1.getD i default != (aY t.op).args.getD i default) <;> rfl
   ·cases (b1.getD i default != (aY t.op).args.getD i default) <;> rfl
   ·cases (b1.getD i default != s) <;> rfl
   ·cases (b1.getD i default != b1.getD i default) <;> rfl
  ·simp only [Sk.bQ,Sk.aZ,Sk.bU,Sk.cw,Sk.aN,eo.qB,kk,kp]
   rw [List.length_range]
   simp only [Int.lt_irrefl,decide_false,cond_false,id]
theorem Ai (op n k:Int) (h:op=0∨op=1∨op=2) (ht:pO ⟨op,n,[]⟩ k):gQ ⟨op,n,[]⟩ []=(k,0):=by
 have e:gQ ⟨op,n,[]⟩ []=gC ⟨op,n,[]⟩:=by rcases h with rfl | rfl | rfl <;> rfl
 rw [e]
 cases ht with
 | int h =>
  have e:gC ⟨0,n,[]⟩=bif eG (cp n (-1099511627776)) 1099511627776 != n then (0,3) else (0,0):=rfl
  have e2:eG (cp n (-1099511627776)) 1099511627776=n:=by unfold eG cp; (repeat' split) <;> omega
  rw [e,e2,bne_self_eq_false]; rfl
 | bool h =>
  have e:gC ⟨1,n,[]⟩=bif (decide (n < 0))||(decide (n > 1)) then (0,3) else (1,0):=rfl
  have e2:((decide (n < 0))||(decide (n > 1)))=false:=by simp only [LN]; omega
  rw [e,e2]; rfl
 | var h =>
  have e:gC ⟨2,n,[]⟩=bif !(bif (decide (n < 0))||(decide (n > 19)) then ((0:Int),false) else bif decide (n < 7) then (0,true) else (1,true)).2 then (0,10) else ((bif (decide (n < 0))||(decide (n > 19)) then ((0:Int),false) else bif decide (n < 7) then (0,true) else (1,true)).1,0):=rfl
  have e2:((decide (n < 0))||(decide (n > 19)))=false:=by simp only [LN]; omega
  rw [e,e2,cond_false]
  by_cases d:n < 7
  ·rw [decide_eq_true d,if_pos d]; rfl
  ·rw [decide_eq_false d,if_neg d]; rfl
theorem ck1 {fu:Nat} {op:Int} {a:Term} {k1:Int} (h1:aG fu a=(k1,0)):aG (fu+1) ⟨op,0,[a]⟩=gQ ⟨op,0,[a]⟩ [k1]:=by
 rw [oQ]
 show walk (ko fu ⟨op,0,[a]⟩) (gQ ⟨op,0,[a]⟩) [0] [0]=_
 have e:ko fu ⟨op,0,[a]⟩ 0 [0]=.inr [k1]:=by unfold ko; show (bif (aG fu a).2 != 0 then _ else Sum.inr [(aG fu a).1])=_; rw [h1]; rfl
 simp only [walk,e]
theorem ck2 {fu:Nat} {op:Int} {a b:Term} {k1 k2:Int} (h1:aG fu a=(k1,0)) (h2:aG fu b=(k2,0)):aG (fu+1) ⟨op,0,[a,b]⟩=gQ ⟨op,0,[a,b]⟩ [k1,k2]:=by
 rw [oQ]
 show walk (ko fu ⟨op,0,[a,b]⟩) (gQ ⟨op,0,[a,b]⟩) [0,1] [0,0]=_
 have e:ko fu ⟨op,0,[a,b]⟩ 0 [0,0]=.inr [k1,0]:=by unfold ko; show (bif (aG fu a).2 != 0 then _ else Sum.inr [(aG fu a).1,0])=_; rw [h1]; rfl
 have e2:ko fu ⟨op,0,[a,b]⟩ 1 [k1,0]=.inr [k1,k2]:=by unfold ko; show (bif (aG fu b).2 != 0 then _ else Sum.inr [k1,(aG fu b).1])=_; rw [h2]; rfl
 simp only [walk,e,e2]
theorem ck3 {fu:Nat} {op:Int} {a b c:Term} {k1 k2 k3:Int} (h1:aG fu a=(k1,0)) (h2:aG fu b=(k2,0)) (h3:aG fu c=(k3,0)):aG (fu+1) ⟨op,0,[a,b,c]⟩=gQ ⟨op,0,[a,b,c]⟩ [k1,k2,k3]:=by
 rw [oQ]
 show walk (ko fu ⟨op,0,[a,b,c]⟩) (gQ ⟨op,0,[a,b,c]⟩) [0,1,2] [0,0,0]=_
 have e:ko fu ⟨op,0,[a,b,c]⟩ 0 [0,0,0]=.inr [k1,0,0]:=by unfold ko; show (bif (aG fu a).2 != 0 then _ else Sum.inr [(aG fu a).1,0,0])=_; rw [h1]; rfl
 have e2:ko fu ⟨op,0,[a,b,c]⟩ 1 [k1,0,0]=.inr [k1,k2,0]:=by unfold ko; show (bif (aG fu b).2 != 0 then _ else Sum.inr [k1,(aG fu b).1,0])=_; rw [h2]; rfl
 have e3:ko fu ⟨op,0,[a,b,c]⟩ 2 [k1,k2,0]=.inr [k1,k2,k3]:=by unfold ko; show (bif (aG fu c).2 != 0 then _ else Sum.inr [k1,k2,(aG fu c).1])=_; rw [h3]; rfl
 simp only [walk,e,e2,e3]
theorem acV (a:Term):gQ ⟨3,0,[a]⟩ [1]=(1,0):=by kernel_rfl
theorem acW (a b:Term):gQ ⟨4,0,[a,b]⟩ [1,1]=(1,0):=by kernel_rfl
theorem acX (a b:Term):gQ ⟨5,0,[a,b]⟩ [1,1]=(1,0):=by kernel_rfl
theorem acY (a b:Term):gQ ⟨7,0,[a,b]⟩ [0,0]=(1,0):=by kernel_rfl
theorem acZ (a b:Term):gQ ⟨9,0,[a,b]⟩ [0,0]=(0,0):=by kernel_rfl
theorem aa8 (a b:Term):gQ ⟨10,0,[a,b]⟩ [0,0]=(0,0):=by kernel_rfl
theorem aa9 (a b:Term):gQ ⟨11,0,[a,b]⟩ [0,0]=(0,0):=by kernel_rfl
theorem aba (a b:Term):gQ ⟨12,0,[a,b]⟩ [0,0]=(0,0):=by kernel_rfl
theorem abb (a b:Term):gQ ⟨13,0,[a,b]⟩ [0,0]=(0,0):=by kernel_rfl
theorem Y7 (a b c:Term):gQ ⟨6,0,[a,b,c]⟩ [1,0,0]=(0,0):=by kernel_rfl
theorem Y8 (a b c:Term):gQ ⟨6,0,[a,b,c]⟩ [1,1,1]=(1,0):=by kernel_rfl
theorem Y9 (a b:Term):gQ ⟨8,0,[a,b]⟩ [0,0]=(1,0):=by kernel_rfl
theorem Za (a b:Term):gQ ⟨8,0,[a,b]⟩ [1,1]=(1,0):=by kernel_rfl
theorem D8:∀ (fu:Nat) (t:Term) (k:Int),t.depth≤fu→pO t k→aG fu t=(k,0)
 | 0,t,_,hd,_=>absurd hd (by have:=t.fK; omega)
 | fu+1,t,k,hd,h=>by
  have ih:=D8 fu
  cases h with
  | int h=>rw [oQ]; exact Ai 0 _ _ (.inl rfl) (.int h)
  | bool h=>rw [oQ]; exact Ai 1 _ _ (.inr (.inl rfl)) (.bool h)
  | var h=>rw [oQ]; exact Ai 2 _ _ (.inr (.inr rfl)) (.var h)
  | @not a ha =>
   simp only [Term.depth,Term.bO] at hd
   rw [ck1 (ih a 1 (by omega) ha)]; exact acV a
  | @Lh op a b ho ha hb =>
   simp only [Term.depth,Term.bO] at hd
   rw [ck2 (ih a 1 (by omega) ha) (ih b 1 (by omega) hb)]
   rcases ho with rfl | rfl
   ·exact acW a b
   ·exact acX a b
  | @ite a b c k ha hb hc =>
   simp only [Term.depth,Term.bO] at hd
   rw [ck3 (ih a 1 (by omega) ha) (ih b k (by omega) hb) (ih c k (by omega) hc)]
   rcases hb.kind with rfl | rfl
   ·exact Y7 a b c
   ·exact Y8 a b c
  | @less a b ha hb =>
   simp only [Term.depth,Term.bO] at hd
   rw [ck2 (ih a 0 (by omega) ha) (ih b 0 (by omega) hb)]; exact acY a b
  | @eq a b k ha hb =>
   simp only [Term.depth,Term.bO] at hd
   rw [ck2 (ih a k (by omega) ha) (ih b k (by omega) hb)]
   rcases ha.kind with rfl | rfl
   ·exact Y9 a b
   ·exact Za a b
  | @arith op a b ho ha hb =>
   simp only [Term.depth,Term.bO] at hd
   rw [ck2 (ih a 0 (by omega) ha) (ih b 0 (by omega) hb)]
   have:op=9∨op=10∨op=11∨op=12∨op=13:=by omega
   rcases this with rfl | rfl | rfl | rfl | rfl
   ·exact acZ a b
   ·exact aa8 a b
   ·exact aa9 a b
   ·exact aba a b
   ·exact abb a b
theorem DE (t:Term) (k:Int):eO t=(k,0)↔gE t=(k,0):=by
 have e1:eO t=bif decide (aI t.depth t 1 > 60) then (0,6) else ((aG t.depth t).1,(aG t.depth t).2):=rfl
 have e2:gE t=bif decide (cj t.depth t 60 8 < 0) then (0,6) else ((bI t.depth t).1,(bI t.depth t).2):=rfl
 have hm:=(Hi t.depth t 1 (Nat.le_refl _) (by omega) (by omega)).1
 have hs:=(size_eq t.depth t 60 8 (Nat.le_refl _) (by omega) (by omega) (by omega) (by omega)).2.1
 rw [e1,e2]
 by_cases c:t.nodes≤60∧(t.depth:Int)≤8
 ·have a1:decide (aI t.depth t 1 > 60)=false:=decide_eq_false (by omega)
  have a2:decide (cj t.depth t 60 8 < 0)=false:=decide_eq_false (by omega)
  rw [a1,a2]
  show aG t.depth t=(k,0)↔bI t.depth t=(k,0)
  rw [Kv t.depth t k (Nat.le_refl _)]
  constructor
  ·intro h
   have:=ou t.depth t (Nat.le_refl _) (by rw [h])
   rw [h] at this
   exact this
  ·exact D8 t.depth t k (Nat.le_refl _)
 ·have a1:decide (aI t.depth t 1 > 60)=true:=decide_eq_true (by omega)
  have a2:decide (cj t.depth t 60 8 < 0)=true:=decide_eq_true (by omega)
  rw [a1,a2]
  exact ⟨fun h=>(by cases h),fun h=>(by cases h)⟩
theorem Jy {t:Term} (h:(gE t).2=0):pO t (gE t).1∧t.depth≤8:=by
 have h2:=(DE t (gE t).1).2 (by rw [← h])
 have:=wD t (by rw [h2])
 rw [h2] at this
 exact this
theorem HU (t:Term):(fun (x:Int × Int)=>x.2=0→pO t x.1∧t.depth≤8) (gE t):=(fun h=>Jy h)
theorem LU (t:Term):(qX t).bE (fun _=>True):=by
 refine Sk.bm _ ?_
 unfold qX
 simp only [Sk.j2,Sk.aU,reduceCtorEq,ON,kk,kp,vH,D6,maxLen]
 exact fun x hx h=>Ru t.depth t (Nat.le_refl _) ((size_eq t.depth t 60 8 (Nat.le_refl _) (by omega) (by omega) (by omega) (by omega)).2.1.1 (by have h2:=of_decide_eq_false h; rw [hx] at h2; exact Int.not_lt.1 h2)).1
def pY t:=kk tok mixed Tryz.func172 [av t.cells] (fun x=>.ef [iv x.1,iv x.2]) true (qX t) (gE t) (u0 (LU t)) (fun (x:Int × Int)=>x.2=0→pO t x.1∧t.depth≤8) (HU t)
def py (ask:Int):Sk (Bool) :=
 .bind false (fun _=>True)
 (.br (ask == 6)
 (.fin (.inr (ask == 6)))
 (.br (ask == 7)
 (.fin (.inr (ask == 7)))
 (.br (ask == 10)
 (.fin (.inr (ask == 10)))
 (.br (ask == 12)
 (.fin (.inr (ask == 12)))
 (.br (ask == 13)
 (.fin (.inr (ask == 13)))
 (.br (ask == 14)
 (.fin (.inr (ask == 14)))
 (.br (ask == 15)
 (.fin (.inr (ask == 15)))
 (.br (ask == 16)
 (.fin (.inr (ask == 16)))
 (.br (ask == 20)
 (.fin (.inr (ask == 20)))
 (.fin (.inr (ask == 21))))))))))))
 (fun (b1:Bool)=>⟨[(4,bv b1)],[]⟩) fun b1 =>
 .br b1
 (.fin false)
 (.r 13 ((aK ask 0 21).c) fun x2 =>
 .fin x2)
def so ask:=(py ask).val
theorem Jz (ask:Int):(py ask).bE (fun _=>True):=by
 unfold py
 try simp only [aK,bN]
 exact qJ
def nU ask:=kk tok mixed Tryz.func148 [iv ask] (fun x=>bv x) true (py ask) (so ask) (u0 (Jz ask))
def tA (ask:Int):Sk (Int × Bool) :=
 .r 1 ((gP ask).c) fun x1 =>
 .br (!x1)
 (.fin (0,false))
 (.r 3 ((nU ask).c) fun x2 =>
 .br x2
 (.fin (1,true))
 (.fin (0,true)))
def B9 ask:=(tA ask).val
theorem Oc (ask:Int):(tA ask).bE (fun _=>True):=by
 unfold tA
 try simp only [nU,gP,mE]
 exact qJ
def Aj ask:=kk tok mixed Tryz.func173 [iv ask] (fun x=>.ef [iv x.1,bv x.2]) true (tA ask) (B9 ask) (u0 (Oc ask))
def l4 (o:Order) (ask:Int):Sk (Int) :=
 .r 1 ((gP ask).c) fun x1 =>
 .br (!x1)
 (.fin 1)
 (.r 3 ((oO o ask).c) fun x2 =>
 .br (decide (x2 < 0))
 (.fin 4)
 (.r 6 (.au (.p (bz x2 o.rules.length)) ((pY ((o.rules.getD x2.toNat default).term)).c)) fun x3 =>
 .r 7 ((Aj ask).c) fun x4 =>
 .br ((x3.2 != 0)||(x3.1 != x4.1))
 (.fin 11)
 (.fin 0)))
def vY o ask:=(l4 o ask).val
theorem HV (o:Order) (ask:Int):(l4 o ask).dz (fun (x:Int)=>x=0→0≤gn o ask∧gn o ask < (o.rules.length:Int)):=by
 refine Sk.bq _ ?_
 unfold l4
 simp only [Sk.cV,Sk.aU,reduceCtorEq,ON,kk,kp,pY,gP,oO,Aj,mE,forall_eq,maxLen]
 refine ⟨fun _ h=>absurd h (by decide),fun _ hp=>⟨fun _ h=>absurd h (by decide),fun hc _=>⟨fun _ h=>absurd h (by decide),fun _=>?_⟩⟩⟩
 simp only [LN] at hc
 rcases hp with h | h <;> omega
theorem JA (o:Order) (ask:Int):(l4 o ask).bE (fun _=>True):=by
 refine Sk.bm _ ?_
 unfold l4
 simp only [Sk.j2,Sk.aU,reduceCtorEq,ON,kk,kp,pY,gP,oO,Aj,mE,forall_eq,maxLen]
 intro _ hp hc
 simp only [LN] at hc
 rcases hp with h | h <;> omega
def vZ o ask:=kp tok mixed Tryz.func145 [av o.cells,iv ask] (fun x=>iv x) true (vY o ask) (u0 (JA o ask)) (HV o ask)
def v7 (n:Int):Sk (Int) :=
 .fin (cp (-1099511627776) (eG 1099511627776 n))
def yP n:=(v7 n).val
theorem HW (n:Int):yP n=(cp (-1099511627776) (eG 1099511627776 n)):=rfl
theorem Qm (n:Int):(v7 n).bE (fun _=>True):=by
 unfold v7
 exact mY
def uY n:=kk tok mixed Tryz.func213 [iv n] (fun x=>iv x) true (v7 n) (yP n) (u0 (Qm n))
def qY (v:Int) (cells:List ah):Sk (ah) :=
 .br ((decide (v < 0))||(decide (v≥((cells.length:Nat):Int))))
 (.fin ({ known:=false,n:=0 }:ah))
 (.r 3 (.p (bz v cells.length)) fun _ =>
 .br (!((cells.getD v.toNat default).known))
 (.fin ({ known:=false,n:=0 }:ah))
 (.r 6 ((px v).c) fun x1 =>
 .br (x1.1 == 0)
 (.r 8 ((uY ((cells.getD v.toNat default).n)).c) fun x2 =>
 .fin ({ known:=true,n:=x2 }:ah))
 (.br (((cells.getD v.toNat default).n) != 0)
 (.fin ({ known:=true,n:=1 }:ah))
 (.fin ({ known:=true,n:=0 }:ah)))))
def m9 v cells:=(qY v cells).val
theorem LV (v:Int) (cells:List ah):(qY v cells).bE (fun _=>True):=by
 unfold qY
 try simp only [uY,px,HW]
 exact qJ
def ye v cells:=kk tok mixed Tryz.func200 [iv v,lv ah.cells cells] (fun x=>av x.cells) true (qY v cells) (m9 v cells) (u0 (LV v cells))
def qZ (a:ah) (b:ah) (alone:Int):Sk (ah) :=
 .br ((a.known&&(a.n == alone))||(b.known&&(b.n == alone)))
 (.fin ({ known:=true,n:=alone }:ah))
 (.br (a.known&&b.known)
 (.fin ({ known:=true,n:=ar ((1:Int) - alone) }:ah))
 (.fin ({ known:=false,n:=0 }:ah)))
def ru a b alone:=(qZ a b alone).val
theorem LW (a:ah) (b:ah) (alone:Int):(qZ a b alone).bE (fun _=>True):=by
 unfold qZ
 exact mY
def tB a b alone:=kk tok mixed Tryz.func201 [av a.cells,av b.cells,iv alone] (fun x=>av x.cells) true (qZ a b alone) (ru a b alone) (u0 (LW a b alone))
def ra (tN:Bool):Sk (ah) :=
 .br tN
 (.fin ({ known:=true,n:=1 }:ah))
 (.fin ({ known:=true,n:=0 }:ah))
def DF tN:=(ra tN).val
theorem LX (tN:Bool):(ra tN).bE (fun _=>True):=by
 unfold ra
 exact mY
def yf tN:=kk tok mixed Tryz.func214 [bv tN] (fun x=>av x.cells) true (ra tN) (DF tN) (u0 (LX tN))
def nV (a:Int) (b:Int):Sk (Int) :=
 .br ((a == 0)||(b == 0))
 (.fin 0)
 (.r 5 (.p ((cp b (ar (0 - b)))≠0)) fun _ =>
 .bind false (fun _=>True)
 (.br (decide ((cp a (ar (0 - a))) > (ar ((1099511627776:Int).tdiv (cp b (ar (0 - b)))))))
 (.fin (.inr (1099511627776,1)))
 (.fin (.inr (cp a (ar (0 - a)),cp b (ar (0 - b))))))
 (fun (b1:Int × Int)=>⟨[(5,iv b1.1),(6,iv b1.2)],[]⟩) fun b1 =>
 .br (!((decide (a < 0)) == (decide (b < 0))))
 (.fin (ar ((ar (0 - b1.1)) * b1.2)))
 (.fin (ar (b1.1 * b1.2))))
def uZ a b:=(nV a b).val
theorem LY (a:Int) (b:Int) (hb : -9223372036854775808≤b∧b≤9223372036854775807):(nV a b).bE (fun _=>True):=by
 refine Sk.bm _ ?_
 unfold nV
 simp only [Sk.j2,Sk.aU,reduceCtorEq,ON,kk,kp,maxLen]
 intro h
 simp only [LN] at h
 by_cases c:b = -9223372036854775808
 ·subst c; decide
 ·rw [az (by omega) (by omega)]
  unfold cp
  split <;> omega
def D9 a b:=kk tok mixed Tryz.func215 [iv a,iv b] (fun x=>iv x) true (nV a b) (uZ a b) (LY a b)
def pz (op:Int) (a:Int) (b:Int):Sk (ah) :=
 .br (op == 7)
 (.r 3 ((yf (decide (a < b))).c) fun x1 =>
 .fin x1)
 (.br (op == 8)
 (.r 5 ((yf (a == b)).c) fun x2 =>
 .fin x2)
 (.br (op == 9)
 (.r 7 ((uY (ar (a+b))).c) fun x3 =>
 .fin ({ known:=true,n:=x3 }:ah))
 (.br (op == 10)
 (.r 9 ((uY (ar (a - b))).c) fun x4 =>
 .fin ({ known:=true,n:=x4 }:ah))
 (.br (op == 11)
 (.r 11 ((D9 a b).c) fun x5 =>
 .fin ({ known:=true,n:=x5 }:ah))
 (.br (op == 12)
 (.fin ({ known:=true,n:=eG a b }:ah))
 (.fin ({ known:=true,n:=cp a b }:ah)))))))
def jQ op a b:=(pz op a b).val
theorem JB (op:Int) (a:Int) (b:Int) (hb : -9223372036854775808≤b∧b≤9223372036854775807):(pz op a b).bE (fun _=>True):=by
 unfold pz
 try simp only [uY,D9,yf,HW]
 exact qJ
def v8 op a b:=kk tok mixed Tryz.func202 [iv op,iv a,iv b] (fun x=>av x.cells) true (pz op a b) (jQ op a b) (JB op a b)
def yg (rv:Term→(List ah)→ah) (rp:Term→(List ah)→Prop) (rf:∀ (t:Term) (cells:List ah),rp t cells→iU Tryz.prog 174 [av t.cells,lv ah.cells cells] [] (av (rv t cells).cells) []) (t:Term) (cells:List ah):eo (ah):=⟨Tryz.prog,174,[av t.cells,lv ah.cells cells],fun x=>av x.cells,true,rv t cells,rp t cells,rf t cells,fun _=>True,trivial⟩
def jB (rv:Term→(List ah)→ah) (rp:Term→(List ah)→Prop) (rf:∀ (t:Term) (cells:List ah),rp t cells→iU Tryz.prog 174 [av t.cells,lv ah.cells cells] [] (av (rv t cells).cells) []) (t:Term) (cells:List ah):Sk (ah) :=
 .bind false (fun b1=>b1=(t.op == 0||t.op == 1))
 (.br (t.op == 0)
 (.fin (.inr (t.op == 0)))
 (.fin (.inr (t.op == 1))))
 (fun (b1:Bool)=>⟨[(9,bv b1)],[]⟩) fun b1 =>
 .br b1
 (.fin ({ known:=true,n:=t.n }:ah))
 (.br (t.op == 2)
 (.r 6 ((ye t.n cells).c) fun x2 =>
 .fin x2)
 (.r 7 (.o [.dy (gr ah.E ([]:List ah))]) fun _ =>
 .bind true (fun b3=>b3.length=t.args.length∧∀ q,q < t.args.length→b3.getD q default=rv (t.args.getD q default) cells)
 (.loop (default:Sum (ah) ((List ah))) (fun i4=>i4.1.length=i4.2∧i4.2≤t.args.length∧∀ q,q < i4.2→i4.1.getD q default=rv (t.args.getD q default) cells) (fun i4=>t.args.length - i4.2) ((([]:List ah),0):(List ah) × Nat)
 (fun (i4:(List ah) × Nat)=>⟨[(5,ow 100002 i4.1),(6,iv (i4.2:Int))],[(100002,fg 78 2 ah.cells i4.1)]⟩) fun i4 =>
 .lt 2 2 i4.2 t.args.length
 (.r 11 (.au (.au (.p (bz (i4.2:Int) t.args.length)) (.o [.cast 33 (Sr (Term.zY (t.args.getD i4.2 default)))])) (.fA ((yg rv rp rf (t.args.getD i4.2 default) cells).c) fun x5=>.au (.o [.dy (gr ah.E [x5])]) (.au (.o [.dy (nY ah.E i4.1 [x5])]) (.au (.t (ah.E.sE [x5])) (.p (zb i4.1.length [x5].length 16)))))) fun x5 =>
 .nx 10 6 i4.2 (i4.1++[x5],i4.2+1))
 (.fin (.inl (.inr i4.1))))
 (fun (b3:(List ah))=>⟨[(5,ow 100001 b3)],[(100001,fg 78 2 ah.cells b3)]⟩) fun b3 =>
 .br (t.op == 3)
 (.r 14 (.au (.p (bz (0:Int) b3.length)) (.p (0 < b3.length))) fun _ =>
 .br (!((b3.getD 0 default).known))
 (.fin ({ known:=false,n:=0 }:ah))
 (.r 16 (.au (.p (bz (0:Int) b3.length)) (.p (0 < b3.length))) fun _ =>
 .fin ({ known:=true,n:=ar ((1:Int) - ((b3.getD 0 default).n)) }:ah)))
 (.br (t.op == 4)
 (.r 18 (.au (.p (bz (0:Int) b3.length)) (.au (.p (0 < b3.length)) (.au (.p (bz (1:Int) b3.length)) (.au (.p (1 < b3.length)) ((tB (b3.getD 0 default) (b3.getD 1 default) 0).c))))) fun x6 =>
 .fin x6)
 (.br (t.op == 5)
 (.r 20 (.au (.p (bz (0:Int) b3.length)) (.au (.p (0 < b3.length)) (.au (.p (bz (1:Int) b3.length)) (.au (.p (1 < b3.length)) ((tB (b3.getD 0 default) (b3.getD 1 default) 1).c))))) fun x7 =>
 .fin x7)
 (.br (t.op == 6)
 (.r 22 (.au (.p (bz (0:Int) b3.length)) (.p (0 < b3.length))) fun _ =>
 .br ((b3.getD 0 default).known)
 (.r 23 (.au (.p (bz (0:Int) b3.length)) (.au (.p (0 < b3.length)) (.au (.p (bz (ar ((2:Int) - ((b3.getD 0 default).n))) b3.length)) (.p ((ar ((2:Int) - ((b3.getD 0 default).n))).toNat < b3.length))))) fun _ =>
 .fin (b3.getD ((ar ((2:Int) - ((b3.getD 0 default).n))).toNat) default))
 (.r 24 (.au (.p (bz (1:Int) b3.length)) (.au (.p (1 < b3.length)) (.au (.wh ((b3.getD 1 default).known) true (.p (bz (2:Int) b3.length))) (.au (.wh ((b3.getD 1 default).known) true (.p (2 < b3.length))) (.au (.wh (((b3.getD 1 default).known)&&((b3.getD 2 default).known)) true (.p (bz (1:Int) b3.length))) (.au (.wh (((b3.getD 1 default).known)&&((b3.getD 2 default).known)) true (.p (1 < b3.length))) (.au (.wh (((b3.getD 1 default).known)&&((b3.getD 2 default).known)) true (.p (bz (2:Int) b3.length))) (.wh (((b3.getD 1 default).known)&&((b3.getD 2 default).known)) true (.p (2 < b3.length)))))))))) fun _ =>
 .br ((((b3.getD 1 default).known)&&((b3.getD 2 default).known))&&(((b3.getD 1 default).n) == ((b3.getD 2 default).n)))
 (.r 25 (.au (.p (bz (1:Int) b3.length)) (.p (1 < b3.length))) fun _ =>
 .fin (b3.getD 1 default))
 (.fin ({ known:=false,n:=0 }:ah))))
 (.r 27 (.au (.p (bz (0:Int) b3.length)) (.au (.p (0 < b3.length)) (.au (.wh (!((b3.getD 0 default).known)) false (.p (bz (1:Int) b3.length))) (.wh (!((b3.getD 0 default).known)) false (.p (1 < b3.length)))))) fun _ =>
 .br ((!((b3.getD 0 default).known))||(!((b3.getD 1 default).known)))
 (.fin ({ known:=false,n:=0 }:ah))
 (.r 29 (.au (.p (bz (0:Int) b3.length)) (.au (.p (0 < b3.length)) (.au (.p (bz (1:Int) b3.length)) (.au (.p (1 < b3.length)) ((v8 t.op ((b3.getD 0 default).n) ((b3.getD 1 default).n)).c))))) fun x8 =>
 .fin x8)))))))
def bT:Nat→Term→(List ah)→ah
 | 0,_,_=>default
 | fu+1,t,cells=>(jB (bT fu) (fun _ _=>False) (fun _ _=>fun h=>h.elim) t cells).val
def Qn (fu:Nat) (cs:List ah) (x:Term) (s:List ah):ah ⊕ List ah:=.inr (s++[bT fu x cs])
def oS (op:Int) (l:List ah):ah :=
 bif op == 3 then (bif !(l.getD 0 default).known then ⟨false,0⟩ else ⟨true,ar ((1:Int) - (l.getD 0 default).n)⟩)
 else bif op == 4 then ru (l.getD 0 default) (l.getD 1 default) 0
 else bif op == 5 then ru (l.getD 0 default) (l.getD 1 default) 1
 else bif op == 6 then (bif (l.getD 0 default).known then l.getD (ar ((2:Int) - (l.getD 0 default).n)).toNat default else bif ((l.getD 1 default).known&&(l.getD 2 default).known)&&((l.getD 1 default).n == (l.getD 2 default).n) then l.getD 1 default else ⟨false,0⟩)
 else bif (!(l.getD 0 default).known)||(!(l.getD 1 default).known) then ⟨false,0⟩ else jQ op (l.getD 0 default).n (l.getD 1 default).n
theorem RG (fu:Nat) (cs:List ah) (fin:List ah→ah):∀ (ts:List Term) (l:List ah),walk (Qn fu cs) fin ts l=fin (l++ts.map fun x=>bT fu x cs)
 | [],l=>by simp [walk]
 | x :: r,l=>by simp only [walk,Qn]; rw [RG fu cs fin r]; simp
theorem eval_eq (fu:Nat) (t:Term) (cs:List ah):bT (fu+1) t cs =
  bif (t.op == 0)||(t.op == 1) then ⟨true,t.n⟩ else bif t.op == 2 then m9 t.n cs else oS t.op (t.args.map fun x=>bT fu x cs):=by
 show (jB (bT fu) (fun _ _=>False) (fun _ _ h=>h.elim) t cs).val=_
 simp only [jB,Sk.bU,Sk.aZ,Sk.cu,Sk.cS,Sk.aN,bD.tJ,eo.qB,kk,kp,ye,tB,v8]
 have e:∀ (b c:Bool) (X Y:ah),dZ (bif b then (Sum.inr b:Sum ah Bool) else .inr c) (fun b1=>bif b1 then X else Y)=bif b||c then X else Y:=fun b c X Y=>by cases b <;> rfl
 rw [e]
 congr 1
 congr 1
 refine (a9 t.args (fun s i=>(s,i)) (Qn fu cs) id _ (fun s i hi=>?_) (fun s=>?_) (by simp) []).trans ?_
 ·simp only [Sk.bQ,Sk.aZ,Sk.bU,Sk.cw,Sk.aN,bD.tJ,bD.PM,eo.qB,kk,kp,yg]
  rw [decide_eq_true (by omega),cond_true]
  rfl
 ·simp only [Sk.bQ,Sk.aZ,Sk.bU,Sk.cw,Sk.aN,eo.qB,kk,kp]
  rw [decide_eq_false (by omega),cond_false]
  rfl
 ·rw [RG,List.nil_append]
  rfl
def RH (c:ah):Prop:=c.known=true→-1099511627776≤c.n∧c.n≤1099511627776
theorem HX (n:Int):yP n=pM n:=by
 show cp (-1099511627776) (eG 1099511627776 n)=eG (cp n (-1099511627776)) 1099511627776
 unfold cp eG
 (repeat' split) <;> omega
theorem LZ (n:Int) : -1099511627776≤pM n∧pM n≤1099511627776:=by
 show -1099511627776≤eG (cp n (-1099511627776)) 1099511627776∧eG (cp n (-1099511627776)) 1099511627776≤1099511627776
 unfold cp eG
 (repeat' split) <;> omega
theorem Qo (n:Int) (cs:List ah) (h:0≤n∧n≤19):m9 n cs=BB (cs.getD n.toNat default) n:=by
 have e:m9 n cs=bif (decide (n < 0))||(decide (n≥(cs.length:Int))) then ⟨false,0⟩ else bif !(cs.getD n.toNat default).known then ⟨false,0⟩ else bif (tw n).1 == 0 then ⟨true,yP (cs.getD n.toNat default).n⟩ else bif (cs.getD n.toNat default).n != 0 then ⟨true,1⟩ else ⟨true,0⟩:=rfl
 have ev:(tw n).1=if n < 7 then 0 else 1:=by
  have e:tw n=bif (decide (n < 0))||(decide (n≥20)) then ((0:Int),false) else bif decide (n≤6) then (0,true) else (1,true):=rfl
  have e2:((decide (n < 0))||(decide (n≥20)))=false:=by simp only [LN]; omega
  rw [e,e2,cond_false]
  by_cases c:n≤6
  ·rw [decide_eq_true c,if_pos (by omega)]; rfl
  ·rw [decide_eq_false c,if_neg (by omega)]; rfl
 rw [e,ev,HX]
 unfold BB
 by_cases hl:n≥(cs.length:Int)
 ·have e:cs.getD n.toNat default=⟨false,0⟩:=by
   rw [List.getD,List.getElem?_eq_none (by omega)]
   rfl
  rw [e,decide_eq_true hl,Bool.or_true]; rfl
 ·rw [decide_eq_false (show ¬ n < 0 by omega),decide_eq_false hl]
  cases hk:(cs.getD n.toNat default).known with
  | false=>rfl
  | true =>
   by_cases c:n < 7
   ·rw [decide_eq_true c,if_pos c]; rfl
   ·rw [decide_eq_false c,if_neg c]
    cases hn:((cs.getD n.toNat default).n != 0) <;> rfl
theorem Zb (c:ah) (n:Int) (h:n < 7):RH (BB c n):=by
 unfold BB
 rw [decide_eq_true h]
 cases c.known with
 | false=>intro h; cases h
 | true=>intro _; exact LZ _
theorem abs_eq (a:Int) (ha : -1099511627776≤a∧a≤1099511627776):cp a (ar (0 - a))=(if a < 0 then -a else a)∧0≤cp a (ar (0 - a))∧cp a (ar (0 - a))≤1099511627776:=by
 rw [az (by omega) (by omega)]
 unfold cp
 (repeat' split) <;> omega
theorem Kw {α β:Type} (c:Bool) (x y:β) (f:β→α):dZ (bif c then (Sum.inr x:α ⊕ β) else .inr y) f=f (bif c then x else y):=by cases c <;> rfl
theorem Qp (a b:Int) (ha : -1099511627776≤a∧a≤1099511627776) (hb : -1099511627776≤b∧b≤1099511627776):uZ a b=jK a b∧(-1099511627776≤jK a b∧jK a b≤1099511627776):=by
 obtain ⟨-,x0,x1⟩:=abs_eq a ha
 obtain ⟨ey,y0,y1⟩:=abs_eq b hb
 obtain ⟨ex,-,-⟩:=abs_eq a ha
 have e1:uZ a b=bif (a == 0)||(b == 0) then 0 else
   (fun p:Int × Int=>bif !((decide (a < 0)) == (decide (b < 0))) then ar ((ar (0 - p.1)) * p.2) else ar (p.1 * p.2))
    (bif decide ((cp a (ar (0 - a))) > (ar ((1099511627776:Int).tdiv (cp b (ar (0 - b)))))) then (1099511627776,1) else (cp a (ar (0 - a)),cp b (ar (0 - b)))):=by
  simp only [uZ,nV,Sk.bU,Sk.aZ,Sk.cu,Sk.aN]
  cases ((a == 0)||(b == 0)) with
  | true=>rfl
  | false=>simp only [cond_false]; cases decide ((cp a (ar (0 - a))) > (ar ((1099511627776:Int).tdiv (cp b (ar (0 - b)))))) <;> rfl
 have e2:jK a b=(fun n:Int=>bif !((decide (a < 0)) == (decide (b < 0))) then ar (0 - n) else n)
   (bif ((cr (IntKind.u64.wrap (cp a (ar (0 - a)))) (IntKind.u64.wrap (cp b (ar (0 - b))))).1 == 0)&&(decide ((cr (IntKind.u64.wrap (cp a (ar (0 - a)))) (IntKind.u64.wrap (cp b (ar (0 - b))))).2 < 1099511627776)) then ar (cr (IntKind.u64.wrap (cp a (ar (0 - a)))) (IntKind.u64.wrap (cp b (ar (0 - b))))).2 else 1099511627776):=by
  simp only [jK,jW,Sk.bU,Sk.aZ,Sk.cu,Sk.aN,eo.qB,kk,kp,lr]
  exact Kw _ _ _ _
 rw [e1,e2]
 generalize hX:cp a (ar (0 - a))=X at *
 generalize hY:cp b (ar (0 - b))=Y at *
 rw [fR (by omega) (by omega),fR (by omega) (by omega)]
 have hm:=NX X Y ⟨by omega,by omega⟩ ⟨by omega,by omega⟩
 generalize cr X Y=p at hm ⊢
 by_cases hz:a=0∨b=0
 ·have hc:((a == 0)||(b == 0))=true:=by simp only [LN]; exact hz
  have hp:X * Y=0:=by
   rcases hz with h | h
   ·rw [show X=0 by subst h; simpa using ex]; exact Int.zero_mul _
   ·rw [show Y=0 by subst h; simpa using ey]; exact Int.mul_zero _
  have h1:p.1=0:=by omega
  have h2:p.2=0:=by omega
  rw [hc,cond_true,h1,h2]
  have:ar 0=0:=rfl
  cases ((decide (a < 0)) == (decide (b < 0))) <;> exact ⟨rfl,by decide⟩
 ·have hc:((a == 0)||(b == 0))=false:=by simp only [LN]; omega
  have hY1:1≤Y:=by
   by_cases h:b < 0
   ·rw [if_pos h] at ey; omega
   ·rw [if_neg h] at ey; omega
  have hq:=UT ⟨x0,x1⟩ ⟨hY1,y1⟩
  rw [hc,cond_false,Int.tdiv_eq_ediv_of_nonneg (by omega)]
  have hd:0≤1099511627776 / Y∧1099511627776 / Y≤1099511627776:=⟨Int.ediv_nonneg (by omega) (by omega),Int.ediv_le_self _ (by omega)⟩
  rw [az (n:=1099511627776 / Y) (by omega) (by omega)]
  have two:∀ n:Int,0≤n→n≤1099511627776→ar n=n∧ar (0 - n)=0 - n∧(-1099511627776≤0 - n∧0 - n≤1099511627776):=fun n h1 h2=>⟨az (by omega) (by omega),az (by omega) (by omega),by omega⟩
  generalize hXY:X * Y=P at hm hq
  by_cases hg:X > 1099511627776 / Y
  ·rw [decide_eq_true hg,cond_true]
   have adI:=hq.1 hg
   have uj:((p.1 == 0)&&(decide (p.2 < 1099511627776)))=false:=by simp only [LN]; omega
   rw [uj,cond_false]
   cases ((decide (a < 0)) == (decide (b < 0))) <;> exact ⟨rfl,by decide⟩
  ·rw [decide_eq_false hg,cond_false]
   have hs:=hq.2.1 (by omega)
   have h1:p.1=0:=by omega
   have h2:p.2=P:=by omega
   have tP:=two P hs.1 hs.2
   have tX:=two X x0 x1
   have eL:∀ c:Bool,(bif !c then ar ((ar (0 - X)) * Y) else ar (X * Y))=bif !c then 0 - P else P:=fun c=>by
    cases c with
    | true=>show ar (X * Y)=P; rw [hXY]; exact tP.1
    | false =>
     show ar ((ar (0 - X)) * Y)=0 - P
     rw [tX.2.1,Int.sub_mul,Int.zero_mul,hXY]; exact tP.2.1
   show (bif !((decide (a < 0)) == (decide (b < 0))) then ar ((ar (0 - X)) * Y) else ar (X * Y))=_∧_
   rw [eL]
   have eR:(bif (p.1 == 0)&&(decide (p.2 < 1099511627776)) then ar p.2 else 1099511627776)=P:=by
    rw [h1,h2]
    by_cases c:P < 1099511627776
    ·rw [decide_eq_true c]; exact tP.1
    ·rw [decide_eq_false c]; show (1099511627776:Int)=P; omega
   simp only [eR]
   cases ((decide (a < 0)) == (decide (b < 0))) with
   | true=>exact ⟨rfl,by simp only [Bool.not_true,cond_false]; omega⟩
   | false=>exact ⟨tP.2.1.symm,by simp only [Bool.not_false,cond_true]; rw [tP.2.1]; exact tP.2.2⟩
theorem ry (op:Int) (cs:List ah) (ns:List (List Int)):(n8 op cs ns).1=bif (cC op cs).known then cC op cs else ⟨false,0⟩:=by
 unfold n8
 cases (cC op cs).known <;> rfl
theorem Qq (op a b:Int) (h:9≤op∧op≤13) (ha : -1099511627776≤a∧a≤1099511627776) (hb : -1099511627776≤b∧b≤1099511627776):jQ op a b=⟨true,dn op a b⟩∧(-1099511627776≤dn op a b∧dn op a b≤1099511627776):=by
 have:op=9∨op=10∨op=11∨op=12∨op=13:=by omega
 rcases this with rfl | rfl | rfl | rfl | rfl
 ·have e1:jQ 9 a b=⟨true,yP (ar (a+b))⟩:=rfl
  have e2:dn 9 a b=pM (ar (a+b)):=rfl
  rw [e1,e2,HX]; exact ⟨rfl,LZ _⟩
 ·have e1:jQ 10 a b=⟨true,yP (ar (a - b))⟩:=rfl
  have e2:dn 10 a b=pM (ar (a - b)):=rfl
  rw [e1,e2,HX]; exact ⟨rfl,LZ _⟩
 ·have e1:jQ 11 a b=⟨true,uZ a b⟩:=rfl
  have e2:dn 11 a b=jK a b:=rfl
  have:=Qp a b ha hb
  rw [e1,e2,this.1]; exact ⟨rfl,this.2⟩
 ·have e1:jQ 12 a b=⟨true,eG a b⟩:=rfl
  have e2:dn 12 a b=eG a b:=rfl
  rw [e1,e2]; refine ⟨rfl,?_⟩; unfold eG; split <;> omega
 ·have e1:jQ 13 a b=⟨true,cp a b⟩:=rfl
  have e2:dn 13 a b=cp a b:=rfl
  rw [e1,e2]; refine ⟨rfl,?_⟩; unfold cp; split <;> omega
theorem U8 (a b:ah) (z:Int) (hz:z=0∨z=1):ru a b z=bif (a.known&&(a.n == z))||(b.known&&(b.n == z)) then ⟨true,z⟩ else bif a.known&&b.known then ⟨true,1 - z⟩ else ⟨false,0⟩:=by
 have e:ru a b z=bif (a.known&&(a.n == z))||(b.known&&(b.n == z)) then ⟨true,z⟩ else bif a.known&&b.known then ⟨true,ar ((1:Int) - z)⟩ else ⟨false,0⟩:=rfl
 rw [e,az (by omega) (by omega)]
theorem DG {t:Term} {k:Int} (h:pO t k):∀ (fu:Nat) (cs:List ah),t.depth≤fu→bT fu t cs=(ae fu ⟨cs⟩ t).1∧(k=1→VH (ae fu ⟨cs⟩ t).1)∧(k=0→RH (ae fu ⟨cs⟩ t).1):=by
 induction h with
 | int h =>
  intro fu cs hd
  obtain ⟨fu,rfl⟩:∃ m,fu=m+1:=⟨fu - 1,by simp only [Term.depth] at hd; omega⟩
  rw [eval_eq,Rl]
  exact ⟨rfl,fun e=>by omega,fun _ _=>h⟩
 | bool h =>
  intro fu cs hd
  obtain ⟨fu,rfl⟩:∃ m,fu=m+1:=⟨fu - 1,by simp only [Term.depth] at hd; omega⟩
  rw [eval_eq,Nv]
  exact ⟨rfl,fun _ _=>by dsimp only; omega,fun e=>by omega⟩
 | @var n h =>
  intro fu cs hd
  obtain ⟨fu,rfl⟩:∃ m,fu=m+1:=⟨fu - 1,by simp only [Term.depth] at hd; omega⟩
  rw [eval_eq,Rm,Nx _ _ h]
  have e:(bif (BB (cs.getD n.toNat default) n).known then (BB (cs.getD n.toNat default) n,([]:List Int)) else (⟨false,0⟩,[n])).1=BB (cs.getD n.toNat default) n:=by
   unfold BB
   cases (cs.getD n.toNat default).known with
   | false=>rfl
   | true=>cases decide (n < 7) <;> rfl
  rw [e]
  refine ⟨Qo n cs h,fun e=>UL _ _ ?_,fun e=>Zb _ _ ?_⟩
  ·by_cases c:n < 7
   ·rw [if_pos c] at e; omega
   ·omega
  ·by_cases c:n < 7
   ·exact c
   ·rw [if_neg c] at e; omega
 | @not a ha ih =>
  intro fu cs hd
  obtain ⟨fu,rfl⟩:∃ m,fu=m+1:=⟨fu - 1,by simp only [Term.depth] at hd; omega⟩
  simp only [Term.depth,Term.bO] at hd
  obtain ⟨e1,hb,-⟩:=ih fu cs (by omega)
  rw [eval_eq,Rn,ry,Nw]
  show oS 3 [bT fu a cs]=_∧_
  rw [e1]
  generalize (ae fu ⟨cs⟩ a).1=c at hb ⊢
  have hb:=hb rfl
  have e:(bif (bif c.known then lR (c.n == 0) else ⟨false,0⟩).known then (bif c.known then lR (c.n == 0) else ⟨false,0⟩) else (⟨false,0⟩:ah))=bif c.known then lR (c.n == 0) else ⟨false,0⟩:=by
   rw [xI]; cases c.known <;> rfl
  rw [e]
  have ev:oS 3 [c]=bif !c.known then ⟨false,0⟩ else ⟨true,ar ((1:Int) - c.n)⟩:=rfl
  rw [ev]
  cases hk:c.known with
  | false=>exact ⟨rfl,fun _ h=>(by cases h),fun h=>by omega⟩
  | true =>
   have:=hb hk
   refine ⟨?_,fun _=>Ro _,fun h=>by omega⟩
   show (⟨true,ar (1 - c.n)⟩:ah)=lR (c.n == 0)
   rw [xI]
   rcases this with h | h <;> rw [h] <;> rfl
 | @Lh op a b ho ha hb AZ zB =>
  intro fu cs hd
  obtain ⟨fu,rfl⟩:∃ m,fu=m+1:=⟨fu - 1,by simp only [Term.depth] at hd; omega⟩
  simp only [Term.depth,Term.bO] at hd
  obtain ⟨e1,-,-⟩:=AZ fu cs (by omega)
  obtain ⟨e2,-,-⟩:=zB fu cs (by omega)
  rw [eval_eq,s6 _ _ _ _ (by omega),ry,Kf op ho]
  have ev:∀ x y:ah,(bif (op == 0)||(op == 1) then (⟨true,0⟩:ah) else bif op == 2 then m9 0 cs else oS op [x,y])=ru x y (if op=5 then 1 else 0):=fun x y=>by rcases ho with rfl | rfl <;> rfl
  show (bif (op == 0)||(op == 1) then (⟨true,0⟩:ah) else bif op == 2 then m9 0 cs else oS op [bT fu a cs,bT fu b cs])=_∧_
  rw [ev,e1,e2,U8 _ _ _ (by split <;> simp)]
  generalize (ae fu ⟨cs⟩ a).1=x
  generalize (ae fu ⟨cs⟩ b).1=y
  have hz:(if op=5 then (1:Int) else 0)=0∨(if op=5 then (1:Int) else 0)=1:=by split <;> simp
  generalize (if op=5 then (1:Int) else 0)=z at hz ⊢
  dsimp only
  cases ((x.known&&(x.n == z))||(y.known&&(y.n == z))) with
  | true=>exact ⟨rfl,fun _ _=>hz,fun h=>by omega⟩
  | false =>
   cases (x.known&&y.known) with
   | true=>exact ⟨rfl,fun _ _=>by simp only [cond_false,cond_true]; omega,fun h=>by omega⟩
   | false=>exact ⟨rfl,fun _ h=>(by cases h),fun h=>by omega⟩
 | @ite a b c k ha hb hc AZ zB YV =>
  intro fu cs hd
  obtain ⟨fu,rfl⟩:∃ m,fu=m+1:=⟨fu - 1,by simp only [Term.depth] at hd; omega⟩
  simp only [Term.depth,Term.bO] at hd
  obtain ⟨e1,b1,-⟩:=AZ fu cs (by omega)
  obtain ⟨e2,b2,s2⟩:=zB fu cs (by omega)
  obtain ⟨e3,b3,s3⟩:=YV fu cs (by omega)
  rw [eval_eq,run_ite]
  show oS 6 [bT fu a cs,bT fu b cs,bT fu c cs]=_∧_
  rw [e1,e2,e3]
  dsimp only
  generalize ae fu ⟨cs⟩ a=x at b1 ⊢
  generalize ae fu ⟨cs⟩ b=y at b2 s2 ⊢
  generalize ae fu ⟨cs⟩ c=z at b3 s3 ⊢
  have ev:oS 6 [x.1,y.1,z.1]=bif x.1.known then [x.1,y.1,z.1].getD (ar ((2:Int) - x.1.n)).toNat default else bif (y.1.known&&z.1.known)&&(y.1.n == z.1.n) then y.1 else ⟨false,0⟩:=rfl
  rw [ev]
  cases hk:x.1.known with
  | true =>
   simp only [cond_true]
   rcases b1 rfl hk with h | h
   ·rw [h]
    exact ⟨trivial,b3,s3⟩
   ·rw [h]
    exact ⟨trivial,b2,s2⟩
  | false =>
   simp only [cond_false]
   rw [ry,Rp,Bool.and_assoc]
   cases hq:(y.1.known&&(z.1.known&&(y.1.n == z.1.n))) with
   | false=>exact ⟨rfl,fun _ h=>(by cases h),fun _ h=>by cases h⟩
   | true =>
    have:y.1.known=true:=by simp only [Bool.and_eq_true] at hq; exact hq.1
    simp only [cond_true,this]
    exact ⟨trivial,b2,s2⟩
 | @less a b ha hb AZ zB =>
  intro fu cs hd
  obtain ⟨fu,rfl⟩:∃ m,fu=m+1:=⟨fu - 1,by simp only [Term.depth] at hd; omega⟩
  simp only [Term.depth,Term.bO] at hd
  obtain ⟨e1,-,-⟩:=AZ fu cs (by omega)
  obtain ⟨e2,-,-⟩:=zB fu cs (by omega)
  rw [eval_eq,s6 _ _ _ _ (by omega),ry,rV 7 (by omega),if_pos rfl]
  show oS 7 [bT fu a cs,bT fu b cs]=_∧_
  rw [e1,e2]
  generalize (ae fu ⟨cs⟩ a).1=x
  generalize (ae fu ⟨cs⟩ b).1=y
  have ev:oS 7 [x,y]=bif (!x.known)||(!y.known) then ⟨false,0⟩ else DF (decide (x.n < y.n)):=rfl
  rw [ev,xI]
  cases x.known <;> cases y.known
  ·exact ⟨rfl,fun _ h=>(by cases h),fun h=>by omega⟩
  ·exact ⟨rfl,fun _ h=>(by cases h),fun h=>by omega⟩
  ·exact ⟨rfl,fun _ h=>(by cases h),fun h=>by omega⟩
  ·cases decide (x.n < y.n)
   ·exact ⟨rfl,fun _ _=>.inl rfl,fun h=>by omega⟩
   ·exact ⟨rfl,fun _ _=>.inr rfl,fun h=>by omega⟩
 | @eq a b k ha hb AZ zB =>
  intro fu cs hd
  obtain ⟨fu,rfl⟩:∃ m,fu=m+1:=⟨fu - 1,by simp only [Term.depth] at hd; omega⟩
  simp only [Term.depth,Term.bO] at hd
  obtain ⟨e1,-,-⟩:=AZ fu cs (by omega)
  obtain ⟨e2,-,-⟩:=zB fu cs (by omega)
  rw [eval_eq,s6 _ _ _ _ (by omega),ry,rV 8 (by omega),if_neg (by omega),if_pos rfl]
  show oS 8 [bT fu a cs,bT fu b cs]=_∧_
  rw [e1,e2]
  generalize (ae fu ⟨cs⟩ a).1=x
  generalize (ae fu ⟨cs⟩ b).1=y
  have ev:oS 8 [x,y]=bif (!x.known)||(!y.known) then ⟨false,0⟩ else DF (x.n == y.n):=rfl
  rw [ev,xI]
  cases x.known <;> cases y.known
  ·exact ⟨rfl,fun _ h=>(by cases h),fun h=>by omega⟩
  ·exact ⟨rfl,fun _ h=>(by cases h),fun h=>by omega⟩
  ·exact ⟨rfl,fun _ h=>(by cases h),fun h=>by omega⟩
  ·cases (x.n == y.n)
   ·exact ⟨rfl,fun _ _=>.inl rfl,fun h=>by omega⟩
   ·exact ⟨rfl,fun _ _=>.inr rfl,fun h=>by omega⟩
 | @arith op a b ho ha hb AZ zB =>
  intro fu cs hd
  obtain ⟨fu,rfl⟩:∃ m,fu=m+1:=⟨fu - 1,by simp only [Term.depth] at hd; omega⟩
  simp only [Term.depth,Term.bO] at hd
  obtain ⟨e1,-,s1⟩:=AZ fu cs (by omega)
  obtain ⟨e2,-,s2⟩:=zB fu cs (by omega)
  have s1:=s1 rfl
  have s2:=s2 rfl
  rw [eval_eq,s6 _ _ _ _ (by omega),ry,rV op (by omega),if_neg (by omega),if_neg (by omega)]
  have ev:∀ x y:ah,(bif (op == 0)||(op == 1) then (⟨true,0⟩:ah) else bif op == 2 then m9 0 cs else oS op [x,y])=bif (!x.known)||(!y.known) then ⟨false,0⟩ else jQ op x.n y.n:=fun x y=>by
   have:op=9∨op=10∨op=11∨op=12∨op=13:=by omega
   rcases this with rfl | rfl | rfl | rfl | rfl <;> rfl
  show (bif (op == 0)||(op == 1) then (⟨true,0⟩:ah) else bif op == 2 then m9 0 cs else oS op [bT fu a cs,bT fu b cs])=_∧_
  rw [ev,e1,e2]
  generalize (ae fu ⟨cs⟩ a).1=x at s1 ⊢
  generalize (ae fu ⟨cs⟩ b).1=y at s2 ⊢
  cases hx:x.known <;> cases hy:y.known
  ·exact ⟨rfl,fun h=>by omega,fun _ h=>by cases h⟩
  ·exact ⟨rfl,fun h=>by omega,fun _ h=>by cases h⟩
  ·exact ⟨rfl,fun h=>by omega,fun _ h=>by cases h⟩
  ·have:=Qq op x.n y.n ho (s1 hx) (s2 hy)
   exact ⟨this.1,fun h=>by omega,fun _ _=>this.2⟩
theorem Od (fu:Nat) (rf:∀ (t:Term) (cells:List ah),t.depth≤fu∧(t.pP)→iU Tryz.prog 174 [av t.cells,lv ah.cells cells] [] (av (bT fu t cells).cells) []) (t:Term) (cells:List ah) (hm:t.depth≤fu+1) (ht:t.pP):(jB (bT fu) (fun t cells=>t.depth≤fu∧(t.pP)) rf t cells).bE (fun _=>True):=by
 refine Sk.bm _ ?_
 unfold jB
 simp only [Sk.j2,Sk.aU,reduceCtorEq,ON,kk,kp,ye,tB,v8,yg,maxLen]
 obtain ⟨⟨k,hk⟩,h8⟩:=ht
 have Lk:=hk.parts
 refine ⟨⟨fun _=>by simp_all,fun _=>by simp_all⟩,fun b _ hb ZX h2 _=>?_⟩
 rw [hb] at ZX
 simp only [LN] at ZX h2
 have hp:(∀ q,q < t.args.length→∃ j,pO (t.args.getD q default) j)∧((t.op=3∧t.args.length=1)∨(t.op=6∧t.args.length=3∧pO (t.args.getD 0 default) 1)∨(t.op≠0∧t.op≠1∧t.op≠2∧t.op≠3∧t.op≠6∧t.args.length=2)):=by
  rcases Lk with h | h
  ·omega
  ·exact h
 obtain ⟨hp1,hp2⟩:=hp
 have hlen:t.args.length≤3:=by omega
 have EK:∀ q,q < t.args.length→(t.args.getD q default).depth≤fu∧(t.args.getD q default).depth≤8:=fun q hq=>by have:=t.fS q hq; omega
 refine ⟨⟨⟨rfl,Nat.zero_le _,fun q hq=>absurd hq (by omega)⟩,fun i hi hl=>⟨fun hc=>⟨⟨⟨by omega,of_decide_eq_true hc⟩,⟨?_,?_⟩,fun x _=>⟨?_,?_⟩⟩,fun x hx _=>⟨?_,⟨?_,?_,fun q hq=>?_⟩,?_⟩⟩,fun hc=>?_⟩⟩,fun b hb=>?_⟩
 all_goals (try simp only [LN] at hc)
 ·exact (EK _ (by omega)).1
 ·exact ⟨hp1 _ (by omega),(EK _ (by omega)).2⟩
 ·show i.1.length+1≤_; omega
 ·show (i.1.length+1) * 16≤_; omega
 ·exact (az (by omega) (by omega)).trans (by omega)
 ·rw [List.length_append]; show i.1.length+1=_; omega
 ·omega
 ·by_cases e:q < i.2
  ·rw [← hi.2.2 q e]
   simp [List.getD,List.getElem?_append_left (show q < i.1.length by omega)]
  ·have e2:q=i.1.length:=by omega
   have e3:i.2=i.1.length:=by omega
   rw [hx,e2,e3]
   simp [List.getD]
 ·omega
 ·exact ⟨by omega,fun q hq=>hi.2.2 q (by omega)⟩
 ·obtain ⟨hbl,hbv⟩:=hb
  have hN:t.op≠3→t.op≠6→(b.getD 1 default).known=true→-9223372036854775808≤(b.getD 1 default).n∧(b.getD 1 default).n≤9223372036854775807:=fun a c XH=>by
   obtain ⟨j,hj⟩:=hp1 1 (by omega)
   have hs:=DG hj fu cells (EK 1 (by omega)).1
   rw [hbv 1 (by omega),hs.1] at XH ⊢
   rcases hj.kind with h0 | h0
   ·have:=hs.2.2 h0 XH; omega
   ·have:=hs.2.1 h0 XH; omega
  have hB:t.op=6→(b.getD 0 default).known=true→(b.getD 0 default).n=0∨(b.getD 0 default).n=1:=fun a XH=>by
   rcases hp2 with h | h | h
   ·omega
   ·have hs:=DG h.2.2 fu cells (EK 0 (by omega)).1
    rw [hbv 0 (by omega),hs.1] at XH ⊢
    exact hs.2.1 rfl XH
   ·omega
  simp only [LN]
  refine ⟨fun h3=>⟨⟨⟨by omega,by omega⟩,by omega⟩,fun _ _=>⟨⟨by omega,by omega⟩,by omega⟩⟩,fun h3=>⟨fun h4=>⟨⟨by omega,by omega⟩,by omega,⟨by omega,by omega⟩,by omega⟩,fun h4=>⟨fun h5=>⟨⟨by omega,by omega⟩,by omega,⟨by omega,by omega⟩,by omega⟩,fun h5=>⟨fun h6=>⟨⟨⟨by omega,by omega⟩,by omega⟩,fun _=>⟨fun hk=>?_,fun hk=>⟨⟨⟨by omega,by omega⟩,by omega,fun _=>⟨by omega,by omega⟩,fun _=>by omega,fun _=>⟨by omega,by omega⟩,fun _=>by omega,fun _=>⟨by omega,by omega⟩,fun _=>by omega⟩,fun _ _=>⟨⟨by omega,by omega⟩,by omega⟩⟩⟩⟩,fun h6=>⟨⟨⟨by omega,by omega⟩,by omega,fun _=>⟨by omega,by omega⟩,fun _=>by omega⟩,fun _ XH=>⟨⟨by omega,by omega⟩,by omega,⟨by omega,by omega⟩,by omega,hN h3 h6 XH.2⟩⟩⟩⟩⟩⟩
  have:=hB h6 hk
  rw [az (by omega) (by omega)]
  exact ⟨⟨by omega,by omega⟩,by omega,⟨by omega,by omega⟩,by omega⟩
theorem L0 (fu:Nat) (rp:Term→(List ah)→Prop) (rf:∀ (t:Term) (cells:List ah),rp t cells→iU Tryz.prog 174 [av t.cells,lv ah.cells cells] [] (av (bT fu t cells).cells) []) (t:Term) (cells:List ah):(jB (bT fu) rp rf t cells).val=bT (fu+1) t cells:=by kernel_rfl
theorem L1 (fu:Nat):∀ (t:Term) (cells:List ah),t.depth≤fu→t.pP→iU Tryz.prog 174 [av t.cells,lv ah.cells cells] [] (av (bT fu t cells).cells) []:=by
 induction fu with
 | zero=>intro t cells hm h0; exact absurd hm (by have:=Term.fK t; omega)
 | succ fu ih =>
  intro t cells hm h0
  have h:iU Tryz.prog 174 [av t.cells,lv ah.cells cells] [] (av ((jB (bT fu) (fun t cells=>t.depth≤fu∧(t.pP)) (fun t cells h=>ih t cells h.1 h.2) t cells).val).cells) []:=iU.sk tok mixed (fun x=>av x.cells) (fun _=>[]) Tryz.func174 rfl (by kernel_rfl) 3000 (jB (bT fu) (fun t cells=>t.depth≤fu∧(t.pP)) (fun t cells h=>ih t cells h.1 h.2) t cells) (by kernel_rfl) (Od fu _ t cells hm h0)
  rw [L0] at h
  exact h
def Oe (t:Term) (cells:List ah):ah:=bT (t.depth) t cells
theorem Og (t:Term) (cells:List ah) (ht:t.pP):iU Tryz.prog 174 [av t.cells,lv ah.cells cells] [] (av (Oe t cells).cells) []:=L1 _ t cells (Nat.le_refl _) ht
def HZ (t:Term) (cells:List ah):eo (ah):=⟨Tryz.prog,174,[av t.cells,lv ah.cells cells],fun x=>av x.cells,true,Oe t cells,(t.pP),fun h=>Og t cells h,fun _=>True,trivial⟩
def tC (t:Term) (cells:List ah):Sk (ah) :=
 .r 1 ((pY t).c) fun x1 =>
 .br (x1.2 != 0)
 (.fin ({ known:=false,n:=0 }:ah))
 (.r 4 ((HZ t cells).c) fun x2 =>
 .fin x2)
def yh t cells:=(tC t cells).val
theorem SO {t:Term} {k:Int} (h:eO t=(k,0)) (cs:List ah):yh t cs=oz t cs:=by
 have h2:=(DE t k).1 h
 have ht:=(wD t (by rw [h])).1
 rw [h] at ht
 have e1:yh t cs=bif (gE t).2 != 0 then ⟨false,0⟩ else bT t.depth t cs:=rfl
 have e2:oz t cs=bif (eO t).2 != 0 then ⟨false,0⟩ else (ae t.depth ⟨cs⟩ t).1:=rfl
 rw [e1,e2,h,h2]
 exact (DG ht t.depth cs (Nat.le_refl _)).1
theorem Oh (t:Term) (cells:List ah):(tC t cells).bE (fun _=>True):=by
 refine Sk.bm _ ?_
 unfold tC
 simp only [Sk.j2,Sk.aU,reduceCtorEq,ON,kk,kp,pY,HZ,maxLen]
 intro x _ h hc
 simp only [LN] at hc
 exact ⟨⟨_,(h hc).1⟩,(h hc).2⟩
def Ak t cells:=kk tok mixed Tryz.func146 [av t.cells,lv ah.cells cells] (fun x=>av x.cells) true (tC t cells) (yh t cells) (u0 (Oh t cells))
def l5 (o:Order) (ask:Int) (cells:List ah):Sk (ah × Int) :=
 .r 1 ((vZ o ask).c) fun x1 =>
 .br (x1 != 0)
 (.fin (({ known:=false,n:=0 }:ah),x1))
 (.r 4 (.dep ((oO o ask).c) fun x2=>.au (.p (bz x2 o.rules.length)) ((Ak ((o.rules.getD x2.toNat default).term) cells).c)) fun p6 =>
 .r 5 (.wh p6.2.known true ((nU ask).c)) fun x4 =>
 .br (p6.2.known&&(!x4))
 (.bind false (fun _=>True)
 (.br (decide (p6.2.n < 0))
 (.fin (.inr 0))
 (.fin (.inr p6.2.n)))
 (fun (b5:Int)=>⟨[],[(9,.box [bv p6.2.known,iv b5])]⟩) fun b5 =>
 .br (decide (b5 > 20000))
 (.fin (({ known:=p6.2.known,n:=20000 }:ah),0))
 (.fin (({ known:=p6.2.known,n:=b5 }:ah),0)))
 (.fin (p6.2,0)))
def oT o ask cells:=(l5 o ask cells).val
theorem JC (o:Order) (ask:Int) (cells:List ah):(l5 o ask cells).bE (fun _=>True):=by
 refine Sk.bm _ ?_
 unfold l5
 simp only [Sk.j2,Sk.aU,reduceCtorEq,ON,kk,kp,nU,Ak,oO,vZ,maxLen]
 intro x _ hx hc y hy _
 simp only [LN] at hc
 rw [hy]
 exact hx hc
def Ca o ask cells:=kk tok mixed Tryz.func103 [av o.cells,iv ask,lv ah.cells cells] (fun x=>.ef [av x.1.cells,iv x.2]) true (l5 o ask cells) (oT o ask cells) (u0 (JC o ask cells))
theorem U9:(List.range 22).all (fun q=>decide (B9 (q:Int)=cJ (q:Int))&&((cJ (q:Int)).2&&((!(so (q:Int))) == ((cJ (q:Int)).1 == 0))))=true:=by kernel_rfl
theorem RI {q:Int} (h:0≤q∧q < 22):B9 q=cJ q∧(cJ q).2=true∧(!(so q))=((cJ q).1 == 0):=by
 have:=List.all_eq_true.1 U9 q.toNat (List.mem_range.2 (by omega))
 rw [show ((q.toNat:Nat):Int)=q by omega] at this
 simp only [Bool.and_eq_true,decide_eq_true_eq,beq_iff_eq] at this
 exact this
theorem Oi {q:Int} (h:¬ (0≤q∧q < 22)):(cJ q).2=false:=by
 have e:cJ q=bif (decide (q < 0))||(decide (q≥22)) then (0,false) else bif cx [6,7,10,12,13,14,15,16,20,21] q then (0,true) else (1,true):=rfl
 have:((decide (q < 0))||(decide (q≥22)))=true:=by simp only [LN]; omega
 rw [e,this]; rfl
theorem Ea (q:Int):nP q=decide (0≤q∧q < 22):=by
 show (decide (q≥0)&&decide (q < 22))=_
 rw [Bool.eq_iff_iff]; simp only [LN]
theorem SP (o:Order) (q:Int):gn o q=bA o.rules q:=by
 have h1:(gn o q = -1∧∀ i,i < o.rules.length→(o.rules.getD i default).ask≠q)∨(0≤gn o q∧gn o q < (o.rules.length:Int)∧(o.rules.getD (gn o q).toNat default).ask=q∧∀ i,(i:Nat) < (gn o q).toNat→(o.rules.getD i default).ask≠q):=Ju o q
 have h2:(bA o.rules q = -1∧∀ i,i < o.rules.length→cL (o.rules.getD i default) q=false)∨(0≤bA o.rules q∧bA o.rules q < o.rules.length∧cL (o.rules.getD (bA o.rules q).toNat default) q=true∧∀ i,(i:Nat) < (bA o.rules q).toNat→cL (o.rules.getD i default) q=false):=sG o.rules q
 have hc:∀ x:lj,cL x q=(x.ask == q):=fun _=>rfl
 simp only [hc,beq_iff_eq,beq_eq_false_iff_ne,ne_eq] at h2
 generalize gn o q=a at h1 ⊢
 generalize bA o.rules q=b at h2 ⊢
 rcases h1 with h1 | h1 <;> rcases h2 with h2 | h2
 ·omega
 ·exact absurd h2.2.2.1 (h1.2 _ (by omega))
 ·exact absurd h1.2.2.1 (h2.2 _ (by omega))
 ·rcases Int.lt_trichotomy a b with h | h | h
  ·exact absurd h1.2.2.1 (h2.2.2.2 _ (by omega))
  ·exact h
  ·exact absurd h2.2.2.1 (h1.2.2.2 _ (by omega))
theorem find_eq (o:Order) (q:Int):iM o q=bif !(cJ q).2 then (⟨0,0,[]⟩,1) else bif decide (bA o.rules q < 0) then (⟨0,0,[]⟩,4) else
  bif ((eO (o.rules.getD (bA o.rules q).toNat default).term).2 != 0)||((eO (o.rules.getD (bA o.rules q).toNat default).term).1 != (cJ q).1) then (⟨0,0,[]⟩,11)
  else ((o.rules.getD (bA o.rules q).toNat default).term,0):=by kernel_rfl
theorem SQ (o:Order) (q:Int):vY o q=bif !(nP q) then 1 else bif decide (gn o q < 0) then 4 else
  bif ((gE (o.rules.getD (gn o q).toNat default).term).2 != 0)||((gE (o.rules.getD (gn o q).toNat default).term).1 != (B9 q).1) then 11 else 0:=by kernel_rfl
theorem Va (t:Term) (w:Int):((gE t).2 != 0||(gE t).1 != w)=((eO t).2 != 0||(eO t).1 != w):=by
 have h:=DE t w
 have e1:∀ p:Int × Int,(p.2 != 0||p.1 != w)=false↔p=(w,0):=fun p=>by
  obtain ⟨a,b⟩:=p
  simp only [LN,Prod.mk.injEq]
  exact And.comm
 have h1:=e1 (eO t)
 have h2:=e1 (gE t)
 rw [h] at h1
 rw [Bool.eq_iff_iff,← Bool.not_eq_false,← Bool.not_eq_false,h1,h2]
theorem SR (b:Bool) (k:Bool) (m:Int):(bif b then ((⟨k,20000⟩,0):ah × Int) else (⟨k,m⟩,0))=(⟨k,bif b then 20000 else m⟩,0):=by cases b <;> rfl
theorem Oj (o:Order) (q:Int) (cs:List ah):oT o q cs=eP o q cs:=by
 have e1:oT o q cs=bif vY o q != 0 then (⟨false,0⟩,vY o q) else
   (fun x:ah=>bif x.known&&!(so q) then (⟨x.known,bif decide ((bif decide (x.n < 0) then 0 else x.n) > 20000) then 20000 else bif decide (x.n < 0) then 0 else x.n⟩,0) else (x,0)) (yh (o.rules.getD (gn o q).toNat default).term cs):=by
  simp only [oT,l5,Sk.bU,Sk.aZ,Sk.cu,Sk.aN,bD.Br,bD.tJ,bD.PN,eo.qB,kk,kp,vZ,oO,Ak,nU]
  congr 1
  cases ((yh (o.rules.getD (gn o q).toNat default).term cs).known&&!(so q)) with
  | false=>rfl
  | true =>
   simp only [cond_true,Kw]
   exact SR _ _ _
 have e2:eP o q cs=bif (iM o q).2 != 0 then (⟨false,0⟩,(iM o q).2) else
   (fun x:ah=>bif ((cJ q).1 == 0)&&x.known then (⟨x.known,eG (cp x.n 0) 20000⟩,0) else (x,0)) (oz (iM o q).1 cs):=by kernel_rfl
 rw [e1,e2,SQ,find_eq,SP,Ea]
 by_cases hq:0≤q∧q < 22
 ·obtain ⟨t1,t2,t3⟩:=RI hq
  rw [t1,Va,t2,decide_eq_true hq]
  simp only [Bool.not_true,cond_false]
  cases decide (bA o.rules q < 0) with
  | true=>rfl
  | false =>
   simp only [cond_false]
   generalize (o.rules.getD (bA o.rules q).toNat default).term=t
   cases hb:((eO t).2 != 0||(eO t).1 != (cJ q).1) with
   | true=>rfl
   | false =>
    simp only [cond_false]
    simp only [LN] at hb
    rw [t3,SO (k:=(eO t).1) (by rw [← hb.1])]
    generalize oz t cs=x
    show (bif x.known&&((cJ q).1 == 0) then _ else _)=(bif ((cJ q).1 == 0)&&x.known then _ else _)
    rw [Bool.and_comm]
    cases (((cJ q).1 == 0)&&x.known) with
    | false=>rfl
    | true =>
     have:(bif decide ((bif decide (x.n < 0) then 0 else x.n) > 20000) then 20000 else bif decide (x.n < 0) then 0 else x.n)=eG (cp x.n 0) 20000:=by
      simp only [Bool.cond_eq_ite,decide_eq_true_eq]
      unfold eG cp
      (repeat' split) <;> omega
     simp only [cond_true,this]
 ·rw [Oi hq,decide_eq_false hq]; rfl
def v9 (r:af) (aj:Int) (aL:Int) (c_:cy):Sk (lO) :=
 .r 2 ((B4 r aj c_).c) fun x1 =>
 .r 3 (.wh (((x1.length:Nat):Int) == 0) false ((gP aL).c)) fun x2 =>
 .br ((((x1.length:Nat):Int) == 0)||(!x2))
 (.fin ({ cell:=({ known:=false,n:=0 }:ah),order:=(-1),path:=[],err:=1 }:lO))
 (.r 5 ((Ku r aj aL x1).c) fun x3 =>
 .br ((x3.2 != 0)||(((x3.1.length:Nat):Int) == 0))
 (.fin ({ cell:=({ known:=false,n:=0 }:ah),order:=(-1),path:=x3.1,err:=x3.2 }:lO))
 (.r 10 (.p (bz (ar (((x3.1.length:Nat):Int) - 1)) x3.1.length)) fun _ =>
 .r 11 (.au (.p (bz (x3.1.getD ((ar (((x3.1.length:Nat):Int) - 1)).toNat) default) r.al.length)) (.dep ((tv r c_).c) fun x4=>(Ca (r.al.getD ((x3.1.getD ((ar (((x3.1.length:Nat):Int) - 1)).toNat) default).toNat) default) aL x4).c)) fun p6 =>
 .fin ({ cell:=p6.2.1,order:=x3.1.getD ((ar (((x3.1.length:Nat):Int) - 1)).toNat) default,path:=x3.1,err:=p6.2.2 }:lO)))
def Cb r aj aL c_:=(v9 r aj aL c_).val
theorem Qr (r:af) (aj:Int) (aL:Int) (c_:cy) (j0:c_.file.Small) (bG:r.Small) (db:r.ck) (lG:r.n7):(v9 r aj aL c_).bE (fun _=>True):=by
 refine Sk.bm _ ?_
 unfold v9
 simp only [Sk.j2,Sk.aU,reduceCtorEq,ON,kk,kp,Ca,gP,Ku,tv,B4,mE,forall_eq,maxLen]
 refine ⟨⟨j0,bG⟩,fun _=>⟨⟨db,bG,lG⟩,fun hL h2=>?_⟩⟩
 rw [hL ⟨db,bG,lG⟩] at h2 ⊢
 have Ok:(bh r aj aL (dk r aj c_)).2=0→(bh r aj aL (dk r aj c_)).1.length≠0∧(∀ z,z∈(bh r aj aL (dk r aj c_)).1→0≤z∧z < r.al.length)∧(bh r aj aL (dk r aj c_)).1.length≤r.al.length+1:=sW r aj aL _
 have hn:=bG.2.2.2.2.1
 generalize bh r aj aL (dk r aj c_)=L at Ok h2 ⊢
 simp only [LN] at h2
 have hp:=Ok h2.1
 have ND:=Fs hp.1 hp.2.1 (ar (((L.1.length:Nat):Int) - 1)).toNat
 have hw:ar ((L.1.length:Int) - 1)=(L.1.length:Int) - 1:=az (by omega) (by omega)
 refine ⟨by rw [hw]; omega,fun _=>⟨ND,j0,bG⟩⟩
def yQ r aj aL c_:=kk tok mixed Tryz.func68 [av r.cells,iv aj,iv aL,av c_.cells] (fun x=>av x.cells) false (v9 r aj aL c_) (Cb r aj aL c_) (u4 (Qr r aj aL c_))
def tD (r:af) (aj:Int) (aL:Int) (f:aD) (day:Int):Sk (lO) :=
 .r 2 (((yQ r aj aL ({ file:={ f with facts:=[] },sign:=0,cF:=(-1),fL:=(-1),due:=(-1),day:=day }:cy)).zc 3 18 _ rfl ⟨_,rfl⟩).c) fun x1 =>
 .fin x1
def yi r aj aL f day:=(tD r aj aL f day).val
theorem Ol (r:af) (aj:Int) (aL:Int) (f:aD) (day:Int) (hf:f.Small) (bG:r.Small) (db:r.ck) (lG:r.n7):(tD r aj aL f day).bE (fun _=>True):=by
 refine Sk.bm _ ?_
 unfold tD
 simp only [Sk.j2,Sk.aU,reduceCtorEq,ON,kk,kp,yQ,maxLen]
 exact ⟨⟨hf.1,hf.2.1,hf.2.2.1,by simp⟩,bG,db,lG⟩
def H0 r aj aL f day:=kk tok mixed Tryz.func97 [av r.cells,iv aj,iv aL,av f.cells,iv day] (fun x=>av x.cells) false (tD r aj aL f day) (yi r aj aL f day) (u4 (Ol r aj aL f day))
def pA (s:lO):Sk (Int) :=
 .br ((s.err == 0)&&s.cell.known)
 (.fin s.cell.n)
 (.fin (-1))
def sq s:=(pA s).val
theorem JD (s:lO):(pA s).bE (fun _=>True):=by
 unfold pA
 exact mY
def Cc s:=kk tok mixed Tryz.func96 [av s.cells] (fun x=>iv x) true (pA s) (sq s) (u0 (JD s))
def pZ (f:aD):Sk (Int) :=
 .br (f.aA.aE.kind == 0)
 (.bt
 (.loop (default:Sum (Int) (Unit)) (fun i2=>i2≤f.bo.length) (fun i2=>f.bo.length - i2) (0:Nat)
 (fun (i2:Nat)=>⟨[(3,iv (i2:Int))],[]⟩) fun i2 =>
 .lt 1 17 i2 f.bo.length
 (.r 5 (.p (bz (i2:Int) f.bo.length)) fun _ =>
 .br (((f.bo.getD i2 default).kind) == 2)
 (.r 6 (.p (bz (i2:Int) f.bo.length)) fun _ =>
 .fin (.inl (.inl ((f.bo.getD i2 default).day))))
 (.nx 4 3 i2 (i2+1)))
 (.fin (.inl (.inr ()))))
 (fun (_:Unit)=>⟨[],[]⟩) fun _ =>
 .fin (-1))
 (.bt
 (.loop (default:Sum (Int) (Bool × Int)) (fun i4=>i4.2.2≤f.ai.length) (fun i4=>f.ai.length - i4.2.2) ((false,0,0):Bool × Int × Nat)
 (fun (i4:Bool × Int × Nat)=>⟨[(4,bv i4.1),(5,iv i4.2.1),(6,iv (i4.2.2:Int))],[]⟩) fun i4 =>
 .lt 1 15 i4.2.2 f.ai.length
 (.r 13 (.au (.p (bz (i4.2.2:Int) f.ai.length)) (.wh (((f.ai.getD i4.2.2 default).kind) == 1) true (.wh (!i4.1) false (.p (bz (i4.2.2:Int) f.ai.length))))) fun _ =>
 .br ((((f.ai.getD i4.2.2 default).kind) == 1)&&((!i4.1)||(decide (((f.ai.getD i4.2.2 default).day) < i4.2.1))))
 (.r 15 (.p (bz (i4.2.2:Int) f.ai.length)) fun _ =>
 .nx 12 6 i4.2.2 (true,(f.ai.getD i4.2.2 default).day,i4.2.2+1))
 (.nx 12 6 i4.2.2 (i4.1,i4.2.1,i4.2.2+1)))
 (.fin (.inl (.inr (i4.1,i4.2.1)))))
 (fun (b3:Bool × Int)=>⟨[(4,bv b3.1),(5,iv b3.2)],[]⟩) fun b3 =>
 .bt
 (.loop (default:Sum (Int) (Bool × Int)) (fun i6=>i6.2.2≤f.bo.length) (fun i6=>f.bo.length - i6.2.2) ((b3.1,b3.2,0):Bool × Int × Nat)
 (fun (i6:Bool × Int × Nat)=>⟨[(4,bv i6.1),(5,iv i6.2.1),(7,iv (i6.2.2:Int))],[]⟩) fun i6 =>
 .lt 1 17 i6.2.2 f.bo.length
 (.r 19 (.au (.p (bz (i6.2.2:Int) f.bo.length)) (.wh (((f.bo.getD i6.2.2 default).kind) == 1) true (.wh (!i6.1) false (.p (bz (i6.2.2:Int) f.bo.length))))) fun _ =>
 .br ((((f.bo.getD i6.2.2 default).kind) == 1)&&((!i6.1)||(decide (((f.bo.getD i6.2.2 default).day) < i6.2.1))))
 (.r 21 (.p (bz (i6.2.2:Int) f.bo.length)) fun _ =>
 .nx 18 7 i6.2.2 (true,(f.bo.getD i6.2.2 default).day,i6.2.2+1))
 (.nx 18 7 i6.2.2 (i6.1,i6.2.1,i6.2.2+1)))
 (.fin (.inl (.inr (i6.1,i6.2.1)))))
 (fun (b5:Bool × Int)=>⟨[(4,bv b5.1),(5,iv b5.2)],[]⟩) fun b5 =>
 .br ((f.aA.aE.kind != 1)||(!b5.1))
 (.fin (-1))
 (.fin b5.2))
def u1 f:=(pZ f).val
theorem Om (f:aD):(pZ f).bE (fun _=>True):=by
 unfold pZ
 exact oj
def H2 f:=kk tok mixed Tryz.func99 [av f.cells] (fun x=>iv x) true (pZ f) (u1 f) (u0 (Om f))
def Vb:List Int→Int
 | []=>0
 | x :: r=>r.foldl eG x
theorem Zc:∀ (l:List Int),l≠[]→l.length≤1000000000→vB l=Vb l
 | [],h,_=>absurd rfl h
 | x :: r,_,hl=>by
  simp only [List.length_cons] at hl
  have hd:decide ((((x :: r).length:Nat):Int) < 1)=false:=decide_eq_false (by simp only [List.length_cons]; omega)
  simp only [vB,lS,Sk.cu,Sk.aZ,Sk.bU,Sk.cS,Sk.aN,Sk.Uy]
  rw [hd,cond_false,cN]
  refine (a9 r (fun (m:Int) i=>(m,((i:Nat):Int)+1)) (fun y m=>.inr (eG m y)) id _ (fun m i hi=>?_) (fun m=>?_) ?_ x).trans ?_
  ·simp only [List.length_cons]
   rw [decide_eq_true (by omega),cond_true,az (by omega) (by omega)]
   have:(x :: r).getD (((i:Nat):Int)+1).toNat default=r.getD i default:=by
    rw [show (((i:Nat):Int)+1).toNat=i+1 by omega]; rfl
   rw [this]
   have:((i:Nat):Int)+1+1=((i+1:Nat):Int)+1:=by omega
   rw [this]
  ·simp only [List.length_cons]
   rw [decide_eq_false (by omega),cond_false]
   rfl
  ·simp only [List.length_cons]; omega
  ·rw [gZ]; rfl
theorem SS (l:List Int) (h:l≠[]) (x:Int):Vb (l++[x])=eG (Vb l) x:=by
 cases l with
 | nil=>exact absurd rfl h
 | cons y r=>simp [Vb,List.foldl_append]
def DH (k:Int) (p:Int) (s:List Int) (x:Int × Int):List Int:=bif (k == 1)&&(x.1 == p) then s++[x.2] else s
def rm (p:Int) (s:Bool × Int) (x:Int × Int):Bool × Int:=bif (x.1 == p)&&((!s.1)||(decide (x.2 < s.2))) then (true,x.2) else s
def Oo (l:List Int) (s:Bool × Int):Prop:=(l=[]∧s.1=false)∨(l≠[]∧s.1=true∧Vb l=s.2)
theorem Qs {p:Int} {l:List Int} {s:Bool × Int} (h:Oo l s) (x:Int × Int):Oo (DH 1 p l x) (rm p s x):=by
 unfold DH rm
 rw [show ((1:Int) == 1)=true from rfl,Bool.true_and]
 cases hp:(x.1 == p) with
 | false=>exact h
 | true =>
  simp only [cond_true,Bool.true_and]
  rcases h with h | h
  ·rw [h.1,h.2]
   exact .inr ⟨by simp,rfl,rfl⟩
  ·have hm:=SS l h.1 x.2
   rw [h.2.1,Bool.not_true,Bool.false_or]
   refine .inr ⟨by simp,?_,?_⟩
   ·cases decide (x.2 < s.2) with
    | true=>rfl
    | false=>exact h.2.1
   ·rw [hm,h.2.2]
    unfold eG
    by_cases c:x.2 < s.2
    ·rw [decide_eq_true c]
     exact if_pos c
    ·rw [decide_eq_false c]
     exact if_neg c
theorem Al {p:Int}:∀ (m:List (Int × Int)) {l:List Int} {s:Bool × Int},Oo l s→Oo (m.foldl (DH 1 p) l) (m.foldl (rm p) s)
 | [],_,_,h=>h
 | x :: r,_,_,h=>Al r (Qs h x)
theorem Cd {k p:Int} (hk:k≠1):∀ (m:List (Int × Int)) (l:List Int),m.foldl (DH k p) l=l
 | [],_=>rfl
 | x :: r,l=>by
  rw [List.foldl_cons]
  have:DH k p l x=l:=by unfold DH; rw [beq_eq_false_iff_ne.2 hk]; rfl
  rw [this]
  exact Cd hk r l
def XI (k:Int) (x:fB) (s:List Int):Int ⊕ List Int:=bif (k == 0)&&(x.kind == 2) then .inl x.day else .inr (DH k 1 s (x.kind,x.day))
def L2 (l:List Int):Int:=bif ((l.length:Nat):Int) == 0 then -1 else vB l
theorem SU (f:aD):pR f=walk (XI f.aA.aE.kind) L2 f.bo ((f.ai.map fun s=>(s.kind,s.day)).foldl (DH f.aA.aE.kind 1) []):=by
 simp only [pR,kT,Sk.cu,Sk.cS,Sk.aZ,Sk.bU,Sk.aN,eo.qB,kk,kp,vC]
 refine (a9 f.ai (fun (s:List Int) i=>(s,i)) (fun x s=>.inr (DH f.aA.aE.kind 1 s (x.kind,x.day))) id _ (fun s i hi=>?_) (fun s=>?_) (by simp) []).trans ?_
 ·simp only [Sk.bQ,Sk.aZ,Sk.bU,Sk.cw,Sk.aN]
  rw [decide_eq_true (by omega),cond_true]
  unfold DH
  cases ((f.aA.aE.kind == 1)&&((f.ai.getD i default).kind == 1)) <;> rfl
 ·simp only [Sk.bQ,Sk.aZ,Sk.bU,Sk.cw,Sk.aN]
  rw [decide_eq_false (by omega),cond_false]
  rfl
 ·rw [gZ]
  simp only [id]
  have e:(f.ai.map fun s=>(s.kind,s.day)).foldl (DH f.aA.aE.kind 1) []=f.ai.foldl (fun s x=>DH f.aA.aE.kind 1 s (x.kind,x.day)) []:=List.foldl_map
  rw [e]
  generalize f.ai.foldl (fun s x=>DH f.aA.aE.kind 1 s (x.kind,x.day)) []=l0
  refine (a9 f.bo (fun (s:List Int) i=>(s,i)) (XI f.aA.aE.kind) id _ (fun s i hi=>?_) (fun s=>?_) (by simp) l0).trans ?_
  ·simp only [Sk.bQ,Sk.aZ,Sk.bU,Sk.cw,Sk.aN]
   rw [decide_eq_true (by omega),cond_true]
   unfold XI DH
   cases ((f.aA.aE.kind == 0)&&((f.bo.getD i default).kind == 2)) with
   | true=>rfl
   | false=>cases ((f.aA.aE.kind == 1)&&((f.bo.getD i default).kind == 1)) <;> rfl
  ·simp only [Sk.bQ,Sk.aZ,Sk.bU,Sk.cw,Sk.aN]
   rw [decide_eq_false (by omega),cond_false]
   rfl
  ·rfl
def Oq (x:fB) (_:Unit):Int ⊕ Unit:=bif x.kind == 2 then .inl x.day else .inr ()
def Vc (k:Int) (s:Bool × Int):Int:=bif (k != 1)||(!s.1) then -1 else s.2
theorem L3 (f:aD):u1 f=bif f.aA.aE.kind == 0 then walk Oq (fun _=>-1) f.bo () else
  Vc f.aA.aE.kind ((f.bo.map fun a=>(a.kind,a.day)).foldl (rm 1) ((f.ai.map fun s=>(s.kind,s.day)).foldl (rm 1) (false,0))):=by
 simp only [u1,pZ,Sk.cu,Sk.cS,Sk.aZ,Sk.bU,Sk.aN]
 congr 1
 ·refine (a9 f.bo (fun (s:Unit) i=>i) Oq id _ (fun s i hi=>?_) (fun s=>?_) (by simp) ()).trans rfl
  ·simp only [Sk.bQ,Sk.aZ,Sk.bU,Sk.cw,Sk.aN]
   rw [decide_eq_true (by omega),cond_true]
   unfold Oq
   cases ((f.bo.getD i default).kind == 2) <;> rfl
  ·simp only [Sk.bQ,Sk.aZ,Sk.bU,Sk.cw,Sk.aN]
   rw [decide_eq_false (by omega),cond_false]
 ·refine (a9 f.ai (fun (s:Bool × Int) i=>(s.1,s.2,i)) (fun x s=>.inr (rm 1 s (x.kind,x.day))) id _ (fun s i hi=>?_) (fun s=>?_) (by simp) (false,0)).trans ?_
  ·simp only [Sk.bQ,Sk.aZ,Sk.bU,Sk.cw,Sk.aN]
   rw [decide_eq_true (by omega),cond_true]
   unfold rm
   cases (((f.ai.getD i default).kind == 1)&&((!s.1)||(decide ((f.ai.getD i default).day < s.2)))) <;> rfl
  ·simp only [Sk.bQ,Sk.aZ,Sk.bU,Sk.cw,Sk.aN]
   rw [decide_eq_false (by omega),cond_false]
   rfl
  ·rw [gZ]
   simp only [id]
   have e:(f.ai.map fun s=>(s.kind,s.day)).foldl (rm 1) (false,0)=f.ai.foldl (fun s x=>rm 1 s (x.kind,x.day)) (false,0):=List.foldl_map
   rw [e]
   generalize f.ai.foldl (fun s x=>rm 1 s (x.kind,x.day)) (false,0)=s0
   refine (a9 f.bo (fun (s:Bool × Int) i=>(s.1,s.2,i)) (fun x s=>.inr (rm 1 s (x.kind,x.day))) id _ (fun s i hi=>?_) (fun s=>?_) (by simp) s0).trans ?_
   ·simp only [Sk.bQ,Sk.aZ,Sk.bU,Sk.cw,Sk.aN]
    rw [decide_eq_true (by omega),cond_true]
    unfold rm
    cases (((f.bo.getD i default).kind == 1)&&((!s.1)||(decide ((f.bo.getD i default).day < s.2)))) <;> rfl
   ·simp only [Sk.bQ,Sk.aZ,Sk.bU,Sk.cw,Sk.aN]
    rw [decide_eq_false (by omega),cond_false]
    rfl
   ·rw [gZ]
    have e2:(f.bo.map fun a=>(a.kind,a.day)).foldl (rm 1) s0=f.bo.foldl (fun s x=>rm 1 s (x.kind,x.day)) s0:=List.foldl_map
    rw [e2]
    rfl
theorem Ot {k:Int} (hk:k≠0) (fin:List Int→Int):∀ (l:List fB) (s:List Int),walk (XI k) fin l s=fin ((l.map fun a=>(a.kind,a.day)).foldl (DH k 1) s)
 | [],_=>rfl
 | x :: r,s=>by
  have e:XI k x s=.inr (DH k 1 s (x.kind,x.day)):=by unfold XI; rw [beq_eq_false_iff_ne.2 hk]; rfl
  simp only [walk,e,List.map_cons,List.foldl_cons]
  exact Ot hk fin r _
theorem Ou:∀ (l:List fB),walk (XI 0) L2 l []=walk Oq (fun _=>-1) l ()
 | []=>rfl
 | x :: r=>by
  unfold walk XI Oq
  cases (x.kind == 2) with
  | true=>rfl
  | false=>exact Ou r
theorem H3 {k p:Int}:∀ (m:List (Int × Int)) (l:List Int),(m.foldl (DH k p) l).length≤l.length+m.length
 | [],l=>by simp
 | x :: r,l=>by
  rw [List.foldl_cons]
  have:=H3 (k:=k) (p:=p) r (DH k p l x)
  have h2:(DH k p l x).length≤l.length+1:=by
   unfold DH
   cases ((k == 1)&&(x.1 == p)) <;> simp
  simp only [List.length_cons]
  omega
theorem SV (f:aD) (hf:f.Small):u1 f=pR f:=by
 rw [L3,SU]
 by_cases h0:f.aA.aE.kind=0
 ·rw [h0,Cd (by decide)]
  exact (Ou f.bo).symm
 ·rw [beq_eq_false_iff_ne.2 h0,cond_false,Ot h0]
  unfold Vc L2
  by_cases h1:f.aA.aE.kind=1
  ·rw [h1]
   have hM:Oo ((f.bo.map fun a=>(a.kind,a.day)).foldl (DH 1 1) ((f.ai.map fun s=>(s.kind,s.day)).foldl (DH 1 1) [])) ((f.bo.map fun a=>(a.kind,a.day)).foldl (rm 1) ((f.ai.map fun s=>(s.kind,s.day)).foldl (rm 1) (false,0))):=Al _ (Al _ (.inl ⟨rfl,rfl⟩))
   have hl:((f.bo.map fun a=>(a.kind,a.day)).foldl (DH 1 1) ((f.ai.map fun s=>(s.kind,s.day)).foldl (DH 1 1) [])).length≤1000000000:=by
    have a:=H3 (k:=1) (p:=1) (f.bo.map fun a=>(a.kind,a.day)) ((f.ai.map fun s=>(s.kind,s.day)).foldl (DH 1 1) [])
    have b:=H3 (k:=1) (p:=1) (f.ai.map fun s=>(s.kind,s.day)) []
    simp only [List.length_map,List.length_nil] at a b
    have:=hf.1
    have:=hf.2.2.1
    omega
   generalize (f.bo.map fun a=>(a.kind,a.day)).foldl (DH 1 1) ((f.ai.map fun s=>(s.kind,s.day)).foldl (DH 1 1) [])=L at hM hl ⊢
   generalize (f.bo.map fun a=>(a.kind,a.day)).foldl (rm 1) ((f.ai.map fun s=>(s.kind,s.day)).foldl (rm 1) (false,0))=S at hM ⊢
   rcases hM with h | h
   ·rw [h.1,h.2]; rfl
   ·rw [h.2.1,Zc L h.1 hl,h.2.2]
    have:(((L.length:Nat):Int) == 0)=false:=by
     rw [beq_eq_false_iff_ne]
     intro e
     exact h.1 (List.length_eq_zero_iff.1 (by omega))
    rw [this]; rfl
  ·rw [Cd h1,Cd h1]
   have:(f.aA.aE.kind != 1)=true:=bne_iff_ne.2 h1
   rw [this]; rfl
def tE (r:af) (n:Int):Sk (Bool) :=
 .fin ((decide (n≥0))&&(decide (n < ((r.aC.length:Nat):Int))))
def yj r n:=(tE r n).val
theorem Ov (r:af) (n:Int):yj r n=((decide (n≥0))&&(decide (n < ((r.aC.length:Nat):Int)))):=rfl
theorem Ow (r:af) (n:Int):(tE r n).bE (fun _=>True):=by
 unfold tE
 exact mY
def Am r n:=kk tok mixed Tryz.func136 [av r.cells,iv n] (fun x=>bv x) true (tE r n) (yj r n) (u0 (Ow r n))
def rb (day:Int):Sk (Bool) :=
 .fin ((decide (day≥0))&&(decide (day≤100000)))
def g8 day:=(rb day).val
theorem iG (day:Int):g8 day=((decide (day≥0))&&(decide (day≤100000))):=rfl
theorem L4 (day:Int):(rb day).bE (fun _=>True):=by
 unfold rb
 exact mY
def dF day:=kk tok mixed Tryz.func137 [iv day] (fun x=>bv x) true (rb day) (g8 day) (u0 (L4 day))
def pB (t:mZ):Sk (Bool) :=
 .fin ((t.kind == 0)||(t.kind == 1))
def wa t:=(pB t).val
theorem JE (t:mZ):wa t=((t.kind == 0)||(t.kind == 1)):=rfl
theorem JF (t:mZ):(pB t).bE (fun _=>True):=by
 unfold pB
 exact mY
def Ce t:=kk tok mixed Tryz.func138 [av t.cells] (fun x=>bv x) true (pB t) (wa t) (u0 (JF t))
def kg (r:af) (from_:Int) (bZ:Int):Sk (Int × Int) :=
 .bt
 (.loop (default:Sum (Int × Int) (Unit)) (fun i2=>i2≤r.aM.length) (fun i2=>r.aM.length - i2) (0:Nat)
 (fun (i2:Nat)=>⟨[(8,iv (i2:Int))],[]⟩) fun i2 =>
 .lt 3 5 i2 r.aM.length
 (.r 4 (.au (.p (bz (i2:Int) r.aM.length)) (.wh (((r.aM.getD i2 default).from_) == from_) true (.p (bz (i2:Int) r.aM.length)))) fun _ =>
 .br ((((r.aM.getD i2 default).from_) == from_)&&(((r.aM.getD i2 default).bZ) == bZ))
 (.r 5 (.p (bz (i2:Int) r.aM.length)) fun _ =>
 .fin (.inl (.inl ((r.aM.getD i2 default).days,0))))
 (.nx 3 8 i2 (i2+1)))
 (.fin (.inl (.inr ()))))
 (fun (_:Unit)=>⟨[],[]⟩) fun _ =>
 .fin (0,4)
def fY r from_ bZ:=(kg r from_ bZ).val
def uf (a b:Int) (x:dh) (_:Unit):(Int × Int) ⊕ Unit:=bif (x.from_ == a)&&(x.bZ == b) then .inl (x.days,0) else .inr ()
theorem Eb (r:af) (a b:Int):fY r a b=cD r a b:=by
 have e1:fY r a b=walk (uf a b) (fun _=>(0,4)) r.aM ():=by
  simp only [fY,kg,Sk.cu,Sk.cS,Sk.bQ,Sk.aZ,Sk.bU,Sk.cw,Sk.aN]
  refine (a9 r.aM (fun s i=>i) (uf a b) id _ (fun s i hi=>?_) (fun s=>?_) (by simp) ()).trans rfl
  ·rw [decide_eq_true (by omega),cond_true]
   unfold uf
   cases (((r.aM.getD i default).from_ == a)&&((r.aM.getD i default).bZ == b)) <;> rfl
  ·rw [decide_eq_false (by omega),cond_false]
 have e2:cD r a b=walk (uf a b) (fun _=>(0,4)) r.aM ():=by
  simp only [cD,jX,Sk.cu,Sk.cS,Sk.bQ,Sk.aZ,Sk.bU,Sk.cw,Sk.aN]
  refine (a9 r.aM (fun s i=>i) (uf a b) id _ (fun s i hi=>?_) (fun s=>?_) (by simp) ()).trans rfl
  ·rw [decide_eq_true (by omega),cond_true]
   unfold uf
   cases (((r.aM.getD i default).from_ == a)&&((r.aM.getD i default).bZ == b)) <;> rfl
  ·rw [decide_eq_false (by omega),cond_false]
 rw [e1,e2]
theorem qx (r:af) (from_:Int) (bZ:Int):(fun (x:Int × Int)=>x=cD r from_ bZ) (fY r from_ bZ):=(Eb r from_ bZ)
theorem JG (r:af) (from_:Int) (bZ:Int):(kg r from_ bZ).bE (fun _=>True):=by
 unfold kg
 exact oj
def re r from_ bZ:=kk tok mixed Tryz.func139 [av r.cells,iv from_,iv bZ] (fun x=>.ef [iv x.1,iv x.2]) true (kg r from_ bZ) (fY r from_ bZ) (u0 (JG r from_ bZ)) (fun (x:Int × Int)=>x=cD r from_ bZ) (qx r from_ bZ)
theorem RJ (b q u r:Int) (hb:0≤b∧b≤3) (hq:0≤q∧q≤24) (hu:0≤u∧u≤3) (hr:0≤r∧r≤365) (hl:r=365→u=3∧(q≠24∨b=3)) (rest:Int) (um:rest=36524 * b+1461 * q+365 * u+r) :
  (rest - rest / 1460+rest / 36524 - rest / 146096) / 365=100 * b+4 * q+u:=by
 have hc:rest / 146096=if (b=3∧q=24∧u=3∧r=365) then 1 else 0:=by
  split <;> omega
 have hd:rest / 36524=b+rest / 146096:=by
  rw [hc]
  split <;> omega
 obtain ⟨e,he,XL⟩:∃ e:Int,rest / 1460=25 * b+q+e∧(e=0∧24 * b+q+365 * u+r < 1460∨e=1∧1460≤24 * b+q+365 * u+r):=by
  refine ⟨rest / 1460 - 25 * b - q,by omega,?_⟩
  omega
 rw [hd,he,hc]
 split <;> omega
theorem abc (y r:Int) (hy:0≤y∧y≤399) (hr:0≤r∧r≤365) (hl:r=365→y % 4=3∧(y % 100≠99∨y=399)) (rest:Int) (um:rest=365 * y+y / 4 - y / 100+r) :
  (rest - rest / 1460+rest / 36524 - rest / 146096) / 365=y∧0≤rest∧rest < 146097:=by
 have e:y=100 * (y / 100)+4 * (y % 100 / 4)+y % 4:=by omega
 have e4:y / 4=25 * (y / 100)+y % 100 / 4:=by omega
 have h:=RJ (y / 100) (y % 100 / 4) (y % 4) r (by omega) (by omega) (by omega) hr (fun h=>by have:=hl h; omega) rest (by omega)
 refine ⟨by omega,by omega,?_⟩
 by_cases h3:r=365
 ·have:=hl h3; omega
 ·omega
def l6 (day:Int):Int × Int × Int :=
 let n:=day+730425
 let rest:=n % 146097
 let y:=(rest - rest / 1460+rest / 36524 - rest / 146096) / 365
 let r:=rest - (365 * y+y / 4 - y / 100)
 let m:=(5 * r+2) / 153
 let month:=if m+3 > 12 then m+3 - 12 else m+3
 (if month < 3 then y+400 * (n / 146097)+1 else y+400 * (n / 146097),month,r - (153 * m+2) / 5+1)
def dS (y m d:Int):Int:=if m < 3 then 365 * (y - 1)+(y - 1) / 4 - (y - 1) / 100+(y - 1) / 400+(153 * (m+12 - 3)+2) / 5+d - 1 - 730425 else 365 * y+y / 4 - y / 100+y / 400+(153 * (m - 3)+2) / 5+d - 1 - 730425
def k8 (y m:Int):Int:=if m=2 then (if y % 4=0∧(y % 100≠0∨y % 400=0) then 29 else 28) else if m=4∨m=6∨m=9∨m=11 then 30 else 31
def zH (y:Int):Int:=if y % 4=0∧(y % 100≠0∨y % 400=0) then 366 else 365
theorem rz (y:Int):dS (y+1) 1 1=dS y 1 1+zH y:=by
 unfold dS zH
 simp only [show (1:Int) < 3 by decide,if_true]
 split <;> omega
theorem sr (y m:Int) (h:1≤m∧m≤11):dS y (m+1) 1=dS y m 1+k8 y m:=by
 have:m=1∨m=2∨m=3∨m=4∨m=5∨m=6∨m=7∨m=8∨m=9∨m=10∨m=11:=by omega
 rcases this with rfl | rfl | rfl | rfl | rfl | rfl | rfl | rfl | rfl | rfl | rfl
 ·simp [dS,k8]; omega
 ·simp only [dS,k8]
  simp
  split <;> omega
 all_goals simp [dS,k8]; try omega
theorem Ox (y:Int):dS (y+1) 1 1=dS y 12 1+31:=by
 simp [dS]
 omega
theorem Zd (m d:Int) (hm:0≤m∧m≤11) (hd:1≤d∧d≤31) (h30:m=1∨m=3∨m=6∨m=8→d≤30) (h29:m=11→d≤29) :
  (5 * ((153 * m+2) / 5+d - 1)+2) / 153=m∧0≤(153 * m+2) / 5+d - 1∧(m≤10→(153 * m+2) / 5+d - 1≤336)∧(m=11→(153 * m+2) / 5=337):=by
 have:m=0∨m=1∨m=2∨m=3∨m=4∨m=5∨m=6∨m=7∨m=8∨m=9∨m=10∨m=11:=by omega
 rcases this with rfl | rfl | rfl | rfl | rfl | rfl | rfl | rfl | rfl | rfl | rfl | rfl <;> omega
theorem Vd (y m d:Int) (hy:1≤y) (hm:1≤m∧m≤12) (hd:1≤d∧d≤k8 y m):l6 (dS y m d)=(y,m,d):=by
 have h31:d≤31∧(m=4∨m=6∨m=9∨m=11→d≤30)∧(m=2→d≤29∧(d=29→y % 4=0∧(y % 100≠0∨y % 400=0))):=by
  unfold k8 at hd
  split at hd
  ·split at hd <;> omega
  ·split at hd <;> omega
 -- Vw year VP ac0 with adn
 obtain ⟨Y,k,hk,hYk⟩:∃ Y k:Int,(0≤k∧k≤11)∧(m < 3∧Y=y - 1∧k=m+9∨3≤m∧Y=y∧k=m - 3):=by
  by_cases h3:m < 3
  ·exact ⟨y - 1,m+9,by omega,.inl ⟨h3,rfl,rfl⟩⟩
  ·exact ⟨y,m - 3,by omega,.inr ⟨by omega,rfl,rfl⟩⟩
 have hn:dS y m d+730425=365 * Y+Y / 4 - Y / 100+Y / 400+((153 * k+2) / 5+d - 1):=by
  unfold dS
  rcases hYk with ⟨h,rfl,rfl⟩ | ⟨h,rfl,rfl⟩
  ·rw [if_pos h,show m+12 - 3=m+9 by omega]; omega
  ·rw [if_neg (by omega)]; omega
 obtain ⟨m1,m2,m3,m4⟩:=Zd k d hk ⟨hd.1,h31.1⟩ (fun h=>h31.2.1 (by omega)) (fun h=>(h31.2.2 (by omega)).1)
 generalize hr:(153 * k+2) / 5+d - 1=r at *
 have hr5:r≤365:=by omega
 have ac1:r=365→k=11∧d=29:=by omega
 have hyr:=abc (Y % 400) r (by omega) ⟨m2,hr5⟩ (fun h=>by
  have h2:=ac1 h
  have h4:=h31.2.2 (by omega)
  have h5:=h4.2 h2.2
  omega) (365 * (Y % 400)+Y % 400 / 4 - Y % 400 / 100+r) rfl
 have adJ:dS y m d+730425=146097 * (Y / 400)+(365 * (Y % 400)+Y % 400 / 4 - Y % 400 / 100+r):=by
  rw [hn]
  have a1:Y / 4=100 * (Y / 400)+Y % 400 / 4:=by omega
  have a2:Y / 100=4 * (Y / 400)+Y % 400 / 100:=by omega
  clear hyr
  omega
 have hdiv:(dS y m d+730425) / 146097=Y / 400:=by omega
 have MH:(dS y m d+730425) % 146097=365 * (Y % 400)+Y % 400 / 4 - Y % 400 / 100+r:=by omega
 unfold l6
 simp only [hdiv,MH,hyr.1]
 have er:365 * (Y % 400)+Y % 400 / 4 - Y % 400 / 100+r - (365 * (Y % 400)+Y % 400 / 4 - Y % 400 / 100)=r:=by omega
 rw [er,m1]
 rcases hYk with ⟨h,rfl,rfl⟩ | ⟨h,rfl,rfl⟩
 ·rw [if_pos (by omega),if_pos (by omega)]
  refine Prod.ext (by simp; omega) (Prod.ext (by simp; omega) (by simp; omega))
 ·rw [if_neg (by omega),if_neg (by omega)]
  refine Prod.ext (by simp; omega) (Prod.ext (by simp) (by simp; omega))
theorem RK {r y:Int} (h:0≤r∧r < 146097) (hy:y=(r - r / 1460+r / 36524 - r / 146096) / 365):0≤r - (365 * y+y / 4 - y / 100)∧r - (365 * y+y / 4 - y / 100)≤365:=by
 obtain ⟨b,hb,h1⟩:∃ b:Int,(0≤b∧b≤3)∧(0≤r - 36524 * b∧(r - 36524 * b < 36524∨(r - 36524 * b=36524∧b=3))):=by
  by_cases e:r=146096
  ·exact ⟨3,by omega,by omega⟩
  ·exact ⟨r / 36524,by omega,by omega⟩
 generalize hr1:r - 36524 * b=r1 at h1
 obtain ⟨q,hq,h2⟩:∃ q:Int,(0≤q∧q≤24)∧(0≤r1 - 1461 * q∧r1 - 1461 * q≤1460):=⟨r1 / 1461,by omega,by omega⟩
 generalize Y1:r1 - 1461 * q=r2 at h2
 obtain ⟨u,hu,h3⟩:∃ u:Int,(0≤u∧u≤3)∧(0≤r2 - 365 * u∧(r2 - 365 * u≤364∨(r2=1460∧u=3))):=by
  by_cases e:r2=1460
  ·exact ⟨3,by omega,by omega⟩
  ·exact ⟨r2 / 365,by omega,by omega⟩
 have hc:=RJ b q u (r2 - 365 * u) hb hq hu (by omega) (by omega) r (by omega)
 rw [hc] at hy
 clear hc
 have e4:y / 4=25 * b+q:=by omega
 have adK:y / 100=b:=by omega
 omega
theorem Oy {day:Int} (h:0≤day∧day≤200000):bC day=l6 day:=by
 have e1:ar (day+730425)=day+730425:=az (by omega) (by omega)
 simp only [bC,iu,Sk.cu,Sk.aZ,Sk.bU,Sk.aN,e1]
 unfold l6
 dsimp only
 generalize hn:day+730425=n
 have hn2:730425≤n∧n≤930425:=by omega
 rw [Int.tmod_eq_emod_of_nonneg (by omega),Int.tdiv_eq_ediv_of_nonneg (show 0≤n by omega)]
 generalize hr:n % 146097=r
 have Y1:0≤r∧r < 146097:=by omega
 have hq:0≤n / 146097∧n / 146097≤10:=by omega
 generalize n / 146097=q at hq ⊢
 have y1:ar ((ar (ar (ar (r - ar (r.tdiv 1460))+ar (r.tdiv 36524)) - ar (r.tdiv 146096))).tdiv 365)=(r - r / 1460+r / 36524 - r / 146096) / 365:=by
  simp (disch:=omega) only [az,Int.tdiv_eq_ediv_of_nonneg]
 have y0:0≤(r - r / 1460+r / 36524 - r / 146096) / 365∧(r - r / 1460+r / 36524 - r / 146096) / 365≤400:=by omega
 have yr:=RK Y1 rfl
 rw [y1]
 generalize (r - r / 1460+r / 36524 - r / 146096) / 365=y at y0 yr ⊢
 have r1:ar (r - ar (ar (ar (365 * y)+ar (y.tdiv 4)) - ar (y.tdiv 100)))=r - (365 * y+y / 4 - y / 100):=by
  simp (disch:=omega) only [az,Int.tdiv_eq_ediv_of_nonneg]
 rw [r1]
 generalize r - (365 * y+y / 4 - y / 100)=R at yr ⊢
 have m1:ar ((ar (ar (5 * R)+2)).tdiv 153)=(5 * R+2) / 153:=by
  simp (disch:=omega) only [az,Int.tdiv_eq_ediv_of_nonneg]
 have m0:0≤(5 * R+2) / 153∧(5 * R+2) / 153≤12:=by omega
 rw [m1]
 generalize (5 * R+2) / 153=m at m0 ⊢
 have d1:ar (ar (R - ar ((ar (ar (153 * m)+2)).tdiv 5))+1)=R - (153 * m+2) / 5+1:=by
  simp (disch:=omega) only [az,Int.tdiv_eq_ediv_of_nonneg]
 have q1:ar (y+ar (400 * ar q))=y+400 * q:=by simp (disch:=omega) only [az]
 have q2:ar (y+400 * q+1)=y+400 * q+1:=az (by omega) (by omega)
 have m2:ar (m+3)=m+3:=az (by omega) (by omega)
 have m3:ar (m+3 - 12)=m+3 - 12:=az (by omega) (by omega)
 rw [d1,q1,q2,m2,m3]
 by_cases hm:m+3 > 12
 ·rw [decide_eq_true hm,cond_true,cN,if_pos hm]
  by_cases hb:m+3 - 12 < 3
  ·rw [decide_eq_true hb,cond_true,if_pos hb]
  ·rw [decide_eq_false hb,cond_false,if_neg hb]
 ·rw [decide_eq_false hm,cond_false,cN,if_neg hm]
  by_cases hb:m+3 < 3
  ·rw [decide_eq_true hb,cond_true,if_pos hb]
  ·rw [decide_eq_false hb,cond_false,if_neg hb]
def XJ (c:dL) (d:Int):Bool:=!(decide ((d+5) % 7∈c.rest))&&!(decide (100 * (l6 d).2.1+(l6 d).2.2∈c.dM))&&!(decide (d∈c.shut))
theorem wb (l:List Int) (v:Int):cx l v=decide (v∈l):=by
 have hp:cx l v=true↔∃ q,q < l.length∧(l.getD q default == v)=true:=pK l v
 rw [Bool.eq_iff_iff,hp,decide_eq_true_eq]
 constructor
 ·rintro ⟨q,hq,h⟩
  rw [beq_iff_eq] at h
  rw [← h]
  exact ic hq _
 ·intro h
  obtain ⟨q,hq,e⟩:=List.getElem_of_mem h
  exact ⟨q,hq,by simp [List.getD,hq,e]⟩
theorem Cf {d:Int} (h:0≤d∧d≤200000):1≤(l6 d).2.1∧(l6 d).2.1≤12∧0≤(l6 d).2.2∧(l6 d).2.2≤400:=by
 unfold l6
 dsimp only
 have h1:0≤(d+730425) % 146097∧(d+730425) % 146097 < 146097:=by omega
 generalize (d+730425) % 146097=r at h1 ⊢
 have yr:=RK h1 rfl
 generalize r - (365 * ((r - r / 1460+r / 36524 - r / 146096) / 365)+(r - r / 1460+r / 36524 - r / 146096) / 365 / 4 - (r - r / 1460+r / 36524 - r / 146096) / 365 / 100)=R at yr ⊢
 have m0:0≤(5 * R+2) / 153∧(5 * R+2) / 153≤11:=by omega
 generalize hm:(5 * R+2) / 153=m at m0 ⊢
 refine ⟨by split <;> omega,by split <;> omega,by omega,by omega⟩
theorem Oz (c:dL) {d:Int} (h:0≤d∧d≤200000):bM c d=XJ c d:=by
 have e:bM c d=((!(cx c.rest ((ar (d+5)).tmod 7))&&!(cx c.dM (ar ((ar ((100:Int) * (bC d).2.1))+(bC d).2.2))))&&!(cx c.shut d)):=rfl
 have hr:=Cf h
 rw [e,Oy h,wb,wb,wb,az (by omega) (by omega),Int.tmod_eq_emod_of_nonneg (by omega),az (n:=100 * (l6 d).2.1) (by omega) (by omega),az (by omega) (by omega)]
 rfl
theorem DI {y m d:Int} (hy:1≤y∧y≤9999) (hm:1≤m∧m≤13) (hd:0≤d∧d≤400):fV y m d=dS y m d:=by
 simp only [fV,gM,Sk.aZ,Sk.bU,Sk.aN]
 unfold dS
 by_cases h3:m < 3
 ·rw [decide_eq_true h3,cond_true,if_pos h3]
  simp (disch:=omega) only [az,Int.tdiv_eq_ediv_of_nonneg]
 ·rw [decide_eq_false h3,cond_false,if_neg h3]
  simp (disch:=omega) only [az,Int.tdiv_eq_ediv_of_nonneg]
theorem length_eq {y m:Int} (hy:1≤y∧y≤9998) (hm:1≤m∧m≤12):fW y m=k8 y m:=by
 have e:fW y m=bif m == 12 then 31 else ar (fV y (ar (m+1)) 1 - fV y m 1):=rfl
 rw [e]
 by_cases h:m=12
 ·subst h; rfl
 ·rw [beq_eq_false_iff_ne.2 h,cond_false,az (n:=m+1) (by omega) (by omega),DI (by omega) (by omega) (by omega),DI (by omega) (by omega) (by omega),sr y m (by omega)]
  have:28≤k8 y m∧k8 y m≤31:=by unfold k8; (repeat' split) <;> omega
  rw [show dS y m 1+k8 y m - dS y m 1=k8 y m by omega,az (by omega) (by omega)]
def H4 (y m d:Int):Int × Int:=if (2000≤y∧y≤2300)∧(1≤m∧m≤12)∧(1≤d∧d≤k8 y m)∧(0≤dS y m d∧dS y m d≤100000) then (dS y m d,0) else (0,3)
theorem Ve (y m d:Int):nC y m d=H4 y m d:=by
 have e:nC y m d=bif ((((((decide (y < 2000))||(decide (y > 2300)))||(decide (m < 1)))||(decide (m > 12)))||(decide (d < 1)))||(decide (d > fW y m))) then (0,3) else bif !(bB (fV y m d)) then (0,3) else (fV y m d,0):=rfl
 rw [e]
 unfold H4
 by_cases h:(2000≤y∧y≤2300)∧(1≤m∧m≤12)∧(1≤d∧d≤k8 y m)
 ·have hp:k8 y m≤31:=by unfold k8; (repeat' split) <;> omega
  rw [length_eq (by omega) (by omega),DI (by omega) (by omega) (by omega)]
  have hc:((((((decide (y < 2000))||(decide (y > 2300)))||(decide (m < 1)))||(decide (m > 12)))||(decide (d < 1)))||(decide (d > k8 y m)))=false:=by
   simp only [LN]; omega
  rw [hc,cond_false]
  have hv:bB (dS y m d)=(decide (0≤dS y m d)&&decide (dS y m d≤100000)):=rfl
  rw [hv]
  by_cases h2:0≤dS y m d∧dS y m d≤100000
  ·rw [decide_eq_true h2.1,decide_eq_true h2.2,if_pos ⟨h.1,h.2.1,h.2.2,h2⟩]; rfl
  ·rw [if_neg (fun q=>h2 q.2.2.2)]
   have:(decide (0≤dS y m d)&&decide (dS y m d≤100000))=false:=by simp only [LN]; omega
   rw [this]; rfl
 ·rw [if_neg (fun q=>h ⟨q.1,q.2.1,q.2.2.1⟩)]
  have hc:((((((decide (y < 2000))||(decide (y > 2300)))||(decide (m < 1)))||(decide (m > 12)))||(decide (d < 1)))||(decide (d > fW y m)))=true:=by
   by_cases h1:(2000≤y∧y≤2300)∧(1≤m∧m≤12)
   ·rw [length_eq (by omega) (by omega)]; simp only [LN]; omega
   ·simp only [LN]; omega
  rw [hc]; rfl
theorem Kx {d:Int} (h:0≤d∧d≤200000):1600≤(l6 d).1∧(l6 d).1≤3000:=by
 unfold l6
 dsimp only
 have h1:0≤(d+730425) % 146097∧(d+730425) % 146097 < 146097:=by omega
 have h2:4≤(d+730425) / 146097∧(d+730425) / 146097≤6:=by omega
 generalize (d+730425) / 146097=q at h2 ⊢
 generalize (d+730425) % 146097=r at h1 ⊢
 have y0:0≤(r - r / 1460+r / 36524 - r / 146096) / 365∧(r - r / 1460+r / 36524 - r / 146096) / 365≤400:=by omega
 generalize (r - r / 1460+r / 36524 - r / 146096) / 365=y at y0 ⊢
 split <;> omega
def Cg (day n:Int):Int × Int:=H4 ((12 * (l6 day).1+(l6 day).2.1 - 1+n) / 12) ((12 * (l6 day).1+(l6 day).2.1 - 1+n) % 12+1) (min (l6 day).2.2 (k8 ((12 * (l6 day).1+(l6 day).2.1 - 1+n) / 12) ((12 * (l6 day).1+(l6 day).2.1 - 1+n) % 12+1)))
theorem we {day n:Int} (hn:0≤n∧n≤5000):ch day n=if 0≤day∧day≤100000 then Cg day n else (0,3):=by
 have e:ch day n=bif ((!(bB day))||(decide (n < (-5000))))||(decide (n > 5000)) then (0,3) else
   ((nC (ar ((ar ((ar ((ar ((ar ((12:Int) * (bC day).1))+(bC day).2.1)) - 1))+n)).tdiv 12)) (ar (((ar ((ar ((ar ((ar ((12:Int) * (bC day).1))+(bC day).2.1)) - 1))+n)).tmod 12)+1)) (eG (bC day).2.2 (fW (ar ((ar ((ar ((ar ((ar ((12:Int) * (bC day).1))+(bC day).2.1)) - 1))+n)).tdiv 12)) (ar (((ar ((ar ((ar ((ar ((12:Int) * (bC day).1))+(bC day).2.1)) - 1))+n)).tmod 12)+1))))).1,
    (nC (ar ((ar ((ar ((ar ((ar ((12:Int) * (bC day).1))+(bC day).2.1)) - 1))+n)).tdiv 12)) (ar (((ar ((ar ((ar ((ar ((12:Int) * (bC day).1))+(bC day).2.1)) - 1))+n)).tmod 12)+1)) (eG (bC day).2.2 (fW (ar ((ar ((ar ((ar ((ar ((12:Int) * (bC day).1))+(bC day).2.1)) - 1))+n)).tdiv 12)) (ar (((ar ((ar ((ar ((ar ((12:Int) * (bC day).1))+(bC day).2.1)) - 1))+n)).tmod 12)+1))))).2):=rfl
 have hv:bB day=(decide (0≤day)&&decide (day≤100000)):=rfl
 rw [e,hv]
 by_cases h:0≤day∧day≤100000
 ·have hc:(((!(decide (0≤day)&&decide (day≤100000)))||(decide (n < (-5000))))||(decide (n > 5000)))=false:=by simp only [LN]; omega
  rw [hc,cond_false,if_pos h,Oy (by omega)]
  have h1:=Cf (d:=day) (by omega)
  have h2:=Kx (d:=day) (by omega)
  unfold Cg
  generalize l6 day=p at h1 h2 ⊢
  have ew:ar (ar (ar (ar (12 * p.1)+p.2.1) - 1)+n)=12 * p.1+p.2.1 - 1+n:=by simp (disch:=omega) only [az]
  rw [ew]
  generalize hM:12 * p.1+p.2.1 - 1+n=M
  have hM2:19200≤M∧M≤50000:=by omega
  rw [Int.tdiv_eq_ediv_of_nonneg (by omega),Int.tmod_eq_emod_of_nonneg (by omega),az (n:=M / 12) (by omega) (by omega),az (n:=M % 12+1) (by omega) (by omega),length_eq (by omega) (by omega),Ve]
  have:eG p.2.2 (k8 (M / 12) (M % 12+1))=min p.2.2 (k8 (M / 12) (M % 12+1)):=by unfold eG; split <;> omega
  rw [this]
 ·have hc:(((!(decide (0≤day)&&decide (day≤100000)))||(decide (n < (-5000))))||(decide (n > 5000)))=true:=by simp only [LN]; omega
  rw [hc,cond_true,if_neg h]
theorem Fw {y:Int} (h:2000≤y):365 * (y - 2000)≤dS y 1 1:=by
 unfold dS; rw [if_pos (by decide)]; omega
theorem Vf (y m d:Int):dS y m (d+1)=dS y m 1+d:=by
 unfold dS; split <;> omega
theorem su (y m:Int):28≤k8 y m∧k8 y m≤31:=by unfold k8; (repeat' split) <;> omega
theorem yR (y:Int):365≤zH y∧zH y≤366:=by unfold zH; split <;> omega
theorem WO {day y m rest:Int} (hy:2000≤y) (hm:1≤m∧m≤12) (h:dS y m 1+rest=day) (hr:0≤rest∧rest < k8 y m):l6 day=(y,m,rest+1):=by
 have:=Vd y m (rest+1) (by omega) hm (by omega)
 rw [Vf,h] at this
 exact this
theorem JH (c:dL) (n:Nat):∀ (d x:Int),d≤x→x < d+n→bM c x=true→(∀ y,d≤y→y < x→bM c y=false)→kY c n d=some x:=by
 induction n with
 | zero=>intro d x h1 h2 _ _; omega
 | succ n ih =>
  intro d x h1 h2 ho hn
  unfold kY
  by_cases e:d=x
  ·rw [e,ho,cond_true]
  ·rw [hn d (Int.le_refl _) (by omega),cond_false]
   exact ih (d+1) x (by omega) (by omega) ho (fun y a b=>hn y (by omega) b)
theorem zI (c:dL):∀ (n:Nat) (d:Int),(∀ y,d≤y→y < d+n→bM c y=false)→kY c n d=none
 | 0,_,_=>rfl
 | n+1,d,hn=>by
  unfold kY
  rw [hn d (Int.le_refl _) (by omega),cond_false]
  exact zI c n (d+1) (fun y a b=>hn y (by omega) (by omega))
theorem SW {c:dL} {day x:Int} (hv:0≤day∧day≤100000) (h1:day≤x) (h2:x≤day+400) (h3:x≤100000) (ho:bM c x=true) (hn:∀ y,day≤y→y < x→bM c y=false):bj c day=(x,0):=by
 have hvb:bB day=true:=by
  have:bB day=(decide (0≤day)&&decide (day≤100000)):=rfl
  rw [this]; simp only [LN]; exact hv
 unfold bj oE
 rw [hvb,az (by omega) (by omega),JH c _ day x h1 (by omega) ho hn]
 rfl
theorem SX {c:dL} {day:Int} (hv:0≤day∧day≤100000) (hn:∀ y,day≤y→y≤day+400→y≤100000→bM c y=false):bj c day=(0,3):=by
 have hvb:bB day=true:=by
  have:bB day=(decide (0≤day)&&decide (day≤100000)):=rfl
  rw [this]; simp only [LN]; exact hv
 unfold bj oE
 rw [hvb,az (by omega) (by omega),zI c _ day (fun y a b=>hn y a (by omega) (by omega))]
 rfl
theorem OA {c:dL} {day:Int} (hv:¬ (0≤day∧day≤100000)):bj c day=(0,3):=by
 have hvb:bB day=false:=by
  have:bB day=(decide (0≤day)&&decide (day≤100000)):=rfl
  rw [this]; simp only [LN]; omega
 unfold bj
 rw [hvb]
 rfl
theorem RL {y:Int} (h:2000≤y):0≤dS y 1 1∧dS y 1 1≤366 * (y - 2000):=by
 unfold dS; rw [if_pos (by decide)]; omega
theorem OB {y m:Int} (h:2000≤y) (hm:1≤m∧m≤12):0≤dS y m 1∧dS y m 1≤366 * (y - 2000)+366:=by
 unfold dS; split <;> omega
theorem pC {day n:Int} (h:¬ (0≤day∧day≤100000)∨n > 5000):ch day n=(0,3):=by
 have hc:(((!(bB day))||(decide (n < (-5000))))||(decide (n > 5000)))=true:=by
  have hv:bB day=(decide (0≤day)&&decide (day≤100000)):=rfl
  rw [hv]; simp only [LN]; omega
 simp only [ch,dJ,Sk.bU,Sk.aZ,Sk.aN,eo.qB,kk,kp,fF]
 rw [hc]; rfl
theorem Vg {y m d:Int} (h:y < 2000):H4 y m d=(0,3):=by
 unfold H4; rw [if_neg (fun q=>by omega)]
def qa (year:Int):Sk (Bool) :=
 .r 1 (.au (.p ((4:Int)≠0)) (.au (.wh ((year.tmod 4) == 0) true (.p ((100:Int)≠0))) (.wh ((year.tmod 4) == 0) true (.wh ((year.tmod 100) != 0) false (.p ((400:Int)≠0)))))) fun _ =>
 .fin (((year.tmod 4) == 0)&&(((year.tmod 100) != 0)||((year.tmod 400) == 0)))
def Vh year:=(qa year).val
theorem L5 (year:Int):(qa year).dz (fun (x:Bool)=>0≤year→x=decide (year % 4=0∧(year % 100≠0∨year % 400=0))):=by
 refine Sk.bq _ ?_
 unfold qa
 simp only [Sk.cV,Sk.aU,reduceCtorEq,ON,kk,kp,maxLen]
 intro _ h
 rw [Int.tmod_eq_emod_of_nonneg h,Int.tmod_eq_emod_of_nonneg h,Int.tmod_eq_emod_of_nonneg h,Bool.eq_iff_iff]
 simp only [LN]
theorem OC (year:Int):(qa year).bE (fun _=>True):=by
 unfold qa
 exact oj
def oU year:=kp tok mixed Tryz.func207 [iv year] (fun x=>bv x) true (Vh year) (u0 (OC year)) (L5 year)
def qb (year:Int):Sk (Int) :=
 .r 1 ((oU year).c) fun x1 =>
 .br x1
 (.fin 366)
 (.fin 365)
def Vi year:=(qb year).val
theorem L6 (year:Int):(qb year).dz (fun (x:Int)=>0≤year→x=zH year):=by
 refine Sk.bq _ ?_
 unfold qb
 simp only [Sk.cV,Sk.aU,reduceCtorEq,ON,kk,kp,oU,maxLen]
 intro x _ hx
 refine ⟨fun hc h=>?_,fun hc h=>?_⟩
 all_goals have hx:=hx h
 all_goals unfold zH
 ·rw [hc] at hx; rw [if_pos (of_decide_eq_true hx.symm)]
 ·rw [hc] at hx; rw [if_neg (of_decide_eq_false hx.symm)]
theorem OD (year:Int):(qb year).bE (fun _=>True):=by
 unfold qb
 try simp only [oU]
 exact mY
def mN year:=kp tok mixed Tryz.func206 [iv year] (fun x=>iv x) true (Vi year) (u0 (OD year)) (L6 year)
def l7 (year:Int) (month:Int):Sk (Int) :=
 .r 1 (.wh (month == 2) true ((oU year).c)) fun x1 =>
 .br ((month == 2)&&x1)
 (.fin 29)
 (.br (month == 2)
 (.fin 28)
 (.br ((((month == 4)||(month == 6))||(month == 9))||(month == 11))
 (.fin 30)
 (.fin 31)))
def Qt year month:=(l7 year month).val
theorem H5 (year:Int) (month:Int):(l7 year month).dz (fun (x:Int)=>0≤year→x=k8 year month):=by
 refine Sk.bq _ ?_
 unfold l7
 simp only [Sk.cV,Sk.aU,reduceCtorEq,ON,kk,kp,oU,maxLen]
 intro x _ hx
 refine ⟨fun hc h=>?_,fun hc=>⟨fun uj h=>?_,fun uj=>⟨fun hc3 h=>?_,fun hc3 h=>?_⟩⟩⟩
 all_goals have hx:=hx h
 all_goals unfold k8
 ·simp only [LN] at hc
  rw [hc.2] at hx
  rw [if_pos hc.1,if_pos (of_decide_eq_true hx.symm)]
 ·simp only [LN] at hc uj
  have ZJ:x=false:=hc.resolve_left (fun h1=>h1 uj)
  rw [ZJ] at hx
  rw [if_pos uj,if_neg (of_decide_eq_false hx.symm)]
 ·simp only [LN] at uj hc3
  rw [if_neg uj,if_pos (by omega)]
 ·simp only [LN] at uj hc3
  rw [if_neg uj,if_neg (by omega)]
theorem JI (year:Int) (month:Int):(l7 year month).bE (fun _=>True):=by
 unfold l7
 try simp only [oU]
 exact mY
def eT year month:=kp tok mixed Tryz.func197 [iv year,iv month] (fun x=>iv x) true (Qt year month) (u0 (JI year month)) (H5 year month)
def qc (day:Int):Sk (Int × Int × Int × Int) :=
 .r 1 ((dF day).c) fun x1 =>
 .br (!x1)
 (.fin (0,0,0,3))
 (.bind true (fun b2=>2000≤b2.1∧0≤b2.2∧b2.2 < zH b2.1∧dS b2.1 1 1+b2.2=day∧day≤100000)
 (.loop (default:Sum (Int × Int × Int × Int) (Int × Int)) (fun i3=>2000≤i3.1∧0≤i3.2∧dS i3.1 1 1+i3.2=day∧day≤100000) (fun i3=>i3.2.toNat) ((2000,day):Int × Int)
 (fun (i3:Int × Int)=>⟨[(6,iv i3.1),(7,iv i3.2)],[]⟩) fun i3 =>
 .r 5 ((mN i3.1).c) fun x4 =>
 .br (decide (i3.2≥x4))
 (.r 6 ((mN i3.1).c) fun x5 =>
 .fin (.inr (ar (i3.1+1),ar (i3.2 - x5))))
 (.fin (.inl (.inr (i3.1,i3.2)))))
 (fun (b2:Int × Int)=>⟨[(6,iv b2.1),(7,iv b2.2)],[]⟩) fun b2 =>
 .bind true (fun b6=>(1≤b6.2∧b6.2≤12)∧0≤b6.1∧b6.1 < k8 b2.1 b6.2∧dS b2.1 b6.2 1+b6.1=day)
 (.loop (default:Sum (Int × Int × Int × Int) (Int × Int)) (fun i7=>(1≤i7.2∧i7.2≤12)∧0≤i7.1∧dS b2.1 i7.2 1+i7.1=day∧day < dS (b2.1+1) 1 1) (fun i7=>i7.1.toNat) ((b2.2,1):Int × Int)
 (fun (i7:Int × Int)=>⟨[(7,iv i7.1),(8,iv i7.2)],[]⟩) fun i7 =>
 .r 9 ((eT b2.1 i7.2).c) fun x8 =>
 .br (decide (i7.1≥x8))
 (.r 10 ((eT b2.1 i7.2).c) fun x9 =>
 .fin (.inr (ar (i7.1 - x9),ar (i7.2+1))))
 (.fin (.inl (.inr (i7.1,i7.2)))))
 (fun (b6:Int × Int)=>⟨[(7,iv b6.1),(8,iv b6.2)],[]⟩) fun b6 =>
 .fin (b2.1,b6.2,ar (b6.1+1),0))
def Vj day:=(qc day).val
theorem L7 (day:Int):(qc day).dz (fun (x:Int × Int × Int × Int)=>(0≤day∧day≤100000→x=((l6 day).1,(l6 day).2.1,(l6 day).2.2,0))∧(¬ (0≤day∧day≤100000)→x=(0,0,0,3))):=by
 refine Sk.bq _ ?_
 unfold qc
 simp only [Sk.cV,Sk.aU,reduceCtorEq,ON,kk,kp,eT,dF,mN,iG,forall_eq,maxLen]
 refine ⟨fun hv=>?_,fun hv=>⟨⟨?_,fun i hi hd=>⟨fun hc _=>?_,fun hc=>?_⟩⟩,fun b hb=>⟨⟨?_,fun i hi hd=>⟨fun hc _=>?_,fun hc=>?_⟩⟩,fun b6 hb6=>?_⟩⟩⟩
 rotate_left
 ·have h0:dS 2000 1 1=0:=rfl
  simp only [LN] at hv
  exact ⟨by omega,by omega,by omega,by omega⟩
 ·have hd:=hd (by omega)
  rw [hd] at hc ⊢
  simp only [LN] at hc
  have hp:=yR i.1
  have hy:=Fw hi.1
  rw [az (by omega) (by omega),az (by omega) (by omega)]
  have:=rz i.1
  exact ⟨⟨by omega,by omega,by omega,by omega⟩,by omega⟩
 ·have hd:=hd (by omega)
  rw [hd] at hc
  simp only [LN] at hc
  exact ⟨hi.1,hi.2.1,hc,hi.2.2⟩
 ·have:=rz b.1
  exact ⟨⟨by omega,by omega⟩,hb.2.1,hb.2.2.2.1,by omega⟩
 ·have hd:=hd (by omega)
  rw [hd] at hc ⊢
  simp only [LN] at hc
  have hp:=su b.1 i.2
  have h12:i.2≤11:=by
   by_cases e:i.2=12
   ·have h1:=Ox b.1
    have h2:k8 b.1 12=31:=rfl
    rw [e] at hc hi
    omega
   ·omega
  have:=sr b.1 i.2 (by omega)
  have hi2:i.1≤1000000:=by
   have h1:=Fw hb.1
   have h3:dS b.1 1 1≤dS b.1 i.2 1:=by unfold dS; (repeat' split) <;> omega
   omega
  rw [az (by omega) (by omega),az (by omega) (by omega)]
  exact ⟨⟨⟨by omega,by omega⟩,by omega,by omega,hi.2.2.2⟩,by omega⟩
 ·have hd:=hd (by omega)
  rw [hd] at hc
  simp only [LN] at hc
  exact ⟨hi.1,hi.2.1,hc,hi.2.2.1⟩
 ·have e:=WO hb.1 hb6.1 hb6.2.2.2 ⟨hb6.2.1,hb6.2.2.1⟩
  have hp:=su b.1 b6.2
  rw [e,az (by omega) (by omega)]
  simp only [LN] at hv
  exact ⟨fun _=>rfl,fun h=>absurd (by omega) h⟩
 ·simp only [LN] at hv
  intro h; omega
theorem OE (day:Int):(qc day).bE (fun _=>True):=by
 refine Sk.bm _ ?_
 unfold qc
 simp only [Sk.j2,Sk.aU,reduceCtorEq,ON,kk,kp,eT,dF,mN,iG,forall_eq,maxLen]
 refine fun hv=>⟨⟨?_,fun i hi hd=>⟨fun hc _=>?_,fun hc=>?_⟩⟩,fun b hb=>⟨?_,fun i hi hd=>⟨fun hc _=>?_,fun hc=>?_⟩⟩⟩
 ·have h0:dS 2000 1 1=0:=rfl
  simp only [LN] at hv
  exact ⟨by omega,by omega,by omega,by omega⟩
 ·have hd:=hd (by omega)
  rw [hd] at hc ⊢
  simp only [LN] at hc
  have hp:=yR i.1
  have hy:=Fw hi.1
  rw [az (by omega) (by omega),az (by omega) (by omega)]
  have:=rz i.1
  exact ⟨⟨by omega,by omega,by omega,by omega⟩,by omega⟩
 ·have hd:=hd (by omega)
  rw [hd] at hc
  simp only [LN] at hc
  exact ⟨hi.1,hi.2.1,hc,hi.2.2⟩
 ·have:=rz b.1
  exact ⟨⟨by omega,by omega⟩,hb.2.1,hb.2.2.2.1,by omega⟩
 ·have hd:=hd (by omega)
  rw [hd] at hc ⊢
  simp only [LN] at hc
  have hp:=su b.1 i.2
  have h12:i.2≤11:=by
   by_cases e:i.2=12
   ·have h1:=Ox b.1
    have h2:k8 b.1 12=31:=rfl
    rw [e] at hc hi
    omega
   ·omega
  have:=sr b.1 i.2 (by omega)
  have hi2:i.1≤1000000:=by
   have h1:=Fw hb.1
   have h3:dS b.1 1 1≤dS b.1 i.2 1:=by unfold dS; (repeat' split) <;> omega
   omega
  rw [az (by omega) (by omega),az (by omega) (by omega)]
  exact ⟨⟨⟨by omega,by omega⟩,by omega,by omega,hi.2.2.2⟩,by omega⟩
 ·have hd:=hd (by omega)
  rw [hd] at hc
  simp only [LN] at hc
  exact ⟨hi.1,hi.2.1,hc,hi.2.2.1⟩
def oV day:=kp tok mixed Tryz.func195 [iv day] (fun x=>.ef [iv x.1,iv x.2.1,iv x.2.2.1,iv x.2.2.2]) true (Vj day) (u0 (OE day)) (L7 day)
def sw (year:Int) (month:Int) (qh:Int):Sk (Int × Int) :=
 .r 1 (.wh (((((decide (year < 2000))||(decide (year > 2300)))||(decide (month < 1)))||(decide (month > 12)))||(decide (qh < 1))) false ((eT year month).c)) fun x1 =>
 .br ((((((decide (year < 2000))||(decide (year > 2300)))||(decide (month < 1)))||(decide (month > 12)))||(decide (qh < 1)))||(decide (qh > x1)))
 (.fin (0,3))
 (.bind true (fun b2=>b2=qh - 1+dS year 1 1)
 (.loop (default:Sum (Int × Int) (Int)) (fun i3=>2000≤i3.2∧i3.2≤year∧i3.1=qh - 1+dS i3.2 1 1) (fun i3=>(year - i3.2).toNat) ((ar (qh - 1),2000):Int × Int)
 (fun (i3:Int × Int)=>⟨[(8,iv i3.1),(9,iv i3.2)],[]⟩) fun i3 =>
 .br (decide (i3.2 < year))
 (.r 7 ((mN i3.2).c) fun x4 =>
 .fin (.inr (ar (i3.1+x4),ar (i3.2+1))))
 (.fin (.inl (.inr i3.1))))
 (fun (b2:Int)=>⟨[(8,iv b2)],[]⟩) fun b2 =>
 .bind true (fun b5=>b5=qh - 1+dS year month 1)
 (.loop (default:Sum (Int × Int) (Int)) (fun i6=>1≤i6.2∧i6.2≤month∧i6.1=qh - 1+dS year i6.2 1) (fun i6=>(month - i6.2).toNat) ((b2,1):Int × Int)
 (fun (i6:Int × Int)=>⟨[(8,iv i6.1),(10,iv i6.2)],[]⟩) fun i6 =>
 .br (decide (i6.2 < month))
 (.r 11 ((eT year i6.2).c) fun x7 =>
 .fin (.inr (ar (i6.1+x7),ar (i6.2+1))))
 (.fin (.inl (.inr i6.1))))
 (fun (b5:Int)=>⟨[(8,iv b5)],[]⟩) fun b5 =>
 .r 12 ((dF b5).c) fun x8 =>
 .br (!x8)
 (.fin (0,3))
 (.fin (b5,0)))
def WQ year month qh:=(sw year month qh).val
theorem OG (year:Int) (month:Int) (qh:Int):(sw year month qh).dz (fun (x:Int × Int)=>x=H4 year month qh):=by
 refine Sk.bq _ ?_
 unfold sw
 simp only [Sk.cV,Sk.aU,reduceCtorEq,ON,kk,kp,eT,dF,mN,iG,forall_eq,maxLen]
 intro hL
 refine ⟨fun hv=>?_,fun hv=>?_⟩
 ·unfold H4
  rw [if_neg]
  intro q
  simp only [LN] at hv
  rw [hL (by omega)] at hv
  omega
 have RU:=su year month
 have hv:(2000≤year∧year≤2300)∧(1≤month∧month≤12)∧1≤qh∧qh≤k8 year month:=by
  simp only [LN] at hv
  rw [hL (by omega)] at hv
  omega
 have e:dS year month qh=qh - 1+dS year month 1:=by unfold dS; split <;> omega
 refine ⟨⟨?_,fun i hi=>⟨fun hc hd=>?_,fun hc=>?_⟩⟩,⟨?_,fun i hi=>⟨fun hc hd=>?_,fun hc=>?_⟩⟩,fun hq=>?_,fun hq=>?_⟩
 ·have h0:dS 2000 1 1=0:=rfl
  exact ⟨by omega,by omega,by rw [az (by omega) (by omega)]; omega⟩
 ·simp only [LN] at hc
  have hd:=hd (by omega)
  have hp:=yR i.2
  have hy:=RL hi.1
  have:=rz i.2
  rw [hd,az (n:=i.2+1) (by omega) (by omega),az (n:=i.1+zH i.2) (by omega) (by omega)]
  exact ⟨⟨by omega,by omega,by omega⟩,by omega⟩
 ·simp only [LN] at hc
  have e:i.2=year:=by omega
  rw [← e]; exact hi.2.2
 ·exact ⟨by omega,by omega⟩
 ·simp only [LN] at hc
  have hd:=hd (by omega)
  have hp:=su year i.2
  have hy:=OB (y:=year) (m:=i.2) (by omega) (by omega)
  have:=sr year i.2 (by omega)
  rw [hd,az (n:=i.2+1) (by omega) (by omega),az (n:=i.1+k8 year i.2) (by omega) (by omega)]
  exact ⟨⟨by omega,by omega,by omega⟩,by omega⟩
 ·simp only [LN] at hc
  have e:i.2=month:=by omega
  rw [← e]; exact hi.2.2
 ·simp only [LN] at hq
  unfold H4
  rw [if_neg (fun q=>by omega)]
 ·simp only [LN] at hq
  unfold H4
  rw [if_pos (by omega),e]
theorem Qu (year:Int) (month:Int) (qh:Int):(sw year month qh).bE (fun _=>True):=by
 refine Sk.bm _ ?_
 unfold sw
 simp only [Sk.j2,Sk.aU,reduceCtorEq,ON,kk,kp,eT,dF,mN,iG,forall_eq,maxLen]
 intro hL hv
 have RU:=su year month
 have hv:(2000≤year∧year≤2300)∧(1≤month∧month≤12)∧1≤qh∧qh≤k8 year month:=by
  simp only [LN] at hv
  rw [hL (by omega)] at hv
  omega
 refine ⟨⟨?_,fun i hi=>⟨fun hc hd=>?_,fun hc=>?_⟩⟩,?_,fun i hi=>⟨fun hc hd=>?_,fun hc=>?_⟩⟩
 ·have h0:dS 2000 1 1=0:=rfl
  exact ⟨by omega,by omega,by rw [az (by omega) (by omega)]; omega⟩
 ·simp only [LN] at hc
  have hd:=hd (by omega)
  have hp:=yR i.2
  have hy:=RL hi.1
  have:=rz i.2
  rw [hd,az (n:=i.2+1) (by omega) (by omega),az (n:=i.1+zH i.2) (by omega) (by omega)]
  exact ⟨⟨by omega,by omega,by omega⟩,by omega⟩
 ·simp only [LN] at hc
  have e:i.2=year:=by omega
  rw [← e]; exact hi.2.2
 ·exact ⟨by omega,by omega⟩
 ·simp only [LN] at hc
  have hd:=hd (by omega)
  have hp:=su year i.2
  have hy:=OB (y:=year) (m:=i.2) (by omega) (by omega)
  have:=sr year i.2 (by omega)
  rw [hd,az (n:=i.2+1) (by omega) (by omega),az (n:=i.1+k8 year i.2) (by omega) (by omega)]
  exact ⟨⟨by omega,by omega,by omega⟩,by omega⟩
 ·simp only [LN] at hc
  have e:i.2=month:=by omega
  rw [← e]; exact hi.2.2
def DJ year month qh:=kp tok mixed Tryz.func196 [iv year,iv month,iv qh] (fun x=>.ef [iv x.1,iv x.2]) true (WQ year month qh) (u0 (Qu year month qh)) (OG year month qh)
def ju (day:Int) (n:Int):Sk (Int × Int) :=
 .r 1 ((oV day).c) fun x1 =>
 .br (((x1.2.2.2 != 0)||(decide (n < (-5000))))||(decide (n > 5000)))
 (.fin (0,3))
 (.br (decide ((ar ((ar ((ar ((ar ((12:Int) * x1.1))+x1.2.1)) - 1))+n)) < 24000))
 (.fin (0,3))
 (.r 7 (.p ((12:Int)≠0)) fun _ =>
 .r 8 (.p ((12:Int)≠0)) fun _ =>
 .r 9 (.dep ((eT (ar ((ar ((ar ((ar ((ar ((12:Int) * x1.1))+x1.2.1)) - 1))+n)).tdiv 12)) (ar (((ar ((ar ((ar ((ar ((12:Int) * x1.1))+x1.2.1)) - 1))+n)).tmod 12)+1))).c) fun x2=>(DJ (ar ((ar ((ar ((ar ((ar ((12:Int) * x1.1))+x1.2.1)) - 1))+n)).tdiv 12)) (ar (((ar ((ar ((ar ((ar ((12:Int) * x1.1))+x1.2.1)) - 1))+n)).tmod 12)+1)) (eG x1.2.2.1 x2)).c) fun p4 =>
 .fin (p4.2.1,p4.2.2)))
def dT day n:=(ju day n).val
theorem tF (day:Int) (n:Int):(ju day n).dz (fun (x:Int × Int)=>0≤n→x=ch day n):=by
 refine Sk.bq _ ?_
 unfold ju
 simp only [Sk.cV,Sk.aU,reduceCtorEq,ON,kk,kp,oV,DJ,eT,maxLen]
 intro x _ hx
 by_cases hd:0≤day∧day≤100000
 ·have e:=hx.1 hd
  subst e
  dsimp only
  have h1:=Cf (d:=day) (by omega)
  have h2:=Kx (d:=day) (by omega)
  refine ⟨fun hc h0=>?_,fun hc=>⟨fun hm h0=>?_,fun hm _ _ y _ hy h0=>?_⟩⟩
  ·have:n > 5000:=by simp only [LN,true_and,not_true,false_or,or_false] at hc; omega
   exact (pC (.inr this)).symm
  ·have hn:n≤5000:=by simp only [LN] at hc; omega
   rw [we ⟨h0,hn⟩,if_pos hd]
   unfold Cg
   generalize l6 day=p at h1 h2 hm ⊢
   have ew:ar (ar (ar (ar (12 * p.1)+p.2.1) - 1)+n)=12 * p.1+p.2.1 - 1+n:=by simp (disch:=omega) only [az]
   rw [ew] at hm
   simp only [LN] at hm
   rw [Vg (by omega)]
  ·have hn:n≤5000:=by simp only [LN] at hc; omega
   rw [we ⟨h0,hn⟩,if_pos hd]
   unfold Cg
   generalize l6 day=p at h1 h2 hm hy ⊢
   have ew:ar (ar (ar (ar (12 * p.1)+p.2.1) - 1)+n)=12 * p.1+p.2.1 - 1+n:=by simp (disch:=omega) only [az]
   rw [ew] at hy
   generalize hM:12 * p.1+p.2.1 - 1+n=M at hy ⊢
   have hM2:19200≤M∧M≤50000:=by omega
   rw [Int.tdiv_eq_ediv_of_nonneg (by omega),Int.tmod_eq_emod_of_nonneg (by omega),az (n:=M / 12) (by omega) (by omega),az (n:=M % 12+1) (by omega) (by omega)] at hy
   have O4:=hy.1 (by omega)
   have:eG p.2.2 (k8 (M / 12) (M % 12+1))=min p.2.2 (k8 (M / 12) (M % 12+1)):=by unfold eG; split <;> omega
   rw [← this,← O4,← hy.2]
 ·have e:=hx.2 hd
  subst e
  have:=pC (n:=n) (.inl hd)
  refine ⟨fun _ _=>this.symm,fun hc=>?_⟩
  simp only [LN] at hc
  exact absurd hc.1.1 (by decide)
theorem Ao (day:Int) (n:Int):(fun (x:Int × Int)=>0≤n→x=ch day n) (dT day n):=have h:=Sk.dA _ (tF day n); h
theorem DK (day:Int) (n:Int):(ju day n).bE (fun _=>True):=by
 unfold ju
 try simp only [oV,DJ,eT]
 exact oj
def wJ day n:=kp tok mixed Tryz.func169 [iv day,iv n] (fun x=>.ef [iv x.1,iv x.2]) true (dT day n) (u0 (DK day n)) (tF day n)
def tG (r:af) (b:jT) (seen:Int):Sk (Int) :=
 .bind false (fun _=>True)
 (.br (b.aE.kind == 0)
 (.fin (.inr seen))
 (.fin (.inr 0)))
 (fun (b1:Int)=>⟨[(8,iv b1)],[]⟩) fun b1 =>
 .bind false (fun _=>True)
 (.br (b.aE.kind == 3)
 (.fin (.inr b.aE.n))
 (.fin (.inr b1)))
 (fun (b2:Int)=>⟨[(8,iv b2)],[]⟩) fun b2 =>
 .bind false (fun _=>True)
 (.br (b.aE.kind == 4)
 (.r 9 ((re r b.aJ b.qC).c) fun x4 =>
 .fin (.inr (ar (x4.1+b.day),x4.2)))
 (.fin (.inr (b2,0))))
 (fun (b3:Int × Int)=>⟨[(8,iv b3.1),(9,iv b3.2)],[]⟩) fun b3 =>
 .bind false (fun _=>True)
 (.br ((b.aE.kind == 1)||(b.aE.kind == 2))
 (.br ((decide (b.aE.n < 0))||(decide (b.aE.n > 20000)))
 (.fin (.inl (-1)))
 (.bind false (fun _=>True)
 (.br (b.aE.kind == 1)
 (.fin (.inr seen))
 (.fin (.inr b.day)))
 (fun (b6:Int)=>⟨[(8,iv b6)],[]⟩) fun b6 =>
 .br (b.aE.unit == 1)
 (.r 18 ((wJ b6 b.aE.n).c) fun x7 =>
 .fin (.inr (x7.1,x7.2)))
 (.fin (.inr (ar (b6+b.aE.n),b3.2)))))
 (.fin (.inr (b3.1,b3.2))))
 (fun (b5:Int × Int)=>⟨[(8,iv b5.1),(9,iv b5.2)],[]⟩) fun b5 =>
 .r 20 (.wh (b5.2 != 0) false ((dF b5.1).c)) fun x8 =>
 .br ((b5.2 != 0)||(!x8))
 (.fin (-1))
 (.fin b5.1)
def l8 r b seen:=(tG r b seen).val
theorem OH (r:af) (b:jT) (seen:Int):(tG r b seen).bE (fun _=>True):=by
 unfold tG
 try simp only [wJ,dF,re,iG]
 exact qJ
def H6 r b seen:=kk tok mixed Tryz.func140 [av r.cells,av b.cells,iv seen] (fun x=>iv x) true (tG r b seen) (l8 r b seen) (u0 (OH r b seen))
def DL (day:Int) (t:mZ):Int × Int:=bif (decide (t.n < 0))||(decide (t.n > 20000)) then (0,3) else bif t.unit == 1 then ch day t.n else (ar (day+t.n),0)
def k9 (r:af) (b:jT) (seen:Int):Int × Int :=
 bif b.aE.kind == 0 then (seen,0) else bif b.aE.kind == 1 then DL seen b.aE else bif b.aE.kind == 2 then DL b.day b.aE else bif b.aE.kind == 4 then (ar (b.day+(cD r b.aJ b.qC).1),(cD r b.aJ b.qC).2) else (b.aE.n,0)
theorem WR (r:af) (b:jT) (seen:Int):kX r b seen=k9 r b seen:=by kernel_rfl
def yk (p:Int × Int):Int:=bif (p.2 != 0)||!(decide (p.1≥0)&&decide (p.1≤100000)) then -1 else p.1
theorem OI (r:af) (b:jT) (seen:Int):l8 r b seen =
  dZ (bif b.aE.kind == 0 then .inr seen else .inr (0:Int)) fun b1=>dZ (bif b.aE.kind == 3 then .inr b.aE.n else .inr b1) fun b2 =>
  dZ (bif b.aE.kind == 4 then .inr (ar ((fY r b.aJ b.qC).1+b.day),(fY r b.aJ b.qC).2) else .inr (b2,0)) fun b3 =>
  dZ (bif (b.aE.kind == 1)||(b.aE.kind == 2) then (bif (decide (b.aE.n < 0))||(decide (b.aE.n > 20000)) then .inl (-1) else
   dZ (bif b.aE.kind == 1 then .inr seen else .inr b.day) fun b6=>bif b.aE.unit == 1 then .inr ((dT b6 b.aE.n).1,(dT b6 b.aE.n).2) else .inr (ar (b6+b.aE.n),b3.2)) else .inr (b3.1,b3.2)) fun b5 =>
  bif (b5.2 != 0)||(!(g8 b5.1)) then -1 else b5.1:=by kernel_rfl
theorem H7 (r:af) (b:jT) (seen:Int) (hk:0≤b.aE.kind∧b.aE.kind < 5):l8 r b seen=yk (k9 r b seen):=by
 have hu:∀ x y,fY r x y=cD r x y:=fun x y=>qx r x y
 have hv:∀ x,g8 x=(decide (x≥0)&&decide (x≤100000)):=fun _=>rfl
 have hm:∀ x,0≤b.aE.n→dT x b.aE.n=ch x b.aE.n:=fun x h=>Ao x b.aE.n h
 have fP:b.aE.kind=0∨b.aE.kind=1∨b.aE.kind=2∨b.aE.kind=3∨b.aE.kind=4:=by omega
 rw [OI,hu]
 unfold yk k9 DL
 rcases fP with h | h | h | h | h
 ·rw [h]; exact congrArg (fun v:Bool=>bif ((0:Int) != 0)||(!v) then -1 else seen) (hv seen)
 ·rw [h]
  by_cases c:b.aE.n < 0∨b.aE.n > 20000
  ·have:((decide (b.aE.n < 0))||(decide (b.aE.n > 20000)))=true:=by simp only [LN]; exact c
   rw [this]; rfl
  ·have:((decide (b.aE.n < 0))||(decide (b.aE.n > 20000)))=false:=by simp only [LN]; omega
   rw [this]
   have hm:=hm seen (by omega)
   cases hu:(b.aE.unit == 1) with
   | true =>
    show (bif ((dT seen b.aE.n).2 != 0)||(!(g8 (dT seen b.aE.n).1)) then -1 else (dT seen b.aE.n).1)=_
    rw [hm,hv]; rfl
   | false =>
    show (bif ((0:Int) != 0)||(!(g8 (ar (seen+b.aE.n)))) then -1 else ar (seen+b.aE.n))=_
    rw [hv]; rfl
 ·rw [h]
  by_cases c:b.aE.n < 0∨b.aE.n > 20000
  ·have:((decide (b.aE.n < 0))||(decide (b.aE.n > 20000)))=true:=by simp only [LN]; exact c
   rw [this]; rfl
  ·have:((decide (b.aE.n < 0))||(decide (b.aE.n > 20000)))=false:=by simp only [LN]; omega
   rw [this]
   have hm:=hm b.day (by omega)
   cases hu:(b.aE.unit == 1) with
   | true =>
    show (bif ((dT b.day b.aE.n).2 != 0)||(!(g8 (dT b.day b.aE.n).1)) then -1 else (dT b.day b.aE.n).1)=_
    rw [hm,hv]; rfl
   | false =>
    show (bif ((0:Int) != 0)||(!(g8 (ar (b.day+b.aE.n)))) then -1 else ar (b.day+b.aE.n))=_
    rw [hv]; rfl
 ·rw [h]; exact congrArg (fun v:Bool=>bif ((0:Int) != 0)||(!v) then -1 else b.aE.n) (hv b.aE.n)
 ·rw [h]
  show (bif ((cD r b.aJ b.qC).2 != 0)||(!(g8 (ar ((cD r b.aJ b.qC).1+b.day)))) then -1 else ar ((cD r b.aJ b.qC).1+b.day))=_
  rw [hv,Int.add_comm (cD r b.aJ b.qC).1 b.day]; rfl
theorem Vk (r:af) (b:jT) (seen:Int) (hk:0≤b.aE.kind∧b.aE.kind < 5) (h:¬ l8 r b seen < 0):0≤l8 r b seen∧l8 r b seen≤100000:=by
 rw [H7 r b seen hk] at h ⊢
 generalize k9 r b seen=p at h
 unfold yk at h ⊢
 cases hc:((p.2 != 0)||!(decide (p.1≥0)&&decide (p.1≤100000))) with
 | true=>rw [hc] at h; exact absurd (show (-1:Int) < 0 by decide) h
 | false =>
  simp only [LN] at hc
  exact hc.2
def sx (l:List Int) (n:Int):Sk (Bool) :=
 .bind true (fun b1=>n ∉ l)
 (.loop (default:Sum (Bool) (Unit)) (fun i2=>i2≤l.length∧∀ q,q < i2→l.getD q default≠n) (fun i2=>l.length - i2) (0:Nat)
 (fun (i2:Nat)=>⟨[(5,iv (i2:Int))],[]⟩) fun i2 =>
 .lt 0 0 i2 l.length
 (.r 4 (.p (bz (i2:Int) l.length)) fun _ =>
 .br ((l.getD i2 default) == n)
 (.fin (.inl (.inl true)))
 (.nx 3 5 i2 (i2+1)))
 (.fin (.inl (.inr ()))))
 (fun (_:Unit)=>⟨[],[]⟩) fun _ =>
 .fin false
def WS l n:=(sx l n).val
theorem OJ (l:List Int) (n:Int):(sx l n).dz (fun (x:Bool)=>x=decide (n∈l)):=by
 refine Sk.bq _ ?_
 unfold sx
 simp only [Sk.cV,Sk.aU,reduceCtorEq,ON,kk,kp,maxLen]
 refine ⟨⟨⟨Nat.zero_le _,fun q hq=>absurd hq (by omega)⟩,fun i hi=>⟨fun hc _=>⟨fun h=>?_,fun h _=>?_⟩,fun hc=>?_⟩⟩,fun _ hb=>(decide_eq_false hb).symm⟩
 all_goals simp only [LN] at hc
 ·simp only [LN] at h
  exact (decide_eq_true (h ▸ ic (by omega) _)).symm
 ·simp only [LN] at h
  refine ⟨⟨by omega,fun q hq=>?_⟩,by omega⟩
  rcases Nat.lt_succ_iff_lt_or_eq.1 hq with h1 | rfl
  ·exact hi.2 q h1
  ·exact h
 ·intro hm
  obtain ⟨q,hq,e⟩:=List.getElem_of_mem hm
  exact hi.2 q (by omega) (by simp [List.getD,hq,e])
theorem Qv (l:List Int) (n:Int):(sx l n).bE (fun _=>True):=by
 refine Sk.bm _ ?_
 unfold sx
 simp only [Sk.j2,Sk.aU,reduceCtorEq,ON,kk,kp,maxLen]
 refine ⟨⟨Nat.zero_le _,fun q hq=>absurd hq (by omega)⟩,fun i hi hm=>⟨fun hc=>⟨⟨by omega,of_decide_eq_true hc⟩,fun _ h _=>⟨?_,⟨?_,fun q hq=>?_⟩,?_⟩⟩,fun hc hm=>?_⟩⟩
 all_goals simp only [LN] at hc
 ·exact (az (by omega) (by omega)).trans (by omega)
 ·omega
 ·simp only [LN] at h
  rcases Nat.lt_succ_iff_lt_or_eq.1 hq with h1 | rfl
  ·exact hi.2 q h1
  ·exact h
 ·omega
 ·obtain ⟨q,hq,e⟩:=List.getElem_of_mem hm
  exact hi.2 q (by omega) (by simp [List.getD,hq,e])
def u6 l n:=kp tok mixed Tryz.func208 [lv cM l,iv n] (fun x=>bv x) true (WS l n) (u0 (Qv l n)) (OJ l n)
def qd (c_:dL) (day:Int):Sk (Bool × Int) :=
 .r 1 ((oV day).c) fun x1 =>
 .br (x1.2.2.2 != 0)
 (.fin (false,x1.2.2.2))
 (.r 4 (.au (.p ((7:Int)≠0)) (.dep ((u6 c_.rest ((ar (day+5)).tmod 7)).c) fun x2=>.dep (.wh (!x2) true ((u6 c_.dM (ar ((ar ((100:Int) * x1.2.1))+x1.2.2.1))).c)) fun x3=>.wh ((!x2)&&(!x3)) true ((u6 c_.shut day).c))) fun p5 =>
 .fin (((!p5.1)&&(!p5.2.1))&&(!p5.2.2),0))
def Vl c_ day:=(qd c_ day).val
theorem L8 (c_:dL) (day:Int):(qd c_ day).dz (fun (x:Bool × Int)=>(0≤day∧day≤100000→x=(bM c_ day,0))∧(¬ (0≤day∧day≤100000)→x=(false,3))):=by
 refine Sk.bq _ ?_
 unfold qd
 simp only [Sk.cV,Sk.aU,reduceCtorEq,ON,kk,kp,oV,u6,maxLen]
 intro x _ hx
 refine ⟨fun hc=>?_,fun hc y _ hy=>?_⟩
 ·by_cases h:0≤day∧day≤100000
  ·rw [hx.1 h] at hc; cases hc
  ·rw [hx.2 h]; exact ⟨fun h2=>absurd h2 h,fun _=>rfl⟩
 ·by_cases h:0≤day∧day≤100000
  ·refine ⟨fun _=>?_,fun h2=>absurd h h2⟩
   rw [hy.1,hy.2.1,hy.2.2,hx.1 h,Oz c_ (by omega)]
   dsimp only
   have hr:=Cf (d:=day) (by omega)
   unfold XJ
   rw [az (n:=day+5) (by omega) (by omega),Int.tmod_eq_emod_of_nonneg (by omega),az (n:=100 * (l6 day).2.1) (by omega) (by omega),az (by omega) (by omega)]
  ·rw [hx.2 h] at hc; cases hc
theorem OK (c_:dL) (day:Int):(qd c_ day).bE (fun _=>True):=by
 unfold qd
 try simp only [oV,u6]
 exact oj
def Ap c_ day:=kp tok mixed Tryz.func198 [av c_.cells,iv day] (fun x=>.ef [bv x.1,iv x.2]) true (Vl c_ day) (u0 (OK c_ day)) (L8 c_ day)
def qe (c_:dL) (day:Int):Sk (Int × Int) :=
 .r 1 ((dF day).c) fun x1 =>
 .br (!x1)
 (.fin (0,3))
 (.bind true (fun b2=>∀ y,day≤y→y≤day+400→y≤100000→bM c_ y=false)
 (.loop (default:Sum (Int × Int) (Unit)) (fun i3=>0≤i3∧i3≤401∧∀ y,day≤y→y < day+i3→y≤100000→bM c_ y=false) (fun i3=>(401 - i3).toNat) (0:Int)
 (fun (i3:Int)=>⟨[(6,iv i3)],[]⟩) fun i3 =>
 .br (decide (i3≤400))
 (.r 6 ((Ap c_ (ar (day+i3))).c) fun x4 =>
 .br x4.1
 (.fin (.inl (.inl (ar (day+i3),0))))
 (.fin (.inr (ar (i3+1)))))
 (.fin (.inl (.inr ()))))
 (fun (_:Unit)=>⟨[],[]⟩) fun _ =>
 .fin (0,3))
def Vm c_ day:=(qe c_ day).val
theorem L9 (c_:dL) (day:Int):(qe c_ day).dz (fun (x:Int × Int)=>x=bj c_ day):=by
 refine Sk.bq _ ?_
 unfold qe
 simp only [Sk.cV,Sk.aU,reduceCtorEq,ON,kk,kp,Ap,dF,iG,forall_eq,maxLen]
 refine ⟨fun hv=>?_,fun hv=>?_⟩
 ·rw [OA]
  simp only [LN] at hv
  omega
 have hv:0≤day∧day≤100000:=by simp only [LN] at hv; exact hv
 have hw:∀ i:Int,0≤i→i≤401→ar (day+i)=day+i:=fun i a b=>az (by omega) (by omega)
 refine ⟨⟨⟨by omega,by omega,fun y a b=>by omega⟩,fun i hi=>?_⟩,fun b hb=>(SX hv hb).symm⟩
 rw [hw i hi.1 hi.2.1]
 refine ⟨fun hc hx=>⟨fun ho=>?_,fun ho=>?_⟩,fun hc=>?_⟩
 ·simp only [LN] at hc
  by_cases h:day+i≤100000
  ·rw [hx.1 ⟨by omega,h⟩] at ho
   exact (SW hv (by omega) (by omega) h ho (fun y a b=>hi.2.2 y a b (by omega))).symm
  ·rw [hx.2 (by omega)] at ho; cases ho
 ·skip
  have hn:bM c_ (day+i)=false∨¬ (day+i≤100000):=by
   by_cases h:day+i≤100000
   ·rw [hx.1 ⟨by omega,h⟩] at ho; exact .inl ho
   ·exact .inr h
  simp only [LN] at hc
  rw [az (n:=i+1) (by omega) (by omega)]
  refine ⟨⟨by omega,by omega,fun y a b c=>?_⟩,by omega⟩
  by_cases e:y=day+i
  ·rcases hn with h | h
   ·rw [e]; exact h
   ·omega
  ·exact hi.2.2 y a (by omega) c
 ·simp only [LN] at hc
  exact fun y a b c=>hi.2.2 y a (by omega) c
theorem OL (c_:dL) (day:Int):(qe c_ day).bE (fun _=>True):=by
 refine Sk.bm _ ?_
 unfold qe
 simp only [Sk.j2,Sk.aU,reduceCtorEq,ON,kk,kp,Ap,dF,iG,forall_eq,maxLen]
 intro hv
 have hv:0≤day∧day≤100000:=by simp only [LN] at hv; exact hv
 have hw:∀ i:Int,0≤i→i≤401→ar (day+i)=day+i:=fun i a b=>az (by omega) (by omega)
 refine ⟨⟨by omega,by omega,fun y a b=>by omega⟩,fun i hi=>?_⟩
 rw [hw i hi.1 hi.2.1]
 refine ⟨fun hc hx ho=>?_,fun hc=>?_⟩
 ·skip
  have hn:bM c_ (day+i)=false∨¬ (day+i≤100000):=by
   by_cases h:day+i≤100000
   ·rw [hx.1 ⟨by omega,h⟩] at ho; exact .inl ho
   ·exact .inr h
  simp only [LN] at hc
  rw [az (n:=i+1) (by omega) (by omega)]
  refine ⟨⟨by omega,by omega,fun y a b c=>?_⟩,by omega⟩
  by_cases e:y=day+i
  ·rcases hn with h | h
   ·rw [e]; exact h
   ·omega
  ·exact hi.2.2 y a (by omega) c
 ·simp only [LN] at hc
  exact fun y a b c=>hi.2.2 y a (by omega) c
def Aq c_ day:=kp tok mixed Tryz.func170 [av c_.cells,iv day] (fun x=>.ef [iv x.1,iv x.2]) true (Vm c_ day) (u0 (OL c_ day)) (L9 c_ day)
theorem Vn {c:dL} {d:Int} (h:(bj c d).2≠0):(bj c d).2=3:=by
 unfold bj at h ⊢
 cases hv:bB d with
 | false=>rfl
 | true =>
  rw [hv] at h
  simp only [Bool.not_true,cond_false] at h ⊢
  cases ho:oE c d (min (ar (d+400)) 100000) with
  | none=>rfl
  | some x=>rw [ho] at h; exact absurd rfl h
def kh (r:af) (aJ:Int) (day:Int):Sk (Int × Int) :=
 .r 1 ((dR r aJ).c) fun x1 =>
 .bind true (fun b2=>∀ x,dc r (aV r aJ) (r.aC.getD aJ.toNat default) 100001 x→dc r (aV r aJ) (r.aC.getD aJ.toNat default) day x)
 (.loop (default:Sum (Int × Int) (Unit)) (fun i3=>((0:Int)≤i3∧i3≤100001)∧∀ x,dc r (aV r aJ) (r.aC.getD aJ.toNat default) i3 x→dc r (aV r aJ) (r.aC.getD aJ.toNat default) day x) (fun i3=>(100001 - i3).toNat) (day:Int)
 (fun (i3:Int)=>⟨[(2,iv i3)],[]⟩) fun i3 =>
 .br (decide (i3≤100000))
 (.bind true (fun b4=>(i3 < b4∧b4≤100001)∧∀ x,dc r (aV r aJ) (r.aC.getD aJ.toNat default) b4 x→dc r (aV r aJ) (r.aC.getD aJ.toNat default) i3 x)
 (.bind true (fun b5=>i3≤b5.1∧b5.1≤100001∧(∀ y,i3≤y→y < b5.1→m6 r x1 y=true)∧(b5.1=i3→m6 r x1 i3=false))
 (.loop (default:Sum (Sum (Sum (Sum (Int × Int) (Unit)) (Int)) (Int)) (Int × Int)) (fun i6=>i6.2≤r.bJ.length∧i3≤i6.1∧i6.1≤100001∧(∀ y,i3≤y→y < i6.1→m6 r x1 y=true)∧(i6.1=i3→∀ q,q < i6.2→¬ ((r.bJ.getD q default).order=x1∧(r.bJ.getD q default).from_≤i3∧i3≤(r.bJ.getD q default).bZ))) (fun i6=>r.bJ.length - i6.2) ((i3,0):Int × Nat)
 (fun (i6:Int × Nat)=>⟨[(9,iv i6.1),(10,iv (i6.2:Int))],[]⟩) fun i6 =>
 .lt 3 7 i6.2 r.bJ.length
 (.r 7 (.au (.p (bz (i6.2:Int) r.bJ.length)) (.au (.wh (((r.bJ.getD i6.2 default).order) == x1) true (.p (bz (i6.2:Int) r.bJ.length))) (.wh ((((r.bJ.getD i6.2 default).order) == x1)&&(decide (((r.bJ.getD i6.2 default).from_)≤i3))) true (.p (bz (i6.2:Int) r.bJ.length))))) fun _ =>
 .br (((((r.bJ.getD i6.2 default).order) == x1)&&(decide (((r.bJ.getD i6.2 default).from_)≤i3)))&&(decide (i3≤((r.bJ.getD i6.2 default).bZ))))
 (.r 8 (.p (bz (i6.2:Int) r.bJ.length)) fun _ =>
 .r 6 .z fun _ =>
 .wi 10 (ar ((i6.2:Int)+1)) ((i6.2+1:Nat):Int) <|
 .fin (.inr (cp i6.1 (ar (((r.bJ.getD i6.2 default).bZ)+1)),i6.2+1)))
 (.nx 6 10 i6.2 (i6.1,i6.2+1)))
 (.fin (.inl (.inr (i6.1,(i6.2:Int))))))
 (fun (b5:Int × Int)=>⟨[(9,iv b5.1),(10,iv b5.2)],[]⟩) fun b5 =>
 .bind false (fun b7=>(i3≤b7∧b7≤100001)∧(b7=i3→dc r (aV r aJ) (r.aC.getD aJ.toNat default) i3 (i3,0))∧(b7≠i3→∀ x,dc r (aV r aJ) (r.aC.getD aJ.toNat default) b7 x→dc r (aV r aJ) (r.aC.getD aJ.toNat default) i3 x))
 (.br (b5.1 == i3)
 (.r 10 (.au (.p (bz aJ r.aC.length)) ((Aq (r.aC.getD aJ.toNat default) i3).c)) fun x8 =>
 .br (x8.2 != 0)
 (.fin (.inl (.inl (.inl (.inl (0,x8.2))))))
 (.fin (.inr x8.1)))
 (.fin (.inr b5.1)))
 (fun (b7:Int)=>⟨[(9,iv b7)],[]⟩) fun b7 =>
 .br (b7 == i3)
 (.fin (.inl (.inl (.inl (i3,0)))))
 (.fin (.inr b7)))
 (fun (b4:Int)=>⟨[(2,iv b4)],[]⟩) fun b4 =>
 .fin (.inr b4))
 (.fin (.inl (.inr ()))))
 (fun (_:Unit)=>⟨[],[]⟩) fun _ =>
 .fin (0,3)
def la r aJ day:=(kh r aJ day).val
theorem H8 (r:af) (aJ:Int) (day:Int) (hP:(0≤aJ∧aJ < (r.aC.length:Int))∧(0≤day∧day≤100001)∧r.ba∧r.Small):(kh r aJ day).dz (fun (x:Int × Int)=>dc r (aV r aJ) (r.aC.getD aJ.toNat default) day x):=by
 refine Sk.bq _ ?_
 unfold kh
 simp only [Sk.cV,Sk.aU,reduceCtorEq,ON,kk,kp,Aq,dR,aD.Small,af.Small,af.ba,maxLen]
 obtain ⟨hc,hd,hh,hr⟩:=hP
 intro x _ hx
 have hx:=hx hr.2.1
 subst hx
 refine ⟨⟨⟨hd,fun x h=>h⟩,fun i hi=>⟨fun hle=>⟨⟨⟨⟨Nat.zero_le _,by omega,by omega,fun y a b=>by omega,fun q hq=>by omega⟩,fun j hj=>⟨fun uj _=>⟨fun ht _ _=>?_,fun ht _=>?_⟩,fun uj=>?_⟩⟩,fun b hb=>⟨⟨fun he y _ hy=>⟨fun h1=>?_,fun h1=>?_⟩,fun he=>?_⟩,fun b1 _ KY=>⟨fun h=>?_,fun h=>?_⟩⟩⟩,fun b _ hb=>?_⟩,fun hle=>?_⟩⟩,fun _ hb=>?_⟩
 ·simp only [LN] at uj ht
  have h2:=hh j.2 (by omega)
  have hm:cp j.1 (ar ((r.bJ.getD j.2 default).bZ+1))=if j.1 < (r.bJ.getD j.2 default).bZ+1 then (r.bJ.getD j.2 default).bZ+1 else j.1:=by
   rw [az (n:=(r.bJ.getD j.2 default).bZ+1) (by omega) (by omega)]; unfold cp; (repeat' split) <;> omega
  rw [hm]
  refine ⟨⟨by omega,by split <;> omega,by split <;> omega,fun y a b=>?_,fun e=>by split at e <;> omega⟩,by omega⟩
  by_cases e:y < j.1
  ·exact hj.2.2.2.1 y a e
  ·exact BS (i:=j.2) (by omega) ⟨ht.1.1,by omega,by split at b <;> omega⟩
 ·simp only [LN] at uj ht
  refine ⟨⟨by omega,hj.2.1,hj.2.2.1,hj.2.2.2.1,fun e q hq=>?_⟩,by omega⟩
  rcases Nat.lt_succ_iff_lt_or_eq.1 hq with h1 | h1
  ·exact hj.2.2.2.2 e q h1
  ·subst h1
   omega
 ·simp only [LN] at uj
  exact ⟨hj.2.1,hj.2.2.1,hj.2.2.2.1,fun e=>yH (fun q hq=>hj.2.2.2.2 e q (by omega))⟩
 ·simp only [LN] at he h1
  rw [hy] at h1 ⊢
  rw [Vn h1]
  exact hi.2 _ (.stop ⟨Int.le_refl _,hb.2.2.2 he,fun y a c=>by omega⟩ h1)
 ·simp only [LN] at he h1
  have hs:sa r (aV r aJ) i i:=⟨Int.le_refl _,hb.2.2.2 he,fun y a c=>by omega⟩
  have hp:=mL (r.aC.getD aJ.toNat default) i
  rw [← hy] at hp
  have hp:i≤y.1∧y.1≤100000:=hp h1
  rw [hy] at h1
  refine ⟨⟨hp.1,by omega⟩,fun e=>?_,fun e z hz=>?_⟩
  ·rw [hy] at e; exact .here hs h1 e
  ·rw [hy] at e hz; exact .go hs h1 e hz
 ·simp only [LN] at he
  exact ⟨⟨hb.1,hb.2.1⟩,fun e=>absurd e he,fun _ z hz=>hz.back hb.1 hb.2.2.1⟩
 ·simp only [LN] at h
  exact hi.2 _ (KY.2.1 h)
 ·simp only [LN] at h
  exact ⟨⟨by omega,KY.1.2⟩,KY.2.2 h⟩
 ·exact ⟨⟨⟨by omega,hb.1.2⟩,fun z hz=>hi.2 _ (hb.2 z hz)⟩,by omega⟩
 ·simp only [LN] at hle
  have e:i=100001:=by omega
  rw [← e]
  exact hi.2
 ·exact hb _ (.stop ⟨Int.le_refl _,SG hh _ (by omega),fun y a c=>by omega⟩ (by rw [OA (by omega)]; decide))
theorem wK (r:af) (aJ:Int) (day:Int):(fun (x:Int × Int)=>((0≤aJ∧aJ < (r.aC.length:Int))∧(0≤day∧day≤100001)∧r.ba∧r.Small)→(dc r (aV r aJ) (r.aC.getD aJ.toNat default) day x)) (la r aJ day):=fun hP=>have h:=Sk.dA _ (H8 r aJ day hP); h
theorem JJ (r:af) (aJ:Int) (day:Int) (hc:0≤aJ∧aJ < (r.aC.length:Int)) (hd:0≤day∧day≤100001) (hh:r.ba) (hr:r.Small):(kh r aJ day).bE (fun _=>True):=by
 simp only [aD.Small,af.Small,af.ba] at hh
 simp only [aD.Small,af.Small,af.ba] at hr
 refine Sk.bm _ ?_
 unfold kh
 simp only [Sk.j2,Sk.aU,reduceCtorEq,ON,kk,kp,Aq,dR,aD.Small,af.Small,af.ba,maxLen]
 refine ⟨hr,fun x _ hx=>?_⟩
 have hx:=hx hr.2.1
 subst hx
 refine ⟨⟨hd,fun x h=>h⟩,fun i hi=>⟨fun hle=>⟨⟨⟨⟨Nat.zero_le _,by omega,by omega,fun y a b=>by omega,fun q hq=>by omega⟩,fun j hj hl=>⟨fun uj=>⟨⟨⟨by omega,of_decide_eq_true uj⟩,fun _=>⟨by omega,of_decide_eq_true uj⟩,fun _=>⟨by omega,of_decide_eq_true uj⟩⟩,fun _=>⟨fun ht=>⟨⟨by omega,of_decide_eq_true uj⟩,fun _ _=>?_⟩,fun ht _=>?_⟩⟩,fun uj=>?_⟩⟩,fun b hb=>⟨⟨fun he=>⟨hc,fun y _ hy h1=>?_⟩,fun he=>?_⟩,fun b1 _ KY h=>?_⟩⟩,fun b _ hb=>?_⟩,fun hle=>?_⟩⟩
 ·simp only [LN] at uj ht
  have h2:=hh j.2 (by omega)
  have hm:cp j.1 (ar ((r.bJ.getD j.2 default).bZ+1))=if j.1 < (r.bJ.getD j.2 default).bZ+1 then (r.bJ.getD j.2 default).bZ+1 else j.1:=by
   rw [az (n:=(r.bJ.getD j.2 default).bZ+1) (by omega) (by omega)]; unfold cp; (repeat' split) <;> omega
  rw [hm]
  refine ⟨(az (by omega) (by omega)).trans (by omega),⟨by omega,by split <;> omega,by split <;> omega,fun y a b=>?_,fun e=>by split at e <;> omega⟩,by omega⟩
  by_cases e:y < j.1
  ·exact hj.2.2.2.1 y a e
  ·exact BS (i:=j.2) (by omega) ⟨ht.1.1,by omega,by split at b <;> omega⟩
 ·simp only [LN] at uj ht
  refine ⟨(az (by omega) (by omega)).trans (by omega),⟨by omega,hj.2.1,hj.2.2.1,hj.2.2.2.1,fun e q hq=>?_⟩,by omega⟩
  rcases Nat.lt_succ_iff_lt_or_eq.1 hq with h1 | h1
  ·exact hj.2.2.2.2 e q h1
  ·subst h1
   omega
 ·simp only [LN] at uj
  exact ⟨hj.2.1,hj.2.2.1,hj.2.2.2.1,fun e=>yH (fun q hq=>hj.2.2.2.2 e q (by omega))⟩
 ·simp only [LN] at he h1
  have hs:sa r (aV r aJ) i i:=⟨Int.le_refl _,hb.2.2.2 he,fun y a c=>by omega⟩
  have hp:=mL (r.aC.getD aJ.toNat default) i
  rw [← hy] at hp
  have hp:i≤y.1∧y.1≤100000:=hp h1
  rw [hy] at h1
  refine ⟨⟨hp.1,by omega⟩,fun e=>?_,fun e z hz=>?_⟩
  ·rw [hy] at e; exact .here hs h1 e
  ·rw [hy] at e hz; exact .go hs h1 e hz
 ·simp only [LN] at he
  exact ⟨⟨hb.1,hb.2.1⟩,fun e=>absurd e he,fun _ z hz=>hz.back hb.1 hb.2.2.1⟩
 ·simp only [LN] at h
  exact ⟨⟨by omega,KY.1.2⟩,KY.2.2 h⟩
 ·exact ⟨⟨⟨by omega,hb.1.2⟩,fun z hz=>hi.2 _ (hb.2 z hz)⟩,by omega⟩
 ·simp only [LN] at hle
  have e:i=100001:=by omega
  rw [← e]
  exact hi.2
def Ch r aJ day:=kk tok mixed Tryz.func141 [av r.cells,iv aJ,iv day] (fun x=>.ef [iv x.1,iv x.2]) true (kh r aJ day) (la r aJ day) (u4 (JJ r aJ day)) (fun (x:Int × Int)=>((0≤aJ∧aJ < (r.aC.length:Int))∧(0≤day∧day≤100001)∧r.ba∧r.Small)→(dc r (aV r aJ) (r.aC.getD aJ.toNat default) day x)) (wK r aJ day)
end
end Go.Proofs.YtcpmocecjgipbaaGreatDoor
