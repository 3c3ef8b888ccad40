/- Functions, as sketches. -/
import Derived.Test.YtaeekeogpbbkcaaGreatDoorLh
import Derived.Test.YtaeekeogpbbkcaaGreatDoorLc
import Derived.Test.YtaeekeogpbbkcaaGreatDoorLd
set_option linter.unusedSimpArgs false
set_option linter.unusedVariables false
set_option maxHeartbeats 1000000
set_option maxRecDepth 100000
namespace Go.Proofs.YtaeekeogpbbkcaaGreatDoor
noncomputable section
open Go Go.Av
def rl (v:Int):Sk (Int × Bool) :=
 .br ((decide (v < 0))||(decide (v≥20)))
 (.fin (0,false))
 (.br (decide (v≤6))
 (.fin (0,true))
 (.fin (1,true)))
def xI v:=(rl v).val
theorem M0 (v:Int):(rl v).bq (fun _=>True):=by
 unfold rl
 exact mP
def sY v:=kk tok mixed Tryz.func269 [iv v] (fun x=>.fb [iv x.1,bv x.2]) true (rl v) (xI v) (u0 (M0 v))
def xJ (t:Term):Sk (Int × Int) :=
 .br (t.op == 0)
 (.br ((decide (t.n < (-1099511627776)))||(decide (t.n > 1099511627776)))
 (.fin (0,3))
 (.fin (0,0)))
 (.br (t.op == 1)
 (.br ((t.n != 0)&&(t.n != 1))
 (.fin (0,3))
 (.fin (1,0)))
 (.r 9 ((sY t.n).c) fun x1 =>
 .br (!x1.2)
 (.fin (0,10))
 (.fin (x1.1,0))))
def wv t:=(xJ t).val
theorem U9 (t:Term):(xJ t).bq (fun _=>True):=by
 unfold xJ
 try simp only [sY]
 exact mP
def E8 t:=kk tok mixed Tryz.func267 [av t.cells] (fun x=>.fb [iv x.1,iv x.2]) true (xJ t) (wv t) (u0 (U9 t))
def xK (op:Int) (l:List Int):Sk (Int × Bool):=let eG:=(l.getD 1 default); let cF:=(bM (1:Int) l.length); let aV:=(bM (0:Int) l.length); let az:=(l.getD 0 default);
 .br (op == 3)
 (.r 3 (.p aV) fun _ =>
 .fin (1,az == 1))
 (.bind false (fun _=>True)
 (.br (op == 4)
 (.fin (.inr (op == 4)))
 (.fin (.inr (op == 5))))
 (fun (b1:Bool)=>⟨[(13,bv b1)],[]⟩) fun b1 =>
 .br b1
 (.r 6 (.aj (.p aV) (.wh (az == 1) true (.p cF))) fun _ =>
 .fin (1,(az == 1)&&(eG == 1)))
 (.br (op == 6)
 (.r 8 (.aj (.p cF) (.aj (.p aV) (.aj (.wh (az == 1) true (.p cF)) (.wh (az == 1) true (.p (bM (2:Int) l.length)))))) fun _ =>
 .fin (l.getD 1 default,(az == 1)&&(eG == (l.getD 2 default))))
 (.br (op == 7)
 (.r 10 (.aj (.p aV) (.wh (az == 0) true (.p cF))) fun _ =>
 .fin (1,(az == 0)&&(eG == 0)))
 (.br (op == 8)
 (.r 12 (.aj (.p aV) (.p cF)) fun _ =>
 .fin (1,az == eG))
 (.r 13 (.aj (.p aV) (.wh (az == 0) true (.p cF))) fun _ =>
 .fin (0,(az == 0)&&(eG == 0)))))))
def ga op l:=(xK op l).val
theorem Va (op:Int) (l:List Int) (ha:(op=3∧1≤l.length)∨(op=6∧3≤l.length)∨(op≠3∧op≠6∧2≤l.length)):(xK op l).bq (fun _=>True):=by
 unfold xK
 exact mH
def E9 op l:=kk tok mixed Tryz.func268 [iv op,lv bJ l] (fun x=>.fb [iv x.1,bv x.2]) true (xK op l) (ga op l) (Va op l)
def AQ (rv:Term→Int × Int) (rp:Term→Prop) (rf:∀ (t:Term),rp t→jl Tryz.prog 243 [av t.cells] [] (.fb [iv ((rv t).1),iv ((rv t).2)]) []) (t:Term):fD (Int × Int):=⟨Tryz.prog,243,[av t.cells],fun x=>.fb [iv x.1,iv x.2],true,rv t,rp t,rf t,fun _=>True,trivial⟩
def iw (rv:Term→Int × Int) (rp:Term→Prop) (rf:∀ (t:Term),rp t→jl Tryz.prog 243 [av t.cells] [] (.fb [iv ((rv t).1),iv ((rv t).2)]) []) (t:Term):Sk (Int × Int) :=
 .r 1 (.o [.cU (dG cN ([]:List Int))]) fun _ =>
 .bind true (fun b1=>b1.length≤([]:List Int).length+t.args.length)
 (.loop (default:Sum (Int × Int) ((List Int))) (fun i2=>i2.2≤t.args.length∧i2.1.length≤([]:List Int).length+i2.2) (fun i2=>t.args.length - i2.2) ((([]:List Int),0):(List Int) × Nat)
 (fun (i2:(List Int) × Nat)=>⟨[(4,ow 100002 i2.1),(5,iv (i2.2:Int))],[(100002,cp 3 1 bJ i2.1)]⟩) fun i2 =>
 .lt 1 2 i2.2 t.args.length
 (.r 5 (.aj (.aj (.p (bM (i2.2:Int) t.args.length)) (.o [.cast 23 (Zv (Term.EI (t.args.getD i2.2 default)))])) ((AQ rv rp rf (t.args.getD i2.2 default)).c)) fun x3 =>
 .br (x3.2 != 0)
 (.fin (.inl (.inl (0,x3.2))))
 (.r 8 (.aj (.o [.cU (dG cN [x3.1])]) (.aj (.o [.cU (kx cN i2.1 [x3.1])]) (.aj (.t (cN.k6 [x3.1])) (.p (uG i2.1.length [x3.1].length 8))))) fun _ =>
 .nx 4 5 i2.2 (i2.1++[x3.1],i2.2+1)))
 (.fin (.inl (.inr i2.1))))
 (fun (b1:(List Int))=>⟨[(4,ow 100001 b1)],[(100001,cp 3 1 bJ b1)]⟩) fun b1 =>
 .br ((decide (t.op < 0))||(decide (t.op≥14)))
 (.fin (0,1))
 (.r 11 ((CU t.op).c) fun x4 =>
 .br ((((b1.length:Nat):Int) != x4)||((decide (x4 > 0))&&(t.n != 0)))
 (.fin (0,2))
 (.br (x4 == 0)
 (.r 15 ((E8 t).c) fun x5 =>
 .fin (x5.1,x5.2))
 (.r 16 ((E9 t.op b1).c) fun x6 =>
 .br (!x6.2)
 (.fin (0,11))
 (.fin (x6.1,0)))))
def bL:Nat→Term→Int × Int
 | 0,_=>default
 | fu+1,t=>(iw (bL fu) (fun _=>False) (fun _=>fun h=>h.elim) t).val
theorem R7 (fu:Nat) (rf:∀ (t:Term),t.depth≤fu∧(vI t)→jl Tryz.prog 243 [av t.cells] [] (.fb [iv ((bL fu t).1),iv ((bL fu t).2)]) []) (t:Term) (hm:t.depth≤fu+1) (hth:vI t):(iw (bL fu) (fun t=>t.depth≤fu∧(vI t)) rf t).bq (fun _=>True):=by
 refine Sk.aO _ ?_
 unfold iw
 simp only [Sk.gx,Sk.aD,reduceCtorEq,ON,kk,kp,CU,E9,E8,AQ,maxLen]
 have aeK:=hth
 obtain ⟨ht1,ht2⟩:=aeK
 refine fun _=>⟨⟨⟨by omega,by simp⟩,fun i hi hl=>⟨fun hc=>⟨⟨⟨by omega,of_decide_eq_true hc⟩,?_,?_⟩,fun x _ _=>⟨⟨?_,?_⟩,fun _ _=>⟨?_,⟨?_,?_⟩,?_⟩⟩⟩,fun hc=>?_⟩⟩,fun i hi DF x _ hx A9 h0=>?_⟩
 rotate_right
 ·simp only [LN] at DF A9 h0
  rw [hx] at A9 h0
  split at A9 <;> (try split at A9) <;> (try split at A9) <;> (try split at h0) <;> omega
 all_goals simp only [LN] at hc
 ·have:=t.gU i.2 (by omega); omega
 ·exact ht2 i.2 (by omega)
 all_goals (try simp only [LN] at hi ⊢)
 all_goals first | omega | exact (aq (by omega) (by omega)).trans (by omega)
theorem OL (fu:Nat) (rp:Term→Prop) (rf:∀ (t:Term),rp t→jl Tryz.prog 243 [av t.cells] [] (.fb [iv ((bL fu t).1),iv ((bL fu t).2)]) []) (t:Term):(iw (bL fu) rp rf t).val=bL (fu+1) t:=by kernel_rfl
theorem OM (fu:Nat):∀ (t:Term),t.depth≤fu→(vI t)→jl Tryz.prog 243 [av t.cells] [] (.fb [iv ((bL fu t).1),iv ((bL fu t).2)]) []:=by
 induction fu with
 | zero=>intro t hm h0; exact absurd hm (by have:=Term.gK t; omega)
 | succ fu ih =>
  intro t hm h0
  have h:jl Tryz.prog 243 [av t.cells] [] (.fb [iv (((iw (bL fu) (fun t=>t.depth≤fu∧(vI t)) (fun t h=>ih t h.1 h.2) t).val).1),iv (((iw (bL fu) (fun t=>t.depth≤fu∧(vI t)) (fun t h=>ih t h.1 h.2) t).val).2)]) []:=jl.sk tok mixed (fun x=>.fb [iv x.1,iv x.2]) (fun _=>[]) Tryz.func243 rfl (by kernel_rfl) 3000 (iw (bL fu) (fun t=>t.depth≤fu∧(vI t)) (fun t h=>ih t h.1 h.2) t) (by kernel_rfl) (R7 fu _ t hm h0)
  rw [OL] at h
  exact h
def Ih (t:Term):Int × Int:=bL (t.depth) t
theorem R8 (t:Term) (hth:vI t):jl Tryz.prog 243 [av t.cells] [] (.fb [iv ((Ih t).1),iv ((Ih t).2)]) []:=OM _ t (Nat.le_refl _) hth
def Ja (t:Term):fD (Int × Int):=⟨Tryz.prog,243,[av t.cells],fun x=>.fb [iv x.1,iv x.2],true,Ih t,(vI t),fun h=>R8 t h,fun _=>True,trivial⟩
def u9 (t:Term):Sk (Int × Int) :=
 .r 1 ((AH t 60 8).c) fun x1 =>
 .br (decide (x1 < 0))
 (.fin (0,6))
 (.r 3 ((Ja t).c) fun x2 =>
 .fin (x2.1,x2.2))
def iL t:=(u9 t).val
def uj (fu:Nat) (x:Term) (s:List Int):(Int × Int) ⊕ List Int:=bif (bL fu x).2 != 0 then .inl (0,(bL fu x).2) else .inr (s++[(bL fu x).1])
def AR (t:Term) (l:List Int):Int × Int :=
 bif (decide (t.op < 0))||(decide (t.op≥14)) then (0,1)
 else bif (((l.length:Nat):Int) != dp t.op)||((decide (dp t.op > 0))&&(t.n != 0)) then (0,2)
 else bif dp t.op == 0 then wv t
 else bif !(ga t.op l).2 then (0,11) else ((ga t.op l).1,0)
theorem Xv (fu:Nat) (t:Term):bL (fu+1) t=walk (uj fu) (AR t) t.args []:=by
 show (iw (bL fu) (fun _=>False) (fun _ h=>h.elim) t).val=_
 simp only [iw,Sk.cE,Sk.bK,Sk.cz,Sk.cY,Sk.bg,fD.wG,kk,kp,CU,E8,E9]
 refine bD t.args (fun s i=>(s,i)) (uj fu) id (AR t) (fun s i hi=>?_) (fun s=>?_) (by simp) []
 ·simp only [Sk.ct,Sk.bK,Sk.cE,Sk.cV,Sk.bg,fD.wG,kk,kp,bH.xU,AQ]
  rw [decide_eq_true (by omega),cond_true]
  unfold uj
  cases ((bL fu (t.args.getD i default)).2 != 0) <;> rfl
 ·simp only [Sk.ct,Sk.bK,Sk.cE,Sk.cV,Sk.bg,fD.wG,kk,kp]
  rw [decide_eq_false (by omega),cond_false]
  rfl
def adg (fu:Nat):List Term→List Int→Prop
 | [],[]=>True
 | x :: r,k :: q=>bL fu x=(k,0)∧adg fu r q
 | _,_=>False
theorem j3 (fu:Nat) (fin:List Int→Int × Int):∀ (ts:List Term) (ks l:List Int),adg fu ts ks→walk (uj fu) fin ts l=fin (l++ks)
 | [],[],l,_=>by simp [walk]
 | x :: r,k :: q,l,h=>by
  have e:uj fu x l=.inr (l++[k]):=by
   unfold uj; rw [h.1]; rfl
  simp only [walk,e]
  rw [j3 fu fin r q (l++[k]) h.2,List.append_assoc]; rfl
 | [],_ :: _,_,h=>h.elim
 | _ :: _,[],_,h=>h.elim
theorem Jc (fu:Nat) (fin:List Int→Int × Int):∀ (ts:List Term) (l:List Int),(walk (uj fu) fin ts l).2=0→∃ ks,adg fu ts ks∧walk (uj fu) fin ts l=fin (l++ks)
 | [],l,_=>⟨[],trivial,by simp [walk]⟩
 | x :: r,l,h=>by
  by_cases h0:(bL fu x).2=0
  ·have e:uj fu x l=.inr (l++[(bL fu x).1]):=by
    unfold uj; rw [h0]; rfl
   simp only [walk,e] at h ⊢
   obtain ⟨ks,h1,h2⟩:=Jc fu fin r _ h
   exact ⟨(bL fu x).1 :: ks,⟨by rw [← h0],h1⟩,by rw [h2,List.append_assoc]; rfl⟩
  ·exfalso
   have e:uj fu x l=.inl (0,(bL fu x).2):=by
    unfold uj; rw [bne_iff_ne.2 h0]; rfl
   simp only [walk,e] at h
   exact h0 h
theorem abS (fu:Nat):∀ (ts:List Term) (ks:List Int),adg fu ts ks→ts.length=ks.length
 | [],[],_=>rfl
 | _ :: r,_ :: q,h=>by simp [abS fu r q h.2]
 | [],_ :: _,h=>h.elim
 | _ :: _,[],h=>h.elim
theorem R9 (t:Term) (h:t.op=0∨t.op=1∨t.op=2) (k:Int):wv t=(k,0)↔tw ⟨t.op,t.n,[]⟩ k:=by
 obtain ⟨op,n,args⟩:=t
 simp only at h ⊢
 rcases h with rfl | rfl | rfl
 ·have e:wv ⟨0,n,args⟩=bif (decide (n < (-1099511627776)))||(decide (n > 1099511627776)) then (0,3) else (0,0):=rfl
  rw [e]
  by_cases c : -1099511627776≤n∧n≤1099511627776
  ·have:((decide (n < (-1099511627776)))||(decide (n > 1099511627776)))=false:=by simp only [LN]; omega
   rw [this,cond_false]
   constructor
   ·intro h; cases h; exact .int c
   ·intro h; cases h; rfl
  ·have:((decide (n < (-1099511627776)))||(decide (n > 1099511627776)))=true:=by simp only [LN]; omega
   rw [this,cond_true]
   constructor
   ·intro h; cases h
   ·intro h; cases h with | int h=>exact absurd h c
 ·have e:wv ⟨1,n,args⟩=bif (n != 0)&&(n != 1) then (0,3) else (1,0):=rfl
  rw [e]
  by_cases c:0≤n∧n≤1
  ·have:((n != 0)&&(n != 1))=false:=by simp only [LN]; omega
   rw [this,cond_false]
   constructor
   ·intro h; cases h; exact .bool c
   ·intro h; cases h; rfl
  ·have:((n != 0)&&(n != 1))=true:=by simp only [LN]; omega
   rw [this,cond_true]
   constructor
   ·intro h; cases h
   ·intro h; cases h with | bool h=>exact absurd h c
 ·have e:wv ⟨2,n,args⟩=bif !(bif (decide (n < 0))||(decide (n≥20)) then ((0:Int),false) else bif decide (n≤6) then (0,true) else (1,true)).2 then (0,10) else ((bif (decide (n < 0))||(decide (n≥20)) then ((0:Int),false) else bif decide (n≤6) then (0,true) else (1,true)).1,0):=rfl
  rw [e]
  by_cases c:0≤n∧n≤19
  ·have:((decide (n < 0))||(decide (n≥20)))=false:=by simp only [LN]; omega
   rw [this,cond_false]
   by_cases d:n≤6
   ·rw [decide_eq_true d]
    constructor
    ·intro h; cases h; have:=tw.var c; rw [if_pos (by omega)] at this; exact this
    ·intro h; cases h with | var _=>rw [if_pos (by omega)]; rfl
   ·rw [decide_eq_false d]
    constructor
    ·intro h; cases h; have:=tw.var c; rw [if_neg (by omega)] at this; exact this
    ·intro h; cases h with | var _=>rw [if_neg (by omega)]; rfl
  ·have:((decide (n < 0))||(decide (n≥20)))=true:=by simp only [LN]; omega
   rw [this,cond_true]
   constructor
   ·intro h; cases h
   ·intro h; cases h with | var h=>exact absurd h c
theorem adY (a:Int):ga 3 [a]=(1,a == 1):=by kernel_rfl
theorem adZ (a b:Int):ga 4 [a,b]=(1,(a == 1)&&(b == 1)):=by kernel_rfl
theorem ad1 (a b:Int):ga 5 [a,b]=(1,(a == 1)&&(b == 1)):=by kernel_rfl
theorem ad2 (a b c:Int):ga 6 [a,b,c]=(b,(a == 1)&&(b == c)):=by kernel_rfl
theorem ad3 (a b:Int):ga 7 [a,b]=(1,(a == 0)&&(b == 0)):=by kernel_rfl
theorem ad4 (a b:Int):ga 8 [a,b]=(1,a == b):=by kernel_rfl
theorem adh (a b:Int):ga 9 [a,b]=(0,(a == 0)&&(b == 0)):=by kernel_rfl
theorem abT (a b:Int):ga 10 [a,b]=(0,(a == 0)&&(b == 0)):=by kernel_rfl
theorem abU (a b:Int):ga 11 [a,b]=(0,(a == 0)&&(b == 0)):=by kernel_rfl
theorem abV (a b:Int):ga 12 [a,b]=(0,(a == 0)&&(b == 0)):=by kernel_rfl
theorem abW (a b:Int):ga 13 [a,b]=(0,(a == 0)&&(b == 0)):=by kernel_rfl
theorem ad5 (op:Int) (h:9≤op∧op≤13) (a b:Int):ga op [a,b]=(0,(a == 0)&&(b == 0)):=by
 have:op=9∨op=10∨op=11∨op=12∨op=13:=by omega
 rcases this with rfl | rfl | rfl | rfl | rfl
 ·exact adh a b
 ·exact abT a b
 ·exact abU a b
 ·exact abV a b
 ·exact abW a b
theorem adi {op n:Int} {args:List Term} {ks:List Int} {k:Int} (hl:args.length=ks.length) (h:AR ⟨op,n,args⟩ ks=(k,0)):(0≤op∧op≤13)∧(ks.length:Int)=dp op∧(0 < dp op→n=0):=by
 unfold AR at h
 simp only at h
 by_cases c:0≤op∧op≤13
 ·have e:((decide (op < 0))||(decide (op≥14)))=false:=by simp only [LN]; omega
  rw [e,cond_false] at h
  by_cases c2:(ks.length:Int)=dp op∧(0 < dp op→n=0)
  ·exact ⟨c,c2⟩
  ·have e:((((ks.length:Nat):Int) != dp op)||((decide (dp op > 0))&&(n != 0)))=true:=by
    simp only [LN]
    by_cases q:(ks.length:Int)=dp op
    ·right
     by_cases q2:0 < dp op
     ·exact ⟨q2,fun h=>c2 ⟨q,fun _=>h⟩⟩
     ·exact absurd ⟨q,fun h=>absurd h q2⟩ c2
    ·exact .inl q
   rw [e,cond_true] at h
   cases h
 ·have e:((decide (op < 0))||(decide (op≥14)))=true:=by simp only [LN]; omega
  rw [e,cond_true] at h
  cases h
theorem so {op:Int} {args:List Term} {ks:List Int} (h3:3≤op∧op≤13) (hl:(ks.length:Int)=dp op):AR ⟨op,0,args⟩ ks=bif !(ga op ks).2 then (0,11) else ((ga op ks).1,0):=by
 unfold AR
 simp only
 have e:((decide (op < 0))||(decide (op≥14)))=false:=by simp only [LN]; omega
 have e2:((((ks.length:Nat):Int) != dp op)||((decide (dp op > 0))&&((0:Int) != 0)))=false:=by
  rw [bne_eq_false_iff_eq.2 hl]; simp
 have e3:(dp op == 0)=false:=by
  rw [beq_eq_false_iff_ne,lM,if_neg (by omega)]
  split <;> (try split) <;> omega
 rw [e,cond_false,e2,cond_false,e3,cond_false]
theorem DA {op n:Int} {args:List Term} (h:op=0∨op=1∨op=2):AR ⟨op,n,args⟩ []=wv ⟨op,n,args⟩:=by
 unfold AR
 simp only
 have ha:dp op=0:=by rw [lM,if_pos h]
 have e:((decide (op < 0))||(decide (op≥14)))=false:=by simp only [LN]; omega
 rw [e,ha]
 rfl
theorem Qm:∀ (fu:Nat) (t:Term) (k:Int),t.depth≤fu→(bL fu t=(k,0)↔tw t k)
 | 0,t,_,hd=>absurd hd (by have:=t.gK; omega)
 | fu+1,t,k,hd=>by
  rw [Xv]
  have ih:=Qm fu
  constructor
  ·intro h
   obtain ⟨ks,h1,h2⟩:=Jc fu (AR t) t.args [] (by rw [h])
   rw [h2,List.nil_append] at h
   clear h2
   obtain ⟨op,n,args⟩:=t
   simp only [Term.depth] at hd
   simp only at h1
   have hl:=abS fu args ks h1
   obtain ⟨ho,hk,hn⟩:=adi hl h
   by_cases h3:op=0∨op=1∨op=2
   ·rw [lM,if_pos h3] at hk
    have e:ks=[]:=List.length_eq_zero_iff.1 (by omega)
    subst e
    have e:args=[]:=List.length_eq_zero_iff.1 (by omega)
    subst e
    rw [DA h3] at h
    exact (R9 ⟨op,n,[]⟩ h3 k).1 h
   ·have hp:0 < dp op:=by
     rw [lM,if_neg h3]; split <;> (try split) <;> omega
    have hn0:=hn hp
    subst hn0
    rw [so (by omega) hk] at h
    rw [lM,if_neg h3] at hk
    by_cases c3:op=3
    ·subst c3
     rw [if_pos rfl] at hk
     obtain ⟨k1,rfl⟩:=abo (l:=ks) (by omega)
     obtain ⟨a,rfl⟩:=abo (l:=args) (by simpa using hl)
     rw [adY] at h
     cases c:(k1 == 1) with
     | false=>rw [c] at h; cases h
     | true =>
      rw [c] at h
      cases h
      rw [beq_iff_eq] at c
      subst c
      simp only [Term.bT] at hd
      exact .not ((ih a 1 (by omega)).1 h1.1)
    by_cases c6:op=6
    ·subst c6
     rw [if_neg (by omega),if_pos rfl] at hk
     obtain ⟨k1,k2,k3,rfl⟩:=abp (l:=ks) (by omega)
     obtain ⟨a,b,c,rfl⟩:=abp (l:=args) (by simpa using hl)
     rw [ad2] at h
     cases c1:(k1 == 1) with
     | false=>rw [c1] at h; cases h
     | true =>
      cases c2:(k2 == k3) with
      | false=>rw [c1,c2] at h; cases h
      | true =>
       rw [c1,c2] at h
       cases h
       rw [beq_iff_eq] at c1 c2
       subst c1 c2
       simp only [Term.bT] at hd
       exact .ite ((ih a 1 (by omega)).1 h1.1) ((ih b _ (by omega)).1 h1.2.1) ((ih c _ (by omega)).1 h1.2.2.1)
    rw [if_neg c3,if_neg c6] at hk
    obtain ⟨k1,k2,rfl⟩:=LP (l:=ks) (by omega)
    obtain ⟨a,b,rfl⟩:=LP (l:=args) (by simpa using hl)
    simp only [Term.bT] at hd
    have ta:=(ih a k1 (by omega)).1 h1.1
    have tb:=(ih b k2 (by omega)).1 h1.2.1
    have two:∀ (m:Int) (z:Int),ga op [k1,k2]=(z,(k1 == m)&&(k2 == m))→k=z∧k1=m∧k2=m:=fun m z e=>by
     rw [e] at h
     cases c1:(k1 == m) with
     | false=>rw [c1] at h; cases h
     | true =>
      cases c2:(k2 == m) with
      | false=>rw [c1,c2] at h; cases h
      | true =>
       rw [c1,c2] at h
       cases h
       exact ⟨rfl,by simpa using c1,by simpa using c2⟩
    by_cases c4:op=4
    ·subst c4
     obtain ⟨rfl,rfl,rfl⟩:=two 1 1 (adZ k1 k2)
     exact .Ri (.inl rfl) ta tb
    by_cases c5:op=5
    ·subst c5
     obtain ⟨rfl,rfl,rfl⟩:=two 1 1 (ad1 k1 k2)
     exact .Ri (.inr rfl) ta tb
    by_cases c7:op=7
    ·subst c7
     obtain ⟨rfl,rfl,rfl⟩:=two 0 1 (ad3 k1 k2)
     exact .less ta tb
    by_cases c8:op=8
    ·subst c8
     rw [ad4] at h
     cases c1:(k1 == k2) with
     | false=>rw [c1] at h; cases h
     | true =>
      rw [c1] at h
      cases h
      rw [beq_iff_eq] at c1
      subst c1
      exact .eq ta tb
    obtain ⟨rfl,rfl,rfl⟩:=two 0 0 (ad5 op (by omega) k1 k2)
    exact .arith (by omega) ta tb
  ·intro h
   cases h with
   | int h=>exact (j3 fu _ [] [] [] trivial).trans ((DA (.inl rfl)).trans ((R9 ⟨0,_,[]⟩ (.inl rfl) _).2 (.int h)))
   | bool h=>exact (j3 fu _ [] [] [] trivial).trans ((DA (.inr (.inl rfl))).trans ((R9 ⟨1,_,[]⟩ (.inr (.inl rfl)) _).2 (.bool h)))
   | var h=>exact (j3 fu _ [] [] [] trivial).trans ((DA (.inr (.inr rfl))).trans ((R9 ⟨2,_,[]⟩ (.inr (.inr rfl)) _).2 (.var h)))
   | @not a ha =>
    simp only [Term.depth,Term.bT] at hd
    refine (j3 fu _ [a] [1] [] ⟨(ih a 1 (by omega)).2 ha,trivial⟩).trans ((so (by omega) (by rw [lM]; rfl)).trans ?_)
    rw [List.nil_append,adY]; rfl
   | @Ri op a b ho ha hb =>
    simp only [Term.depth,Term.bT] at hd
    refine (j3 fu _ [a,b] [1,1] [] ⟨(ih a 1 (by omega)).2 ha,(ih b 1 (by omega)).2 hb,trivial⟩).trans ((so (by omega) (by rcases ho with rfl | rfl <;> (rw [lM]; rfl))).trans ?_)
    rw [List.nil_append]
    rcases ho with rfl | rfl
    ·rw [adZ]; rfl
    ·rw [ad1]; rfl
   | @ite a b c k ha hb hc =>
    simp only [Term.depth,Term.bT] at hd
    refine (j3 fu _ [a,b,c] [1,k,k] [] ⟨(ih a 1 (by omega)).2 ha,(ih b k (by omega)).2 hb,(ih c k (by omega)).2 hc,trivial⟩).trans ((so (by omega) (by rw [lM]; rfl)).trans ?_)
    rw [List.nil_append,ad2]; simp
   | @less a b ha hb =>
    simp only [Term.depth,Term.bT] at hd
    refine (j3 fu _ [a,b] [0,0] [] ⟨(ih a 0 (by omega)).2 ha,(ih b 0 (by omega)).2 hb,trivial⟩).trans ((so (by omega) (by rw [lM]; rfl)).trans ?_)
    rw [List.nil_append,ad3]; rfl
   | @eq a b k ha hb =>
    simp only [Term.depth,Term.bT] at hd
    refine (j3 fu _ [a,b] [k,k] [] ⟨(ih a k (by omega)).2 ha,(ih b k (by omega)).2 hb,trivial⟩).trans ((so (by omega) (by rw [lM]; rfl)).trans ?_)
    rw [List.nil_append,ad4]; simp
   | @arith op a b ho ha hb =>
    simp only [Term.depth,Term.bT] at hd
    refine (j3 fu _ [a,b] [0,0] [] ⟨(ih a 0 (by omega)).2 ha,(ih b 0 (by omega)).2 hb,trivial⟩).trans ((so (by omega) (by rw [lM,if_neg (by omega),if_neg (by omega),if_neg (by omega)]; rfl)).trans ?_)
    rw [List.nil_append,ad5 op ho]; rfl
def ma (fu:Nat) (t:Term) (i:Nat) (s:List Int):(Int × Int) ⊕ List Int:=bif (aG fu (t.args.getD i default)).2 != 0 then .inl (0,(aG fu (t.args.getD i default)).2) else .inr (s.set i (aG fu (t.args.getD i default)).1)
def abX (sh:Shape) (b1:List Int) (i:Nat) (c:Int):Int:=bif (sh.args.getD i default == -1)&&(c == -1) then b1.getD i default else c
def abY (sh:Shape) (b1:List Int) (i:Nat) (c:Int):Int:=bif sh.args.getD i default == -1 then abX sh b1 i c else sh.args.getD i default
def Xw (sh:Shape) (b1:List Int) (i:Nat) (c:Int):(Int × Int) ⊕ Int:=bif b1.getD i default != abY sh b1 i c then .inl (0,11) else .inr (abX sh b1 i c)
def iZ (t:Term) (b1:List Int):Int × Int :=
 bif (decide (t.op < 0))||(decide (t.op > 13)) then (0,1)
 else bif ((t.op == 0)||(t.op == 1))||(t.op == 2) then iJ t
 else bif (((b1.length:Nat):Int) != (((bp t.op).args.length:Nat):Int))||(t.n != 0) then (0,2)
 else walk (Xw (bp t.op) b1) (fun b6=>bif (bp t.op).result == (-1) then (b6,0) else ((bp t.op).result,0)) (List.range (bp t.op).args.length) (-1)
theorem M1 (n i:Nat) (h:i < n):(List.range n).getD i default=i:=by simp [List.getD,h]
theorem sq (fu:Nat) (t:Term):aG (fu+1) t=walk (ma fu t) (iZ t) (List.range t.args.length) (List.replicate t.args.length 0):=by
 show (dS (aG fu) (fun _=>False) (fun _ h=>h.elim) t).val=_
 simp only [dS,Sk.cE,Sk.bK,Sk.cz,Sk.cY,Sk.bg,fD.wG,kk,kp,xk,qA]
 refine (bD (List.range t.args.length) (fun s i=>(s,i)) (ma fu t) id _ (fun s i hi=>?_) (fun s=>?_) (by simp) _).trans ?_
 ·rw [List.length_range] at hi
  simp only [Sk.ct,Sk.bK,Sk.cE,Sk.cV,Sk.Q6,Sk.bg,fD.wG,kk,kp,bH.xU,sE]
  rw [decide_eq_true (by omega),cond_true,M1 _ _ hi]
  unfold ma
  cases ((aG fu (t.args.getD i default)).2 != 0) <;> rfl
 ·simp only [Sk.ct,Sk.bK,Sk.cE,Sk.cV,Sk.bg,fD.wG,kk,kp]
  rw [List.length_range,decide_eq_false (by omega),cond_false]
  rfl
 ·congr 1
  funext b1
  unfold iZ
  simp only [id]
  congr 1
  congr 1
  congr 1
  refine bD (List.range (bp t.op).args.length) (fun s i=>(s,i)) (Xw (bp t.op) b1) id _ (fun s i hi=>?_) (fun s=>?_) (by simp) (-1)
  ·rw [List.length_range] at hi
   simp only [Sk.ct,Sk.bK,Sk.cE,Sk.cz,Sk.cV,Sk.Q6,Sk.bg,fD.wG,kk,kp]
   have gJ:((i:Nat):Int) < (((bp t.op).args.length:Nat):Int):=by omega
   rw [M1 _ _ hi]
   simp only [gJ,decide_true,cond_true]
   unfold Xw abY abX
   cases h1:((bp t.op).args.getD i default == -1) <;> cases h2:(s == -1) <;> simp only [Bool.true_and,Bool.false_and,cond_true,cond_false,cX]
   ·cases (b1.getD i default != (bp t.op).args.getD i default) <;> rfl
   ·cases (b1.getD i default != (bp t.op).args.getD i default) <;> rfl
   ·cases (b1.getD i default != s) <;> rfl
   ·cases (b1.getD i default != b1.getD i default) <;> rfl
  ·simp only [Sk.ct,Sk.bK,Sk.cE,Sk.cV,Sk.bg,fD.wG,kk,kp]
   rw [List.length_range]
   simp only [Int.lt_irrefl,decide_false,cond_false,id]
theorem Fa (op n k:Int) (h:op=0∨op=1∨op=2) (ht:tw ⟨op,n,[]⟩ k):iZ ⟨op,n,[]⟩ []=(k,0):=by
 have e:iZ ⟨op,n,[]⟩ []=iJ ⟨op,n,[]⟩:=by rcases h with rfl | rfl | rfl <;> rfl
 rw [e]
 cases ht with
 | int h =>
  have e:iJ ⟨0,n,[]⟩=bif fB (dk n (-1099511627776)) 1099511627776 != n then (0,3) else (0,0):=rfl
  have e2:fB (dk n (-1099511627776)) 1099511627776=n:=by unfold fB dk; (repeat' split) <;> omega
  rw [e,e2,bne_self_eq_false]; rfl
 | bool h =>
  have e:iJ ⟨1,n,[]⟩=bif (decide (n < 0))||(decide (n > 1)) then (0,3) else (1,0):=rfl
  have e2:((decide (n < 0))||(decide (n > 1)))=false:=by simp only [LN]; omega
  rw [e,e2]; rfl
 | var h =>
  have e:iJ ⟨2,n,[]⟩=bif !(bif (decide (n < 0))||(decide (n > 19)) then ((0:Int),false) else bif decide (n < 7) then (0,true) else (1,true)).2 then (0,10) else ((bif (decide (n < 0))||(decide (n > 19)) then ((0:Int),false) else bif decide (n < 7) then (0,true) else (1,true)).1,0):=rfl
  have e2:((decide (n < 0))||(decide (n > 19)))=false:=by simp only [LN]; omega
  rw [e,e2,cond_false]
  by_cases d:n < 7
  ·rw [decide_eq_true d,if_pos d]; rfl
  ·rw [decide_eq_false d,if_neg d]; rfl
theorem ck1 {fu:Nat} {op:Int} {a:Term} {k1:Int} (h1:aG fu a=(k1,0)):aG (fu+1) ⟨op,0,[a]⟩=iZ ⟨op,0,[a]⟩ [k1]:=by
 rw [sq]
 show walk (ma fu ⟨op,0,[a]⟩) (iZ ⟨op,0,[a]⟩) [0] [0]=_
 have e:ma fu ⟨op,0,[a]⟩ 0 [0]=.inr [k1]:=by unfold ma; show (bif (aG fu a).2 != 0 then _ else Sum.inr [(aG fu a).1])=_; rw [h1]; rfl
 simp only [walk,e]
theorem ck2 {fu:Nat} {op:Int} {a b:Term} {k1 k2:Int} (h1:aG fu a=(k1,0)) (h2:aG fu b=(k2,0)):aG (fu+1) ⟨op,0,[a,b]⟩=iZ ⟨op,0,[a,b]⟩ [k1,k2]:=by
 rw [sq]
 show walk (ma fu ⟨op,0,[a,b]⟩) (iZ ⟨op,0,[a,b]⟩) [0,1] [0,0]=_
 have e:ma fu ⟨op,0,[a,b]⟩ 0 [0,0]=.inr [k1,0]:=by unfold ma; show (bif (aG fu a).2 != 0 then _ else Sum.inr [(aG fu a).1,0])=_; rw [h1]; rfl
 have e2:ma fu ⟨op,0,[a,b]⟩ 1 [k1,0]=.inr [k1,k2]:=by unfold ma; show (bif (aG fu b).2 != 0 then _ else Sum.inr [k1,(aG fu b).1])=_; rw [h2]; rfl
 simp only [walk,e,e2]
theorem ck3 {fu:Nat} {op:Int} {a b c:Term} {k1 k2 k3:Int} (h1:aG fu a=(k1,0)) (h2:aG fu b=(k2,0)) (h3:aG fu c=(k3,0)):aG (fu+1) ⟨op,0,[a,b,c]⟩=iZ ⟨op,0,[a,b,c]⟩ [k1,k2,k3]:=by
 rw [sq]
 show walk (ma fu ⟨op,0,[a,b,c]⟩) (iZ ⟨op,0,[a,b,c]⟩) [0,1,2] [0,0,0]=_
 have e:ma fu ⟨op,0,[a,b,c]⟩ 0 [0,0,0]=.inr [k1,0,0]:=by unfold ma; show (bif (aG fu a).2 != 0 then _ else Sum.inr [(aG fu a).1,0,0])=_; rw [h1]; rfl
 have e2:ma fu ⟨op,0,[a,b,c]⟩ 1 [k1,0,0]=.inr [k1,k2,0]:=by unfold ma; show (bif (aG fu b).2 != 0 then _ else Sum.inr [k1,(aG fu b).1,0])=_; rw [h2]; rfl
 have e3:ma fu ⟨op,0,[a,b,c]⟩ 2 [k1,k2,0]=.inr [k1,k2,k3]:=by unfold ma; show (bif (aG fu c).2 != 0 then _ else Sum.inr [k1,k2,(aG fu c).1])=_; rw [h3]; rfl
 simp only [walk,e,e2,e3]
theorem aiM (a:Term):iZ ⟨3,0,[a]⟩ [1]=(1,0):=by kernel_rfl
theorem aiN (a b:Term):iZ ⟨4,0,[a,b]⟩ [1,1]=(1,0):=by kernel_rfl
theorem aiO (a b:Term):iZ ⟨5,0,[a,b]⟩ [1,1]=(1,0):=by kernel_rfl
theorem aiP (a b:Term):iZ ⟨7,0,[a,b]⟩ [0,0]=(1,0):=by kernel_rfl
theorem aiQ (a b:Term):iZ ⟨9,0,[a,b]⟩ [0,0]=(0,0):=by kernel_rfl
theorem agS (a b:Term):iZ ⟨10,0,[a,b]⟩ [0,0]=(0,0):=by kernel_rfl
theorem agT (a b:Term):iZ ⟨11,0,[a,b]⟩ [0,0]=(0,0):=by kernel_rfl
theorem agU (a b:Term):iZ ⟨12,0,[a,b]⟩ [0,0]=(0,0):=by kernel_rfl
theorem agV (a b:Term):iZ ⟨13,0,[a,b]⟩ [0,0]=(0,0):=by kernel_rfl
theorem ae5 (a b c:Term):iZ ⟨6,0,[a,b,c]⟩ [1,0,0]=(0,0):=by kernel_rfl
theorem ae6 (a b c:Term):iZ ⟨6,0,[a,b,c]⟩ [1,1,1]=(1,0):=by kernel_rfl
theorem ae7 (a b:Term):iZ ⟨8,0,[a,b]⟩ [0,0]=(1,0):=by kernel_rfl
theorem ae8 (a b:Term):iZ ⟨8,0,[a,b]⟩ [1,1]=(1,0):=by kernel_rfl
theorem Jd:∀ (fu:Nat) (t:Term) (k:Int),t.depth≤fu→tw t k→aG fu t=(k,0)
 | 0,t,_,hd,_=>absurd hd (by have:=t.gK; omega)
 | fu+1,t,k,hd,h=>by
  have ih:=Jd fu
  cases h with
  | int h=>rw [sq]; exact Fa 0 _ _ (.inl rfl) (.int h)
  | bool h=>rw [sq]; exact Fa 1 _ _ (.inr (.inl rfl)) (.bool h)
  | var h=>rw [sq]; exact Fa 2 _ _ (.inr (.inr rfl)) (.var h)
  | @not a ha =>
   simp only [Term.depth,Term.bT] at hd
   rw [ck1 (ih a 1 (by omega) ha)]; exact aiM a
  | @Ri op a b ho ha hb =>
   simp only [Term.depth,Term.bT] at hd
   rw [ck2 (ih a 1 (by omega) ha) (ih b 1 (by omega) hb)]
   rcases ho with rfl | rfl
   ·exact aiN a b
   ·exact aiO a b
  | @ite a b c k ha hb hc =>
   simp only [Term.depth,Term.bT] at hd
   rw [ck3 (ih a 1 (by omega) ha) (ih b k (by omega) hb) (ih c k (by omega) hc)]
   rcases hb.kind with rfl | rfl
   ·exact ae5 a b c
   ·exact ae6 a b c
  | @less a b ha hb =>
   simp only [Term.depth,Term.bT] at hd
   rw [ck2 (ih a 0 (by omega) ha) (ih b 0 (by omega) hb)]; exact aiP a b
  | @eq a b k ha hb =>
   simp only [Term.depth,Term.bT] at hd
   rw [ck2 (ih a k (by omega) ha) (ih b k (by omega) hb)]
   rcases ha.kind with rfl | rfl
   ·exact ae7 a b
   ·exact ae8 a b
  | @arith op a b ho ha hb =>
   simp only [Term.depth,Term.bT] at hd
   rw [ck2 (ih a 0 (by omega) ha) (ih b 0 (by omega) hb)]
   have:op=9∨op=10∨op=11∨op=12∨op=13:=by omega
   rcases this with rfl | rfl | rfl | rfl | rfl
   ·exact aiQ a b
   ·exact agS a b
   ·exact agT a b
   ·exact agU a b
   ·exact agV a b
theorem Ii (t:Term) (k:Int):fE t=(k,0)↔iL t=(k,0):=by
 have e1:fE t=bif decide (aJ t.depth t 1 > 60) then (0,6) else ((aG t.depth t).1,(aG t.depth t).2):=rfl
 have e2:iL t=bif decide (cD t.depth t 60 8 < 0) then (0,6) else ((bL t.depth t).1,(bL t.depth t).2):=rfl
 have hm:=(MG t.depth t 1 (Nat.le_refl _) (by omega) (by omega)).1
 have hs:=(size_eq t.depth t 60 8 (Nat.le_refl _) (by omega) (by omega) (by omega) (by omega)).2.1
 rw [e1,e2]
 by_cases c:t.nodes≤60∧(t.depth:Int)≤8
 ·have a1:decide (aJ t.depth t 1 > 60)=false:=decide_eq_false (by omega)
  have a2:decide (cD t.depth t 60 8 < 0)=false:=decide_eq_false (by omega)
  rw [a1,a2]
  show aG t.depth t=(k,0)↔bL t.depth t=(k,0)
  rw [Qm t.depth t k (Nat.le_refl _)]
  constructor
  ·intro h
   have:=rP t.depth t (Nat.le_refl _) (by rw [h])
   rw [h] at this
   exact this
  ·exact Jd t.depth t k (Nat.le_refl _)
 ·have a1:decide (aJ t.depth t 1 > 60)=true:=decide_eq_true (by omega)
  have a2:decide (cD t.depth t 60 8 < 0)=true:=decide_eq_true (by omega)
  rw [a1,a2]
  exact ⟨fun h=>(by cases h),fun h=>(by cases h)⟩
theorem OO {t:Term} (h:(iL t).2=0):tw t (iL t).1∧t.depth≤8:=by
 have h2:=(Ii t (iL t).1).2 (by rw [← h])
 have:=Bf t (by rw [h2])
 rw [h2] at this
 exact this
theorem M3 (t:Term):(fun (x:Int × Int)=>x.2=0→tw t x.1∧t.depth≤8) (iL t):=(fun h=>OO h)
theorem Sa (t:Term):(u9 t).bq (fun _=>True):=by
 refine Sk.aO _ ?_
 unfold u9
 simp only [Sk.gx,Sk.aD,reduceCtorEq,ON,kk,kp,AH,Ja,maxLen]
 exact fun x hx h=>YG t.depth t (Nat.le_refl _) ((size_eq t.depth t 60 8 (Nat.le_refl _) (by omega) (by omega) (by omega) (by omega)).2.1.1 (by have h2:=of_decide_eq_false h; rw [hx] at h2; exact Int.not_lt.1 h2)).1
def tK t:=kk tok mixed Tryz.func210 [av t.cells] (fun x=>.fb [iv x.1,iv x.2]) true (u9 t) (iL t) (u0 (Sa t)) (fun (x:Int × Int)=>x.2=0→tw t x.1∧t.depth≤8) (M3 t)
def sZ (ask:Int):Sk (Bool) :=
 .bind false (fun _=>True)
 (.br (ask == 6)
 (.fin (.inr (ask == 6)))
 (.br (ask == 7)
 (.fin (.inr (ask == 7)))
 (.br (ask == 10)
 (.fin (.inr (ask == 10)))
 (.br (ask == 12)
 (.fin (.inr (ask == 12)))
 (.br (ask == 13)
 (.fin (.inr (ask == 13)))
 (.br (ask == 14)
 (.fin (.inr (ask == 14)))
 (.br (ask == 15)
 (.fin (.inr (ask == 15)))
 (.br (ask == 16)
 (.fin (.inr (ask == 16)))
 (.br (ask == 20)
 (.fin (.inr (ask == 20)))
 (.fin (.inr (ask == 21))))))))))))
 (fun (b1:Bool)=>⟨[(4,bv b1)],[]⟩) fun b1 =>
 .br b1
 (.fin false)
 (.r 13 ((ar ask 0 21).c) fun x2 =>
 .fin x2)
def wx ask:=(sZ ask).val
theorem OP (ask:Int):(sZ ask).bq (fun _=>True):=by
 unfold sZ
 try simp only [ar,aW]
 exact xV
def rq ask:=kk tok mixed Tryz.func156 [iv ask] (fun x=>bv x) true (sZ ask) (wx ask) (u0 (OP ask))
def xL (ask:Int):Sk (Int × Bool) :=
 .r 1 ((iY ask).c) fun x1 =>
 .br (!x1)
 (.fin (0,false))
 (.r 3 ((rq ask).c) fun x2 =>
 .br x2
 (.fin (1,true))
 (.fin (0,true)))
def GS ask:=(xL ask).val
theorem Vb (ask:Int):(xL ask).bq (fun _=>True):=by
 unfold xL
 try simp only [rq,iY,pD]
 exact xV
def Fb ask:=kk tok mixed Tryz.func211 [iv ask] (fun x=>.fb [iv x.1,bv x.2]) true (xL ask) (GS ask) (u0 (Vb ask))
def oX (o:Order) (ask:Int):Sk (Int) :=
 .r 1 ((iY ask).c) fun x1 =>
 .br (!x1)
 (.fin 1)
 (.r 3 ((sn o ask).c) fun x2 =>
 .br (decide (x2 < 0))
 (.fin 4)
 (.r 6 (.aj (.p (bM x2 o.rules.length)) ((tK ((o.rules.getD x2.toNat default).term)).c)) fun x3 =>
 .r 7 ((Fb ask).c) fun x4 =>
 .br ((x3.2 != 0)||(x3.1 != x4.1))
 (.fin 11)
 (.fin 0)))
def AU o ask:=(oX o ask).val
theorem M4 (o:Order) (ask:Int):(oX o ask).dq (fun (x:Int)=>x=0→0≤ig o ask∧ig o ask < (o.rules.length:Int)):=by
 refine Sk.bh _ ?_
 unfold oX
 simp only [Sk.cK,Sk.aD,reduceCtorEq,ON,kk,kp,tK,iY,sn,Fb,pD,forall_eq,maxLen]
 refine ⟨fun _ h=>absurd h (by decide),fun _ hp=>⟨fun _ h=>absurd h (by decide),fun hc _=>⟨fun _ h=>absurd h (by decide),fun _=>?_⟩⟩⟩
 simp only [LN] at hc
 rcases hp with h | h <;> omega
theorem OQ (o:Order) (ask:Int):(oX o ask).bq (fun _=>True):=by
 refine Sk.aO _ ?_
 unfold oX
 simp only [Sk.gx,Sk.aD,reduceCtorEq,ON,kk,kp,tK,iY,sn,Fb,pD,forall_eq,maxLen]
 intro _ hp hc
 simp only [LN] at hc
 rcases hp with h | h <;> omega
def AW o ask:=kp tok mixed Tryz.func153 [av o.cells,iv ask] (fun x=>iv x) true (AU o ask) (u0 (OQ o ask)) (M4 o ask)
def AX (n:Int):Sk (Int) :=
 .fin (dk (-1099511627776) (fB 1099511627776 n))
def DB n:=(AX n).val
theorem M5 (n:Int):DB n=(dk (-1099511627776) (fB 1099511627776 n)):=rfl
theorem Xx (n:Int):(AX n).bq (fun _=>True):=by
 unfold AX
 exact mP
def zC n:=kk tok mixed Tryz.func270 [iv n] (fun x=>iv x) true (AX n) (DB n) (u0 (Xx n))
def va (v:Int) (cells:List al):Sk (al):=let aV:=({ known:=false,n:=0 }:al); let az:=(cells.getD v.toNat default);
 .br ((decide (v < 0))||(decide (v≥((cells.length:Nat):Int))))
 (.fin aV)
 (.r 3 (.p (bM v cells.length)) fun _ =>
 .br (!(az.known))
 (.fin aV)
 (.r 6 ((sY v).c) fun x1 =>
 .br (x1.1 == 0)
 (.r 8 ((zC (az.n)).c) fun x2 =>
 .fin ({ known:=true,n:=x2 }:al))
 (.br ((az.n) != 0)
 (.fin ({ known:=true,n:=1 }:al))
 (.fin ({ known:=true,n:=0 }:al)))))
def qh v cells:=(va v cells).val
theorem Sb (v:Int) (cells:List al):(va v cells).bq (fun _=>True):=by
 unfold va
 try simp only [zC,sY,M5]
 exact xV
def CV v cells:=kk tok mixed Tryz.func244 [iv v,lv al.cells cells] (fun x=>av x.cells) true (va v cells) (qh v cells) (u0 (Sb v cells))
def vb (a:al) (b:al) (alone:Int):Sk (al) :=
 .br ((a.known&&(a.n == alone))||(b.known&&(b.n == alone)))
 (.fin ({ known:=true,n:=alone }:al))
 (.br (a.known&&b.known)
 (.fin ({ known:=true,n:=aK ((1:Int) - alone) }:al))
 (.fin ({ known:=false,n:=0 }:al)))
def vk a b alone:=(vb a b alone).val
theorem Sc (a:al) (b:al) (alone:Int):(vb a b alone).bq (fun _=>True):=by
 unfold vb
 exact mP
def xM a b alone:=kk tok mixed Tryz.func245 [av a.cells,av b.cells,iv alone] (fun x=>av x.cells) true (vb a b alone) (vk a b alone) (u0 (Sc a b alone))
def vc (xY:Bool):Sk (al) :=
 .br xY
 (.fin ({ known:=true,n:=1 }:al))
 (.fin ({ known:=true,n:=0 }:al))
def Ij xY:=(vc xY).val
theorem Sd (xY:Bool):(vc xY).bq (fun _=>True):=by
 unfold vc
 exact mP
def CW xY:=kk tok mixed Tryz.func271 [bv xY] (fun x=>av x.cells) true (vc xY) (Ij xY) (u0 (Sd xY))
def rr (a:Int) (b:Int):Sk (Int) :=
 .br ((a == 0)||(b == 0))
 (.fin 0)
 (.r 5 (.p ((dk b (aK (0 - b)))≠0)) fun _ =>
 .bind false (fun _=>True)
 (.br (decide ((dk a (aK (0 - a))) > (aK ((1099511627776:Int).tdiv (dk b (aK (0 - b)))))))
 (.fin (.inr (1099511627776,1)))
 (.fin (.inr (dk a (aK (0 - a)),dk b (aK (0 - b))))))
 (fun (b1:Int × Int)=>⟨[(5,iv b1.1),(6,iv b1.2)],[]⟩) fun b1 =>
 .br (!((decide (a < 0)) == (decide (b < 0))))
 (.fin (aK ((aK (0 - b1.1)) * b1.2)))
 (.fin (aK (b1.1 * b1.2))))
def zD a b:=(rr a b).val
theorem Se (a:Int) (b:Int) (hb : -9223372036854775808≤b∧b≤9223372036854775807):(rr a b).bq (fun _=>True):=by
 refine Sk.aO _ ?_
 unfold rr
 simp only [Sk.gx,Sk.aD,reduceCtorEq,ON,kk,kp,maxLen]
 intro h
 simp only [LN] at h
 by_cases c:b = -9223372036854775808
 ·subst c; decide
 ·rw [aq (by omega) (by omega)]
  unfold dk
  split <;> omega
def Je a b:=kk tok mixed Tryz.func272 [iv a,iv b] (fun x=>iv x) true (rr a b) (zD a b) (Se a b)
def s5 (op:Int) (a:Int) (b:Int):Sk (al) :=
 .br (op == 7)
 (.r 3 ((CW (decide (a < b))).c) fun x1 =>
 .fin x1)
 (.br (op == 8)
 (.r 5 ((CW (a == b)).c) fun x2 =>
 .fin x2)
 (.br (op == 9)
 (.r 7 ((zC (aK (a+b))).c) fun x3 =>
 .fin ({ known:=true,n:=x3 }:al))
 (.br (op == 10)
 (.r 9 ((zC (aK (a - b))).c) fun x4 =>
 .fin ({ known:=true,n:=x4 }:al))
 (.br (op == 11)
 (.r 11 ((Je a b).c) fun x5 =>
 .fin ({ known:=true,n:=x5 }:al))
 (.br (op == 12)
 (.fin ({ known:=true,n:=fB a b }:al))
 (.fin ({ known:=true,n:=dk a b }:al)))))))
def lz op a b:=(s5 op a b).val
theorem OS (op:Int) (a:Int) (b:Int) (hb : -9223372036854775808≤b∧b≤9223372036854775807):(s5 op a b).bq (fun _=>True):=by
 unfold s5
 try simp only [zC,Je,CW,M5]
 exact xV
def AY op a b:=kk tok mixed Tryz.func246 [iv op,iv a,iv b] (fun x=>av x.cells) true (s5 op a b) (lz op a b) (OS op a b)
def CX (rv:Term→(List al)→al) (rp:Term→(List al)→Prop) (rf:∀ (t:Term) (cells:List al),rp t cells→jl Tryz.prog 212 [av t.cells,lv al.cells cells] [] (av (rv t cells).cells) []) (t:Term) (cells:List al):fD (al):=⟨Tryz.prog,212,[av t.cells,lv al.cells cells],fun x=>av x.cells,true,rv t cells,rp t cells,rf t cells,fun _=>True,trivial⟩
def k4 (rv:Term→(List al)→al) (rp:Term→(List al)→Prop) (rf:∀ (t:Term) (cells:List al),rp t cells→jl Tryz.prog 212 [av t.cells,lv al.cells cells] [] (av (rv t cells).cells) []) (t:Term) (cells:List al):Sk (al):=let rz:=({ known:=false,n:=0 }:al);
 .bind false (fun b1=>b1=(t.op == 0||t.op == 1))
 (.br (t.op == 0)
 (.fin (.inr (t.op == 0)))
 (.fin (.inr (t.op == 1))))
 (fun (b1:Bool)=>⟨[(9,bv b1)],[]⟩) fun b1 =>
 .br b1
 (.fin ({ known:=true,n:=t.n }:al))
 (.br (t.op == 2)
 (.r 6 ((CV t.n cells).c) fun x2 =>
 .fin x2)
 (.r 7 (.o [.cU (dG al.E ([]:List al))]) fun _ =>
 .bind true (fun b3=>b3.length=t.args.length∧∀ q,q < t.args.length→b3.getD q default=rv (t.args.getD q default) cells)
 (.loop (default:Sum (al) ((List al))) (fun i4=>i4.1.length=i4.2∧i4.2≤t.args.length∧∀ q,q < i4.2→i4.1.getD q default=rv (t.args.getD q default) cells) (fun i4=>t.args.length - i4.2) ((([]:List al),0):(List al) × Nat)
 (fun (i4:(List al) × Nat)=>⟨[(5,ow 100002 i4.1),(6,iv (i4.2:Int))],[(100002,cp 131 2 al.cells i4.1)]⟩) fun i4 =>
 .lt 2 2 i4.2 t.args.length
 (.r 11 (.aj (.aj (.p (bM (i4.2:Int) t.args.length)) (.o [.cast 33 (Zv (Term.EI (t.args.getD i4.2 default)))])) (.gw ((CX rv rp rf (t.args.getD i4.2 default) cells).c) fun x5=>.aj (.o [.cU (dG al.E [x5])]) (.aj (.o [.cU (kx al.E i4.1 [x5])]) (.aj (.t (al.E.k6 [x5])) (.p (uG i4.1.length [x5].length 16)))))) fun x5 =>
 .nx 10 6 i4.2 (i4.1++[x5],i4.2+1))
 (.fin (.inl (.inr i4.1))))
 (fun (b3:(List al))=>⟨[(5,ow 100001 b3)],[(100001,cp 131 2 al.cells b3)]⟩) fun b3=>let kV:=(b3.getD 1 default); let eG:=(bM (1:Int) b3.length); let cF:=(bM (0:Int) b3.length); let aV:=(b3.getD 0 default); let B2:=(aK ((2:Int) - (aV.n))); let az:=((kV.known)&&((b3.getD 2 default).known));
 .br (t.op == 3)
 (.r 14 (.aj (.p cF) (.p (0 < b3.length))) fun _ =>
 .br (!(aV.known))
 (.fin rz)
 (.r 16 (.aj (.p cF) (.p (0 < b3.length))) fun _ =>
 .fin ({ known:=true,n:=aK ((1:Int) - (aV.n)) }:al)))
 (.br (t.op == 4)
 (.r 18 (.aj (.p cF) (.aj (.p (0 < b3.length)) (.aj (.p eG) (.aj (.p (1 < b3.length)) ((xM aV kV 0).c))))) fun x6 =>
 .fin x6)
 (.br (t.op == 5)
 (.r 20 (.aj (.p cF) (.aj (.p (0 < b3.length)) (.aj (.p eG) (.aj (.p (1 < b3.length)) ((xM aV kV 1).c))))) fun x7 =>
 .fin x7)
 (.br (t.op == 6)
 (.r 22 (.aj (.p cF) (.p (0 < b3.length))) fun _ =>
 .br (aV.known)
 (.r 23 (.aj (.p cF) (.aj (.p (0 < b3.length)) (.aj (.p (bM B2 b3.length)) (.p (B2.toNat < b3.length))))) fun _ =>
 .fin (b3.getD (B2.toNat) default))
 (.r 24 (.aj (.p eG) (.aj (.p (1 < b3.length)) (.aj (.wh (kV.known) true (.p (bM (2:Int) b3.length))) (.aj (.wh (kV.known) true (.p (2 < b3.length))) (.aj (.wh az true (.p eG)) (.aj (.wh az true (.p (1 < b3.length))) (.aj (.wh az true (.p (bM (2:Int) b3.length))) (.wh az true (.p (2 < b3.length)))))))))) fun _ =>
 .br (az&&((kV.n) == ((b3.getD 2 default).n)))
 (.r 25 (.aj (.p eG) (.p (1 < b3.length))) fun _ =>
 .fin kV)
 (.fin rz)))
 (.r 27 (.aj (.p cF) (.aj (.p (0 < b3.length)) (.aj (.wh (!(aV.known)) false (.p eG)) (.wh (!(aV.known)) false (.p (1 < b3.length)))))) fun _ =>
 .br ((!(aV.known))||(!(kV.known)))
 (.fin rz)
 (.r 29 (.aj (.p cF) (.aj (.p (0 < b3.length)) (.aj (.p eG) (.aj (.p (1 < b3.length)) ((AY t.op (aV.n) (kV.n)).c))))) fun x8 =>
 .fin x8)))))))
def bX:Nat→Term→(List al)→al
 | 0,_,_=>default
 | fu+1,t,cells=>(k4 (bX fu) (fun _ _=>False) (fun _ _=>fun h=>h.elim) t cells).val
theorem abZ (a b:Int) (ha:0≤a∧a < 18446744073709551616) (hb:0≤b∧b < 18446744073709551616):(0≤(gY a b).1∧(gY a b).1 < 18446744073709551616)∧(0≤(gY a b).2∧(gY a b).2 < 18446744073709551616)∧(gY a b).1 * 18446744073709551616+(gY a b).2=a * b:=Bg a b ⟨ha,hb⟩
theorem ae9 {x y:Int} (hx:0≤x∧x≤1099511627776) (hy:1≤y∧y≤1099511627776):(x > 1099511627776 / y→x * y > 1099511627776)∧(x≤1099511627776 / y→0≤x * y∧x * y≤1099511627776)∧0≤x * y∧x * y≤1208925819614629174706176:=by
 have h0:0≤x * y:=Int.mul_nonneg hx.1 (by omega)
 refine ⟨fun h=>?_,fun h=>⟨h0,?_⟩,h0,?_⟩
 ·have:=Int.lt_mul_of_ediv_lt (by omega:0 < y) h
  exact this
 ·have:=Int.mul_le_of_le_ediv (by omega:0 < y) h
  exact this
 ·have:=Int.mul_le_mul hx.2 hy.2 (by omega) (by omega)
  omega
def Xy (fu:Nat) (cs:List al) (x:Term) (s:List al):al ⊕ List al:=.inr (s++[bX fu x cs])
def sr (op:Int) (l:List al):al :=
 bif op == 3 then (bif !(l.getD 0 default).known then ⟨false,0⟩ else ⟨true,aK ((1:Int) - (l.getD 0 default).n)⟩)
 else bif op == 4 then vk (l.getD 0 default) (l.getD 1 default) 0
 else bif op == 5 then vk (l.getD 0 default) (l.getD 1 default) 1
 else bif op == 6 then (bif (l.getD 0 default).known then l.getD (aK ((2:Int) - (l.getD 0 default).n)).toNat default else bif ((l.getD 1 default).known&&(l.getD 2 default).known)&&((l.getD 1 default).n == (l.getD 2 default).n) then l.getD 1 default else ⟨false,0⟩)
 else bif (!(l.getD 0 default).known)||(!(l.getD 1 default).known) then ⟨false,0⟩ else lz op (l.getD 0 default).n (l.getD 1 default).n
theorem YK (fu:Nat) (cs:List al) (fin:List al→al):∀ (ts:List Term) (l:List al),walk (Xy fu cs) fin ts l=fin (l++ts.map fun x=>bX fu x cs)
 | [],l=>by simp [walk]
 | x :: r,l=>by simp only [walk,Xy]; rw [YK fu cs fin r]; simp
theorem eval_eq (fu:Nat) (t:Term) (cs:List al):bX (fu+1) t cs =
  bif (t.op == 0)||(t.op == 1) then ⟨true,t.n⟩ else bif t.op == 2 then qh t.n cs else sr t.op (t.args.map fun x=>bX fu x cs):=by
 show (k4 (bX fu) (fun _ _=>False) (fun _ _ h=>h.elim) t cs).val=_
 simp only [k4,Sk.cE,Sk.bK,Sk.cz,Sk.cY,Sk.bg,bH.xU,fD.wG,kk,kp,CV,xM,AY]
 have e:∀ (b c:Bool) (X Y:al),bO (bif b then (Sum.inr b:Sum al Bool) else .inr c) (fun b1=>bif b1 then X else Y)=bif b||c then X else Y:=fun b c X Y=>by cases b <;> rfl
 rw [e]
 congr 1
 congr 1
 refine (bD t.args (fun s i=>(s,i)) (Xy fu cs) id _ (fun s i hi=>?_) (fun s=>?_) (by simp) []).trans ?_
 ·simp only [Sk.ct,Sk.bK,Sk.cE,Sk.cV,Sk.bg,bH.xU,bH.WL,fD.wG,kk,kp,CX]
  rw [decide_eq_true (by omega),cond_true]
  rfl
 ·simp only [Sk.ct,Sk.bK,Sk.cE,Sk.cV,Sk.bg,fD.wG,kk,kp]
  rw [decide_eq_false (by omega),cond_false]
  rfl
 ·rw [YK,List.nil_append]
  rfl
def YL (c:al):Prop:=c.known=true→-1099511627776≤c.n∧c.n≤1099511627776
theorem M6 (n:Int):DB n=tu n:=by
 show dk (-1099511627776) (fB 1099511627776 n)=fB (dk n (-1099511627776)) 1099511627776
 unfold dk fB
 (repeat' split) <;> omega
theorem Sf (n:Int) : -1099511627776≤tu n∧tu n≤1099511627776:=by
 show -1099511627776≤fB (dk n (-1099511627776)) 1099511627776∧fB (dk n (-1099511627776)) 1099511627776≤1099511627776
 unfold dk fB
 (repeat' split) <;> omega
theorem Xz (n:Int) (cs:List al) (h:0≤n∧n≤19):qh n cs=F6 (cs.getD n.toNat default) n:=by
 have e:qh n cs=bif (decide (n < 0))||(decide (n≥(cs.length:Int))) then ⟨false,0⟩ else bif !(cs.getD n.toNat default).known then ⟨false,0⟩ else bif (xI n).1 == 0 then ⟨true,DB (cs.getD n.toNat default).n⟩ else bif (cs.getD n.toNat default).n != 0 then ⟨true,1⟩ else ⟨true,0⟩:=rfl
 have ev:(xI n).1=if n < 7 then 0 else 1:=by
  have e:xI n=bif (decide (n < 0))||(decide (n≥20)) then ((0:Int),false) else bif decide (n≤6) then (0,true) else (1,true):=rfl
  have e2:((decide (n < 0))||(decide (n≥20)))=false:=by simp only [LN]; omega
  rw [e,e2,cond_false]
  by_cases c:n≤6
  ·rw [decide_eq_true c,if_pos (by omega)]; rfl
  ·rw [decide_eq_false c,if_neg (by omega)]; rfl
 rw [e,ev,M6]
 unfold F6
 by_cases hl:n≥(cs.length:Int)
 ·have e:cs.getD n.toNat default=⟨false,0⟩:=by
   rw [List.getD,List.getElem?_eq_none (by omega)]
   rfl
  rw [e,decide_eq_true hl,Bool.or_true]; rfl
 ·rw [decide_eq_false (show ¬ n < 0 by omega),decide_eq_false hl]
  cases hk:(cs.getD n.toNat default).known with
  | false=>rfl
  | true =>
   by_cases c:n < 7
   ·rw [decide_eq_true c,if_pos c]; rfl
   ·rw [decide_eq_false c,if_neg c]
    cases hn:((cs.getD n.toNat default).n != 0) <;> rfl
theorem afa (c:al) (n:Int) (h:n < 7):YL (F6 c n):=by
 unfold F6
 rw [decide_eq_true h]
 cases c.known with
 | false=>intro h; cases h
 | true=>intro _; exact Sf _
theorem abs_eq (a:Int) (ha : -1099511627776≤a∧a≤1099511627776):dk a (aK (0 - a))=(if a < 0 then -a else a)∧0≤dk a (aK (0 - a))∧dk a (aK (0 - a))≤1099511627776:=by
 rw [aq (by omega) (by omega)]
 unfold dk
 (repeat' split) <;> omega
theorem Qn {α β:Type} (c:Bool) (x y:β) (f:β→α):bO (bif c then (Sum.inr x:α ⊕ β) else .inr y) f=f (bif c then x else y):=by cases c <;> rfl
theorem XA (a b:Int) (ha : -1099511627776≤a∧a≤1099511627776) (hb : -1099511627776≤b∧b≤1099511627776):zD a b=lg a b∧(-1099511627776≤lg a b∧lg a b≤1099511627776):=by
 obtain ⟨-,x0,x1⟩:=abs_eq a ha
 obtain ⟨ey,y0,y1⟩:=abs_eq b hb
 obtain ⟨ex,-,-⟩:=abs_eq a ha
 have e1:zD a b=bif (a == 0)||(b == 0) then 0 else
   (fun p:Int × Int=>bif !((decide (a < 0)) == (decide (b < 0))) then aK ((aK (0 - p.1)) * p.2) else aK (p.1 * p.2))
    (bif decide ((dk a (aK (0 - a))) > (aK ((1099511627776:Int).tdiv (dk b (aK (0 - b)))))) then (1099511627776,1) else (dk a (aK (0 - a)),dk b (aK (0 - b)))):=by
  simp only [zD,rr,Sk.cE,Sk.bK,Sk.cz,Sk.bg]
  cases ((a == 0)||(b == 0)) with
  | true=>rfl
  | false=>simp only [cond_false]; cases decide ((dk a (aK (0 - a))) > (aK ((1099511627776:Int).tdiv (dk b (aK (0 - b)))))) <;> rfl
 have e2:lg a b=(fun n:Int=>bif !((decide (a < 0)) == (decide (b < 0))) then aK (0 - n) else n)
   (bif ((gY (IntKind.u64.wrap (dk a (aK (0 - a)))) (IntKind.u64.wrap (dk b (aK (0 - b))))).1 == 0)&&(decide ((gY (IntKind.u64.wrap (dk a (aK (0 - a)))) (IntKind.u64.wrap (dk b (aK (0 - b))))).2 < 1099511627776)) then aK (gY (IntKind.u64.wrap (dk a (aK (0 - a)))) (IntKind.u64.wrap (dk b (aK (0 - b))))).2 else 1099511627776):=by
  simp only [lg,lE,Sk.cE,Sk.bK,Sk.cz,Sk.bg,fD.wG,kk,kp,il]
  exact Qn _ _ _ _
 rw [e1,e2]
 generalize hX:dk a (aK (0 - a))=X at *
 generalize hY:dk b (aK (0 - b))=Y at *
 rw [fa (by omega) (by omega),fa (by omega) (by omega)]
 have hm:=abZ X Y ⟨by omega,by omega⟩ ⟨by omega,by omega⟩
 generalize gY X Y=p at hm ⊢
 by_cases hz:a=0∨b=0
 ·have hc:((a == 0)||(b == 0))=true:=by simp only [LN]; exact hz
  have hp:X * Y=0:=by
   rcases hz with h | h
   ·rw [show X=0 by subst h; simpa using ex]; exact Int.zero_mul _
   ·rw [show Y=0 by subst h; simpa using ey]; exact Int.mul_zero _
  have h1:p.1=0:=by omega
  have h2:p.2=0:=by omega
  rw [hc,cond_true,h1,h2]
  have:aK 0=0:=rfl
  cases ((decide (a < 0)) == (decide (b < 0))) <;> exact ⟨rfl,by decide⟩
 ·have hc:((a == 0)||(b == 0))=false:=by simp only [LN]; omega
  have hY1:1≤Y:=by
   by_cases h:b < 0
   ·rw [if_pos h] at ey; omega
   ·rw [if_neg h] at ey; omega
  have hq:=ae9 ⟨x0,x1⟩ ⟨hY1,y1⟩
  rw [hc,cond_false,Int.tdiv_eq_ediv_of_nonneg (by omega)]
  have hd:0≤1099511627776 / Y∧1099511627776 / Y≤1099511627776:=⟨Int.ediv_nonneg (by omega) (by omega),Int.ediv_le_self _ (by omega)⟩
  rw [aq (n:=1099511627776 / Y) (by omega) (by omega)]
  have two:∀ n:Int,0≤n→n≤1099511627776→aK n=n∧aK (0 - n)=0 - n∧(-1099511627776≤0 - n∧0 - n≤1099511627776):=fun n h1 h2=>⟨aq (by omega) (by omega),aq (by omega) (by omega),by omega⟩
  generalize hXY:X * Y=P at hm hq
  by_cases hg:X > 1099511627776 / Y
  ·rw [decide_eq_true hg,cond_true]
   have ajA:=hq.1 hg
   have uE:((p.1 == 0)&&(decide (p.2 < 1099511627776)))=false:=by simp only [LN]; omega
   rw [uE,cond_false]
   cases ((decide (a < 0)) == (decide (b < 0))) <;> exact ⟨rfl,by decide⟩
  ·rw [decide_eq_false hg,cond_false]
   have hs:=hq.2.1 (by omega)
   have h1:p.1=0:=by omega
   have h2:p.2=P:=by omega
   have tP:=two P hs.1 hs.2
   have tX:=two X x0 x1
   have eL:∀ c:Bool,(bif !c then aK ((aK (0 - X)) * Y) else aK (X * Y))=bif !c then 0 - P else P:=fun c=>by
    cases c with
    | true=>show aK (X * Y)=P; rw [hXY]; exact tP.1
    | false =>
     show aK ((aK (0 - X)) * Y)=0 - P
     rw [tX.2.1,Int.sub_mul,Int.zero_mul,hXY]; exact tP.2.1
   show (bif !((decide (a < 0)) == (decide (b < 0))) then aK ((aK (0 - X)) * Y) else aK (X * Y))=_∧_
   rw [eL]
   have eR:(bif (p.1 == 0)&&(decide (p.2 < 1099511627776)) then aK p.2 else 1099511627776)=P:=by
    rw [h1,h2]
    by_cases c:P < 1099511627776
    ·rw [decide_eq_true c]; exact tP.1
    ·rw [decide_eq_false c]; show (1099511627776:Int)=P; omega
   simp only [eR]
   cases ((decide (a < 0)) == (decide (b < 0))) with
   | true=>exact ⟨rfl,by simp only [Bool.not_true,cond_false]; omega⟩
   | false=>exact ⟨tP.2.1.symm,by simp only [Bool.not_false,cond_true]; rw [tP.2.1]; exact tP.2.2⟩
theorem vl (op:Int) (cs:List al) (ns:List (List Int)):(rE op cs ns).1=bif (cP op cs).known then cP op cs else ⟨false,0⟩:=by
 unfold rE
 cases (cP op cs).known <;> rfl
theorem XB (op a b:Int) (h:9≤op∧op≤13) (ha : -1099511627776≤a∧a≤1099511627776) (hb : -1099511627776≤b∧b≤1099511627776):lz op a b=⟨true,dT op a b⟩∧(-1099511627776≤dT op a b∧dT op a b≤1099511627776):=by
 have:op=9∨op=10∨op=11∨op=12∨op=13:=by omega
 rcases this with rfl | rfl | rfl | rfl | rfl
 ·have e1:lz 9 a b=⟨true,DB (aK (a+b))⟩:=rfl
  have e2:dT 9 a b=tu (aK (a+b)):=rfl
  rw [e1,e2,M6]; exact ⟨rfl,Sf _⟩
 ·have e1:lz 10 a b=⟨true,DB (aK (a - b))⟩:=rfl
  have e2:dT 10 a b=tu (aK (a - b)):=rfl
  rw [e1,e2,M6]; exact ⟨rfl,Sf _⟩
 ·have e1:lz 11 a b=⟨true,zD a b⟩:=rfl
  have e2:dT 11 a b=lg a b:=rfl
  have:=XA a b ha hb
  rw [e1,e2,this.1]; exact ⟨rfl,this.2⟩
 ·have e1:lz 12 a b=⟨true,fB a b⟩:=rfl
  have e2:dT 12 a b=fB a b:=rfl
  rw [e1,e2]; refine ⟨rfl,?_⟩; unfold fB; split <;> omega
 ·have e1:lz 13 a b=⟨true,dk a b⟩:=rfl
  have e2:dT 13 a b=dk a b:=rfl
  rw [e1,e2]; refine ⟨rfl,?_⟩; unfold dk; split <;> omega
theorem ab0 (a b:al) (z:Int) (hz:z=0∨z=1):vk a b z=bif (a.known&&(a.n == z))||(b.known&&(b.n == z)) then ⟨true,z⟩ else bif a.known&&b.known then ⟨true,1 - z⟩ else ⟨false,0⟩:=by
 have e:vk a b z=bif (a.known&&(a.n == z))||(b.known&&(b.n == z)) then ⟨true,z⟩ else bif a.known&&b.known then ⟨true,aK ((1:Int) - z)⟩ else ⟨false,0⟩:=rfl
 rw [e,aq (by omega) (by omega)]
theorem Ik {t:Term} {k:Int} (h:tw t k):∀ (fu:Nat) (cs:List al),t.depth≤fu→bX fu t cs=(ae fu ⟨cs⟩ t).1∧(k=1→b01 (ae fu ⟨cs⟩ t).1)∧(k=0→YL (ae fu ⟨cs⟩ t).1):=by
 induction h with
 | int h =>
  intro fu cs hd
  obtain ⟨fu,rfl⟩:∃ m,fu=m+1:=⟨fu - 1,by simp only [Term.depth] at hd; omega⟩
  rw [eval_eq,Yx]
  exact ⟨rfl,fun e=>by omega,fun _ _=>h⟩
 | bool h =>
  intro fu cs hd
  obtain ⟨fu,rfl⟩:∃ m,fu=m+1:=⟨fu - 1,by simp only [Term.depth] at hd; omega⟩
  rw [eval_eq,Uo]
  exact ⟨rfl,fun _ _=>by dsimp only; omega,fun e=>by omega⟩
 | @var n h =>
  intro fu cs hd
  obtain ⟨fu,rfl⟩:∃ m,fu=m+1:=⟨fu - 1,by simp only [Term.depth] at hd; omega⟩
  rw [eval_eq,Yy,Uq _ _ h]
  have e:(bif (F6 (cs.getD n.toNat default) n).known then (F6 (cs.getD n.toNat default) n,([]:List Int)) else (⟨false,0⟩,[n])).1=F6 (cs.getD n.toNat default) n:=by
   unfold F6
   cases (cs.getD n.toNat default).known with
   | false=>rfl
   | true=>cases decide (n < 7) <;> rfl
  rw [e]
  refine ⟨Xz n cs h,fun e=>abw _ _ ?_,fun e=>afa _ _ ?_⟩
  ·by_cases c:n < 7
   ·rw [if_pos c] at e; omega
   ·omega
  ·by_cases c:n < 7
   ·exact c
   ·rw [if_neg c] at e; omega
 | @not a ha ih =>
  intro fu cs hd
  obtain ⟨fu,rfl⟩:∃ m,fu=m+1:=⟨fu - 1,by simp only [Term.depth] at hd; omega⟩
  simp only [Term.depth,Term.bT] at hd
  obtain ⟨e1,hb,-⟩:=ih fu cs (by omega)
  rw [eval_eq,Yz,vl,Up]
  show sr 3 [bX fu a cs]=_∧_
  rw [e1]
  generalize (ae fu ⟨cs⟩ a).1=c at hb ⊢
  have hb:=hb rfl
  have e:(bif (bif c.known then oC (c.n == 0) else ⟨false,0⟩).known then (bif c.known then oC (c.n == 0) else ⟨false,0⟩) else (⟨false,0⟩:al))=bif c.known then oC (c.n == 0) else ⟨false,0⟩:=by
   rw [Cb]; cases c.known <;> rfl
  rw [e]
  have ev:sr 3 [c]=bif !c.known then ⟨false,0⟩ else ⟨true,aK ((1:Int) - c.n)⟩:=rfl
  rw [ev]
  cases hk:c.known with
  | false=>exact ⟨rfl,fun _ h=>(by cases h),fun h=>by omega⟩
  | true =>
   have:=hb hk
   refine ⟨?_,fun _=>YA _,fun h=>by omega⟩
   show (⟨true,aK (1 - c.n)⟩:al)=oC (c.n == 0)
   rw [Cb]
   rcases this with h | h <;> rw [h] <;> rfl
 | @Ri op a b ho ha hb Fo Ei =>
  intro fu cs hd
  obtain ⟨fu,rfl⟩:∃ m,fu=m+1:=⟨fu - 1,by simp only [Term.depth] at hd; omega⟩
  simp only [Term.depth,Term.bT] at hd
  obtain ⟨e1,-,-⟩:=Fo fu cs (by omega)
  obtain ⟨e2,-,-⟩:=Ei fu cs (by omega)
  rw [eval_eq,xn _ _ _ _ (by omega),vl,PY op ho]
  have ev:∀ x y:al,(bif (op == 0)||(op == 1) then (⟨true,0⟩:al) else bif op == 2 then qh 0 cs else sr op [x,y])=vk x y (if op=5 then 1 else 0):=fun x y=>by rcases ho with rfl | rfl <;> rfl
  show (bif (op == 0)||(op == 1) then (⟨true,0⟩:al) else bif op == 2 then qh 0 cs else sr op [bX fu a cs,bX fu b cs])=_∧_
  rw [ev,e1,e2,ab0 _ _ _ (by split <;> simp)]
  generalize (ae fu ⟨cs⟩ a).1=x
  generalize (ae fu ⟨cs⟩ b).1=y
  have hz:(if op=5 then (1:Int) else 0)=0∨(if op=5 then (1:Int) else 0)=1:=by split <;> simp
  generalize (if op=5 then (1:Int) else 0)=z at hz ⊢
  dsimp only
  cases ((x.known&&(x.n == z))||(y.known&&(y.n == z))) with
  | true=>exact ⟨rfl,fun _ _=>hz,fun h=>by omega⟩
  | false =>
   cases (x.known&&y.known) with
   | true=>exact ⟨rfl,fun _ _=>by simp only [cond_false,cond_true]; omega,fun h=>by omega⟩
   | false=>exact ⟨rfl,fun _ h=>(by cases h),fun h=>by omega⟩
 | @ite a b c k ha hb hc Fo Ei ihc =>
  intro fu cs hd
  obtain ⟨fu,rfl⟩:∃ m,fu=m+1:=⟨fu - 1,by simp only [Term.depth] at hd; omega⟩
  simp only [Term.depth,Term.bT] at hd
  obtain ⟨e1,b1,-⟩:=Fo fu cs (by omega)
  obtain ⟨e2,b2,s2⟩:=Ei fu cs (by omega)
  obtain ⟨e3,b3,s3⟩:=ihc fu cs (by omega)
  rw [eval_eq,run_ite]
  show sr 6 [bX fu a cs,bX fu b cs,bX fu c cs]=_∧_
  rw [e1,e2,e3]
  dsimp only
  generalize ae fu ⟨cs⟩ a=x at b1 ⊢
  generalize ae fu ⟨cs⟩ b=y at b2 s2 ⊢
  generalize ae fu ⟨cs⟩ c=z at b3 s3 ⊢
  have ev:sr 6 [x.1,y.1,z.1]=bif x.1.known then [x.1,y.1,z.1].getD (aK ((2:Int) - x.1.n)).toNat default else bif (y.1.known&&z.1.known)&&(y.1.n == z.1.n) then y.1 else ⟨false,0⟩:=rfl
  rw [ev]
  cases hk:x.1.known with
  | true =>
   simp only [cond_true]
   rcases b1 rfl hk with h | h
   ·rw [h]
    exact ⟨trivial,b3,s3⟩
   ·rw [h]
    exact ⟨trivial,b2,s2⟩
  | false =>
   simp only [cond_false]
   rw [vl,YB,Bool.and_assoc]
   cases hq:(y.1.known&&(z.1.known&&(y.1.n == z.1.n))) with
   | false=>exact ⟨rfl,fun _ h=>(by cases h),fun _ h=>by cases h⟩
   | true =>
    have:y.1.known=true:=by simp only [Bool.and_eq_true] at hq; exact hq.1
    simp only [cond_true,this]
    exact ⟨trivial,b2,s2⟩
 | @less a b ha hb Fo Ei =>
  intro fu cs hd
  obtain ⟨fu,rfl⟩:∃ m,fu=m+1:=⟨fu - 1,by simp only [Term.depth] at hd; omega⟩
  simp only [Term.depth,Term.bT] at hd
  obtain ⟨e1,-,-⟩:=Fo fu cs (by omega)
  obtain ⟨e2,-,-⟩:=Ei fu cs (by omega)
  rw [eval_eq,xn _ _ _ _ (by omega),vl,vK 7 (by omega),if_pos rfl]
  show sr 7 [bX fu a cs,bX fu b cs]=_∧_
  rw [e1,e2]
  generalize (ae fu ⟨cs⟩ a).1=x
  generalize (ae fu ⟨cs⟩ b).1=y
  have ev:sr 7 [x,y]=bif (!x.known)||(!y.known) then ⟨false,0⟩ else Ij (decide (x.n < y.n)):=rfl
  rw [ev,Cb]
  cases x.known <;> cases y.known
  ·exact ⟨rfl,fun _ h=>(by cases h),fun h=>by omega⟩
  ·exact ⟨rfl,fun _ h=>(by cases h),fun h=>by omega⟩
  ·exact ⟨rfl,fun _ h=>(by cases h),fun h=>by omega⟩
  ·cases decide (x.n < y.n)
   ·exact ⟨rfl,fun _ _=>.inl rfl,fun h=>by omega⟩
   ·exact ⟨rfl,fun _ _=>.inr rfl,fun h=>by omega⟩
 | @eq a b k ha hb Fo Ei =>
  intro fu cs hd
  obtain ⟨fu,rfl⟩:∃ m,fu=m+1:=⟨fu - 1,by simp only [Term.depth] at hd; omega⟩
  simp only [Term.depth,Term.bT] at hd
  obtain ⟨e1,-,-⟩:=Fo fu cs (by omega)
  obtain ⟨e2,-,-⟩:=Ei fu cs (by omega)
  rw [eval_eq,xn _ _ _ _ (by omega),vl,vK 8 (by omega),if_neg (by omega),if_pos rfl]
  show sr 8 [bX fu a cs,bX fu b cs]=_∧_
  rw [e1,e2]
  generalize (ae fu ⟨cs⟩ a).1=x
  generalize (ae fu ⟨cs⟩ b).1=y
  have ev:sr 8 [x,y]=bif (!x.known)||(!y.known) then ⟨false,0⟩ else Ij (x.n == y.n):=rfl
  rw [ev,Cb]
  cases x.known <;> cases y.known
  ·exact ⟨rfl,fun _ h=>(by cases h),fun h=>by omega⟩
  ·exact ⟨rfl,fun _ h=>(by cases h),fun h=>by omega⟩
  ·exact ⟨rfl,fun _ h=>(by cases h),fun h=>by omega⟩
  ·cases (x.n == y.n)
   ·exact ⟨rfl,fun _ _=>.inl rfl,fun h=>by omega⟩
   ·exact ⟨rfl,fun _ _=>.inr rfl,fun h=>by omega⟩
 | @arith op a b ho ha hb Fo Ei =>
  intro fu cs hd
  obtain ⟨fu,rfl⟩:∃ m,fu=m+1:=⟨fu - 1,by simp only [Term.depth] at hd; omega⟩
  simp only [Term.depth,Term.bT] at hd
  obtain ⟨e1,-,s1⟩:=Fo fu cs (by omega)
  obtain ⟨e2,-,s2⟩:=Ei fu cs (by omega)
  have s1:=s1 rfl
  have s2:=s2 rfl
  rw [eval_eq,xn _ _ _ _ (by omega),vl,vK op (by omega),if_neg (by omega),if_neg (by omega)]
  have ev:∀ x y:al,(bif (op == 0)||(op == 1) then (⟨true,0⟩:al) else bif op == 2 then qh 0 cs else sr op [x,y])=bif (!x.known)||(!y.known) then ⟨false,0⟩ else lz op x.n y.n:=fun x y=>by
   have:op=9∨op=10∨op=11∨op=12∨op=13:=by omega
   rcases this with rfl | rfl | rfl | rfl | rfl <;> rfl
  show (bif (op == 0)||(op == 1) then (⟨true,0⟩:al) else bif op == 2 then qh 0 cs else sr op [bX fu a cs,bX fu b cs])=_∧_
  rw [ev,e1,e2]
  generalize (ae fu ⟨cs⟩ a).1=x at s1 ⊢
  generalize (ae fu ⟨cs⟩ b).1=y at s2 ⊢
  cases hx:x.known <;> cases hy:y.known
  ·exact ⟨rfl,fun h=>by omega,fun _ h=>by cases h⟩
  ·exact ⟨rfl,fun h=>by omega,fun _ h=>by cases h⟩
  ·exact ⟨rfl,fun h=>by omega,fun _ h=>by cases h⟩
  ·have:=XB op x.n y.n ho (s1 hx) (s2 hy)
   exact ⟨this.1,fun h=>by omega,fun _ _=>this.2⟩
theorem Vc (fu:Nat) (rf:∀ (t:Term) (cells:List al),t.depth≤fu∧(t.tx)→jl Tryz.prog 212 [av t.cells,lv al.cells cells] [] (av (bX fu t cells).cells) []) (t:Term) (cells:List al) (hm:t.depth≤fu+1) (ht:t.tx):(k4 (bX fu) (fun t cells=>t.depth≤fu∧(t.tx)) rf t cells).bq (fun _=>True):=by
 refine Sk.aO _ ?_
 unfold k4
 simp only [Sk.gx,Sk.aD,reduceCtorEq,ON,kk,kp,CV,xM,AY,CX,maxLen]
 obtain ⟨⟨k,hk⟩,h8⟩:=ht
 have Rl:=hk.parts
 refine ⟨⟨fun _=>by simp_all,fun _=>by simp_all⟩,fun b _ hb hbf h2 _=>?_⟩
 rw [hb] at hbf
 simp only [LN] at hbf h2
 have hp:(∀ q,q < t.args.length→∃ j,tw (t.args.getD q default) j)∧((t.op=3∧t.args.length=1)∨(t.op=6∧t.args.length=3∧tw (t.args.getD 0 default) 1)∨(t.op≠0∧t.op≠1∧t.op≠2∧t.op≠3∧t.op≠6∧t.args.length=2)):=by
  rcases Rl with h | h
  ·omega
  ·exact h
 obtain ⟨hp1,hp2⟩:=hp
 have hlen:t.args.length≤3:=by omega
 have JG:∀ q,q < t.args.length→(t.args.getD q default).depth≤fu∧(t.args.getD q default).depth≤8:=fun q hq=>by have:=t.gU q hq; omega
 refine ⟨⟨⟨rfl,Nat.zero_le _,fun q hq=>absurd hq (by omega)⟩,fun i hi hl=>⟨fun hc=>⟨⟨⟨by omega,of_decide_eq_true hc⟩,⟨?_,?_⟩,fun x _=>⟨?_,?_⟩⟩,fun x hx _=>⟨?_,⟨?_,?_,fun q hq=>?_⟩,?_⟩⟩,fun hc=>?_⟩⟩,fun b hb=>?_⟩
 all_goals (try simp only [LN] at hc)
 ·exact (JG _ (by omega)).1
 ·exact ⟨hp1 _ (by omega),(JG _ (by omega)).2⟩
 ·show i.1.length+1≤_; omega
 ·show (i.1.length+1) * 16≤_; omega
 ·exact (aq (by omega) (by omega)).trans (by omega)
 ·rw [List.length_append]; show i.1.length+1=_; omega
 ·omega
 ·by_cases e:q < i.2
  ·rw [← hi.2.2 q e]
   simp [List.getD,List.getElem?_append_left (show q < i.1.length by omega)]
  ·have e2:q=i.1.length:=by omega
   have e3:i.2=i.1.length:=by omega
   rw [hx,e2,e3]
   simp [List.getD]
 ·omega
 ·exact ⟨by omega,fun q hq=>hi.2.2 q (by omega)⟩
 ·obtain ⟨hbl,hbv⟩:=hb
  have hN:t.op≠3→t.op≠6→(b.getD 1 default).known=true→-9223372036854775808≤(b.getD 1 default).n∧(b.getD 1 default).n≤9223372036854775807:=fun a c hkn=>by
   obtain ⟨j,hj⟩:=hp1 1 (by omega)
   have hs:=Ik hj fu cells (JG 1 (by omega)).1
   rw [hbv 1 (by omega),hs.1] at hkn ⊢
   rcases hj.kind with h0 | h0
   ·have:=hs.2.2 h0 hkn; omega
   ·have:=hs.2.1 h0 hkn; omega
  have hB:t.op=6→(b.getD 0 default).known=true→(b.getD 0 default).n=0∨(b.getD 0 default).n=1:=fun a hkn=>by
   rcases hp2 with h | h | h
   ·omega
   ·have hs:=Ik h.2.2 fu cells (JG 0 (by omega)).1
    rw [hbv 0 (by omega),hs.1] at hkn ⊢
    exact hs.2.1 rfl hkn
   ·omega
  simp only [LN]
  refine ⟨fun h3=>⟨⟨⟨by omega,by omega⟩,by omega⟩,fun _ _=>⟨⟨by omega,by omega⟩,by omega⟩⟩,fun h3=>⟨fun h4=>⟨⟨by omega,by omega⟩,by omega,⟨by omega,by omega⟩,by omega⟩,fun h4=>⟨fun h5=>⟨⟨by omega,by omega⟩,by omega,⟨by omega,by omega⟩,by omega⟩,fun h5=>⟨fun h6=>⟨⟨⟨by omega,by omega⟩,by omega⟩,fun _=>⟨fun hk=>?_,fun hk=>⟨⟨⟨by omega,by omega⟩,by omega,fun _=>⟨by omega,by omega⟩,fun _=>by omega,fun _=>⟨by omega,by omega⟩,fun _=>by omega,fun _=>⟨by omega,by omega⟩,fun _=>by omega⟩,fun _ _=>⟨⟨by omega,by omega⟩,by omega⟩⟩⟩⟩,fun h6=>⟨⟨⟨by omega,by omega⟩,by omega,fun _=>⟨by omega,by omega⟩,fun _=>by omega⟩,fun _ hkn=>⟨⟨by omega,by omega⟩,by omega,⟨by omega,by omega⟩,by omega,hN h3 h6 hkn.2⟩⟩⟩⟩⟩⟩
  have:=hB h6 hk
  rw [aq (by omega) (by omega)]
  exact ⟨⟨by omega,by omega⟩,by omega,⟨by omega,by omega⟩,by omega⟩
theorem Sg (fu:Nat) (rp:Term→(List al)→Prop) (rf:∀ (t:Term) (cells:List al),rp t cells→jl Tryz.prog 212 [av t.cells,lv al.cells cells] [] (av (bX fu t cells).cells) []) (t:Term) (cells:List al):(k4 (bX fu) rp rf t cells).val=bX (fu+1) t cells:=by kernel_rfl
theorem Sh (fu:Nat):∀ (t:Term) (cells:List al),t.depth≤fu→t.tx→jl Tryz.prog 212 [av t.cells,lv al.cells cells] [] (av (bX fu t cells).cells) []:=by
 induction fu with
 | zero=>intro t cells hm h0; exact absurd hm (by have:=Term.gK t; omega)
 | succ fu ih =>
  intro t cells hm h0
  have h:jl Tryz.prog 212 [av t.cells,lv al.cells cells] [] (av ((k4 (bX fu) (fun t cells=>t.depth≤fu∧(t.tx)) (fun t cells h=>ih t cells h.1 h.2) t cells).val).cells) []:=jl.sk tok mixed (fun x=>av x.cells) (fun _=>[]) Tryz.func212 rfl (by kernel_rfl) 3000 (k4 (bX fu) (fun t cells=>t.depth≤fu∧(t.tx)) (fun t cells h=>ih t cells h.1 h.2) t cells) (by kernel_rfl) (Vc fu _ t cells hm h0)
  rw [Sg] at h
  exact h
def Vd (t:Term) (cells:List al):al:=bX (t.depth) t cells
theorem Ve (t:Term) (cells:List al) (ht:t.tx):jl Tryz.prog 212 [av t.cells,lv al.cells cells] [] (av (Vd t cells).cells) []:=Sh _ t cells (Nat.le_refl _) ht
def M7 (t:Term) (cells:List al):fD (al):=⟨Tryz.prog,212,[av t.cells,lv al.cells cells],fun x=>av x.cells,true,Vd t cells,(t.tx),fun h=>Ve t cells h,fun _=>True,trivial⟩
def xN (t:Term) (cells:List al):Sk (al) :=
 .r 1 ((tK t).c) fun x1 =>
 .br (x1.2 != 0)
 (.fin ({ known:=false,n:=0 }:al))
 (.r 4 ((M7 t cells).c) fun x2 =>
 .fin x2)
def CY t cells:=(xN t cells).val
theorem Z2 {t:Term} {k:Int} (h:fE t=(k,0)) (cs:List al):CY t cs=rR t cs:=by
 have h2:=(Ii t k).1 h
 have ht:=(Bf t (by rw [h])).1
 rw [h] at ht
 have e1:CY t cs=bif (iL t).2 != 0 then ⟨false,0⟩ else bX t.depth t cs:=rfl
 have e2:rR t cs=bif (fE t).2 != 0 then ⟨false,0⟩ else (ae t.depth ⟨cs⟩ t).1:=rfl
 rw [e1,e2,h,h2]
 exact (Ik ht t.depth cs (Nat.le_refl _)).1
theorem Vf (t:Term) (cells:List al):(xN t cells).bq (fun _=>True):=by
 refine Sk.aO _ ?_
 unfold xN
 simp only [Sk.gx,Sk.aD,reduceCtorEq,ON,kk,kp,tK,M7,maxLen]
 intro x _ h hc
 simp only [LN] at hc
 exact ⟨⟨_,(h hc).1⟩,(h hc).2⟩
def Fc t cells:=kk tok mixed Tryz.func154 [av t.cells,lv al.cells cells] (fun x=>av x.cells) true (xN t cells) (CY t cells) (u0 (Vf t cells))
def oY (o:Order) (ask:Int) (cells:List al):Sk (al × Int) :=
 .r 1 ((AW o ask).c) fun x1 =>
 .br (x1 != 0)
 (.fin (({ known:=false,n:=0 }:al),x1))
 (.r 4 (.dep ((sn o ask).c) fun x2=>.aj (.p (bM x2 o.rules.length)) ((Fc ((o.rules.getD x2.toNat default).term) cells).c)) fun p6 =>
 .r 5 (.wh p6.2.known true ((rq ask).c)) fun x4 =>
 .br (p6.2.known&&(!x4))
 (.bind false (fun _=>True)
 (.br (decide (p6.2.n < 0))
 (.fin (.inr 0))
 (.fin (.inr p6.2.n)))
 (fun (b5:Int)=>⟨[],[(9,.box [bv p6.2.known,iv b5])]⟩) fun b5 =>
 .br (decide (b5 > 20000))
 (.fin (({ known:=p6.2.known,n:=20000 }:al),0))
 (.fin (({ known:=p6.2.known,n:=b5 }:al),0)))
 (.fin (p6.2,0)))
def su o ask cells:=(oY o ask cells).val
theorem OT (o:Order) (ask:Int) (cells:List al):(oY o ask cells).bq (fun _=>True):=by
 refine Sk.aO _ ?_
 unfold oY
 simp only [Sk.gx,Sk.aD,reduceCtorEq,ON,kk,kp,rq,Fc,sn,AW,maxLen]
 intro x _ hx hc y hy _
 simp only [LN] at hc
 rw [hy]
 exact hx hc
def GU o ask cells:=kk tok mixed Tryz.func110 [av o.cells,iv ask,lv al.cells cells] (fun x=>.fb [av x.1.cells,iv x.2]) true (oY o ask cells) (su o ask cells) (u0 (OT o ask cells))
theorem ab1:(List.range 22).all (fun q=>decide (GS (q:Int)=di (q:Int))&&((di (q:Int)).2&&((!(wx (q:Int))) == ((di (q:Int)).1 == 0))))=true:=by kernel_rfl
theorem YM {q:Int} (h:0≤q∧q < 22):GS q=di q∧(di q).2=true∧(!(wx q))=((di q).1 == 0):=by
 have:=List.all_eq_true.1 ab1 q.toNat (List.mem_range.2 (by omega))
 rw [show ((q.toNat:Nat):Int)=q by omega] at this
 simp only [Bool.and_eq_true,decide_eq_true_eq,beq_iff_eq] at this
 exact this
theorem Vg {q:Int} (h:¬ (0≤q∧q < 22)):(di q).2=false:=by
 have e:di q=bif (decide (q < 0))||(decide (q≥22)) then (0,false) else bif bP [6,7,10,12,13,14,15,16,20,21] q then (0,true) else (1,true):=rfl
 have:((decide (q < 0))||(decide (q≥22)))=true:=by simp only [LN]; omega
 rw [e,this]; rfl
theorem Jf (q:Int):rh q=decide (0≤q∧q < 22):=by
 show (decide (q≥0)&&decide (q < 22))=_
 rw [Bool.eq_iff_iff]; simp only [LN]
theorem Z3 (o:Order) (q:Int):ig o q=bE o.rules q:=by
 have h1:(ig o q = -1∧∀ i,i < o.rules.length→(o.rules.getD i default).ask≠q)∨(0≤ig o q∧ig o q < (o.rules.length:Int)∧(o.rules.getD (ig o q).toNat default).ask=q∧∀ i,(i:Nat) < (ig o q).toNat→(o.rules.getD i default).ask≠q):=OK o q
 have h2:(bE o.rules q = -1∧∀ i,i < o.rules.length→dj (o.rules.getD i default) q=false)∨(0≤bE o.rules q∧bE o.rules q < o.rules.length∧dj (o.rules.getD (bE o.rules q).toNat default) q=true∧∀ i,(i:Nat) < (bE o.rules q).toNat→dj (o.rules.getD i default) q=false):=wM o.rules q
 have hc:∀ x:jx,dj x q=(x.ask == q):=fun _=>rfl
 simp only [hc,beq_iff_eq,beq_eq_false_iff_ne,ne_eq] at h2
 generalize ig o q=a at h1 ⊢
 generalize bE o.rules q=b at h2 ⊢
 rcases h1 with h1 | h1 <;> rcases h2 with h2 | h2
 ·omega
 ·exact absurd h2.2.2.1 (h1.2 _ (by omega))
 ·exact absurd h1.2.2.1 (h2.2 _ (by omega))
 ·rcases Int.lt_trichotomy a b with h | h | h
  ·exact absurd h1.2.2.1 (h2.2.2.2 _ (by omega))
  ·exact h
  ·exact absurd h2.2.2.1 (h1.2.2.2 _ (by omega))
theorem find_eq (o:Order) (q:Int):j1 o q=bif !(di q).2 then (⟨0,0,[]⟩,1) else bif decide (bE o.rules q < 0) then (⟨0,0,[]⟩,4) else
  bif ((fE (o.rules.getD (bE o.rules q).toNat default).term).2 != 0)||((fE (o.rules.getD (bE o.rules q).toNat default).term).1 != (di q).1) then (⟨0,0,[]⟩,11)
  else ((o.rules.getD (bE o.rules q).toNat default).term,0):=by kernel_rfl
theorem Z4 (o:Order) (q:Int):AU o q=bif !(rh q) then 1 else bif decide (ig o q < 0) then 4 else
  bif ((iL (o.rules.getD (ig o q).toNat default).term).2 != 0)||((iL (o.rules.getD (ig o q).toNat default).term).1 != (GS q).1) then 11 else 0:=by kernel_rfl
theorem ab2 (t:Term) (w:Int):((iL t).2 != 0||(iL t).1 != w)=((fE t).2 != 0||(fE t).1 != w):=by
 have h:=Ii t w
 have e1:∀ p:Int × Int,(p.2 != 0||p.1 != w)=false↔p=(w,0):=fun p=>by
  obtain ⟨a,b⟩:=p
  simp only [LN,Prod.mk.injEq]
  exact And.comm
 have h1:=e1 (fE t)
 have h2:=e1 (iL t)
 rw [h] at h1
 rw [Bool.eq_iff_iff,← Bool.not_eq_false,← Bool.not_eq_false,h1,h2]
theorem Z5 (b:Bool) (k:Bool) (m:Int):(bif b then ((⟨k,20000⟩,0):al × Int) else (⟨k,m⟩,0))=(⟨k,bif b then 20000 else m⟩,0):=by cases b <;> rfl
theorem Vh (o:Order) (q:Int) (cs:List al):su o q cs=fF o q cs:=by
 have e1:su o q cs=bif AU o q != 0 then (⟨false,0⟩,AU o q) else
   (fun x:al=>bif x.known&&!(wx q) then (⟨x.known,bif decide ((bif decide (x.n < 0) then 0 else x.n) > 20000) then 20000 else bif decide (x.n < 0) then 0 else x.n⟩,0) else (x,0)) (CY (o.rules.getD (ig o q).toNat default).term cs):=by
  simp only [su,oY,Sk.cE,Sk.bK,Sk.cz,Sk.bg,bH.Lw,bH.xU,bH.Zw,fD.wG,kk,kp,AW,sn,Fc,rq]
  congr 1
  cases ((CY (o.rules.getD (ig o q).toNat default).term cs).known&&!(wx q)) with
  | false=>rfl
  | true =>
   simp only [cond_true,Qn]
   exact Z5 _ _ _
 have e2:fF o q cs=bif (j1 o q).2 != 0 then (⟨false,0⟩,(j1 o q).2) else
   (fun x:al=>bif ((di q).1 == 0)&&x.known then (⟨x.known,fB (dk x.n 0) 20000⟩,0) else (x,0)) (rR (j1 o q).1 cs):=by kernel_rfl
 rw [e1,e2,Z4,find_eq,Z3,Jf]
 by_cases hq:0≤q∧q < 22
 ·obtain ⟨t1,t2,t3⟩:=YM hq
  rw [t1,ab2,t2,decide_eq_true hq]
  simp only [Bool.not_true,cond_false]
  cases decide (bE o.rules q < 0) with
  | true=>rfl
  | false =>
   simp only [cond_false]
   generalize (o.rules.getD (bE o.rules q).toNat default).term=t
   cases hb:((fE t).2 != 0||(fE t).1 != (di q).1) with
   | true=>rfl
   | false =>
    simp only [cond_false]
    simp only [LN] at hb
    rw [t3,Z2 (k:=(fE t).1) (by rw [← hb.1])]
    generalize rR t cs=x
    show (bif x.known&&((di q).1 == 0) then _ else _)=(bif ((di q).1 == 0)&&x.known then _ else _)
    rw [Bool.and_comm]
    cases (((di q).1 == 0)&&x.known) with
    | false=>rfl
    | true =>
     have:(bif decide ((bif decide (x.n < 0) then 0 else x.n) > 20000) then 20000 else bif decide (x.n < 0) then 0 else x.n)=fB (dk x.n 0) 20000:=by
      simp only [Bool.cond_eq_ite,decide_eq_true_eq]
      unfold fB dk
      (repeat' split) <;> omega
     simp only [cond_true,this]
 ·rw [Vg hq,decide_eq_false hq]; rfl
def AZ (r:ah) (ai:Int) (aF:Int) (c_:cG):Sk (l7):=let aV:=({ known:=false,n:=0 }:al);
 .r 2 ((GM r ai c_).c) fun x1=>let cF:=(((x1.length:Nat):Int) == 0);
 .r 3 (.wh cF false ((iY aF).c)) fun x2 =>
 .br (cF||(!x2))
 (.fin ({ cell:=aV,order:=(-1),path:=[],err:=1 }:l7))
 (.r 5 ((Ql r ai aF x1).c) fun x3=>let kV:=((x3.1.length:Nat):Int); let az:=(aK (kV - 1)); let eG:=(x3.1.getD (az.toNat) default);
 .br ((x3.2 != 0)||(kV == 0))
 (.fin ({ cell:=aV,order:=(-1),path:=x3.1,err:=x3.2 }:l7))
 (.r 10 (.p (bM az x3.1.length)) fun _ =>
 .r 11 (.aj (.p (bM eG r.ak.length)) (.dep ((xH r c_).c) fun x4=>(GU (r.ak.getD (eG.toNat) default) aF x4).c)) fun p6 =>
 .fin ({ cell:=p6.2.1,order:=x3.1.getD (az.toNat) default,path:=x3.1,err:=p6.2.2 }:l7)))
def GV r ai aF c_:=(AZ r ai aF c_).val
theorem XC (r:ah) (ai:Int) (aF:Int) (c_:cG) (lL:c_.file.Small) (aZ:r.Small) (bV:r.cx) (nY:r.uq):(AZ r ai aF c_).bq (fun _=>True):=by
 refine Sk.aO _ ?_
 unfold AZ
 simp only [Sk.gx,Sk.aD,reduceCtorEq,ON,kk,kp,GU,iY,Ql,xH,GM,pD,forall_eq,maxLen]
 refine ⟨⟨lL,aZ⟩,fun _=>⟨⟨bV,aZ,nY⟩,fun hL h2=>?_⟩⟩
 rw [hL ⟨bV,aZ,nY⟩] at h2 ⊢
 have Vi:(bw r ai aF (dR r ai c_)).2=0→(bw r ai aF (dR r ai c_)).1.length≠0∧(∀ z,z∈(bw r ai aF (dR r ai c_)).1→0≤z∧z < r.ak.length)∧(bw r ai aF (dR r ai c_)).1.length≤r.ak.length+1:=xi r ai aF _
 have hn:=aZ.2.2.2.2.1
 generalize bw r ai aF (dR r ai c_)=L at Vi h2 ⊢
 simp only [LN] at h2
 have hp:=Vi h2.1
 have Ut:=Kx hp.1 hp.2.1 (aK (((L.1.length:Nat):Int) - 1)).toNat
 have hw:aK ((L.1.length:Int) - 1)=(L.1.length:Int) - 1:=aq (by omega) (by omega)
 refine ⟨by rw [hw]; omega,fun _=>⟨Ut,lL,aZ⟩⟩
def DC r ai aF c_:=kk tok mixed Tryz.func63 [av r.cells,iv ai,iv aF,av c_.cells] (fun x=>av x.cells) false (AZ r ai aF c_) (GV r ai aF c_) (u4 (XC r ai aF c_))
def xO (r:ah) (ai:Int) (aF:Int) (f:aw) (day:Int):Sk (l7) :=
 .r 2 (((DC r ai aF ({ file:={ f with facts:=[] },sign:=0,cL:=(-1),gy:=(-1),due:=(-1),day:=day }:cG)).EH 3 18 _ rfl ⟨_,rfl⟩).c) fun x1 =>
 .fin x1
def CZ r ai aF f day:=(xO r ai aF f day).val
theorem Vj (r:ah) (ai:Int) (aF:Int) (f:aw) (day:Int) (hf:f.Small) (aZ:r.Small) (bV:r.cx) (nY:r.uq):(xO r ai aF f day).bq (fun _=>True):=by
 refine Sk.aO _ ?_
 unfold xO
 simp only [Sk.gx,Sk.aD,reduceCtorEq,ON,kk,kp,DC,maxLen]
 exact ⟨⟨hf.1,hf.2.1,hf.2.2.1,by simp⟩,aZ,bV,nY⟩
def M8 r ai aF f day:=kk tok mixed Tryz.func59 [av r.cells,iv ai,iv aF,av f.cells,iv day] (fun x=>av x.cells) false (xO r ai aF f day) (CZ r ai aF f day) (u4 (Vj r ai aF f day))
def s6 (s:l7):Sk (Int) :=
 .br ((s.err == 0)&&s.cell.known)
 (.fin s.cell.n)
 (.fin (-1))
def wy s:=(s6 s).val
theorem OU (s:l7):(s6 s).bq (fun _=>True):=by
 unfold s6
 exact mP
def GW s:=kk tok mixed Tryz.func58 [av s.cells] (fun x=>iv x) true (s6 s) (wy s) (u0 (OU s))
def tL (f:aw):Sk (Int) :=
 .br (f.aM.aC.kind == 0)
 (.bt
 (.loop (default:Sum (Int) (Unit)) (fun i2=>i2≤f.aU.length) (fun i2=>f.aU.length - i2) (0:Nat)
 (fun (i2:Nat)=>⟨[(3,iv (i2:Int))],[]⟩) fun i2=>let kV:=(bM (i2:Int) f.aU.length);
 .lt 1 17 i2 f.aU.length
 (.r 5 (.p kV) fun _ =>
 .br (((f.aU.getD i2 default).kind) == 2)
 (.r 6 (.p kV) fun _ =>
 .fin (.inl (.inl ((f.aU.getD i2 default).day))))
 (.nx 4 3 i2 (i2+1)))
 (.fin (.inl (.inr ()))))
 (fun (_:Unit)=>⟨[],[]⟩) fun _ =>
 .fin (-1))
 (.bt
 (.loop (default:Sum (Int) (Bool × Int)) (fun i4=>i4.2.2≤f.af.length) (fun i4=>f.af.length - i4.2.2) ((false,0,0):Bool × Int × Nat)
 (fun (i4:Bool × Int × Nat)=>⟨[(4,bv i4.1),(5,iv i4.2.1),(6,iv (i4.2.2:Int))],[]⟩) fun i4=>let aV:=(f.af.getD i4.2.2 default); let az:=(bM (i4.2.2:Int) f.af.length);
 .lt 1 15 i4.2.2 f.af.length
 (.r 13 (.aj (.p az) (.wh ((aV.kind) == 1) true (.wh (!i4.1) false (.p az)))) fun _ =>
 .br (((aV.kind) == 1)&&((!i4.1)||(decide ((aV.day) < i4.2.1))))
 (.r 15 (.p az) fun _ =>
 .nx 12 6 i4.2.2 (true,aV.day,i4.2.2+1))
 (.nx 12 6 i4.2.2 (i4.1,i4.2.1,i4.2.2+1)))
 (.fin (.inl (.inr (i4.1,i4.2.1)))))
 (fun (b3:Bool × Int)=>⟨[(4,bv b3.1),(5,iv b3.2)],[]⟩) fun b3 =>
 .bt
 (.loop (default:Sum (Int) (Bool × Int)) (fun i6=>i6.2.2≤f.aU.length) (fun i6=>f.aU.length - i6.2.2) ((b3.1,b3.2,0):Bool × Int × Nat)
 (fun (i6:Bool × Int × Nat)=>⟨[(4,bv i6.1),(5,iv i6.2.1),(7,iv (i6.2.2:Int))],[]⟩) fun i6=>let eG:=(f.aU.getD i6.2.2 default); let cF:=(bM (i6.2.2:Int) f.aU.length);
 .lt 1 17 i6.2.2 f.aU.length
 (.r 19 (.aj (.p cF) (.wh ((eG.kind) == 1) true (.wh (!i6.1) false (.p cF)))) fun _ =>
 .br (((eG.kind) == 1)&&((!i6.1)||(decide ((eG.day) < i6.2.1))))
 (.r 21 (.p cF) fun _ =>
 .nx 18 7 i6.2.2 (true,eG.day,i6.2.2+1))
 (.nx 18 7 i6.2.2 (i6.1,i6.2.1,i6.2.2+1)))
 (.fin (.inl (.inr (i6.1,i6.2.1)))))
 (fun (b5:Bool × Int)=>⟨[(4,bv b5.1),(5,iv b5.2)],[]⟩) fun b5 =>
 .br ((f.aM.aC.kind != 1)||(!b5.1))
 (.fin (-1))
 (.fin b5.2))
def zE f:=(tL f).val
theorem Vk (f:aw):(tL f).bq (fun _=>True):=by
 unfold tL
 exact mH
def M9 f:=kk tok mixed Tryz.func61 [av f.cells] (fun x=>iv x) true (tL f) (zE f) (u0 (Vk f))
def ab3:List Int→Int
 | []=>0
 | x :: r=>r.foldl fB x
theorem afb:∀ (l:List Int),l≠[]→l.length≤1000000000→Ac l=ab3 l
 | [],h,_=>absurd rfl h
 | x :: r,_,hl=>by
  simp only [List.length_cons] at hl
  have hd:decide ((((x :: r).length:Nat):Int) < 1)=false:=decide_eq_false (by simp only [List.length_cons]; omega)
  simp only [Ac,oD,Sk.cz,Sk.bK,Sk.cE,Sk.cY,Sk.bg,Sk.abg]
  rw [hd,cond_false,cX]
  refine (bD r (fun (m:Int) i=>(m,((i:Nat):Int)+1)) (fun y m=>.inr (fB m y)) id _ (fun m i hi=>?_) (fun m=>?_) ?_ x).trans ?_
  ·simp only [List.length_cons]
   rw [decide_eq_true (by omega),cond_true,aq (by omega) (by omega)]
   have:(x :: r).getD (((i:Nat):Int)+1).toNat default=r.getD i default:=by
    rw [show (((i:Nat):Int)+1).toNat=i+1 by omega]; rfl
   rw [this]
   have:((i:Nat):Int)+1+1=((i+1:Nat):Int)+1:=by omega
   rw [this]
  ·simp only [List.length_cons]
   rw [decide_eq_false (by omega),cond_false]
   rfl
  ·simp only [List.length_cons]; omega
  ·rw [jm]; rfl
theorem Z6 (l:List Int) (h:l≠[]) (x:Int):ab3 (l++[x])=fB (ab3 l) x:=by
 cases l with
 | nil=>exact absurd rfl h
 | cons y r=>simp [ab3,List.foldl_append]
def Il (k:Int) (p:Int) (s:List Int) (x:Int × Int):List Int:=bif (k == 1)&&(x.1 == p) then s++[x.2] else s
def rm (p:Int) (s:Bool × Int) (x:Int × Int):Bool × Int:=bif (x.1 == p)&&((!s.1)||(decide (x.2 < s.2))) then (true,x.2) else s
def Vl (l:List Int) (s:Bool × Int):Prop:=(l=[]∧s.1=false)∨(l≠[]∧s.1=true∧ab3 l=s.2)
theorem XD {p:Int} {l:List Int} {s:Bool × Int} (h:Vl l s) (x:Int × Int):Vl (Il 1 p l x) (rm p s x):=by
 unfold Il rm
 rw [show ((1:Int) == 1)=true from rfl,Bool.true_and]
 cases hp:(x.1 == p) with
 | false=>exact h
 | true =>
  simp only [cond_true,Bool.true_and]
  rcases h with h | h
  ·rw [h.1,h.2]
   exact .inr ⟨by simp,rfl,rfl⟩
  ·have hm:=Z6 l h.1 x.2
   rw [h.2.1,Bool.not_true,Bool.false_or]
   refine .inr ⟨by simp,?_,?_⟩
   ·cases decide (x.2 < s.2) with
    | true=>rfl
    | false=>exact h.2.1
   ·rw [hm,h.2.2]
    unfold fB
    by_cases c:x.2 < s.2
    ·rw [decide_eq_true c]
     exact if_pos c
    ·rw [decide_eq_false c]
     exact if_neg c
theorem Fe {p:Int}:∀ (m:List (Int × Int)) {l:List Int} {s:Bool × Int},Vl l s→Vl (m.foldl (Il 1 p) l) (m.foldl (rm p) s)
 | [],_,_,h=>h
 | x :: r,_,_,h=>Fe r (XD h x)
theorem GX {k p:Int} (hk:k≠1):∀ (m:List (Int × Int)) (l:List Int),m.foldl (Il k p) l=l
 | [],_=>rfl
 | x :: r,l=>by
  rw [List.foldl_cons]
  have:Il k p l x=l:=by unfold Il; rw [beq_eq_false_iff_ne.2 hk]; rfl
  rw [this]
  exact GX hk r l
def sn2 (k:Int) (x:cT) (s:List Int):Int ⊕ List Int:=bif (k == 0)&&(x.kind == 2) then .inl x.day else .inr (Il k 1 s (x.kind,x.day))
def Si (l:List Int):Int:=bif ((l.length:Nat):Int) == 0 then -1 else Ac l
theorem Z7 (f:aw):tA f=walk (sn2 f.aM.aC.kind) Si f.aU ((f.af.map fun s=>(s.kind,s.day)).foldl (Il f.aM.aC.kind 1) []):=by
 simp only [tA,mV,Sk.cz,Sk.cY,Sk.bK,Sk.cE,Sk.bg,fD.wG,kk,kp,Ad]
 refine (bD f.af (fun (s:List Int) i=>(s,i)) (fun x s=>.inr (Il f.aM.aC.kind 1 s (x.kind,x.day))) id _ (fun s i hi=>?_) (fun s=>?_) (by simp) []).trans ?_
 ·simp only [Sk.ct,Sk.bK,Sk.cE,Sk.cV,Sk.bg]
  rw [decide_eq_true (by omega),cond_true]
  unfold Il
  cases ((f.aM.aC.kind == 1)&&((f.af.getD i default).kind == 1)) <;> rfl
 ·simp only [Sk.ct,Sk.bK,Sk.cE,Sk.cV,Sk.bg]
  rw [decide_eq_false (by omega),cond_false]
  rfl
 ·rw [jm]
  simp only [id]
  have e:(f.af.map fun s=>(s.kind,s.day)).foldl (Il f.aM.aC.kind 1) []=f.af.foldl (fun s x=>Il f.aM.aC.kind 1 s (x.kind,x.day)) []:=List.foldl_map
  rw [e]
  generalize f.af.foldl (fun s x=>Il f.aM.aC.kind 1 s (x.kind,x.day)) []=l0
  refine (bD f.aU (fun (s:List Int) i=>(s,i)) (sn2 f.aM.aC.kind) id _ (fun s i hi=>?_) (fun s=>?_) (by simp) l0).trans ?_
  ·simp only [Sk.ct,Sk.bK,Sk.cE,Sk.cV,Sk.bg]
   rw [decide_eq_true (by omega),cond_true]
   unfold sn2 Il
   cases ((f.aM.aC.kind == 0)&&((f.aU.getD i default).kind == 2)) with
   | true=>rfl
   | false=>cases ((f.aM.aC.kind == 1)&&((f.aU.getD i default).kind == 1)) <;> rfl
  ·simp only [Sk.ct,Sk.bK,Sk.cE,Sk.cV,Sk.bg]
   rw [decide_eq_false (by omega),cond_false]
   rfl
  ·rfl
def Vm (x:cT) (_:Unit):Int ⊕ Unit:=bif x.kind == 2 then .inl x.day else .inr ()
def ab4 (k:Int) (s:Bool × Int):Int:=bif (k != 1)||(!s.1) then -1 else s.2
theorem Sj (f:aw):zE f=bif f.aM.aC.kind == 0 then walk Vm (fun _=>-1) f.aU () else
  ab4 f.aM.aC.kind ((f.aU.map fun a=>(a.kind,a.day)).foldl (rm 1) ((f.af.map fun s=>(s.kind,s.day)).foldl (rm 1) (false,0))):=by
 simp only [zE,tL,Sk.cz,Sk.cY,Sk.bK,Sk.cE,Sk.bg]
 congr 1
 ·refine (bD f.aU (fun (s:Unit) i=>i) Vm id _ (fun s i hi=>?_) (fun s=>?_) (by simp) ()).trans rfl
  ·simp only [Sk.ct,Sk.bK,Sk.cE,Sk.cV,Sk.bg]
   rw [decide_eq_true (by omega),cond_true]
   unfold Vm
   cases ((f.aU.getD i default).kind == 2) <;> rfl
  ·simp only [Sk.ct,Sk.bK,Sk.cE,Sk.cV,Sk.bg]
   rw [decide_eq_false (by omega),cond_false]
 ·refine (bD f.af (fun (s:Bool × Int) i=>(s.1,s.2,i)) (fun x s=>.inr (rm 1 s (x.kind,x.day))) id _ (fun s i hi=>?_) (fun s=>?_) (by simp) (false,0)).trans ?_
  ·simp only [Sk.ct,Sk.bK,Sk.cE,Sk.cV,Sk.bg]
   rw [decide_eq_true (by omega),cond_true]
   unfold rm
   cases (((f.af.getD i default).kind == 1)&&((!s.1)||(decide ((f.af.getD i default).day < s.2)))) <;> rfl
  ·simp only [Sk.ct,Sk.bK,Sk.cE,Sk.cV,Sk.bg]
   rw [decide_eq_false (by omega),cond_false]
   rfl
  ·rw [jm]
   simp only [id]
   have e:(f.af.map fun s=>(s.kind,s.day)).foldl (rm 1) (false,0)=f.af.foldl (fun s x=>rm 1 s (x.kind,x.day)) (false,0):=List.foldl_map
   rw [e]
   generalize f.af.foldl (fun s x=>rm 1 s (x.kind,x.day)) (false,0)=s0
   refine (bD f.aU (fun (s:Bool × Int) i=>(s.1,s.2,i)) (fun x s=>.inr (rm 1 s (x.kind,x.day))) id _ (fun s i hi=>?_) (fun s=>?_) (by simp) s0).trans ?_
   ·simp only [Sk.ct,Sk.bK,Sk.cE,Sk.cV,Sk.bg]
    rw [decide_eq_true (by omega),cond_true]
    unfold rm
    cases (((f.aU.getD i default).kind == 1)&&((!s.1)||(decide ((f.aU.getD i default).day < s.2)))) <;> rfl
   ·simp only [Sk.ct,Sk.bK,Sk.cE,Sk.cV,Sk.bg]
    rw [decide_eq_false (by omega),cond_false]
    rfl
   ·rw [jm]
    have e2:(f.aU.map fun a=>(a.kind,a.day)).foldl (rm 1) s0=f.aU.foldl (fun s x=>rm 1 s (x.kind,x.day)) s0:=List.foldl_map
    rw [e2]
    rfl
theorem Vn {k:Int} (hk:k≠0) (fin:List Int→Int):∀ (l:List cT) (s:List Int),walk (sn2 k) fin l s=fin ((l.map fun a=>(a.kind,a.day)).foldl (Il k 1) s)
 | [],_=>rfl
 | x :: r,s=>by
  have e:sn2 k x s=.inr (Il k 1 s (x.kind,x.day)):=by unfold sn2; rw [beq_eq_false_iff_ne.2 hk]; rfl
  simp only [walk,e,List.map_cons,List.foldl_cons]
  exact Vn hk fin r _
theorem Vo:∀ (l:List cT),walk (sn2 0) Si l []=walk Vm (fun _=>-1) l ()
 | []=>rfl
 | x :: r=>by
  unfold walk sn2 Vm
  cases (x.kind == 2) with
  | true=>rfl
  | false=>exact Vo r
theorem Na {k p:Int}:∀ (m:List (Int × Int)) (l:List Int),(m.foldl (Il k p) l).length≤l.length+m.length
 | [],l=>by simp
 | x :: r,l=>by
  rw [List.foldl_cons]
  have:=Na (k:=k) (p:=p) r (Il k p l x)
  have h2:(Il k p l x).length≤l.length+1:=by
   unfold Il
   cases ((k == 1)&&(x.1 == p)) <;> simp
  simp only [List.length_cons]
  omega
theorem Z8 (f:aw) (hf:f.Small):zE f=tA f:=by
 rw [Sj,Z7]
 by_cases h0:f.aM.aC.kind=0
 ·rw [h0,GX (by decide)]
  exact (Vo f.aU).symm
 ·rw [beq_eq_false_iff_ne.2 h0,cond_false,Vn h0]
  unfold ab4 Si
  by_cases h1:f.aM.aC.kind=1
  ·rw [h1]
   have hM:Vl ((f.aU.map fun a=>(a.kind,a.day)).foldl (Il 1 1) ((f.af.map fun s=>(s.kind,s.day)).foldl (Il 1 1) [])) ((f.aU.map fun a=>(a.kind,a.day)).foldl (rm 1) ((f.af.map fun s=>(s.kind,s.day)).foldl (rm 1) (false,0))):=Fe _ (Fe _ (.inl ⟨rfl,rfl⟩))
   have hl:((f.aU.map fun a=>(a.kind,a.day)).foldl (Il 1 1) ((f.af.map fun s=>(s.kind,s.day)).foldl (Il 1 1) [])).length≤1000000000:=by
    have a:=Na (k:=1) (p:=1) (f.aU.map fun a=>(a.kind,a.day)) ((f.af.map fun s=>(s.kind,s.day)).foldl (Il 1 1) [])
    have b:=Na (k:=1) (p:=1) (f.af.map fun s=>(s.kind,s.day)) []
    simp only [List.length_map,List.length_nil] at a b
    have:=hf.1
    have:=hf.2.2.1
    omega
   generalize (f.aU.map fun a=>(a.kind,a.day)).foldl (Il 1 1) ((f.af.map fun s=>(s.kind,s.day)).foldl (Il 1 1) [])=L at hM hl ⊢
   generalize (f.aU.map fun a=>(a.kind,a.day)).foldl (rm 1) ((f.af.map fun s=>(s.kind,s.day)).foldl (rm 1) (false,0))=S at hM ⊢
   rcases hM with h | h
   ·rw [h.1,h.2]; rfl
   ·rw [h.2.1,afb L h.1 hl,h.2.2]
    have:(((L.length:Nat):Int) == 0)=false:=by
     rw [beq_eq_false_iff_ne]
     intro e
     exact h.1 (List.length_eq_zero_iff.1 (by omega))
    rw [this]; rfl
  ·rw [GX h1,GX h1]
   have:(f.aM.aC.kind != 1)=true:=bne_iff_ne.2 h1
   rw [this]; rfl
def xP (r:ah) (n:Int):Sk (Bool) :=
 .fin ((decide (n≥0))&&(decide (n < ((r.aB.length:Nat):Int))))
def C0 r n:=(xP r n).val
theorem Vp (r:ah) (n:Int):C0 r n=((decide (n≥0))&&(decide (n < ((r.aB.length:Nat):Int)))):=rfl
theorem Vq (r:ah) (n:Int):(xP r n).bq (fun _=>True):=by
 unfold xP
 exact mP
def Ff r n:=kk tok mixed Tryz.func103 [av r.cells,iv n] (fun x=>bv x) true (xP r n) (C0 r n) (u0 (Vq r n))
def s7 (t:ov):Sk (Bool) :=
 .fin ((t.kind == 0)||(t.kind == 1))
def A0 t:=(s7 t).val
theorem OV (t:ov):A0 t=((t.kind == 0)||(t.kind == 1)):=rfl
theorem OW (t:ov):(s7 t).bq (fun _=>True):=by
 unfold s7
 exact mP
def GY t:=kk tok mixed Tryz.func104 [av t.cells] (fun x=>bv x) true (s7 t) (A0 t) (u0 (OW t))
theorem YN (b q u r:Int) (hb:0≤b∧b≤3) (hq:0≤q∧q≤24) (hu:0≤u∧u≤3) (hr:0≤r∧r≤365) (hl:r=365→u=3∧(q≠24∨b=3)) (rest:Int) (yG:rest=36524 * b+1461 * q+365 * u+r) :
  (rest - rest / 1460+rest / 36524 - rest / 146096) / 365=100 * b+4 * q+u:=by
 have hc:rest / 146096=if (b=3∧q=24∧u=3∧r=365) then 1 else 0:=by
  split <;> omega
 have hd:rest / 36524=b+rest / 146096:=by
  rw [hc]
  split <;> omega
 obtain ⟨e,he,he2⟩:∃ e:Int,rest / 1460=25 * b+q+e∧(e=0∧24 * b+q+365 * u+r < 1460∨e=1∧1460≤24 * b+q+365 * u+r):=by
  refine ⟨rest / 1460 - 25 * b - q,by omega,?_⟩
  omega
 rw [hd,he,hc]
 split <;> omega
theorem agW (y r:Int) (hy:0≤y∧y≤399) (hr:0≤r∧r≤365) (hl:r=365→y % 4=3∧(y % 100≠99∨y=399)) (rest:Int) (yG:rest=365 * y+y / 4 - y / 100+r) :
  (rest - rest / 1460+rest / 36524 - rest / 146096) / 365=y∧0≤rest∧rest < 146097:=by
 have e:y=100 * (y / 100)+4 * (y % 100 / 4)+y % 4:=by omega
 have e4:y / 4=25 * (y / 100)+y % 100 / 4:=by omega
 have h:=YN (y / 100) (y % 100 / 4) (y % 4) r (by omega) (by omega) (by omega) hr (fun h=>by have:=hl h; omega) rest (by omega)
 refine ⟨by omega,by omega,?_⟩
 by_cases h3:r=365
 ·have:=hl h3; omega
 ·omega
def oZ (day:Int):Int × Int × Int :=
 let n:=day+730425
 let rest:=n % 146097
 let y:=(rest - rest / 1460+rest / 36524 - rest / 146096) / 365
 let r:=rest - (365 * y+y / 4 - y / 100)
 let m:=(5 * r+2) / 153
 let month:=if m+3 > 12 then m+3 - 12 else m+3
 (if month < 3 then y+400 * (n / 146097)+1 else y+400 * (n / 146097),month,r - (153 * m+2) / 5+1)
def eQ (y m d:Int):Int:=if m < 3 then 365 * (y - 1)+(y - 1) / 4 - (y - 1) / 100+(y - 1) / 400+(153 * (m+12 - 3)+2) / 5+d - 1 - 730425 else 365 * y+y / 4 - y / 100+y / 400+(153 * (m - 3)+2) / 5+d - 1 - 730425
def nj (y m:Int):Int:=if m=2 then (if y % 4=0∧(y % 100≠0∨y % 400=0) then 29 else 28) else if m=4∨m=6∨m=9∨m=11 then 30 else 31
def Er (y:Int):Int:=if y % 4=0∧(y % 100≠0∨y % 400=0) then 366 else 365
theorem vm (y:Int):eQ (y+1) 1 1=eQ y 1 1+Er y:=by
 unfold eQ Er
 simp only [show (1:Int) < 3 by decide,if_true]
 split <;> omega
theorem wz (y m:Int) (h:1≤m∧m≤11):eQ y (m+1) 1=eQ y m 1+nj y m:=by
 have:m=1∨m=2∨m=3∨m=4∨m=5∨m=6∨m=7∨m=8∨m=9∨m=10∨m=11:=by omega
 rcases this with rfl | rfl | rfl | rfl | rfl | rfl | rfl | rfl | rfl | rfl | rfl
 ·simp [eQ,nj]; omega
 ·simp only [eQ,nj]
  simp
  split <;> omega
 all_goals simp [eQ,nj]; try omega
theorem Vr (y:Int):eQ (y+1) 1 1=eQ y 12 1+31:=by
 simp [eQ]
 omega
theorem afc (m d:Int) (hm:0≤m∧m≤11) (hd:1≤d∧d≤31) (h30:m=1∨m=3∨m=6∨m=8→d≤30) (h29:m=11→d≤29) :
  (5 * ((153 * m+2) / 5+d - 1)+2) / 153=m∧0≤(153 * m+2) / 5+d - 1∧(m≤10→(153 * m+2) / 5+d - 1≤336)∧(m=11→(153 * m+2) / 5=337):=by
 have:m=0∨m=1∨m=2∨m=3∨m=4∨m=5∨m=6∨m=7∨m=8∨m=9∨m=10∨m=11:=by omega
 rcases this with rfl | rfl | rfl | rfl | rfl | rfl | rfl | rfl | rfl | rfl | rfl | rfl <;> omega
theorem ab5 (y m d:Int) (hy:1≤y) (hm:1≤m∧m≤12) (hd:1≤d∧d≤nj y m):oZ (eQ y m d)=(y,m,d):=by
 have h31:d≤31∧(m=4∨m=6∨m=9∨m=11→d≤30)∧(m=2→d≤29∧(d=29→y % 4=0∧(y % 100≠0∨y % 400=0))):=by
  unfold nj at hd
  split at hd
  ·split at hd <;> omega
  ·split at hd <;> omega
 -- Pv year YV aiR with ajd
 obtain ⟨Y,k,hk,hYk⟩:∃ Y k:Int,(0≤k∧k≤11)∧(m < 3∧Y=y - 1∧k=m+9∨3≤m∧Y=y∧k=m - 3):=by
  by_cases h3:m < 3
  ·exact ⟨y - 1,m+9,by omega,.inl ⟨h3,rfl,rfl⟩⟩
  ·exact ⟨y,m - 3,by omega,.inr ⟨by omega,rfl,rfl⟩⟩
 have hn:eQ y m d+730425=365 * Y+Y / 4 - Y / 100+Y / 400+((153 * k+2) / 5+d - 1):=by
  unfold eQ
  rcases hYk with ⟨h,rfl,rfl⟩ | ⟨h,rfl,rfl⟩
  ·rw [if_pos h,show m+12 - 3=m+9 by omega]; omega
  ·rw [if_neg (by omega)]; omega
 obtain ⟨m1,m2,m3,m4⟩:=afc k d hk ⟨hd.1,h31.1⟩ (fun h=>h31.2.1 (by omega)) (fun h=>(h31.2.2 (by omega)).1)
 generalize hr:(153 * k+2) / 5+d - 1=r at *
 have hr5:r≤365:=by omega
 have aiS:r=365→k=11∧d=29:=by omega
 have hyr:=agW (Y % 400) r (by omega) ⟨m2,hr5⟩ (fun h=>by
  have h2:=aiS h
  have h4:=h31.2.2 (by omega)
  have h5:=h4.2 h2.2
  omega) (365 * (Y % 400)+Y % 400 / 4 - Y % 400 / 100+r) rfl
 have ajB:eQ y m d+730425=146097 * (Y / 400)+(365 * (Y % 400)+Y % 400 / 4 - Y % 400 / 100+r):=by
  rw [hn]
  have a1:Y / 4=100 * (Y / 400)+Y % 400 / 4:=by omega
  have a2:Y / 100=4 * (Y / 400)+Y % 400 / 100:=by omega
  clear hyr
  omega
 have hdiv:(eQ y m d+730425) / 146097=Y / 400:=by omega
 have Tk:(eQ y m d+730425) % 146097=365 * (Y % 400)+Y % 400 / 4 - Y % 400 / 100+r:=by omega
 unfold oZ
 simp only [hdiv,Tk,hyr.1]
 have er:365 * (Y % 400)+Y % 400 / 4 - Y % 400 / 100+r - (365 * (Y % 400)+Y % 400 / 4 - Y % 400 / 100)=r:=by omega
 rw [er,m1]
 rcases hYk with ⟨h,rfl,rfl⟩ | ⟨h,rfl,rfl⟩
 ·rw [if_pos (by omega),if_pos (by omega)]
  refine Prod.ext (by simp; omega) (Prod.ext (by simp; omega) (by simp; omega))
 ·rw [if_neg (by omega),if_neg (by omega)]
  refine Prod.ext (by simp; omega) (Prod.ext (by simp) (by simp; omega))
theorem YO {r y:Int} (h:0≤r∧r < 146097) (hy:y=(r - r / 1460+r / 36524 - r / 146096) / 365):0≤r - (365 * y+y / 4 - y / 100)∧r - (365 * y+y / 4 - y / 100)≤365:=by
 obtain ⟨b,hb,h1⟩:∃ b:Int,(0≤b∧b≤3)∧(0≤r - 36524 * b∧(r - 36524 * b < 36524∨(r - 36524 * b=36524∧b=3))):=by
  by_cases e:r=146096
  ·exact ⟨3,by omega,by omega⟩
  ·exact ⟨r / 36524,by omega,by omega⟩
 generalize hr1:r - 36524 * b=r1 at h1
 obtain ⟨q,hq,h2⟩:∃ q:Int,(0≤q∧q≤24)∧(0≤r1 - 1461 * q∧r1 - 1461 * q≤1460):=⟨r1 / 1461,by omega,by omega⟩
 generalize hr2:r1 - 1461 * q=r2 at h2
 obtain ⟨u,hu,h3⟩:∃ u:Int,(0≤u∧u≤3)∧(0≤r2 - 365 * u∧(r2 - 365 * u≤364∨(r2=1460∧u=3))):=by
  by_cases e:r2=1460
  ·exact ⟨3,by omega,by omega⟩
  ·exact ⟨r2 / 365,by omega,by omega⟩
 have hc:=YN b q u (r2 - 365 * u) hb hq hu (by omega) (by omega) r (by omega)
 rw [hc] at hy
 clear hc
 have e4:y / 4=25 * b+q:=by omega
 have ajC:y / 100=b:=by omega
 omega
theorem Vs {day:Int} (h:0≤day∧day≤200000):bG day=oZ day:=by
 have e1:aK (day+730425)=day+730425:=aq (by omega) (by omega)
 simp only [bG,jD,Sk.cz,Sk.bK,Sk.cE,Sk.bg,e1]
 unfold oZ
 dsimp only
 generalize hn:day+730425=n
 have hn2:730425≤n∧n≤930425:=by omega
 rw [Int.tmod_eq_emod_of_nonneg (by omega),Int.tdiv_eq_ediv_of_nonneg (show 0≤n by omega)]
 generalize hr:n % 146097=r
 have hr2:0≤r∧r < 146097:=by omega
 have hq:0≤n / 146097∧n / 146097≤10:=by omega
 generalize n / 146097=q at hq ⊢
 have y1:aK ((aK (aK (aK (r - aK (r.tdiv 1460))+aK (r.tdiv 36524)) - aK (r.tdiv 146096))).tdiv 365)=(r - r / 1460+r / 36524 - r / 146096) / 365:=by
  simp (disch:=omega) only [aq,Int.tdiv_eq_ediv_of_nonneg]
 have y0:0≤(r - r / 1460+r / 36524 - r / 146096) / 365∧(r - r / 1460+r / 36524 - r / 146096) / 365≤400:=by omega
 have yr:=YO hr2 rfl
 rw [y1]
 generalize (r - r / 1460+r / 36524 - r / 146096) / 365=y at y0 yr ⊢
 have r1:aK (r - aK (aK (aK (365 * y)+aK (y.tdiv 4)) - aK (y.tdiv 100)))=r - (365 * y+y / 4 - y / 100):=by
  simp (disch:=omega) only [aq,Int.tdiv_eq_ediv_of_nonneg]
 rw [r1]
 generalize r - (365 * y+y / 4 - y / 100)=R at yr ⊢
 have m1:aK ((aK (aK (5 * R)+2)).tdiv 153)=(5 * R+2) / 153:=by
  simp (disch:=omega) only [aq,Int.tdiv_eq_ediv_of_nonneg]
 have m0:0≤(5 * R+2) / 153∧(5 * R+2) / 153≤12:=by omega
 rw [m1]
 generalize (5 * R+2) / 153=m at m0 ⊢
 have d1:aK (aK (R - aK ((aK (aK (153 * m)+2)).tdiv 5))+1)=R - (153 * m+2) / 5+1:=by
  simp (disch:=omega) only [aq,Int.tdiv_eq_ediv_of_nonneg]
 have q1:aK (y+aK (400 * aK q))=y+400 * q:=by simp (disch:=omega) only [aq]
 have q2:aK (y+400 * q+1)=y+400 * q+1:=aq (by omega) (by omega)
 have m2:aK (m+3)=m+3:=aq (by omega) (by omega)
 have m3:aK (m+3 - 12)=m+3 - 12:=aq (by omega) (by omega)
 rw [d1,q1,q2,m2,m3]
 by_cases hm:m+3 > 12
 ·rw [decide_eq_true hm,cond_true,cX,if_pos hm]
  by_cases hb:m+3 - 12 < 3
  ·rw [decide_eq_true hb,cond_true,if_pos hb]
  ·rw [decide_eq_false hb,cond_false,if_neg hb]
 ·rw [decide_eq_false hm,cond_false,cX,if_neg hm]
  by_cases hb:m+3 < 3
  ·rw [decide_eq_true hb,cond_true,if_pos hb]
  ·rw [decide_eq_false hb,cond_false,if_neg hb]
def ad6 (c:eB) (d:Int):Bool:=!(decide ((d+5) % 7∈c.rest))&&!(decide (100 * (oZ d).2.1+(oZ d).2.2∈c.cW))&&!(decide (d∈c.shut))
theorem A1 (l:List Int) (v:Int):bP l v=decide (v∈l):=by
 have hp:bP l v=true↔∃ q,q < l.length∧(l.getD q default == v)=true:=mS l v
 rw [Bool.eq_iff_iff,hp,decide_eq_true_eq]
 constructor
 ·rintro ⟨q,hq,h⟩
  rw [beq_iff_eq] at h
  rw [← h]
  exact fX hq _
 ·intro h
  obtain ⟨q,hq,e⟩:=List.getElem_of_mem h
  exact ⟨q,hq,by simp [List.getD,hq,e]⟩
theorem GZ {d:Int} (h:0≤d∧d≤200000):1≤(oZ d).2.1∧(oZ d).2.1≤12∧0≤(oZ d).2.2∧(oZ d).2.2≤400:=by
 unfold oZ
 dsimp only
 have h1:0≤(d+730425) % 146097∧(d+730425) % 146097 < 146097:=by omega
 generalize (d+730425) % 146097=r at h1 ⊢
 have yr:=YO h1 rfl
 generalize r - (365 * ((r - r / 1460+r / 36524 - r / 146096) / 365)+(r - r / 1460+r / 36524 - r / 146096) / 365 / 4 - (r - r / 1460+r / 36524 - r / 146096) / 365 / 100)=R at yr ⊢
 have m0:0≤(5 * R+2) / 153∧(5 * R+2) / 153≤11:=by omega
 generalize hm:(5 * R+2) / 153=m at m0 ⊢
 refine ⟨by split <;> omega,by split <;> omega,by omega,by omega⟩
theorem Vt (c:eB) {d:Int} (h:0≤d∧d≤200000):bS c d=ad6 c d:=by
 have e:bS c d=((!(bP c.rest ((aK (d+5)).tmod 7))&&!(bP c.cW (aK ((aK ((100:Int) * (bG d).2.1))+(bG d).2.2))))&&!(bP c.shut d)):=rfl
 have hr:=GZ h
 rw [e,Vs h,A1,A1,A1,aq (by omega) (by omega),Int.tmod_eq_emod_of_nonneg (by omega),aq (n:=100 * (oZ d).2.1) (by omega) (by omega),aq (by omega) (by omega)]
 rfl
theorem Im {y m d:Int} (hy:1≤y∧y≤9999) (hm:1≤m∧m≤13) (hd:0≤d∧d≤400):gZ y m d=eQ y m d:=by
 simp only [gZ,iV,Sk.bK,Sk.cE,Sk.bg]
 unfold eQ
 by_cases h3:m < 3
 ·rw [decide_eq_true h3,cond_true,if_pos h3]
  simp (disch:=omega) only [aq,Int.tdiv_eq_ediv_of_nonneg]
 ·rw [decide_eq_false h3,cond_false,if_neg h3]
  simp (disch:=omega) only [aq,Int.tdiv_eq_ediv_of_nonneg]
theorem length_eq {y m:Int} (hy:1≤y∧y≤9998) (hm:1≤m∧m≤12):g0 y m=nj y m:=by
 have e:g0 y m=bif m == 12 then 31 else aK (gZ y (aK (m+1)) 1 - gZ y m 1):=rfl
 rw [e]
 by_cases h:m=12
 ·subst h; rfl
 ·rw [beq_eq_false_iff_ne.2 h,cond_false,aq (n:=m+1) (by omega) (by omega),Im (by omega) (by omega) (by omega),Im (by omega) (by omega) (by omega),wz y m (by omega)]
  have:28≤nj y m∧nj y m≤31:=by unfold nj; (repeat' split) <;> omega
  rw [show eQ y m 1+nj y m - eQ y m 1=nj y m by omega,aq (by omega) (by omega)]
def Nb (y m d:Int):Int × Int:=if (2000≤y∧y≤2300)∧(1≤m∧m≤12)∧(1≤d∧d≤nj y m)∧(0≤eQ y m d∧eQ y m d≤100000) then (eQ y m d,0) else (0,3)
theorem ab6 (y m d:Int):qJ y m d=Nb y m d:=by
 have e:qJ y m d=bif ((((((decide (y < 2000))||(decide (y > 2300)))||(decide (m < 1)))||(decide (m > 12)))||(decide (d < 1)))||(decide (d > g0 y m))) then (0,3) else bif !(bF (gZ y m d)) then (0,3) else (gZ y m d,0):=rfl
 rw [e]
 unfold Nb
 by_cases h:(2000≤y∧y≤2300)∧(1≤m∧m≤12)∧(1≤d∧d≤nj y m)
 ·have hp:nj y m≤31:=by unfold nj; (repeat' split) <;> omega
  rw [length_eq (by omega) (by omega),Im (by omega) (by omega) (by omega)]
  have hc:((((((decide (y < 2000))||(decide (y > 2300)))||(decide (m < 1)))||(decide (m > 12)))||(decide (d < 1)))||(decide (d > nj y m)))=false:=by
   simp only [LN]; omega
  rw [hc,cond_false]
  have hv:bF (eQ y m d)=(decide (0≤eQ y m d)&&decide (eQ y m d≤100000)):=rfl
  rw [hv]
  by_cases h2:0≤eQ y m d∧eQ y m d≤100000
  ·rw [decide_eq_true h2.1,decide_eq_true h2.2,if_pos ⟨h.1,h.2.1,h.2.2,h2⟩]; rfl
  ·rw [if_neg (fun q=>h2 q.2.2.2)]
   have:(decide (0≤eQ y m d)&&decide (eQ y m d≤100000))=false:=by simp only [LN]; omega
   rw [this]; rfl
 ·rw [if_neg (fun q=>h ⟨q.1,q.2.1,q.2.2.1⟩)]
  have hc:((((((decide (y < 2000))||(decide (y > 2300)))||(decide (m < 1)))||(decide (m > 12)))||(decide (d < 1)))||(decide (d > g0 y m)))=true:=by
   by_cases h1:(2000≤y∧y≤2300)∧(1≤m∧m≤12)
   ·rw [length_eq (by omega) (by omega)]; simp only [LN]; omega
   ·simp only [LN]; omega
  rw [hc]; rfl
theorem Qo {d:Int} (h:0≤d∧d≤200000):1600≤(oZ d).1∧(oZ d).1≤3000:=by
 unfold oZ
 dsimp only
 have h1:0≤(d+730425) % 146097∧(d+730425) % 146097 < 146097:=by omega
 have h2:4≤(d+730425) / 146097∧(d+730425) / 146097≤6:=by omega
 generalize (d+730425) / 146097=q at h2 ⊢
 generalize (d+730425) % 146097=r at h1 ⊢
 have y0:0≤(r - r / 1460+r / 36524 - r / 146096) / 365∧(r - r / 1460+r / 36524 - r / 146096) / 365≤400:=by omega
 generalize (r - r / 1460+r / 36524 - r / 146096) / 365=y at y0 ⊢
 split <;> omega
def G0 (day n:Int):Int × Int:=Nb ((12 * (oZ day).1+(oZ day).2.1 - 1+n) / 12) ((12 * (oZ day).1+(oZ day).2.1 - 1+n) % 12+1) (min (oZ day).2.2 (nj ((12 * (oZ day).1+(oZ day).2.1 - 1+n) / 12) ((12 * (oZ day).1+(oZ day).2.1 - 1+n) % 12+1)))
theorem A2 {day n:Int} (hn:0≤n∧n≤5000):cC day n=if 0≤day∧day≤100000 then G0 day n else (0,3):=by
 have e:cC day n=bif ((!(bF day))||(decide (n < (-5000))))||(decide (n > 5000)) then (0,3) else
   ((qJ (aK ((aK ((aK ((aK ((aK ((12:Int) * (bG day).1))+(bG day).2.1)) - 1))+n)).tdiv 12)) (aK (((aK ((aK ((aK ((aK ((12:Int) * (bG day).1))+(bG day).2.1)) - 1))+n)).tmod 12)+1)) (fB (bG day).2.2 (g0 (aK ((aK ((aK ((aK ((aK ((12:Int) * (bG day).1))+(bG day).2.1)) - 1))+n)).tdiv 12)) (aK (((aK ((aK ((aK ((aK ((12:Int) * (bG day).1))+(bG day).2.1)) - 1))+n)).tmod 12)+1))))).1,
    (qJ (aK ((aK ((aK ((aK ((aK ((12:Int) * (bG day).1))+(bG day).2.1)) - 1))+n)).tdiv 12)) (aK (((aK ((aK ((aK ((aK ((12:Int) * (bG day).1))+(bG day).2.1)) - 1))+n)).tmod 12)+1)) (fB (bG day).2.2 (g0 (aK ((aK ((aK ((aK ((aK ((12:Int) * (bG day).1))+(bG day).2.1)) - 1))+n)).tdiv 12)) (aK (((aK ((aK ((aK ((aK ((12:Int) * (bG day).1))+(bG day).2.1)) - 1))+n)).tmod 12)+1))))).2):=rfl
 have hv:bF day=(decide (0≤day)&&decide (day≤100000)):=rfl
 rw [e,hv]
 by_cases h:0≤day∧day≤100000
 ·have hc:(((!(decide (0≤day)&&decide (day≤100000)))||(decide (n < (-5000))))||(decide (n > 5000)))=false:=by simp only [LN]; omega
  rw [hc,cond_false,if_pos h,Vs (by omega)]
  have h1:=GZ (d:=day) (by omega)
  have h2:=Qo (d:=day) (by omega)
  unfold G0
  generalize oZ day=p at h1 h2 ⊢
  have ew:aK (aK (aK (aK (12 * p.1)+p.2.1) - 1)+n)=12 * p.1+p.2.1 - 1+n:=by simp (disch:=omega) only [aq]
  rw [ew]
  generalize hM:12 * p.1+p.2.1 - 1+n=M
  have hM2:19200≤M∧M≤50000:=by omega
  rw [Int.tdiv_eq_ediv_of_nonneg (by omega),Int.tmod_eq_emod_of_nonneg (by omega),aq (n:=M / 12) (by omega) (by omega),aq (n:=M % 12+1) (by omega) (by omega),length_eq (by omega) (by omega),ab6]
  have:fB p.2.2 (nj (M / 12) (M % 12+1))=min p.2.2 (nj (M / 12) (M % 12+1)):=by unfold fB; split <;> omega
  rw [this]
 ·have hc:(((!(decide (0≤day)&&decide (day≤100000)))||(decide (n < (-5000))))||(decide (n > 5000)))=true:=by simp only [LN]; omega
  rw [hc,cond_true,if_neg h]
theorem Kz {y:Int} (h:2000≤y):365 * (y - 2000)≤eQ y 1 1:=by
 unfold eQ; rw [if_pos (by decide)]; omega
theorem ab7 (y m d:Int):eQ y m (d+1)=eQ y m 1+d:=by
 unfold eQ; split <;> omega
theorem wA (y m:Int):28≤nj y m∧nj y m≤31:=by unfold nj; (repeat' split) <;> omega
theorem DD (y:Int):365≤Er y∧Er y≤366:=by unfold Er; split <;> omega
theorem adj {day y m rest:Int} (hy:2000≤y) (hm:1≤m∧m≤12) (h:eQ y m 1+rest=day) (hr:0≤rest∧rest < nj y m):oZ day=(y,m,rest+1):=by
 have:=ab5 y m (rest+1) (by omega) hm (by omega)
 rw [ab7,h] at this
 exact this
theorem OX (c:eB) (n:Nat):∀ (d x:Int),d≤x→x < d+n→bS c x=true→(∀ y,d≤y→y < x→bS c y=false)→na c n d=some x:=by
 induction n with
 | zero=>intro d x h1 h2 _ _; omega
 | succ n ih =>
  intro d x h1 h2 ho hn
  unfold na
  by_cases e:d=x
  ·rw [e,ho,cond_true]
  ·rw [hn d (Int.le_refl _) (by omega),cond_false]
   exact ih (d+1) x (by omega) (by omega) ho (fun y a b=>hn y (by omega) b)
theorem Es (c:eB):∀ (n:Nat) (d:Int),(∀ y,d≤y→y < d+n→bS c y=false)→na c n d=none
 | 0,_,_=>rfl
 | n+1,d,hn=>by
  unfold na
  rw [hn d (Int.le_refl _) (by omega),cond_false]
  exact Es c n (d+1) (fun y a b=>hn y (by omega) (by omega))
theorem Z9 {c:eB} {day x:Int} (hv:0≤day∧day≤100000) (h1:day≤x) (h2:x≤day+400) (h3:x≤100000) (ho:bS c x=true) (hn:∀ y,day≤y→y < x→bS c y=false):bA c day=(x,0):=by
 have hvb:bF day=true:=by
  have:bF day=(decide (0≤day)&&decide (day≤100000)):=rfl
  rw [this]; simp only [LN]; exact hv
 unfold bA rW
 rw [hvb,aq (by omega) (by omega),OX c _ day x h1 (by omega) ho hn]
 rfl
theorem aaa {c:eB} {day:Int} (hv:0≤day∧day≤100000) (hn:∀ y,day≤y→y≤day+400→y≤100000→bS c y=false):bA c day=(0,3):=by
 have hvb:bF day=true:=by
  have:bF day=(decide (0≤day)&&decide (day≤100000)):=rfl
  rw [this]; simp only [LN]; exact hv
 unfold bA rW
 rw [hvb,aq (by omega) (by omega),Es c _ day (fun y a b=>hn y a (by omega) (by omega))]
 rfl
theorem Vu {c:eB} {day:Int} (hv:¬ (0≤day∧day≤100000)):bA c day=(0,3):=by
 have hvb:bF day=false:=by
  have:bF day=(decide (0≤day)&&decide (day≤100000)):=rfl
  rw [this]; simp only [LN]; omega
 unfold bA
 rw [hvb]
 rfl
theorem YP {y:Int} (h:2000≤y):0≤eQ y 1 1∧eQ y 1 1≤366 * (y - 2000):=by
 unfold eQ; rw [if_pos (by decide)]; omega
theorem Vv {y m:Int} (h:2000≤y) (hm:1≤m∧m≤12):0≤eQ y m 1∧eQ y m 1≤366 * (y - 2000)+366:=by
 unfold eQ; split <;> omega
theorem s9 {day n:Int} (h:¬ (0≤day∧day≤100000)∨n > 5000):cC day n=(0,3):=by
 have hc:(((!(bF day))||(decide (n < (-5000))))||(decide (n > 5000)))=true:=by
  have hv:bF day=(decide (0≤day)&&decide (day≤100000)):=rfl
  rw [hv]; simp only [LN]; omega
 simp only [cC,eH,Sk.cE,Sk.bK,Sk.bg,fD.wG,kk,kp,dX]
 rw [hc]; rfl
theorem ab8 {y m d:Int} (h:y < 2000):Nb y m d=(0,3):=by
 unfold Nb; rw [if_neg (fun q=>by omega)]
def tM (year:Int):Sk (Bool):=let az:=((year.tmod 4) == 0);
 .r 1 (.aj (.p ((4:Int)≠0)) (.aj (.wh az true (.p ((100:Int)≠0))) (.wh az true (.wh ((year.tmod 100) != 0) false (.p ((400:Int)≠0)))))) fun _ =>
 .fin (az&&(((year.tmod 100) != 0)||((year.tmod 400) == 0)))
def ab9 year:=(tM year).val
theorem Sl (year:Int):(tM year).dq (fun (x:Bool)=>0≤year→x=decide (year % 4=0∧(year % 100≠0∨year % 400=0))):=by
 refine Sk.bh _ ?_
 unfold tM
 simp only [Sk.cK,Sk.aD,reduceCtorEq,ON,kk,kp,maxLen]
 intro _ h
 rw [Int.tmod_eq_emod_of_nonneg h,Int.tmod_eq_emod_of_nonneg h,Int.tmod_eq_emod_of_nonneg h,Bool.eq_iff_iff]
 simp only [LN]
theorem Vw (year:Int):(tM year).bq (fun _=>True):=by
 unfold tM
 exact mH
def sw year:=kp tok mixed Tryz.func241 [iv year] (fun x=>bv x) true (ab9 year) (u0 (Vw year)) (Sl year)
def tN (year:Int):Sk (Int) :=
 .r 1 ((sw year).c) fun x1 =>
 .br x1
 (.fin 366)
 (.fin 365)
def aca year:=(tN year).val
theorem Sm (year:Int):(tN year).dq (fun (x:Int)=>0≤year→x=Er year):=by
 refine Sk.bh _ ?_
 unfold tN
 simp only [Sk.cK,Sk.aD,reduceCtorEq,ON,kk,kp,sw,maxLen]
 intro x _ hx
 refine ⟨fun hc h=>?_,fun hc h=>?_⟩
 all_goals have hx:=hx h
 all_goals unfold Er
 ·rw [hc] at hx; rw [if_pos (of_decide_eq_true hx.symm)]
 ·rw [hc] at hx; rw [if_neg (of_decide_eq_false hx.symm)]
theorem Vx (year:Int):(tN year).bq (fun _=>True):=by
 unfold tN
 try simp only [sw]
 exact mP
def sx year:=kp tok mixed Tryz.func240 [iv year] (fun x=>iv x) true (aca year) (u0 (Vx year)) (Sm year)
def o8 (year:Int) (month:Int):Sk (Int) :=
 .r 1 (.wh (month == 2) true ((sw year).c)) fun x1 =>
 .br ((month == 2)&&x1)
 (.fin 29)
 (.br (month == 2)
 (.fin 28)
 (.br ((((month == 4)||(month == 6))||(month == 9))||(month == 11))
 (.fin 30)
 (.fin 31)))
def XE year month:=(o8 year month).val
theorem Nc (year:Int) (month:Int):(o8 year month).dq (fun (x:Int)=>0≤year→x=nj year month):=by
 refine Sk.bh _ ?_
 unfold o8
 simp only [Sk.cK,Sk.aD,reduceCtorEq,ON,kk,kp,sw,maxLen]
 intro x _ hx
 refine ⟨fun hc h=>?_,fun hc=>⟨fun uE h=>?_,fun uE=>⟨fun hc3 h=>?_,fun hc3 h=>?_⟩⟩⟩
 all_goals have hx:=hx h
 all_goals unfold nj
 ·simp only [LN] at hc
  rw [hc.2] at hx
  rw [if_pos hc.1,if_pos (of_decide_eq_true hx.symm)]
 ·simp only [LN] at hc uE
  have hx2:x=false:=hc.resolve_left (fun h1=>h1 uE)
  rw [hx2] at hx
  rw [if_pos uE,if_neg (of_decide_eq_false hx.symm)]
 ·simp only [LN] at uE hc3
  rw [if_neg uE,if_pos (by omega)]
 ·simp only [LN] at uE hc3
  rw [if_neg uE,if_neg (by omega)]
theorem OY (year:Int) (month:Int):(o8 year month).bq (fun _=>True):=by
 unfold o8
 try simp only [sw]
 exact mP
def gD year month:=kp tok mixed Tryz.func207 [iv year,iv month] (fun x=>iv x) true (XE year month) (u0 (OY year month)) (Nc year month)
def tQ (day:Int):Sk (Int × Int × Int × Int) :=
 .r 1 ((dn day).c) fun x1 =>
 .br (!x1)
 (.fin (0,0,0,3))
 (.bind true (fun b2=>2000≤b2.1∧0≤b2.2∧b2.2 < Er b2.1∧eQ b2.1 1 1+b2.2=day∧day≤100000)
 (.loop (default:Sum (Int × Int × Int × Int) (Int × Int)) (fun i3=>2000≤i3.1∧0≤i3.2∧eQ i3.1 1 1+i3.2=day∧day≤100000) (fun i3=>i3.2.toNat) ((2000,day):Int × Int)
 (fun (i3:Int × Int)=>⟨[(6,iv i3.1),(7,iv i3.2)],[]⟩) fun i3=>let aV:=((sx i3.1).c);
 .r 5 aV fun x4 =>
 .br (decide (i3.2≥x4))
 (.r 6 aV fun x5 =>
 .fin (.inr (aK (i3.1+1),aK (i3.2 - x5))))
 (.fin (.inl (.inr (i3.1,i3.2)))))
 (fun (b2:Int × Int)=>⟨[(6,iv b2.1),(7,iv b2.2)],[]⟩) fun b2 =>
 .bind true (fun b6=>(1≤b6.2∧b6.2≤12)∧0≤b6.1∧b6.1 < nj b2.1 b6.2∧eQ b2.1 b6.2 1+b6.1=day)
 (.loop (default:Sum (Int × Int × Int × Int) (Int × Int)) (fun i7=>(1≤i7.2∧i7.2≤12)∧0≤i7.1∧eQ b2.1 i7.2 1+i7.1=day∧day < eQ (b2.1+1) 1 1) (fun i7=>i7.1.toNat) ((b2.2,1):Int × Int)
 (fun (i7:Int × Int)=>⟨[(7,iv i7.1),(8,iv i7.2)],[]⟩) fun i7=>let az:=((gD b2.1 i7.2).c);
 .r 9 az fun x8 =>
 .br (decide (i7.1≥x8))
 (.r 10 az fun x9 =>
 .fin (.inr (aK (i7.1 - x9),aK (i7.2+1))))
 (.fin (.inl (.inr (i7.1,i7.2)))))
 (fun (b6:Int × Int)=>⟨[(7,iv b6.1),(8,iv b6.2)],[]⟩) fun b6 =>
 .fin (b2.1,b6.2,aK (b6.1+1),0))
def acb day:=(tQ day).val
theorem Sn (day:Int):(tQ day).dq (fun (x:Int × Int × Int × Int)=>(0≤day∧day≤100000→x=((oZ day).1,(oZ day).2.1,(oZ day).2.2,0))∧(¬ (0≤day∧day≤100000)→x=(0,0,0,3))):=by
 refine Sk.bh _ ?_
 unfold tQ
 simp only [Sk.cK,Sk.aD,reduceCtorEq,ON,kk,kp,gD,dn,sx,gC,forall_eq,maxLen]
 refine ⟨fun hv=>?_,fun hv=>⟨⟨?_,fun i hi hd=>⟨fun hc _=>?_,fun hc=>?_⟩⟩,fun b hb=>⟨⟨?_,fun i hi hd=>⟨fun hc _=>?_,fun hc=>?_⟩⟩,fun b6 hb6=>?_⟩⟩⟩
 rotate_left
 ·have h0:eQ 2000 1 1=0:=rfl
  simp only [LN] at hv
  exact ⟨by omega,by omega,by omega,by omega⟩
 ·have hd:=hd (by omega)
  rw [hd] at hc ⊢
  simp only [LN] at hc
  have hp:=DD i.1
  have hy:=Kz hi.1
  rw [aq (by omega) (by omega),aq (by omega) (by omega)]
  have:=vm i.1
  exact ⟨⟨by omega,by omega,by omega,by omega⟩,by omega⟩
 ·have hd:=hd (by omega)
  rw [hd] at hc
  simp only [LN] at hc
  exact ⟨hi.1,hi.2.1,hc,hi.2.2⟩
 ·have:=vm b.1
  exact ⟨⟨by omega,by omega⟩,hb.2.1,hb.2.2.2.1,by omega⟩
 ·have hd:=hd (by omega)
  rw [hd] at hc ⊢
  simp only [LN] at hc
  have hp:=wA b.1 i.2
  have h12:i.2≤11:=by
   by_cases e:i.2=12
   ·have h1:=Vr b.1
    have h2:nj b.1 12=31:=rfl
    rw [e] at hc hi
    omega
   ·omega
  have:=wz b.1 i.2 (by omega)
  have hi2:i.1≤1000000:=by
   have h1:=Kz hb.1
   have h3:eQ b.1 1 1≤eQ b.1 i.2 1:=by unfold eQ; (repeat' split) <;> omega
   omega
  rw [aq (by omega) (by omega),aq (by omega) (by omega)]
  exact ⟨⟨⟨by omega,by omega⟩,by omega,by omega,hi.2.2.2⟩,by omega⟩
 ·have hd:=hd (by omega)
  rw [hd] at hc
  simp only [LN] at hc
  exact ⟨hi.1,hi.2.1,hc,hi.2.2.1⟩
 ·have e:=adj hb.1 hb6.1 hb6.2.2.2 ⟨hb6.2.1,hb6.2.2.1⟩
  have hp:=wA b.1 b6.2
  rw [e,aq (by omega) (by omega)]
  simp only [LN] at hv
  exact ⟨fun _=>rfl,fun h=>absurd (by omega) h⟩
 ·simp only [LN] at hv
  intro h; omega
theorem Vy (day:Int):(tQ day).bq (fun _=>True):=by
 refine Sk.aO _ ?_
 unfold tQ
 simp only [Sk.gx,Sk.aD,reduceCtorEq,ON,kk,kp,gD,dn,sx,gC,forall_eq,maxLen]
 refine fun hv=>⟨⟨?_,fun i hi hd=>⟨fun hc _=>?_,fun hc=>?_⟩⟩,fun b hb=>⟨?_,fun i hi hd=>⟨fun hc _=>?_,fun hc=>?_⟩⟩⟩
 ·have h0:eQ 2000 1 1=0:=rfl
  simp only [LN] at hv
  exact ⟨by omega,by omega,by omega,by omega⟩
 ·have hd:=hd (by omega)
  rw [hd] at hc ⊢
  simp only [LN] at hc
  have hp:=DD i.1
  have hy:=Kz hi.1
  rw [aq (by omega) (by omega),aq (by omega) (by omega)]
  have:=vm i.1
  exact ⟨⟨by omega,by omega,by omega,by omega⟩,by omega⟩
 ·have hd:=hd (by omega)
  rw [hd] at hc
  simp only [LN] at hc
  exact ⟨hi.1,hi.2.1,hc,hi.2.2⟩
 ·have:=vm b.1
  exact ⟨⟨by omega,by omega⟩,hb.2.1,hb.2.2.2.1,by omega⟩
 ·have hd:=hd (by omega)
  rw [hd] at hc ⊢
  simp only [LN] at hc
  have hp:=wA b.1 i.2
  have h12:i.2≤11:=by
   by_cases e:i.2=12
   ·have h1:=Vr b.1
    have h2:nj b.1 12=31:=rfl
    rw [e] at hc hi
    omega
   ·omega
  have:=wz b.1 i.2 (by omega)
  have hi2:i.1≤1000000:=by
   have h1:=Kz hb.1
   have h3:eQ b.1 1 1≤eQ b.1 i.2 1:=by unfold eQ; (repeat' split) <;> omega
   omega
  rw [aq (by omega) (by omega),aq (by omega) (by omega)]
  exact ⟨⟨⟨by omega,by omega⟩,by omega,by omega,hi.2.2.2⟩,by omega⟩
 ·have hd:=hd (by omega)
  rw [hd] at hc
  simp only [LN] at hc
  exact ⟨hi.1,hi.2.1,hc,hi.2.2.1⟩
def sy day:=kp tok mixed Tryz.func205 [iv day] (fun x=>.fb [iv x.1,iv x.2.1,iv x.2.2.1,iv x.2.2.2]) true (acb day) (u0 (Vy day)) (Sn day)
def wB (year:Int) (month:Int) (uv:Int):Sk (Int × Int):=let az:=(((((decide (year < 2000))||(decide (year > 2300)))||(decide (month < 1)))||(decide (month > 12)))||(decide (uv < 1)));
 .r 1 (.wh az false ((gD year month).c)) fun x1 =>
 .br (az||(decide (uv > x1)))
 (.fin (0,3))
 (.bind true (fun b2=>b2=uv - 1+eQ year 1 1)
 (.loop (default:Sum (Int × Int) (Int)) (fun i3=>2000≤i3.2∧i3.2≤year∧i3.1=uv - 1+eQ i3.2 1 1) (fun i3=>(year - i3.2).toNat) ((aK (uv - 1),2000):Int × Int)
 (fun (i3:Int × Int)=>⟨[(8,iv i3.1),(9,iv i3.2)],[]⟩) fun i3 =>
 .br (decide (i3.2 < year))
 (.r 7 ((sx i3.2).c) fun x4 =>
 .fin (.inr (aK (i3.1+x4),aK (i3.2+1))))
 (.fin (.inl (.inr i3.1))))
 (fun (b2:Int)=>⟨[(8,iv b2)],[]⟩) fun b2 =>
 .bind true (fun b5=>b5=uv - 1+eQ year month 1)
 (.loop (default:Sum (Int × Int) (Int)) (fun i6=>1≤i6.2∧i6.2≤month∧i6.1=uv - 1+eQ year i6.2 1) (fun i6=>(month - i6.2).toNat) ((b2,1):Int × Int)
 (fun (i6:Int × Int)=>⟨[(8,iv i6.1),(10,iv i6.2)],[]⟩) fun i6 =>
 .br (decide (i6.2 < month))
 (.r 11 ((gD year i6.2).c) fun x7 =>
 .fin (.inr (aK (i6.1+x7),aK (i6.2+1))))
 (.fin (.inl (.inr i6.1))))
 (fun (b5:Int)=>⟨[(8,iv b5)],[]⟩) fun b5 =>
 .r 12 ((dn b5).c) fun x8 =>
 .br (!x8)
 (.fin (0,3))
 (.fin (b5,0)))
def adk year month uv:=(wB year month uv).val
theorem Vz (year:Int) (month:Int) (uv:Int):(wB year month uv).dq (fun (x:Int × Int)=>x=Nb year month uv):=by
 refine Sk.bh _ ?_
 unfold wB
 simp only [Sk.cK,Sk.aD,reduceCtorEq,ON,kk,kp,gD,dn,sx,gC,forall_eq,maxLen]
 intro hL
 refine ⟨fun hv=>?_,fun hv=>?_⟩
 ·unfold Nb
  rw [if_neg]
  intro q
  simp only [LN] at hv
  rw [hL (by omega)] at hv
  omega
 have Y1:=wA year month
 have hv:(2000≤year∧year≤2300)∧(1≤month∧month≤12)∧1≤uv∧uv≤nj year month:=by
  simp only [LN] at hv
  rw [hL (by omega)] at hv
  omega
 have e:eQ year month uv=uv - 1+eQ year month 1:=by unfold eQ; split <;> omega
 refine ⟨⟨?_,fun i hi=>⟨fun hc hd=>?_,fun hc=>?_⟩⟩,⟨?_,fun i hi=>⟨fun hc hd=>?_,fun hc=>?_⟩⟩,fun hq=>?_,fun hq=>?_⟩
 ·have h0:eQ 2000 1 1=0:=rfl
  exact ⟨by omega,by omega,by rw [aq (by omega) (by omega)]; omega⟩
 ·simp only [LN] at hc
  have hd:=hd (by omega)
  have hp:=DD i.2
  have hy:=YP hi.1
  have:=vm i.2
  rw [hd,aq (n:=i.2+1) (by omega) (by omega),aq (n:=i.1+Er i.2) (by omega) (by omega)]
  exact ⟨⟨by omega,by omega,by omega⟩,by omega⟩
 ·simp only [LN] at hc
  have e:i.2=year:=by omega
  rw [← e]; exact hi.2.2
 ·exact ⟨by omega,by omega⟩
 ·simp only [LN] at hc
  have hd:=hd (by omega)
  have hp:=wA year i.2
  have hy:=Vv (y:=year) (m:=i.2) (by omega) (by omega)
  have:=wz year i.2 (by omega)
  rw [hd,aq (n:=i.2+1) (by omega) (by omega),aq (n:=i.1+nj year i.2) (by omega) (by omega)]
  exact ⟨⟨by omega,by omega,by omega⟩,by omega⟩
 ·simp only [LN] at hc
  have e:i.2=month:=by omega
  rw [← e]; exact hi.2.2
 ·simp only [LN] at hq
  unfold Nb
  rw [if_neg (fun q=>by omega)]
 ·simp only [LN] at hq
  unfold Nb
  rw [if_pos (by omega),e]
theorem XF (year:Int) (month:Int) (uv:Int):(wB year month uv).bq (fun _=>True):=by
 refine Sk.aO _ ?_
 unfold wB
 simp only [Sk.gx,Sk.aD,reduceCtorEq,ON,kk,kp,gD,dn,sx,gC,forall_eq,maxLen]
 intro hL hv
 have Y1:=wA year month
 have hv:(2000≤year∧year≤2300)∧(1≤month∧month≤12)∧1≤uv∧uv≤nj year month:=by
  simp only [LN] at hv
  rw [hL (by omega)] at hv
  omega
 refine ⟨⟨?_,fun i hi=>⟨fun hc hd=>?_,fun hc=>?_⟩⟩,?_,fun i hi=>⟨fun hc hd=>?_,fun hc=>?_⟩⟩
 ·have h0:eQ 2000 1 1=0:=rfl
  exact ⟨by omega,by omega,by rw [aq (by omega) (by omega)]; omega⟩
 ·simp only [LN] at hc
  have hd:=hd (by omega)
  have hp:=DD i.2
  have hy:=YP hi.1
  have:=vm i.2
  rw [hd,aq (n:=i.2+1) (by omega) (by omega),aq (n:=i.1+Er i.2) (by omega) (by omega)]
  exact ⟨⟨by omega,by omega,by omega⟩,by omega⟩
 ·simp only [LN] at hc
  have e:i.2=year:=by omega
  rw [← e]; exact hi.2.2
 ·exact ⟨by omega,by omega⟩
 ·simp only [LN] at hc
  have hd:=hd (by omega)
  have hp:=wA year i.2
  have hy:=Vv (y:=year) (m:=i.2) (by omega) (by omega)
  have:=wz year i.2 (by omega)
  rw [hd,aq (n:=i.2+1) (by omega) (by omega),aq (n:=i.1+nj year i.2) (by omega) (by omega)]
  exact ⟨⟨by omega,by omega,by omega⟩,by omega⟩
 ·simp only [LN] at hc
  have e:i.2=month:=by omega
  rw [← e]; exact hi.2.2
def Io year month uv:=kp tok mixed Tryz.func206 [iv year,iv month,iv uv] (fun x=>.fb [iv x.1,iv x.2]) true (adk year month uv) (u0 (XF year month uv)) (Vz year month uv)
def kT (day:Int) (n:Int):Sk (Int × Int) :=
 .r 1 ((sy day).c) fun x1=>let az:=(aK ((aK ((aK ((aK ((12:Int) * x1.1))+x1.2.1)) - 1))+n));
 .br (((x1.2.2.2 != 0)||(decide (n < (-5000))))||(decide (n > 5000)))
 (.fin (0,3))
 (.br (decide (az < 24000))
 (.fin (0,3))
 (.r 7 (.p ((12:Int)≠0)) fun _ =>
 .r 8 (.p ((12:Int)≠0)) fun _ =>
 .r 9 (.dep ((gD (aK (az.tdiv 12)) (aK ((az.tmod 12)+1))).c) fun x2=>(Io (aK (az.tdiv 12)) (aK ((az.tmod 12)+1)) (fB x1.2.2.1 x2)).c) fun p4 =>
 .fin (p4.2.1,p4.2.2)))
def eS day n:=(kT day n).val
theorem xQ (day:Int) (n:Int):(kT day n).dq (fun (x:Int × Int)=>0≤n→x=cC day n):=by
 refine Sk.bh _ ?_
 unfold kT
 simp only [Sk.cK,Sk.aD,reduceCtorEq,ON,kk,kp,sy,Io,gD,maxLen]
 intro x _ hx
 by_cases hd:0≤day∧day≤100000
 ·have e:=hx.1 hd
  subst e
  dsimp only
  have h1:=GZ (d:=day) (by omega)
  have h2:=Qo (d:=day) (by omega)
  refine ⟨fun hc h0=>?_,fun hc=>⟨fun hm h0=>?_,fun hm _ _ y _ hy h0=>?_⟩⟩
  ·have:n > 5000:=by simp only [LN,true_and,not_true,false_or,or_false] at hc; omega
   exact (s9 (.inr this)).symm
  ·have hn:n≤5000:=by simp only [LN] at hc; omega
   rw [A2 ⟨h0,hn⟩,if_pos hd]
   unfold G0
   generalize oZ day=p at h1 h2 hm ⊢
   have ew:aK (aK (aK (aK (12 * p.1)+p.2.1) - 1)+n)=12 * p.1+p.2.1 - 1+n:=by simp (disch:=omega) only [aq]
   rw [ew] at hm
   simp only [LN] at hm
   rw [ab8 (by omega)]
  ·have hn:n≤5000:=by simp only [LN] at hc; omega
   rw [A2 ⟨h0,hn⟩,if_pos hd]
   unfold G0
   generalize oZ day=p at h1 h2 hm hy ⊢
   have ew:aK (aK (aK (aK (12 * p.1)+p.2.1) - 1)+n)=12 * p.1+p.2.1 - 1+n:=by simp (disch:=omega) only [aq]
   rw [ew] at hy
   generalize hM:12 * p.1+p.2.1 - 1+n=M at hy ⊢
   have hM2:19200≤M∧M≤50000:=by omega
   rw [Int.tdiv_eq_ediv_of_nonneg (by omega),Int.tmod_eq_emod_of_nonneg (by omega),aq (n:=M / 12) (by omega) (by omega),aq (n:=M % 12+1) (by omega) (by omega)] at hy
   have VW:=hy.1 (by omega)
   have:fB p.2.2 (nj (M / 12) (M % 12+1))=min p.2.2 (nj (M / 12) (M % 12+1)):=by unfold fB; split <;> omega
   rw [← this,← VW,← hy.2]
 ·have e:=hx.2 hd
  subst e
  have:=s9 (n:=n) (.inl hd)
  refine ⟨fun _ _=>this.symm,fun hc=>?_⟩
  simp only [LN] at hc
  exact absurd hc.1.1 (by decide)
theorem Fg (day:Int) (n:Int):(fun (x:Int × Int)=>0≤n→x=cC day n) (eS day n):=have h:=Sk.dc _ (xQ day n); h
theorem Ip (day:Int) (n:Int):(kT day n).bq (fun _=>True):=by
 unfold kT
 try simp only [sy,Io,gD]
 exact mH
def Bs day n:=kp tok mixed Tryz.func148 [iv day,iv n] (fun x=>.fb [iv x.1,iv x.2]) true (eS day n) (u0 (Ip day n)) (xQ day n)
def xR (r:ah) (b:jX) (seen:Int):Sk (Int) :=
 .bind false (fun _=>True)
 (.br (b.aC.kind == 0)
 (.fin (.inr seen))
 (.fin (.inr 0)))
 (fun (b1:Int)=>⟨[(8,iv b1)],[]⟩) fun b1 =>
 .bind false (fun _=>True)
 (.br (b.aC.kind == 3)
 (.fin (.inr b.aC.n))
 (.fin (.inr b1)))
 (fun (b2:Int)=>⟨[(8,iv b2)],[]⟩) fun b2 =>
 .bind false (fun _=>True)
 (.br (b.aC.kind == 4)
 (.r 9 ((lx r b.aL b.rD).c) fun x4 =>
 .fin (.inr (aK (x4.1+b.day),x4.2)))
 (.fin (.inr (b2,0))))
 (fun (b3:Int × Int)=>⟨[(8,iv b3.1),(9,iv b3.2)],[]⟩) fun b3 =>
 .bind false (fun _=>True)
 (.br ((b.aC.kind == 1)||(b.aC.kind == 2))
 (.br ((decide (b.aC.n < 0))||(decide (b.aC.n > 20000)))
 (.fin (.inl (-1)))
 (.bind false (fun _=>True)
 (.br (b.aC.kind == 1)
 (.fin (.inr seen))
 (.fin (.inr b.day)))
 (fun (b6:Int)=>⟨[(8,iv b6)],[]⟩) fun b6 =>
 .br (b.aC.unit == 1)
 (.r 18 ((Bs b6 b.aC.n).c) fun x7 =>
 .fin (.inr (x7.1,x7.2)))
 (.fin (.inr (aK (b6+b.aC.n),b3.2)))))
 (.fin (.inr (b3.1,b3.2))))
 (fun (b5:Int × Int)=>⟨[(8,iv b5.1),(9,iv b5.2)],[]⟩) fun b5 =>
 .r 20 (.wh (b5.2 != 0) false ((dn b5.1).c)) fun x8 =>
 .br ((b5.2 != 0)||(!x8))
 (.fin (-1))
 (.fin b5.1)
def o9 r b seen:=(xR r b seen).val
theorem VA (r:ah) (b:jX) (seen:Int):(xR r b seen).bq (fun _=>True):=by
 unfold xR
 try simp only [Bs,dn,lx,gC]
 exact xV
def Nd r b seen:=kk tok mixed Tryz.func105 [av r.cells,av b.cells,iv seen] (fun x=>iv x) true (xR r b seen) (o9 r b seen) (u0 (VA r b seen))
def Iq (day:Int) (t:ov):Int × Int:=bif (decide (t.n < 0))||(decide (t.n > 20000)) then (0,3) else bif t.unit == 1 then cC day t.n else (aK (day+t.n),0)
def nk (r:ah) (b:jX) (seen:Int):Int × Int :=
 bif b.aC.kind == 0 then (seen,0) else bif b.aC.kind == 1 then Iq seen b.aC else bif b.aC.kind == 2 then Iq b.day b.aC else bif b.aC.kind == 4 then (aK (b.day+(cQ r b.aL b.rD).1),(cQ r b.aL b.rD).2) else (b.aC.n,0)
theorem adl (r:ah) (b:jX) (seen:Int):m9 r b seen=nk r b seen:=by kernel_rfl
def C3 (p:Int × Int):Int:=bif (p.2 != 0)||!(decide (p.1≥0)&&decide (p.1≤100000)) then -1 else p.1
theorem VB (r:ah) (b:jX) (seen:Int):o9 r b seen =
  bO (bif b.aC.kind == 0 then .inr seen else .inr (0:Int)) fun b1=>bO (bif b.aC.kind == 3 then .inr b.aC.n else .inr b1) fun b2 =>
  bO (bif b.aC.kind == 4 then .inr (aK ((g4 r b.aL b.rD).1+b.day),(g4 r b.aL b.rD).2) else .inr (b2,0)) fun b3 =>
  bO (bif (b.aC.kind == 1)||(b.aC.kind == 2) then (bif (decide (b.aC.n < 0))||(decide (b.aC.n > 20000)) then .inl (-1) else
   bO (bif b.aC.kind == 1 then .inr seen else .inr b.day) fun b6=>bif b.aC.unit == 1 then .inr ((eS b6 b.aC.n).1,(eS b6 b.aC.n).2) else .inr (aK (b6+b.aC.n),b3.2)) else .inr (b3.1,b3.2)) fun b5 =>
  bif (b5.2 != 0)||(!(jr b5.1)) then -1 else b5.1:=by kernel_rfl
theorem Nf (r:ah) (b:jX) (seen:Int) (hk:0≤b.aC.kind∧b.aC.kind < 5):o9 r b seen=C3 (nk r b seen):=by
 have hu:∀ x y,g4 r x y=cQ r x y:=fun x y=>uh r x y
 have hv:∀ x,jr x=(decide (x≥0)&&decide (x≤100000)):=fun _=>rfl
 have hm:∀ x,0≤b.aC.n→eS x b.aC.n=cC x b.aC.n:=fun x h=>Fg x b.aC.n h
 have gE:b.aC.kind=0∨b.aC.kind=1∨b.aC.kind=2∨b.aC.kind=3∨b.aC.kind=4:=by omega
 rw [VB,hu]
 unfold C3 nk Iq
 rcases gE with h | h | h | h | h
 ·rw [h]; exact congrArg (fun v:Bool=>bif ((0:Int) != 0)||(!v) then -1 else seen) (hv seen)
 ·rw [h]
  by_cases c:b.aC.n < 0∨b.aC.n > 20000
  ·have:((decide (b.aC.n < 0))||(decide (b.aC.n > 20000)))=true:=by simp only [LN]; exact c
   rw [this]; rfl
  ·have:((decide (b.aC.n < 0))||(decide (b.aC.n > 20000)))=false:=by simp only [LN]; omega
   rw [this]
   have hm:=hm seen (by omega)
   cases hu:(b.aC.unit == 1) with
   | true =>
    show (bif ((eS seen b.aC.n).2 != 0)||(!(jr (eS seen b.aC.n).1)) then -1 else (eS seen b.aC.n).1)=_
    rw [hm,hv]; rfl
   | false =>
    show (bif ((0:Int) != 0)||(!(jr (aK (seen+b.aC.n)))) then -1 else aK (seen+b.aC.n))=_
    rw [hv]; rfl
 ·rw [h]
  by_cases c:b.aC.n < 0∨b.aC.n > 20000
  ·have:((decide (b.aC.n < 0))||(decide (b.aC.n > 20000)))=true:=by simp only [LN]; exact c
   rw [this]; rfl
  ·have:((decide (b.aC.n < 0))||(decide (b.aC.n > 20000)))=false:=by simp only [LN]; omega
   rw [this]
   have hm:=hm b.day (by omega)
   cases hu:(b.aC.unit == 1) with
   | true =>
    show (bif ((eS b.day b.aC.n).2 != 0)||(!(jr (eS b.day b.aC.n).1)) then -1 else (eS b.day b.aC.n).1)=_
    rw [hm,hv]; rfl
   | false =>
    show (bif ((0:Int) != 0)||(!(jr (aK (b.day+b.aC.n)))) then -1 else aK (b.day+b.aC.n))=_
    rw [hv]; rfl
 ·rw [h]; exact congrArg (fun v:Bool=>bif ((0:Int) != 0)||(!v) then -1 else b.aC.n) (hv b.aC.n)
 ·rw [h]
  show (bif ((cQ r b.aL b.rD).2 != 0)||(!(jr (aK ((cQ r b.aL b.rD).1+b.day)))) then -1 else aK ((cQ r b.aL b.rD).1+b.day))=_
  rw [hv,Int.add_comm (cQ r b.aL b.rD).1 b.day]; rfl
theorem acd (r:ah) (b:jX) (seen:Int) (hk:0≤b.aC.kind∧b.aC.kind < 5) (h:¬ o9 r b seen < 0):0≤o9 r b seen∧o9 r b seen≤100000:=by
 rw [Nf r b seen hk] at h ⊢
 generalize nk r b seen=p at h
 unfold C3 at h ⊢
 cases hc:((p.2 != 0)||!(decide (p.1≥0)&&decide (p.1≤100000))) with
 | true=>rw [hc] at h; exact absurd (show (-1:Int) < 0 by decide) h
 | false =>
  simp only [LN] at hc
  exact hc.2
def wC (l:List Int) (n:Int):Sk (Bool) :=
 .bind true (fun b1=>n ∉ l)
 (.loop (default:Sum (Bool) (Unit)) (fun i2=>i2≤l.length∧∀ q,q < i2→l.getD q default≠n) (fun i2=>l.length - i2) (0:Nat)
 (fun (i2:Nat)=>⟨[(5,iv (i2:Int))],[]⟩) fun i2 =>
 .lt 0 0 i2 l.length
 (.r 4 (.p (bM (i2:Int) l.length)) fun _ =>
 .br ((l.getD i2 default) == n)
 (.fin (.inl (.inl true)))
 (.nx 3 5 i2 (i2+1)))
 (.fin (.inl (.inr ()))))
 (fun (_:Unit)=>⟨[],[]⟩) fun _ =>
 .fin false
def adm l n:=(wC l n).val
theorem VC (l:List Int) (n:Int):(wC l n).dq (fun (x:Bool)=>x=decide (n∈l)):=by
 refine Sk.bh _ ?_
 unfold wC
 simp only [Sk.cK,Sk.aD,reduceCtorEq,ON,kk,kp,maxLen]
 refine ⟨⟨⟨Nat.zero_le _,fun q hq=>absurd hq (by omega)⟩,fun i hi=>⟨fun hc _=>⟨fun h=>?_,fun h _=>?_⟩,fun hc=>?_⟩⟩,fun _ hb=>(decide_eq_false hb).symm⟩
 all_goals simp only [LN] at hc
 ·simp only [LN] at h
  exact (decide_eq_true (h ▸ fX (by omega) _)).symm
 ·simp only [LN] at h
  refine ⟨⟨by omega,fun q hq=>?_⟩,by omega⟩
  rcases Nat.lt_succ_iff_lt_or_eq.1 hq with h1 | rfl
  ·exact hi.2 q h1
  ·exact h
 ·intro hm
  obtain ⟨q,hq,e⟩:=List.getElem_of_mem hm
  exact hi.2 q (by omega) (by simp [List.getD,hq,e])
theorem XG (l:List Int) (n:Int):(wC l n).bq (fun _=>True):=by
 refine Sk.aO _ ?_
 unfold wC
 simp only [Sk.gx,Sk.aD,reduceCtorEq,ON,kk,kp,maxLen]
 refine ⟨⟨Nat.zero_le _,fun q hq=>absurd hq (by omega)⟩,fun i hi hm=>⟨fun hc=>⟨⟨by omega,of_decide_eq_true hc⟩,fun _ h _=>⟨?_,⟨?_,fun q hq=>?_⟩,?_⟩⟩,fun hc hm=>?_⟩⟩
 all_goals simp only [LN] at hc
 ·exact (aq (by omega) (by omega)).trans (by omega)
 ·omega
 ·simp only [LN] at h
  rcases Nat.lt_succ_iff_lt_or_eq.1 hq with h1 | rfl
  ·exact hi.2 q h1
  ·exact h
 ·omega
 ·obtain ⟨q,hq,e⟩:=List.getElem_of_mem hm
  exact hi.2 q (by omega) (by simp [List.getD,hq,e])
def zF l n:=kp tok mixed Tryz.func242 [lv bJ l,iv n] (fun x=>bv x) true (adm l n) (u0 (XG l n)) (VC l n)
def tR (c_:eB) (day:Int):Sk (Bool × Int) :=
 .r 1 ((sy day).c) fun x1 =>
 .br (x1.2.2.2 != 0)
 (.fin (false,x1.2.2.2))
 (.r 4 (.aj (.p ((7:Int)≠0)) (.dep ((zF c_.rest ((aK (day+5)).tmod 7)).c) fun x2=>.dep (.wh (!x2) true ((zF c_.cW (aK ((aK ((100:Int) * x1.2.1))+x1.2.2.1))).c)) fun x3=>.wh ((!x2)&&(!x3)) true ((zF c_.shut day).c))) fun p5 =>
 .fin (((!p5.1)&&(!p5.2.1))&&(!p5.2.2),0))
def ace c_ day:=(tR c_ day).val
theorem Sq (c_:eB) (day:Int):(tR c_ day).dq (fun (x:Bool × Int)=>(0≤day∧day≤100000→x=(bS c_ day,0))∧(¬ (0≤day∧day≤100000)→x=(false,3))):=by
 refine Sk.bh _ ?_
 unfold tR
 simp only [Sk.cK,Sk.aD,reduceCtorEq,ON,kk,kp,sy,zF,maxLen]
 intro x _ hx
 refine ⟨fun hc=>?_,fun hc y _ hy=>?_⟩
 ·by_cases h:0≤day∧day≤100000
  ·rw [hx.1 h] at hc; cases hc
  ·rw [hx.2 h]; exact ⟨fun h2=>absurd h2 h,fun _=>rfl⟩
 ·by_cases h:0≤day∧day≤100000
  ·refine ⟨fun _=>?_,fun h2=>absurd h h2⟩
   rw [hy.1,hy.2.1,hy.2.2,hx.1 h,Vt c_ (by omega)]
   dsimp only
   have hr:=GZ (d:=day) (by omega)
   unfold ad6
   rw [aq (n:=day+5) (by omega) (by omega),Int.tmod_eq_emod_of_nonneg (by omega),aq (n:=100 * (oZ day).2.1) (by omega) (by omega),aq (by omega) (by omega)]
  ·rw [hx.2 h] at hc; cases hc
theorem VD (c_:eB) (day:Int):(tR c_ day).bq (fun _=>True):=by
 unfold tR
 try simp only [sy,zF]
 exact mH
def Fh c_ day:=kp tok mixed Tryz.func208 [av c_.cells,iv day] (fun x=>.fb [bv x.1,iv x.2]) true (ace c_ day) (u0 (VD c_ day)) (Sq c_ day)
def tS (c_:eB) (day:Int):Sk (Int × Int) :=
 .r 1 ((dn day).c) fun x1 =>
 .br (!x1)
 (.fin (0,3))
 (.bind true (fun b2=>∀ y,day≤y→y≤day+400→y≤100000→bS c_ y=false)
 (.loop (default:Sum (Int × Int) (Unit)) (fun i3=>0≤i3∧i3≤401∧∀ y,day≤y→y < day+i3→y≤100000→bS c_ y=false) (fun i3=>(401 - i3).toNat) (0:Int)
 (fun (i3:Int)=>⟨[(6,iv i3)],[]⟩) fun i3 =>
 .br (decide (i3≤400))
 (.r 6 ((Fh c_ (aK (day+i3))).c) fun x4 =>
 .br x4.1
 (.fin (.inl (.inl (aK (day+i3),0))))
 (.fin (.inr (aK (i3+1)))))
 (.fin (.inl (.inr ()))))
 (fun (_:Unit)=>⟨[],[]⟩) fun _ =>
 .fin (0,3))
def acf c_ day:=(tS c_ day).val
theorem Sr (c_:eB) (day:Int):(tS c_ day).dq (fun (x:Int × Int)=>x=bA c_ day):=by
 refine Sk.bh _ ?_
 unfold tS
 simp only [Sk.cK,Sk.aD,reduceCtorEq,ON,kk,kp,Fh,dn,gC,forall_eq,maxLen]
 refine ⟨fun hv=>?_,fun hv=>?_⟩
 ·rw [Vu]
  simp only [LN] at hv
  omega
 have hv:0≤day∧day≤100000:=by simp only [LN] at hv; exact hv
 have hw:∀ i:Int,0≤i→i≤401→aK (day+i)=day+i:=fun i a b=>aq (by omega) (by omega)
 refine ⟨⟨⟨by omega,by omega,fun y a b=>by omega⟩,fun i hi=>?_⟩,fun b hb=>(aaa hv hb).symm⟩
 rw [hw i hi.1 hi.2.1]
 refine ⟨fun hc hx=>⟨fun ho=>?_,fun ho=>?_⟩,fun hc=>?_⟩
 ·simp only [LN] at hc
  by_cases h:day+i≤100000
  ·rw [hx.1 ⟨by omega,h⟩] at ho
   exact (Z9 hv (by omega) (by omega) h ho (fun y a b=>hi.2.2 y a b (by omega))).symm
  ·rw [hx.2 (by omega)] at ho; cases ho
 ·skip
  have hn:bS c_ (day+i)=false∨¬ (day+i≤100000):=by
   by_cases h:day+i≤100000
   ·rw [hx.1 ⟨by omega,h⟩] at ho; exact .inl ho
   ·exact .inr h
  simp only [LN] at hc
  rw [aq (n:=i+1) (by omega) (by omega)]
  refine ⟨⟨by omega,by omega,fun y a b c=>?_⟩,by omega⟩
  by_cases e:y=day+i
  ·rcases hn with h | h
   ·rw [e]; exact h
   ·omega
  ·exact hi.2.2 y a (by omega) c
 ·simp only [LN] at hc
  exact fun y a b c=>hi.2.2 y a (by omega) c
theorem VE (c_:eB) (day:Int):(tS c_ day).bq (fun _=>True):=by
 refine Sk.aO _ ?_
 unfold tS
 simp only [Sk.gx,Sk.aD,reduceCtorEq,ON,kk,kp,Fh,dn,gC,forall_eq,maxLen]
 intro hv
 have hv:0≤day∧day≤100000:=by simp only [LN] at hv; exact hv
 have hw:∀ i:Int,0≤i→i≤401→aK (day+i)=day+i:=fun i a b=>aq (by omega) (by omega)
 refine ⟨⟨by omega,by omega,fun y a b=>by omega⟩,fun i hi=>?_⟩
 rw [hw i hi.1 hi.2.1]
 refine ⟨fun hc hx ho=>?_,fun hc=>?_⟩
 ·skip
  have hn:bS c_ (day+i)=false∨¬ (day+i≤100000):=by
   by_cases h:day+i≤100000
   ·rw [hx.1 ⟨by omega,h⟩] at ho; exact .inl ho
   ·exact .inr h
  simp only [LN] at hc
  rw [aq (n:=i+1) (by omega) (by omega)]
  refine ⟨⟨by omega,by omega,fun y a b c=>?_⟩,by omega⟩
  by_cases e:y=day+i
  ·rcases hn with h | h
   ·rw [e]; exact h
   ·omega
  ·exact hi.2.2 y a (by omega) c
 ·simp only [LN] at hc
  exact fun y a b c=>hi.2.2 y a (by omega) c
def Fi c_ day:=kp tok mixed Tryz.func150 [av c_.cells,iv day] (fun x=>.fb [iv x.1,iv x.2]) true (acf c_ day) (u0 (VE c_ day)) (Sr c_ day)
theorem acg {c:eB} {d:Int} (h:(bA c d).2≠0):(bA c d).2=3:=by
 unfold bA at h ⊢
 cases hv:bF d with
 | false=>rfl
 | true =>
  rw [hv] at h
  simp only [Bool.not_true,cond_false] at h ⊢
  cases ho:rW c d (min (aK (d+400)) 100000) with
  | none=>rfl
  | some x=>rw [ho] at h; exact absurd rfl h
def lZ (r:ah) (aL:Int) (day:Int):Sk (Int × Int):=let aV:=(bz r aL); let az:=(r.aB.getD aL.toNat default);
 .r 1 ((eP r aL).c) fun x1 =>
 .bind true (fun b2=>∀ x,dF r aV az 100001 x→dF r aV az day x)
 (.loop (default:Sum (Int × Int) (Unit)) (fun i3=>((0:Int)≤i3∧i3≤100001)∧∀ x,dF r aV az i3 x→dF r aV az day x) (fun i3=>(100001 - i3).toNat) (day:Int)
 (fun (i3:Int)=>⟨[(2,iv i3)],[]⟩) fun i3 =>
 .br (decide (i3≤100000))
 (.bind true (fun b4=>(i3 < b4∧b4≤100001)∧∀ x,dF r aV az b4 x→dF r aV az i3 x)
 (.bind true (fun b5=>i3≤b5.1∧b5.1≤100001∧(∀ y,i3≤y→y < b5.1→qc r x1 y=true)∧(b5.1=i3→qc r x1 i3=false))
 (.loop (default:Sum (Sum (Sum (Sum (Int × Int) (Unit)) (Int)) (Int)) (Int × Int)) (fun i6=>i6.2≤r.ca.length∧i3≤i6.1∧i6.1≤100001∧(∀ y,i3≤y→y < i6.1→qc r x1 y=true)∧(i6.1=i3→∀ q,q < i6.2→¬ ((r.ca.getD q default).order=x1∧(r.ca.getD q default).from_≤i3∧i3≤(r.ca.getD q default).cr))) (fun i6=>r.ca.length - i6.2) ((i3,0):Int × Nat)
 (fun (i6:Int × Nat)=>⟨[(9,iv i6.1),(10,iv (i6.2:Int))],[]⟩) fun i6=>let rz:=(i6.2:Int); let eG:=(bM rz r.ca.length); let cF:=(r.ca.getD i6.2 default); let kV:=(((cF.order) == x1)&&(decide ((cF.from_)≤i3)));
 .lt 3 7 i6.2 r.ca.length
 (.r 7 (.aj (.p eG) (.aj (.wh ((cF.order) == x1) true (.p eG)) (.wh kV true (.p eG)))) fun _ =>
 .br (kV&&(decide (i3≤(cF.cr))))
 (.r 8 (.p eG) fun _ =>
 .r 6 .z fun _ =>
 .wi 10 (aK (rz+1)) ((i6.2+1:Nat):Int) <|
 .fin (.inr (dk i6.1 (aK ((cF.cr)+1)),i6.2+1)))
 (.nx 6 10 i6.2 (i6.1,i6.2+1)))
 (.fin (.inl (.inr (i6.1,rz)))))
 (fun (b5:Int × Int)=>⟨[(9,iv b5.1),(10,iv b5.2)],[]⟩) fun b5 =>
 .bind false (fun b7=>(i3≤b7∧b7≤100001)∧(b7=i3→dF r aV az i3 (i3,0))∧(b7≠i3→∀ x,dF r aV az b7 x→dF r aV az i3 x))
 (.br (b5.1 == i3)
 (.r 10 (.aj (.p (bM aL r.aB.length)) ((Fi az i3).c)) fun x8 =>
 .br (x8.2 != 0)
 (.fin (.inl (.inl (.inl (.inl (0,x8.2))))))
 (.fin (.inr x8.1)))
 (.fin (.inr b5.1)))
 (fun (b7:Int)=>⟨[(9,iv b7)],[]⟩) fun b7 =>
 .br (b7 == i3)
 (.fin (.inl (.inl (.inl (i3,0)))))
 (.fin (.inr b7)))
 (fun (b4:Int)=>⟨[(2,iv b4)],[]⟩) fun b4 =>
 .fin (.inr b4))
 (.fin (.inl (.inr ()))))
 (fun (_:Unit)=>⟨[],[]⟩) fun _ =>
 .fin (0,3)
def nm r aL day:=(lZ r aL day).val
theorem Ng (r:ah) (aL:Int) (day:Int) (hP:(0≤aL∧aL < (r.aB.length:Int))∧(0≤day∧day≤100001)∧r.cj∧r.Small):(lZ r aL day).dq (fun (x:Int × Int)=>dF r (bz r aL) (r.aB.getD aL.toNat default) day x):=by
 refine Sk.bh _ ?_
 unfold lZ
 simp only [Sk.cK,Sk.aD,reduceCtorEq,ON,kk,kp,Fi,eP,aw.Small,ah.Small,ah.cj,maxLen]
 obtain ⟨hc,hd,hh,hr⟩:=hP
 intro x _ hx
 have hx:=hx hr.2.1
 subst hx
 refine ⟨⟨⟨hd,fun x h=>h⟩,fun i hi=>⟨fun hle=>⟨⟨⟨⟨Nat.zero_le _,by omega,by omega,fun y a b=>by omega,fun q hq=>by omega⟩,fun j hj=>⟨fun uE _=>⟨fun ht _ _=>?_,fun ht _=>?_⟩,fun uE=>?_⟩⟩,fun b hb=>⟨⟨fun he y _ hy=>⟨fun h1=>?_,fun h1=>?_⟩,fun he=>?_⟩,fun b1 _ Hb=>⟨fun h=>?_,fun h=>?_⟩⟩⟩,fun b _ hb=>?_⟩,fun hle=>?_⟩⟩,fun _ hb=>?_⟩
 ·simp only [LN] at uE ht
  have h2:=hh j.2 (by omega)
  have hm:dk j.1 (aK ((r.ca.getD j.2 default).cr+1))=if j.1 < (r.ca.getD j.2 default).cr+1 then (r.ca.getD j.2 default).cr+1 else j.1:=by
   rw [aq (n:=(r.ca.getD j.2 default).cr+1) (by omega) (by omega)]; unfold dk; (repeat' split) <;> omega
  rw [hm]
  refine ⟨⟨by omega,by split <;> omega,by split <;> omega,fun y a b=>?_,fun e=>by split at e <;> omega⟩,by omega⟩
  by_cases e:y < j.1
  ·exact hj.2.2.2.1 y a e
  ·exact Gk (i:=j.2) (by omega) ⟨ht.1.1,by omega,by split at b <;> omega⟩
 ·simp only [LN] at uE ht
  refine ⟨⟨by omega,hj.2.1,hj.2.2.1,hj.2.2.2.1,fun e q hq=>?_⟩,by omega⟩
  rcases Nat.lt_succ_iff_lt_or_eq.1 hq with h1 | h1
  ·exact hj.2.2.2.2 e q h1
  ·subst h1
   omega
 ·simp only [LN] at uE
  exact ⟨hj.2.1,hj.2.2.1,hj.2.2.2.1,fun e=>Dn (fun q hq=>hj.2.2.2.2 e q (by omega))⟩
 ·simp only [LN] at he h1
  rw [hy] at h1 ⊢
  rw [acg h1]
  exact hi.2 _ (.stop ⟨Int.le_refl _,hb.2.2.2 he,fun y a c=>by omega⟩ h1)
 ·simp only [LN] at he h1
  have hs:vP r (bz r aL) i i:=⟨Int.le_refl _,hb.2.2.2 he,fun y a c=>by omega⟩
  have hp:=pN (r.aB.getD aL.toNat default) i
  rw [← hy] at hp
  have hp:i≤y.1∧y.1≤100000:=hp h1
  rw [hy] at h1
  refine ⟨⟨hp.1,by omega⟩,fun e=>?_,fun e z hz=>?_⟩
  ·rw [hy] at e; exact .here hs h1 e
  ·rw [hy] at e hz; exact .go hs h1 e hz
 ·simp only [LN] at he
  exact ⟨⟨hb.1,hb.2.1⟩,fun e=>absurd e he,fun _ z hz=>hz.back hb.1 hb.2.2.1⟩
 ·simp only [LN] at h
  exact hi.2 _ (Hb.2.1 h)
 ·simp only [LN] at h
  exact ⟨⟨by omega,Hb.1.2⟩,Hb.2.2 h⟩
 ·exact ⟨⟨⟨by omega,hb.1.2⟩,fun z hz=>hi.2 _ (hb.2 z hz)⟩,by omega⟩
 ·simp only [LN] at hle
  have e:i=100001:=by omega
  rw [← e]
  exact hi.2
 ·exact hb _ (.stop ⟨Int.le_refl _,ZG hh _ (by omega),fun y a c=>by omega⟩ (by rw [Vu (by omega)]; decide))
theorem Bt (r:ah) (aL:Int) (day:Int):(fun (x:Int × Int)=>((0≤aL∧aL < (r.aB.length:Int))∧(0≤day∧day≤100001)∧r.cj∧r.Small)→(dF r (bz r aL) (r.aB.getD aL.toNat default) day x)) (nm r aL day):=fun hP=>have h:=Sk.dc _ (Ng r aL day hP); h
theorem OZ (r:ah) (aL:Int) (day:Int) (hc:0≤aL∧aL < (r.aB.length:Int)) (hd:0≤day∧day≤100001) (hh:r.cj) (hr:r.Small):(lZ r aL day).bq (fun _=>True):=by
 simp only [aw.Small,ah.Small,ah.cj] at hh
 simp only [aw.Small,ah.Small,ah.cj] at hr
 refine Sk.aO _ ?_
 unfold lZ
 simp only [Sk.gx,Sk.aD,reduceCtorEq,ON,kk,kp,Fi,eP,aw.Small,ah.Small,ah.cj,maxLen]
 refine ⟨hr,fun x _ hx=>?_⟩
 have hx:=hx hr.2.1
 subst hx
 refine ⟨⟨hd,fun x h=>h⟩,fun i hi=>⟨fun hle=>⟨⟨⟨⟨Nat.zero_le _,by omega,by omega,fun y a b=>by omega,fun q hq=>by omega⟩,fun j hj hl=>⟨fun uE=>⟨⟨⟨by omega,of_decide_eq_true uE⟩,fun _=>⟨by omega,of_decide_eq_true uE⟩,fun _=>⟨by omega,of_decide_eq_true uE⟩⟩,fun _=>⟨fun ht=>⟨⟨by omega,of_decide_eq_true uE⟩,fun _ _=>?_⟩,fun ht _=>?_⟩⟩,fun uE=>?_⟩⟩,fun b hb=>⟨⟨fun he=>⟨hc,fun y _ hy h1=>?_⟩,fun he=>?_⟩,fun b1 _ Hb h=>?_⟩⟩,fun b _ hb=>?_⟩,fun hle=>?_⟩⟩
 ·simp only [LN] at uE ht
  have h2:=hh j.2 (by omega)
  have hm:dk j.1 (aK ((r.ca.getD j.2 default).cr+1))=if j.1 < (r.ca.getD j.2 default).cr+1 then (r.ca.getD j.2 default).cr+1 else j.1:=by
   rw [aq (n:=(r.ca.getD j.2 default).cr+1) (by omega) (by omega)]; unfold dk; (repeat' split) <;> omega
  rw [hm]
  refine ⟨(aq (by omega) (by omega)).trans (by omega),⟨by omega,by split <;> omega,by split <;> omega,fun y a b=>?_,fun e=>by split at e <;> omega⟩,by omega⟩
  by_cases e:y < j.1
  ·exact hj.2.2.2.1 y a e
  ·exact Gk (i:=j.2) (by omega) ⟨ht.1.1,by omega,by split at b <;> omega⟩
 ·simp only [LN] at uE ht
  refine ⟨(aq (by omega) (by omega)).trans (by omega),⟨by omega,hj.2.1,hj.2.2.1,hj.2.2.2.1,fun e q hq=>?_⟩,by omega⟩
  rcases Nat.lt_succ_iff_lt_or_eq.1 hq with h1 | h1
  ·exact hj.2.2.2.2 e q h1
  ·subst h1
   omega
 ·simp only [LN] at uE
  exact ⟨hj.2.1,hj.2.2.1,hj.2.2.2.1,fun e=>Dn (fun q hq=>hj.2.2.2.2 e q (by omega))⟩
 ·simp only [LN] at he h1
  have hs:vP r (bz r aL) i i:=⟨Int.le_refl _,hb.2.2.2 he,fun y a c=>by omega⟩
  have hp:=pN (r.aB.getD aL.toNat default) i
  rw [← hy] at hp
  have hp:i≤y.1∧y.1≤100000:=hp h1
  rw [hy] at h1
  refine ⟨⟨hp.1,by omega⟩,fun e=>?_,fun e z hz=>?_⟩
  ·rw [hy] at e; exact .here hs h1 e
  ·rw [hy] at e hz; exact .go hs h1 e hz
 ·simp only [LN] at he
  exact ⟨⟨hb.1,hb.2.1⟩,fun e=>absurd e he,fun _ z hz=>hz.back hb.1 hb.2.2.1⟩
 ·simp only [LN] at h
  exact ⟨⟨by omega,Hb.1.2⟩,Hb.2.2 h⟩
 ·exact ⟨⟨⟨by omega,hb.1.2⟩,fun z hz=>hi.2 _ (hb.2 z hz)⟩,by omega⟩
 ·simp only [LN] at hle
  have e:i=100001:=by omega
  rw [← e]
  exact hi.2
def G1 r aL day:=kk tok mixed Tryz.func106 [av r.cells,iv aL,iv day] (fun x=>.fb [iv x.1,iv x.2]) true (lZ r aL day) (nm r aL day) (u4 (OZ r aL day)) (fun (x:Int × Int)=>((0≤aL∧aL < (r.aB.length:Int))∧(0≤day∧day≤100001)∧r.cj∧r.Small)→(dF r (bz r aL) (r.aB.getD aL.toNat default) day x)) (Bt r aL day)
def A3 (r:ah) (b:jX) (seen:Int) (cR:Int):Sk (Int × Int):=let az:=((((decide (b.aC.kind < 0))||(decide (b.aC.kind≥5)))||(decide (b.aC.unit < 0)))||(decide (b.aC.unit≥2)));
 .r 2 (.dep ((jQ r).c) fun x1=>.dep (.wh (x1 != 0) false ((Ff r b.aL).c)) fun x2=>.dep (.wh ((x1 != 0)||(!x2)) false ((Ff r b.rD).c)) fun x3=>.wh (((x1 != 0)||(!x2))||(!x3)) false ((dn b.day).c)) fun SP =>
 .br ((((SP.1 != 0)||(!SP.2.1))||(!SP.2.2.1))||(!SP.2.2.2))
 (.fin (0,1))
 (.r 4 (.wh az false (.wh (seen != (-1)) true ((dn seen).c))) fun x5 =>
 .br (((az||((seen != (-1))&&(!x5)))||(decide (cR < 0)))||(decide (cR > 20000)))
 (.fin (0,1))
 (.r 6 ((GY b.aC).c) fun x6 =>
 .br (x6&&(seen == (-1)))
 (.fin (0,4))
 (.bind false (fun _=>True)
 (.br (b.aC.kind == 4)
 (.r 9 ((lx r b.aL b.rD).c) fun x8 =>
 .br (x8.2 != 0)
 (.fin (.inl (0,4)))
 (.fin (.inr ())))
 (.fin (.inr ())))
 (fun (_:Unit)=>⟨[],[]⟩) fun _ =>
 .r 12 ((Nd r b seen).c) fun x9 =>
 .br ((decide (x9 < 0))||(decide ((aK (x9+cR)) > 100000)))
 (.fin (0,3))
 (.r 15 ((G1 r b.rD (aK (x9+cR))).c) fun Ju =>
 .fin (Ju.1,Ju.2)))))
def G2 r b seen cR:=(A3 r b seen cR).val
theorem XH (r:ah) (b:jX) (seen:Int) (cR:Int) (wD:r.cj) (aZ:r.Small):(A3 r b seen cR).bq (fun _=>True):=by
 refine Sk.aO _ ?_
 unfold A3
 simp only [Sk.gx,Sk.aD,reduceCtorEq,ON,kk,kp,dn,jQ,lx,Nd,GY,Ff,G1,gC,OV,Vp,forall_eq,maxLen]
 intro _ h1 h2 _ _ _ h3
 simp only [LN] at h1 h2 h3
 have hk:0≤b.aC.kind∧b.aC.kind < 5:=by omega
 have hr:=acd r b seen hk (by omega)
 rw [aq (by omega) (by omega)] at h3 ⊢
 exact ⟨by omega,⟨by omega,by omega⟩,wD,aZ⟩
def Qp r b seen cR:=kk tok mixed Tryz.func60 [av r.cells,av b.cells,iv seen,iv cR] (fun x=>.fb [iv x.1,iv x.2]) true (A3 r b seen cR) (G2 r b seen cR) (u2 (XH r b seen cR))
theorem VF {r:ah} {aL day:Int} (hc:0≤aL∧aL < (r.aB.length:Int)) (hd:0≤day∧day≤100001) (hh:r.cj) (hr:r.Small):nm r aL day=ln r aL day:=by
 have h1:dF r (bz r aL) (r.aB.getD aL.toNat default) day (nm r aL day):=Bt r aL day ⟨hc,hd,hh,hr⟩
 have h2:=(xr r aL day ⟨hc,hd,hh⟩).2
 exact h1.uniq h2
theorem XI (r:ah) (b:jX) (seen cR:Int):G2 r b seen cR =
  bif (((kQ r != 0)||(!(C0 r b.aL)))||(!(C0 r b.rD)))||(!(jr b.day)) then (0,1)
  else bif ((((((decide (b.aC.kind < 0))||(decide (b.aC.kind≥5)))||(decide (b.aC.unit < 0)))||(decide (b.aC.unit≥2)))||((seen != (-1))&&(!(jr seen))))||(decide (cR < 0)))||(decide (cR > 20000)) then (0,1)
  else bif A0 b.aC&&(seen == (-1)) then (0,4)
  else bO (bif b.aC.kind == 4 then (bif (g4 r b.aL b.rD).2 != 0 then .inl (0,4) else .inr ()) else .inr ()) fun _ =>
   bif (decide (o9 r b seen < 0))||(decide ((aK (o9 r b seen+cR)) > 100000)) then (0,3) else ((nm r b.rD (aK (o9 r b seen+cR))).1,(nm r b.rD (aK (o9 r b seen+cR))).2):=by kernel_rfl
theorem Ss (r:ah) (b:jX) (seen cR:Int):Dp r b seen cR =
  bif (((m8 r != 0)||(!(qF r b.aL)))||(!(qF r b.rD)))||(!(qb b.day)) then (0,1)
  else bif (((decide (b.aC.kind < 0))||(decide (b.aC.kind≥5)))||(decide (b.aC.unit < 0)))||(decide (b.aC.unit≥2)) then (0,1)
  else bif (((seen != (-1))&&(!(qb seen)))||(decide (cR < 0)))||(decide (cR > 20000)) then (0,1)
  else bif uN b.aC&&(seen == (-1)) then (0,4)
  else bif (m9 r b seen).2 != 0 then (0,(m9 r b seen).2)
  else bif (!(qb (m9 r b seen).1))||(decide ((aK ((m9 r b seen).1+cR)) > 100000)) then (0,3)
  else ((ln r b.rD (aK ((m9 r b seen).1+cR))).1,(ln r b.rD (aK ((m9 r b seen).1+cR))).2):=by kernel_rfl
theorem O0 (d n:Int):(cC d n).2=0∨(cC d n).2=3:=by
 by_cases h:0≤d∧d≤100000
 ·by_cases h2:0≤n∧n≤5000
  ·rw [A2 h2,if_pos h]
   unfold G0 Nb
   split
   ·exact .inl rfl
   ·exact .inr rfl
  ·by_cases h3:n > 5000
   ·rw [s9 (.inr h3)]; exact .inr rfl
   ·simp only [cC,eH,Sk.cE,Sk.bK,Sk.bg,fD.wG,kk,kp,bH.Lw,dX,kF,jF,vO]
    cases (((!(bF d))||(decide (n < (-5000))))||(decide (n > 5000))) with
    | true=>exact .inr rfl
    | false =>
     simp only [cond_false]
     rw [ab6]
     unfold Nb
     split
     ·exact .inl rfl
     ·exact .inr rfl
 ·rw [s9 (.inl h)]; exact .inr rfl
theorem ach (r:ah) (b:jX) (seen:Int) (hk:b.aC.kind≠4):(nk r b seen).2=0∨(nk r b seen).2=3:=by
 have ha:∀ d,(Iq d b.aC).2=0∨(Iq d b.aC).2=3:=fun d=>by
  unfold Iq
  cases ((decide (b.aC.n < 0))||(decide (b.aC.n > 20000))) with
  | true=>exact .inr rfl
  | false =>
   cases (b.aC.unit == 1) with
   | true=>exact O0 _ _
   | false=>exact .inl rfl
 unfold nk
 rw [beq_eq_false_iff_ne.2 hk]
 cases (b.aC.kind == 0) with
 | true=>exact .inl rfl
 | false =>
  cases (b.aC.kind == 1) with
  | true=>exact ha _
  | false =>
   cases (b.aC.kind == 2) with
   | true=>exact ha _
   | false=>exact .inl rfl
theorem XJ (r:ah) (x y:Int):(cQ r x y).2=0∨(cQ r x y).2=4:=by
 rw [← I5]
 have e1:g4 r x y=walk (yz x y) (fun _=>(0,4)) r.aR ():=by
  simp only [g4,lW,Sk.cz,Sk.cY,Sk.ct,Sk.bK,Sk.cE,Sk.cV,Sk.bg]
  refine (bD r.aR (fun s i=>i) (yz x y) id _ (fun s i hi=>?_) (fun s=>?_) (by simp) ()).trans rfl
  ·rw [decide_eq_true (by omega),cond_true]
   unfold yz
   cases (((r.aR.getD i default).from_ == x)&&((r.aR.getD i default).cr == y)) <;> rfl
  ·rw [decide_eq_false (by omega),cond_false]
 rw [e1]
 generalize r.aR=l
 induction l with
 | nil=>exact .inr rfl
 | cons a t ih =>
  simp only [walk,yz]
  cases ((a.from_ == x)&&(a.cr == y)) with
  | true=>exact .inl rfl
  | false=>exact ih
theorem aci {r:ah} (b:jX) (seen cR:Int) (h1:m8 r=0) (h2:kQ r=0) (hh:r.cj) (hr:r.Small):G2 r b seen cR=Dp r b seen cR:=by
 have ec:∀ x,C0 r x=(decide (x≥0)&&decide (x < (r.aB.length:Int))):=fun _=>rfl
 have ei:∀ x,qF r x=(decide (x≥0)&&decide (x < (r.aB.length:Int))):=fun _=>rfl
 have ed:∀ x,qb x=(decide (x≥0)&&decide (x≤100000)):=fun _=>rfl
 have ev:∀ x,jr x=(decide (x≥0)&&decide (x≤100000)):=fun _=>rfl
 have es:A0 b.aC=((b.aC.kind == 0)||(b.aC.kind == 1)):=rfl
 have et:uN b.aC=((b.aC.kind == 0)||(b.aC.kind == 1)):=rfl
 have z:((0:Int) != 0)=false:=rfl
 rw [XI,Ss,h1,h2,z,ec,ec,ei,ei,ed,ed,ed,ev,ev,es,et]
 simp only [Bool.false_or]
 have hu:∀ x y,g4 r x y=cQ r x y:=fun x y=>uh r x y
 by_cases c1:(0≤b.aL∧b.aL < (r.aB.length:Int))∧(0≤b.rD∧b.rD < (r.aB.length:Int))∧(0≤b.day∧b.day≤100000)
 ·have a1:(((!(decide (b.aL≥0)&&decide (b.aL < (r.aB.length:Int))))||(!(decide (b.rD≥0)&&decide (b.rD < (r.aB.length:Int)))))||(!(decide (b.day≥0)&&decide (b.day≤100000))))=false:=by simp only [LN]; omega
  rw [a1,cond_false,cond_false]
  by_cases c2:(0≤b.aC.kind∧b.aC.kind < 5)∧(0≤b.aC.unit∧b.aC.unit < 2)
  ·have a2:((((decide (b.aC.kind < 0))||(decide (b.aC.kind≥5)))||(decide (b.aC.unit < 0)))||(decide (b.aC.unit≥2)))=false:=by simp only [LN]; omega
   rw [a2,cond_false,Bool.false_or]
   cases c3:((((seen != (-1))&&(!(decide (seen≥0)&&decide (seen≤100000))))||(decide (cR < 0)))||(decide (cR > 20000))) with
   | true=>rfl
   | false =>
    simp only [cond_false]
    cases c4:(((b.aC.kind == 0)||(b.aC.kind == 1))&&(seen == (-1))) with
    | true=>rfl
    | false =>
     simp only [cond_false]
     have hg:0≤cR∧cR≤20000:=by simp only [LN] at c3; omega
     rw [Nf r b seen c2.1,adl,hu]
     have fin:(nk r b seen).2=0∨(nk r b seen).2=3→(bif (decide (C3 (nk r b seen) < 0))||(decide ((aK (C3 (nk r b seen)+cR)) > 100000)) then ((0:Int),(3:Int)) else ((nm r b.rD (aK (C3 (nk r b seen)+cR))).1,(nm r b.rD (aK (C3 (nk r b seen)+cR))).2)) =
       bif (nk r b seen).2 != 0 then (0,(nk r b seen).2) else bif (!(decide ((nk r b seen).1≥0)&&decide ((nk r b seen).1≤100000)))||(decide ((aK ((nk r b seen).1+cR)) > 100000)) then (0,3) else ((ln r b.rD (aK ((nk r b seen).1+cR))).1,(ln r b.rD (aK ((nk r b seen).1+cR))).2):=fun he=>by
      generalize nk r b seen=p at he
      unfold C3
      rcases he with he | he
      ·rw [he]
       have e0:((0:Int) != 0)=false:=rfl
       rw [e0,Bool.false_or,cond_false]
       by_cases c5:0≤p.1∧p.1≤100000
       ·have a5:(!(decide (p.1≥0)&&decide (p.1≤100000)))=false:=by simp only [LN]; omega
        have a6:decide (p.1 < 0)=false:=decide_eq_false (by omega)
        rw [a5,cond_false,Bool.false_or,a6,Bool.false_or,aq (by omega) (by omega)]
        by_cases c6:p.1+cR > 100000
        ·rw [decide_eq_true c6]; rfl
        ·rw [decide_eq_false c6,VF c1.2.1 ⟨by omega,by omega⟩ hh hr]
       ·have a5:(!(decide (p.1≥0)&&decide (p.1≤100000)))=true:=by simp only [LN]; omega
        rw [a5]; rfl
      ·rw [he]; rfl
     by_cases c7:b.aC.kind=4
     ·have a7:(b.aC.kind == 4)=true:=beq_iff_eq.2 c7
      have eb:(nk r b seen).2=(cQ r b.aL b.rD).2:=by unfold nk; rw [c7]; rfl
      rw [a7,cond_true]
      rcases XJ r b.aL b.rD with hU | hU
      ·have:=fin (.inl (eb.trans hU))
       rw [hU]
       exact this
      ·rw [eb,hU]; rfl
     ·have a7:(b.aC.kind == 4)=false:=beq_eq_false_iff_ne.2 c7
      rw [a7,cond_false]
      exact fin (ach r b seen c7)
  ·have a2:((((decide (b.aC.kind < 0))||(decide (b.aC.kind≥5)))||(decide (b.aC.unit < 0)))||(decide (b.aC.unit≥2)))=true:=by simp only [LN]; omega
   rw [a2]; rfl
 ·have a1:(((!(decide (b.aL≥0)&&decide (b.aL < (r.aB.length:Int))))||(!(decide (b.rD≥0)&&decide (b.rD < (r.aB.length:Int)))))||(!(decide (b.day≥0)&&decide (b.day≤100000))))=true:=by simp only [LN]; omega
  rw [a1]; rfl
def pE (r:ah) (ai:Int) (f:aw) (day:Int):Sk (Int) :=
 .r 1 ((rb f day).c) fun x1 =>
 .br (((x1.af.length:Nat):Int) == 0)
 (.fin (-1))
 (.r 4 (.dep ((M8 r ai 6 f day).c) fun x2=>(GW x2).c) fun p8 =>
 .bind false (fun _=>True)
 (.br (p8.2 == (-1))
 (.fin (.inr 0))
 (.fin (.inr p8.2)))
 (fun (b4:Int)=>⟨[(10,iv b4)],[]⟩) fun b4 =>
 .r 7 (.dep ((M9 x1).c) fun x5=>(Qp r f.aM x5 b4).c) fun p7 =>
 .br (p7.2.2 != 0)
 (.fin (-1))
 (.fin p7.2.1))
def nZ r ai f day:=(pE r ai f day).val
theorem Kh (r:ah) (ai:Int) (f:aw) (day:Int) (bn:f.Small) (aZ:r.Small) (bV:r.cx) (nY:r.uq) (wD:r.cj):(pE r ai f day).bq (fun _=>True):=by
 simp only [aw.Small,ah.Small,ah.cx,ah.cj] at bn
 simp only [aw.Small,ah.Small,ah.cx,ah.cj] at aZ
 simp only [aw.Small,ah.Small,ah.cx,ah.cj] at bV
 simp only [aw.Small,ah.Small,ah.cx,ah.cj] at wD
 unfold pE
 try simp only [Qp,rb,M9,M8,GW,aw.Small,ah.Small,ah.cx,ah.cj]
 exact mH
def C4 r ai f day:=kk tok mixed Tryz.func29 [av r.cells,iv ai,av f.cells,iv day] (fun x=>iv x) true (pE r ai f day) (nZ r ai f day) (u5 (Kh r ai f day))
def Qq (p:List Int):Int:=p.getD (aK (((p.length:Nat):Int) - 1)).toNat default
def Qr (p:List Int) (e:Int):l7:=⟨⟨false,0⟩,-1,p,e⟩
theorem XK (r:ah) (fo q:Int) (c:cG):GV r fo q c =
  bif ((((dR r fo c).length:Nat):Int) == 0)||(!(rh q)) then Qr [] 1
  else bif ((rj r fo q (dR r fo c)).2 != 0)||((((rj r fo q (dR r fo c)).1.length:Nat):Int) == 0) then Qr (rj r fo q (dR r fo c)).1 (rj r fo q (dR r fo c)).2
  else ⟨(su (r.ak.getD (Qq (rj r fo q (dR r fo c)).1).toNat default) q (lY r c)).1,Qq (rj r fo q (dR r fo c)).1,(rj r fo q (dR r fo c)).1,
   (su (r.ak.getD (Qq (rj r fo q (dR r fo c)).1).toNat default) q (lY r c)).2⟩:=by kernel_rfl
theorem G3 (r:ah) (fo q:Int) (c:cG):F3 r fo q c =
  bif (((eO r c).2.length:Nat):Int) == 0 then (Qr [] 1,[]) else bif !(di q).2 then (Qr [] 1,[])
  else bif (gh r fo (eO r c).1).isEmpty then (Qr [] 1,[])
  else bif (bw r fo q (gh r fo (eO r c).1)).2 == 0 then (⟨⟨false,0⟩,Qq (bw r fo q (gh r fo (eO r c).1)).1,(bw r fo q (gh r fo (eO r c).1)).1,(bw r fo q (gh r fo (eO r c).1)).2⟩,(eO r c).2)
  else (Qr (bw r fo q (gh r fo (eO r c).1)).1 (bw r fo q (gh r fo (eO r c).1)).2,(eO r c).2):=by kernel_rfl
theorem KA (r:ah) (fo q:Int) (c:cG):Ab r fo q c=(fun x:l7 × List al=>bif x.1.order != (-1) then (⟨(fF (r.ak.getD x.1.order.toNat default) q x.2).1,x.1.order,x.1.path,(fF (r.ak.getD x.1.order.toNat default) q x.2).2⟩:l7) else x.1) (F3 r fo q c):=by kernel_rfl
theorem VG {r:ah} (hr:r.Small) (hb:r.cx) (hq:r.uq) (hC:r.LC) (fo q:Int) (c:cG):GV r fo q c=Ab r fo q c:=by
 have hl:∀ p,rj r fo q p=bw r fo q p:=fun p=>GQ r fo q p ⟨hb,hr,hq⟩
 rw [XK,KA,G3,hl,U4 hr.2.1 hC,AO r c hr.2.1,Jf]
 cases h0:((((eO r c).2.length:Nat):Int) == 0) with
 | true=>rfl
 | false =>
  simp only [cond_false]
  by_cases Yw:0≤q∧q < 22
  ·obtain ⟨t1,t2,t3⟩:=YM Yw
   rw [decide_eq_true Yw,t2]
   simp only [Bool.not_true,Bool.or_false,cond_false]
   generalize gh r fo (eO r c).1=P
   cases P with
   | nil=>rfl
   | cons y P =>
    have e1:((((y :: P).length:Nat):Int) == 0)=false:=by rw [beq_eq_false_iff_ne]; simp only [List.length_cons]; omega
    have e2:(y :: P).isEmpty=false:=rfl
    rw [e1,e2,cond_false,cond_false]
    have Vi:(bw r fo q (y :: P)).2=0→(bw r fo q (y :: P)).1.length≠0∧(∀ z,z∈(bw r fo q (y :: P)).1→0≤z∧z < r.ak.length)∧(bw r fo q (y :: P)).1.length≤r.ak.length+1:=xi r fo q (y :: P)
    generalize bw r fo q (y :: P)=L at Vi
    by_cases h2:L.2=0
    ·have hp:=Vi h2
     have e3:((L.2 != 0)||(((L.1.length:Nat):Int) == 0))=false:=by simp only [LN]; exact ⟨h2,by omega⟩
     have e4:(L.2 == 0)=true:=beq_iff_eq.2 h2
     rw [e3,e4,cond_false,cond_true]
     have Ut:=Kx hp.1 hp.2.1 (aK (((L.1.length:Nat):Int) - 1)).toNat
     have e5:(Qq L.1 != (-1))=true:=by rw [bne_iff_ne]; unfold Qq; omega
     simp only [e5,cond_true,Vh]
    ·have e3:((L.2 != 0)||(((L.1.length:Nat):Int) == 0))=true:=by rw [bne_iff_ne.2 h2]; rfl
     have e4:(L.2 == 0)=false:=beq_eq_false_iff_ne.2 h2
     rw [e3,e4]
     rfl
  ·rw [Vg Yw,decide_eq_false Yw]
   simp
   rfl
theorem VH (s:l7):wy s=mU s:=by
 have e1:wy s=bif (s.err == 0)&&s.cell.known then s.cell.n else -1:=rfl
 have e2:mU s=bif (s.err != 0)||(!s.cell.known) then -1 else s.cell.n:=rfl
 rw [e1,e2]
 unfold bne
 cases (s.err == 0) <;> cases s.cell.known <;> rfl
theorem agX (r:ah) (f:aw) (d s h de du:Int):eO r ⟨{ au f d with facts:=[] },s,h,de,du,d⟩=eO r ⟨{ f with facts:=[] },s,h,de,du,d⟩:=by
 have e:∀ g:aw,eO r ⟨g,s,h,de,du,d⟩=(⟨au g d,s,h,de,du,d⟩,xh r ⟨au g d,s,h,de,du,d⟩):=fun _=>rfl
 have ea:au { au f d with facts:=[] } d=au { f with facts:=[] } d:=by
  rw [eW,eW f d,eW { f with facts:=[] } d]
  simp only [B5,Uj,List.filter_nil]
 rw [e,e,ea]
theorem adn (r:ah) (fo q:Int) (f:aw) (d:Int):mT r fo q (au f d) d=mT r fo q f d:=by
 have e:∀ g:aw,mT r fo q g d=Ab r fo q ⟨{ g with facts:=[] },0,-1,-1,-1,d⟩:=fun _=>rfl
 rw [e,e,KA,KA,G3,G3,agX]
theorem aab {r:ah} (hr:r.Small) (hb:r.cx) (hq:r.uq) (hC:r.LC) (fo q:Int) (f:aw) (d:Int):CZ r fo q f d=mT r fo q f d:=by
 have e:∀ g:aw,mT r fo q g d=Ab r fo q ⟨{ g with facts:=[] },0,-1,-1,-1,d⟩:=fun _=>rfl
 have e2:∀ g:aw,CZ r fo q g d=GV r fo q ⟨{ g with facts:=[] },0,-1,-1,-1,d⟩:=fun _=>rfl
 rw [e,e2,VG hr hb hq hC]
theorem acj (r:ah) (fo:Int) (f:aw) (d:Int) : -1≤mU (mT r fo 6 f d)∧mU (mT r fo 6 f d)≤20000:=by
 have e:mT r fo 6 f d=Ab r fo 6 ⟨{ f with facts:=[] },0,-1,-1,-1,d⟩:=rfl
 have e2:∀ s:l7,mU s=bif (s.err != 0)||(!s.cell.known) then -1 else s.cell.n:=fun _=>rfl
 have hA:∀ (o:Order) (cs:List al),(fF o 6 cs).1.known=true→0≤(fF o 6 cs).1.n∧(fF o 6 cs).1.n≤20000:=fun o cs=>by
  have e2:fF o 6 cs=bif (j1 o 6).2 != 0 then (⟨false,0⟩,(j1 o 6).2) else
   (fun x:al=>bif ((di 6).1 == 0)&&x.known then (⟨x.known,fB (dk x.n 0) 20000⟩,0) else (x,0)) (rR (j1 o 6).1 cs):=by kernel_rfl
  have et:((di 6).1 == 0)=true:=by kernel_rfl
  rw [e2,et]
  cases ((j1 o 6).2 != 0) with
  | true=>intro h; cases h
  | false =>
   simp only [cond_false,Bool.true_and]
   generalize rR (j1 o 6).1 cs=x
   cases hk:x.known with
   | false=>intro h; simp only [cond_false] at h; rw [hk] at h; cases h
   | true =>
    intro _
    show 0≤fB (dk x.n 0) 20000∧fB (dk x.n 0) 20000≤20000
    unfold fB dk
    (repeat' split) <;> omega
 rw [e,KA,e2]
 generalize hx:F3 r fo 6 ⟨{ f with facts:=[] },0,-1,-1,-1,d⟩=x
 have hun:x.1.cell.known=false:=by
  rw [← hx,G3]
  cases (((eO r ⟨{ f with facts:=[] },0,-1,-1,-1,d⟩).2.length:Nat):Int) == 0 with
  | true=>rfl
  | false =>
   cases (di 6).2 with
   | false=>rfl
   | true =>
    cases (gh r fo (eO r ⟨{ f with facts:=[] },0,-1,-1,-1,d⟩).1).isEmpty with
    | true=>rfl
    | false =>
     cases ((bw r fo 6 (gh r fo (eO r ⟨{ f with facts:=[] },0,-1,-1,-1,d⟩).1)).2 == 0) <;> rfl
 dsimp only
 cases (x.1.order != (-1)) with
 | false=>simp only [cond_false,hun,Bool.not_false,Bool.or_true,cond_true]; omega
 | true =>
  simp only [cond_true]
  cases hk:(fF (r.ak.getD x.1.order.toNat default) 6 x.2).1.known with
  | false=>simp only [Bool.not_false,Bool.or_true,cond_true]; omega
  | true =>
   have:=hA _ _ hk
   cases ((fF (r.ak.getD x.1.order.toNat default) 6 x.2).2 != 0) with
   | true=>simp only [Bool.true_or,cond_true]; omega
   | false=>simp only [Bool.not_true,Bool.or_self,cond_false]; omega
theorem XL (r:ah) (fo:Int) (f:aw) (d:Int):nZ r fo f d =
  bif (((ui f d).af.length:Nat):Int) == 0 then -1 else
  bO (bif wy (CZ r fo 6 f d) == (-1) then .inr (0:Int) else .inr (wy (CZ r fo 6 f d))) fun g =>
  bif (G2 r f.aM (zE (ui f d)) g).2 != 0 then -1 else (G2 r f.aM (zE (ui f d)) g).1:=by kernel_rfl
def ah.G4 (r:ah):Prop:=r.Small∧r.cx∧r.uq∧r.LC∧r.cj∧m8 r=0∧kQ r=0
theorem O1 {r:ah} (h:r.G4) {f:aw} (hf:f.Small) (fo d:Int):nZ r fo f d=dY r fo f d:=by
 obtain ⟨hr,hb,hq,hC,hh,h1,h2⟩:=h
 have ea:ui f d=au f d:=CP f d
 have eb:(au f d).aM=f.aM:=by rw [eW]
 rw [XL,Uv,ea,adn,VH,aab hr hb hq hC,Z8 _ (qy hf d),eb]
 have hg:=acj r fo f d
 generalize mU (mT r fo 6 f d)=n at hg ⊢
 have en:(bif n == (-1) then (Sum.inr 0:Int ⊕ Int) else .inr n)=.inr (dk n 0):=by
  unfold dk
  by_cases c:n = -1
  ·subst c; rfl
  ·rw [beq_eq_false_iff_ne.2 c]
   show Sum.inr n=_
   congr 1
   split <;> omega
 rw [en,cX,aci _ _ _ h1 h2 hh hr]
def A4 (s:l7):Sk (Int) :=
 .br ((s.err != 0)||(s.cell.known&&(s.cell.n == 0)))
 (.fin 0)
 (.br s.cell.known
 (.fin 1)
 (.fin 2))
def KB s:=(A4 s).val
theorem XM (s:l7):(A4 s).bq (fun _=>True):=by
 unfold A4
 exact mP
def Qs s:=kk tok mixed Tryz.func62 [av s.cells] (fun x=>iv x) true (A4 s) (KB s) (u0 (XM s))
theorem ack (s:l7):KB s=Dq s:=by
 have e1:KB s=bif (s.err != 0)||(s.cell.known&&(s.cell.n == 0)) then 0 else bif s.cell.known then 1 else 2:=rfl
 have e2:Dq s=bif s.err != 0 then 0 else bif !s.cell.known then 2 else bif s.cell.n != 0 then 1 else 0:=rfl
 rw [e1,e2]
 unfold bne
 cases (s.err == 0) <;> cases s.cell.known <;> cases (s.cell.n == 0) <;> rfl
def tT (now:aw) (kind:Int) (sign:Int):Sk (Int) :=
 .bt
 (.loop (default:Sum (Int) (Unit)) (fun i2=>i2≤now.facts.length) (fun i2=>now.facts.length - i2) (0:Nat)
 (fun (i2:Nat)=>⟨[(7,iv (i2:Int))],[]⟩) fun i2=>let az:=(now.facts.getD i2 default);
 .lt 3 18 i2 now.facts.length
 (.r 4 (.p (bM (i2:Int) now.facts.length)) fun _ =>
 .br (((az.kind) == kind)&&((az.at_) == sign))
 (.br ((az.n) != 0)
 (.fin (.inl (.inl 1)))
 (.fin (.inl (.inl 0))))
 (.nx 3 7 i2 (i2+1)))
 (.fin (.inl (.inr ()))))
 (fun (_:Unit)=>⟨[],[]⟩) fun _ =>
 .fin 2
def C6 now kind sign:=(tT now kind sign).val
theorem VI (now:aw) (kind:Int) (sign:Int):(tT now kind sign).bq (fun _=>True):=by
 unfold tT
 exact mH
def Fj now kind sign:=kk tok mixed Tryz.func66 [av now.cells,iv kind,iv sign] (fun x=>iv x) true (tT now kind sign) (C6 now kind sign) (u0 (VI now kind sign))
def A5 (a:Int) (b:Int):Sk (Int) :=
 .br ((a == 0)||(b == 0))
 (.fin 0)
 (.br ((a == 1)&&(b == 1))
 (.fin 1)
 (.fin 2))
def KC a b:=(A5 a b).val
theorem XN (a:Int) (b:Int):(A5 a b).bq (fun _=>True):=by
 unfold A5
 exact mP
def Qt a b:=kk tok mixed Tryz.func65 [iv a,iv b] (fun x=>iv x) true (A5 a b) (KC a b) (u0 (XN a b))
def DE (a:Int) (b:Int):Sk (Int) :=
 .br ((a == 1)||(b == 1))
 (.fin 1)
 (.br ((a == 0)&&(b == 0))
 (.fin 0)
 (.fin 2))
def Su a b:=(DE a b).val
theorem aac (a:Int) (b:Int):(DE a b).bq (fun _=>True):=by
 unfold DE
 exact mP
def VJ a b:=kk tok mixed Tryz.func64 [iv a,iv b] (fun x=>iv x) true (DE a b) (Su a b) (u0 (aac a b))
def tc (r:ah) (ai:Int) (now:aw) (link:Int) (last:Int) (due:Int) (day:Int):Sk (Int) :=
 .r 2 (.dep ((DC r ai 3 ({ file:=now,sign:=link,cL:=last,gy:=(-1),due:=due,day:=day }:cG)).c) fun x1=>(Qs x1).c) fun p8 =>
 .r 3 (.dep ((Fj now 0 link).c) fun x3=>.dep ((Fj now 2 link).c) fun x4=>.dep ((Qt x3 x4).c) fun x5=>(VJ x5 p8.2).c) fun p7 =>
 .fin p7.2.2.2
def wE r ai now link last due day:=(tc r ai now link last due day).val
theorem O2 (r:ah) (ai:Int) (now:aw) (link:Int) (last:Int) (due:Int) (day:Int) (VK:now.Small) (aZ:r.Small) (bV:r.cx) (nY:r.uq):(tc r ai now link last due day).bq (fun _=>True):=by
 simp only [aw.Small,ah.Small,ah.cx] at VK
 simp only [aw.Small,ah.Small,ah.cx] at aZ
 simp only [aw.Small,ah.Small,ah.cx] at bV
 unfold tc
 try simp only [DC,Qs,Qt,VJ,Fj,aw.Small,ah.Small,ah.cx]
 exact mH
def G5 r ai now link last due day:=kk tok mixed Tryz.func30 [av r.cells,iv ai,av now.cells,iv link,iv last,iv due,iv day] (fun x=>iv x) true (tc r ai now link last due day) (wE r ai now link last due day) (u4 (O2 r ai now link last due day))
def tf (r:ah) (ai:Int) (f:aw) (part:Int) (day:Int):Sk ((List bI)) :=
 .r 1 (.o [.cU (dG bI.E ([]:List bI))]) fun _ =>
 .r 2 ((Em f day).c) fun x1 =>
 .r 3 ((Qf x1 part).c) fun x2 =>
 .br (((!x2)||(decide (ai < 0)))||(decide (ai≥((r.ak.length:Nat):Int))))
 (.fin ([]:List bI))
 (.r 5 ((rb f day).c) fun x3 =>
 .r 6 ((I9 f part day).c) fun x4=>let cF:=(aK (((x4.af.length:Nat):Int) - 1));
 .r 7 ((C4 r ai f day).c) fun x5 =>
 .bind true (fun b6=>b6.1.length≤x4.af.length)
 (.loop (default:Sum ((List bI)) ((List bI) × bI)) (fun i7=>i7.2.1≤x4.af.length∧i7.1.length≤i7.2.1) (fun i7=>x4.af.length - i7.2.1) ((([]:List bI),0,({ qj:=f.aM.fY,sign:=(-1),state:=1 }:bI)):(List bI) × Nat × bI)
 (fun (i7:(List bI) × Nat × bI)=>⟨[(11,ow 100006 i7.1),(17,iv (i7.2.1:Int))],[(100006,cp 74 3 bI.cells i7.1),(16,.box (i7.2.2.cells.map .d))]⟩) fun i7=>let aV:=(x4.af.getD i7.2.1 default); let az:=(bM (i7.2.1:Int) x4.af.length);
 .lt 14 0 i7.2.1 x4.af.length
 (.r 12 (.aj (.p az) (.aj (.p (bM cF x4.af.length)) ((G5 r ai x3 aV (x4.af.getD (cF.toNat) default) x5 day).c))) fun x8 =>
 .br (x8 == 0)
 (.r 14 (.aj (.o [.cU (dG bI.E [i7.2.2])]) (.aj (.o [.cU (kx bI.E i7.1 [i7.2.2])]) (.aj (.t (bI.E.k6 [i7.2.2])) (.p (uG i7.1.length [i7.2.2].length 24))))) fun _ =>
 .fin (.inl (.inl (i7.1++[i7.2.2]))))
 (.bind false (fun b9=>b9.1.length≤i7.1.length+1)
 (.br (x8 == 2)
 (.r 17 (.aj (.o [.cU (dG bI.E [{ i7.2.2 with state:=2 }])]) (.aj (.o [.cU (kx bI.E i7.1 [{ i7.2.2 with state:=2 }])]) (.aj (.t (bI.E.k6 [{ i7.2.2 with state:=2 }])) (.p (uG i7.1.length [{ i7.2.2 with state:=2 }].length 24))))) fun _ =>
 .fin (.inr (i7.1++[{ i7.2.2 with state:=2 }],2)))
 (.fin (.inr (i7.1,i7.2.2.state))))
 (fun (b9:(List bI) × Int)=>⟨[(11,ow 100008 b9.1)],[(100008,cp 74 3 bI.cells b9.1),(16,.box [iv i7.2.2.qj,iv i7.2.2.sign,iv b9.2])]⟩) fun b9 =>
 .r 18 (.aj (.p az) (.p (bM aV x3.af.length))) fun _ =>
 .r 19 (.p az) fun _ =>
 .r 11 .z fun _ =>
 .wi 17 (aK ((i7.2.1:Int)+1)) ((i7.2.1+1:Nat):Int) <|
 .fin (.inr (b9.1,i7.2.1+1,({ qj:=(x3.af.getD (aV.toNat) default).cr,sign:=x4.af.getD i7.2.1 default,state:=b9.2 }:bI)))))
 (.fin (.inl (.inr (i7.1,i7.2.2)))))
 (fun (b6:(List bI) × bI)=>⟨[(11,ow 100004 b6.1)],[(100004,cp 74 3 bI.cells b6.1),(16,.box (b6.2.cells.map .d))]⟩) fun b6 =>
 .r 20 (.aj (.o [.cU (dG bI.E [b6.2])]) (.aj (.o [.cU (kx bI.E b6.1 [b6.2])]) (.aj (.t (bI.E.k6 [b6.2])) (.p (uG b6.1.length [b6.2].length 24))))) fun _ =>
 .fin (b6.1++[b6.2]))
def A6 r ai f part day:=(tf r ai f part day).val
theorem O3 (r:ah) (ai:Int) (f:aw) (part:Int) (day:Int) (hF:dK r f) (bn:f.Small) (aZ:r.Small) (bV:r.cx) (nY:r.uq) (wD:r.cj):(tf r ai f part day).bq (fun _=>True):=by
 refine Sk.aO _ ?_
 unfold tf
 simp only [Sk.gx,Sk.aD,reduceCtorEq,ON,kk,kp,I9,rb,C4,Em,Qf,G5,maxLen]
 intro _
 refine ⟨bn,fun l _ _ b _ _ _=>⟨bn,fun now _ Cz=>⟨bn,fun ch _ hch=>⟨⟨bn,aZ,bV,nY,wD⟩,fun due _=>?_⟩⟩⟩⟩
 have hc:=HT f part day
 dsimp only at hc
 rw [← hch] at hc
 have ae0:=hF.2.1.1
 have hlen:ch.af.length≤40:=by have:=hc.1; omega
 have hg:∀ i,i < ch.af.length→0≤ch.af.getD i default∧ch.af.getD i default < (now.af.length:Int):=fun i hi=>by
  have h:=hc.2 _ (fX hi default)
  rw [Cz]
  exact ⟨h.1,hF.abl h.1 h.2.1 h.2.2⟩
 have ha:∀ (l:List bI) (o:bI),(l++[o]).length=l.length+1:=fun l o=>by simp
 have h1:∀ o:bI,[o].length=1:=fun _=>rfl
 have tV:now.Small:=by rw [Cz]; exact qy bn day
 refine ⟨⟨⟨Nat.zero_le _,by simp⟩,fun i hi hm=>⟨fun uE=>?_,fun _=>by omega⟩⟩,fun b hb=>?_⟩
 ·have gJ:i.2.1 < ch.af.length:=by have:=of_decide_eq_true uE; omega
  refine ⟨⟨⟨by omega,by omega⟩,⟨by rw [aq (by omega) (by omega)]; omega,by rw [aq (by omega) (by omega)]; omega⟩,tV,aZ,bV,nY⟩,fun p _=>⟨fun _=>?_,fun _=>⟨⟨fun _=>⟨?_,fun _=>?_⟩,fun _=>by omega⟩,fun b _ hb=>⟨⟨⟨by omega,by omega⟩,hg _ gJ⟩,fun _=>⟨⟨by omega,by omega⟩,fun _ _=>⟨(aq (by omega) (by omega)).trans (by omega),⟨by omega,by omega⟩,by omega⟩⟩⟩⟩⟩⟩
  ·rw [h1]; exact ⟨by omega,by omega⟩
  ·rw [h1]; exact ⟨by omega,by omega⟩
  ·rw [ha]; omega
 ·rw [h1]; exact ⟨by omega,by omega⟩
def G6 r ai f part day:=kk tok mixed Tryz.func8 [av r.cells,iv ai,av f.cells,iv part,iv day] (fun x=>lv bI.cells x) false (tf r ai f part day) (A6 r ai f part day) (u6 (O3 r ai f part day))
def jS (a:List bI) (b:List bI):Sk (Bool) :=
 .br (((a.length:Nat):Int) != ((b.length:Nat):Int))
 (.fin false)
 (.bt
 (.loop (default:Sum (Bool) (Unit)) (fun i2=>i2≤a.length) (fun i2=>a.length - i2) (0:Nat)
 (fun (i2:Nat)=>⟨[(5,iv (i2:Int))],[]⟩) fun i2=>let aV:=(b.getD i2 default); let az:=(a.getD i2 default);
 .lt 0 0 i2 a.length
 (.r 6 (.aj (.p (bM (i2:Int) a.length)) (.p (bM (i2:Int) b.length))) fun _ =>
 .br (!(((az.qj) == (aV.qj))&&(((az.sign) == (aV.sign))&&(((az.state) == (aV.state))&&true))))
 (.fin (.inl (.inl false)))
 (.nx 5 5 i2 (i2+1)))
 (.fin (.inl (.inr ()))))
 (fun (_:Unit)=>⟨[],[]⟩) fun _ =>
 .fin true)
def ru a b:=(jS a b).val
theorem G7 (a:List bI) (b:List bI):(jS a b).bq (fun _=>True):=by
 unfold jS
 exact mH
def zG a b:=kk tok mixed Tryz.func6 [lv bI.cells a,lv bI.cells b] (fun x=>bv x) true (jS a b) (ru a b) (u0 (G7 a b))
def Ki (x:Int):Prop:=x=0∨x=1∨x=2
theorem YQ (a b:Int):Cq a b=bif (a == 0)||(b == 0) then 0 else bif (a == 2)||(b == 2) then 2 else 1:=by kernel_rfl
theorem aad (a b:Int):Ak a b=bif (a == 1)||(b == 1) then 1 else bif (a == 2)||(b == 2) then 2 else 0:=by kernel_rfl
theorem acm (a b:Int):KC a b=bif (a == 0)||(b == 0) then 0 else bif (a == 1)&&(b == 1) then 1 else 2:=by kernel_rfl
theorem ado (a b:Int):Su a b=bif (a == 1)||(b == 1) then 1 else bif (a == 0)&&(b == 0) then 0 else 2:=by kernel_rfl
theorem acn {a b:Int} (ha:Ki a) (hb:Ki b):KC a b=Cq a b:=by
 rw [YQ,acm]
 rcases ha with rfl | rfl | rfl <;> rcases hb with rfl | rfl | rfl <;> decide
theorem aae {a b:Int} (ha:Ki a) (hb:Ki b):Su a b=Ak a b:=by
 rw [aad,ado]
 rcases ha with rfl | rfl | rfl <;> rcases hb with rfl | rfl | rfl <;> decide
theorem aco {a b:Int} (ha:Ki a) (hb:Ki b):Ki (Cq a b):=by
 rw [YQ]
 unfold Ki
 rcases ha with rfl | rfl | rfl <;> rcases hb with rfl | rfl | rfl <;> decide
theorem adp (s:l7):Ki (Dq s):=by
 have e2:Dq s=bif s.err != 0 then 0 else bif !s.cell.known then 2 else bif s.cell.n != 0 then 1 else 0:=rfl
 rw [e2]
 unfold Ki
 cases (s.err != 0) <;> cases s.cell.known <;> cases (s.cell.n != 0) <;> decide
def Ir (c:al):Int:=bif !c.known then 2 else bif c.n == 0 then 0 else 1
theorem A7 (c:al):Ki (Ir c):=by
 unfold Ir Ki
 cases c.known <;> cases (c.n == 0) <;> decide
theorem Nh (b:Bool):Ir (dr b)=bif b then 1 else 0:=by
 have e:dr b=⟨true,bif b then 1 else 0⟩:=by cases b <;> rfl
 rw [e]
 cases b <;> rfl
theorem Ni {k s:Int}:∀ (l:List Fact) (i:Nat),i < l.length→((l.getD i default).kind=k∧(l.getD i default).at_=s)→(∀ q,q < i→¬ ((l.getD q default).kind=k∧(l.getD q default).at_=s))→walk (kA k s) (fun _=>(⟨false,0⟩:al)) l ()=dr ((l.getD i default).n != 0)
 | [],i,h,_,_=>absurd h (by simp)
 | x :: l,0,_,h2,_=>by
  have h2:x.kind=k∧x.at_=s:=h2
  simp only [walk]
  unfold kA
  rw [h2.1,h2.2,beq_self_eq_true,beq_self_eq_true]; rfl
 | x :: l,i+1,h,h2,h3=>by
  have h0:¬ (x.kind=k∧x.at_=s):=h3 0 (by omega)
  have:kA k s x ()=.inr ():=by
   unfold kA
   have:((x.kind == k)&&(x.at_ == s))=false:=by
    cases e:((x.kind == k)&&(x.at_ == s)) with
    | false=>rfl
    | true=>rw [Bool.and_eq_true,beq_iff_eq,beq_iff_eq] at e; exact absurd e h0
   rw [this]; rfl
  simp only [walk,this]
  exact Ni l i (by simpa using h) h2 fun q hq=>h3 (q+1) (by omega)
theorem Qu {k s:Int}:∀ (l:List Fact),(∀ x,x∈l→¬ (x.kind=k∧x.at_=s))→walk (kA k s) (fun _=>(⟨false,0⟩:al)) l ()=⟨false,0⟩
 | [],_=>rfl
 | x :: l,h=>by
  have:kA k s x ()=.inr ():=by
   unfold kA
   have:((x.kind == k)&&(x.at_ == s))=false:=by
    cases e:((x.kind == k)&&(x.at_ == s)) with
    | false=>rfl
    | true=>rw [Bool.and_eq_true,beq_iff_eq,beq_iff_eq] at e; exact absurd e (h x (by simp))
   rw [this]; rfl
  simp only [walk,this]
  exact Qu l fun y hy=>h y (by simp [hy])
theorem Qv (v:View) (k s:Int):oJ v k s=Ir (gH v.now k s):=by
 have e:oJ v k s=(fun x1:Int=>bif decide (x1 < 0) then 2 else bif ((v.now.facts.getD x1.toNat default).n) == 0 then 0 else 1) (jL v.now.facts k s):=by kernel_rfl
 have c1:∀ x:Fact,cM x k s=((x.kind == k)&&(x.at_ == s)):=fun x=>rfl
 have hc:∀ x:Fact,cM x k s=true↔(x.kind=k∧x.at_=s):=fun x=>by rw [c1,Bool.and_eq_true,beq_iff_eq,beq_iff_eq]
 rw [e,Re]
 rcases wO v.now.facts k s with ⟨h1,h2⟩ | ⟨h1,h2,h3,h4⟩
 ·rw [h1,Qu v.now.facts (fun x hx hh=>?_)]
  ·rfl
  ·obtain ⟨i,hi,rfl⟩:=List.getElem_of_mem hx
   have:=h2 i hi
   rw [show v.now.facts.getD i default=v.now.facts[i] by simp [List.getD,hi],(hc _).2 hh] at this
   exact absurd this (by decide)
 ·generalize jL v.now.facts k s=x at *
  rw [Ni v.now.facts x.toNat (by omega) ((hc _).1 h3) (fun q hq hh=>by have e4:=h4 q hq; rw [(hc _).2 hh] at e4; exact absurd e4 (by decide)),Nh]
  dsimp only
  rw [decide_eq_false (by omega),cond_false]
  unfold bne
  cases (v.now.facts.getD x.toNat default).n == 0 <;> rfl
def G8 (k s:Int) (x:Fact) (_:Unit):Int ⊕ Unit:=bif (x.kind == k)&&(x.at_ == s) then .inl (bif x.n != 0 then 1 else 0) else .inr ()
theorem Qw (k s:Int):∀ l:List Fact,walk (G8 k s) (fun _=>(2:Int)) l ()=Ir (walk (kA k s) (fun _=>(⟨false,0⟩:al)) l ())
 | []=>rfl
 | x :: l=>by
  have ih:=Qw k s l
  simp only [walk]
  unfold G8 kA
  cases (x.kind == k)&&(x.at_ == s) with
  | true=>simp only [cond_true]; rw [Nh]
  | false=>simp only [cond_false]; exact ih
theorem Qx (f:aw) (k s:Int):C6 f k s=Ir (gH f k s):=by
 rw [Re,← Qw]
 simp only [C6,tT,Sk.cz,Sk.cY,Sk.ct,Sk.bK,Sk.cE,Sk.cV,Sk.bg]
 refine (bD f.facts (fun s i=>i) (G8 k s) id _ (fun u i hi=>?_) (fun u=>?_) (by simp) ()).trans rfl
 ·rw [decide_eq_true (by omega),cond_true]
  unfold G8
  cases (((f.facts.getD i default).kind == k)&&((f.facts.getD i default).at_ == s)) with
  | false=>rfl
  | true=>cases ((f.facts.getD i default).n != 0) <;> rfl
 ·rw [decide_eq_false (by omega),cond_false]
theorem VL {r:ah} (h:r.G4) (fo:Int) (f now:aw) (l la due day:Int) (ld:List Int):wE r fo now l la due day=bU ⟨⟨f,now,day,ld⟩,r,fo,due⟩ l la:=by
 have e1:wE r fo now l la due day=Su (KC (C6 now 0 l) (C6 now 2 l)) (KB (GV r fo 3 ⟨now,l,la,-1,due,day⟩)):=by kernel_rfl
 have e2:bU ⟨⟨f,now,day,ld⟩,r,fo,due⟩ l la=Ak (Cq (oJ ⟨f,now,day,ld⟩ 0 l) (oJ ⟨f,now,day,ld⟩ 2 l)) (Dq (Ab r fo 3 ⟨now,l,la,-1,due,day⟩)):=by kernel_rfl
 rw [e1,e2,Qx,Qx,Qv,Qv,ack,VG h.1 h.2.1 h.2.2.1 h.2.2.2.1,acn (A7 _) (A7 _)]
 exact aae (aco (A7 _) (A7 _)) (adp _)
def KD (P:Int→Int) (T:Int→Int) (x:Int) (s:List bI × bI):List bI ⊕ (List bI × bI) :=
 bif P x == 0 then .inl (s.1++[s.2]) else bif P x == 2 then .inr (s.1++[{ s.2 with state:=2 }],⟨T x,x,2⟩) else .inr (s.1,⟨T x,x,s.2.state⟩)
theorem Nj (c:gG) (last:Int):∀ (l:List Int) (s:List bI) (o:bI),walk (KD (fun x=>bU c x last) (fun x=>(c.view.now.af.getD x.toNat default).cr)) (fun s=>s.1++[s.2]) l (s,o)=s++nK c last l o
 | [],s,o=>rfl
 | x :: l,s,o=>by
  have st:∀ P T:Int→Int,KD P T x (s,o)=bif P x == 0 then .inl (s++[o]) else bif P x == 2 then .inr (s++[{ o with state:=2 }],⟨T x,x,2⟩) else .inr (s,⟨T x,x,o.state⟩):=fun _ _=>rfl
  simp only [walk,nK,st]
  cases c0:bU c x last == 0 with
  | true=>rfl
  | false =>
   simp only [cond_false]
   cases c2:bU c x last == 2 with
   | true=>simp only [cond_true]; rw [Nj c last l]; simp
   | false=>simp only [cond_false]; exact Nj c last l s _
theorem XO (c:gG) (aI:List Int):mF c aI=bC c aI:=by
 have k:∀ (l s:List bI),ou (fun (s:List bI) (y:bI)=>(.inr (s++[y]):Unit ⊕ List bI)) l s=.inr (s++l):=by
  intro l
  induction l with
  | nil=>intro s; simp [ou]
  | cons y l ih=>intro s; simp only [ou]; rw [ih]; simp
 simp only [mF,gI,Sk.cE,Sk.bg,fD.wG,kk,kp,ji,qg,dQ,Sk.WM,ef]
 rw [k]
 simp
theorem VM {r:ah} (h:r.G4) {f:aw} (hf:f.Small) (fo part day:Int) (hp:∀ q,q < (au f day).af.length→0≤((au f day).af.getD q default).part∧((au f day).af.getD q default).part < 4):A6 r fo f part day=AK r fo f part day:=by
 have e1:A6 r fo f part day=bif (((!(GK (tG f day) part))||(decide (fo < 0)))||(decide (fo≥((r.ak.length:Nat):Int)))) then [] else
   bO (iter (fun i:List bI × Nat × bI=>bif decide (((i.2.1:Nat):Int) < (((kR f part day).af.length:Nat):Int)) then
    (bif wE r fo (ui f day) ((kR f part day).af.getD i.2.1 default) (ki (kR f part day).af) (nZ r fo f day) day == 0 then .inl (.inl (i.1++[i.2.2])) else
     bO (bif wE r fo (ui f day) ((kR f part day).af.getD i.2.1 default) (ki (kR f part day).af) (nZ r fo f day) day == 2 then .inr (i.1++[{ i.2.2 with state:=2 }],2) else .inr (i.1,i.2.2.state))
      fun b9:List bI × Int=>.inr (b9.1,i.2.1+1,(⟨((ui f day).af.getD ((kR f part day).af.getD i.2.1 default).toNat default).cr,(kR f part day).af.getD i.2.1 default,b9.2⟩:bI)))
    else (.inl (.inr (i.1,i.2.2)):(List bI ⊕ (List bI × bI)) ⊕ (List bI × Nat × bI))) default ((kR f part day).af.length - 0+1) ([],0,⟨f.aM.fY,-1,1⟩)) fun b6=>b6.1++[b6.2]:=by kernel_rfl
 have e2:AK r fo f part day=(fun x1:gG × Bool=>bif (!x1.2)||(!(bP x1.1.view.lead part)) then [] else mF x1.1 (jJ x1.1.view.all part x1.1.view.day).af) (bB r fo f day):=by kernel_rfl
 have e3:bB r fo f day=bif (decide (fo < 0))||(decide (fo≥((r.ak.length:Nat):Int))) then (default,false) else (⟨bN f day,r,fo,dY r fo f day⟩,true):=by kernel_rfl
 have hl:tG f day=iD f day:=(Ic f day).2 hp
 have hc:GK (tG f day) part=bP (bN f day).lead part:=by
  rw [hl,Bool.eq_iff_iff]
  have a:GK (iD f day) part=true↔part∈iD f day:=RU _ _
  have b:bP (bN f day).lead part=true↔∃ q,q < (bN f day).lead.length∧((bN f day).lead.getD q default == part)=true:=mS _ _
  have e:iD f day=(bN f day).lead:=by kernel_rfl
  rw [a,b,e]
  constructor
  ·intro hm
   obtain ⟨q,hq,eq⟩:=List.getElem_of_mem hm
   exact ⟨q,hq,by rw [beq_iff_eq]; simp [List.getD,hq,eq]⟩
  ·rintro ⟨q,hq,eq⟩
   rw [beq_iff_eq] at eq
   rw [← eq]
   exact fX hq default
 have hm:nZ r fo f day=dY r fo f day:=O1 h hf fo day
 have ha:ui f day=au f day:=CP f day
 have hch:(kR f part day).af=(jJ f part day).af:=MS f part day
 rw [e1,e2,e3,hc,hm,ha,hch]
 cases k:(decide (fo < 0))||(decide (fo≥((r.ak.length:Nat):Int))) with
 | true =>
  have:((((!(bP (bN f day).lead part))||(decide (fo < 0)))||(decide (fo≥((r.ak.length:Nat):Int)))))=true:=by
   rw [Bool.or_assoc,k,Bool.or_true]
  rw [this]; rfl
 | false =>
  rw [Bool.or_assoc,k,Bool.or_false]
  simp only [cond_false,Bool.not_true,Bool.false_or]
  cases bP (bN f day).lead part with
  | false=>rfl
  | true =>
   simp only [Bool.not_true,cond_false]
   have pF:(bN f day).all=f:=by rw [Gx]
   have JS:(bN f day).day=day:=by rw [Gx]
   have Cz:(bN f day).now=au f day:=by rw [Gx]
   have aiT:(au f day).aM.fY=f.aM.fY:=by rw [Uk]
   rw [XO,pF,JS]
   generalize hL:(jJ f part day).af=aI
   have ow:=Nj ⟨bN f day,r,fo,dY r fo f day⟩ (ki aI) aI [] ⟨f.aM.fY,-1,1⟩
   have oc:bC ⟨bN f day,r,fo,dY r fo f day⟩ aI=nK ⟨bN f day,r,fo,dY r fo f day⟩ (ki aI) aI ⟨f.aM.fY,-1,1⟩:=by
    unfold bC
    dsimp only
    rw [Cz,aiT]
   rw [oc,← List.nil_append (nK _ _ _ _),← ow]
   refine Eq.trans (bD aI (fun (s:List bI × bI) i=>(s.1,i,s.2)) (KD (fun x=>bU ⟨bN f day,r,fo,dY r fo f day⟩ x (ki aI)) (fun x=>((bN f day).now.af.getD x.toNat default).cr)) id _ (fun s i hi=>?_) (fun s=>?_) (by omega) ([],(⟨f.aM.fY,-1,1⟩:bI))) rfl
   ·dsimp only
    have eo:(⟨f,au f day,day,(bN f day).lead⟩:View)=bN f day:=by rw [Gx]
    rw [decide_eq_true (by omega),cond_true,VL h fo f (au f day) _ _ _ day (bN f day).lead,eo,Cz]
    unfold KD
    cases bU ⟨bN f day,r,fo,dY r fo f day⟩ (aI.getD i default) (ki aI) == 0 with
    | true=>rfl
    | false =>
     simp only [cond_false]
     cases bU ⟨bN f day,r,fo,dY r fo f day⟩ (aI.getD i default) (ki aI) == 2 <;> rfl
   ·dsimp only
    rw [decide_eq_false (by omega),cond_false]; rfl
theorem Sv {γ δ ι:Type} (n:Nat) (st:Nat→ι) (P:γ→Prop) (u:δ) {f:ι→(γ ⊕ δ) ⊕ ι} {d:γ ⊕ δ} {g:δ→γ} (hs:∀ i,i < n→(∃ b,f (st i)=.inl (.inl b)∧P b)∨f (st i)=.inr (st (i+1))) (he:f (st n)=.inl (.inr u)) {m:Nat} (hm:n < m):P (bO (iter f d m (st 0)) g)∨((∀ i,i < n→f (st i)=.inr (st (i+1)))∧bO (iter f d m (st 0)) g=g u):=by
 have key:∀ c k m,k+c=n→c < m→P (bO (iter f d m (st k)) g)∨((∀ i,k≤i→i < n→f (st i)=.inr (st (i+1)))∧bO (iter f d m (st k)) g=g u):=by
  intro c
  induction c with
  | zero =>
   intro k m hk hm
   obtain ⟨m,rfl⟩:∃ q,m=q+1:=⟨m - 1,by omega⟩
   obtain rfl:k=n:=by omega
   simp only [iter,he,cX]
   exact .inr ⟨fun i h1 h2=>by omega,trivial⟩
  | succ c ih =>
   intro k m hk hm
   obtain ⟨m,rfl⟩:∃ q,m=q+1:=⟨m - 1,by omega⟩
   rcases hs k (by omega) with ⟨b,h1,h2⟩ | h1
   ·simp only [iter,h1,PQ]
    exact .inl h2
   ·simp only [iter,h1]
    rcases ih (k+1) m (by omega) (by omega) with h | ⟨h2,h3⟩
    ·exact .inl h
    ·refine .inr ⟨fun i h4 h5=>?_,h3⟩
     by_cases c1:i=k
     ·rw [c1]; exact h1
     ·exact h2 i (by omega) h5
 rcases key n 0 m (by omega) hm with h | ⟨h1,h2⟩
 ·exact .inl h
 ·exact .inr ⟨fun i hi=>h1 i (by omega) hi,h2⟩
theorem gT {γ δ ι:Type} (n:Nat) (st:Nat→ι) (u:δ) {f:ι→(γ ⊕ δ) ⊕ ι} {d:γ ⊕ δ} {g:δ→γ} {z:γ} {m:Nat} (h:bO (iter f d m (st 0)) g=z) (hs:∀ i,i < n→(∃ b,f (st i)=.inl (.inl b)∧b≠z)∨f (st i)=.inr (st (i+1))) (he:f (st n)=.inl (.inr u)) (hm:n < m):(∀ i,i < n→f (st i)=.inr (st (i+1)))∧g u=z:=by
 rcases Sv n st (fun b=>b≠z) u (d:=d) (g:=g) hs he hm with h1 | ⟨h1,h2⟩
 ·exact absurd h h1
 ·exact ⟨h1,h2.symm.trans h⟩
theorem mG {γ δ ι:Type} (n:Nat) (st:Nat→ι) (u:δ) {f:ι→(γ ⊕ δ) ⊕ ι} {d:γ ⊕ δ} {g:δ→γ} {m:Nat} (hs:∀ i,i < n→f (st i)=.inr (st (i+1))) (he:f (st n)=.inl (.inr u)) (hm:n < m):bO (iter f d m (st 0)) g=g u:=by
 rcases Sv n st (fun _=>False) u (d:=d) (g:=g) (fun i hi=>.inr (hs i hi)) he hm with h1 | ⟨_,h2⟩
 ·exact h1.elim
 ·exact h2
theorem gr {α:Type} {n:Nat} {a b:α}:(bif decide (((n:Nat):Int) < ((n:Nat):Int)) then a else b)=b:=by
 rw [decide_eq_false (by omega),cond_false]
theorem go_in {α:Type} {i n:Nat} (h:i < n) {a b:α}:(bif decide (((i:Nat):Int) < ((n:Nat):Int)) then a else b)=a:=by
 rw [decide_eq_true (by omega),cond_true]
theorem go1 {γ δ ι:Type} {i n:Nat} {c:Bool} {b z:γ} {j:ι} {a:(γ ⊕ δ) ⊕ ι} (h:i < n) (hb:c=true→b≠z):(∃ x,(bif decide (((i:Nat):Int) < ((n:Nat):Int)) then (bif c then .inl (.inl b) else .inr j) else a)=.inl (.inl x)∧x≠z)∨(bif decide (((i:Nat):Int) < ((n:Nat):Int)) then (bif c then .inl (.inl b) else .inr j) else a)=.inr j:=by
 rw [go_in h]
 cases c with
 | true=>exact .inl ⟨b,rfl,hb rfl⟩
 | false=>exact .inr rfl
theorem in1 {γ δ ι:Type} {i n:Nat} {c:Bool} {b:γ} {j:ι} {a:(γ ⊕ δ) ⊕ ι} (h:i < n) (e:(bif decide (((i:Nat):Int) < ((n:Nat):Int)) then (bif c then .inl (.inl b) else .inr j) else a)=.inr j):c=false:=by
 rw [go_in h] at e
 cases c with
 | true=>exact absurd e (by simp)
 | false=>rfl
theorem go2 {γ δ ι:Type} {i n:Nat} {c k:Bool} {b b2 z:γ} {j:ι} {a:(γ ⊕ δ) ⊕ ι} (h:i < n) (hb:c=true→b≠z) (Bb:b2≠z):(∃ x,(bif decide (((i:Nat):Int) < ((n:Nat):Int)) then (bif c then .inl (.inl b) else bif k then .inl (.inl b2) else .inr j) else a)=.inl (.inl x)∧x≠z)∨(bif decide (((i:Nat):Int) < ((n:Nat):Int)) then (bif c then .inl (.inl b) else bif k then .inl (.inl b2) else .inr j) else a)=.inr j:=by
 rw [go_in h]
 cases c with
 | true=>exact .inl ⟨b,rfl,hb rfl⟩
 | false=>cases k with
  | true=>exact .inl ⟨b2,rfl,Bb⟩
  | false=>exact .inr rfl
theorem in2 {γ δ ι:Type} {i n:Nat} {c k:Bool} {b b2:γ} {j:ι} {a:(γ ⊕ δ) ⊕ ι} (h:i < n) (e:(bif decide (((i:Nat):Int) < ((n:Nat):Int)) then (bif c then .inl (.inl b) else bif k then .inl (.inl b2) else .inr j) else a)=.inr j):c=false∧k=false:=by
 rw [go_in h] at e
 cases c with
 | true=>exact absurd e (by simp)
 | false=>cases k with
  | true=>exact absurd e (by simp)
  | false=>exact ⟨rfl,rfl⟩
theorem on1 {γ δ ι:Type} {i n:Nat} {c:Bool} {b:γ} {j:ι} {a:(γ ⊕ δ) ⊕ ι} (h:i < n) (e:c=false):(bif decide (((i:Nat):Int) < ((n:Nat):Int)) then (bif c then .inl (.inl b) else .inr j) else a)=.inr j:=by
 rw [go_in h,e,cond_false]
theorem on2 {γ δ ι:Type} {i n:Nat} {c k:Bool} {b b2:γ} {j:ι} {a:(γ ⊕ δ) ⊕ ι} (h:i < n) (e:c=false) (e2:k=false):(bif decide (((i:Nat):Int) < ((n:Nat):Int)) then (bif c then .inl (.inl b) else bif k then .inl (.inl b2) else .inr j) else a)=.inr j:=by
 rw [go_in h,e,cond_false,e2,cond_false]
theorem aaf (x lo up:Int):bm x lo up=(decide (lo≤x)&&decide (x≤up)):=rfl
theorem kU {x lo up:Int} (h:(!(bm x lo up))=false):lo≤x∧x≤up:=by
 rw [aaf] at h
 simpa using h
theorem aag {x n:Int} (h:0≤x∧x < n):iP x n=true:=by
 show (decide (x≥0)&&decide (x < n))=true
 simp [h.1,h.2]
theorem G9 {x:Int} {n:Nat} (h:(!(bm x 0 (aK ((n:Int) - 1))))=false) (hn:n≤1000000):iP x (n:Int)=true:=by
 have:=kU h
 rw [aq (by omega) (by omega)] at this
 exact aag ⟨this.1,by omega⟩
def YR (l:List Int) (lo up:Int):Prop:=∀ i,i < l.length→lo≤l.getD i default∧l.getD i default≤up∧(i≠0→l.getD (i - 1) default < l.getD i default)
theorem Nk {l:List Int} {lo up:Int} (h:rZ l lo up=true) (hb:up - lo≤500000):l.length≤1000000∧YR l lo up:=by
 have e:rZ l lo up=bO (iter (fun i2:Nat=>bif decide ((i2:Int) < ((l.length:Nat):Int)) then (bif !(bm (l.getD i2 default) lo up) then (.inl (.inl false)) else bif ((decide ((i2:Int) > 0))&&(decide ((l.getD ((aK ((i2:Int) - 1)).toNat) default)≥(l.getD i2 default)))) then .inl (.inl false) else .inr (i2+1)) else (.inl (.inr ()):(Bool ⊕ Unit) ⊕ Nat)) default (l.length - 0+1) 0) fun _=>true:=by kernel_rfl
 rw [e] at h
 have w:=(gT l.length (fun i=>i) () h (fun i hi=>go2 hi (fun _=>by decide) (by decide)) gr (by omega)).1
 have a:∀ i,i < l.length→i≤1000000→lo≤l.getD i default∧l.getD i default≤up∧(i≠0→l.getD (i - 1) default < l.getD i default):=fun i hi hm=>by
  have w2:=in2 hi (w i hi)
  have h1:=kU w2.1
  refine ⟨h1.1,h1.2,fun h0=>?_⟩
  have h2:=w2.2
  rw [aq (by omega) (by omega),show ((i:Int) - 1).toNat=i - 1 by omega,decide_eq_true (show (i:Int) > 0 by omega),Bool.true_and,decide_eq_false_iff_not] at h2
  omega
 have b:∀ i:Nat,i < l.length→i≤1000000→lo+i≤l.getD i default:=by
  intro i
  induction i with
  | zero=>intro h1 h2; have:=(a 0 h1 h2).1; omega
  | succ i ih =>
   intro h1 h2
   have h3:=ih (by omega) (by omega)
   have h4:=(a (i+1) h1 h2).2.2 (by omega)
   rw [Nat.add_sub_cancel] at h4
   omega
 have hl:l.length≤1000000:=by
  by_cases c:l.length≤1000000
  ·exact c
  ·have h1:=b 1000000 (by omega) (by omega)
   have h2:=(a 1000000 (by omega) (by omega)).2.1
   omega
 exact ⟨hl,fun i hi=>a i hi (by omega)⟩
theorem zH {l:List Int} {lo up:Int} (h:YR l lo up) (hl:l.length≤1000000):jB l lo up=true:=by
 have e:jB l lo up=bO (iter (fun i2:Nat=>bif decide ((i2:Int) < ((l.length:Nat):Int)) then (bif (((decide ((l.getD i2 default) < lo))||(decide ((l.getD i2 default) > up)))||((decide ((i2:Int) > 0))&&(decide ((l.getD i2 default)≤(l.getD ((aK ((i2:Int) - 1)).toNat) default))))) then .inl (.inl false) else .inr (i2+1)) else (.inl (.inr ()):(Bool ⊕ Unit) ⊕ Nat)) default (l.length - 0+1) 0) fun _=>true:=by kernel_rfl
 rw [e]
 refine mG l.length (fun i=>i) () (fun i hi=>on1 hi ?_) gr (by omega)
 obtain ⟨h1,h2,h3⟩:=h i hi
 simp only [Bool.or_eq_false_iff,Bool.and_eq_false_iff,decide_eq_false_iff_not]
 refine ⟨⟨by omega,by omega⟩,?_⟩
 by_cases c:i=0
 ·left; omega
 ·right
  rw [aq (by omega) (by omega),show ((i:Int) - 1).toNat=i - 1 by omega]
  have:=h3 c
  omega
theorem adq (bs:ByteArray):∀ (k i:Nat) (r:List UInt8),bs.size - i=k→(ByteArray.toList.loop bs i r).length=r.length+k:=by
 intro k
 induction k with
 | zero =>
  intro i r h
  unfold ByteArray.toList.loop
  rw [if_neg (by omega)]
  simp
 | succ k ih =>
  intro i r h
  unfold ByteArray.toList.loop
  rw [if_pos (by omega),ih _ _ (by omega)]
  simp; omega
theorem Nl (bs:ByteArray):bs.toList.length=bs.size:=by
 unfold ByteArray.toList
 rw [adq bs bs.size 0 [] rfl]; simp
theorem afd {s:ByteArray} (h:1≤s.size):(s.toList == (⟨#[]⟩:ByteArray).toList)=false:=by
 rw [beq_eq_false_iff_ne]
 intro e
 have:=congrArg List.length e
 rw [Nl,Nl] at this
 exact absurd this (by show s.size≠0; omega)
def afe (x:Int) (i:Nat):Bool:=(!(AD x))&&((((i:Nat):Int) == 0)||(!((x == 95)||((decide ((48:Int)≤x))&&(decide (x≤57))))))
def aff (x:Int) (i:Nat):Bool:=(!(((decide (x≥97))&&(decide (x≤122)))||((decide (x≥65))&&(decide (x≤90)))))&&((((i:Nat):Int) == 0)||((x != 95)&&((decide (x < 48))||(decide (x > 57)))))
theorem afg {x:Int} {i:Nat} (h:afe x i=false):aff x i=false:=by
 have hl:AD x=(((decide ((97:Int)≤x))&&(decide (x≤122)))||((decide ((65:Int)≤x))&&(decide (x≤90)))):=rfl
 unfold afe at h
 unfold aff
 rw [hl] at h
 rw [← h]
 congr 1
 congr 1
 rw [Bool.eq_iff_iff]
 simp
theorem aah {s:ByteArray} (h:wb s=true):uM s=true:=by
 have e1:wb s=bif (decide (((s.size:Nat):Int) < 1))||(decide (((s.size:Nat):Int) > 20)) then false else bO (iter (fun i2:Nat=>bif decide ((i2:Int) < ((s.size:Nat):Int)) then (bif afe ((s.data.toList.getD i2 0).toNat:Int) i2 then .inl (.inl false) else .inr (i2+1)) else (.inl (.inr ()):(Bool ⊕ Unit) ⊕ Nat)) default (s.size - 0+1) 0) fun _=>true:=by kernel_rfl
 have e2:uM s=bif (s.toList == (⟨#[]⟩:ByteArray).toList)||(decide (((s.size:Nat):Int) > 20)) then false else bO (iter (fun i2:Nat=>bif decide ((i2:Int) < (((l5 s).length:Nat):Int)) then (bif aff ((l5 s).getD i2 default) i2 then .inl (.inl false) else .inr (i2+1)) else (.inl (.inr ()):(Bool ⊕ Unit) ⊕ Nat)) default ((l5 s).length - 0+1) 0) fun _=>true:=by kernel_rfl
 rw [e1] at h
 cases hc:(decide (((s.size:Nat):Int) < 1))||(decide (((s.size:Nat):Int) > 20)) with
 | true=>rw [hc,cond_true] at h; exact absurd h (by decide)
 | false =>
  rw [hc,cond_false] at h
  simp only [Bool.or_eq_false_iff,decide_eq_false_iff_not] at hc
  have w:=(gT s.size (fun i=>i) () h (fun i hi=>go1 hi (fun _=>by decide)) gr (by omega)).1
  have hl:(l5 s).length=s.size:=by unfold l5; rw [List.length_map]; rfl
  rw [e2,afd (by omega),decide_eq_false hc.2,Bool.or_false,cond_false]
  refine mG (l5 s).length (fun i=>i) () (fun i hi=>on1 hi ?_) gr (by omega)
  have hi2:i < s.size:=by omega
  have hb:=in1 hi2 (w i hi2)
  have e:(l5 s).getD i default=((s.data.toList.getD i 0).toNat:Int):=by
   have gv:i < s.data.size:=hi2
   simp only [l5,List.getD,List.getElem?_map,Array.getElem?_toList,Array.getElem?_eq_getElem gv,Option.map_some,Option.getD_some]
  rw [e]
  exact afg hb
theorem aai {l:List ByteArray} {i:Nat} {s:ByteArray} (hi:i < l.length) (h:we l (i:Int) s=false):∀ q,q < i→((l.getD q default).toList == s.toList)=false:=by
 have e:we l (i:Int) s=bO (iter (fun i2:Nat=>bif ((decide ((i2:Int) < (i:Int)))&&(decide ((i2:Int) < ((l.length:Nat):Int)))) then (bif (l.getD i2 default).toList == s.toList then .inl (.inl true) else .inr (i2+1)) else (.inl (.inr ()):(Bool ⊕ Unit) ⊕ Nat)) default (l.length - 0+1) 0) fun _=>false:=by kernel_rfl
 rw [e] at h
 have V6:∀ q,q < i→((decide (((q:Nat):Int) < (i:Int)))&&(decide (((q:Nat):Int) < ((l.length:Nat):Int))))=true:=fun q hq=>by
  rw [decide_eq_true (by omega),decide_eq_true (by omega)]; rfl
 have w:=(gT i (fun i=>i) () h (fun q hq=>by
  rw [V6 q hq,cond_true]
  cases (l.getD q default).toList == s.toList with
  | true=>exact .inl ⟨true,rfl,by decide⟩
  | false=>exact .inr rfl) (by rw [decide_eq_false (by omega),Bool.false_and,cond_false]) (by omega)).1
 intro q hq
 have w1:=w q hq
 rw [V6 q hq,cond_true] at w1
 cases c:(l.getD q default).toList == s.toList with
 | true=>rw [c,cond_true] at w1; exact absurd w1 (by simp)
 | false=>rfl
theorem acp {l:List ByteArray} {s:ByteArray} (h:∀ q,q < l.length→((l.getD q default).toList == s.toList)=false):nH l s=false:=by
 have e:nH l s=decide (ye l s≥0):=rfl
 rw [e,decide_eq_false_iff_not]
 rcases ER l s with p | ⟨h1,h2,h3,-⟩
 ·rw [p.1]; decide
 ·rw [h _ (by omega)] at h3
  exact absurd h3 (by decide)
theorem Iu {l:List ByteArray} {i:Nat} (hi:i < l.length) (h:(fO l (i:Int) != 0)=false):wb (l.getD i default)=true∧∀ q,q < i→((l.getD q default).toList == (l.getD i default).toList)=false:=by
 have e:fO l (i:Int)=bif !(wb (l.getD i default)) then 2 else bif we l (i:Int) (l.getD i default) then 5 else 0:=rfl
 rw [bne_eq_false_iff_eq,e] at h
 cases c:wb (l.getD i default) with
 | false=>rw [c,Bool.not_false,cond_true] at h; exact absurd h (by decide)
 | true =>
  rw [c,Bool.not_true,cond_false] at h
  cases c2:we l (i:Int) (l.getD i default) with
  | true=>rw [c2,cond_true] at h; exact absurd h (by decide)
  | false=>exact ⟨rfl,aai hi c2⟩
theorem Nm {l:List ByteArray} {i:Nat} (h1:wb (l.getD i default)=true) (h2:∀ q,q < i→((l.getD q default).toList == (l.getD i default).toList)=false):(mX l (i:Int) != 0)=false:=by
 have e:mX l (i:Int)=bif !(uM (l.getD i default)) then 2 else bif nH (mO l 0 i) (l.getD i default) then 5 else 0:=rfl
 rw [e,aah h1,acp fun q hq=>?_]
 ·rfl
 ·have hq2:q < i:=by unfold mO at hq; rw [List.length_map,List.length_range] at hq; exact hq
  have:(mO l 0 i).getD q default=l.getD q default:=by simp [mO,List.getD,hq2]
  rw [this]
  exact h2 q hq2
def qk {α:Type} (f:Nat→α) (n:Nat):List α:=(List.range n).map f
theorem np {α:Type} (f:Nat→α) (n:Nat):(qk f n).length=n:=by simp [qk]
theorem ry {α:Type} [Inhabited α] {f:Nat→α} {n q:Nat} (h:q < n):(qk f n).getD q default=f q:=by simp [qk,List.getD,h]
theorem js {α:Type} (f:Nat→α) (n:Nat):qk f n++[f n]=qk f (n+1):=by simp [qk,List.range_succ]
theorem Fk {f:Nat→ByteArray} {i n:Nat} (hi:i < n) (h:(fO (qk f i++[f i]) (i:Int) != 0)=false):(mX (qk f n) (i:Int) != 0)=false:=by
 rw [js] at h
 have h1:=Iu (by rw [np]; omega) h
 rw [ry (by omega)] at h1
 refine Nm ?_ ?_
 ·rw [ry hi]; exact h1.1
 ·intro q hq
  have:=h1.2 q hq
  rw [ry (by omega)] at this
  rw [ry hi,ry (by omega)]; exact this
theorem aaj {r:ah} {c_:eB} (h:(!(oP r c_))=false) (ho:r.ak.length≤1000000) (hc:r.aY.length≤1000000):Ae r c_=true:=by
 have e1:oP r c_=bif ((((!(bm c_.order 0 (aK (((r.ak.length:Nat):Int) - 1))))||(!(bm c_.bj 0 (aK (((r.aY.length:Nat):Int) - 1)))))||(decide (((c_.cW.length:Nat):Int) > 60)))||(decide (((c_.shut.length:Nat):Int) > 200))) then false else
   bO (iter (fun i4:Nat=>bif decide ((i4:Int) < ((c_.cW.length:Nat):Int)) then (bif (!(bm (aK ((c_.cW.getD i4 default).tdiv 100)) 1 12))||(!(bm ((c_.cW.getD i4 default).tmod 100) 1 31)) then .inl (.inl false) else .inr (i4+1)) else (.inl (.inr ()):(Bool ⊕ Unit) ⊕ Nat)) default (c_.cW.length - 0+1) 0) fun _=>((rZ c_.rest 0 6)&&(rZ c_.cW 0 2000))&&(rZ c_.shut 0 100000):=by kernel_rfl
 have e2:Ae r c_=bO (iter (fun i4:Nat=>bif decide ((i4:Int) < ((c_.cW.length:Nat):Int)) then (bif (decide (((c_.cW.getD i4 default).tmod 100) < 1))||(decide (((c_.cW.getD i4 default).tmod 100) > 31)) then .inl (.inl false) else .inr (i4+1)) else (.inl (.inr ()):(Bool ⊕ Unit) ⊕ Nat)) default (c_.cW.length - 0+1) 0) fun _ =>
   bif ((((decide (((c_.cW.length:Nat):Int) > 60))||(decide (((c_.shut.length:Nat):Int) > 200)))||(!(iP c_.order ((r.ak.length:Nat):Int))))||(!(iP c_.bj ((r.aY.length:Nat):Int)))) then false else ((jB c_.rest 0 6)&&(jB c_.cW 101 1231))&&(jB c_.shut 0 100000):=by kernel_rfl
 rw [Bool.not_eq_false',e1] at h
 cases k:((((!(bm c_.order 0 (aK (((r.ak.length:Nat):Int) - 1))))||(!(bm c_.bj 0 (aK (((r.aY.length:Nat):Int) - 1)))))||(decide (((c_.cW.length:Nat):Int) > 60)))||(decide (((c_.shut.length:Nat):Int) > 200))) with
 | true=>rw [k,cond_true] at h; exact absurd h (by decide)
 | false =>
  rw [k,cond_false] at h
  obtain ⟨w,hr⟩:=gT c_.cW.length (fun i=>i) () h (fun i hi=>go1 hi (fun _=>by decide)) gr (by omega)
  simp only [Bool.and_eq_true] at hr
  obtain ⟨l1,r1⟩:=Nk hr.1.1 (by omega)
  obtain ⟨l2,r2⟩:=Nk hr.1.2 (by omega)
  obtain ⟨l3,r3⟩:=Nk hr.2 (by omega)
  have hf:∀ i,i < c_.cW.length→(101≤c_.cW.getD i default∧c_.cW.getD i default≤1231)∧1≤(c_.cW.getD i default).tmod 100∧(c_.cW.getD i default).tmod 100≤31:=fun i hi=>by
   have h1:=in1 hi (w i hi)
   rw [Bool.or_eq_false_iff] at h1
   have h2:=kU h1.1
   have h3:=kU h1.2
   obtain ⟨h4,h5,-⟩:=r2 i hi
   rw [Int.tdiv_eq_ediv_of_nonneg h4,aq (by omega) (by omega)] at h2
   refine ⟨?_,h3⟩
   rw [Int.tmod_eq_emod_of_nonneg h4] at h3
   omega
  simp only [Bool.or_eq_false_iff,decide_eq_false_iff_not] at k
  rw [e2,mG c_.cW.length (fun i=>i) () (fun i hi=>on1 hi ?_) gr (by omega)]
  ·rw [decide_eq_false k.1.2,decide_eq_false k.2,G9 k.1.1.1 ho,G9 k.1.1.2 hc,zH r1 l1,zH r3 l3,zH (lo:=101) (up:=1231) (fun i hi=>⟨(hf i hi).1.1,(hf i hi).1.2,(r2 i hi).2.2⟩) l2]
   rfl
  ·have:=(hf i hi).2
   rw [decide_eq_false (by omega),decide_eq_false (by omega)]; rfl
theorem XP {o:Order} (h:(!(kO o))=false):xq o=true:=by
 rw [Bool.not_eq_false'] at h
 have hl:=D7 o h
 have e1:kO o=bO (iter (fun i2:Nat=>bif decide ((i2:Int) < ((o.aE.length:Nat):Int)) then (bif (!(bm ((o.aE.getD i2 default).ask) 0 21))||(!(bm ((o.aE.getD i2 default).ka) 0 4)) then .inl (.inl false) else bif ((decide ((i2:Int) > 0))&&(decide (((o.aE.getD ((aK ((i2:Int) - 1)).toNat) default).ask)≥((o.aE.getD i2 default).ask)))) then .inl (.inl false) else .inr (i2+1)) else (.inl (.inr ()):(Bool ⊕ Unit) ⊕ Nat)) default (o.aE.length - 0+1) 0) fun _ =>
   bO (iter (fun i7:Nat=>bif decide ((i7:Int) < ((o.rules.length:Nat):Int)) then (bif (!(bm ((o.rules.getD i7 default).ask) 0 21)) then .inl (.inl false) else bif ((decide ((i7:Int) > 0))&&(decide (((o.rules.getD ((aK ((i7:Int) - 1)).toNat) default).ask)≥((o.rules.getD i7 default).ask)))) then .inl (.inl false) else .inr (i7+1)) else (.inl (.inr ()):(Bool ⊕ Unit) ⊕ Nat)) default (o.rules.length - 0+1) 0) fun _=>true:=by kernel_rfl
 have e2:xq o=bO (iter (fun i2:List Int × Nat=>bif decide ((i2.2:Int) < ((o.aE.length:Nat):Int)) then (bif !(iP ((o.aE.getD i2.2 default).ka) 5) then .inl (.inl false) else .inr (i2.1++[(o.aE.getD i2.2 default).ask],i2.2+1)) else (.inl (.inr i2.1):(Bool ⊕ List Int) ⊕ (List Int × Nat))) default (o.aE.length - 0+1) ([],0)) fun b1 =>
   bO (iter (fun i5:List Int × Nat=>bif decide ((i5.2:Int) < ((o.rules.length:Nat):Int)) then .inr (i5.1++[(o.rules.getD i5.2 default).ask],i5.2+1) else (.inl (.inr i5.1):(Bool ⊕ List Int) ⊕ (List Int × Nat))) default (o.rules.length - 0+1) ([],0)) fun b4=>jB b1 0 21&&jB b4 0 21:=by kernel_rfl
 rw [e1] at h
 obtain ⟨w,h⟩:=gT o.aE.length (fun i=>i) () h (fun i hi=>go2 hi (fun _=>by decide) (by decide)) gr (by omega)
 obtain ⟨w2,-⟩:=gT o.rules.length (fun i=>i) () h (fun i hi=>go2 hi (fun _=>by decide) (by decide)) gr (by omega)
 have hc:∀ i,i < o.aE.length→iP ((o.aE.getD i default).ka) 5=true:=fun i hi=>by
  have h1:=(in2 hi (w i hi)).1
  rw [Bool.or_eq_false_iff] at h1
  have:=kU h1.2
  exact aag ⟨this.1,by omega⟩
 have r1:YR (qk (fun i=>(o.aE.getD i default).ask) o.aE.length) 0 21:=fun i hi=>by
  rw [np] at hi
  obtain ⟨h1,h2⟩:=in2 hi (w i hi)
  rw [Bool.or_eq_false_iff] at h1
  have h3:=kU h1.1
  rw [ry hi]
  refine ⟨h3.1,h3.2,fun h0=>?_⟩
  rw [ry (by omega)]
  rw [aq (by omega) (by omega),show ((i:Int) - 1).toNat=i - 1 by omega,decide_eq_true (show (i:Int) > 0 by omega),Bool.true_and,decide_eq_false_iff_not] at h2
  omega
 have r2:YR (qk (fun i=>(o.rules.getD i default).ask) o.rules.length) 0 21:=fun i hi=>by
  rw [np] at hi
  obtain ⟨h1,h2⟩:=in2 hi (w2 i hi)
  have h3:=kU h1
  rw [ry hi]
  refine ⟨h3.1,h3.2,fun h0=>?_⟩
  rw [ry (by omega)]
  rw [aq (by omega) (by omega),show ((i:Int) - 1).toNat=i - 1 by omega,decide_eq_true (show (i:Int) > 0 by omega),Bool.true_and,decide_eq_false_iff_not] at h2
  omega
 rw [e2]
 refine Eq.trans (mG o.aE.length (fun i=>(qk (fun i=>(o.aE.getD i default).ask) i,i)) (qk (fun i=>(o.aE.getD i default).ask) o.aE.length) (fun i hi=>?_) gr (by omega)) ?_
 ·dsimp only
  rw [go_in hi,hc i hi,Bool.not_true,cond_false,← js]
 refine Eq.trans (mG o.rules.length (fun i=>(qk (fun i=>(o.rules.getD i default).ask) i,i)) (qk (fun i=>(o.rules.getD i default).ask) o.rules.length) (fun i hi=>?_) gr (by omega)) ?_
 ·dsimp only
  rw [go_in hi,← js]
 rw [zH r1 (by rw [np]; omega),zH r2 (by rw [np]; omega)]
 rfl
def Qy (c:Nat→Bool) (names:List ByteArray) (fm:Int):Int:=bif decide (((names.length:Nat):Int) > fm) then 6 else
 bO (iter (fun i2:Nat=>bif decide ((i2:Int) < ((names.length:Nat):Int)) then (bif mX names (i2:Int) != 0 then .inl (.inl (mX names (i2:Int))) else bif !(c i2) then .inl (.inl 1) else .inr (i2+1)) else (.inl (.inr ()):(Int ⊕ Unit) ⊕ Nat)) default (names.length - 0+1) 0) fun _=>0
theorem KE {c:Nat→Bool} {names:List ByteArray} {fm:Int} (h0:(names.length:Int)≤fm) (h:∀ i,i < names.length→(mX names ((i:Nat):Int) != 0)=false∧c i=true):Qy c names fm=0:=by
 unfold Qy
 rw [decide_eq_false (by omega),cond_false]
 exact mG names.length (fun i=>i) () (fun i hi=>on2 hi (h i hi).1 (by rw [(h i hi).2]; rfl)) gr (by omega)
theorem agY (n:List ByteArray) (m:Int):mY n m=Qy (fun _=>true) n m:=by kernel_rfl
theorem agZ (n:List ByteArray) (m:Int) (r:ah):mZ n m r=Qy (fun i=>Ae r (r.aB.getD i default)) n m:=by kernel_rfl
theorem ag0 (n:List ByteArray) (m:Int) (r:ah):m5 n m r=Qy (fun i=>iP ((r.bu.getD i default).aL) ((r.aB.length:Nat):Int)&&iP ((r.bu.getD i default).group) ((r.cO.length:Nat):Int)) n m:=by kernel_rfl
theorem ag1 (n:List ByteArray) (m:Int) (r:ah):m6 n m r=Qy (fun i=>xq (r.ak.getD i default)) n m:=by kernel_rfl
theorem nz {x:Int} (h:(x != 0)=true):x≠0:=bne_iff_ne.1 h
theorem Sw {r:ah} (h:j2 r=0):((r.aY.length:Int)≤8∧∀ i,i < r.aY.length→(fO r.aY ((i:Nat):Int) != 0)=false)∧(r.aB.length:Int)≤40∧∀ i,i < r.aB.length→(fO (qk (fun i=>(r.aB.getD i default).name) i++[(r.aB.getD i default).name]) ((i:Nat):Int) != 0)=false∧(!(oP r (r.aB.getD i default)))=false:=by
 have e:j2 r=bif decide (((r.aY.length:Nat):Int) > 8) then 6 else
   bO (iter (fun i2:Nat=>bif decide ((i2:Int) < ((r.aY.length:Nat):Int)) then (bif fO r.aY (i2:Int) != 0 then .inl (.inl (fO r.aY (i2:Int))) else .inr (i2+1)) else (.inl (.inr ()):(Int ⊕ Unit) ⊕ Nat)) default (r.aY.length - 0+1) 0) fun _ =>
   bif decide (((r.aB.length:Nat):Int) > 40) then 6 else
   bO (iter (fun i5:List ByteArray × Nat=>bif decide ((i5.2:Int) < ((r.aB.length:Nat):Int)) then (bif fO (i5.1++[(r.aB.getD i5.2 default).name]) (i5.2:Int) != 0 then .inl (.inl (fO (i5.1++[(r.aB.getD i5.2 default).name]) (i5.2:Int))) else bif !(oP r (r.aB.getD i5.2 default)) then .inl (.inl 1) else .inr (i5.1++[(r.aB.getD i5.2 default).name],i5.2+1)) else (.inl (.inr ()):(Int ⊕ Unit) ⊕ (List ByteArray × Nat))) default (r.aB.length - 0+1) ([],0)) fun _=>0:=by kernel_rfl
 rw [e] at h
 by_cases c:((r.aY.length:Nat):Int) > 8
 ·rw [decide_eq_true c,cond_true] at h; exact absurd h (by decide)
 ·rw [decide_eq_false c,cond_false] at h
  obtain ⟨w,h⟩:=gT r.aY.length (fun i=>i) () h (fun i hi=>go1 hi nz) gr (by omega)
  by_cases c2:((r.aB.length:Nat):Int) > 40
  ·rw [decide_eq_true c2,cond_true] at h; exact absurd h (by decide)
  ·rw [decide_eq_false c2,cond_false] at h
   obtain ⟨w2,-⟩:=gT r.aB.length (fun i=>(qk (fun i=>(r.aB.getD i default).name) i,i)) () h (fun i hi=>by
    dsimp only
    rw [← js]
    exact go2 hi nz (by decide)) gr (by omega)
   refine ⟨⟨by omega,fun i hi=>in1 hi (w i hi)⟩,by omega,fun i hi=>?_⟩
   have:=w2 i hi
   dsimp only at this
   rw [← js] at this
   exact in2 hi this
theorem VN {r:ah} (h:sa r=0):((r.cO.length:Int)≤20∧∀ i,i < r.cO.length→(!(bm ((r.cO.getD i default).Eg) 0 9))=false)∧(r.bu.length:Int)≤200∧∀ i,i < r.bu.length→(fO (qk (fun i=>(r.bu.getD i default).name) i++[(r.bu.getD i default).name]) ((i:Nat):Int) != 0)=false∧((!(bm ((r.bu.getD i default).aL) 0 (aK (((r.aB.length:Nat):Int) - 1))))||(!(bm ((r.bu.getD i default).group) 0 (aK (((r.cO.length:Nat):Int) - 1)))))=false:=by
 have e:sa r=bif decide (((r.cO.length:Nat):Int) > 20) then 6 else
   bO (iter (fun i2:Nat=>bif decide ((i2:Int) < ((r.cO.length:Nat):Int)) then (bif !(bm ((r.cO.getD i2 default).Eg) 0 9) then .inl (.inl 1) else .inr (i2+1)) else (.inl (.inr ()):(Int ⊕ Unit) ⊕ Nat)) default (r.cO.length - 0+1) 0) fun _ =>
   bif decide (((r.bu.length:Nat):Int) > 200) then 6 else
   bO (iter (fun i5:List ByteArray × Nat=>bif decide ((i5.2:Int) < ((r.bu.length:Nat):Int)) then (bif fO (i5.1++[(r.bu.getD i5.2 default).name]) (i5.2:Int) != 0 then .inl (.inl (fO (i5.1++[(r.bu.getD i5.2 default).name]) (i5.2:Int))) else bif ((!(bm ((r.bu.getD i5.2 default).aL) 0 (aK (((r.aB.length:Nat):Int) - 1))))||(!(bm ((r.bu.getD i5.2 default).group) 0 (aK (((r.cO.length:Nat):Int) - 1))))) then .inl (.inl 1) else .inr (i5.1++[(r.bu.getD i5.2 default).name],i5.2+1)) else (.inl (.inr ()):(Int ⊕ Unit) ⊕ (List ByteArray × Nat))) default (r.bu.length - 0+1) ([],0)) fun _=>0:=by kernel_rfl
 rw [e] at h
 by_cases c:((r.cO.length:Nat):Int) > 20
 ·rw [decide_eq_true c,cond_true] at h; exact absurd h (by decide)
 ·rw [decide_eq_false c,cond_false] at h
  obtain ⟨w,h⟩:=gT r.cO.length (fun i=>i) () h (fun i hi=>go1 hi (fun _=>by decide)) gr (by omega)
  by_cases c2:((r.bu.length:Nat):Int) > 200
  ·rw [decide_eq_true c2,cond_true] at h; exact absurd h (by decide)
  ·rw [decide_eq_false c2,cond_false] at h
   obtain ⟨w2,-⟩:=gT r.bu.length (fun i=>(qk (fun i=>(r.bu.getD i default).name) i,i)) () h (fun i hi=>by
    dsimp only
    rw [← js]
    exact go2 hi nz (by decide)) gr (by omega)
   refine ⟨⟨by omega,fun i hi=>in1 hi (w i hi)⟩,by omega,fun i hi=>?_⟩
   have:=w2 i hi
   dsimp only at this
   rw [← js] at this
   exact in2 hi this
theorem Sx {r:ah} (h:nh r=0):(r.ak.length:Int)≤20∧∀ i,i < r.ak.length→(fO (qk (fun i=>(r.ak.getD i default).name) i++[(r.ak.getD i default).name]) ((i:Nat):Int) != 0)=false∧(!(kO (r.ak.getD i default)))=false:=by
 have e:nh r=bif decide (((r.ak.length:Nat):Int) > 20) then 6 else
   bO (iter (fun i5:List ByteArray × Nat=>bif decide ((i5.2:Int) < ((r.ak.length:Nat):Int)) then (bif fO (i5.1++[(r.ak.getD i5.2 default).name]) (i5.2:Int) != 0 then .inl (.inl (fO (i5.1++[(r.ak.getD i5.2 default).name]) (i5.2:Int))) else bif !(kO (r.ak.getD i5.2 default)) then .inl (.inl 1) else .inr (i5.1++[(r.ak.getD i5.2 default).name],i5.2+1)) else (.inl (.inr ()):(Int ⊕ Unit) ⊕ (List ByteArray × Nat))) default (r.ak.length - 0+1) ([],0)) fun _=>0:=by kernel_rfl
 rw [e] at h
 by_cases c:((r.ak.length:Nat):Int) > 20
 ·rw [decide_eq_true c,cond_true] at h; exact absurd h (by decide)
 ·rw [decide_eq_false c,cond_false] at h
  obtain ⟨w2,-⟩:=gT r.ak.length (fun i=>(qk (fun i=>(r.ak.getD i default).name) i,i)) () h (fun i hi=>by
   dsimp only
   rw [← js]
   exact go2 hi nz (by decide)) gr (by omega)
  refine ⟨by omega,fun i hi=>?_⟩
  have:=w2 i hi
  dsimp only at this
  rw [← js] at this
  exact in2 hi this
theorem Nn (r:ah):fQ r=(qk (fun i=>(r.aB.getD i default).name) r.aB.length,qk (fun i=>(r.bu.getD i default).name) r.bu.length,qk (fun i=>(r.ak.getD i default).name) r.ak.length):=by
 have e:fQ r=bO (iter (fun i:List ByteArray × Nat=>bif decide (((i.2:Nat):Int) < ((r.aB.length:Nat):Int)) then .inr (i.1++[(r.aB.getD i.2 default).name],i.2+1) else (.inl (.inr i.1):((List ByteArray × List ByteArray × List ByteArray) ⊕ List ByteArray) ⊕ (List ByteArray × Nat))) default (r.aB.length - 0+1) ([],0)) fun b1 =>
   bO (iter (fun i:List ByteArray × Nat=>bif decide (((i.2:Nat):Int) < ((r.bu.length:Nat):Int)) then .inr (i.1++[(r.bu.getD i.2 default).name],i.2+1) else (.inl (.inr i.1):((List ByteArray × List ByteArray × List ByteArray) ⊕ List ByteArray) ⊕ (List ByteArray × Nat))) default (r.bu.length - 0+1) ([],0)) fun b3 =>
   bO (iter (fun i:List ByteArray × Nat=>bif decide (((i.2:Nat):Int) < ((r.ak.length:Nat):Int)) then .inr (i.1++[(r.ak.getD i.2 default).name],i.2+1) else (.inl (.inr i.1):((List ByteArray × List ByteArray × List ByteArray) ⊕ List ByteArray) ⊕ (List ByteArray × Nat))) default (r.ak.length - 0+1) ([],0)) fun b5=>(b1,b3,b5):=by kernel_rfl
 rw [e]
 refine Eq.trans (mG r.aB.length (fun i=>(qk (fun i=>(r.aB.getD i default).name) i,i)) (qk (fun i=>(r.aB.getD i default).name) r.aB.length) (fun i hi=>?_) gr (by omega)) ?_
 ·dsimp only
  rw [go_in hi,← js]
 refine Eq.trans (mG r.bu.length (fun i=>(qk (fun i=>(r.bu.getD i default).name) i,i)) (qk (fun i=>(r.bu.getD i default).name) r.bu.length) (fun i hi=>?_) gr (by omega)) ?_
 ·dsimp only
  rw [go_in hi,← js]
 refine Eq.trans (mG r.ak.length (fun i=>(qk (fun i=>(r.ak.getD i default).name) i,i)) (qk (fun i=>(r.ak.getD i default).name) r.ak.length) (fun i hi=>?_) gr (by omega)) ?_
 ·dsimp only
  rw [go_in hi,← js]
 rfl
theorem XQ {γ δ ι:Type} (n:Nat) (st:Nat→ι) (Q:Nat→Prop) (u:δ) {f:ι→(γ ⊕ δ) ⊕ ι} {d:γ ⊕ δ} {g:δ→γ} {z:γ} {m:Nat} (h:bO (iter f d m (st 0)) g=z) (hs:∀ i,i < n→(∃ b,f (st i)=.inl (.inl b)∧b≠z)∨(f (st i)=.inr (st (i+1))∧Q i)) (he:f (st n)=.inl (.inr u)) (hm:n < m):(∀ i,i < n→Q i)∧g u=z:=by
 have w:=gT n st u h (fun i hi=>(hs i hi).imp id And.left) he hm
 refine ⟨fun i hi=>?_,w.2⟩
 rcases hs i hi with ⟨b,h1,_⟩ | h1
 ·rw [w.1 i hi] at h1; exact absurd h1 (by simp)
 ·exact h1.2
theorem adr {B D2:Type} {z x1 x2:Int} {n:Nat} {C:Bool} {f2:Nat→((((Int ⊕ Unit) ⊕ Nat) ⊕ B) ⊕ D2) ⊕ Nat} {d:((((Int ⊕ Unit) ⊕ Nat) ⊕ B) ⊕ D2)} {m:Nat} {g2:D2→((Int ⊕ Unit) ⊕ Nat) ⊕ B} {G:B→(Int ⊕ Unit) ⊕ Nat} {j:Nat} {R:Prop} {Q:Nat→Prop} (u:D2) {v:B}
  (h1:x1≠z) (h2:x2≠z) (hs:∀ k,k < n→f2 k=.inl (.inl (.inl (.inl (.inl x2))))∨(f2 k=.inr (k+1)∧Q k)) (he:f2 n=.inl (.inr u)) (hg:g2 u=.inr v) (hG:G v=.inr j) (hm:n < m) (hR:C=false→(∀ k,k < n→Q k)→R) :
  (∃ b,bO (bif C then .inl (.inl (.inl x1)) else bO (iter f2 d m 0) g2) G=.inl (.inl b)∧b≠z)∨(bO (bif C then .inl (.inl (.inl x1)) else bO (iter f2 d m 0) g2) G=.inr j∧R):=by
 cases hc:C with
 | true=>exact .inl ⟨x1,rfl,h1⟩
 | false =>
  simp only [cond_false]
  rcases Sv n (fun k=>k) (fun b=>b=.inl (.inl (.inl x2))) u (f:=f2) (d:=d) (g:=g2) (fun k hk=>(hs k hk).imp (fun e=>⟨_,e,rfl⟩) And.left) he hm with e | ⟨e1,e2⟩
  ·rw [e]; exact .inl ⟨x2,rfl,h2⟩
  ·rw [e2,hg,cX]
   refine .inr ⟨hG,hR hc fun k hk=>?_⟩
   rcases hs k hk with e | e
   ·have:=e1 k hk; rw [e] at this; exact absurd this (by simp)
   ·exact e.2
theorem ads {B D2:Type} {x1:(Int ⊕ Unit) ⊕ Nat} {n:Nat} {C:Bool} {f2:Nat→((((Int ⊕ Unit) ⊕ Nat) ⊕ B) ⊕ D2) ⊕ Nat} {d:((((Int ⊕ Unit) ⊕ Nat) ⊕ B) ⊕ D2)} {m:Nat} {g2:D2→((Int ⊕ Unit) ⊕ Nat) ⊕ B} {G:B→(Int ⊕ Unit) ⊕ Nat} {j:Nat} (u:D2) {v:B}
  (hc:C=false) (hs:∀ k,k < n→f2 k=.inr (k+1)) (he:f2 n=.inl (.inr u)) (hg:g2 u=.inr v) (hG:G v=.inr j) (hm:n < m):bO (bif C then .inl x1 else bO (iter f2 d m 0) g2) G=.inr j:=by
 rw [hc,cond_false,mG n (fun k=>k) u hs he hm,hg,cX,hG]
def UsP (r:ah) (i:Nat):Prop:=(((!(bm ((r.aR.getD i default).from_) 0 (aK (((r.aB.length:Nat):Int) - 1))))||(!(bm ((r.aR.getD i default).cr) 0 (aK (((r.aB.length:Nat):Int) - 1)))))||(!(bm ((r.aR.getD i default).days) 1 20000)))=false ∧
 ∀ q,q < i→((((r.aR.getD q default).from_) == ((r.aR.getD i default).from_))&&(((r.aR.getD q default).cr) == ((r.aR.getD i default).cr)))=false
theorem O4 {r:ah} (h:tF r=0):(r.aR.length:Int)≤100∧∀ i,i < r.aR.length→UsP r i:=by
 simp only [tF,kP,Sk.cz,Sk.cY,Sk.ct,Sk.bK,Sk.cE,Sk.cV,Sk.bg,fD.wG,kk,kp,bH.Lw,bH.Zw,ar] at h
 by_cases c:((r.aR.length:Nat):Int) > 100
 ·rw [decide_eq_true c,cond_true] at h; exact absurd h (by decide)
 ·rw [decide_eq_false c,cond_false] at h
  refine ⟨by omega,(XQ r.aR.length (fun i=>i) (UsP r) () h (fun i hi=>?_) (by rw [decide_eq_false (by omega),cond_false]) (by omega)).1⟩
  simp only [go_in hi]
  refine adr (Q:=fun q=>((((r.aR.getD q default).from_) == ((r.aR.getD i default).from_))&&(((r.aR.getD q default).cr) == ((r.aR.getD i default).cr)))=false) (((i:Nat):Int),((i:Nat):Int),((i:Nat):Int),decide (((i:Nat):Int) < ((i:Nat):Int))) (by decide) (show (5:Int)≠0 by decide) (fun k hk=>?_) gr rfl rfl (by omega) (fun h1 h2=>⟨h1,h2⟩)
  rw [go_in hk]
  cases e:(((r.aR.getD k default).from_) == ((r.aR.getD i default).from_))&&(((r.aR.getD k default).cr) == ((r.aR.getD i default).cr)) with
  | true=>exact .inl rfl
  | false=>exact .inr ⟨rfl,rfl⟩
theorem Sy {r:ah} (h0:(r.aR.length:Int)≤100) (h:∀ i,i < r.aR.length→UsP r i) (hc:r.aB.length≤1000000):oE r=0:=by
 simp only [oE,kE,Sk.cz,Sk.cY,Sk.ct,Sk.bK,Sk.cE,Sk.cV,Sk.bg,fD.wG,kk,kp,bH.Lw,bH.Zw,cy]
 rw [decide_eq_false (by omega),cond_false]
 refine mG r.aR.length (fun i=>i) () (fun i hi=>?_) gr (by omega)
 simp only [go_in hi]
 obtain ⟨h1,h2⟩:=h i hi
 simp only [Bool.or_eq_false_iff] at h1
 have hd:=kU h1.2
 have Tb:(mO r.aR 0 i).length=i:=by unfold mO; rw [List.length_map,List.length_range]
 refine ads (n:=(mO r.aR 0 i).length) (((((mO r.aR 0 i).length:Nat):Int)),decide (((((mO r.aR 0 i).length):Nat):Int) < ((((mO r.aR 0 i).length):Nat):Int))) ?_ (fun k hk=>?_) gr rfl rfl (by omega)
 ·rw [G9 h1.1.1 hc,G9 h1.1.2 hc,decide_eq_false (by omega),decide_eq_false (by omega)]; rfl
 ·rw [go_in hk]
  have hk2:k < i:=by omega
  have e:(mO r.aR 0 i).getD k default=r.aR.getD k default:=by simp [mO,List.getD,hk2]
  rw [e,h2 k hk2,cond_false]
def RtP (r:ah) (i:Nat):Prop:=(((!(bm ((r.cg.getD i default).from_) 0 (aK (((r.aY.length:Nat):Int) - 1))))||(!(bm ((r.cg.getD i default).cr) 0 (aK (((r.aY.length:Nat):Int) - 1)))))||(((r.cg.getD i default).from_) == ((r.cg.getD i default).cr)))=false ∧
 (((!(bm ((r.cg.getD i default).num) 1 1073741824))||(!(bm ((r.cg.getD i default).den) 1 1073741824)))||(!(bm ((r.cg.getD i default).since) 0 100000)))=false
def HlP (r:ah) (i:Nat):Prop:=(((!(bm ((r.ca.getD i default).order) 0 (aK (((r.ak.length:Nat):Int) - 1))))||(!(bm ((r.ca.getD i default).from_) 0 ((r.ca.getD i default).cr))))||(decide (((r.ca.getD i default).cr) > 100000)))=false
theorem Sz {r:ah} (h:wj r=0):((r.cg.length:Int)≤100∧∀ i,i < r.cg.length→RtP r i)∧(r.ca.length:Int)≤20∧∀ i,i < r.ca.length→HlP r i:=by
 simp only [wj,lV,Sk.cz,Sk.cY,Sk.ct,Sk.bK,Sk.cE,Sk.cV,Sk.bg,fD.wG,kk,kp,bH.Lw,bH.Zw,ar] at h
 by_cases c:((r.cg.length:Nat):Int) > 100
 ·rw [decide_eq_true c,cond_true] at h; exact absurd h (by decide)
 ·rw [decide_eq_false c,cond_false] at h
  obtain ⟨w,h⟩:=gT r.cg.length (fun i=>i) () h (fun i hi=>go2 hi (fun _=>by decide) (by decide)) gr (by omega)
  by_cases c2:((r.ca.length:Nat):Int) > 20
  ·rw [decide_eq_true c2,cond_true] at h; exact absurd h (by decide)
  ·rw [decide_eq_false c2,cond_false] at h
   obtain ⟨w2,-⟩:=gT r.ca.length (fun i=>i) () h (fun i hi=>go1 hi (fun _=>by decide)) gr (by omega)
   exact ⟨⟨by omega,fun i hi=>in2 hi (w i hi)⟩,by omega,fun i hi=>in1 hi (w2 i hi)⟩
theorem aak {r:ah} (h0:(r.cg.length:Int)≤100) (h:∀ i,i < r.cg.length→RtP r i) (k0:(r.ca.length:Int)≤20) (k:∀ i,i < r.ca.length→HlP r i) (hc:r.aY.length≤1000000) (ho:r.ak.length≤1000000):Af r=0:=by
 simp only [Af,lP,Sk.cz,Sk.cY,Sk.ct,Sk.bK,Sk.cE,Sk.cV,Sk.bg,fD.wG,kk,kp,bH.Lw,bH.Zw,cy]
 rw [decide_eq_false (by omega),cond_false]
 refine Eq.trans (mG r.cg.length (fun i=>i) () (fun i hi=>on1 hi ?_) gr (by omega)) ?_
 ·obtain ⟨h1,h2⟩:=h i hi
  simp only [Bool.or_eq_false_iff] at h1 h2
  have e1:=kU h2.1.1
  have e2:=kU h2.1.2
  have e3:=kU h2.2
  rw [G9 h1.1.1 hc,G9 h1.1.2 hc,h1.2,aq (by omega) (by omega),aq (by omega) (by omega),aag (by omega),aag (by omega),aag (by omega)]
  rfl
 ·rw [decide_eq_false (by omega),cond_false]
  refine mG r.ca.length (fun i=>i) () (fun i hi=>on1 hi ?_) gr (by omega)
  have h1:=k i hi
  unfold HlP at h1
  simp only [Bool.or_eq_false_iff,decide_eq_false_iff_not] at h1
  have e1:=kU h1.1.2
  rw [G9 h1.1.1 ho,decide_eq_false (by omega),decide_eq_false (by omega),decide_eq_false h1.2]
  rfl
theorem VO {r:ah} (h:kQ r=0):m8 r=0:=by
 have e:kQ r=bO (bif j2 r == 0 then .inr (sa r) else .inr (j2 r)) fun b2=>bO (bif b2 == 0 then .inr (nh r) else .inr b2) fun b4=>bO (bif b4 == 0 then .inr (tF r) else .inr b4) fun b6=>bif b6 == 0 then wj r else b6:=by kernel_rfl
 have z:∀ x:Int,x≠0→(x == 0)=false:=fun x hx=>beq_eq_false_iff_ne.2 hx
 have one:∀ (x y:Int),bO (bif x == 0 then (Sum.inr y:Int ⊕ Int) else .inr x) id=0→x=0∧y=0:=fun x y q=>by
  by_cases c:x=0
  ·subst c; exact ⟨rfl,q⟩
  ·rw [z _ c,cond_false] at q; exact absurd q c
 have fl:∀ (x y:Int) (F:Int→Int),bO (bif x == 0 then (Sum.inr y:Int ⊕ Int) else .inr x) F=F (bif x == 0 then y else x):=fun x y F=>by cases (x == 0) <;> rfl
 have two:∀ (x y:Int),(bif x == 0 then y else x)=0→x=0∧y=0:=fun x y q=>by
  by_cases c:x=0
  ·subst c; exact ⟨rfl,q⟩
  ·rw [z _ c,cond_false] at q; exact absurd q c
 rw [e,fl,fl,fl] at h
 obtain ⟨h,q5⟩:=two _ _ h
 obtain ⟨h,q4⟩:=two _ _ h
 obtain ⟨h,q3⟩:=two _ _ h
 obtain ⟨q1,q2⟩:=two _ _ h
 obtain ⟨⟨a1,a2⟩,a3,a4⟩:=Sw q1
 obtain ⟨⟨b1,b2⟩,b3,b4⟩:=VN q2
 obtain ⟨c1,c2⟩:=Sx q3
 obtain ⟨d1,d2⟩:=O4 q4
 obtain ⟨⟨f1,f2⟩,f3,f4⟩:=Sz q5
 have p:m8 r=bif mY r.aY 8 != 0 then mY r.aY 8 else bif mZ (fQ r).1 40 r != 0 then mZ (fQ r).1 40 r else bif decide (((r.cO.length:Nat):Int) > 20) then 6 else
   bO (iter (fun i5:Nat=>bif decide ((i5:Int) < ((r.cO.length:Nat):Int)) then (bif !(iP ((r.cO.getD i5 default).Eg) 10) then .inl (.inl 1) else .inr (i5+1)) else (.inl (.inr ()):(Int ⊕ Unit) ⊕ Nat)) default (r.cO.length - 0+1) 0) fun _ =>
   bif m5 (fQ r).2.1 200 r != 0 then m5 (fQ r).2.1 200 r else bif m6 (fQ r).2.2 20 r != 0 then m6 (fQ r).2.2 20 r else bif oE r != 0 then oE r else Af r:=by kernel_rfl
 have t1:mY r.aY 8=0:=(agY _ _).trans (KE a1 fun i hi=>⟨Nm (Iu hi (a2 i hi)).1 (Iu hi (a2 i hi)).2,rfl⟩)
 have t2:mZ (fQ r).1 40 r=0:=(agZ _ _ _).trans (by
  rw [Nn]
  exact KE (by rw [np]; exact a3) fun i hi=>by
   rw [np] at hi
   exact ⟨Fk hi (a4 i hi).1,aaj (a4 i hi).2 (by omega) (by omega)⟩)
 have t3:m5 (fQ r).2.1 200 r=0:=(ag0 _ _ _).trans (by
  rw [Nn]
  exact KE (by rw [np]; exact b3) fun i hi=>by
   rw [np] at hi
   have:=(b4 i hi).2
   rw [Bool.or_eq_false_iff] at this
   exact ⟨Fk hi (b4 i hi).1,by rw [G9 this.1 (by omega),G9 this.2 (by omega)]; rfl⟩)
 have t4:m6 (fQ r).2.2 20 r=0:=(ag1 _ _ _).trans (by
  rw [Nn]
  exact KE (by rw [np]; exact c1) fun i hi=>by
   rw [np] at hi
   exact ⟨Fk hi (c2 i hi).1,XP (c2 i hi).2⟩)
 have zz:((0:Int) != 0)=false:=rfl
 rw [p,t1,t2,zz,cond_false,cond_false,decide_eq_false (by omega),cond_false]
 refine Eq.trans (mG r.cO.length (fun i=>i) () (fun i hi=>on1 hi ?_) gr (by omega)) ?_
 ·have:=kU (b2 i hi)
  rw [aag (by omega)]; rfl
 ·rw [t3,t4,Sy d1 d2 (by omega),aak f1 f2 f3 f4 (by omega) (by omega)]
  rfl
theorem VP {r:ah} (h:kQ r=0):j2 r=0∧nh r=0:=by
 have e:kQ r=bO (bif j2 r == 0 then .inr (sa r) else .inr (j2 r)) fun b2=>bO (bif b2 == 0 then .inr (nh r) else .inr b2) fun b4=>bO (bif b4 == 0 then .inr (tF r) else .inr b4) fun b6=>bif b6 == 0 then wj r else b6:=by kernel_rfl
 rw [e] at h
 have z:∀ x:Int,x≠0→(x == 0)=false:=fun x hx=>beq_eq_false_iff_ne.2 hx
 by_cases c1:j2 r=0
 ·refine ⟨c1,?_⟩
  rw [c1] at h
  simp only [beq_self_eq_true,cond_true,cX] at h
  by_cases c2:sa r=0
  ·rw [c2] at h
   simp only [beq_self_eq_true,cond_true,cX] at h
   by_cases c3:nh r=0
   ·exact c3
   ·simp only [z _ c3,cond_false,cX] at h
    exact absurd h c3
  ·simp only [z _ c2,cond_false,cX] at h
   exact absurd h c2
 ·simp only [z _ c1,cond_false,cX] at h
  exact absurd h c1
theorem VQ {r:ah} (hs:r.Small) (hh:r.cj) (h1:m8 r=0) (h2:kQ r=0):r.G4:=by
 obtain ⟨hc,ho⟩:=VP h2
 have pc:=Kc r hc
 have po:=Kd r ho
 exact ⟨hs,po.1,po.2.2.2,pc.2.2,hh,h1,h2⟩
def oa (r:ah) (ai:Int) (f:aw) (part:Int) (day:Int):Sk (Bool) :=
 .r 1 MB.c fun x1 =>
 .r 2 ((Qd r f).c) fun x2 =>
 .br (!x2)
 (.fin x1)
 (.r 4 (.dep (.wh x1 true ((GI r ai f part day).c)) fun x3=>.dep (.wh x1 true ((G6 r ai f part day).c)) fun x4=>.wh x1 true ((zG x3 x4).c)) fun p6 =>
 .fin (x1&&p6.2.2))
def j5 r ai f part day:=(oa r ai f part day).val
theorem Kj (l:List bI):ru l l=true:=by
 have A9:(((l.length:Nat):Int) != ((l.length:Nat):Int))=false:=bne_self_eq_false _
 simp only [ru,jS,Sk.bK,Sk.cz,Sk.cY,Sk.bg]
 rw [A9,cond_false]
 refine (bD l (fun (s:Unit) i=>i) (fun x (_:Unit)=>(.inr ():Bool ⊕ Unit)) id _ (fun s i hi=>?_) (fun s=>?_) (by simp) ()).trans ?_
 ·simp only [Sk.ct,Sk.bK,Sk.cE,Sk.cV,Sk.bg,beq_self_eq_true,Bool.and_self,Bool.not_true,cond_false]
  rw [decide_eq_true (by omega),cond_true]
 ·simp only [Sk.ct,Sk.bK,Sk.cE,Sk.cV,Sk.bg]
  rw [decide_eq_false (by omega),cond_false]
 ·rw [jm]
theorem Qz {r:ah} {f:aw} (h:Dy r f=true):kQ r=0:=by
 by_cases c:kQ r=0
 ·exact c
 ·simp only [Dy,sd,Sk.cE,Sk.bK,Sk.bg,fD.wG,kk,kp,jQ] at h
  rw [bne_iff_ne.2 c,cond_true] at h
  exact absurd h (by decide)
theorem Np (r:ah) (fo:Int) (f:aw) (part day:Int):j5 r fo f part day=true:=by
 have e:j5 r fo f part day=bif !(Dy r f) then zw else zw&&ru (AK r fo f part day) (A6 r fo f part day):=by kernel_rfl
 have hs:zw=true:=El
 rw [e,hs]
 cases c:Dy r f with
 | false=>rfl
 | true =>
  have hF:=RR r f c
  have hk:=Qz c
  have hT:r.G4:=VQ hF.1 hF.2.2.1 (VO hk) hk
  have hR:=hF.2.2.2.2.2
  have hp:∀ q,q < (au f day).af.length→0≤((au f day).af.getD q default).part∧((au f day).af.getD q default).part < 4:=fun q hq=>by
   have h1:=qx f day
   have h2:=hR.2.2.1 q (by omega)
   rw [LK f day q hq]
   have h3:=h2.2.2.2.2.1
   have h5:=hR.1.2.2.2.1
   exact ⟨h3.1,by omega⟩
  rw [VM hT hR.small fo part day hp,Kj]
  rfl
theorem wF (r:ah) (ai:Int) (f:aw) (part:Int) (day:Int):(fun (x:Bool)=>x=true) (j5 r ai f part day):=(Np r ai f part day)
theorem Iv (r:ah) (ai:Int) (f:aw) (part:Int) (day:Int):(oa r ai f part day).bq (fun _=>True):=by
 refine Sk.aO _ ?_
 unfold oa
 simp only [Sk.gx,Sk.aD,reduceCtorEq,ON,kk,kp,Qd,MB,G6,zG,GI,maxLen]
 intro x hx hs y hy hF h0
 have h0:y=true:=by simpa using h0
 have hF:=hF h0
 have hk:=Qz (hy ▸ h0)
 have hT:=VQ hF.1 hF.2.2.1 (VO hk) hk
 have hR:=hF.2.2.2.2.2
 have hf:=hR.small
 obtain ⟨hS,hBy,ajD,-,hH,-,-⟩:=hT
 (repeat' first | assumption | (apply And.intro) | (intro h))
def Kk r ai f part day:=kk tok mixed Tryz.func3 [av r.cells,iv ai,av f.cells,iv part,iv day] (fun x=>bv x) true (oa r ai f part day) (j5 r ai f part day) (u0 (Iv r ai f part day)) (fun (x:Bool)=>x=true) (wF r ai f part day)
theorem Iw (r:ah) (ai:Int) (f:aw) (part:Int) (day:Int):jl Tryz.prog 3 [av r.cells,iv ai,av f.cells,iv part,iv day] [] (bv (j5 r ai f part day)) []:=(Kk r ai f part day).pf trivial
theorem SA {ds:List D} (h:eD TT 9 ds):∃ c:ByteArray,aX ds (jV c)∧(fun s:ByteArray=>s.size≤maxLen) c:=by
 obtain ⟨x,rfl,w⟩:=h.acM rfl rfl
 exact ⟨x,aX.refl _,w⟩
theorem afh {ds:List D} (h:eD TT 22 ds):∃ l:List ByteArray,aX ds [mN jV l]∧(fun l=>∀ x,x∈l→(fun s:ByteArray=>s.size≤maxLen) x) l:=by
 obtain ⟨n,f,rfl,g⟩:=h.gd rfl rfl
 obtain ⟨l,y,-,w⟩:=k5 jV (fun s:ByteArray=>s.size≤maxLen) (fun ds h=>SA h) g
 exact ⟨l,aX.one y,w⟩
theorem bZ {ds:List D} (h:eD TT 3 ds):∃ c:Int,aX ds (bJ c)∧(fun n=>eK n) c:=by
 obtain ⟨x,rfl,w⟩:=h.Dj rfl rfl
 exact ⟨x,aX.refl _,acN w⟩
theorem XR {ds:List D} (h:eD TT 55 ds):∃ l:List Int,aX ds [mN bJ l]∧(fun l=>∀ x,x∈l→(fun n=>eK n) x) l:=by
 obtain ⟨n,f,rfl,g⟩:=h.gd rfl rfl
 obtain ⟨l,y,-,w⟩:=k5 bJ (fun n=>eK n) (fun ds h=>bZ h) g
 exact ⟨l,aX.one y,w⟩
structure eB.ok (c:eB):Prop where
 name:(fun s:ByteArray=>s.size≤maxLen) c.name
 order:(fun n=>eK n) c.order
 bj:(fun n=>eK n) c.bj
 rest:(fun l=>∀ x,x∈l→(fun n=>eK n) x) c.rest
 cW:(fun l=>∀ x,x∈l→(fun n=>eK n) x) c.cW
 shut:(fun l=>∀ x,x∈l→(fun n=>eK n) x) c.shut
theorem eB.of {ds:List D} (h:eD TT 105 ds):∃ c:eB,aX ds c.cells∧c.ok:=by
 have q0:=h.dH rfl rfl
 obtain ⟨p0,r0,rfl,h0,q1⟩:=q0.cons_inv
 obtain ⟨x0,y0,w0⟩:=SA h0
 obtain ⟨p1,r1,rfl,h1,q2⟩:=q1.cons_inv
 obtain ⟨x1,y1,w1⟩:=bZ h1
 obtain ⟨p2,r2,rfl,h2,q3⟩:=q2.cons_inv
 obtain ⟨x2,y2,w2⟩:=bZ h2
 obtain ⟨p3,r3,rfl,h3,q4⟩:=q3.cons_inv
 obtain ⟨x3,y3,w3⟩:=XR h3
 obtain ⟨p4,r4,rfl,h4,q5⟩:=q4.cons_inv
 obtain ⟨x4,y4,w4⟩:=XR h4
 obtain ⟨p5,r5,rfl,h5,q6⟩:=q5.cons_inv
 obtain ⟨x5,y5,w5⟩:=XR h5
 cases q6.jv
 refine ⟨⟨x0,x1,x2,x3,x4,x5⟩,?_,⟨w0,w1,w2,w3,w4,w5⟩⟩
 have hh:=(aX.append y0 (aX.append y1 (aX.append y2 (aX.append y3 (aX.append y4 (aX.append y5 aX.nil))))))
 simpa only [eB.cells,bJ,jV,pU,List.append_assoc,List.cons_append,List.nil_append,List.append_nil] using hh
theorem afi {ds:List D} (h:eD TT 23 ds):∃ l:List eB,aX ds [mN eB.cells l]∧(fun l=>∀ x,x∈l→eB.ok x) l:=by
 obtain ⟨n,f,rfl,g⟩:=h.gd rfl rfl
 obtain ⟨l,y,-,w⟩:=k5 eB.cells eB.ok (fun ds h=>eB.of h) g
 exact ⟨l,aX.one y,w⟩
structure jf.ok (c:jf):Prop where
 Eg:(fun n=>eK n) c.Eg
theorem jf.of {ds:List D} (h:eD TT 107 ds):∃ c:jf,aX ds c.cells∧c.ok:=by
 have q0:=h.dH rfl rfl
 obtain ⟨p0,r0,rfl,h0,q1⟩:=q0.cons_inv
 obtain ⟨x0,y0,w0⟩:=bZ h0
 cases q1.jv
 refine ⟨⟨x0⟩,?_,⟨w0⟩⟩
 have hh:=(aX.append y0 aX.nil)
 simpa only [jf.cells,bJ,jV,pU,List.append_assoc,List.cons_append,List.nil_append,List.append_nil] using hh
theorem afj {ds:List D} (h:eD TT 24 ds):∃ l:List jf,aX ds [mN jf.cells l]∧(fun l=>∀ x,x∈l→jf.ok x) l:=by
 obtain ⟨n,f,rfl,g⟩:=h.gd rfl rfl
 obtain ⟨l,y,-,w⟩:=k5 jf.cells jf.ok (fun ds h=>jf.of h) g
 exact ⟨l,aX.one y,w⟩
structure rA.ok (c:rA):Prop where
 name:(fun s:ByteArray=>s.size≤maxLen) c.name
 aL:(fun n=>eK n) c.aL
 group:(fun n=>eK n) c.group
theorem rA.of {ds:List D} (h:eD TT 109 ds):∃ c:rA,aX ds c.cells∧c.ok:=by
 have q0:=h.dH rfl rfl
 obtain ⟨p0,r0,rfl,h0,q1⟩:=q0.cons_inv
 obtain ⟨x0,y0,w0⟩:=SA h0
 obtain ⟨p1,r1,rfl,h1,q2⟩:=q1.cons_inv
 obtain ⟨x1,y1,w1⟩:=bZ h1
 obtain ⟨p2,r2,rfl,h2,q3⟩:=q2.cons_inv
 obtain ⟨x2,y2,w2⟩:=bZ h2
 cases q3.jv
 refine ⟨⟨x0,x1,x2⟩,?_,⟨w0,w1,w2⟩⟩
 have hh:=(aX.append y0 (aX.append y1 (aX.append y2 aX.nil)))
 simpa only [rA.cells,bJ,jV,pU,List.append_assoc,List.cons_append,List.nil_append,List.append_nil] using hh
theorem afk {ds:List D} (h:eD TT 25 ds):∃ l:List rA,aX ds [mN rA.cells l]∧(fun l=>∀ x,x∈l→rA.ok x) l:=by
 obtain ⟨n,f,rfl,g⟩:=h.gd rfl rfl
 obtain ⟨l,y,-,w⟩:=k5 rA.cells rA.ok (fun ds h=>rA.of h) g
 exact ⟨l,aX.one y,w⟩
theorem YS {ds:List D} (h:eD TT 4 ds):∃ c:Bool,aX ds (pU c)∧True:=by
 obtain ⟨x,rfl⟩:=h.aa0 rfl rfl
 exact ⟨x,aX.refl _,trivial⟩
structure Choice.ok (c:Choice):Prop where
 ask:(fun n=>eK n) c.ask
 ka:(fun n=>eK n) c.ka
 whole:(fun _=>True) c.whole
theorem Choice.of {ds:List D} (h:eD TT 215 ds):∃ c:Choice,aX ds c.cells∧c.ok:=by
 have q0:=h.dH rfl rfl
 obtain ⟨p0,r0,rfl,h0,q1⟩:=q0.cons_inv
 obtain ⟨x0,y0,w0⟩:=bZ h0
 obtain ⟨p1,r1,rfl,h1,q2⟩:=q1.cons_inv
 obtain ⟨x1,y1,w1⟩:=bZ h1
 obtain ⟨p2,r2,rfl,h2,q3⟩:=q2.cons_inv
 obtain ⟨x2,y2,w2⟩:=YS h2
 cases q3.jv
 refine ⟨⟨x0,x1,x2⟩,?_,⟨w0,w1,w2⟩⟩
 have hh:=(aX.append y0 (aX.append y1 (aX.append y2 aX.nil)))
 simpa only [Choice.cells,bJ,jV,pU,List.append_assoc,List.cons_append,List.nil_append,List.append_nil] using hh
theorem afl {ds:List D} (h:eD TT 62 ds):∃ l:List Choice,aX ds [mN Choice.cells l]∧(fun l=>∀ x,x∈l→Choice.ok x) l:=by
 obtain ⟨n,f,rfl,g⟩:=h.gd rfl rfl
 obtain ⟨l,y,-,w⟩:=k5 Choice.cells Choice.ok (fun ds h=>Choice.of h) g
 exact ⟨l,aX.one y,w⟩
theorem Term.adt {t:Nat} {ds:List D} (h:eD TT t ds):(t=69→∃ c:Term,aX ds c.k7)∧(t=67→∃ l:List Term,aX ds [mN Term.k7 l]):=by
 refine eD.rec (motive_1:=fun t ds _=>(t=69→∃ c:Term,aX ds c.k7)∧(t=67→∃ l:List Term,aX ds [mN Term.k7 l]))
  (motive_2:=fun ts ds _=>(ts=[]→ds=[])∧(ts=[67]→∃ l:List Term,aX ds [mN Term.k7 l])∧(ts=[3,67]→∃ (n:Int) (l:List Term),aX ds [dI n,mN Term.k7 l])∧(ts=[3,3,67]→∃ (m n:Int) (l:List Term),aX ds [dI m,dI n,mN Term.k7 l])) ?_ ?_ ?_ ?_ ?_ ?_ ?_ h
 ·intro t i k hi hk n hw
  exact ⟨fun e=>(by subst e; cases hi; cases hk),fun e=>(by subst e; cases hi; cases hk)⟩
 ·intro t i hi hk b
  exact ⟨fun e=>(by subst e; cases hi; cases hk),fun e=>(by subst e; cases hi; cases hk)⟩
 ·intro t i hi hk s hw
  exact ⟨fun e=>(by subst e; cases hi; cases hk),fun e=>(by subst e; cases hi; cases hk)⟩
 ·intro t e i hi hk n f hh ih
  refine ⟨fun e=>(by subst e; cases hi; cases hk),fun e=>?_⟩
  subst e
  cases hi
  cases hk
  classical
  let g:Nat→Term:=fun j=>if hj:j < n then ((ih j hj).1 rfl).choose else default
  have hg:∀ j,j < n→aX (f j) (g j).k7:=fun j hj=>by
   simp only [g,hj,dif_pos]
   exact ((ih j hj).1 rfl).choose_spec
  refine ⟨(List.range n).map g,aX.one ?_⟩
  have e:mN Term.k7 ((List.range n).map g)=.sl n fun i=>Term.k7 (((List.range n).map g).getD i default):=by simp [mN]
  rw [e]
  refine tU.adE fun i hi=>?_
  have:((List.range n).map g).getD i default=g i:=by simp [List.getD,hi]
  rw [this]
  exact hg i hi
 ·intro t i fs hi hk ds hs ih
  refine ⟨fun e=>?_,fun e=>(by subst e; cases hi; cases hk)⟩
  subst e
  cases hi
  cases hk
  obtain ⟨m,n,l,hl⟩:=ih.2.2.2 rfl
  refine ⟨⟨m,n,l⟩,?_⟩
  have h2:=(Term.Ub ⟨m,n,l⟩).2
  have:aX [dI m,dI n,mN Term.k7 l] (Term.k7 ⟨m,n,l⟩):=aX.cons tU.rfl' (aX.cons tU.rfl' (aX.one h2))
  exact ⟨hl.1.trans this.1,fun j hj=>(hl.2 j hj).trans (this.2 j (by rw [← hl.1]; exact hj))⟩
 ·exact ⟨fun _=>rfl,fun e=>(by cases e),fun e=>(by cases e),fun e=>(by cases e)⟩
 ·intro t ts p ds hp hs ih1 ih2
  refine ⟨fun e=>(by cases e),fun e=>?_,fun e=>?_,fun e=>?_⟩
  ·cases e
   obtain ⟨l,hl⟩:=ih1.2 rfl
   have:=ih2.1 rfl
   subst this
   exact ⟨l,by simpa using hl⟩
  ·cases e
   obtain ⟨x,rfl,w⟩:=hp.Dj rfl rfl
   obtain ⟨l,hl⟩:=ih2.2.1 rfl
   exact ⟨x,l,aX.append (aX.refl _) hl⟩
  ·cases e
   obtain ⟨x,rfl,w⟩:=hp.Dj rfl rfl
   obtain ⟨n,l,hl⟩:=ih2.2.2.1 rfl
   exact ⟨x,n,l,aX.append (aX.refl _) hl⟩
theorem Term.ofR {ds:List D} (h:eD TT 69 ds):∃ c:Term,aX ds c.k7∧True:=by
 obtain ⟨c,hc⟩:=(Term.adt h).1 rfl
 exact ⟨c,hc,trivial⟩
theorem Term.of {ds:List D} (h:eD TT 69 ds):∃ c:Term,aX ds c.cells∧True:=by
 obtain ⟨c,hc,_⟩:=Term.ofR h
 have hu:=c.EI
 exact ⟨c,⟨hc.1.trans hu.1,fun j hj=>(hc.2 j hj).trans (hu.2 j (by rw [← hc.1]; exact hj))⟩,trivial⟩
structure jx.ok (c:jx):Prop where
 ask:(fun n=>eK n) c.ask
 term:(fun _=>True) c.term
theorem jx.of {ds:List D} (h:eD TT 71 ds):∃ c:jx,aX ds c.cells∧c.ok:=by
 have q0:=h.dH rfl rfl
 obtain ⟨p0,r0,rfl,h0,q1⟩:=q0.cons_inv
 obtain ⟨x0,y0,w0⟩:=bZ h0
 obtain ⟨p1,r1,rfl,h1,q2⟩:=q1.cons_inv
 obtain ⟨x1,y1,w1⟩:=Term.of h1
 cases q2.jv
 refine ⟨⟨x0,x1⟩,?_,⟨w0,w1⟩⟩
 have hh:=(aX.append y0 (aX.append y1 aX.nil))
 simpa only [jx.cells,bJ,jV,pU,List.append_assoc,List.cons_append,List.nil_append,List.append_nil] using hh
theorem afm {ds:List D} (h:eD TT 63 ds):∃ l:List jx,aX ds [mN jx.cells l]∧(fun l=>∀ x,x∈l→jx.ok x) l:=by
 obtain ⟨n,f,rfl,g⟩:=h.gd rfl rfl
 obtain ⟨l,y,-,w⟩:=k5 jx.cells jx.ok (fun ds h=>jx.of h) g
 exact ⟨l,aX.one y,w⟩
structure Order.ok (c:Order):Prop where
 name:(fun s:ByteArray=>s.size≤maxLen) c.name
 sA:(fun _=>True) c.sA
 aE:(fun l=>∀ x,x∈l→Choice.ok x) c.aE
 rules:(fun l=>∀ x,x∈l→jx.ok x) c.rules
theorem Order.of {ds:List D} (h:eD TT 65 ds):∃ c:Order,aX ds c.cells∧c.ok:=by
 have q0:=h.dH rfl rfl
 obtain ⟨p0,r0,rfl,h0,q1⟩:=q0.cons_inv
 obtain ⟨x0,y0,w0⟩:=SA h0
 obtain ⟨p1,r1,rfl,h1,q2⟩:=q1.cons_inv
 obtain ⟨x1,y1,w1⟩:=YS h1
 obtain ⟨p2,r2,rfl,h2,q3⟩:=q2.cons_inv
 obtain ⟨x2,y2,w2⟩:=afl h2
 obtain ⟨p3,r3,rfl,h3,q4⟩:=q3.cons_inv
 obtain ⟨x3,y3,w3⟩:=afm h3
 cases q4.jv
 refine ⟨⟨x0,x1,x2,x3⟩,?_,⟨w0,w1,w2,w3⟩⟩
 have hh:=(aX.append y0 (aX.append y1 (aX.append y2 (aX.append y3 aX.nil))))
 simpa only [Order.cells,bJ,jV,pU,List.append_assoc,List.cons_append,List.nil_append,List.append_nil] using hh
theorem afn {ds:List D} (h:eD TT 26 ds):∃ l:List Order,aX ds [mN Order.cells l]∧(fun l=>∀ x,x∈l→Order.ok x) l:=by
 obtain ⟨n,f,rfl,g⟩:=h.gd rfl rfl
 obtain ⟨l,y,-,w⟩:=k5 Order.cells Order.ok (fun ds h=>Order.of h) g
 exact ⟨l,aX.one y,w⟩
structure dJ.ok (c:dJ):Prop where
 from_:(fun n=>eK n) c.from_
 cr:(fun n=>eK n) c.cr
 days:(fun n=>eK n) c.days
theorem dJ.of {ds:List D} (h:eD TT 165 ds):∃ c:dJ,aX ds c.cells∧c.ok:=by
 have q0:=h.dH rfl rfl
 obtain ⟨p0,r0,rfl,h0,q1⟩:=q0.cons_inv
 obtain ⟨x0,y0,w0⟩:=bZ h0
 obtain ⟨p1,r1,rfl,h1,q2⟩:=q1.cons_inv
 obtain ⟨x1,y1,w1⟩:=bZ h1
 obtain ⟨p2,r2,rfl,h2,q3⟩:=q2.cons_inv
 obtain ⟨x2,y2,w2⟩:=bZ h2
 cases q3.jv
 refine ⟨⟨x0,x1,x2⟩,?_,⟨w0,w1,w2⟩⟩
 have hh:=(aX.append y0 (aX.append y1 (aX.append y2 aX.nil)))
 simpa only [dJ.cells,bJ,jV,pU,List.append_assoc,List.cons_append,List.nil_append,List.append_nil] using hh
theorem afo {ds:List D} (h:eD TT 27 ds):∃ l:List dJ,aX ds [mN dJ.cells l]∧(fun l=>∀ x,x∈l→dJ.ok x) l:=by
 obtain ⟨n,f,rfl,g⟩:=h.gd rfl rfl
 obtain ⟨l,y,-,w⟩:=k5 dJ.cells dJ.ok (fun ds h=>dJ.of h) g
 exact ⟨l,aX.one y,w⟩
structure pZ.ok (c:pZ):Prop where
 from_:(fun n=>eK n) c.from_
 cr:(fun n=>eK n) c.cr
 num:(fun n=>eK n) c.num
 den:(fun n=>eK n) c.den
 since:(fun n=>eK n) c.since
theorem pZ.of {ds:List D} (h:eD TT 167 ds):∃ c:pZ,aX ds c.cells∧c.ok:=by
 have q0:=h.dH rfl rfl
 obtain ⟨p0,r0,rfl,h0,q1⟩:=q0.cons_inv
 obtain ⟨x0,y0,w0⟩:=bZ h0
 obtain ⟨p1,r1,rfl,h1,q2⟩:=q1.cons_inv
 obtain ⟨x1,y1,w1⟩:=bZ h1
 obtain ⟨p2,r2,rfl,h2,q3⟩:=q2.cons_inv
 obtain ⟨x2,y2,w2⟩:=bZ h2
 obtain ⟨p3,r3,rfl,h3,q4⟩:=q3.cons_inv
 obtain ⟨x3,y3,w3⟩:=bZ h3
 obtain ⟨p4,r4,rfl,h4,q5⟩:=q4.cons_inv
 obtain ⟨x4,y4,w4⟩:=bZ h4
 cases q5.jv
 refine ⟨⟨x0,x1,x2,x3,x4⟩,?_,⟨w0,w1,w2,w3,w4⟩⟩
 have hh:=(aX.append y0 (aX.append y1 (aX.append y2 (aX.append y3 (aX.append y4 aX.nil)))))
 simpa only [pZ.cells,bJ,jV,pU,List.append_assoc,List.cons_append,List.nil_append,List.append_nil] using hh
theorem afp {ds:List D} (h:eD TT 28 ds):∃ l:List pZ,aX ds [mN pZ.cells l]∧(fun l=>∀ x,x∈l→pZ.ok x) l:=by
 obtain ⟨n,f,rfl,g⟩:=h.gd rfl rfl
 obtain ⟨l,y,-,w⟩:=k5 pZ.cells pZ.ok (fun ds h=>pZ.of h) g
 exact ⟨l,aX.one y,w⟩
structure Halt.ok (c:Halt):Prop where
 order:(fun n=>eK n) c.order
 from_:(fun n=>eK n) c.from_
 cr:(fun n=>eK n) c.cr
theorem Halt.of {ds:List D} (h:eD TT 169 ds):∃ c:Halt,aX ds c.cells∧c.ok:=by
 have q0:=h.dH rfl rfl
 obtain ⟨p0,r0,rfl,h0,q1⟩:=q0.cons_inv
 obtain ⟨x0,y0,w0⟩:=bZ h0
 obtain ⟨p1,r1,rfl,h1,q2⟩:=q1.cons_inv
 obtain ⟨x1,y1,w1⟩:=bZ h1
 obtain ⟨p2,r2,rfl,h2,q3⟩:=q2.cons_inv
 obtain ⟨x2,y2,w2⟩:=bZ h2
 cases q3.jv
 refine ⟨⟨x0,x1,x2⟩,?_,⟨w0,w1,w2⟩⟩
 have hh:=(aX.append y0 (aX.append y1 (aX.append y2 aX.nil)))
 simpa only [Halt.cells,bJ,jV,pU,List.append_assoc,List.cons_append,List.nil_append,List.append_nil] using hh
theorem afq {ds:List D} (h:eD TT 29 ds):∃ l:List Halt,aX ds [mN Halt.cells l]∧(fun l=>∀ x,x∈l→Halt.ok x) l:=by
 obtain ⟨n,f,rfl,g⟩:=h.gd rfl rfl
 obtain ⟨l,y,-,w⟩:=k5 Halt.cells Halt.ok (fun ds h=>Halt.of h) g
 exact ⟨l,aX.one y,w⟩
structure ah.ok (c:ah):Prop where
 aY:(fun l=>∀ x,x∈l→(fun s:ByteArray=>s.size≤maxLen) x) c.aY
 aB:(fun l=>∀ x,x∈l→eB.ok x) c.aB
 cO:(fun l=>∀ x,x∈l→jf.ok x) c.cO
 bu:(fun l=>∀ x,x∈l→rA.ok x) c.bu
 ak:(fun l=>∀ x,x∈l→Order.ok x) c.ak
 aR:(fun l=>∀ x,x∈l→dJ.ok x) c.aR
 cg:(fun l=>∀ x,x∈l→pZ.ok x) c.cg
 ca:(fun l=>∀ x,x∈l→Halt.ok x) c.ca
theorem ah.of {ds:List D} (h:eD TT 31 ds):∃ c:ah,aX ds c.cells∧c.ok:=by
 have q0:=h.dH rfl rfl
 obtain ⟨p0,r0,rfl,h0,q1⟩:=q0.cons_inv
 obtain ⟨x0,y0,w0⟩:=afh h0
 obtain ⟨p1,r1,rfl,h1,q2⟩:=q1.cons_inv
 obtain ⟨x1,y1,w1⟩:=afi h1
 obtain ⟨p2,r2,rfl,h2,q3⟩:=q2.cons_inv
 obtain ⟨x2,y2,w2⟩:=afj h2
 obtain ⟨p3,r3,rfl,h3,q4⟩:=q3.cons_inv
 obtain ⟨x3,y3,w3⟩:=afk h3
 obtain ⟨p4,r4,rfl,h4,q5⟩:=q4.cons_inv
 obtain ⟨x4,y4,w4⟩:=afn h4
 obtain ⟨p5,r5,rfl,h5,q6⟩:=q5.cons_inv
 obtain ⟨x5,y5,w5⟩:=afo h5
 obtain ⟨p6,r6,rfl,h6,q7⟩:=q6.cons_inv
 obtain ⟨x6,y6,w6⟩:=afp h6
 obtain ⟨p7,r7,rfl,h7,q8⟩:=q7.cons_inv
 obtain ⟨x7,y7,w7⟩:=afq h7
 cases q8.jv
 refine ⟨⟨x0,x1,x2,x3,x4,x5,x6,x7⟩,?_,⟨w0,w1,w2,w3,w4,w5,w6,w7⟩⟩
 have hh:=(aX.append y0 (aX.append y1 (aX.append y2 (aX.append y3 (aX.append y4 (aX.append y5 (aX.append y6 (aX.append y7 aX.nil))))))))
 simpa only [ah.cells,bJ,jV,pU,List.append_assoc,List.cons_append,List.nil_append,List.append_nil] using hh
structure ov.ok (c:ov):Prop where
 kind:(fun n=>eK n) c.kind
 n:(fun n=>eK n) c.n
 unit:(fun n=>eK n) c.unit
theorem ov.of {ds:List D} (h:eD TT 33 ds):∃ c:ov,aX ds c.cells∧c.ok:=by
 have q0:=h.dH rfl rfl
 obtain ⟨p0,r0,rfl,h0,q1⟩:=q0.cons_inv
 obtain ⟨x0,y0,w0⟩:=bZ h0
 obtain ⟨p1,r1,rfl,h1,q2⟩:=q1.cons_inv
 obtain ⟨x1,y1,w1⟩:=bZ h1
 obtain ⟨p2,r2,rfl,h2,q3⟩:=q2.cons_inv
 obtain ⟨x2,y2,w2⟩:=bZ h2
 cases q3.jv
 refine ⟨⟨x0,x1,x2⟩,?_,⟨w0,w1,w2⟩⟩
 have hh:=(aX.append y0 (aX.append y1 (aX.append y2 aX.nil)))
 simpa only [ov.cells,bJ,jV,pU,List.append_assoc,List.cons_append,List.nil_append,List.append_nil] using hh
structure jX.ok (c:jX):Prop where
 EJ:(fun n=>eK n) c.EJ
 zY:(fun n=>eK n) c.zY
 fY:(fun n=>eK n) c.fY
 sum:(fun n=>eK n) c.sum
 bj:(fun n=>eK n) c.bj
 aC:ov.ok c.aC
 day:(fun n=>eK n) c.day
 aL:(fun n=>eK n) c.aL
 rD:(fun n=>eK n) c.rD
 need:(fun n=>eK n) c.need
 oz:(fun n=>eK n) c.oz
 flags:(fun n=>eK n) c.flags
 parts:(fun n=>eK n) c.parts
theorem jX.of {ds:List D} (h:eD TT 35 ds):∃ c:jX,aX ds c.cells∧c.ok:=by
 have q0:=h.dH rfl rfl
 obtain ⟨p0,r0,rfl,h0,q1⟩:=q0.cons_inv
 obtain ⟨x0,y0,w0⟩:=bZ h0
 obtain ⟨p1,r1,rfl,h1,q2⟩:=q1.cons_inv
 obtain ⟨x1,y1,w1⟩:=bZ h1
 obtain ⟨p2,r2,rfl,h2,q3⟩:=q2.cons_inv
 obtain ⟨x2,y2,w2⟩:=bZ h2
 obtain ⟨p3,r3,rfl,h3,q4⟩:=q3.cons_inv
 obtain ⟨x3,y3,w3⟩:=bZ h3
 obtain ⟨p4,r4,rfl,h4,q5⟩:=q4.cons_inv
 obtain ⟨x4,y4,w4⟩:=bZ h4
 obtain ⟨p5,r5,rfl,h5,q6⟩:=q5.cons_inv
 obtain ⟨x5,y5,w5⟩:=ov.of h5
 obtain ⟨p6,r6,rfl,h6,q7⟩:=q6.cons_inv
 obtain ⟨x6,y6,w6⟩:=bZ h6
 obtain ⟨p7,r7,rfl,h7,q8⟩:=q7.cons_inv
 obtain ⟨x7,y7,w7⟩:=bZ h7
 obtain ⟨p8,r8,rfl,h8,q9⟩:=q8.cons_inv
 obtain ⟨x8,y8,w8⟩:=bZ h8
 obtain ⟨p9,r9,rfl,h9,q10⟩:=q9.cons_inv
 obtain ⟨x9,y9,w9⟩:=bZ h9
 obtain ⟨p10,r10,rfl,h10,q11⟩:=q10.cons_inv
 obtain ⟨Ju,W9,w10⟩:=bZ h10
 obtain ⟨SP,r11,rfl,h11,q12⟩:=q11.cons_inv
 obtain ⟨VX,y11,w11⟩:=bZ h11
 obtain ⟨p12,r12,rfl,h12,q13⟩:=q12.cons_inv
 obtain ⟨ZI,y12,w12⟩:=bZ h12
 cases q13.jv
 refine ⟨⟨x0,x1,x2,x3,x4,x5,x6,x7,x8,x9,Ju,VX,ZI⟩,?_,⟨w0,w1,w2,w3,w4,w5,w6,w7,w8,w9,w10,w11,w12⟩⟩
 have hh:=(aX.append y0 (aX.append y1 (aX.append y2 (aX.append y3 (aX.append y4 (aX.append y5 (aX.append y6 (aX.append y7 (aX.append y8 (aX.append y9 (aX.append W9 (aX.append y11 (aX.append y12 aX.nil)))))))))))))
 simpa only [jX.cells,bJ,jV,pU,List.append_assoc,List.cons_append,List.nil_append,List.append_nil] using hh
structure Sign.ok (c:Sign):Prop where
 kind:(fun n=>eK n) c.kind
 part:(fun n=>eK n) c.part
 ja:(fun n=>eK n) c.ja
 for_:(fun n=>eK n) c.for_
 cr:(fun n=>eK n) c.cr
 sum:(fun n=>eK n) c.sum
 day:(fun n=>eK n) c.day
 aL:(fun n=>eK n) c.aL
 flags:(fun n=>eK n) c.flags
theorem Sign.of {ds:List D} (h:eD TT 94 ds):∃ c:Sign,aX ds c.cells∧c.ok:=by
 have q0:=h.dH rfl rfl
 obtain ⟨p0,r0,rfl,h0,q1⟩:=q0.cons_inv
 obtain ⟨x0,y0,w0⟩:=bZ h0
 obtain ⟨p1,r1,rfl,h1,q2⟩:=q1.cons_inv
 obtain ⟨x1,y1,w1⟩:=bZ h1
 obtain ⟨p2,r2,rfl,h2,q3⟩:=q2.cons_inv
 obtain ⟨x2,y2,w2⟩:=bZ h2
 obtain ⟨p3,r3,rfl,h3,q4⟩:=q3.cons_inv
 obtain ⟨x3,y3,w3⟩:=bZ h3
 obtain ⟨p4,r4,rfl,h4,q5⟩:=q4.cons_inv
 obtain ⟨x4,y4,w4⟩:=bZ h4
 obtain ⟨p5,r5,rfl,h5,q6⟩:=q5.cons_inv
 obtain ⟨x5,y5,w5⟩:=bZ h5
 obtain ⟨p6,r6,rfl,h6,q7⟩:=q6.cons_inv
 obtain ⟨x6,y6,w6⟩:=bZ h6
 obtain ⟨p7,r7,rfl,h7,q8⟩:=q7.cons_inv
 obtain ⟨x7,y7,w7⟩:=bZ h7
 obtain ⟨p8,r8,rfl,h8,q9⟩:=q8.cons_inv
 obtain ⟨x8,y8,w8⟩:=bZ h8
 cases q9.jv
 refine ⟨⟨x0,x1,x2,x3,x4,x5,x6,x7,x8⟩,?_,⟨w0,w1,w2,w3,w4,w5,w6,w7,w8⟩⟩
 have hh:=(aX.append y0 (aX.append y1 (aX.append y2 (aX.append y3 (aX.append y4 (aX.append y5 (aX.append y6 (aX.append y7 (aX.append y8 aX.nil)))))))))
 simpa only [Sign.cells,bJ,jV,pU,List.append_assoc,List.cons_append,List.nil_append,List.append_nil] using hh
theorem afr {ds:List D} (h:eD TT 36 ds):∃ l:List Sign,aX ds [mN Sign.cells l]∧(fun l=>∀ x,x∈l→Sign.ok x) l:=by
 obtain ⟨n,f,rfl,g⟩:=h.gd rfl rfl
 obtain ⟨l,y,-,w⟩:=k5 Sign.cells Sign.ok (fun ds h=>Sign.of h) g
 exact ⟨l,aX.one y,w⟩
structure cZ.ok (c:cZ):Prop where
 at_:(fun n=>eK n) c.at_
 sum:(fun n=>eK n) c.sum
theorem cZ.of {ds:List D} (h:eD TT 117 ds):∃ c:cZ,aX ds c.cells∧c.ok:=by
 have q0:=h.dH rfl rfl
 obtain ⟨p0,r0,rfl,h0,q1⟩:=q0.cons_inv
 obtain ⟨x0,y0,w0⟩:=bZ h0
 obtain ⟨p1,r1,rfl,h1,q2⟩:=q1.cons_inv
 obtain ⟨x1,y1,w1⟩:=bZ h1
 cases q2.jv
 refine ⟨⟨x0,x1⟩,?_,⟨w0,w1⟩⟩
 have hh:=(aX.append y0 (aX.append y1 aX.nil))
 simpa only [cZ.cells,bJ,jV,pU,List.append_assoc,List.cons_append,List.nil_append,List.append_nil] using hh
theorem afs {ds:List D} (h:eD TT 37 ds):∃ l:List cZ,aX ds [mN cZ.cells l]∧(fun l=>∀ x,x∈l→cZ.ok x) l:=by
 obtain ⟨n,f,rfl,g⟩:=h.gd rfl rfl
 obtain ⟨l,y,-,w⟩:=k5 cZ.cells cZ.ok (fun ds h=>cZ.of h) g
 exact ⟨l,aX.one y,w⟩
structure cT.ok (c:cT):Prop where
 kind:(fun n=>eK n) c.kind
 ja:(fun n=>eK n) c.ja
 cr:(fun n=>eK n) c.cr
 part:(fun n=>eK n) c.part
 at_:(fun n=>eK n) c.at_
 sum:(fun n=>eK n) c.sum
 day:(fun n=>eK n) c.day
 aL:(fun n=>eK n) c.aL
 form:(fun n=>eK n) c.form
theorem cT.of {ds:List D} (h:eD TT 126 ds):∃ c:cT,aX ds c.cells∧c.ok:=by
 have q0:=h.dH rfl rfl
 obtain ⟨p0,r0,rfl,h0,q1⟩:=q0.cons_inv
 obtain ⟨x0,y0,w0⟩:=bZ h0
 obtain ⟨p1,r1,rfl,h1,q2⟩:=q1.cons_inv
 obtain ⟨x1,y1,w1⟩:=bZ h1
 obtain ⟨p2,r2,rfl,h2,q3⟩:=q2.cons_inv
 obtain ⟨x2,y2,w2⟩:=bZ h2
 obtain ⟨p3,r3,rfl,h3,q4⟩:=q3.cons_inv
 obtain ⟨x3,y3,w3⟩:=bZ h3
 obtain ⟨p4,r4,rfl,h4,q5⟩:=q4.cons_inv
 obtain ⟨x4,y4,w4⟩:=bZ h4
 obtain ⟨p5,r5,rfl,h5,q6⟩:=q5.cons_inv
 obtain ⟨x5,y5,w5⟩:=bZ h5
 obtain ⟨p6,r6,rfl,h6,q7⟩:=q6.cons_inv
 obtain ⟨x6,y6,w6⟩:=bZ h6
 obtain ⟨p7,r7,rfl,h7,q8⟩:=q7.cons_inv
 obtain ⟨x7,y7,w7⟩:=bZ h7
 obtain ⟨p8,r8,rfl,h8,q9⟩:=q8.cons_inv
 obtain ⟨x8,y8,w8⟩:=bZ h8
 cases q9.jv
 refine ⟨⟨x0,x1,x2,x3,x4,x5,x6,x7,x8⟩,?_,⟨w0,w1,w2,w3,w4,w5,w6,w7,w8⟩⟩
 have hh:=(aX.append y0 (aX.append y1 (aX.append y2 (aX.append y3 (aX.append y4 (aX.append y5 (aX.append y6 (aX.append y7 (aX.append y8 aX.nil)))))))))
 simpa only [cT.cells,bJ,jV,pU,List.append_assoc,List.cons_append,List.nil_append,List.append_nil] using hh
theorem aft {ds:List D} (h:eD TT 38 ds):∃ l:List cT,aX ds [mN cT.cells l]∧(fun l=>∀ x,x∈l→cT.ok x) l:=by
 obtain ⟨n,f,rfl,g⟩:=h.gd rfl rfl
 obtain ⟨l,y,-,w⟩:=k5 cT.cells cT.ok (fun ds h=>cT.of h) g
 exact ⟨l,aX.one y,w⟩
structure Fact.ok (c:Fact):Prop where
 kind:(fun n=>eK n) c.kind
 at_:(fun n=>eK n) c.at_
 n:(fun n=>eK n) c.n
theorem Fact.of {ds:List D} (h:eD TT 111 ds):∃ c:Fact,aX ds c.cells∧c.ok:=by
 have q0:=h.dH rfl rfl
 obtain ⟨p0,r0,rfl,h0,q1⟩:=q0.cons_inv
 obtain ⟨x0,y0,w0⟩:=bZ h0
 obtain ⟨p1,r1,rfl,h1,q2⟩:=q1.cons_inv
 obtain ⟨x1,y1,w1⟩:=bZ h1
 obtain ⟨p2,r2,rfl,h2,q3⟩:=q2.cons_inv
 obtain ⟨x2,y2,w2⟩:=bZ h2
 cases q3.jv
 refine ⟨⟨x0,x1,x2⟩,?_,⟨w0,w1,w2⟩⟩
 have hh:=(aX.append y0 (aX.append y1 (aX.append y2 aX.nil)))
 simpa only [Fact.cells,bJ,jV,pU,List.append_assoc,List.cons_append,List.nil_append,List.append_nil] using hh
theorem afu {ds:List D} (h:eD TT 39 ds):∃ l:List Fact,aX ds [mN Fact.cells l]∧(fun l=>∀ x,x∈l→Fact.ok x) l:=by
 obtain ⟨n,f,rfl,g⟩:=h.gd rfl rfl
 obtain ⟨l,y,-,w⟩:=k5 Fact.cells Fact.ok (fun ds h=>Fact.of h) g
 exact ⟨l,aX.one y,w⟩
structure aw.ok (c:aw):Prop where
 aM:jX.ok c.aM
 af:(fun l=>∀ x,x∈l→Sign.ok x) c.af
 aN:(fun l=>∀ x,x∈l→cZ.ok x) c.aN
 aU:(fun l=>∀ x,x∈l→cT.ok x) c.aU
 facts:(fun l=>∀ x,x∈l→Fact.ok x) c.facts
theorem aw.of {ds:List D} (h:eD TT 41 ds):∃ c:aw,aX ds c.cells∧c.ok:=by
 have q0:=h.dH rfl rfl
 obtain ⟨p0,r0,rfl,h0,q1⟩:=q0.cons_inv
 obtain ⟨x0,y0,w0⟩:=jX.of h0
 obtain ⟨p1,r1,rfl,h1,q2⟩:=q1.cons_inv
 obtain ⟨x1,y1,w1⟩:=afr h1
 obtain ⟨p2,r2,rfl,h2,q3⟩:=q2.cons_inv
 obtain ⟨x2,y2,w2⟩:=afs h2
 obtain ⟨p3,r3,rfl,h3,q4⟩:=q3.cons_inv
 obtain ⟨x3,y3,w3⟩:=aft h3
 obtain ⟨p4,r4,rfl,h4,q5⟩:=q4.cons_inv
 obtain ⟨x4,y4,w4⟩:=afu h4
 cases q5.jv
 refine ⟨⟨x0,x1,x2,x3,x4⟩,?_,⟨w0,w1,w2,w3,w4⟩⟩
 have hh:=(aX.append y0 (aX.append y1 (aX.append y2 (aX.append y3 (aX.append y4 aX.nil)))))
 simpa only [aw.cells,bJ,jV,pU,List.append_assoc,List.cons_append,List.nil_append,List.append_nil] using hh
theorem C7 (aeA:∀ (a0:ah) (a1:Int) (a2:aw) (a3:Int) (a4:Int),j5 a0 a1 a2 a3 a4=true) (VV:List (List D)) (h:Q2 TT [31,3,41,3,3] VV):jl Tryz.prog 3 (zW TT [31,3,41,3,3] VV) [] (.d (.v (.bool true))) []:=by
 obtain ⟨d0,d1,d2,d3,d4,rfl⟩:∃ d0 d1 d2 d3 d4,VV=[d0,d1,d2,d3,d4]:=by
  match VV,h with
  | [d0,d1,d2,d3,d4],_=>exact ⟨d0,d1,d2,d3,d4,rfl⟩
 obtain ⟨h0,h1,h2,h3,h4,-⟩:=h
 obtain ⟨x0,y0,w0⟩:=ah.of h0
 obtain ⟨x1,rfl,w1⟩:=h1.Dj rfl rfl
 obtain ⟨x2,y2,w2⟩:=aw.of h2
 obtain ⟨x3,rfl,w3⟩:=h3.Dj rfl rfl
 obtain ⟨x4,rfl,w4⟩:=h4.Dj rfl rfl
 have hf:=Iw x0 x1 x2 x3 x4
 rw [aeA] at hf
 exact jl.Yd hf ⟨vx.d y0.agg,vx.rfl',vx.d y2.agg,vx.rfl',vx.rfl',trivial⟩
theorem Ha (a0:ah) (a1:Int) (a2:aw) (a3:Int) (a4:Int):j5 a0 a1 a2 a3 a4=true :=
 wF a0 a1 a2 a3 a4
end
end Go.Proofs.YtaeekeogpbbkcaaGreatDoor
