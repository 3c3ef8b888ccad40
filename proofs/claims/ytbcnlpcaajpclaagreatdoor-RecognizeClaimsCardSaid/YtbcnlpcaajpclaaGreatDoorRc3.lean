/- Functions, as sketches. -/
import Derived.Test.YtbcnlpcaajpclaaGreatDoorRc2
namespace Go.Proofs.YtbcnlpcaajpclaaGreatDoor
open Go Go.Av
set_option linter.unusedSimpArgs false
set_option linter.unusedVariables false
set_option maxHeartbeats 1000000
set_option maxRecDepth 100000
inductive TyT:Term→Int→Prop
 | int {n:Int} (h : -1099511627776≤n∧n≤1099511627776):TyT ⟨0,n,[]⟩ 0
 | bool {n:Int} (h:0≤n∧n≤1):TyT ⟨1,n,[]⟩ 1
 | var {n:Int} (h:0≤n∧n≤19):TyT ⟨2,n,[]⟩ (if n < 7 then 0 else 1)
 | not {a:Term}:TyT a 1→TyT ⟨3,0,[a]⟩ 1
 | conj {op:Int} {a b:Term} (h:op=4∨op=5):TyT a 1→TyT b 1→TyT ⟨op,0,[a,b]⟩ 1
 | ite {a b c:Term} {k:Int}:TyT a 1→TyT b k→TyT c k→TyT ⟨6,0,[a,b,c]⟩ k
 | less {a b:Term}:TyT a 0→TyT b 0→TyT ⟨7,0,[a,b]⟩ 1
 | eq {a b:Term} {k:Int}:TyT a k→TyT b k→TyT ⟨8,0,[a,b]⟩ 1
 | arith {op:Int} {a b:Term} (h:9≤op∧op≤13):TyT a 0→TyT b 0→TyT ⟨op,0,[a,b]⟩ 0
theorem TyT.kind {t:Term} {k:Int} (h:TyT t k):k=0∨k=1:=by
 induction h with
 | var _=>split <;> simp
 | ite _ _ _ _ ih _=>exact ih
 | _=>simp
noncomputable def term_check_kr (rv:Term→Int × Int) (rp:Term→Prop) (rf:∀ (t:Term),rp t→FnA Tryz.prog 277 [av t.cells] [] (.tup [iv ((rv t).1),iv ((rv t).2)]) []) (t:Term):Ctr (Int × Int):=⟨Tryz.prog,277,[av t.cells],fun x=>.tup [iv x.1,iv x.2],true,rv t,rp t,rf t,fun _=>True,trivial⟩
noncomputable def term_check_sk (rv:Term→Int × Int) (rp:Term→Prop) (rf:∀ (t:Term),rp t→FnA Tryz.prog 277 [av t.cells] [] (.tup [iv ((rv t).1),iv ((rv t).2)]) []) (t:Term):Sk (Int × Int) :=
 .r 1 (.andl (.o [.nrm (mkC intE t.args.length 0)]) (.p (mkP ((t.args.length:Nat):Int) 8))) fun _ =>
 .bind true (fun b1=>b1.length=t.args.length∧∀ q,q < t.args.length→(rv (t.args.getD q default)).2=0∧b1.getD q default=(rv (t.args.getD q default)).1)
 (.loop (default:Sum (Int × Int) ((List Int))) (fun i2=>i2.1.length=t.args.length∧i2.2≤t.args.length∧∀ q,q < i2.2→(rv (t.args.getD q default)).2=0∧i2.1.getD q default=(rv (t.args.getD q default)).1) (fun i2=>t.args.length - i2.2) ((List.replicate t.args.length (0:Int),0):(List Int) × Nat)
 (fun (i2:(List Int) × Nat)=>⟨[(4,ow 100002 i2.1),(20,iv (i2.2:Int))],[(100002,rowB 3 1 intC i2.1)]⟩) fun i2 =>
 .bnd 18 0 t.args.length <|
 .br (decide ((i2.2:Int) < ((t.args.length:Nat):Int)))
 (.r 4 (.andl (.p (ixP (i2.2:Int) t.args.length)) (.o [.cast 23 (refC (Term.unroll (t.args.getD i2.2 default)))])) fun _ =>
 .r 5 ((term_check_kr rv rp rf (t.args.getD i2.2 default)).c) fun x3 =>
 .br (x3.2 != 0)
 (.fin (.inl (.inl (0,x3.2))))
 (.r 8 (.andl (.p (ixP (i2.2:Int) i2.1.length)) (.andl (.o [.nrm (setC intE i2.1 i2.2 x3.1)]) (.p (i2.2 < i2.1.length)))) fun _ =>
 .wn 100002 i2.1.length (i2.1.set i2.2 x3.1).length <|
 .r 9 .z fun _ =>
 .wi 20 (w64 ((i2.2:Int)+1)) ((i2.2+1:Nat):Int) <|
 .fin (.inr (i2.1.set i2.2 x3.1,i2.2+1))))
 (.fin (.inl (.inr i2.1))))
 (fun (b1:(List Int))=>⟨[(4,ow 100001 b1)],[(100001,rowB 3 1 intC b1)]⟩) fun b1 =>
 .br ((decide (t.op < 0))||(decide (t.op > 13)))
 (.fin (0,1))
 (.br (((t.op == 0)||(t.op == 1))||(t.op == 2))
 (.r 13 ((term_leaf_k t).c) fun x4 =>
 .fin (x4.1,x4.2))
 (.r 14 ((term_shapeOf_k t.op).c) fun x5 =>
 .br ((((b1.length:Nat):Int) != ((x5.args.length:Nat):Int))||(t.n != 0))
 (.fin (0,2))
 (.bind true (fun b6=>∀ q,q < x5.args.length→(x5.args.getD q default = -1→b1.getD q default=b6∨b1.getD q default = -1)∧(x5.args.getD q default≠-1→b1.getD q default=x5.args.getD q default))
 (.loop (default:Sum (Int × Int) (Int)) (fun i7=>i7.2≤x5.args.length∧∀ q,q < i7.2→(x5.args.getD q default = -1→b1.getD q default=i7.1∨b1.getD q default = -1)∧(x5.args.getD q default≠-1→b1.getD q default=x5.args.getD q default)) (fun i7=>x5.args.length - i7.2) (((-1),0):Int × Nat)
 (fun (i7:Int × Nat)=>⟨[(10,iv i7.1),(82,iv (i7.2:Int))],[]⟩) fun i7 =>
 .bnd 80 0 x5.args.length <|
 .br (decide ((i7.2:Int) < ((x5.args.length:Nat):Int)))
 (.r 20 (.p (ixP (i7.2:Int) x5.args.length)) fun _ =>
 .bind false (fun b8=>b8=if (x5.args.getD i7.2 default) = -1∧i7.1 = -1 then b1.getD i7.2 default else i7.1)
 (.br (((x5.args.getD i7.2 default) == (-1))&&(i7.1 == (-1)))
 (.r 22 (.andl (.p (ixP (i7.2:Int) b1.length)) (.p (i7.2 < b1.length))) fun _ =>
 .fin (.inr (b1.getD i7.2 default)))
 (.fin (.inr i7.1)))
 (fun (b8:Int)=>⟨[(10,iv b8)],[]⟩) fun b8 =>
 .bind false (fun b9=>b9=if (x5.args.getD i7.2 default) = -1 then b8 else (x5.args.getD i7.2 default))
 (.br ((x5.args.getD i7.2 default) == (-1))
 (.fin (.inr b8))
 (.fin (.inr (x5.args.getD i7.2 default))))
 (fun (b9:Int)=>⟨[(12,iv b9)],[]⟩) fun b9 =>
 .r 25 (.andl (.p (ixP (i7.2:Int) b1.length)) (.p (i7.2 < b1.length))) fun _ =>
 .br ((b1.getD i7.2 default) != b9)
 (.fin (.inl (.inl (0,11))))
 (.r 27 .z fun _ =>
 .wi 82 (w64 ((i7.2:Int)+1)) ((i7.2+1:Nat):Int) <|
 .fin (.inr (b8,i7.2+1))))
 (.fin (.inl (.inr i7.1))))
 (fun (b6:Int)=>⟨[(10,iv b6)],[]⟩) fun b6 =>
 .br (x5.result == (-1))
 (.fin (b6,0))
 (.fin (x5.result,0)))))
noncomputable def term_check_n:Nat→Term→Int × Int
 | 0,_=>default
 | fu+1,t=>(term_check_sk (term_check_n fu) (fun _=>False) (fun _=>fun h=>h.elim) t).val
theorem term_check_ok (fu:Nat) (rf:∀ (t:Term),t.depth≤fu∧(Thin t)→FnA Tryz.prog 277 [av t.cells] [] (.tup [iv ((term_check_n fu t).1),iv ((term_check_n fu t).2)]) []) (t:Term) (hm:t.depth≤fu+1) (hth:Thin t):(term_check_sk (term_check_n fu) (fun t=>t.depth≤fu∧(Thin t)) rf t).obs (fun _=>True):=by
 refine Sk.obs_of _ ?_
 unfold term_check_sk
 simp only [Sk.obq,Sk.isLoop,reduceCtorEq,ON,kk,term_leaf_k,term_shapeOf_k,term_check_kr,maxLen]
 have hth':=hth
 obtain ⟨ht1,ht2⟩:=hth'
 refine ⟨⟨by omega,by omega,by omega⟩,fun _=>⟨⟨⟨by simp,by omega,fun q hq=>absurd hq (by omega)⟩,fun i hi hl=>⟨fun hc=>⟨⟨by omega,of_decide_eq_true hc⟩,fun _=>⟨⟨?_,?_⟩,fun x hx he=>⟨⟨⟨by omega,?_⟩,?_⟩,fun _=>⟨by simp,fun _=>⟨?_,⟨⟨by simp [hi.1],?_,fun q hq=>?_⟩,?_⟩⟩⟩⟩⟩⟩,fun hc=>⟨hi.1,fun q hq=>hi.2.2 q (by simp only [LN] at hc; omega)⟩⟩⟩,fun b hb hc hop x hx hl=>⟨⟨by omega,fun q hq=>absurd hq (by omega)⟩,fun i hi hl2=>⟨fun hc=>⟨⟨by omega,of_decide_eq_true hc⟩,fun _=>⟨⟨fun h=>⟨⟨⟨by omega,?_⟩,?_⟩,fun _=>?_⟩,fun h=>?_⟩,fun y _ hy=>⟨⟨fun h=>?_,fun h=>?_⟩,fun z _ hz=>⟨⟨⟨by omega,?_⟩,?_⟩,fun _=>fun he _=>⟨?_,⟨⟨?_,fun q hq=>?_⟩,?_⟩⟩⟩⟩⟩⟩,fun hc q hq=>hi.2 q (by simp only [LN] at hc; omega)⟩⟩⟩⟩
 all_goals (try simp only [LN] at hc)
 ·have:=t.depth_args i.2 (by omega); omega
 ·exact ht2 i.2 (by omega)
 ·omega
 ·omega
 ·exact w64_id (by omega) (by omega)
 ·omega
 ·simp only [LN] at he
  by_cases e:q=i.2
  ·subst e
   subst hx
   exact ⟨he,lget_set_eq _ (by omega) _ _⟩
  ·have:=hi.2.2 q (by omega)
   refine ⟨this.1,?_⟩
   rw [← this.2]
   exact lget_set_ne _ e _ _
 ·omega
 all_goals (try simp only [LN] at hl)
 ·omega
 ·omega
 ·simp only [LN] at h
  rw [if_pos h]
 ·rw [if_neg]
  simp only [LN] at h
  intro ⟨h1,h2⟩
  rcases h with h | h
  ·exact h h1
  ·exact h h2
 ·simp only [LN] at h; rw [if_pos h]
 ·simp only [LN] at h; rw [if_neg h]
 ·omega
 ·omega
 ·exact w64_id (by omega) (by omega)
 ·omega
 ·simp only [LN] at he
  by_cases e:q=i.2
  ·subst e
   refine ⟨fun h=>?_,fun h=>?_⟩
   ·rw [if_pos h] at hz; left; rw [he,hz]
   ·rw [if_neg h] at hz; rw [he,hz]
  ·have:=hi.2 q (by omega)
   refine ⟨fun h=>?_,this.2⟩
   rcases this.1 h with h1 | h1
   ·by_cases c:x.args.getD i.snd default = -1∧i.fst = -1
    ·right; rw [h1,c.2]
    ·rw [if_neg c] at hy; left; rw [h1,hy]
   ·exact .inr h1
 ·omega
theorem term_check_val (fu:Nat) (rp:Term→Prop) (rf:∀ (t:Term),rp t→FnA Tryz.prog 277 [av t.cells] [] (.tup [iv ((term_check_n fu t).1),iv ((term_check_n fu t).2)]) []) (t:Term):(term_check_sk (term_check_n fu) rp rf t).val=term_check_n (fu+1) t:=by kernel_rfl
theorem term_check_fnN (fu:Nat):∀ (t:Term),t.depth≤fu→(Thin t)→FnA Tryz.prog 277 [av t.cells] [] (.tup [iv ((term_check_n fu t).1),iv ((term_check_n fu t).2)]) []:=by
 induction fu with
 | zero=>intro t hm h0; exact absurd hm (by have:=Term.depth_pos t; omega)
 | succ fu ih =>
  intro t hm h0
  have h:FnA Tryz.prog 277 [av t.cells] [] (.tup [iv (((term_check_sk (term_check_n fu) (fun t=>t.depth≤fu∧(Thin t)) (fun t h=>ih t h.1 h.2) t).val).1),iv (((term_check_sk (term_check_n fu) (fun t=>t.depth≤fu∧(Thin t)) (fun t h=>ih t h.1 h.2) t).val).2)]) []:=FnA.sk tok mixed (fun x=>.tup [iv x.1,iv x.2]) (fun _=>[]) Tryz.func277 rfl (by kernel_rfl) 3000 (term_check_sk (term_check_n fu) (fun t=>t.depth≤fu∧(Thin t)) (fun t h=>ih t h.1 h.2) t) (by kernel_rfl) (term_check_ok fu _ t hm h0)
  rw [term_check_val] at h
  exact h
noncomputable def term_check (t:Term):Int × Int:=term_check_n (t.depth) t
theorem term_check_fn (t:Term) (hth:Thin t):FnA Tryz.prog 277 [av t.cells] [] (.tup [iv ((term_check t).1),iv ((term_check t).2)]) []:=term_check_fnN _ t (Nat.le_refl _) hth
noncomputable def term_check_k (t:Term):Ctr (Int × Int):=⟨Tryz.prog,277,[av t.cells],fun x=>.tup [iv x.1,iv x.2],true,term_check t,(Thin t),fun h=>term_check_fn t h,fun _=>True,trivial⟩
theorem term_leaf_typed (t:Term) (hop:t.op=0∨t.op=1∨t.op=2) (h:(term_leaf t).2=0):TyT t (term_leaf t).1:=by
 obtain ⟨op,n,args⟩:=t
 simp only at hop
 revert h
 cases args with
 | cons a r =>
  intro h
  exfalso
  revert h
  simp only [term_leaf,term_leaf_sk,Sk.val_br,Sk.val_fin]
  rw [show decide ((((a :: r).length:Nat):Int) > 0)=true from by simp]
  simp
 | nil =>
  rcases hop with rfl | rfl | rfl
  ·simp only [term_leaf,term_leaf_sk,Sk.val_br,Sk.val_fin,Sk.val_r,Ctr.c_v,kk,term_cut_k,term_cut_eq]
   intro h
   by_cases c:minI (maxI n (-1099511627776)) 1099511627776=n
   ·have : -1099511627776≤n∧n≤1099511627776:=by simp only [minI,maxI] at c; omega
    have e:(minI (maxI n (-1099511627776)) 1099511627776 != n)=false:=by simpa using c
    rw [e]
    exact TyT.int this
   ·have e:(minI (maxI n (-1099511627776)) 1099511627776 != n)=true:=by simpa using c
    rw [e] at h
    exact absurd (show (3:Int)=0 from h) (by decide)
  ·simp only [term_leaf,term_leaf_sk,Sk.val_br,Sk.val_fin,Sk.val_r,Ctr.c_v,kk,term_cut_k,term_cut_eq]
   intro h
   by_cases c:n < 0∨n > 1
   ·have e:(decide (n < 0)||decide (n > 1))=true:=by simpa using c
    rw [e] at h
    exact absurd (show (3:Int)=0 from h) (by decide)
   ·have:0≤n∧n≤1:=by omega
    have e:(decide (n < 0)||decide (n > 1))=false:=by simp; omega
    rw [e]
    exact TyT.bool this
  ·intro h
   have e:term_leaf ⟨2,n,[]⟩=(if n < 0∨n > 19 then (0,10) else if n < 7 then (0,0) else (1,0)):=by
    simp only [term_leaf,term_leaf_sk,Sk.val_br,Sk.val_fin,Sk.val_r,Ctr.c_v,kk,term_VarType_k,term_VarType,term_VarType_sk]
    by_cases c:n < 0∨n > 19
    ·have:(decide (n < 0)||decide (n > 19))=true:=by simpa using c
     simp [this,c]
    ·have:(decide (n < 0)||decide (n > 19))=false:=by simp; omega
     by_cases d:n < 7 <;> simp [this,c,d]
   rw [e] at h ⊢
   by_cases c:n < 0∨n > 19
   ·simp [c] at h
   ·have:0≤n∧n≤19:=by omega
    have:=TyT.var this
    by_cases d:n < 7 <;> simpa [c,d] using this
theorem shape3:term_shapeOf 3=⟨[1],1⟩:=by kernel_rfl
theorem shape4:term_shapeOf 4=⟨[1,1],1⟩:=by kernel_rfl
theorem shape5:term_shapeOf 5=⟨[1,1],1⟩:=by kernel_rfl
theorem shape6:term_shapeOf 6=⟨[1,-1,-1],-1⟩:=by kernel_rfl
theorem shape7:term_shapeOf 7=⟨[0,0],1⟩:=by kernel_rfl
theorem shape8:term_shapeOf 8=⟨[-1,-1],1⟩:=by kernel_rfl
theorem shape9_9:term_shapeOf 9=⟨[0,0],0⟩:=by kernel_rfl
theorem shape9_10:term_shapeOf 10=⟨[0,0],0⟩:=by kernel_rfl
theorem shape9_11:term_shapeOf 11=⟨[0,0],0⟩:=by kernel_rfl
theorem shape9_12:term_shapeOf 12=⟨[0,0],0⟩:=by kernel_rfl
theorem shape9_13:term_shapeOf 13=⟨[0,0],0⟩:=by kernel_rfl
theorem shape9 (op:Int) (h:9≤op∧op≤13):term_shapeOf op=⟨[0,0],0⟩:=by
 have:op=9∨op=10∨op=11∨op=12∨op=13:=by omega
 rcases this with e | e | e | e | e <;> rw [e]
 ·exact shape9_9
 ·exact shape9_10
 ·exact shape9_11
 ·exact shape9_12
 ·exact shape9_13
theorem list1 {α:Type} {l:List α} (h:l.length=1):∃ a,l=[a]:=by
 match l,h with
 | [a],_=>exact ⟨a,rfl⟩
theorem list2 {α:Type} {l:List α} (h:l.length=2):∃ a b,l=[a,b]:=by
 match l,h with
 | [a,b],_=>exact ⟨a,b,rfl⟩
theorem list3 {α:Type} {l:List α} (h:l.length=3):∃ a b c,l=[a,b,c]:=by
 match l,h with
 | [a,b,c],_=>exact ⟨a,b,c,rfl⟩
theorem typed_node {t:Term} {b1:List Int} {common:Int} (hop:3≤t.op∧t.op≤13) (hn:t.n=0) (hl:b1.length=(term_shapeOf t.op).args.length) (hb:b1.length=t.args.length) (hty:∀ q,q < t.args.length→TyT (t.args.getD q default) (b1.getD q default))
  (hc:∀ q,q < (term_shapeOf t.op).args.length→((term_shapeOf t.op).args.getD q default = -1→b1.getD q default=common∨b1.getD q default = -1)∧((term_shapeOf t.op).args.getD q default≠-1→b1.getD q default=(term_shapeOf t.op).args.getD q default)) :
  TyT t (if (term_shapeOf t.op).result = -1 then common else (term_shapeOf t.op).result):=by
 obtain ⟨op,n,args⟩:=t
 simp only at hop hn hl hb hty hc ⊢
 subst hn
 have cases9:op=3∨op=4∨op=5∨op=6∨op=7∨op=8∨(9≤op∧op≤13):=by omega
 rcases cases9 with rfl | rfl | rfl | rfl | rfl | rfl | h9
 ·rw [shape3] at hl hc ⊢
  obtain ⟨a,rfl⟩:=list1 (hb.symm.trans hl)
  have h0:=hty 0 (by simp)
  have c0:=hc 0 (by simp)
  simp at h0 c0 ⊢
  rw [c0] at h0
  exact .not h0
 ·rw [shape4] at hl hc ⊢
  obtain ⟨a,b,rfl⟩:=list2 (hb.symm.trans hl)
  have h0:=hty 0 (by simp); have h1:=hty 1 (by simp)
  have c0:=hc 0 (by simp); have c1:=hc 1 (by simp)
  simp at h0 h1 c0 c1 ⊢
  rw [c0] at h0; rw [c1] at h1
  exact .conj (.inl rfl) h0 h1
 ·rw [shape5] at hl hc ⊢
  obtain ⟨a,b,rfl⟩:=list2 (hb.symm.trans hl)
  have h0:=hty 0 (by simp); have h1:=hty 1 (by simp)
  have c0:=hc 0 (by simp); have c1:=hc 1 (by simp)
  simp at h0 h1 c0 c1 ⊢
  rw [c0] at h0; rw [c1] at h1
  exact .conj (.inr rfl) h0 h1
 ·rw [shape6] at hl hc ⊢
  obtain ⟨a,b,c,rfl⟩:=list3 (hb.symm.trans hl)
  have h0:=hty 0 (by simp); have h1:=hty 1 (by simp); have h2:=hty 2 (by simp)
  have c0:=hc 0 (by simp); have c1:=hc 1 (by simp); have c2:=hc 2 (by simp)
  simp at h0 h1 h2 c0 c1 c2 ⊢
  have k1:=h1.kind; have k2:=h2.kind
  rw [c0] at h0
  have e1:b1[1]?.getD 0=common:=by omega
  have e2:b1[2]?.getD 0=common:=by omega
  rw [e1] at h1; rw [e2] at h2
  exact .ite h0 h1 h2
 ·rw [shape7] at hl hc ⊢
  obtain ⟨a,b,rfl⟩:=list2 (hb.symm.trans hl)
  have h0:=hty 0 (by simp); have h1:=hty 1 (by simp)
  have c0:=hc 0 (by simp); have c1:=hc 1 (by simp)
  simp at h0 h1 c0 c1 ⊢
  rw [c0] at h0; rw [c1] at h1
  exact .less h0 h1
 ·rw [shape8] at hl hc ⊢
  obtain ⟨a,b,rfl⟩:=list2 (hb.symm.trans hl)
  have h0:=hty 0 (by simp); have h1:=hty 1 (by simp)
  have c0:=hc 0 (by simp); have c1:=hc 1 (by simp)
  simp at h0 h1 c0 c1 ⊢
  have k1:=h0.kind; have k2:=h1.kind
  have e1:b1[0]?.getD 0=common:=by omega
  have e2:b1[1]?.getD 0=common:=by omega
  rw [e1] at h0; rw [e2] at h1
  exact .eq h0 h1
 ·rw [shape9 op h9] at hl hc ⊢
  obtain ⟨a,b,rfl⟩:=list2 (hb.symm.trans hl)
  have h0:=hty 0 (by simp); have h1:=hty 1 (by simp)
  have c0:=hc 0 (by simp); have c1:=hc 1 (by simp)
  simp at h0 h1 c0 c1 ⊢
  rw [c0] at h0; rw [c1] at h1
  exact .arith h9 h0 h1
theorem term_check_typed:∀ (fu:Nat) (t:Term),t.depth≤fu→(term_check_n fu t).2=0→TyT t (term_check_n fu t).1
 | 0,t,hd,_=>absurd hd (by have:=t.depth_pos; omega)
 | fu+1,t,hd,h=>by
  have ih:=term_check_typed fu
  have key:term_check_n (fu+1) t=(term_check_sk (term_check_n fu) (fun _=>False) (fun _ h=>h.elim) t).val:=rfl
  rw [key] at h ⊢
  refine (Sk.pval (term_check_sk (term_check_n fu) (fun _=>False) (fun _ h=>h.elim) t) (L:=fun x=>x.2=0→TyT t x.1) (Sk.pst_of _ ?_)) h
  unfold term_check_sk
  simp only [Sk.pstq,Sk.isLoop,reduceCtorEq,false_implies,leafB,leafJ,Cal.z,Cal.p,Cal.t,Cal.pt,Cal.o,Cal.and,Cal.andl,Cal.andr,Cal.wh,Cal.dep,Cal.depr,Ctr.c,kk,term_check_kr,term_leaf_k,term_shapeOf_k,implies_true,true_and,and_true,and_self,true_implies,forall_eq,forall_const]
  refine ⟨⟨⟨by simp,Nat.zero_le _,fun q hq=>absurd hq (by omega)⟩,fun i hi=>⟨fun hc=>⟨fun he h=>?_,fun he=>⟨⟨by simp [hi.1],?_,fun q hq=>?_⟩,?_⟩⟩,fun hc=>⟨hi.1,fun q hq=>hi.2.2 q (by simp at hc; omega)⟩⟩⟩,fun b hb=>⟨fun hc h=>absurd h (by decide),fun hc=>⟨fun hop h=>?_,fun hop=>⟨fun _ h=>absurd h (by decide),fun hl=>⟨⟨⟨Nat.zero_le _,fun q hq=>absurd hq (by omega)⟩,fun i hi=>⟨fun hc=>⟨⟨?_,?_⟩,fun y _ hy=>⟨⟨?_,?_⟩,fun z _ hz=>⟨fun _ h=>absurd h (by decide),fun he=>⟨⟨?_,fun q hq=>?_⟩,?_⟩⟩⟩⟩,fun hc q hq=>hi.2 q (by simp at hc; omega)⟩⟩,fun y hy=>⟨?_,?_⟩⟩⟩⟩⟩⟩
  ·rw [h] at he; exact absurd he (by decide)
  ·simp only [LN] at hc; omega
  ·simp only [LN] at hc he
   by_cases e:q=i.2
   ·subst e
    exact ⟨he,lget_set_eq _ (by omega) _ _⟩
   ·have:=hi.2.2 q (by omega)
    refine ⟨this.1,?_⟩
    rw [← this.2]
    exact lget_set_ne _ e _ _
  ·simp only [LN] at hc; omega
  ·exact term_leaf_typed t (by simp only [LN] at hop; omega) h
  ·intro h; simp only [LN] at h; rw [if_pos h]
  ·intro h
   rw [if_neg]
   simp only [LN] at h
   intro ⟨h1,h2⟩
   rcases h with h | h
   ·exact h h1
   ·exact h h2
  ·intro h; simp only [LN] at h; rw [if_pos h]
  ·intro h; simp only [LN] at h; rw [if_neg h]
  ·simp only [LN] at hc; omega
  ·simp only [LN] at hc he
   by_cases e:q=i.2
   ·subst e
    refine ⟨fun h=>?_,fun h=>?_⟩
    ·rw [if_pos h] at hz; left; rw [he,hz]
    ·rw [if_neg h] at hz; rw [he,hz]
   ·have:=hi.2 q (by omega)
    refine ⟨fun h=>?_,this.2⟩
    rcases this.1 h with h1 | h1
    ·by_cases c:(term_shapeOf t.op).args.getD i.snd default = -1∧i.fst = -1
     ·right; rw [h1,c.2]
     ·rw [if_neg c] at hy; left; rw [h1,hy]
    ·exact .inr h1
  ·simp only [LN] at hc; omega
  ·intro h
   simp only [LN] at hc hop hl h
   have:=typed_node (t:=t) (b1:=b) (common:=y) (by omega) hl.2 (by omega) hb.1 (fun q hq=>by
    have h1:=hb.2 q hq
    rw [h1.2]
    exact ih _ (by have:=t.depth_args q hq; omega) h1.1) hy
   rw [if_pos h] at this
   exact this
  ·intro h
   simp only [LN] at hc hop hl h
   have:=typed_node (t:=t) (b1:=b) (common:=y) (by omega) hl.2 (by omega) hb.1 (fun q hq=>by
    have h1:=hb.2 q hq
    rw [h1.2]
    exact ih _ (by have:=t.depth_args q hq; omega) h1.1) hy
   rw [if_neg h] at this
   exact this
noncomputable def term_Check_sk (t:Term):Sk (Int × Int) :=
 .r 1 ((term_measure_k t 1).c) fun x1 =>
 .br (decide (x1 > 60))
 (.fin (0,6))
 (.r 3 ((term_check_k t).c) fun x2 =>
 .fin (x2.1,x2.2))
noncomputable def term_Check (t:Term):Int × Int:=(term_Check_sk t).val
def Term.Right (t:Term):Prop:=(∃ k,TyT t k)∧t.depth≤8
theorem term_Check_pst (t:Term):(term_Check_sk t).pst (fun (x:Int × Int)=>x.2=0→TyT t x.1∧t.depth≤8):=by
 refine Sk.pst_of _ ?_
 unfold term_Check_sk
 simp only [Sk.pstq,Sk.isLoop,reduceCtorEq,false_implies,leafB,leafJ,Cal.z,Cal.p,Cal.t,Cal.pt,Cal.o,Cal.and,Cal.andl,Cal.andr,Cal.wh,Cal.dep,Cal.depr,Ctr.c,kk,Ctr.nil,Ctr.nilc,CtrO.c,CtrO.nil,term_measure_k,term_check_k,forall_eq,forall_const]
 have hm:=term_measure_le _ t 1 (Nat.le_refl _) (by omega) (by omega)
 have hc:=term_check_typed _ t (Nat.le_refl _)
 refine ⟨fun _ h=>absurd h (by decide),fun c h=>⟨hc h,?_⟩⟩
 simp only [decide_eq_false_iff_not] at c
 have:term_measure_n t.depth t 1≤60:=Int.not_lt.1 c
 have:=hm.2.2.1 this
 omega
theorem term_Check_post (t:Term):(fun (x:Int × Int)=>x.2=0→TyT t x.1∧t.depth≤8) (term_Check t):=have h:=Sk.pval _ (term_Check_pst t); h
theorem term_Check_ok (t:Term):(term_Check_sk t).obs (fun _=>True):=by
 refine Sk.obs_of _ ?_
 unfold term_Check_sk
 simp only [Sk.obq,Sk.isLoop,reduceCtorEq,ON,kk,term_check_k,term_measure_k,maxLen]
 exact fun x hx h=>(term_measure_le _ t 1 (Nat.le_refl _) (by omega) (by omega)).2.2.2 (by subst hx; simp only [LN] at h; exact h)
noncomputable def term_Check_k (t:Term):Ctr (Int × Int):=kk tok mixed Tryz.func257 [av t.cells] (fun x=>.tup [iv x.1,iv x.2]) true (term_Check_sk t) (term_Check t) (fun (_:True)=>term_Check_ok t) (fun (x:Int × Int)=>x.2=0→TyT t x.1∧t.depth≤8) (term_Check_post t)
noncomputable def order_find_sk (o:Order) (ask:Int):Sk (Term × Int) :=
 .r 1 ((order_Type_k ask).c) fun x1 =>
 .br (!x1.2)
 (.fin (({ op:=0,n:=0,args:=[] }:Term),1))
 (.r 4 ((slices_IndexFunc_256_k o.rules ask).c) fun x2 =>
 .br (decide (x2 < 0))
 (.fin (({ op:=0,n:=0,args:=[] }:Term),4))
 (.r 7 (.p (ixP x2 o.rules.length)) fun _ =>
 .r 8 ((term_Check_k ((o.rules.getD x2.toNat default).term)).c) fun x3 =>
 .br ((x3.2 != 0)||(x3.1 != x1.1))
 (.fin (({ op:=0,n:=0,args:=[] }:Term),11))
 (.fin ((o.rules.getD x2.toNat default).term,0))))
noncomputable def order_find (o:Order) (ask:Int):Term × Int:=(order_find_sk o ask).val
theorem order_find_ok (o:Order) (ask:Int):(order_find_sk o ask).obs (fun _=>True):=by
 unfold order_find_sk
 try simp only [order_Type_k,slices_IndexFunc_256_k,term_Check_k]
 exact okD
noncomputable def order_find_k (o:Order) (ask:Int):Ctr (Term × Int):=kk tok mixed Tryz.func222 [av o.cells,iv ask] (fun x=>.tup [av x.1.cells,iv x.2]) false (order_find_sk o ask) (order_find o ask) (fun (_:True)=>order_find_ok o ask)
structure Machine where
 cells_:List CellX
 deriving Inhabited
def Machine.cells (c:Machine):List D:=[slD CellX.cells c.cells_]
def Machine.E:Enc Machine:=⟨Machine.cells,1,fun _=>rfl,fun _=>rfl⟩
noncomputable def term_yes_sk (is_:Bool):Sk (CellX) :=
 .br is_
 (.fin ({ known:=true,n:=1 }:CellX))
 (.fin ({ known:=true,n:=0 }:CellX))
noncomputable def term_yes (is_:Bool):CellX:=(term_yes_sk is_).val
theorem term_yes_ok (is_:Bool):(term_yes_sk is_).obs (fun _=>True):=by
 unfold term_yes_sk
 exact okE
noncomputable def term_yes_k (is_:Bool):Ctr (CellX):=kk tok mixed Tryz.func293 [bv is_] (fun x=>av x.cells) true (term_yes_sk is_) (term_yes is_) (fun (_:True)=>term_yes_ok is_)
noncomputable def term_machine_value_sk (m:Machine) (v:Int):Sk (CellX) :=
 .r 1 (.wh (decide (v≥((m.cells_.length:Nat):Int))) false (.p (ixP v m.cells_.length))) fun _ =>
 .br ((decide (v≥((m.cells_.length:Nat):Int)))||(!((m.cells_.getD v.toNat default).known)))
 (.fin ({ known:=false,n:=0 }:CellX))
 (.r 3 ((term_VarType_k v).c) fun x1 =>
 .br (x1.1 == 1)
 (.r 5 (.andl (.p (ixP v m.cells_.length)) ((term_yes_k (((m.cells_.getD v.toNat default).n) != 0)).c)) fun x2 =>
 .fin x2)
 (.r 6 (.andl (.p (ixP v m.cells_.length)) ((term_cut_k ((m.cells_.getD v.toNat default).n)).c)) fun x3 =>
 .fin ({ known:=true,n:=x3 }:CellX)))
noncomputable def term_machine_value (m:Machine) (v:Int):CellX:=(term_machine_value_sk m v).val
theorem term_machine_value_ok (m:Machine) (v:Int) (hv:0≤v):(term_machine_value_sk m v).obs (fun _=>True):=by
 unfold term_machine_value_sk
 try simp only [term_VarType_k,term_cut_k,term_yes_k,term_cut_eq]
 exact okG
noncomputable def term_machine_value_k (m:Machine) (v:Int):Ctr (CellX):=kk tok mixed Tryz.func278 [av [slD CellX.cells m.cells_],iv v] (fun x=>av x.cells) true (term_machine_value_sk m v) (term_machine_value m v) (fun (h:(0≤v))=>term_machine_value_ok m v h)
noncomputable def term_product_sk (a:Int) (b:Int):Sk (Int) :=
 .r 1 ((bits_Mul64_k (IntKind.u64.wrap (maxI a (w64 (0 - a)))) (IntKind.u64.wrap (maxI b (w64 (0 - b))))).c) fun x1 =>
 .bind false (fun _=>True)
 (.br ((x1.1 == 0)&&(decide (x1.2 < 1099511627776)))
 (.fin (.inr (w64 (x1.2))))
 (.fin (.inr 1099511627776)))
 (fun (b2:Int)=>⟨[(7,iv b2)],[]⟩) fun b2 =>
 .br (!((decide (a < 0)) == (decide (b < 0))))
 (.fin (w64 (0 - b2)))
 (.fin b2)
noncomputable def term_product (a:Int) (b:Int):Int:=(term_product_sk a b).val
theorem term_product_ok (a:Int) (b:Int):(term_product_sk a b).obs (fun _=>True):=by
 unfold term_product_sk
 try simp only [bits_Mul64_k]
 exact okE
noncomputable def term_product_k (a:Int) (b:Int):Ctr (Int):=kk tok mixed Tryz.func298 [iv a,iv b] (fun x=>iv x) true (term_product_sk a b) (term_product a b) (fun (_:True)=>term_product_ok a b)
noncomputable def term_arithmetic_sk (op:Int) (a:Int) (b:Int):Sk (Int) :=
 .br (op == 9)
 (.r 3 ((term_cut_k (w64 (a+b))).c) fun x1 =>
 .fin x1)
 (.br (op == 10)
 (.r 5 ((term_cut_k (w64 (a - b))).c) fun x2 =>
 .fin x2)
 (.br (op == 11)
 (.r 7 ((term_product_k a b).c) fun x3 =>
 .fin x3)
 (.br (op == 12)
 (.fin (minI a b))
 (.fin (maxI a b)))))
noncomputable def term_arithmetic (op:Int) (a:Int) (b:Int):Int:=(term_arithmetic_sk op a b).val
theorem term_arithmetic_ok (op:Int) (a:Int) (b:Int):(term_arithmetic_sk op a b).obs (fun _=>True):=by
 unfold term_arithmetic_sk
 try simp only [term_cut_k,term_product_k,term_cut_eq]
 exact okG
noncomputable def term_arithmetic_k (op:Int) (a:Int) (b:Int):Ctr (Int):=kk tok mixed Tryz.func295 [iv op,iv a,iv b] (fun x=>iv x) true (term_arithmetic_sk op a b) (term_arithmetic op a b) (fun (_:True)=>term_arithmetic_ok op a b)
noncomputable def term_combine_sk (op:Int) (l:List CellX):Sk (CellX) :=
 .bind true (fun b1=>op≠3∧op≠6)
 (.br (op == 3)
 (.r 3 (.p (ixP (0:Int) l.length)) fun _ =>
 .br ((l.getD 0 default).known)
 (.r 4 (.andl (.p (ixP (0:Int) l.length)) ((term_yes_k (((l.getD 0 default).n) == 0)).c)) fun x2 =>
 .fin (.inl x2))
 (.fin (.inl ({ known:=false,n:=0 }:CellX))))
 (.bind false (fun b3=>b3=(op == 4||op == 5))
 (.br (op == 4)
 (.fin (.inr (op == 4)))
 (.fin (.inr (op == 5))))
 (fun (b3:Bool)=>⟨[(22,bv b3)],[]⟩) fun b3 =>
 .br b3
 (.r 8 ((term_yes_k (op == 5)).c) fun x4 =>
 .r 9 (.andl (.p (ixP (0:Int) l.length)) (.wh ((((l.getD 0 default).known) == x4.known)&&((((l.getD 0 default).n) == x4.n)&&true)) false (.p (ixP (1:Int) l.length)))) fun _ =>
 .br (((((l.getD 0 default).known) == x4.known)&&((((l.getD 0 default).n) == x4.n)&&true))||((((l.getD 1 default).known) == x4.known)&&((((l.getD 1 default).n) == x4.n)&&true)))
 (.fin (.inl x4))
 (.fin (.inr ())))
 (.br (op == 6)
 (.r 12 (.andl (.p (ixP (1:Int) l.length)) (.andl (.wh ((l.getD 1 default).known) true (.p (ixP (1:Int) l.length))) (.wh ((l.getD 1 default).known) true (.p (ixP (2:Int) l.length))))) fun _ =>
 .br (((l.getD 1 default).known)&&((((l.getD 1 default).known) == ((l.getD 2 default).known))&&((((l.getD 1 default).n) == ((l.getD 2 default).n))&&true)))
 (.r 13 (.p (ixP (1:Int) l.length)) fun _ =>
 .fin (.inl (l.getD 1 default)))
 (.fin (.inl ({ known:=false,n:=0 }:CellX))))
 (.fin (.inr ())))))
 (fun (_:Unit)=>⟨[],[]⟩) fun _ =>
 .r 15 (.andl (.p (ixP (0:Int) l.length)) (.wh (!((l.getD 0 default).known)) false (.p (ixP (1:Int) l.length)))) fun _ =>
 .br ((!((l.getD 0 default).known))||(!((l.getD 1 default).known)))
 (.fin ({ known:=false,n:=0 }:CellX))
 (.r 17 (.andl (.p (ixP (0:Int) l.length)) (.p (ixP (1:Int) l.length))) fun _ =>
 .bind false (fun _=>True)
 (.br (op == 4)
 (.fin (.inr (op == 4)))
 (.fin (.inr (op == 5))))
 (fun (b5:Bool)=>⟨[(82,bv b5)],[]⟩) fun b5 =>
 .br b5
 (.r 21 ((term_yes_k (op == 4)).c) fun x6 =>
 .fin x6)
 (.br (op == 7)
 (.r 23 ((term_yes_k (decide (((l.getD 0 default).n) < ((l.getD 1 default).n)))).c) fun x7 =>
 .fin x7)
 (.br (op == 8)
 (.r 25 ((term_yes_k (((l.getD 0 default).n) == ((l.getD 1 default).n))).c) fun x8 =>
 .fin x8)
 (.r 26 ((term_arithmetic_k op ((l.getD 0 default).n) ((l.getD 1 default).n)).c) fun x9 =>
 .fin ({ known:=true,n:=x9 }:CellX)))))
noncomputable def term_combine (op:Int) (l:List CellX):CellX:=(term_combine_sk op l).val
theorem term_combine_ok (op:Int) (l:List CellX) (ha:(op=3∧1≤l.length)∨(op=6∧3≤l.length)∨(op≠3∧op≠6∧2≤l.length)):(term_combine_sk op l).obs (fun _=>True):=by
 unfold term_combine_sk
 try simp only [term_arithmetic_k,term_yes_k]
 exact okD
noncomputable def term_combine_k (op:Int) (l:List CellX):Ctr (CellX):=kk tok mixed Tryz.func279 [iv op,lv CellX.cells l] (fun x=>av x.cells) true (term_combine_sk op l) (term_combine op l) (fun (h:((op=3∧1≤l.length)∨(op=6∧3≤l.length)∨(op≠3∧op≠6∧2≤l.length)))=>term_combine_ok op l h)
noncomputable def slices_Grow_nil_sk (n:Int):Sk ((List Int)) :=
 .bind false (fun _=>True)
 (.br (decide (n < 0))
 (.dead default)
 (.fin (.inr ())))
 (fun (_:Unit)=>⟨[],[]⟩) fun _ =>
 .br (decide ((w64 (n - (w64 ((0:Int) - 0)))) > 0))
 (.r 5 (.andl (.p (0≤(0:Int)∧(0:Int)≤0)) (.andl (.andl (.o [.nrm (mkC intE ((w64 (n - (w64 ((0:Int) - 0)))).toNat) (0:Int))]) (.p (mkP (w64 (n - (w64 ((0:Int) - 0)))) 8))) (.andl (.o [.nrm (cutC intE (List.replicate ((w64 (n - (w64 ((0:Int) - 0)))).toNat) (0:Int)) 0)]) (.p (0≤(0:Int)∧0≤(((List.replicate ((w64 (n - (w64 ((0:Int) - 0)))).toNat) (0:Int)).length:Nat):Int)))))) fun _ =>
 .fin (subL (List.replicate ((w64 (n - (w64 ((0:Int) - 0)))).toNat) (0:Int)) 0 0))
 (.fin [])
noncomputable def slices_Grow_nil (n:Int):(List Int):=(slices_Grow_nil_sk n).val
theorem slices_Grow_nil_pst (n:Int):(slices_Grow_nil_sk n).pst (fun (x:(List Int))=>x=[]):=by
 unfold slices_Grow_nil_sk
 exact okP
theorem slices_Grow_nil_post (n:Int):(fun (x:(List Int))=>x=[]) (slices_Grow_nil n):=have h:=Sk.pval _ (slices_Grow_nil_pst n); h
theorem slices_Grow_nil_ok (n:Int) (hn:0≤n∧n≤1000000000):(slices_Grow_nil_sk n).obs (fun _=>True):=by
 unfold slices_Grow_nil_sk
 exact okD
theorem slices_Grow_nil_fnO (n:Int) (hn:0≤n∧n≤1000000000):FnA Tryz.prog 296 [nv,iv n] [] (ow 777777 (slices_Grow_nil n)) [(777777,rowB 3 1 intC (slices_Grow_nil n))] :=
 FnA.sk tok mixed (fun x=>ow 777777 x) (fun x=>[(777777,rowB 3 1 intC x)]) Tryz.func296 rfl (by kernel_rfl) 3000 (slices_Grow_nil_sk n) (by kernel_rfl) (slices_Grow_nil_ok n hn)
noncomputable def slices_Grow_nil_ko (κ:Nat) (n:Int):CtrO ((List Int)):=⟨Tryz.prog,296,[nv,iv n],fun x=>ow κ x,fun x=>[(κ,rowB 3 1 intC x)],slices_Grow_nil n,(0≤n∧n≤1000000000),fun h=>FnA.rekey κ (slices_Grow_nil_fnO n h),fun (x:(List Int))=>x=[],slices_Grow_nil_post n⟩
theorem take_flat {α:Type} [Inhabited α] (l:List (List α)) (n:Nat) (h:n < l.length):(l.take (n+1)).flatten=(l.take n).flatten++l.getD n default:=by
 rw [List.take_succ_eq_append_getElem h,List.flatten_append]
 simp only [List.getD,h,List.getElem?_eq_getElem,Option.getD_some,List.flatten_cons,List.flatten_nil,List.append_nil]
theorem flat_le {α:Type} [Inhabited α] (l:List (List α)) (B:Nat) (h:∀ i,i < l.length→(l.getD i default).length≤B):∀ n,n≤l.length→(l.take n).flatten.length≤B * n
 | 0,_=>by simp
 | n+1,hn=>by
  have:=flat_le l B h n (by omega)
  rw [take_flat l n (by omega),List.length_append,Nat.mul_add]
  have:=h n (by omega)
  omega
noncomputable def slices_Concat_sk (slices:List (List Int)):Sk ((List Int)) :=
 .bind true (fun b1=>(slices.length≤100∧∀ i,i < slices.length→(slices.getD i default).length≤1000000)→(0:Int)≤b1∧b1≤100000000)
 (.loop (default:Sum ((List Int)) (Int)) (fun i2=>(slices.length≤100∧∀ i,i < slices.length→(slices.getD i default).length≤1000000)→(0:Int)≤i2.1∧i2.1≤((1000000 * i2.2:Nat):Int)∧i2.2≤slices.length) (fun i2=>slices.length - i2.2) ((0,0):Int × Nat)
 (fun (i2:Int × Nat)=>⟨[(3,iv i2.1),(11,iv (i2.2:Int))],[]⟩) fun i2 =>
 .bnd 0 0 slices.length <|
 .br (decide ((i2.2:Int) < ((slices.length:Nat):Int)))
 (.r 4 (.p (ixP (i2.2:Int) slices.length)) fun _ =>
 .br (decide ((w64 (i2.1+(((slices.getD i2.2 default).length:Nat):Int))) < 0))
 (.dead default)
 (.r 8 .z fun _ =>
 .wi 11 (w64 ((i2.2:Int)+1)) ((i2.2+1:Nat):Int) <|
 .fin (.inr (w64 (i2.1+(((slices.getD i2.2 default).length:Nat):Int)),i2.2+1))))
 (.fin (.inl (.inr i2.1))))
 (fun (b1:Int)=>⟨[(3,iv b1)],[]⟩) fun b1 =>
 .r 9 ((slices_Grow_nil_ko 24 b1).c) fun x3 =>
 .bind true (fun b4=>(slices.length≤100∧∀ i,i < slices.length→(slices.getD i default).length≤1000000)→b4=slices.flatten)
 (.loop (default:Sum ((List Int)) ((List Int))) (fun i5=>(slices.length≤100∧∀ i,i < slices.length→(slices.getD i default).length≤1000000)→i5.1=(slices.take i5.2).flatten∧i5.2≤slices.length) (fun i5=>slices.length - i5.2) ((x3,0):(List Int) × Nat)
 (fun (i5:(List Int) × Nat)=>⟨[(6,ow 100002 i5.1),(27,iv (i5.2:Int))],[(100002,rowB 3 1 intC i5.1)]⟩) fun i5 =>
 .bnd 25 0 slices.length <|
 .br (decide ((i5.2:Int) < ((slices.length:Nat):Int)))
 (.r 12 (.p (ixP (i5.2:Int) slices.length)) fun _ =>
 .r 13 (.andl (.o [.nrm (catC intE i5.1 (slices.getD i5.2 default))]) (.andl (.t (intE.src (slices.getD i5.2 default))) (.p (szP i5.1.length (slices.getD i5.2 default).length 8)))) fun _ =>
 .r 14 .z fun _ =>
 .wi 27 (w64 ((i5.2:Int)+1)) ((i5.2+1:Nat):Int) <|
 .fin (.inr (i5.1++(slices.getD i5.2 default),i5.2+1)))
 (.fin (.inl (.inr i5.1))))
 (fun (b4:(List Int))=>⟨[(6,ow 100001 b4)],[(100001,rowB 3 1 intC b4)]⟩) fun b4 =>
 .fin b4
noncomputable def slices_Concat (slices:List (List Int)):(List Int):=(slices_Concat_sk slices).val
theorem slices_Concat_pst (slices:List (List Int)):(slices_Concat_sk slices).pst (fun (x:(List Int))=>(slices.length≤100∧∀ i,i < slices.length→(slices.getD i default).length≤1000000)→x=slices.flatten):=by
 refine Sk.pst_of _ ?_
 unfold slices_Concat_sk
 simp only [Sk.pstq,Sk.isLoop,reduceCtorEq,ON,kk,slices_Grow_nil_ko,maxLen]
 refine ⟨⟨fun h=>⟨by omega,by omega,by omega⟩,fun i hi=>⟨fun hc _=>⟨fun hd=>?_,fun hd _=>⟨fun h=>?_,?_⟩⟩,fun hc h=>?_⟩⟩,fun b hb x _ hx=>⟨⟨fun h=>⟨by simp [hx],by omega⟩,fun i hi=>⟨fun hc _ _ _=>⟨fun h=>⟨?_,?_⟩,?_⟩,fun hc h=>?_⟩⟩,fun b hb=>hb⟩⟩
 all_goals (try simp only [LN] at hc)
 all_goals (try simp only [LN] at hd)
 ·show (slices.length≤100∧∀ (i:Nat),i < slices.length→(slices.getD i default).length≤1000000)→_
  intro h
  have h1:=hi h
  have h2:=h.2 i.2 (by omega)
  rw [w64_id (by omega) (by omega)] at hd
  omega
 ·have h1:=hi h
  have h2:=h.2 i.2 (by omega)
  rw [w64_id (by omega) (by omega)]
  omega
 ·omega
 ·have:=hi h
  omega
 ·rw [take_flat slices i.2 (by omega),(hi h).1]
 ·have:=hi h; omega
 ·omega
 ·have:=hi h
  rw [this.1,show i.2=slices.length by omega,List.take_length]
theorem slices_Concat_post (slices:List (List Int)):(fun (x:(List Int))=>(slices.length≤100∧∀ i,i < slices.length→(slices.getD i default).length≤1000000)→x=slices.flatten) (slices_Concat slices):=have h:=Sk.pval _ (slices_Concat_pst slices); h
theorem slices_Concat_ok (slices:List (List Int)) (hn:(slices.length≤100∧∀ i,i < slices.length→(slices.getD i default).length≤1000000)):(slices_Concat_sk slices).obs (fun _=>True):=by
 refine Sk.obs_of _ ?_
 unfold slices_Concat_sk
 simp only [Sk.obq,Sk.isLoop,reduceCtorEq,ON,kk,slices_Grow_nil_ko,maxLen]
 refine ⟨⟨fun h=>⟨by omega,by omega,by omega⟩,fun i hi hl=>⟨fun hc=>⟨⟨by omega,of_decide_eq_true hc⟩,fun _=>⟨fun hd=>?_,fun hd _=>⟨?_,⟨fun h=>?_,?_⟩⟩⟩⟩,fun hc h=>?_⟩⟩,fun b hb=>⟨?_,fun x _ hx=>⟨fun h=>⟨by simp [hx],by omega⟩,fun i hi hl=>⟨fun hc=>⟨⟨by omega,of_decide_eq_true hc⟩,fun _=>⟨?_,fun _ _=>⟨?_,⟨fun h=>⟨?_,?_⟩,?_⟩⟩⟩⟩,fun hc h=>?_⟩⟩⟩⟩
 all_goals (try simp only [LN] at hc)
 all_goals (try simp only [LN] at hd)
 ·have h1:=hi hn
  have h2:=hn.2 i.2 (by omega)
  rw [w64_id (by omega) (by omega)] at hd
  omega
 ·exact w64_id (by omega) (by omega)
 ·have h1:=hi h
  have h2:=h.2 i.2 (by omega)
  rw [w64_id (by omega) (by omega)]
  omega
 ·omega
 ·have:=hi h
  omega
 ·have:=hb hn; omega
 ·have h1:=hi hn
  have h2:=hn.2 i.2 (by omega)
  have h3:=flat_le slices 1000000 hn.2 i.2 (by omega)
  rw [← h1.1] at h3
  omega
 ·exact w64_id (by omega) (by omega)
 ·rw [take_flat slices i.2 (by omega),(hi h).1]
 ·have:=hi h; omega
 ·omega
 ·have:=hi h
  rw [this.1,show i.2=slices.length by omega,List.take_length]
noncomputable def slices_Concat_k (slices:List (List Int)):Ctr ((List Int)):=kk tok mixed Tryz.func280 [lv (slE intE).cells slices] (fun x=>lv intC x) false (slices_Concat_sk slices) (slices_Concat slices) (fun (h:((slices.length≤100∧∀ i,i < slices.length→(slices.getD i default).length≤1000000)))=>slices_Concat_ok slices h) (fun (x:(List Int))=>(slices.length≤100∧∀ i,i < slices.length→(slices.getD i default).length≤1000000)→x=slices.flatten) (slices_Concat_post slices)
noncomputable def term_machine_run_kr (rv:Machine→Term→CellX × (List Int)) (rp:Machine→Term→Prop) (rf:∀ (m:Machine) (t:Term),rp m t→FnA Tryz.prog 258 [av [slD CellX.cells m.cells_],av t.cells] [] (.tup [av ((rv m t).1).cells,lv intC ((rv m t).2)]) []) (m:Machine) (t:Term):Ctr (CellX × (List Int)):=⟨Tryz.prog,258,[av [slD CellX.cells m.cells_],av t.cells],fun x=>.tup [av x.1.cells,lv intC x.2],false,rv m t,rp m t,rf m t,fun _=>True,trivial⟩
noncomputable def term_machine_run_sk (rv:Machine→Term→CellX × (List Int)) (rp:Machine→Term→Prop) (rf:∀ (m:Machine) (t:Term),rp m t→FnA Tryz.prog 258 [av [slD CellX.cells m.cells_],av t.cells] [] (.tup [av ((rv m t).1).cells,lv intC ((rv m t).2)]) []) (m:Machine) (t:Term):Sk (CellX × (List Int)) :=
 .bind false (fun b1=>b1=(t.op == 0||t.op == 1))
 (.br (t.op == 0)
 (.fin (.inr (t.op == 0)))
 (.fin (.inr (t.op == 1))))
 (fun (b1:Bool)=>⟨[(15,bv b1)],[]⟩) fun b1 =>
 .br b1
 (.fin (({ known:=true,n:=t.n }:CellX),[]))
 (.br (t.op == 2)
 (.r 6 ((term_machine_value_k m t.n).c) fun x2 =>
 .br x2.known
 (.fin (x2,[]))
 (.r 9 (.o [.nrm (litC intE [t.n])]) fun _ =>
 .fin (({ known:=false,n:=0 }:CellX),[t.n])))
 (.r 10 (.andl (.o [.nrm (mkC CellX.E t.args.length ({ known:=false,n:=0 }:CellX))]) (.p (mkP ((t.args.length:Nat):Int) 16))) fun _ =>
 .r 11 (.andl (.o [.nrm (mkN (slE intE) t.args.length ([]:List Int) [.v (.slice none 0 0)] (by kernel_rfl))]) (.p (mkP ((t.args.length:Nat):Int) 24))) fun _ =>
 .bind true (fun b3=>b3.1.length=t.args.length∧b3.2.length=t.args.length∧∀ q,q < t.args.length→b3.1.getD q default=(rv m (t.args.getD q default)).1∧b3.2.getD q default=(rv m (t.args.getD q default)).2)
 (.loop (default:Sum (CellX × (List Int)) ((List CellX) × (List (List Int)))) (fun i4=>i4.1.length=t.args.length∧i4.2.1.length=t.args.length∧i4.2.2≤t.args.length∧∀ q,q < i4.2.2→i4.1.getD q default=(rv m (t.args.getD q default)).1∧i4.2.1.getD q default=(rv m (t.args.getD q default)).2) (fun i4=>t.args.length - i4.2.2) ((List.replicate t.args.length ({ known:=false,n:=0 }:CellX),List.replicate t.args.length ([]:List Int),0):(List CellX) × (List (List Int)) × Nat)
 (fun (i4:(List CellX) × (List (List Int)) × Nat)=>⟨[(7,ow 100004 i4.1),(8,ow 100005 i4.2.1),(45,iv (i4.2.2:Int))],[(100004,rowB 58 2 CellX.cells i4.1),(100005,rowB 85 1 (slE intE).cells i4.2.1)]⟩) fun i4 =>
 .bnd 43 0 t.args.length <|
 .br (decide ((i4.2.2:Int) < ((t.args.length:Nat):Int)))
 (.r 14 (.andl (.p (ixP (i4.2.2:Int) t.args.length)) (.o [.cast 48 (refC (Term.unroll (t.args.getD i4.2.2 default)))])) fun _ =>
 .r 15 (.depr ((term_machine_run_kr rv rp rf m (t.args.getD i4.2.2 default)).c) fun x5=>.andl (.p (ixP (i4.2.2:Int) i4.1.length)) (.andl (.andl (.o [.nrm (setC CellX.E i4.1 i4.2.2 x5.1)]) (.p (i4.2.2 < i4.1.length))) (.andl (.p (ixP (i4.2.2:Int) i4.2.1.length)) (.andl (.o [.nrm (setC (slE intE) i4.2.1 i4.2.2 x5.2)]) (.p (i4.2.2 < i4.2.1.length)))))) fun x5 =>
 .wn 100004 i4.1.length (i4.1.set i4.2.2 x5.1).length <|
 .wn 100005 i4.2.1.length (i4.2.1.set i4.2.2 x5.2).length <|
 .r 16 .z fun _ =>
 .wi 45 (w64 ((i4.2.2:Int)+1)) ((i4.2.2+1:Nat):Int) <|
 .fin (.inr (i4.1.set i4.2.2 x5.1,i4.2.1.set i4.2.2 x5.2,i4.2.2+1)))
 (.fin (.inl (.inr (i4.1,i4.2.1)))))
 (fun (b3:(List CellX) × (List (List Int)))=>⟨[(7,ow 100002 b3.1),(8,ow 100003 b3.2)],[(100002,rowB 58 2 CellX.cells b3.1),(100003,rowB 85 1 (slE intE).cells b3.2)]⟩) fun b3 =>
 .r 17 (.andl (.wh (t.op == 6) true (.p (ixP (0:Int) b3.1.length))) (.wh (t.op == 6) true (.p (0 < b3.1.length)))) fun _ =>
 .br ((t.op == 6)&&((b3.1.getD 0 default).known))
 (.r 18 (.andl (.p (ixP (0:Int) b3.1.length)) (.p (0 < b3.1.length))) fun _ =>
 .r 19 (.andl (.p (ixP (w64 ((2:Int) - ((b3.1.getD 0 default).n))) b3.1.length)) (.andl (.p ((w64 ((2:Int) - ((b3.1.getD 0 default).n))).toNat < b3.1.length)) (.andl (.p (ixP (w64 ((2:Int) - ((b3.1.getD 0 default).n))) b3.2.length)) (.p ((w64 ((2:Int) - ((b3.1.getD 0 default).n))).toNat < b3.2.length))))) fun _ =>
 .fin (b3.1.getD ((w64 ((2:Int) - ((b3.1.getD 0 default).n))).toNat) default,b3.2.getD ((w64 ((2:Int) - ((b3.1.getD 0 default).n))).toNat) default))
 (.r 20 ((term_combine_k t.op b3.1).c) fun x6 =>
 .br x6.known
 (.fin (x6,[]))
 (.fz 100003 <|
 .r 23 ((slices_Concat_k b3.2).c) fun x7 =>
 .fin (({ known:=false,n:=0 }:CellX),x7)))))
noncomputable def term_machine_run_n:Nat→Machine→Term→CellX × (List Int)
 | 0,_,_=>default
 | fu+1,m,t=>(term_machine_run_sk (term_machine_run_n fu) (fun _ _=>False) (fun _ _=>fun h=>h.elim) m t).val
theorem run_int (fu:Nat) (m:Machine) (n:Int):term_machine_run_n (fu+1) m ⟨0,n,[]⟩=(⟨true,n⟩,[]):=by kernel_rfl
theorem run_bool (fu:Nat) (m:Machine) (n:Int):term_machine_run_n (fu+1) m ⟨1,n,[]⟩=(⟨true,n⟩,[]):=by kernel_rfl
theorem run_var (fu:Nat) (m:Machine) (n:Int):term_machine_run_n (fu+1) m ⟨2,n,[]⟩=bif (term_machine_value m n).known then (term_machine_value m n,[]) else (⟨false,0⟩,[n]):=by kernel_rfl
noncomputable def comb1 (op:Int) (cs:List CellX) (ns:List (List Int)):CellX × List Int:=bif (term_combine op cs).known then (term_combine op cs,[]) else (⟨false,0⟩,slices_Concat ns)
theorem run_not (fu:Nat) (m:Machine) (n:Int) (a:Term):term_machine_run_n (fu+1) m ⟨3,n,[a]⟩=comb1 3 [(term_machine_run_n fu m a).1] [(term_machine_run_n fu m a).2]:=by kernel_rfl
theorem run_ite (fu:Nat) (m:Machine) (n:Int) (a b c:Term):term_machine_run_n (fu+1) m ⟨6,n,[a,b,c]⟩ = 
 (let x:=(term_machine_run_n fu m a); let y:=(term_machine_run_n fu m b); let z:=(term_machine_run_n fu m c);
  bif x.1.known then ([x.1,y.1,z.1].getD (w64 (2 - x.1.n)).toNat default,[x.2,y.2,z.2].getD (w64 (2 - x.1.n)).toNat default) else comb1 6 [x.1,y.1,z.1] [x.2,y.2,z.2]):=by kernel_rfl
theorem run_two4 (fu:Nat) (m:Machine) (n:Int) (a b:Term):term_machine_run_n (fu+1) m ⟨4,n,[a,b]⟩=comb1 4 [(term_machine_run_n fu m a).1,(term_machine_run_n fu m b).1] [(term_machine_run_n fu m a).2,(term_machine_run_n fu m b).2]:=by kernel_rfl
theorem run_two5 (fu:Nat) (m:Machine) (n:Int) (a b:Term):term_machine_run_n (fu+1) m ⟨5,n,[a,b]⟩=comb1 5 [(term_machine_run_n fu m a).1,(term_machine_run_n fu m b).1] [(term_machine_run_n fu m a).2,(term_machine_run_n fu m b).2]:=by kernel_rfl
theorem run_two7 (fu:Nat) (m:Machine) (n:Int) (a b:Term):term_machine_run_n (fu+1) m ⟨7,n,[a,b]⟩=comb1 7 [(term_machine_run_n fu m a).1,(term_machine_run_n fu m b).1] [(term_machine_run_n fu m a).2,(term_machine_run_n fu m b).2]:=by kernel_rfl
theorem run_two8 (fu:Nat) (m:Machine) (n:Int) (a b:Term):term_machine_run_n (fu+1) m ⟨8,n,[a,b]⟩=comb1 8 [(term_machine_run_n fu m a).1,(term_machine_run_n fu m b).1] [(term_machine_run_n fu m a).2,(term_machine_run_n fu m b).2]:=by kernel_rfl
theorem run_two9 (fu:Nat) (m:Machine) (n:Int) (a b:Term):term_machine_run_n (fu+1) m ⟨9,n,[a,b]⟩=comb1 9 [(term_machine_run_n fu m a).1,(term_machine_run_n fu m b).1] [(term_machine_run_n fu m a).2,(term_machine_run_n fu m b).2]:=by kernel_rfl
theorem run_two10 (fu:Nat) (m:Machine) (n:Int) (a b:Term):term_machine_run_n (fu+1) m ⟨10,n,[a,b]⟩=comb1 10 [(term_machine_run_n fu m a).1,(term_machine_run_n fu m b).1] [(term_machine_run_n fu m a).2,(term_machine_run_n fu m b).2]:=by kernel_rfl
theorem run_two11 (fu:Nat) (m:Machine) (n:Int) (a b:Term):term_machine_run_n (fu+1) m ⟨11,n,[a,b]⟩=comb1 11 [(term_machine_run_n fu m a).1,(term_machine_run_n fu m b).1] [(term_machine_run_n fu m a).2,(term_machine_run_n fu m b).2]:=by kernel_rfl
theorem run_two12 (fu:Nat) (m:Machine) (n:Int) (a b:Term):term_machine_run_n (fu+1) m ⟨12,n,[a,b]⟩=comb1 12 [(term_machine_run_n fu m a).1,(term_machine_run_n fu m b).1] [(term_machine_run_n fu m a).2,(term_machine_run_n fu m b).2]:=by kernel_rfl
theorem run_two13 (fu:Nat) (m:Machine) (n:Int) (a b:Term):term_machine_run_n (fu+1) m ⟨13,n,[a,b]⟩=comb1 13 [(term_machine_run_n fu m a).1,(term_machine_run_n fu m b).1] [(term_machine_run_n fu m a).2,(term_machine_run_n fu m b).2]:=by kernel_rfl
theorem run_two (fu:Nat) (m:Machine) (op n:Int) (h:op=4∨op=5∨op=7∨op=8∨(9≤op∧op≤13)) (a b:Term):term_machine_run_n (fu+1) m ⟨op,n,[a,b]⟩=comb1 op [(term_machine_run_n fu m a).1,(term_machine_run_n fu m b).1] [(term_machine_run_n fu m a).2,(term_machine_run_n fu m b).2]:=by
 have:op=4∨op=5∨op=7∨op=8∨op=9∨op=10∨op=11∨op=12∨op=13:=by omega
 rcases this with rfl | rfl | rfl | rfl | rfl | rfl | rfl | rfl | rfl
 ·exact run_two4 fu m n a b
 ·exact run_two5 fu m n a b
 ·exact run_two7 fu m n a b
 ·exact run_two8 fu m n a b
 ·exact run_two9 fu m n a b
 ·exact run_two10 fu m n a b
 ·exact run_two11 fu m n a b
 ·exact run_two12 fu m n a b
 ·exact run_two13 fu m n a b
def b01 (c:CellX):Prop:=c.known=true→c.n=0∨c.n=1
theorem yes_eq (b:Bool):term_yes b=⟨true,if b then 1 else 0⟩:=by cases b <;> kernel_rfl
theorem yes01 (b:Bool):b01 (term_yes b):=by rw [yes_eq]; intro _; cases b <;> simp
theorem comb_not (a:CellX):term_combine 3 [a]=bif a.known then term_yes (a.n == 0) else ⟨false,0⟩:=by
 obtain ⟨k,n⟩:=a
 cases k <;> kernel_rfl
noncomputable def valC (c:CellX) (n:Int):CellX:=bif c.known then (bif decide (n < 7) then ⟨true,term_cut c.n⟩ else ⟨true,bif c.n != 0 then 1 else 0⟩) else ⟨false,0⟩
theorem value_eq (m:Machine) (n:Int) (h:0≤n∧n≤19):term_machine_value m n=valC (m.cells_.getD n.toNat default) n:=by
 simp only [term_machine_value,term_machine_value_sk,Sk.val_r,Sk.val_br,Sk.val_fin,Ctr.c_v,kk,Cal.andl_v,term_VarType_k,term_yes_k,term_VarType,term_VarType_sk,term_cut_k,valC,yes_eq]
 rw [show (decide (n < 0)||decide (n > 19))=false from by simp; omega]
 by_cases hl:n≥m.cells_.length
 ·have e:m.cells_.getD n.toNat default=⟨false,0⟩:=by
   rw [List.getD,List.getElem?_eq_none (by omega)]
   rfl
  rw [e,decide_eq_true hl]
  rfl
 ·rw [decide_eq_false hl]
  cases hk:(m.cells_.getD n.toNat default).known with
  | false=>rfl
  | true =>
   by_cases c:n < 7
   ·rw [decide_eq_true c]; rfl
   ·rw [decide_eq_false c]
    cases hn:((m.cells_.getD n.toNat default).n != 0) <;> rfl
theorem valC01 (c:CellX) (n:Int) (h:7≤n):b01 (valC c n):=by
 unfold valC
 rw [decide_eq_false (by omega)]
 intro hk
 cases hc:c.known with
 | false=>rw [hc] at hk; exact absurd (show false=true from hk) (by decide)
 | true =>
  cases hn:(c.n != 0)
  ·left; rfl
  ·right; rfl
theorem comb_bool (op:Int) (h:op=4∨op=5) (a b:CellX):term_combine op [a,b]=(let z:Int:=if op=5 then 1 else 0; bif (a.known&&a.n == z)||(b.known&&b.n == z) then ⟨true,z⟩ else bif a.known&&b.known then ⟨true,1 - z⟩ else ⟨false,0⟩):=by
 obtain ⟨k,n⟩:=a
 obtain ⟨k',n'⟩:=b
 rcases h with rfl | rfl
 ·cases k <;> cases k' <;> cases h1:(n == 0) <;> cases h2:(n' == 0) <;> simp [term_combine,term_combine_sk,term_yes_k,yes_eq,h1,h2]
 ·cases k <;> cases k' <;> cases h1:(n == 1) <;> cases h2:(n' == 1) <;> simp [term_combine,term_combine_sk,term_yes_k,yes_eq,h1,h2]
theorem comb_if (a b c:CellX):term_combine 6 [a,b,c]=bif b.known&&(c.known&&b.n == c.n) then b else ⟨false,0⟩:=by
 obtain ⟨k,n⟩:=b
 obtain ⟨k',n'⟩:=c
 cases k <;> cases k' <;> cases h1:(n == n') <;> simp [term_combine,term_combine_sk,h1]
theorem comb_other (op:Int) (h:7≤op) (a b:CellX):term_combine op [a,b]=bif a.known&&b.known then (if op=7 then term_yes (decide (a.n < b.n)) else if op=8 then term_yes (a.n == b.n) else ⟨true,term_arithmetic op a.n b.n⟩) else ⟨false,0⟩:=by
 obtain ⟨k,n⟩:=a
 obtain ⟨k',n'⟩:=b
 have e3:(op == 3)=false:=by simp; omega
 have e4:(op == 4)=false:=by simp; omega
 have e5:(op == 5)=false:=by simp; omega
 have e6:(op == 6)=false:=by simp; omega
 simp only [term_combine,term_combine_sk,Sk.val_bind,Sk.val_br,Sk.val_r,Sk.val_fin,e3,e4,e5,e6,cond_false,pickS_inl,pickS_inr,Ctr.c_v,kk,term_yes_k,term_arithmetic_k]
 cases k <;> cases k' <;> (try rfl)
 by_cases c7:op=7
 ·subst c7; rfl
 ·have e7:(op == 7)=false:=by simpa using c7
  by_cases c8:op=8
  ·subst c8; rfl
  ·have e8:(op == 8)=false:=by simpa using c8
   simp [e7,e8,c7,c8]
theorem comb1_b01 (op:Int) (cs:List CellX) (ns:List (List Int)) (h:b01 (term_combine op cs)):b01 (comb1 op cs ns).1:=by
 unfold comb1
 cases hk:(term_combine op cs).known with
 | true=>exact h
 | false=>intro h; exact absurd (show false=true from h) (by decide)
theorem comb1_len (op:Int) (cs:List CellX) (ns:List (List Int)) (B:Nat) (hB:B≤1000000) (hl:ns.length≤3) (h:∀ q,q < ns.length→(ns.getD q default).length≤B):(comb1 op cs ns).2.length≤3 * B:=by
 unfold comb1
 cases hk:(term_combine op cs).known with
 | true=>simp
 | false =>
  simp only [cond_false]
  rw [slices_Concat_post ns ⟨by omega,fun q hq=>Nat.le_trans (h q hq) hB⟩]
  have:=flat_le ns B h ns.length (Nat.le_refl _)
  rw [List.take_length] at this
  have:B * ns.length≤B * 3:=Nat.mul_le_mul_left _ hl
  omega
theorem depth1 (op n:Int) (a:Term):Term.depth ⟨op,n,[a]⟩=a.depth+1:=by simp [Term.depth,Term.depthL]
theorem depth2 (op n:Int) (a b:Term):Term.depth ⟨op,n,[a,b]⟩=max a.depth b.depth+1:=by simp [Term.depth,Term.depthL]
theorem depth3 (op n:Int) (a b c:Term):Term.depth ⟨op,n,[a,b,c]⟩=max a.depth (max b.depth c.depth)+1:=by simp [Term.depth,Term.depthL]
theorem pow3_le {a b:Nat} (h:a≤b):3 ^ a≤3 ^ b:=Nat.pow_le_pow_right (by omega) h
theorem run_typed {t:Term} {k:Int} (h:TyT t k):∀ (fu:Nat) (m:Machine),t.depth≤fu→t.depth≤8→(k=1→b01 (term_machine_run_n fu m t).1)∧(term_machine_run_n fu m t).2.length≤3 ^ t.depth:=by
 have h8:∀ d,d≤8→3 ^ d≤1000000:=fun d hd=>Nat.le_trans (pow3_le hd) (by decide)
 induction h with
 | int hn =>
  intro fu m hd _
  cases fu with
  | zero=>exact absurd hd (by simp [Term.depth,Term.depthL])
  | succ fu=>rw [run_int]; exact ⟨fun h=>absurd h (by decide),by simp⟩
 | @bool n hn =>
  intro fu m hd _
  cases fu with
  | zero=>exact absurd hd (by simp [Term.depth,Term.depthL])
  | succ fu=>rw [run_bool]; exact ⟨fun _ _=>by show n=0∨n=1; omega,by simp⟩
 | @var n hn =>
  intro fu m hd _
  cases fu with
  | zero=>exact absurd hd (by simp [Term.depth,Term.depthL])
  | succ fu =>
   rw [run_var,value_eq m n hn]
   refine ⟨fun h=>?_,?_⟩
   ·have:=valC01 (m.cells_.getD n.toNat default) n (by split at h <;> omega)
    cases hk:(valC (m.cells_.getD n.toNat default) n).known with
    | true=>exact this
    | false=>intro h; exact absurd (show false=true from h) (by decide)
   ·cases hk:(valC (m.cells_.getD n.toNat default) n).known <;> simp [Term.depth,Term.depthL]
 | @not a _ ih =>
  intro fu m hd h8d
  cases fu with
  | zero=>exact absurd hd (by simp [Term.depth,Term.depthL])
  | succ fu =>
   rw [depth1] at hd h8d ⊢
   have ih:=ih fu m (by omega) (by omega)
   rw [run_not]
   refine ⟨fun _=>comb1_b01 _ _ _ ?_,?_⟩
   ·rw [comb_not]
    cases hk:(term_machine_run_n fu m a).1.known with
    | true=>exact yes01 _
    | false=>intro h; exact absurd (show false=true from h) (by decide)
   ·have:=comb1_len 3 [(term_machine_run_n fu m a).1] [(term_machine_run_n fu m a).2] (3 ^ a.depth) (h8 _ (by omega)) (by simp) (fun q hq=>by
     have:q=0:=by simpa using hq
     subst this
     exact ih.2)
    rw [Nat.pow_succ]; omega
 | @conj op a b hop _ _ iha ihb =>
  intro fu m hd h8d
  cases fu with
  | zero=>exact absurd hd (by simp [Term.depth,Term.depthL])
  | succ fu =>
   rw [depth2] at hd h8d ⊢
   have iha:=iha fu m (by omega) (by omega)
   have ihb:=ihb fu m (by omega) (by omega)
   rw [run_two _ _ _ _ (by omega)]
   refine ⟨fun _=>comb1_b01 _ _ _ ?_,?_⟩
   ·rw [comb_bool op hop]
    dsimp only
    split
    ·cases (((term_machine_run_n fu m a).1.known&&(term_machine_run_n fu m a).1.n == 1)||((term_machine_run_n fu m b).1.known&&(term_machine_run_n fu m b).1.n == 1)) <;> cases ((term_machine_run_n fu m a).1.known&&(term_machine_run_n fu m b).1.known) <;> simp [b01]
    ·cases (((term_machine_run_n fu m a).1.known&&(term_machine_run_n fu m a).1.n == 0)||((term_machine_run_n fu m b).1.known&&(term_machine_run_n fu m b).1.n == 0)) <;> cases ((term_machine_run_n fu m a).1.known&&(term_machine_run_n fu m b).1.known) <;> simp [b01]
   ·have:=comb1_len op [(term_machine_run_n fu m a).1,(term_machine_run_n fu m b).1] [(term_machine_run_n fu m a).2,(term_machine_run_n fu m b).2] (3 ^ (max a.depth b.depth)) (h8 _ (by omega)) (by simp) (fun q hq=>by
     have:q=0∨q=1:=by simp at hq; omega
     rcases this with rfl | rfl
     ·exact Nat.le_trans iha.2 (pow3_le (by omega))
     ·exact Nat.le_trans ihb.2 (pow3_le (by omega)))
    rw [Nat.pow_succ]; omega
 | @ite a b c k ha _ _ iha ihb ihc =>
  intro fu m hd h8d
  cases fu with
  | zero=>exact absurd hd (by simp [Term.depth,Term.depthL])
  | succ fu =>
   rw [depth3] at hd h8d ⊢
   have iha:=iha fu m (by omega) (by omega)
   have ihb:=ihb fu m (by omega) (by omega)
   have ihc:=ihc fu m (by omega) (by omega)
   rw [run_ite]
   dsimp only
   have lb:=Nat.le_trans ihb.2 (pow3_le (b:=max a.depth (max b.depth c.depth)+1) (by omega))
   have lc:=Nat.le_trans ihc.2 (pow3_le (b:=max a.depth (max b.depth c.depth)+1) (by omega))
   cases hk:(term_machine_run_n fu m a).1.known with
   | true =>
    simp only [cond_true]
    rcases iha.1 rfl hk with e | e
    ·rw [e]
     exact ⟨ihc.1,lc⟩
    ·rw [e]
     exact ⟨ihb.1,lb⟩
   | false =>
    simp only [cond_false]
    refine ⟨fun h=>comb1_b01 _ _ _ ?_,?_⟩
    ·rw [comb_if]
     cases ((term_machine_run_n fu m b).1.known&&((term_machine_run_n fu m c).1.known&&(term_machine_run_n fu m b).1.n == (term_machine_run_n fu m c).1.n)) with
     | true=>exact ihb.1 h
     | false=>intro h; exact absurd (show false=true from h) (by decide)
    ·have:=comb1_len 6 [(term_machine_run_n fu m a).1,(term_machine_run_n fu m b).1,(term_machine_run_n fu m c).1] [(term_machine_run_n fu m a).2,(term_machine_run_n fu m b).2,(term_machine_run_n fu m c).2] (3 ^ (max a.depth (max b.depth c.depth))) (h8 _ (by omega)) (by simp) (fun q hq=>by
      have:q=0∨q=1∨q=2:=by simp at hq; omega
      rcases this with rfl | rfl | rfl
      ·exact Nat.le_trans iha.2 (pow3_le (by omega))
      ·exact Nat.le_trans ihb.2 (pow3_le (by omega))
      ·exact Nat.le_trans ihc.2 (pow3_le (by omega)))
     rw [Nat.pow_succ]; omega
 | @less a b _ _ iha ihb =>
  intro fu m hd h8d
  cases fu with
  | zero=>exact absurd hd (by simp [Term.depth,Term.depthL])
  | succ fu =>
   rw [depth2] at hd h8d ⊢
   have iha:=iha fu m (by omega) (by omega)
   have ihb:=ihb fu m (by omega) (by omega)
   rw [run_two _ _ _ _ (by omega)]
   refine ⟨fun _=>comb1_b01 _ _ _ ?_,?_⟩
   ·rw [comb_other 7 (by omega)]
    cases ((term_machine_run_n fu m a).1.known&&(term_machine_run_n fu m b).1.known) with
    | true=>exact yes01 _
    | false=>intro h; exact absurd (show false=true from h) (by decide)
   ·have:=comb1_len 7 [(term_machine_run_n fu m a).1,(term_machine_run_n fu m b).1] [(term_machine_run_n fu m a).2,(term_machine_run_n fu m b).2] (3 ^ (max a.depth b.depth)) (h8 _ (by omega)) (by simp) (fun q hq=>by
     have:q=0∨q=1:=by simp at hq; omega
     rcases this with rfl | rfl
     ·exact Nat.le_trans iha.2 (pow3_le (by omega))
     ·exact Nat.le_trans ihb.2 (pow3_le (by omega)))
    rw [Nat.pow_succ]; omega
 | @eq a b _ _ _ iha ihb =>
  intro fu m hd h8d
  cases fu with
  | zero=>exact absurd hd (by simp [Term.depth,Term.depthL])
  | succ fu =>
   rw [depth2] at hd h8d ⊢
   have iha:=iha fu m (by omega) (by omega)
   have ihb:=ihb fu m (by omega) (by omega)
   rw [run_two _ _ _ _ (by omega)]
   refine ⟨fun _=>comb1_b01 _ _ _ ?_,?_⟩
   ·rw [comb_other 8 (by omega)]
    cases ((term_machine_run_n fu m a).1.known&&(term_machine_run_n fu m b).1.known) with
    | true=>exact yes01 _
    | false=>intro h; exact absurd (show false=true from h) (by decide)
   ·have:=comb1_len 8 [(term_machine_run_n fu m a).1,(term_machine_run_n fu m b).1] [(term_machine_run_n fu m a).2,(term_machine_run_n fu m b).2] (3 ^ (max a.depth b.depth)) (h8 _ (by omega)) (by simp) (fun q hq=>by
     have:q=0∨q=1:=by simp at hq; omega
     rcases this with rfl | rfl
     ·exact Nat.le_trans iha.2 (pow3_le (by omega))
     ·exact Nat.le_trans ihb.2 (pow3_le (by omega)))
    rw [Nat.pow_succ]; omega
 | @arith op a b hop _ _ iha ihb =>
  intro fu m hd h8d
  cases fu with
  | zero=>exact absurd hd (by simp [Term.depth,Term.depthL])
  | succ fu =>
   rw [depth2] at hd h8d ⊢
   have iha:=iha fu m (by omega) (by omega)
   have ihb:=ihb fu m (by omega) (by omega)
   rw [run_two _ _ _ _ (by omega)]
   refine ⟨fun h=>absurd h (by decide),?_⟩
   have:=comb1_len op [(term_machine_run_n fu m a).1,(term_machine_run_n fu m b).1] [(term_machine_run_n fu m a).2,(term_machine_run_n fu m b).2] (3 ^ (max a.depth b.depth)) (h8 _ (by omega)) (by simp) (fun q hq=>by
    have:q=0∨q=1:=by simp at hq; omega
    rcases this with rfl | rfl
    ·exact Nat.le_trans iha.2 (pow3_le (by omega))
    ·exact Nat.le_trans ihb.2 (pow3_le (by omega)))
   rw [Nat.pow_succ]; omega
theorem TyT.parts {t:Term} {k:Int} (h:TyT t k):(t.op=0∨t.op=1∨(t.op=2∧0≤t.n))∨((∀ q,q < t.args.length→∃ j,TyT (t.args.getD q default) j)∧((t.op=3∧t.args.length=1)∨(t.op=6∧t.args.length=3∧TyT (t.args.getD 0 default) 1)∨(t.op≠0∧t.op≠1∧t.op≠2∧t.op≠3∧t.op≠6∧t.args.length=2))):=by
 cases h with
 | int _=>left; left; rfl
 | bool _=>left; right; left; rfl
 | var h=>left; right; right; exact ⟨rfl,h.1⟩
 | not h =>
  right
  refine ⟨fun q hq=>?_,.inl ⟨rfl,rfl⟩⟩
  obtain rfl:q=0:=by simpa using hq
  exact ⟨_,h⟩
 | conj o h1 h2 =>
  right
  refine ⟨fun q hq=>?_,.inr (.inr ⟨by dsimp only; omega,by dsimp only; omega,by dsimp only; omega,by dsimp only; omega,by dsimp only; omega,rfl⟩)⟩
  have:q=0∨q=1:=by simp at hq; omega
  rcases this with rfl | rfl
  ·exact ⟨_,h1⟩
  ·exact ⟨_,h2⟩
 | ite h1 h2 h3 =>
  right
  refine ⟨fun q hq=>?_,.inr (.inl ⟨rfl,rfl,h1⟩)⟩
  have:q=0∨q=1∨q=2:=by simp at hq; omega
  rcases this with rfl | rfl | rfl
  ·exact ⟨_,h1⟩
  ·exact ⟨_,h2⟩
  ·exact ⟨_,h3⟩
 | less h1 h2 =>
  right
  refine ⟨fun q hq=>?_,.inr (.inr ⟨by dsimp only; omega,by dsimp only; omega,by dsimp only; omega,by dsimp only; omega,by dsimp only; omega,rfl⟩)⟩
  have:q=0∨q=1:=by simp at hq; omega
  rcases this with rfl | rfl
  ·exact ⟨_,h1⟩
  ·exact ⟨_,h2⟩
 | eq h1 h2 =>
  right
  refine ⟨fun q hq=>?_,.inr (.inr ⟨by dsimp only; omega,by dsimp only; omega,by dsimp only; omega,by dsimp only; omega,by dsimp only; omega,rfl⟩)⟩
  have:q=0∨q=1:=by simp at hq; omega
  rcases this with rfl | rfl
  ·exact ⟨_,h1⟩
  ·exact ⟨_,h2⟩
 | arith o h1 h2 =>
  right
  refine ⟨fun q hq=>?_,.inr (.inr ⟨by dsimp only; omega,by dsimp only; omega,by dsimp only; omega,by dsimp only; omega,by dsimp only; omega,rfl⟩)⟩
  have:q=0∨q=1:=by simp at hq; omega
  rcases this with rfl | rfl
  ·exact ⟨_,h1⟩
  ·exact ⟨_,h2⟩
theorem term_machine_run_ok (fu:Nat) (rf:∀ (m:Machine) (t:Term),t.depth≤fu∧(t.Right)→FnA Tryz.prog 258 [av [slD CellX.cells m.cells_],av t.cells] [] (.tup [av ((term_machine_run_n fu m t).1).cells,lv intC ((term_machine_run_n fu m t).2)]) []) (m:Machine) (t:Term) (hm:t.depth≤fu+1) (ht:t.Right):(term_machine_run_sk (term_machine_run_n fu) (fun m t=>t.depth≤fu∧(t.Right)) rf m t).obs (fun _=>True):=by
 refine Sk.obs_of _ ?_
 unfold term_machine_run_sk
 simp only [Sk.obq,Sk.isLoop,reduceCtorEq,ON,kk,slices_Concat_k,term_combine_k,term_machine_value_k,term_machine_run_kr,maxLen]
 obtain ⟨⟨k,hk⟩,h8⟩:=ht
 have hparts:=hk.parts
 refine ⟨⟨fun _=>by simp_all,fun _=>by simp_all⟩,fun b _ hb hbf=>?_⟩
 rw [hb] at hbf
 simp only [LN] at hbf
 refine ⟨fun h2=>?_,fun h2=>?_⟩
 ·simp only [LN] at h2
  rcases hparts with h | h
  ·omega
  ·omega
 ·simp only [LN] at h2
  have hp:(∀ q,q < t.args.length→∃ j,TyT (t.args.getD q default) j)∧((t.op=3∧t.args.length=1)∨(t.op=6∧t.args.length=3∧TyT (t.args.getD 0 default) 1)∨(t.op≠0∧t.op≠1∧t.op≠2∧t.op≠3∧t.op≠6∧t.args.length=2)):=by
   rcases hparts with h | h
   ·omega
   ·exact h
  obtain ⟨hp1,hp2⟩:=hp
  have hlen:t.args.length≤3:=by omega
  have hdep:∀ q,q < t.args.length→(t.args.getD q default).depth≤fu∧(t.args.getD q default).depth≤8:=fun q hq=>by have:=t.depth_args q hq; omega
  refine ⟨⟨by omega,by omega,by omega⟩,fun _=>⟨⟨by omega,by omega,by omega⟩,fun _=>⟨⟨⟨by simp,by simp,by omega,fun q hq=>absurd hq (by omega)⟩,fun i hi hl=>⟨fun hc=>⟨⟨by omega,of_decide_eq_true hc⟩,fun _=>⟨⟨⟨?_,?_⟩,fun x hx=>⟨⟨by omega,?_⟩,?_,⟨by omega,?_⟩,?_⟩⟩,fun x hx=>⟨by simp,by simp,fun _=>⟨?_,⟨⟨by simp [hi.1],by simp [hi.2.1],?_,fun q hq=>?_⟩,?_⟩⟩⟩⟩⟩,fun hc=>⟨hi.1,hi.2.1,fun q hq=>hi.2.2.2 q (by simp only [LN] at hc; omega)⟩⟩⟩,fun b hb=>?_⟩⟩⟩
  all_goals (try simp only [LN] at hc)
  ·exact (hdep _ (by omega)).1
  ·exact ⟨hp1 _ (by omega),(hdep _ (by omega)).2⟩
  ·omega
  ·omega
  ·omega
  ·omega
  ·exact w64_id (by omega) (by omega)
  ·omega
  ·by_cases e:q=i.2.2
   ·subst e
    subst hx
    exact ⟨lget_set_eq _ (by omega) _ _,lget_set_eq _ (by omega) _ _⟩
   ·have:=hi.2.2.2 q (by omega)
    rw [← this.1,← this.2]
    exact ⟨lget_set_ne _ e _ _,lget_set_ne _ e _ _⟩
  ·omega
  ·refine ⟨⟨fun _=>⟨by omega,by omega⟩,fun _=>by omega⟩,fun _=>⟨fun h6=>?_,fun _=>⟨?_,fun x _ _=>⟨?_,?_⟩⟩⟩⟩
   ·simp only [LN] at h6
    have h01:b01 (b.1.getD 0 default):=by
     rw [(hb.2.2 0 (by omega)).1]
     rcases hp2 with h | h | h
     ·omega
     ·exact (run_typed h.2.2 fu m (hdep 0 (by omega)).1 (hdep 0 (by omega)).2).1 rfl
     ·omega
    have h01:=h01 h6.2
    have hw:w64 (2 - (b.1.getD 0 default).n)=2 - (b.1.getD 0 default).n:=w64_id (by omega) (by omega)
    rw [hw]
    refine ⟨⟨by omega,by omega⟩,fun _=>⟨⟨by omega,by omega⟩,by omega,⟨by omega,by omega⟩,by omega⟩⟩
   ·omega
   ·omega
   ·intro q hq
    rw [hb.2.1] at hq
    rw [(hb.2.2 q hq).2]
    obtain ⟨j,hj⟩:=hp1 q hq
    have:=(run_typed hj fu m (hdep q hq).1 (hdep q hq).2).2
    have h3:(3:Nat) ^ (t.args.getD q default).depth≤3 ^ 8:=Nat.pow_le_pow_right (by omega) (hdep q hq).2
    have:(3:Nat) ^ 8=6561:=by decide
    omega
theorem term_machine_run_val (fu:Nat) (rp:Machine→Term→Prop) (rf:∀ (m:Machine) (t:Term),rp m t→FnA Tryz.prog 258 [av [slD CellX.cells m.cells_],av t.cells] [] (.tup [av ((term_machine_run_n fu m t).1).cells,lv intC ((term_machine_run_n fu m t).2)]) []) (m:Machine) (t:Term):(term_machine_run_sk (term_machine_run_n fu) rp rf m t).val=term_machine_run_n (fu+1) m t:=by kernel_rfl
theorem term_machine_run_fnN (fu:Nat):∀ (m:Machine) (t:Term),t.depth≤fu→t.Right→FnA Tryz.prog 258 [av [slD CellX.cells m.cells_],av t.cells] [] (.tup [av ((term_machine_run_n fu m t).1).cells,lv intC ((term_machine_run_n fu m t).2)]) []:=by
 induction fu with
 | zero=>intro m t hm h0; exact absurd hm (by have:=Term.depth_pos t; omega)
 | succ fu ih =>
  intro m t hm h0
  have h:FnA Tryz.prog 258 [av [slD CellX.cells m.cells_],av t.cells] [] (.tup [av (((term_machine_run_sk (term_machine_run_n fu) (fun m t=>t.depth≤fu∧(t.Right)) (fun m t h=>ih m t h.1 h.2) m t).val).1).cells,lv intC (((term_machine_run_sk (term_machine_run_n fu) (fun m t=>t.depth≤fu∧(t.Right)) (fun m t h=>ih m t h.1 h.2) m t).val).2)]) []:=FnA.sk tok mixed (fun x=>.tup [av x.1.cells,lv intC x.2]) (fun _=>[]) Tryz.func258 rfl (by kernel_rfl) 3000 (term_machine_run_sk (term_machine_run_n fu) (fun m t=>t.depth≤fu∧(t.Right)) (fun m t h=>ih m t h.1 h.2) m t) (by kernel_rfl) (term_machine_run_ok fu _ m t hm h0)
  rw [term_machine_run_val] at h
  exact h
noncomputable def term_machine_run (m:Machine) (t:Term):CellX × (List Int):=term_machine_run_n (t.depth) m t
theorem term_machine_run_fn (m:Machine) (t:Term) (ht:t.Right):FnA Tryz.prog 258 [av [slD CellX.cells m.cells_],av t.cells] [] (.tup [av ((term_machine_run m t).1).cells,lv intC ((term_machine_run m t).2)]) []:=term_machine_run_fnN _ m t (Nat.le_refl _) ht
noncomputable def term_machine_run_k (m:Machine) (t:Term):Ctr (CellX × (List Int)):=⟨Tryz.prog,258,[av [slD CellX.cells m.cells_],av t.cells],fun x=>.tup [av x.1.cells,lv intC x.2],false,term_machine_run m t,(t.Right),fun h=>term_machine_run_fn m t h,fun _=>True,trivial⟩
noncomputable def term_Eval_sk (t:Term) (cells:List CellX):Sk (CellX) :=
 .r 1 ((term_Check_k t).c) fun x1 =>
 .br (x1.2 != 0)
 (.fin ({ known:=false,n:=0 }:CellX))
 (.r 4 ((term_machine_run_k ({ cells_:=cells }:Machine) t).c) fun x2 =>
 .fin x2.1)
noncomputable def term_Eval (t:Term) (cells:List CellX):CellX:=(term_Eval_sk t cells).val
theorem term_Eval_ok (t:Term) (cells:List CellX):(term_Eval_sk t cells).obs (fun _=>True):=by
 refine Sk.obs_of _ ?_
 unfold term_Eval_sk
 simp only [Sk.obq,Sk.isLoop,reduceCtorEq,ON,kk,term_Check_k,term_machine_run_k,maxLen]
 intro x _ h hc
 simp only [LN] at hc
 exact ⟨⟨_,(h hc).1⟩,(h hc).2⟩
noncomputable def term_Eval_k (t:Term) (cells:List CellX):Ctr (CellX):=kk tok mixed Tryz.func223 [av t.cells,lv CellX.cells cells] (fun x=>av x.cells) true (term_Eval_sk t cells) (term_Eval t cells) (fun (_:True)=>term_Eval_ok t cells)
noncomputable def order_Answer_sk (o:Order) (ask:Int) (cells:List CellX):Sk (CellX × Int) :=
 .r 1 ((order_find_k o ask).c) fun x1 =>
 .br (x1.2 != 0)
 (.fin (({ known:=false,n:=0 }:CellX),x1.2))
 (.r 4 ((term_Eval_k x1.1 cells).c) fun x2 =>
 .r 5 ((order_Type_k ask).c) fun x3 =>
 .br ((x3.1 == 0)&&x2.known)
 (.fin (({ known:=x2.known,n:=minI (maxI x2.n 0) 20000 }:CellX),0))
 (.fin (x2,0)))
noncomputable def order_Answer (o:Order) (ask:Int) (cells:List CellX):CellX × Int:=(order_Answer_sk o ask cells).val
theorem order_Answer_ok (o:Order) (ask:Int) (cells:List CellX):(order_Answer_sk o ask cells).obs (fun _=>True):=by
 unfold order_Answer_sk
 try simp only [order_Type_k,order_find_k,term_Eval_k]
 exact okE
noncomputable def order_Answer_k (o:Order) (ask:Int) (cells:List CellX):Ctr (CellX × Int):=kk tok mixed Tryz.func169 [av o.cells,iv ask,lv CellX.cells cells] (fun x=>.tup [av x.1.cells,iv x.2]) true (order_Answer_sk o ask cells) (order_Answer o ask cells) (fun (_:True)=>order_Answer_ok o ask cells)
noncomputable def ask_Ask_sk (r:Realm) (forum:Int) (question:Int) (c_:CaseX):Sk (Said) :=
 .r 1 ((ask_find_k r forum question c_).c) fun x1 =>
 .br (x1.1.order != (-1))
 (.r 3 (.andl (.p (ixP x1.1.order r.orders.length)) ((order_Answer_k (r.orders.getD x1.1.order.toNat default) question x1.2).c)) fun x2 =>
 .fin ({ cell:=x2.1,order:=x1.1.order,path:=x1.1.path,err:=x2.2 }:Said))
 (.fin x1.1)
noncomputable def ask_Ask (r:Realm) (forum:Int) (question:Int) (c_:CaseX):Said:=(ask_Ask_sk r forum question c_).val
theorem ask_Ask_ok (r:Realm) (forum:Int) (question:Int) (c_:CaseX) (hf:c_.file.Small) (hb:r.ByOK) (hr:r.Small):(ask_Ask_sk r forum question c_).obs (fun _=>True):=by
 simp only [File.Small,Realm.Small,Realm.ByOK] at hf
 simp only [File.Small,Realm.Small,Realm.ByOK] at hb
 simp only [File.Small,Realm.Small,Realm.ByOK] at hr
 unfold ask_Ask_sk
 try simp only [ask_find_k,order_Answer_k,File.Small,Realm.Small,Realm.ByOK]
 exact okD
noncomputable def ask_Ask_k (r:Realm) (forum:Int) (question:Int) (c_:CaseX):Ctr (Said):=kk tok mixed Tryz.func96 [av r.cells,iv forum,iv question,av c_.cells] (fun x=>av x.cells) false (ask_Ask_sk r forum question c_) (ask_Ask r forum question c_) (fun (h:(c_.file.Small)∧(r.ByOK)∧(r.Small))=>ask_Ask_ok r forum question c_ h.1 h.2.1 h.2.2)
noncomputable def ask_Bill_sk (r:Realm) (forum:Int) (question:Int) (f:File) (day:Int):Sk (Said) :=
 .r 2 (((ask_Ask_k r forum question ({ file:={ f with facts:=[] },sign:=0,holder:=(-1),defence:=(-1),due:=(-1),day:=day }:CaseX)).nilc 3 18 _ rfl ⟨_,rfl⟩).c) fun x1 =>
 .fin x1
noncomputable def ask_Bill (r:Realm) (forum:Int) (question:Int) (f:File) (day:Int):Said:=(ask_Bill_sk r forum question f day).val
theorem ask_Bill_ok (r:Realm) (forum:Int) (question:Int) (f:File) (day:Int) (hf:f.Small) (h_r_ByOK:r.ByOK) (h_r_Small:r.Small):(ask_Bill_sk r forum question f day).obs (fun _=>True):=by
 simp only [File.Small,Realm.Small,Realm.ByOK] at hf
 simp only [File.Small,Realm.Small,Realm.ByOK] at h_r_ByOK
 simp only [File.Small,Realm.Small,Realm.ByOK] at h_r_Small
 unfold ask_Bill_sk
 try simp only [ask_Ask_k,File.Small,Realm.Small,Realm.ByOK]
 exact okD
noncomputable def ask_Bill_k (r:Realm) (forum:Int) (question:Int) (f:File) (day:Int):Ctr (Said):=kk tok mixed Tryz.func147 [av r.cells,iv forum,iv question,av f.cells,iv day] (fun x=>av x.cells) false (ask_Bill_sk r forum question f day) (ask_Bill r forum question f day) (fun (h:(f.Small)∧(r.ByOK)∧(r.Small))=>ask_Bill_ok r forum question f day h.1 h.2.1 h.2.2)
noncomputable def ask_Number_sk (s:Said):Sk (Int) :=
 .br ((s.err != 0)||(!s.cell.known))
 (.fin (-1))
 (.fin s.cell.n)
noncomputable def ask_Number (s:Said):Int:=(ask_Number_sk s).val
theorem ask_Number_ok (s:Said):(ask_Number_sk s).obs (fun _=>True):=by
 unfold ask_Number_sk
 exact okE
noncomputable def ask_Number_k (s:Said):Ctr (Int):=kk tok mixed Tryz.func95 [av s.cells] (fun x=>iv x) true (ask_Number_sk s) (ask_Number s) (fun (_:True)=>ask_Number_ok s)
noncomputable def slices_Min_sk (x_:List Int):Sk (Int) :=
 .bind false (fun _=>True)
 (.br (decide (((x_.length:Nat):Int) < 1))
 (.dead default)
 (.fin (.inr ())))
 (fun (_:Unit)=>⟨[],[]⟩) fun _ =>
 .r 3 (.p (ixP (0:Int) x_.length)) fun _ =>
 .bind true (fun _=>True)
 (.loop (default:Sum (Int) (Int)) (fun i3=>(1:Int)≤i3.2∧i3.2≤(x_.length:Int)) (fun i3=>((x_.length:Int) - i3.2).toNat) ((x_.getD 0 default,1):Int × Int)
 (fun (i3:Int × Int)=>⟨[(3,iv i3.1),(4,iv i3.2)],[]⟩) fun i3 =>
 .br (decide (i3.2 < ((x_.length:Nat):Int)))
 (.r 7 (.p (ixP i3.2 x_.length)) fun _ =>
 .fin (.inr (minI i3.1 (x_.getD i3.2.toNat default),w64 (i3.2+1))))
 (.fin (.inl (.inr i3.1))))
 (fun (b2:Int)=>⟨[(3,iv b2)],[]⟩) fun b2 =>
 .fin b2
noncomputable def slices_Min (x_:List Int):Int:=(slices_Min_sk x_).val
theorem slices_Min_ok (x_:List Int) (hx:x_.length≠0) (hl:x_.length≤1000000000):(slices_Min_sk x_).obs (fun _=>True):=by
 unfold slices_Min_sk
 exact okD
noncomputable def slices_Min_k (x_:List Int):Ctr (Int):=kk tok mixed Tryz.func207 [lv intC x_] (fun x=>iv x) true (slices_Min_sk x_) (slices_Min x_) (fun (h:(x_.length≠0)∧(x_.length≤1000000000))=>slices_Min_ok x_ h.1 h.2)
noncomputable def record_Seen_sk (f:File):Sk (Int) :=
 .bind true (fun b1=>b1.length≤0+f.signs.length)
 (.loop (default:Sum (Int) ((List Int))) (fun i2=>i2.2≤f.signs.length∧i2.1.length≤0+i2.2) (fun i2=>f.signs.length - i2.2) (([],0):(List Int) × Nat)
 (fun (i2:(List Int) × Nat)=>⟨[(3,ow 100002 i2.1),(16,iv (i2.2:Int))],[(100002,rowB 3 1 intC i2.1)]⟩) fun i2 =>
 .bnd 14 0 f.signs.length <|
 .br (decide ((i2.2:Int) < ((f.signs.length:Nat):Int)))
 (.r 5 (.p (ixP (i2.2:Int) f.signs.length)) fun _ =>
 .br ((f.bill.tenor.kind == 1)&&(((f.signs.getD i2.2 default).kind) == 1))
 (.r 7 (.andl (.o [.nrm (litC intE [(f.signs.getD i2.2 default).day])]) (.andl (.o [.nrm (catC intE i2.1 [(f.signs.getD i2.2 default).day])]) (.andl (.t (intE.ones [(f.signs.getD i2.2 default).day])) (.p (szP i2.1.length [(f.signs.getD i2.2 default).day].length 8))))) fun _ =>
 .r 8 .z fun _ =>
 .wi 16 (w64 ((i2.2:Int)+1)) ((i2.2+1:Nat):Int) <|
 .fin (.inr (i2.1++[(f.signs.getD i2.2 default).day],i2.2+1)))
 (.r 8 .z fun _ =>
 .wi 16 (w64 ((i2.2:Int)+1)) ((i2.2+1:Nat):Int) <|
 .fin (.inr (i2.1,i2.2+1))))
 (.fin (.inl (.inr i2.1))))
 (fun (b1:(List Int))=>⟨[(3,ow 100001 b1)],[(100001,rowB 3 1 intC b1)]⟩) fun b1 =>
 .bind true (fun b3=>b3.length≤b1.length+f.acts.length)
 (.loop (default:Sum (Int) ((List Int))) (fun i4=>i4.2≤f.acts.length∧i4.1.length≤b1.length+i4.2) (fun i4=>f.acts.length - i4.2) ((b1,0):(List Int) × Nat)
 (fun (i4:(List Int) × Nat)=>⟨[(3,ow 100005 i4.1),(36,iv (i4.2:Int))],[(100005,rowB 3 1 intC i4.1)]⟩) fun i4 =>
 .bnd 34 0 f.acts.length <|
 .br (decide ((i4.2:Int) < ((f.acts.length:Nat):Int)))
 (.r 11 (.p (ixP (i4.2:Int) f.acts.length)) fun _ =>
 .br ((f.bill.tenor.kind == 0)&&(((f.acts.getD i4.2 default).kind) == 2))
 (.fin (.inl (.inl ((f.acts.getD i4.2 default).day))))
 (.br ((f.bill.tenor.kind == 1)&&(((f.acts.getD i4.2 default).kind) == 1))
 (.r 15 (.andl (.o [.nrm (litC intE [(f.acts.getD i4.2 default).day])]) (.andl (.o [.nrm (catC intE i4.1 [(f.acts.getD i4.2 default).day])]) (.andl (.t (intE.ones [(f.acts.getD i4.2 default).day])) (.p (szP i4.1.length [(f.acts.getD i4.2 default).day].length 8))))) fun _ =>
 .r 16 .z fun _ =>
 .wi 36 (w64 ((i4.2:Int)+1)) ((i4.2+1:Nat):Int) <|
 .fin (.inr (i4.1++[(f.acts.getD i4.2 default).day],i4.2+1)))
 (.r 16 .z fun _ =>
 .wi 36 (w64 ((i4.2:Int)+1)) ((i4.2+1:Nat):Int) <|
 .fin (.inr (i4.1,i4.2+1)))))
 (.fin (.inl (.inr i4.1))))
 (fun (b3:(List Int))=>⟨[(3,ow 100004 b3)],[(100004,rowB 3 1 intC b3)]⟩) fun b3 =>
 .br (((b3.length:Nat):Int) == 0)
 (.fin (-1))
 (.r 19 ((slices_Min_k b3).c) fun x5 =>
 .fin x5)
noncomputable def record_Seen (f:File):Int:=(record_Seen_sk f).val
theorem record_Seen_ok (f:File) (hf:f.Small):(record_Seen_sk f).obs (fun _=>True):=by
 simp only [File.Small,Realm.Small] at hf
 unfold record_Seen_sk
 try simp only [slices_Min_k,File.Small,Realm.Small]
 exact okD
noncomputable def record_Seen_k (f:File):Ctr (Int):=kk tok mixed Tryz.func149 [av f.cells] (fun x=>iv x) true (record_Seen_sk f) (record_Seen f) (fun (h:(f.Small))=>record_Seen_ok f h)
noncomputable def realm_names_sk (r:Realm):Sk ((List ByteArray) × (List ByteArray) × (List ByteArray)) :=
 .bind true (fun b1=>b1.length≤0+r.cities.length)
 (.loop (default:Sum ((List ByteArray) × (List ByteArray) × (List ByteArray)) ((List ByteArray))) (fun i2=>i2.2≤r.cities.length∧i2.1.length≤0+i2.2) (fun i2=>r.cities.length - i2.2) (([],0):(List ByteArray) × Nat)
 (fun (i2:(List ByteArray) × Nat)=>⟨[(2,ow 100002 i2.1),(14,iv (i2.2:Int))],[(100002,rowB 9 1 strC i2.1)]⟩) fun i2 =>
 .bnd 12 0 r.cities.length <|
 .br (decide ((i2.2:Int) < ((r.cities.length:Nat):Int)))
 (.r 3 (.p (ixP (i2.2:Int) r.cities.length)) fun _ =>
 .r 4 (.andl (.o [.nrm (litC strE [(r.cities.getD i2.2 default).name])]) (.andl (.o [.nrm (catC strE i2.1 [(r.cities.getD i2.2 default).name])]) (.andl (.t (strE.ones [(r.cities.getD i2.2 default).name])) (.p (szP i2.1.length [(r.cities.getD i2.2 default).name].length 16))))) fun _ =>
 .r 5 .z fun _ =>
 .wi 14 (w64 ((i2.2:Int)+1)) ((i2.2+1:Nat):Int) <|
 .fin (.inr (i2.1++[(r.cities.getD i2.2 default).name],i2.2+1)))
 (.fin (.inl (.inr i2.1))))
 (fun (b1:(List ByteArray))=>⟨[(2,ow 100001 b1)],[(100001,rowB 9 1 strC b1)]⟩) fun b1 =>
 .bind true (fun b3=>b3.length≤0+r.firms.length)
 (.loop (default:Sum ((List ByteArray) × (List ByteArray) × (List ByteArray)) ((List ByteArray))) (fun i4=>i4.2≤r.firms.length∧i4.1.length≤0+i4.2) (fun i4=>r.firms.length - i4.2) (([],0):(List ByteArray) × Nat)
 (fun (i4:(List ByteArray) × Nat)=>⟨[(3,ow 100005 i4.1),(27,iv (i4.2:Int))],[(100005,rowB 9 1 strC i4.1)]⟩) fun i4 =>
 .bnd 25 0 r.firms.length <|
 .br (decide ((i4.2:Int) < ((r.firms.length:Nat):Int)))
 (.r 8 (.p (ixP (i4.2:Int) r.firms.length)) fun _ =>
 .r 9 (.andl (.o [.nrm (litC strE [(r.firms.getD i4.2 default).name])]) (.andl (.o [.nrm (catC strE i4.1 [(r.firms.getD i4.2 default).name])]) (.andl (.t (strE.ones [(r.firms.getD i4.2 default).name])) (.p (szP i4.1.length [(r.firms.getD i4.2 default).name].length 16))))) fun _ =>
 .r 10 .z fun _ =>
 .wi 27 (w64 ((i4.2:Int)+1)) ((i4.2+1:Nat):Int) <|
 .fin (.inr (i4.1++[(r.firms.getD i4.2 default).name],i4.2+1)))
 (.fin (.inl (.inr i4.1))))
 (fun (b3:(List ByteArray))=>⟨[(3,ow 100004 b3)],[(100004,rowB 9 1 strC b3)]⟩) fun b3 =>
 .bind true (fun b5=>b5.length≤0+r.orders.length)
 (.loop (default:Sum ((List ByteArray) × (List ByteArray) × (List ByteArray)) ((List ByteArray))) (fun i6=>i6.2≤r.orders.length∧i6.1.length≤0+i6.2) (fun i6=>r.orders.length - i6.2) (([],0):(List ByteArray) × Nat)
 (fun (i6:(List ByteArray) × Nat)=>⟨[(4,ow 100008 i6.1),(40,iv (i6.2:Int))],[(100008,rowB 9 1 strC i6.1)]⟩) fun i6 =>
 .bnd 38 0 r.orders.length <|
 .br (decide ((i6.2:Int) < ((r.orders.length:Nat):Int)))
 (.r 13 (.p (ixP (i6.2:Int) r.orders.length)) fun _ =>
 .r 14 (.andl (.o [.nrm (litC strE [(r.orders.getD i6.2 default).name])]) (.andl (.o [.nrm (catC strE i6.1 [(r.orders.getD i6.2 default).name])]) (.andl (.t (strE.ones [(r.orders.getD i6.2 default).name])) (.p (szP i6.1.length [(r.orders.getD i6.2 default).name].length 16))))) fun _ =>
 .r 15 .z fun _ =>
 .wi 40 (w64 ((i6.2:Int)+1)) ((i6.2+1:Nat):Int) <|
 .fin (.inr (i6.1++[(r.orders.getD i6.2 default).name],i6.2+1)))
 (.fin (.inl (.inr i6.1))))
 (fun (b5:(List ByteArray))=>⟨[(4,ow 100007 b5)],[(100007,rowB 9 1 strC b5)]⟩) fun b5 =>
 .fin (b1,b3,b5)
noncomputable def realm_names (r:Realm):(List ByteArray) × (List ByteArray) × (List ByteArray):=(realm_names_sk r).val
theorem realm_names_pst (r:Realm):(realm_names_sk r).pst (fun (x:(List ByteArray) × (List ByteArray) × (List ByteArray))=>x.1.length≤r.cities.length∧x.2.1.length≤r.firms.length∧x.2.2.length≤r.orders.length):=by
 unfold realm_names_sk
 try simp only [File.Small,Realm.Small]
 exact okP
theorem realm_names_post (r:Realm):(fun (x:(List ByteArray) × (List ByteArray) × (List ByteArray))=>x.1.length≤r.cities.length∧x.2.1.length≤r.firms.length∧x.2.2.length≤r.orders.length) (realm_names r):=have h:=Sk.pval _ (realm_names_pst r); h
theorem realm_names_ok (r:Realm) (hr:r.Small):(realm_names_sk r).obs (fun _=>True):=by
 simp only [File.Small,Realm.Small] at hr
 unfold realm_names_sk
 try simp only [File.Small,Realm.Small]
 exact okD
noncomputable def realm_names_k (r:Realm):Ctr ((List ByteArray) × (List ByteArray) × (List ByteArray)):=kk tok mixed Tryz.func115 [av r.cells] (fun x=>.tup [lv strC x.1,lv strC x.2.1,lv strC x.2.2]) false (realm_names_sk r) (realm_names r) (fun (h:(r.Small))=>realm_names_ok r h) (fun (x:(List ByteArray) × (List ByteArray) × (List ByteArray))=>x.1.length≤r.cities.length∧x.2.1.length≤r.firms.length∧x.2.2.length≤r.orders.length) (realm_names_post r)
noncomputable def realm_isName_sk (s:ByteArray):Sk (Bool) :=
 .br ((s.toList == (⟨#[]⟩:ByteArray).toList)||(decide (((s.size:Nat):Int) > 20)))
 (.fin false)
 (.r 3 (.andl (.o [.nrm (bytesC s)]) (.p (s.size≤maxLen))) fun _ =>
 .bind true (fun _=>True)
 (.loop (default:Sum (Bool) (Unit)) (fun i2=>i2≤(bytesL s).length) (fun i2=>(bytesL s).length - i2) (0:Nat)
 (fun (i2:Nat)=>⟨[(16,iv (i2:Int))],[]⟩) fun i2 =>
 .bnd 14 0 ((bytesL s).length) <|
 .br (decide ((i2:Int) < (((bytesL s).length:Nat):Int)))
 (.r 5 (.p (ixP (i2:Int) ((bytesL s).length))) fun _ =>
 .br ((!(((decide (((bytesL s).getD i2 default)≥97))&&(decide (((bytesL s).getD i2 default)≤122)))||((decide (((bytesL s).getD i2 default)≥65))&&(decide (((bytesL s).getD i2 default)≤90)))))&&(((i2:Int) == 0)||((((bytesL s).getD i2 default) != 95)&&((decide (((bytesL s).getD i2 default) < 48))||(decide (((bytesL s).getD i2 default) > 57))))))
 (.fin (.inl (.inl false)))
 (.r 9 .z fun _ =>
 .wi 16 (w64 ((i2:Int)+1)) ((i2+1:Nat):Int) <|
 .fin (.inr (i2+1))))
 (.fin (.inl (.inr ()))))
 (fun (_:Unit)=>⟨[],[]⟩) fun _ =>
 .fin true)
noncomputable def realm_isName (s:ByteArray):Bool:=(realm_isName_sk s).val
theorem realm_isName_ok (s:ByteArray):(realm_isName_sk s).obs (fun _=>True):=by
 unfold realm_isName_sk
 exact okD
noncomputable def realm_isName_k (s:ByteArray):Ctr (Bool):=kk tok mixed Tryz.func231 [sv s] (fun x=>bv x) true (realm_isName_sk s) (realm_isName s) (fun (_:True)=>realm_isName_ok s)
noncomputable def slices_Index_2_sk (s:List ByteArray) (v:ByteArray):Sk (Int) :=
 .bind true (fun b1=>∀ q,q < s.length→((s.getD q default).toList == v.toList)=false)
 (.loop (default:Sum (Int) (Unit)) (fun i2=>∀ q,q < i2→((s.getD q default).toList == v.toList)=false) (fun i2=>s.length - i2) (0:Nat)
 (fun (i2:Nat)=>⟨[(8,iv (i2:Int))],[]⟩) fun i2 =>
 .bnd 0 0 s.length <|
 .br (decide ((i2:Int) < ((s.length:Nat):Int)))
 (.r 4 (.p (ixP (i2:Int) s.length)) fun _ =>
 .br (v.toList == (s.getD i2 default).toList)
 (.fin (.inl (.inl (i2:Int))))
 (.r 6 .z fun _ =>
 .wi 8 (w64 ((i2:Int)+1)) ((i2+1:Nat):Int) <|
 .fin (.inr (i2+1))))
 (.fin (.inl (.inr ()))))
 (fun (_:Unit)=>⟨[],[]⟩) fun _ =>
 .fin (-1)
noncomputable def slices_Index_2 (s:List ByteArray) (v:ByteArray):Int:=(slices_Index_2_sk s v).val
theorem slices_Index_2_pst (s:List ByteArray) (v:ByteArray):(slices_Index_2_sk s v).pst (fun (x:Int)=>(x = -1∧∀ q,q < s.length→((s.getD q default).toList == v.toList)=false)∨(0≤x∧x < s.length∧((s.getD x.toNat default).toList == v.toList)=true∧∀ q,(q:Nat) < x.toNat→((s.getD q default).toList == v.toList)=false)):=by
 unfold slices_Index_2_sk
 exact okP
theorem slices_Index_2_post (s:List ByteArray) (v:ByteArray):(fun (x:Int)=>(x = -1∧∀ q,q < s.length→((s.getD q default).toList == v.toList)=false)∨(0≤x∧x < s.length∧((s.getD x.toNat default).toList == v.toList)=true∧∀ q,(q:Nat) < x.toNat→((s.getD q default).toList == v.toList)=false)) (slices_Index_2 s v):=have h:=Sk.pval _ (slices_Index_2_pst s v); h
theorem slices_Index_2_ok (s:List ByteArray) (v:ByteArray):(slices_Index_2_sk s v).obs (fun _=>True):=by
 unfold slices_Index_2_sk
 exact okD
noncomputable def slices_Index_2_k (s:List ByteArray) (v:ByteArray):Ctr (Int):=kk tok mixed Tryz.func262 [lv strC s,sv v] (fun x=>iv x) true (slices_Index_2_sk s v) (slices_Index_2 s v) (fun (_:True)=>slices_Index_2_ok s v) (fun (x:Int)=>(x = -1∧∀ q,q < s.length→((s.getD q default).toList == v.toList)=false)∨(0≤x∧x < s.length∧((s.getD x.toNat default).toList == v.toList)=true∧∀ q,(q:Nat) < x.toNat→((s.getD q default).toList == v.toList)=false)) (slices_Index_2_post s v)
noncomputable def slices_Contains_2_sk (s:List ByteArray) (v:ByteArray):Sk (Bool) :=
 .r 1 ((slices_Index_2_k s v).c) fun x1 =>
 .fin (decide (x1≥0))
noncomputable def slices_Contains_2 (s:List ByteArray) (v:ByteArray):Bool:=(slices_Contains_2_sk s v).val
theorem slices_Contains_2_pst (s:List ByteArray) (v:ByteArray):(slices_Contains_2_sk s v).pst (fun (x:Bool)=>(x=true↔∃ q,q < s.length∧((s.getD q default).toList == v.toList)=true)):=by
 unfold slices_Contains_2_sk
 try simp only [slices_Index_2_k]
 exact okP
theorem slices_Contains_2_post (s:List ByteArray) (v:ByteArray):(fun (x:Bool)=>(x=true↔∃ q,q < s.length∧((s.getD q default).toList == v.toList)=true)) (slices_Contains_2 s v):=have h:=Sk.pval _ (slices_Contains_2_pst s v); h
theorem slices_Contains_2_ok (s:List ByteArray) (v:ByteArray):(slices_Contains_2_sk s v).obs (fun _=>True):=by
 unfold slices_Contains_2_sk
 try simp only [slices_Index_2_k]
 exact okE
noncomputable def slices_Contains_2_k (s:List ByteArray) (v:ByteArray):Ctr (Bool):=kk tok mixed Tryz.func232 [lv strC s,sv v] (fun x=>bv x) true (slices_Contains_2_sk s v) (slices_Contains_2 s v) (fun (_:True)=>slices_Contains_2_ok s v) (fun (x:Bool)=>(x=true↔∃ q,q < s.length∧((s.getD q default).toList == v.toList)=true)) (slices_Contains_2_post s v)
noncomputable def realm_named_sk (names:List ByteArray) (i:Int):Sk (Int) :=
 .r 1 (.andl (.p (ixP i names.length)) ((realm_isName_k (names.getD i.toNat default)).c)) fun x1 =>
 .br (!x1)
 (.fin 2)
 (.r 3 (.andl (.andl (.o [.nrm (subC strE names 0 i.toNat)]) (.pt (0≤i∧i≤((names.length:Nat):Int)) (strE.lens names))) (.andl (.p (ixP i names.length)) ((slices_Contains_2_k (subL names 0 i.toNat) (names.getD i.toNat default)).c))) fun x2 =>
 .br x2
 (.fin 5)
 (.fin 0))
noncomputable def realm_named (names:List ByteArray) (i:Int):Int:=(realm_named_sk names i).val
theorem realm_named_ok (names:List ByteArray) (i:Int) (hi:0≤i∧i < (names.length:Int)):(realm_named_sk names i).obs (fun _=>True):=by
 unfold realm_named_sk
 try simp only [realm_isName_k,slices_Contains_2_k]
 exact okD
noncomputable def realm_named_k (names:List ByteArray) (i:Int):Ctr (Int):=kk tok mixed Tryz.func186 [lv strC names,iv i] (fun x=>iv x) true (realm_named_sk names i) (realm_named names i) (fun (h:(0≤i∧i < (names.length:Int)))=>realm_named_ok names i h)
noncomputable def realm_Check_c1_sk (p:Int):Sk (Bool) :=
 .fin true
noncomputable def realm_Check_c1 (p:Int):Bool:=(realm_Check_c1_sk p).val
theorem realm_Check_c1_eq (p:Int):realm_Check_c1 p=true:=rfl
theorem realm_Check_c1_ok (p:Int):(realm_Check_c1_sk p).obs (fun _=>True):=by
 unfold realm_Check_c1_sk
 exact okE
noncomputable def realm_Check_c1_k (p:Int):Ctr (Bool):=kk tok mixed Tryz.func117 [iv p] (fun x=>bv x) true (realm_Check_c1_sk p) (realm_Check_c1 p) (fun (_:True)=>realm_Check_c1_ok p)
noncomputable def realm_fits_117_sk (names:List ByteArray) (most:Int):Sk (Int) :=
 .br (decide (((names.length:Nat):Int) > most))
 (.fin 6)
 (.bind true (fun _=>True)
 (.loop (default:Sum (Int) (Unit)) (fun i2=>i2≤names.length) (fun i2=>names.length - i2) (0:Nat)
 (fun (i2:Nat)=>⟨[(15,iv (i2:Int))],[]⟩) fun i2 =>
 .bnd 0 0 names.length <|
 .br (decide ((i2:Int) < ((names.length:Nat):Int)))
 (.r 6 ((realm_named_k names (i2:Int)).c) fun x3 =>
 .br (x3 != 0)
 (.fin (.inl (.inl x3)))
 (.r 9 ((realm_Check_c1_k (i2:Int)).c) fun x4 =>
 .br (!x4)
 (.fin (.inl (.inl 1)))
 (.r 11 .z fun _ =>
 .wi 15 (w64 ((i2:Int)+1)) ((i2+1:Nat):Int) <|
 .fin (.inr (i2+1)))))
 (.fin (.inl (.inr ()))))
 (fun (_:Unit)=>⟨[],[]⟩) fun _ =>
 .fin 0)
noncomputable def realm_fits_117 (names:List ByteArray) (most:Int):Int:=(realm_fits_117_sk names most).val
theorem realm_fits_117_ok (names:List ByteArray) (most:Int):(realm_fits_117_sk names most).obs (fun _=>True):=by
 unfold realm_fits_117_sk
 try simp only [realm_Check_c1_k,realm_named_k,realm_Check_c1_eq]
 exact okG
noncomputable def realm_fits_117_k (names:List ByteArray) (most:Int):Ctr (Int):=kk tok mixed Tryz.func116 [lv strC names,iv most,.fn 117 []] (fun x=>iv x) true (realm_fits_117_sk names most) (realm_fits_117 names most) (fun (_:True)=>realm_fits_117_ok names most)
noncomputable def realm_rising_sk (l:List Int) (low:Int) (high:Int):Sk (Bool) :=
 .bind true (fun _=>True)
 (.loop (default:Sum (Bool) (Unit)) (fun i2=>i2≤l.length) (fun i2=>l.length - i2) (0:Nat)
 (fun (i2:Nat)=>⟨[(11,iv (i2:Int))],[]⟩) fun i2 =>
 .bnd 0 0 l.length <|
 .br (decide ((i2:Int) < ((l.length:Nat):Int)))
 (.r 3 (.p (ixP (i2:Int) l.length)) fun _ =>
 .r 4 (.wh ((decide ((l.getD i2 default) < low))||(decide ((l.getD i2 default) > high))) false (.wh (decide ((i2:Int) > 0)) true (.p (ixP (w64 ((i2:Int) - 1)) l.length)))) fun _ =>
 .br (((decide ((l.getD i2 default) < low))||(decide ((l.getD i2 default) > high)))||((decide ((i2:Int) > 0))&&(decide ((l.getD i2 default)≤(l.getD ((w64 ((i2:Int) - 1)).toNat) default)))))
 (.fin (.inl (.inl false)))
 (.r 6 .z fun _ =>
 .wi 11 (w64 ((i2:Int)+1)) ((i2+1:Nat):Int) <|
 .fin (.inr (i2+1))))
 (.fin (.inl (.inr ()))))
 (fun (_:Unit)=>⟨[],[]⟩) fun _ =>
 .fin true
noncomputable def realm_rising (l:List Int) (low:Int) (high:Int):Bool:=(realm_rising_sk l low high).val
theorem realm_rising_ok (l:List Int) (low:Int) (high:Int):(realm_rising_sk l low high).obs (fun _=>True):=by
 unfold realm_rising_sk
 exact okD
noncomputable def realm_rising_k (l:List Int) (low:Int) (high:Int):Ctr (Bool):=kk tok mixed Tryz.func187 [lv intC l,iv low,iv high] (fun x=>bv x) true (realm_rising_sk l low high) (realm_rising l low high) (fun (_:True)=>realm_rising_ok l low high)
noncomputable def realm_city_sk (r:Realm) (c_:City):Sk (Bool) :=
 .bind true (fun _=>True)
 (.loop (default:Sum (Bool) (Unit)) (fun i2=>i2≤c_.feasts.length) (fun i2=>c_.feasts.length - i2) (0:Nat)
 (fun (i2:Nat)=>⟨[(10,iv (i2:Int))],[]⟩) fun i2 =>
 .bnd 8 0 c_.feasts.length <|
 .br (decide ((i2:Int) < ((c_.feasts.length:Nat):Int)))
 (.r 3 (.p (ixP (i2:Int) c_.feasts.length)) fun _ =>
 .r 4 (.andl (.p ((100:Int)≠0)) (.wh (decide (((c_.feasts.getD i2 default).tmod 100) < 1)) false (.p ((100:Int)≠0)))) fun _ =>
 .br ((decide (((c_.feasts.getD i2 default).tmod 100) < 1))||(decide (((c_.feasts.getD i2 default).tmod 100) > 31)))
 (.fin (.inl (.inl false)))
 (.r 6 .z fun _ =>
 .wi 10 (w64 ((i2:Int)+1)) ((i2+1:Nat):Int) <|
 .fin (.inr (i2+1))))
 (.fin (.inl (.inr ()))))
 (fun (_:Unit)=>⟨[],[]⟩) fun _ =>
 .r 7 (.dep (.wh ((decide (((c_.feasts.length:Nat):Int) > 60))||(decide (((c_.shut.length:Nat):Int) > 200))) false ((realm_in_k c_.order ((r.orders.length:Nat):Int)).c)) fun x3=>.wh (((decide (((c_.feasts.length:Nat):Int) > 60))||(decide (((c_.shut.length:Nat):Int) > 200)))||(!x3)) false ((realm_in_k c_.currency ((r.currencies.length:Nat):Int)).c)) fun p9 =>
 .br ((((decide (((c_.feasts.length:Nat):Int) > 60))||(decide (((c_.shut.length:Nat):Int) > 200)))||(!p9.1))||(!p9.2))
 (.fin false)
 (.r 9 (.dep ((realm_rising_k c_.rest 0 6).c) fun x5=>.dep (.wh x5 true ((realm_rising_k c_.feasts 101 1231).c)) fun x6=>.wh (x5&&x6) true ((realm_rising_k c_.shut 0 100000).c)) fun p8 =>
 .fin ((p8.1&&p8.2.1)&&p8.2.2))
noncomputable def realm_city (r:Realm) (c_:City):Bool:=(realm_city_sk r c_).val
theorem realm_city_ok (r:Realm) (c_:City):(realm_city_sk r c_).obs (fun _=>True):=by
 unfold realm_city_sk
 try simp only [realm_in_k,realm_rising_k,realm_in_eq]
 exact okG
noncomputable def realm_city_k (r:Realm) (c_:City):Ctr (Bool):=kk tok mixed Tryz.func119 [av r.cells,av c_.cells] (fun x=>bv x) true (realm_city_sk r c_) (realm_city r c_) (fun (_:True)=>realm_city_ok r c_)
noncomputable def realm_Check_c2_sk (i:Int) (v:Realm):Sk (Bool) :=
 .r 1 (.andl (.p (ixP i v.cities.length)) ((realm_city_k v (v.cities.getD i.toNat default)).c)) fun x1 =>
 .fin x1
noncomputable def realm_Check_c2 (i:Int) (v:Realm):Bool:=(realm_Check_c2_sk i v).val
theorem realm_Check_c2_ok (i:Int) (v:Realm) (hi:0≤i∧i < (v.cities.length:Int)):(realm_Check_c2_sk i v).obs (fun _=>True):=by
 unfold realm_Check_c2_sk
 try simp only [realm_city_k]
 exact okD
noncomputable def realm_Check_c2_k (i:Int) (v:Realm):Ctr (Bool):=kk tok mixed Tryz.func118 [iv i,.ref v.cells] (fun x=>bv x) true (realm_Check_c2_sk i v) (realm_Check_c2 i v) (fun (h:(0≤i∧i < (v.cities.length:Int)))=>realm_Check_c2_ok i v h)
end Go.Proofs.YtbcnlpcaajpclaaGreatDoor
