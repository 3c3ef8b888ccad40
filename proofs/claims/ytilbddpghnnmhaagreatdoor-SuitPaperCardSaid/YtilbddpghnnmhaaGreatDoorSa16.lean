/- Functions, as sketches. -/
import Derived.Test.YtilbddpghnnmhaaGreatDoorSa15
namespace Go.Proofs.YtilbddpghnnmhaaGreatDoor
noncomputable section
open Go Go.Av
set_option linter.unusedSimpArgs false
set_option linter.unusedVariables false
set_option maxHeartbeats 1000000
set_option maxRecDepth 100000
theorem zbG {α:Type} (k k':Int) (v:α):∀ (m:List (Int × α)),gh (gt m k v) k'=if k'=k then some v else gh m k'
 | []=>by
  by_cases h:k'=k
  ·simp [gt,gh,h]
  ·have e:(k' == k)=false:=by simpa using h
   simp [gt,gh,h,e]
 | p :: r=>by
  by_cases c:k=p.1
  ·have e:(k == p.1)=true:=by simpa using c
   simp only [gt,e,cond_true,gh]
   by_cases h:k'=p.1
   ·have e':(k' == p.1)=true:=by simpa using h
    simp [e',h,c]
   ·have e':(k' == p.1)=false:=by simpa using h
    simp [e',h,c]
  ·have e:(k == p.1)=false:=by simpa using c
   simp only [gt,e,cond_false,gh,zbG k k' v r]
   by_cases h:k'=p.1
   ·have e':(k' == p.1)=true:=by simpa using h
    have hk:¬ k'=k:=fun x=>c (x ▸ h)
    simp [e',hk]
   ·have e':(k' == p.1)=false:=by simpa using h
    simp [e']
theorem zl6 (k k':Int) (m:List (Int × Bool)):km (gt m k true) k' false=if k'=k then true else km m k' false:=by
 unfold km
 rw [zbG]
 split <;> rfl
theorem zqk (suits:List jM) (l:List Move) (s:Int × List Int × List (Int × Bool)) (i:Nat) (h:i < l.length):(zH suits l s).1.getD i default=(FD suits (zH suits (l.take i) s).2 (l.getD i default)).1:=by
 have e:l=l.take (i+1)++l.drop (i+1):=(List.take_append_drop _ _).symm
 have hl:(zH suits (l.take i) s).1.length=i:=by rw [zfr,List.length_take]; omega
 rw [congrArg (fun z=>(zH suits z s).1) e,Yr,zbH suits l i h]
 simp only [List.getD]
 rw [List.getElem?_append_left (by simp [hl]),List.getElem?_append_right (by omega),hl]
 simp
structure zs4 (n:Nat) (s s':Int × List Int × List (Int × Bool)):Prop where
 day:s'.1≤s.1
 len:n < s.2.1.length
 len':n < s'.2.1.length
 st:s'.2.1.getD n default=s.2.1.getD n default
 ap:km s'.2.2 (n:Int) false=km s.2.2 (n:Int) false
theorem zsm (suits:List jM) (l:List Move):(zH suits l (KH suits)).2.2.1.length=suits.length:=by
 rw [zc3]; simp [KH]
theorem zql {suits:List jM} {m:Move} {day:Int} {st:List Int} {ap:List (Int × Bool)} (h:(Qw suits m day st ap).1=0) (k:m.kind=1):0≤m.no∧m.no < 7:=by
 unfold Qw at h
 split at h
 ·cases h
 omega
def Qt (suits:List jM) (moves:List Move) (suit:Int):Int × List Int × List Int × Bool:=UK suit ((suits.getD suit.toNat default).kind == 1) moves (zH suits moves (KH suits)).1 moves.length
theorem zrl (suits:List jM) (moves:List Move) (suit:Int) (w:Bool) (n:Nat):n≤moves.length→(∀ d,d∈(UK suit w moves (zH suits moves (KH suits)).1 n).2.1→0≤d∧d < 7)∧∀ d,d∈(UK suit w moves (zH suits moves (KH suits)).1 n).2.2.1→0≤d∧d < 7:=by
 induction n with
 | zero=>exact fun _=>⟨fun d h=>by simp [UK] at h,fun d h=>by simp [UK] at h⟩
 | succ n ih =>
  intro hn
  obtain ⟨i1,i2⟩:=ih (by omega)
  simp only [UK]
  unfold uE
  split
  ·exact ⟨i1,i2⟩
  rename_i h1
  split
  ·rename_i h2
   refine ⟨i1,fun d hd=>?_⟩
   rcases List.mem_append.1 hd with hd | hd
   ·exact i2 d hd
   ·rw [List.mem_singleton.1 hd]
    have he:(zH suits moves (KH suits)).1.getD n default=0:=by
     by_cases q:(zH suits moves (KH suits)).1.getD n default=0
     ·exact q
     ·exact absurd (.inl q) h1
    rw [zqk suits moves _ n (by omega)] at he
    exact zql he h2
  split
  ·exact ⟨i1,i2⟩
  split
  ·exact ⟨fun d hd=>i2 d (List.mem_filter.1 hd).1,i2⟩
  ·exact ⟨i1,i2⟩
def awf (x:jF) (c:Claim) (st d:Int):Int:=zY st (Up (zY (qQ x c d) (Up (zZ x 5 c d))))
def Hv (x:jF) (c:Claim) (D:List Int):Int:=D.foldl (awf x c) c.state
def zaK (x:jF) (D:List Int) (bm:List (Int × Int) × List (Int × Bool)) (c:Claim):List (Int × Int) × List (Int × Bool) :=
 if c.debtor=x.s.defendant∧c.creditor=x.s.plaintiff∧c.sign=x.s.sign then (gt bm.1 (Hv x c D) (ki (km bm.1 (Hv x c D) 0) c.sum),gt bm.2 (Hv x c D) true) else bm
def kT (x:jF) (D:List Int) (l:List Claim):Nat→List (Int × Int) × List (Int × Bool)
 | 0=>([],[])
 | n+1=>zaK x D (kT x D l n) (l.getD n default)
def Yh (suit cur:Int) (bm:List (Int × Int) × List (Int × Bool)):JG :=
 if km bm.2 1 false=true then { suit:=suit,sum:=km bm.1 1 0,currency:=cur,state:=1 } else if km bm.2 2 false=true then { suit:=suit,sum:=km bm.1 2 0,currency:=cur,state:=2 } else { suit:=suit,sum:=0,currency:=cur,state:=0 }
def kB (r:jg) (files:List jh) (s:jM) (day:Int):jF:={ r:=r,forum:=s.forum,day:=day,files:=files,s:=s }
def awT (r:jg) (files:List jh) (s:jM) (suit day:Int) (D:List Int):JG :=
 Yh suit (files.getD s.file.toNat default).bill.currency (kT (kB r files s day) D (kE r s.forum (files.getD s.file.toNat default) day) (kE r s.forum (files.getD s.file.toNat default) day).length)
def yK (r:jg) (files:List jh) (suits:List jM) (moves:List Move) (suit:Int):Sk (JG × Int) :=
 .r 1 ((vR r files suits moves).c) fun x1 =>
 .br (x1 != 0)
 (.fin (({ suit:=0,sum:=0,currency:=0,state:=0 }:JG),x1))
 (.r 4 ((qh suit ((suits.length:Nat):Int)).c) fun x2 =>
 .br (!x2)
 (.fin (({ suit:=0,sum:=0,currency:=0,state:=0 }:JG),4))
 (.r 6 ((QP suits moves).c) fun x3 =>
 .r 7 (.p (ixP suit x3.1.length)) fun _ =>
 .br ((x3.1.getD suit.toNat default) != 3)
 (.fin (({ suit:=0,sum:=0,currency:=0,state:=0 }:JG),7))
 (.r 9 (.p (ixP suit suits.length)) fun _ =>
 .r 10 ((Vf (suits.getD suit.toNat default) suit moves x3.2).c) fun x4 =>
 .r 12 (.o [.nrmm (mkM dI)]) fun _ =>
 .r 13 (.o [.nrmm (mkM dB)]) fun _ =>
 .r 14 (.andl (.p (ixP ((suits.getD suit.toNat default).file) files.length)) ((gL r ((suits.getD suit.toNat default).forum) (files.getD (((suits.getD suit.toNat default).file).toNat) default) x4.1).c)) fun x5 =>
 .bind true (fun b6=>kT ({ r:=r,forum:=(suits.getD suit.toNat default).forum,day:=x4.1,files:=files,s:=suits.getD suit.toNat default }:jF) x4.2 x5 x5.length=(b6.1,b6.2))
 (.loop (default:Sum (JG × Int) ((List (Int × Int)) × (List (Int × Bool)))) (fun i7=>i7.1≤x5.length∧kT ({ r:=r,forum:=(suits.getD suit.toNat default).forum,day:=x4.1,files:=files,s:=suits.getD suit.toNat default }:jF) x4.2 x5 i7.1=(i7.2.1,i7.2.2)) (fun i7=>x5.length - i7.1) ((0,([]:List (Int × Int)),([]:List (Int × Bool))):Nat × (List (Int × Int)) × (List (Int × Bool)))
 (fun (i7:Nat × (List (Int × Int)) × (List (Int × Bool)))=>⟨[(88,iv (i7.1:Int))],[(75,mpM dI i7.2.1),(76,mpM dB i7.2.2)]⟩) fun i7 =>
 .bnd 86 0 x5.length <|
 .br (decide ((i7.1:Int) < ((x5.length:Nat):Int)))
 (.bind true (fun b8=>(b8.1,b8.2)=zaK ({ r:=r,forum:=(suits.getD suit.toNat default).forum,day:=x4.1,files:=files,s:=suits.getD suit.toNat default }:jF) x4.2 (i7.2.1,i7.2.2) (x5.getD i7.1 default))
 (.r 16 (.p (ixP (i7.1:Int) x5.length)) fun _ =>
 .br (((((x5.getD i7.1 default).debtor) != ((suits.getD suit.toNat default).defendant))||(((x5.getD i7.1 default).creditor) != ((suits.getD suit.toNat default).plaintiff)))||(((x5.getD i7.1 default).sign) != ((suits.getD suit.toNat default).sign)))
 (.fin (.inr (i7.2.1,i7.2.2)))
 (.bind true (fun b9=>b9.1=Hv ({ r:=r,forum:=(suits.getD suit.toNat default).forum,day:=x4.1,files:=files,s:=suits.getD suit.toNat default }:jF) (x5.getD i7.1 default) x4.2)
 (.loop (default:Sum (Sum (Sum (Sum (JG × Int) ((List (Int × Int)) × (List (Int × Bool)))) (Nat × (List (Int × Int)) × (List (Int × Bool)))) ((List (Int × Int)) × (List (Int × Bool)))) (Int × Int)) (fun i10=>i10.2≤x4.2.length∧i10.1=(x4.2.take i10.2).foldl (awf ({ r:=r,forum:=(suits.getD suit.toNat default).forum,day:=x4.1,files:=files,s:=suits.getD suit.toNat default }:jF) (x5.getD i7.1 default)) (x5.getD i7.1 default).state) (fun i10=>x4.2.length - i10.2) (((x5.getD i7.1 default).state,0):Int × Nat)
 (fun (i10:Int × Nat)=>⟨[(23,iv i10.1),(115,iv (i10.2:Int))],[]⟩) fun i10 =>
 .bnd 17 0 x4.2.length <|
 .br (decide ((i10.2:Int) < ((x4.2.length:Nat):Int)))
 (.r 21 (.p (ixP (i10.2:Int) x4.2.length)) fun _ =>
 .r 22 (.dep ((Qo ({ r:=r,forum:=(suits.getD suit.toNat default).forum,day:=x4.1,files:=files,s:=suits.getD suit.toNat default }:jF) (x5.getD i7.1 default) (x4.2.getD i10.2 default)).c) fun x11=>.dep ((uM ({ r:=r,forum:=(suits.getD suit.toNat default).forum,day:=x4.1,files:=files,s:=suits.getD suit.toNat default }:jF) 5 (x5.getD i7.1 default) (x4.2.getD i10.2 default)).c) fun x12=>.dep ((Ww x12).c) fun x13=>.dep ((zA x11 x13).c) fun x14=>.dep ((Ww x14).c) fun x15=>(zA i10.1 x15).c) fun p17 =>
 .r 23 .z fun _ =>
 .wi 115 (w64 ((i10.2:Int)+1)) ((i10.2+1:Nat):Int) <|
 .fin (.inr (p17.2.2.2.2.2,i10.2+1)))
 (.fin (.inl (.inr (i10.1,(i10.2:Int))))))
 (fun (b9:Int × Int)=>⟨[(23,iv b9.1),(115,iv b9.2)],[]⟩) fun b9 =>
 .r 24 (.andl (.andl (.t (Jy dI i7.2.1)) (.o [.cast 139 (zlM dI i7.2.1 b9.1 (0:Int))])) (.andl (.andl (.t (Jy dI i7.2.1)) (.o [.nrmm (znU dI i7.2.1 b9.1 (ki (km i7.2.1 b9.1 (0:Int)) ((x5.getD i7.1 default).sum)))])) (.andl (.t (Jy dB i7.2.2)) (.o [.nrmm (znU dB i7.2.2 b9.1 true)])))) fun _ =>
 .fin (.inr (gt i7.2.1 b9.1 (ki (km i7.2.1 b9.1 (0:Int)) ((x5.getD i7.1 default).sum)),gt i7.2.2 b9.1 true))))
 (fun (b8:(List (Int × Int)) × (List (Int × Bool)))=>⟨[],[(75,mpM dI b8.1),(76,mpM dB b8.2)]⟩) fun b8 =>
 .r 25 .z fun _ =>
 .wi 88 (w64 ((i7.1:Int)+1)) ((i7.1+1:Nat):Int) <|
 .fin (.inr (i7.1+1,b8.1,b8.2)))
 (.fin (.inl (.inr (i7.2.1,i7.2.2)))))
 (fun (b6:(List (Int × Int)) × (List (Int × Bool)))=>⟨[],[(75,mpM dI b6.1),(76,mpM dB b6.2)]⟩) fun b6 =>
 .r 26 (.p (ixP ((suits.getD suit.toNat default).file) files.length)) fun _ =>
 .r 27 (.o [.nrm (qk kA [1,2])]) fun _ =>
 .bind true (fun b18=>km b6.2 1 false=false∧km b6.2 2 false=false)
 (.loop (default:Sum (JG × Int) (Unit)) (fun i19=>i19≤2∧(0 < i19→km b6.2 1 false=false)∧(1 < i19→km b6.2 2 false=false)) (fun i19=>[1,2].length - i19) (0:Nat)
 (fun (i19:Nat)=>⟨[(155,iv (i19:Int))],[]⟩) fun i19 =>
 .bnd 153 0 ([1,2].length) <|
 .br (decide ((i19:Int) < (([1,2].length:Nat):Int)))
 (.r 29 (.andl (.p (ixP (i19:Int) ([1,2].length))) (.p (i19 < [1,2].length))) fun _ =>
 .r 30 (.andl (.t (Jy dB b6.2)) (.o [.cast 161 (zlM dB b6.2 ([1,2].getD i19 default) false)])) fun _ =>
 .br (km b6.2 ([1,2].getD i19 default) false)
 (.r 31 (.andl (.t (Jy dI b6.1)) (.o [.cast 165 (zlM dI b6.1 ([1,2].getD i19 default) (0:Int))])) fun _ =>
 .fin (.inl (.inl (({ suit:=suit,sum:=km b6.1 ([1,2].getD i19 default) (0:Int),currency:=((files.getD (((suits.getD suit.toNat default).file).toNat) default).bill).currency,state:=[1,2].getD i19 default }:JG),0))))
 (.r 33 .z fun _ =>
 .wi 155 (w64 ((i19:Int)+1)) ((i19+1:Nat):Int) <|
 .fin (.inr (i19+1))))
 (.fin (.inl (.inr ()))))
 (fun (_:Unit)=>⟨[],[]⟩) fun _ =>
 .fin (({ suit:=suit,sum:=0,currency:=((files.getD (((suits.getD suit.toNat default).file).toNat) default).bill).currency,state:=0 }:JG),0))))
def uV (r:jg) (files:List jh) (suits:List jM) (moves:List Move) (suit:Int):JG × Int:=(yK r files suits moves suit).val
theorem zfR (r:jg) (files:List jh) (suits:List jM) (moves:List Move) (suit:Int):(yK r files suits moves suit).pst (fun (x:JG × Int)=>yo r files suits moves=0→(0≤suit∧suit < suits.length)→(zH suits moves (KH suits)).2.2.1.getD suit.toNat default=3→x=(awT r files (suits.getD suit.toNat default) suit (Qt suits moves suit).1 (Qt suits moves suit).2.1,0)):=by
 refine Sk.pst_of _ ?_
 unfold yK
 simp only [Sk.pstq,Sk.isLoop,reduceCtorEq,ON,kk,zA,gL,vR,QP,uM,Qo,qh,Vf,Ww,Kn,forall_eq,maxLen]
 generalize hR:zaE suits moves=x3
 generalize hJ:Za (suits.getD suit.toNat default) suit moves x3.2=x4
 generalize hL:kE r (suits.getD suit.toNat default).forum (files.getD (suits.getD suit.toNat default).file.toNat default) x4.1=x5
 generalize hs:suits.getD suit.toNat default=s
 generalize hX:({ r:=r,forum:=s.forum,day:=x4.1,files:=files,s:=s }:jF)=X
 simp only [LN]
 refine fun _=>⟨fun h1 h2=>absurd h2 h1,fun h1=>⟨fun h2 _ h3=>absurd h3 (by omega),fun h2 h3 _=>⟨fun h4 _ _ h5=>absurd (by rw [h3]; exact h5) h4,fun h4 _ h5 _ _ _=>?_⟩⟩⟩
 have e1:(Qt suits moves suit).1=x4.1:=by rw [h5,h3]; unfold Qt; rw [hs]
 have e2:(Qt suits moves suit).2.1=x4.2:=by rw [h5,h3]; unfold Qt; rw [hs]
 have hA:awT r files s suit (Qt suits moves suit).1 (Qt suits moves suit).2.1=Yh suit (files.getD s.file.toNat default).bill.currency (kT X x4.2 x5 x5.length):=by
  rw [e1,e2]; unfold awT kB; rw [hX]; rw [hs] at hL; rw [hL]
 rw [hA]
 have hXs:X.s=s:=by rw [← hX]
 refine ⟨⟨⟨Nat.zero_le _,rfl⟩,fun i hi=>⟨fun hc=>⟨fun _=>⟨fun h=>?_,fun h=>⟨⟨⟨Nat.zero_le _,rfl⟩,fun j hj=>⟨fun hd _ _=>⟨⟨by omega,?_⟩,by omega⟩,fun hd=>?_⟩⟩,fun b hb _=>?_⟩⟩,fun b _ hb _=>⟨⟨by omega,?_⟩,by omega⟩⟩,fun hc=>?_⟩⟩,fun b hb _ _=>⟨⟨⟨by omega,fun q=>absurd q (by omega),fun q=>absurd q (by omega)⟩,fun i hi=>⟨fun hc _ _=>⟨fun hm _ _ _ _=>?_,fun hm _=>⟨⟨by omega,fun _=>?_,fun _=>?_⟩,by omega⟩⟩,fun hc=>⟨hi.2.1 (by omega),hi.2.2 (by omega)⟩⟩⟩,fun _ hn _ _ _=>?_⟩⟩
 ·unfold zaK; rw [hXs,if_neg (fun q=>h.elim (fun a=>a.elim (fun a=>a q.1) (fun a=>a q.2.1)) (fun a=>a q.2.2))]
 ·rw [yE (by omega),List.foldl_append,← hj.2]; rfl
 ·rw [hj.2,List.take_of_length_le (by omega)]; rfl
 ·unfold zaK; rw [hXs,if_pos ⟨h.1.1,h.1.2,h.2⟩,hb]
 ·simp only [kT]; rw [hi.2]; exact hb.symm
 ·have e:i.1=x5.length:=by omega
  have:=hi.2
  rwa [e] at this
 ·rw [hb]
  unfold Yh
  have hk:i=0∨i=1:=by omega
  rcases hk with rfl | rfl
  ·have hm':km b.2 1 false=true:=hm
   rw [if_pos hm']; rfl
  ·have hm':km b.2 2 false=true:=hm
   rw [if_neg (by rw [hi.2.1 (by omega)]; simp),if_pos hm']; rfl
 ·by_cases h0:0 < i
  ·exact hi.2.1 h0
  ·have:i=0:=by omega
   subst this; exact hm
 ·have hk:i=1∨1 < i:=by omega
  rcases hk with rfl | h0
  ·exact hm
  ·exact hi.2.2 h0
 ·rw [hb]; unfold Yh; rw [if_neg (by rw [hn.1]; simp),if_neg (by rw [hn.2]; simp)]
theorem Xe (r:jg) (files:List jh) (suits:List jM) (moves:List Move) (suit:Int):(fun (x:JG × Int)=>yo r files suits moves=0→(0≤suit∧suit < suits.length)→(zH suits moves (KH suits)).2.2.1.getD suit.toNat default=3→x=(awT r files (suits.getD suit.toNat default) suit (Qt suits moves suit).1 (Qt suits moves suit).2.1,0)) (uV r files suits moves suit):=have h:=Sk.pval _ (zfR r files suits moves suit); h
theorem zhB (r:jg) (files:List jh) (suits:List jM) (moves:List Move) (suit:Int) (hr:r.Small) (hb:r.ByOK) (hfi:r.FirmOK) (hra:r.RateOK) (hl:r.firms.length≤200) (hf:files.length≤50→∀ q,q < files.length→(files.getD q default).Small):(yK r files suits moves suit).obs (fun _=>True):=by
 refine Sk.obs_of _ ?_
 unfold yK
 simp only [Sk.obq,Sk.isLoop,reduceCtorEq,ON,kk,zA,gL,vR,QP,uM,Qo,qh,Vf,Ww,Kn,forall_eq,maxLen]
 generalize hR:zaE suits moves=x3
 generalize hJ:Za (suits.getD suit.toNat default) suit moves x3.2=x4
 generalize hL:kE r (suits.getD suit.toNat default).forum (files.getD (suits.getD suit.toNat default).file.toNat default) x4.1=x5
 generalize hs:suits.getD suit.toNat default=s
 generalize hX:({ r:=r,forum:=s.forum,day:=x4.1,files:=files,s:=s }:jF)=X
 simp only [LN]
 refine ⟨hr,fun hck h1 h2=>?_⟩
 obtain ⟨⟨c1,c2,c3⟩,c4,c5⟩:=hck.1 h1
 refine ⟨⟨by omega,by omega⟩,fun h3=>?_⟩
 have hx31:x3.1.length=suits.length:=by rw [h3]; exact zsm suits moves
 have hx32:x3.2.length=moves.length:=by rw [h3]; exact zfr _ _ _
 have hXs:X.s=s:=by rw [← hX]
 have hS:Qe r files.length s:=by rw [← hs]; exact c5 suit.toNat (by omega)
 have hfile:0≤s.file∧s.file < (files.length:Int):=by unfold Qe at hS; omega
 have hF:∀ q,q < files.length→(files.getD q default).Small∧jX r (files.getD q default):=fun q hq=>⟨hf c1 q hq,(QM r _ hl (c4 q hq)).1⟩
 have hXf:X.Fine:=by rw [← hX]; exact ⟨⟨hr,hb,hfi,hra⟩,hF,hfile⟩
 have hs7:=hF s.file.toNat (by omega)
 refine ⟨⟨by omega,by omega⟩,fun _ h4=>⟨⟨by omega,by omega⟩,fun _=>⟨⟨hx32,by omega⟩,fun h5 _ _=>?_⟩⟩⟩
 have hD:∀ k,k < x4.2.length→0≤x4.2.getD k default∧x4.2.getD k default < 7:=by
  intro k hk
  have h:=(zrl suits moves suit (s.kind == 1) moves.length (Nat.le_refl _)).1
  have e:x4.2=(UK suit (s.kind == 1) moves (zH suits moves (KH suits)).1 moves.length).2.1:=by rw [h5,h3]
  rw [← e] at h
  refine h _ ?_
  rw [List.getD_eq_getElem?_getD,List.getElem?_eq_getElem hk]
  exact List.getElem_mem _
 have wi:∀ n m:Nat,n < m→m≤9223372036854775807→w64 ((n:Int)+1)=((n+1:Nat):Int):=fun n m h h0=>by rw [jj (by omega) (by omega)]; omega
 refine ⟨⟨⟨by omega,by omega⟩,hs7.2,hs7.1,hb,hr,hfi,hra⟩,fun _=>⟨⟨⟨Nat.zero_le _,rfl⟩,fun i hi hm=>⟨fun hc=>⟨⟨⟨by omega,by omega⟩,fun _=>⟨fun h=>?_,fun h=>⟨⟨⟨Nat.zero_le _,rfl⟩,fun j hj hm2=>⟨fun hd=>⟨⟨by omega,by omega⟩,fun _=>⟨⟨⟨(hD _ (by omega)).1,(hD _ (by omega)).2,hXf⟩,hXf⟩,fun _=>⟨wi _ _ (by omega) hm2,⟨by omega,?_⟩,by omega⟩⟩⟩,fun hd=>?_⟩⟩,fun b hb _=>?_⟩⟩⟩,fun b _ hb _=>⟨wi _ _ (by omega) hm,⟨by omega,?_⟩,by omega⟩⟩,fun hc=>?_⟩⟩,fun b hb=>⟨⟨by omega,by omega⟩,fun _ _=>⟨⟨by omega,fun q=>absurd q (by omega),fun q=>absurd q (by omega)⟩,fun i hi _=>⟨fun hc=>⟨⟨⟨by omega,by omega⟩,by omega⟩,fun _ _ hm _=>⟨wi _ 2 (by omega) (by omega),⟨by omega,fun _=>?_,fun _=>?_⟩,by omega⟩⟩,fun hc=>⟨hi.2.1 (by omega),hi.2.2 (by omega)⟩⟩⟩⟩⟩⟩
 ·unfold zaK; rw [hXs,if_neg (fun q=>h.elim (fun a=>a.elim (fun a=>a q.1) (fun a=>a q.2.1)) (fun a=>a q.2.2))]
 ·rw [yE (by omega),List.foldl_append,← hj.2]; rfl
 ·rw [hj.2,List.take_of_length_le (by omega)]; rfl
 ·unfold zaK; rw [hXs,if_pos ⟨h.1.1,h.1.2,h.2⟩,hb]
 ·simp only [kT]; rw [hi.2]; exact hb.symm
 ·have e:i.1=x5.length:=by omega
  have:=hi.2
  rwa [e] at this
 ·by_cases h0:0 < i
  ·exact hi.2.1 h0
  ·have:i=0:=by omega
   subst this; exact hm
 ·have hk:i=1∨1 < i:=by omega
  rcases hk with rfl | h0
  ·exact hm
  ·exact hi.2.2 h0
def vQ (r:jg) (files:List jh) (suits:List jM) (moves:List Move) (suit:Int):Ctr (JG × Int):=kk tok mixed Tryz.func12 [av r.cells,lv jh.cells files,lv jM.cells suits,lv Move.cells moves,iv suit] (fun x=>.tup [av x.1.cells,iv x.2]) true (yK r files suits moves suit) (uV r files suits moves suit) (fun (h:(r.Small)∧(r.ByOK)∧(r.FirmOK)∧(r.RateOK)∧(r.firms.length≤200)∧(files.length≤50→∀ q,q < files.length→(files.getD q default).Small))=>zhB r files suits moves suit h.1 h.2.1 h.2.2.1 h.2.2.2.1 h.2.2.2.2.1 h.2.2.2.2.2) (fun (x:JG × Int)=>yo r files suits moves=0→(0≤suit∧suit < suits.length)→(zH suits moves (KH suits)).2.2.1.getD suit.toNat default=3→x=(awT r files (suits.getD suit.toNat default) suit (Qt suits moves suit).1 (Qt suits moves suit).2.1,0)) (Xe r files suits moves suit)
def VF:Sk (Bool) :=
 .r 1 (.o [.nrm (qk jM.E [({ forum:=0,plaintiff:=0,defendant:=0,file:=0,sign:=0,day:=5,kind:=0 }:jM),({ forum:=0,plaintiff:=0,defendant:=0,file:=0,sign:=0,day:=9,kind:=0 }:jM)])]) fun _ =>
 .fz 12 <|
 .r 2 (.andl (.andl (.o [.pur 20]) (.o [.nrm (qk Move.E [({ kind:=0,suit:=0,day:=5,no:=0 }:Move),({ kind:=2,suit:=0,day:=6,no:=0 }:Move),({ kind:=4,suit:=0,day:=7,no:=0 }:Move),({ kind:=3,suit:=0,day:=8,no:=0 }:Move),({ kind:=4,suit:=0,day:=9,no:=0 }:Move)])])) ((QP [({ forum:=0,plaintiff:=0,defendant:=0,file:=0,sign:=0,day:=5,kind:=0 }:jM),({ forum:=0,plaintiff:=0,defendant:=0,file:=0,sign:=0,day:=9,kind:=0 }:jM)] [({ kind:=0,suit:=0,day:=5,no:=0 }:Move),({ kind:=2,suit:=0,day:=6,no:=0 }:Move),({ kind:=4,suit:=0,day:=7,no:=0 }:Move),({ kind:=3,suit:=0,day:=8,no:=0 }:Move),({ kind:=4,suit:=0,day:=9,no:=0 }:Move)]).c)) fun x1 =>
 .r 3 (.andl (.andl (.o [.pur 31]) (.o [.nrm (qk Move.E [({ kind:=0,suit:=1,day:=8,no:=0 }:Move),({ kind:=0,suit:=1,day:=9,no:=0 }:Move),({ kind:=0,suit:=0,day:=6,no:=0 }:Move),({ kind:=6,suit:=1,day:=10,no:=0 }:Move),({ kind:=5,suit:=1,day:=11,no:=0 }:Move)])])) ((QP [({ forum:=0,plaintiff:=0,defendant:=0,file:=0,sign:=0,day:=5,kind:=0 }:jM),({ forum:=0,plaintiff:=0,defendant:=0,file:=0,sign:=0,day:=9,kind:=0 }:jM)] [({ kind:=0,suit:=1,day:=8,no:=0 }:Move),({ kind:=0,suit:=1,day:=9,no:=0 }:Move),({ kind:=0,suit:=0,day:=6,no:=0 }:Move),({ kind:=6,suit:=1,day:=10,no:=0 }:Move),({ kind:=5,suit:=1,day:=11,no:=0 }:Move)]).c)) fun x2 =>
 .r 4 (.andl (.o [.nrm (qk kA [3,0])]) (.dep ((Ul x1.1 [3,0]).c) fun x3=>.andl (.wh x3 true (.o [.nrm (qk kA [0,0,7,0,0])])) (.wh x3 true ((QU x1.2 [0,0,7,0,0]).c)))) fun p10 =>
 .r 5 (.andl (.o [.nrm (qk kA [0,5])]) (.dep ((Ul x2.1 [0,5]).c) fun x5=>.andl (.wh x5 true (.o [.nrm (qk kA [13,0,13,0,7])])) (.wh x5 true ((QU x2.2 [13,0,13,0,7]).c)))) fun p9 =>
 .r 6 (((((((((((((vQ ({ currencies:=[],cities:=[],groups:=[],firms:=[],orders:=[],usances:=[],rates:=[],halts:=[] }:jg) [] [] [] 0).nilc 0 0 _ rfl ⟨_,rfl⟩).nilc 0 1 _ rfl ⟨_,rfl⟩).nilc 0 2 _ rfl ⟨_,rfl⟩).nilc 0 3 _ rfl ⟨_,rfl⟩).nilc 0 4 _ rfl ⟨_,rfl⟩).nilc 0 5 _ rfl ⟨_,rfl⟩).nilc 0 6 _ rfl ⟨_,rfl⟩).nilc 0 7 _ rfl ⟨_,rfl⟩).nil 1 ⟨_,rfl⟩).nil 2 ⟨_,rfl⟩).nil 3 ⟨_,rfl⟩).c) fun x7 =>
 .r 7 (.wh (((p10.1&&p10.2)&&(p9.1&&p9.2))&&(x7.2 == 4)) true ((((((((((((vR ({ currencies:=[],cities:=[],groups:=[],firms:=[],orders:=[],usances:=[],rates:=[],halts:=[] }:jg) [] [({ forum:=0,plaintiff:=0,defendant:=0,file:=0,sign:=0,day:=5,kind:=0 }:jM),({ forum:=0,plaintiff:=0,defendant:=0,file:=0,sign:=0,day:=9,kind:=0 }:jM)] []).nilc 0 0 _ rfl ⟨_,rfl⟩).nilc 0 1 _ rfl ⟨_,rfl⟩).nilc 0 2 _ rfl ⟨_,rfl⟩).nilc 0 3 _ rfl ⟨_,rfl⟩).nilc 0 4 _ rfl ⟨_,rfl⟩).nilc 0 5 _ rfl ⟨_,rfl⟩).nilc 0 6 _ rfl ⟨_,rfl⟩).nilc 0 7 _ rfl ⟨_,rfl⟩).nil 1 ⟨_,rfl⟩).nil 3 ⟨_,rfl⟩).c)) fun x8 =>
 .fin ((((p10.1&&p10.2)&&(p9.1&&p9.2))&&(x7.2 == 4))&&(x8 == 1))
def zcK:Bool:=(VF).val
theorem zfO:(fun (x:Bool)=>x=true) (zcK):=(show zcK=true by kernel_rfl)
theorem zkg:(VF).obs (fun _=>True):=by
 unfold VF
 try simp only [QU,Ul,vQ,vR,QP,jh.Small,jg.Small,jg.ByOK,jg.FirmOK,jg.RateOK]
 exact okD
def Hk:Ctr (Bool):=kk tok mixed Tryz.func7 [] (fun x=>bv x) true (VF) (zcK) (fun (_:True)=>zkg) (fun (x:Bool)=>x=true) (zfO)
def QY (r:jg):Sk (Bool) :=
 .bind true (fun _=>True)
 (.loop (default:Sum (Bool) (Unit)) (fun i2=>i2≤r.cities.length) (fun i2=>r.cities.length - i2) (0:Nat)
 (fun (i2:Nat)=>⟨[(3,iv (i2:Int))],[]⟩) fun i2 =>
 .bnd 1 1 r.cities.length <|
 .br ((decide ((i2:Int) < ((r.cities.length:Nat):Int)))&&(decide ((i2:Int) < 50)))
 (.r 4 (.andl (.p (ixP (i2:Int) r.cities.length)) (.andl (.wh (decide (((((r.cities.getD i2 default).feasts).length:Nat):Int) > 70)) false (.p (ixP (i2:Int) r.cities.length))) (.wh ((decide (((((r.cities.getD i2 default).feasts).length:Nat):Int) > 70))||(decide (((((r.cities.getD i2 default).shut).length:Nat):Int) > 210))) false (.p (ixP (i2:Int) r.cities.length))))) fun _ =>
 .br (((decide (((((r.cities.getD i2 default).feasts).length:Nat):Int) > 70))||(decide (((((r.cities.getD i2 default).shut).length:Nat):Int) > 210)))||(decide (((((r.cities.getD i2 default).rest).length:Nat):Int) > 8)))
 (.fin (.inl (.inl false)))
 (.r 3 .z fun _ =>
 .wi 3 (w64 ((i2:Int)+1)) ((i2+1:Nat):Int) <|
 .fin (.inr (i2+1))))
 (.fin (.inl (.inr ()))))
 (fun (_:Unit)=>⟨[],[]⟩) fun _ =>
 .bind true (fun b3=>∀ k,k < r.orders.length→k < 50→(r.orders.getD k default).choices.length≤40∧(r.orders.getD k default).rules.length≤40)
 (.loop (default:Sum (Bool) (Unit)) (fun i4=>(∀ k,k < i4→(r.orders.getD k default).choices.length≤40∧(r.orders.getD k default).rules.length≤40)∧i4≤r.orders.length) (fun i4=>r.orders.length - i4) (0:Nat)
 (fun (i4:Nat)=>⟨[(4,iv (i4:Int))],[]⟩) fun i4 =>
 .bnd 1 4 r.orders.length <|
 .br ((decide ((i4:Int) < ((r.orders.length:Nat):Int)))&&(decide ((i4:Int) < 50)))
 (.r 9 (.andl (.p (ixP (i4:Int) r.orders.length)) (.wh (decide (((((r.orders.getD i4 default).choices).length:Nat):Int) > 40)) false (.p (ixP (i4:Int) r.orders.length)))) fun _ =>
 .br ((decide (((((r.orders.getD i4 default).choices).length:Nat):Int) > 40))||(decide (((((r.orders.getD i4 default).rules).length:Nat):Int) > 40)))
 (.fin (.inl (.inl false)))
 (.r 8 .z fun _ =>
 .wi 4 (w64 ((i4:Int)+1)) ((i4+1:Nat):Int) <|
 .fin (.inr (i4+1))))
 (.fin (.inl (.inr ()))))
 (fun (_:Unit)=>⟨[],[]⟩) fun _ =>
 .fin ((((((((decide (((r.currencies.length:Nat):Int) < 50))&&(decide (((r.cities.length:Nat):Int) < 50)))&&(decide (((r.groups.length:Nat):Int) < 50)))&&(decide (((r.firms.length:Nat):Int) < 210)))&&(decide (((r.orders.length:Nat):Int) < 50)))&&(decide (((r.usances.length:Nat):Int) < 110)))&&(decide (((r.rates.length:Nat):Int) < 110)))&&(decide (((r.halts.length:Nat):Int) < 50)))
def zoP (r:jg):Bool:=(QY r).val
theorem zmy (r:jg):(QY r).pst (fun (x:Bool)=>x=true→r.Small):=by
 unfold QY
 try simp only [jh.Small,jg.Small]
 exact okP
theorem zkB (r:jg):(fun (x:Bool)=>x=true→r.Small) (zoP r):=have h:=Sk.pval _ (zmy r); h
theorem zoa (r:jg):(QY r).obs (fun _=>True):=by
 unfold QY
 try simp only [jh.Small,jg.Small]
 exact okD
def zcn (r:jg):Ctr (Bool):=kk tok mixed Tryz.func55 [av r.cells] (fun x=>bv x) true (QY r) (zoP r) (fun (_:True)=>zoa r) (fun (x:Bool)=>x=true→r.Small) (zkB r)
def QD (f:jh):Sk (Bool) :=
 .fin ((((decide (((f.signs.length:Nat):Int)≤50))&&(decide (((f.alters.length:Nat):Int)≤10)))&&(decide (((f.acts.length:Nat):Int)≤110)))&&(decide (((f.facts.length:Nat):Int)≤220)))
def zkR (f:jh):Bool:=(QD f).val
theorem zfQ (f:jh):zkR f=((((decide (((f.signs.length:Nat):Int)≤50))&&(decide (((f.alters.length:Nat):Int)≤10)))&&(decide (((f.acts.length:Nat):Int)≤110)))&&(decide (((f.facts.length:Nat):Int)≤220))):=rfl
theorem zlS (f:jh):(QD f).pst (fun (x:Bool)=>x=true→f.Small):=by
 unfold QD
 try simp only [jh.Small,jg.Small]
 exact okP
theorem zkC (f:jh):(fun (x:Bool)=>x=true→f.Small) (zkR f):=have h:=Sk.pval _ (zlS f); h
theorem zod (f:jh):(QD f).obs (fun _=>True):=by
 unfold QD
 try simp only [jh.Small,jg.Small]
 exact okE
def zb5 (f:jh):Ctr (Bool):=kk tok mixed Tryz.func56 [av f.cells] (fun x=>bv x) true (QD f) (zkR f) (fun (_:True)=>zod f) (fun (x:Bool)=>x=true→f.Small) (zkC f)
def zdc (rv:jm→Int→Int→Int) (rp:jm→Int→Int→Prop) (rf:∀ (t:jm) (n:Int) (levels:Int),rp t n levels→FnA Tryz.prog 127 [av t.cells,iv n,iv levels] [] (iv (rv t n levels)) []) (t:jm) (n:Int) (levels:Int):Ctr (Int):=⟨Tryz.prog,127,[av t.cells,iv n,iv levels],fun x=>iv x,true,rv t n levels,rp t n levels,rf t n levels,fun _=>True,trivial⟩
def KF (rv:jm→Int→Int→Int) (rp:jm→Int→Int→Prop) (rf:∀ (t:jm) (n:Int) (levels:Int),rp t n levels→FnA Tryz.prog 127 [av t.cells,iv n,iv levels] [] (iv (rv t n levels)) []) (t:jm) (n:Int) (levels:Int):Sk (Int) :=
 .br (decide (levels < 1))
 (.fin (-1))
 (.bind true (fun _=>True)
 (.loop (default:Sum (Int) (Int)) (fun i2=>i2.2≤t.args.length) (fun i2=>t.args.length - i2.2) ((w64 (n - 1),0):Int × Nat)
 (fun (i2:Int × Nat)=>⟨[(1,iv i2.1),(7,iv (i2.2:Int))],[]⟩) fun i2 =>
 .bnd 3 2 t.args.length <|
 .br ((decide ((i2.2:Int) < ((t.args.length:Nat):Int)))&&(decide (i2.1≥0)))
 (.r 7 (.andl (.andl (.p (ixP (i2.2:Int) t.args.length)) (.o [.cast 26 (zq8 (jm.unroll (t.args.getD i2.2 default)))])) ((zdc rv rp rf (t.args.getD i2.2 default) i2.1 (w64 (levels - 1))).c)) fun x3 =>
 .r 6 .z fun _ =>
 .wi 7 (w64 ((i2.2:Int)+1)) ((i2.2+1:Nat):Int) <|
 .fin (.inr (x3,i2.2+1)))
 (.fin (.inl (.inr i2.1))))
 (fun (b1:Int)=>⟨[(1,iv b1)],[]⟩) fun b1 =>
 .fin b1)
def ue:Nat→jm→Int→Int→Int
 | 0,_,_,_=>default
 | fu+1,t,n,levels=>(KF (ue fu) (fun _ _ _=>False) (fun _ _ _=>fun h=>h.elim) t n levels).val
theorem zl8 (fu:Nat) (rf:∀ (t:jm) (n:Int) (levels:Int),t.depth≤fu∧True→FnA Tryz.prog 127 [av t.cells,iv n,iv levels] [] (iv (ue fu t n levels)) []) (t:jm) (n:Int) (levels:Int) (hm:t.depth≤fu+1):(KF (ue fu) (fun t n levels=>t.depth≤fu∧True) rf t n levels).obs (fun _=>True):=by
 refine Sk.obs_of _ ?_
 unfold KF
 simp only [Sk.obq,Sk.isLoop,reduceCtorEq,ON,kk,zdc,maxLen]
 all_goals (repeat' first | assumption | (apply And.intro) | (intro h))
 all_goals first | trivial | assumption | omega | (refine Nat.le_of_lt_succ (Nat.lt_of_lt_of_le (jm.depth_args t _ (by (try simp only [LN] at *); omega)) hm)) | ((try simp only [LN] at *) <;> first | omega | (refine (jj ?_ ?_).trans ?_ <;> omega) | (simp (disch:=omega) only [jj] at *; omega) | (grind) | (simp_all; done) | (simp_all; omega))
theorem zkX (fu:Nat) (rp:jm→Int→Int→Prop) (rf:∀ (t:jm) (n:Int) (levels:Int),rp t n levels→FnA Tryz.prog 127 [av t.cells,iv n,iv levels] [] (iv (ue fu t n levels)) []) (t:jm) (n:Int) (levels:Int):(KF (ue fu) rp rf t n levels).val=ue (fu+1) t n levels:=by kernel_rfl
theorem zko (fu:Nat):∀ (t:jm) (n:Int) (levels:Int),t.depth≤fu→FnA Tryz.prog 127 [av t.cells,iv n,iv levels] [] (iv (ue fu t n levels)) []:=by
 induction fu with
 | zero=>intro t n levels hm; exact absurd hm (by have:=jm.depth_pos t; omega)
 | succ fu ih =>
  intro t n levels hm
  have h:FnA Tryz.prog 127 [av t.cells,iv n,iv levels] [] (iv ((KF (ue fu) (fun t n levels=>t.depth≤fu∧True) (fun t n levels h=>ih t n levels h.1) t n levels).val)) []:=FnA.sk tok mixed (fun x=>iv x) (fun _=>[]) Tryz.func127 rfl (by kernel_rfl) 3000 (KF (ue fu) (fun t n levels=>t.depth≤fu∧True) (fun t n levels h=>ih t n levels h.1) t n levels) (by kernel_rfl) (zl8 fu _ t n levels hm)
  rw [zkX] at h
  exact h
def zmd (t:jm) (n:Int) (levels:Int):Int:=ue (t.depth) t n levels
theorem zmw (t:jm) (n:Int) (levels:Int):FnA Tryz.prog 127 [av t.cells,iv n,iv levels] [] (iv (zmd t n levels)) []:=zko _ t n levels (Nat.le_refl _)
def zfo (t:jm) (n:Int) (levels:Int):Ctr (Int):=⟨Tryz.prog,127,[av t.cells,iv n,iv levels],fun x=>iv x,true,zmd t n levels,True,fun _=>zmw t n levels,fun _=>True,trivial⟩
def WP (t:jm):Sk (Bool) :=
 .r 1 ((zfo t 100 20).c) fun x1 =>
 .fin (decide (x1≥0))
def zq1 (t:jm):Bool:=(WP t).val
theorem znv (t:jm):(WP t).obs (fun _=>True):=by
 unfold WP
 try simp only [zfo]
 exact okE
def zjp (t:jm):Ctr (Bool):=kk tok mixed Tryz.func84 [av t.cells] (fun x=>bv x) true (WP t) (zq1 t) (fun (_:True)=>znv t)
def Wz (o:qv):Sk (Bool) :=
 .br ((decide (((o.rules.length:Nat):Int) > 60))||(decide (((o.choices.length:Nat):Int) > 60)))
 (.fin false)
 (.bind true (fun _=>True)
 (.loop (default:Sum (Bool) (Unit)) (fun i2=>i2≤o.rules.length) (fun i2=>o.rules.length - i2) (0:Nat)
 (fun (i2:Nat)=>⟨[(3,iv (i2:Int))],[]⟩) fun i2 =>
 .bnd 1 3 o.rules.length <|
 .br (decide ((i2:Int) < ((o.rules.length:Nat):Int)))
 (.r 6 (.andl (.p (ixP (i2:Int) o.rules.length)) ((zjp ((o.rules.getD i2 default).term)).c)) fun x3 =>
 .br (!x3)
 (.fin (.inl (.inl false)))
 (.r 5 .z fun _ =>
 .wi 3 (w64 ((i2:Int)+1)) ((i2+1:Nat):Int) <|
 .fin (.inr (i2+1))))
 (.fin (.inl (.inr ()))))
 (fun (_:Unit)=>⟨[],[]⟩) fun _ =>
 .fin true)
def zrs (o:qv):Bool:=(Wz o).val
theorem znY (o:qv):(Wz o).obs (fun _=>True):=by
 unfold Wz
 try simp only [zjp]
 exact okD
def zcN (o:qv):Ctr (Bool):=kk tok mixed Tryz.func57 [av o.cells] (fun x=>bv x) true (Wz o) (zrs o) (fun (_:True)=>znY o)
def QH (r:jg) (f:jh):Sk (Bool) :=
 .r 1 (.dep ((zcn r).c) fun x1=>.wh (!x1) false ((zb5 f).c)) fun p6 =>
 .br ((!p6.1)||(!p6.2))
 (.fin false)
 (.bind true (fun _=>True)
 (.loop (default:Sum (Bool) (Unit)) (fun i4=>i4≤r.orders.length) (fun i4=>r.orders.length - i4) (0:Nat)
 (fun (i4:Nat)=>⟨[(5,iv (i4:Int))],[]⟩) fun i4 =>
 .bnd 2 4 r.orders.length <|
 .br (decide ((i4:Int) < ((r.orders.length:Nat):Int)))
 (.r 6 (.andl (.p (ixP (i4:Int) r.orders.length)) ((zcN (r.orders.getD i4 default)).c)) fun x5 =>
 .br (!x5)
 (.fin (.inl (.inl false)))
 (.r 5 .z fun _ =>
 .wi 5 (w64 ((i4:Int)+1)) ((i4+1:Nat):Int) <|
 .fin (.inr (i4+1))))
 (.fin (.inl (.inr ()))))
 (fun (_:Unit)=>⟨[],[]⟩) fun _ =>
 .fin true)
def zou (r:jg) (f:jh):Bool:=(QH r f).val
theorem zmx (r:jg) (f:jh):(QH r f).pst (fun (x:Bool)=>x=true→r.Small∧f.Small):=by
 unfold QH
 try simp only [zcn,zb5,zcN,zfQ,jh.Small,jg.Small]
 exact okQ
theorem zkI (r:jg) (f:jh):(fun (x:Bool)=>x=true→r.Small∧f.Small) (zou r f):=have h:=Sk.pval _ (zmx r f); h
theorem znG (r:jg) (f:jh):(QH r f).obs (fun _=>True):=by
 unfold QH
 try simp only [zcn,zb5,zcN,zfQ,jh.Small,jg.Small]
 exact okG
def Fq (r:jg) (f:jh):Ctr (Bool):=kk tok mixed Tryz.func34 [av r.cells,av f.cells] (fun x=>bv x) true (QH r f) (zou r f) (fun (_:True)=>znG r f) (fun (x:Bool)=>x=true→r.Small∧f.Small) (zkI r f)
def QB (r:jg) (files:List jh) (suits:List jM) (moves:List Move):Sk (Bool) :=
 .bind true (fun b1=>files.length≤3→∀ q,q < files.length→(files.getD q default).Small)
 (.loop (default:Sum (Bool) (Unit)) (fun i2=>i2≤files.length∧∀ q,q < i2→(files.getD q default).Small) (fun i2=>files.length - i2) (0:Nat)
 (fun (i2:Nat)=>⟨[(9,iv (i2:Int))],[]⟩) fun i2 =>
 .bnd 1 0 files.length <|
 .br ((decide ((i2:Int) < ((files.length:Nat):Int)))&&(decide ((i2:Int) < 3)))
 (.r 4 (.andl (.p (ixP (i2:Int) files.length)) (.depr ((Fq r (files.getD i2 default)).c) fun x3=>.andl (.wh (!x3) false (.p (ixP (i2:Int) files.length))) (.wh ((!x3)||(decide (((((files.getD i2 default).signs).length:Nat):Int) > 20))) false (.p (ixP (i2:Int) files.length))))) fun x3 =>
 .br (((!x3)||(decide (((((files.getD i2 default).signs).length:Nat):Int) > 20)))||(decide (((((files.getD i2 default).acts).length:Nat):Int) > 30)))
 (.fin (.inl (.inl false)))
 (.r 3 .z fun _ =>
 .wi 9 (w64 ((i2:Int)+1)) ((i2+1:Nat):Int) <|
 .fin (.inr (i2+1))))
 (.fin (.inl (.inr ()))))
 (fun (_:Unit)=>⟨[],[]⟩) fun _ =>
 .r 6 ((((((Fq r ({ bill:=({ drawer:=0,drawee:=0,payee:=0,sum:=0,currency:=0,tenor:=({ kind:=0,n:=0,unit:=0 }:yw),day:=0,city:=0,pay:=0,need:=0,rate:=0,flags:=0,parts:=0 }:ua),signs:=[],alters:=[],acts:=[],facts:=[] }:jh)).nilc 1 15 _ rfl ⟨_,rfl⟩).nilc 1 16 _ rfl ⟨_,rfl⟩).nilc 1 17 _ rfl ⟨_,rfl⟩).nilc 1 18 _ rfl ⟨_,rfl⟩).c) fun x4 =>
 .fin (((x4&&((decide (((files.length:Nat):Int)≤3))||((decide (((files.length:Nat):Int) > 50))&&(decide (((files.length:Nat):Int)≤60)))))&&(decide (((suits.length:Nat):Int)≤40)))&&(decide (((moves.length:Nat):Int)≤110)))
def zoL (r:jg) (files:List jh) (suits:List jM) (moves:List Move):Bool:=(QB r files suits moves).val
theorem zmr (r:jg) (files:List jh) (suits:List jM) (moves:List Move):(QB r files suits moves).pst (fun (x:Bool)=>x=true→r.Small∧(files.length≤50→∀ q,q < files.length→(files.getD q default).Small)):=by
 refine Sk.pst_of _ ?_
 unfold QB
 simp only [Sk.pstq,Sk.isLoop,reduceCtorEq,ON,kk,Fq,maxLen]
 all_goals simp only [LN] at *
 refine ⟨⟨⟨Nat.zero_le _,fun q hq=>absurd hq (by omega)⟩,fun i hi=>⟨fun hc x _ hx hg _=>⟨⟨by omega,fun q hq=>?_⟩,by omega⟩,fun hc h3 q hq=>hi.2 q (by omega)⟩⟩,fun _ hb x _ hx hc=>⟨(hx hc.1.1.1).1,fun h50 q hq=>hb (by omega) q hq⟩⟩
 rcases Nat.lt_succ_iff_lt_or_eq.1 hq with h1 | rfl
 ·exact hi.2 q h1
 ·exact (hx hg.1.1).2
theorem zj4 (r:jg) (files:List jh) (suits:List jM) (moves:List Move):(fun (x:Bool)=>x=true→r.Small∧(files.length≤50→∀ q,q < files.length→(files.getD q default).Small)) (zoL r files suits moves):=have h:=Sk.pval _ (zmr r files suits moves); h
theorem znF (r:jg) (files:List jh) (suits:List jM) (moves:List Move):(QB r files suits moves).obs (fun _=>True):=by
 refine Sk.obs_of _ ?_
 unfold QB
 simp only [Sk.obq,Sk.isLoop,reduceCtorEq,ON,kk,Fq,maxLen]
 all_goals simp only [LN] at *
 refine ⟨⟨Nat.zero_le _,fun q hq=>absurd hq (by omega)⟩,fun i hi _=>⟨fun hc=>⟨⟨by omega,fun x _ _=>⟨fun _=>by omega,fun _=>by omega⟩⟩,fun x _ hx hg _=>⟨by rw [jj (by omega) (by omega)]; omega,⟨by omega,fun q hq=>?_⟩,by omega⟩⟩,fun hc h3 q hq=>hi.2 q (by omega)⟩⟩
 rcases Nat.lt_succ_iff_lt_or_eq.1 hq with h1 | rfl
 ·exact hi.2 q h1
 ·exact (hx hg.1.1).2
def zb2 (r:jg) (files:List jh) (suits:List jM) (moves:List Move):Ctr (Bool):=kk tok mixed Tryz.func21 [av r.cells,lv jh.cells files,lv jM.cells suits,lv Move.cells moves] (fun x=>bv x) true (QB r files suits moves) (zoL r files suits moves) (fun (_:True)=>znF r files suits moves) (fun (x:Bool)=>x=true→r.Small∧(files.length≤50→∀ q,q < files.length→(files.getD q default).Small)) (zj4 r files suits moves)
def Zb (c_:Int):Sk (Bool) :=
 .fin (((decide ((97:Int)≤c_))&&(decide (c_≤122)))||((decide ((65:Int)≤c_))&&(decide (c_≤90))))
def zfA (c_:Int):Bool:=(Zb c_).val
theorem ziC (c_:Int):zfA c_=(((decide ((97:Int)≤c_))&&(decide (c_≤122)))||((decide ((65:Int)≤c_))&&(decide (c_≤90)))):=rfl
theorem zhL (c_:Int):(Zb c_).obs (fun _=>True):=by
 unfold Zb
 exact okE
def zaJ (c_:Int):Ctr (Bool):=kk tok mixed Tryz.func128 [.d (.v (.int .u8 c_))] (fun x=>bv x) true (Zb c_) (zfA c_) (fun (_:True)=>zhL c_)
def Ye (s:ByteArray):Sk (Bool) :=
 .br ((decide (((s.size:Nat):Int) < 1))||(decide (((s.size:Nat):Int) > 20)))
 (.fin false)
 (.bind true (fun _=>True)
 (.loop (default:Sum (Bool) (Unit)) (fun i2=>i2≤s.size) (fun i2=>s.size - i2) (0:Nat)
 (fun (i2:Nat)=>⟨[(3,iv (i2:Int))],[]⟩) fun i2 =>
 .br (decide ((i2:Int) < ((s.size:Nat):Int)))
 (.r 6 (.andl (.p (0≤(i2:Int)∧(i2:Int) < ((s.size:Nat):Int))) (.andl (.wh (((s.data.toList.getD i2 0).toNat:Int) == 95) false (.p (0≤(i2:Int)∧(i2:Int) < ((s.size:Nat):Int)))) (.wh (((s.data.toList.getD i2 0).toNat:Int) == 95) false (.wh (decide ((48:Int)≤((s.data.toList.getD i2 0).toNat:Int))) true (.p (0≤(i2:Int)∧(i2:Int) < ((s.size:Nat):Int))))))) fun _ =>
 .r 7 (.andl (.p (0≤(i2:Int)∧(i2:Int) < ((s.size:Nat):Int))) ((zaJ ((s.data.toList.getD i2 0).toNat:Int)).c)) fun x3 =>
 .br ((!x3)&&(((i2:Int) == 0)||(!((((s.data.toList.getD i2 0).toNat:Int) == 95)||((decide ((48:Int)≤((s.data.toList.getD i2 0).toNat:Int)))&&(decide (((s.data.toList.getD i2 0).toNat:Int)≤57)))))))
 (.fin (.inl (.inl false)))
 (.r 5 .z fun _ =>
 .wi 3 (w64 ((i2:Int)+1)) ((i2+1:Nat):Int) <|
 .fin (.inr (i2+1))))
 (.fin (.inl (.inr ()))))
 (fun (_:Unit)=>⟨[],[]⟩) fun _ =>
 .fin true)
def zqT (s:ByteArray):Bool:=(Ye s).val
theorem zmj (s:ByteArray):(Ye s).obs (fun _=>True):=by
 unfold Ye
 try simp only [zaJ,ziC]
 exact okG
def zht (s:ByteArray):Ctr (Bool):=kk tok mixed Tryz.func85 [sv s] (fun x=>bv x) true (Ye s) (zqT s) (fun (_:True)=>zmj s)
def Zi (l:List ByteArray) (n:Int) (s:ByteArray):Sk (Bool) :=
 .bind true (fun _=>True)
 (.loop (default:Sum (Bool) (Unit)) (fun i2=>i2≤l.length) (fun i2=>l.length - i2) (0:Nat)
 (fun (i2:Nat)=>⟨[(7,iv (i2:Int))],[]⟩) fun i2 =>
 .bnd 0 0 l.length <|
 .br ((decide ((i2:Int) < n))&&(decide ((i2:Int) < ((l.length:Nat):Int))))
 (.r 4 (.p (ixP (i2:Int) l.length)) fun _ =>
 .br ((l.getD i2 default).toList == s.toList)
 (.fin (.inl (.inl true)))
 (.r 3 .z fun _ =>
 .wi 7 (w64 ((i2:Int)+1)) ((i2+1:Nat):Int) <|
 .fin (.inr (i2+1))))
 (.fin (.inl (.inr ()))))
 (fun (_:Unit)=>⟨[],[]⟩) fun _ =>
 .fin false
def zn1 (l:List ByteArray) (n:Int) (s:ByteArray):Bool:=(Zi l n s).val
theorem zh3 (l:List ByteArray) (n:Int) (s:ByteArray):(Zi l n s).obs (fun _=>True):=by
 unfold Zi
 exact okD
def zbi (l:List ByteArray) (n:Int) (s:ByteArray):Ctr (Bool):=kk tok mixed Tryz.func86 [lv vU l,iv n,sv s] (fun x=>bv x) true (Zi l n s) (zn1 l n s) (fun (_:True)=>zh3 l n s)
def Vy (l:List ByteArray) (i:Int):Sk (Int) :=
 .r 1 (.andl (.p (ixP i l.length)) ((zht (l.getD i.toNat default)).c)) fun x1 =>
 .br (!x1)
 (.fin 2)
 (.r 3 (.andl (.p (ixP i l.length)) ((zbi l i (l.getD i.toNat default)).c)) fun x2 =>
 .br x2
 (.fin 5)
 (.fin 0))
def zpl (l:List ByteArray) (i:Int):Int:=(Vy l i).val
theorem zk2 (l:List ByteArray) (i:Int) (hi:0≤i∧i < (l.length:Int)):(Vy l i).obs (fun _=>True):=by
 unfold Vy
 try simp only [zbi,zht]
 exact okD
def zN (l:List ByteArray) (i:Int):Ctr (Int):=kk tok mixed Tryz.func58 [lv vU l,iv i] (fun x=>iv x) true (Vy l i) (zpl l i) (fun (h:(0≤i∧i < (l.length:Int)))=>zk2 l i h)
def Zq (n:Int) (low:Int) (high:Int):Sk (Bool) :=
 .fin ((decide (low≤n))&&(decide (n≤high)))
def zf4 (n:Int) (low:Int) (high:Int):Bool:=(Zq n low high).val
theorem qB (n:Int) (low:Int) (high:Int):zf4 n low high=((decide (low≤n))&&(decide (n≤high))):=rfl
theorem zh6 (n:Int) (low:Int) (high:Int):(Zq n low high).obs (fun _=>True):=by
 unfold Zq
 exact okE
def jv (n:Int) (low:Int) (high:Int):Ctr (Bool):=kk tok mixed Tryz.func60 [iv n,iv low,iv high] (fun x=>bv x) true (Zq n low high) (zf4 n low high) (fun (_:True)=>zh6 n low high)
def Zl (l:List Int) (low:Int) (high:Int):Sk (Bool) :=
 .bind true (fun _=>True)
 (.loop (default:Sum (Bool) (Unit)) (fun i2=>i2≤l.length) (fun i2=>l.length - i2) (0:Nat)
 (fun (i2:Nat)=>⟨[(7,iv (i2:Int))],[]⟩) fun i2 =>
 .bnd 0 0 l.length <|
 .br (decide ((i2:Int) < ((l.length:Nat):Int)))
 (.r 4 (.andl (.p (ixP (i2:Int) l.length)) ((jv (l.getD i2 default) low high).c)) fun x3 =>
 .br (!x3)
 (.fin (.inl (.inl false)))
 (.r 6 (.andl (.wh (decide ((i2:Int) > 0)) true (.p (ixP (w64 ((i2:Int) - 1)) l.length))) (.wh (decide ((i2:Int) > 0)) true (.p (ixP (i2:Int) l.length)))) fun _ =>
 .br ((decide ((i2:Int) > 0))&&(decide ((l.getD ((w64 ((i2:Int) - 1)).toNat) default)≥(l.getD i2 default))))
 (.fin (.inl (.inl false)))
 (.r 3 .z fun _ =>
 .wi 7 (w64 ((i2:Int)+1)) ((i2+1:Nat):Int) <|
 .fin (.inr (i2+1)))))
 (.fin (.inl (.inr ()))))
 (fun (_:Unit)=>⟨[],[]⟩) fun _ =>
 .fin true
def znN (l:List Int) (low:Int) (high:Int):Bool:=(Zl l low high).val
theorem zhU (l:List Int) (low:Int) (high:Int):(Zl l low high).obs (fun _=>True):=by
 unfold Zl
 try simp only [jv,qB]
 exact okG
def VD (l:List Int) (low:Int) (high:Int):Ctr (Bool):=kk tok mixed Tryz.func87 [lv jC l,iv low,iv high] (fun x=>bv x) true (Zl l low high) (znN l low high) (fun (_:True)=>zhU l low high)
def gP (r:jg) (c_:zk):Sk (Bool) :=
 .r 1 (.dep ((jv c_.order 0 (w64 (((r.orders.length:Nat):Int) - 1))).c) fun x1=>.wh (!x1) false ((jv c_.currency 0 (w64 (((r.currencies.length:Nat):Int) - 1))).c)) fun p12 =>
 .br ((((!p12.1)||(!p12.2))||(decide (((c_.feasts.length:Nat):Int) > 60)))||(decide (((c_.shut.length:Nat):Int) > 200)))
 (.fin false)
 (.bind true (fun _=>True)
 (.loop (default:Sum (Bool) (Unit)) (fun i4=>i4≤c_.feasts.length) (fun i4=>c_.feasts.length - i4) (0:Nat)
 (fun (i4:Nat)=>⟨[(5,iv (i4:Int))],[]⟩) fun i4 =>
 .bnd 3 4 c_.feasts.length <|
 .br (decide ((i4:Int) < ((c_.feasts.length:Nat):Int)))
 (.r 6 (.andl (.p (ixP (i4:Int) c_.feasts.length)) (.andl (.p ((100:Int)≠0)) (.dep ((jv (w64 ((c_.feasts.getD i4 default).tdiv 100)) 1 12).c) fun x5=>.andl (.wh (!x5) false (.p (ixP (i4:Int) c_.feasts.length))) (.andl (.wh (!x5) false (.p ((100:Int)≠0))) (.wh (!x5) false ((jv ((c_.feasts.getD i4 default).tmod 100) 1 31).c)))))) fun p7 =>
 .br ((!p7.1)||(!p7.2))
 (.fin (.inl (.inl false)))
 (.r 5 .z fun _ =>
 .wi 5 (w64 ((i4:Int)+1)) ((i4+1:Nat):Int) <|
 .fin (.inr (i4+1))))
 (.fin (.inl (.inr ()))))
 (fun (_:Unit)=>⟨[],[]⟩) fun _ =>
 .r 8 (.dep ((VD c_.rest 0 6).c) fun x8=>.dep (.wh x8 true ((VD c_.feasts 0 2000).c)) fun x9=>.wh (x8&&x9) true ((VD c_.shut 0 100000).c)) fun p11 =>
 .fin ((p11.1&&p11.2.1)&&p11.2.2))
def zib (r:jg) (c_:zk):Bool:=(gP r c_).val
theorem zct (r:jg) (c_:zk):(gP r c_).obs (fun _=>True):=by
 unfold gP
 try simp only [VD,jv,qB]
 exact okG
def Vh (r:jg) (c_:zk):Ctr (Bool):=kk tok mixed Tryz.func59 [av r.cells,av c_.cells] (fun x=>bv x) true (gP r c_) (zib r c_) (fun (_:True)=>zct r c_)
def yO (r:jg):Sk (Int) :=
 .br (decide (((r.currencies.length:Nat):Int) > 8))
 (.fin 6)
 (.bind true (fun _=>True)
 (.loop (default:Sum (Int) (Unit)) (fun i2=>i2≤r.currencies.length) (fun i2=>r.currencies.length - i2) (0:Nat)
 (fun (i2:Nat)=>⟨[(3,iv (i2:Int))],[]⟩) fun i2 =>
 .bnd 1 0 r.currencies.length <|
 .br (decide ((i2:Int) < ((r.currencies.length:Nat):Int)))
 (.r 6 ((zN r.currencies (i2:Int)).c) fun x3 =>
 .br (x3 != 0)
 (.fin (.inl (.inl x3)))
 (.r 5 .z fun _ =>
 .wi 3 (w64 ((i2:Int)+1)) ((i2+1:Nat):Int) <|
 .fin (.inr (i2+1))))
 (.fin (.inl (.inr ()))))
 (fun (_:Unit)=>⟨[],[]⟩) fun _ =>
 .br (decide (((r.cities.length:Nat):Int) > 40))
 (.fin 6)
 (.bind true (fun _=>True)
 (.loop (default:Sum (Int) (Unit)) (fun i5=>i5.1.length=i5.2∧i5.2≤r.cities.length) (fun i5=>r.cities.length - i5.2) (([],0):(List ByteArray) × Nat)
 (fun (i5:(List ByteArray) × Nat)=>⟨[(5,ow 100001 i5.1),(6,iv (i5.2:Int))],[(100001,jz 9 1 vU i5.1)]⟩) fun i5 =>
 .bnd 1 1 r.cities.length <|
 .br (decide ((i5.2:Int) < ((r.cities.length:Nat):Int)))
 (.r 15 (.andl (.p (ixP (i5.2:Int) r.cities.length)) (.andl (.o [.nrm (qk GC [(r.cities.getD i5.2 default).name])]) (.andl (.o [.nrm (gy GC i5.1 [(r.cities.getD i5.2 default).name])]) (.andl (.t (GC.ones [(r.cities.getD i5.2 default).name])) (.p (szP i5.1.length [(r.cities.getD i5.2 default).name].length 16)))))) fun _ =>
 .r 16 ((zN (i5.1++[(r.cities.getD i5.2 default).name]) (i5.2:Int)).c) fun x6 =>
 .br (x6 != 0)
 (.fin (.inl (.inl x6)))
 (.r 19 (.andl (.p (ixP (i5.2:Int) r.cities.length)) ((Vh r (r.cities.getD i5.2 default)).c)) fun x7 =>
 .br (!x7)
 (.fin (.inl (.inl 1)))
 (.r 14 .z fun _ =>
 .wi 6 (w64 ((i5.2:Int)+1)) ((i5.2+1:Nat):Int) <|
 .fin (.inr (i5.1++[(r.cities.getD i5.2 default).name],i5.2+1)))))
 (.fin (.inl (.inr ()))))
 (fun (_:Unit)=>⟨[],[]⟩) fun _ =>
 .fin 0))
def zgr (r:jg):Int:=(yO r).val
theorem zgK (r:jg):(yO r).pst (fun (x:Int)=>x=0→r.currencies.length≤8∧r.cities.length≤40):=by
 unfold yO
 try simp only [Vh,zN]
 exact okP
theorem zec (r:jg):(fun (x:Int)=>x=0→r.currencies.length≤8∧r.cities.length≤40) (zgr r):=have h:=Sk.pval _ (zgK r); h
theorem zin (r:jg):(yO r).obs (fun _=>True):=by
 unfold yO
 try simp only [Vh,zN]
 exact okD
def WC (r:jg):Ctr (Int):=kk tok mixed Tryz.func35 [av r.cells] (fun x=>iv x) true (yO r) (zgr r) (fun (_:True)=>zin r) (fun (x:Int)=>x=0→r.currencies.length≤8∧r.cities.length≤40) (zec r)
def gS (r:jg):Sk (Int) :=
 .br (decide (((r.groups.length:Nat):Int) > 20))
 (.fin 6)
 (.bind true (fun _=>True)
 (.loop (default:Sum (Int) (Unit)) (fun i2=>i2≤r.groups.length) (fun i2=>r.groups.length - i2) (0:Nat)
 (fun (i2:Nat)=>⟨[(3,iv (i2:Int))],[]⟩) fun i2 =>
 .bnd 1 2 r.groups.length <|
 .br (decide ((i2:Int) < ((r.groups.length:Nat):Int)))
 (.r 6 (.andl (.p (ixP (i2:Int) r.groups.length)) ((jv ((r.groups.getD i2 default).grade) 0 9).c)) fun x3 =>
 .br (!x3)
 (.fin (.inl (.inl 1)))
 (.r 5 .z fun _ =>
 .wi 3 (w64 ((i2:Int)+1)) ((i2+1:Nat):Int) <|
 .fin (.inr (i2+1))))
 (.fin (.inl (.inr ()))))
 (fun (_:Unit)=>⟨[],[]⟩) fun _ =>
 .br (decide (((r.firms.length:Nat):Int) > 200))
 (.fin 6)
 (.bind true (fun b4=>r.cities.length≤40→r.FirmOK)
 (.loop (default:Sum (Int) (Unit)) (fun i5=>i5.1.length=i5.2∧i5.2≤r.firms.length∧(r.cities.length≤40→∀ q,q < i5.2→0≤(r.firms.getD q default).city∧(r.firms.getD q default).city < (r.cities.length:Int))) (fun i5=>r.firms.length - i5.2) (([],0):(List ByteArray) × Nat)
 (fun (i5:(List ByteArray) × Nat)=>⟨[(4,ow 100001 i5.1),(5,iv (i5.2:Int))],[(100001,jz 9 1 vU i5.1)]⟩) fun i5 =>
 .bnd 1 3 r.firms.length <|
 .br (decide ((i5.2:Int) < ((r.firms.length:Nat):Int)))
 (.r 14 (.andl (.p (ixP (i5.2:Int) r.firms.length)) (.andl (.o [.nrm (qk GC [(r.firms.getD i5.2 default).name])]) (.andl (.o [.nrm (gy GC i5.1 [(r.firms.getD i5.2 default).name])]) (.andl (.t (GC.ones [(r.firms.getD i5.2 default).name])) (.p (szP i5.1.length [(r.firms.getD i5.2 default).name].length 16)))))) fun _ =>
 .r 15 ((zN (i5.1++[(r.firms.getD i5.2 default).name]) (i5.2:Int)).c) fun x6 =>
 .br (x6 != 0)
 (.fin (.inl (.inl x6)))
 (.r 18 (.andl (.p (ixP (i5.2:Int) r.firms.length)) (.dep ((jv ((r.firms.getD i5.2 default).city) 0 (w64 (((r.cities.length:Nat):Int) - 1))).c) fun x7=>.andl (.wh (!x7) false (.p (ixP (i5.2:Int) r.firms.length))) (.wh (!x7) false ((jv ((r.firms.getD i5.2 default).group) 0 (w64 (((r.groups.length:Nat):Int) - 1))).c)))) fun p9 =>
 .br ((!p9.1)||(!p9.2))
 (.fin (.inl (.inl 1)))
 (.r 13 .z fun _ =>
 .wi 5 (w64 ((i5.2:Int)+1)) ((i5.2+1:Nat):Int) <|
 .fin (.inr (i5.1++[(r.firms.getD i5.2 default).name],i5.2+1)))))
 (.fin (.inl (.inr ()))))
 (fun (_:Unit)=>⟨[],[]⟩) fun _ =>
 .fin 0))
def zjI (r:jg):Int:=(gS r).val
theorem zid (r:jg) (hP:r.cities.length≤40):(gS r).pst (fun (x:Int)=>x=0→r.groups.length≤20∧r.firms.length≤200∧r.FirmOK):=by
 refine Sk.pst_of _ ?_
 unfold gS
 simp only [Sk.pstq,Sk.isLoop,reduceCtorEq,ON,kk,jv,zN,qB,forall_eq,jg.FirmOK,maxLen]
 all_goals exact zsU
theorem zfZ (r:jg):(fun (x:Int)=>(r.cities.length≤40)→(x=0→r.groups.length≤20∧r.firms.length≤200∧r.FirmOK)) (zjI r):=fun hP=>Sk.pval _ (zid r hP)
theorem zjV (r:jg):(gS r).obs (fun _=>True):=by
 refine Sk.obs_of _ ?_
 unfold gS
 simp only [Sk.obq,Sk.isLoop,reduceCtorEq,ON,kk,jv,zN,qB,forall_eq,jg.FirmOK,maxLen]
 all_goals exact zsU
def HF (r:jg):Ctr (Int):=kk tok mixed Tryz.func36 [av r.cells] (fun x=>iv x) true (gS r) (zjI r) (fun (_:True)=>zjV r) (fun (x:Int)=>(r.cities.length≤40)→(x=0→r.groups.length≤20∧r.firms.length≤200∧r.FirmOK)) (zfZ r)
def zu (o:qv):Sk (Bool) :=
 .bind true (fun b1=>∀ j:Nat,j < o.choices.length→((j:Int)≤(o.choices.getD j default).ask∧(o.choices.getD j default).ask≤21)∧0≤(o.choices.getD j default).by_∧(o.choices.getD j default).by_ < 5)
 (.loop (default:Sum (Bool) (Unit)) (fun i2=>(∀ j:Nat,j < i2→((j:Int)≤(o.choices.getD j default).ask∧(o.choices.getD j default).ask≤21)∧0≤(o.choices.getD j default).by_∧(o.choices.getD j default).by_ < 5)∧i2≤o.choices.length) (fun i2=>o.choices.length - i2) (0:Nat)
 (fun (i2:Nat)=>⟨[(3,iv (i2:Int))],[]⟩) fun i2 =>
 .bnd 1 2 o.choices.length <|
 .br (decide ((i2:Int) < ((o.choices.length:Nat):Int)))
 (.r 4 (.andl (.p (ixP (i2:Int) o.choices.length)) (.dep ((jv ((o.choices.getD i2 default).ask) 0 21).c) fun x3=>.andl (.wh (!x3) false (.p (ixP (i2:Int) o.choices.length))) (.wh (!x3) false ((jv ((o.choices.getD i2 default).by_) 0 4).c)))) fun p5 =>
 .br ((!p5.1)||(!p5.2))
 (.fin (.inl (.inl false)))
 (.r 6 (.andl (.wh (decide ((i2:Int) > 0)) true (.p (ixP (w64 ((i2:Int) - 1)) o.choices.length))) (.wh (decide ((i2:Int) > 0)) true (.p (ixP (i2:Int) o.choices.length)))) fun _ =>
 .br ((decide ((i2:Int) > 0))&&(decide (((o.choices.getD ((w64 ((i2:Int) - 1)).toNat) default).ask)≥((o.choices.getD i2 default).ask))))
 (.fin (.inl (.inl false)))
 (.r 3 .z fun _ =>
 .wi 3 (w64 ((i2:Int)+1)) ((i2+1:Nat):Int) <|
 .fin (.inr (i2+1)))))
 (.fin (.inl (.inr ()))))
 (fun (_:Unit)=>⟨[],[]⟩) fun _ =>
 .bind true (fun b6=>∀ j:Nat,j < o.rules.length→(j:Int)≤(o.rules.getD j default).ask∧(o.rules.getD j default).ask≤21)
 (.loop (default:Sum (Bool) (Unit)) (fun i7=>(∀ j:Nat,j < i7→(j:Int)≤(o.rules.getD j default).ask∧(o.rules.getD j default).ask≤21)∧i7≤o.rules.length) (fun i7=>o.rules.length - i7) (0:Nat)
 (fun (i7:Nat)=>⟨[(4,iv (i7:Int))],[]⟩) fun i7 =>
 .bnd 1 3 o.rules.length <|
 .br (decide ((i7:Int) < ((o.rules.length:Nat):Int)))
 (.r 11 (.andl (.p (ixP (i7:Int) o.rules.length)) ((jv ((o.rules.getD i7 default).ask) 0 21).c)) fun x8 =>
 .br (!x8)
 (.fin (.inl (.inl false)))
 (.r 13 (.andl (.wh (decide ((i7:Int) > 0)) true (.p (ixP (w64 ((i7:Int) - 1)) o.rules.length))) (.wh (decide ((i7:Int) > 0)) true (.p (ixP (i7:Int) o.rules.length)))) fun _ =>
 .br ((decide ((i7:Int) > 0))&&(decide (((o.rules.getD ((w64 ((i7:Int) - 1)).toNat) default).ask)≥((o.rules.getD i7 default).ask))))
 (.fin (.inl (.inl false)))
 (.r 10 .z fun _ =>
 .wi 4 (w64 ((i7:Int)+1)) ((i7+1:Nat):Int) <|
 .fin (.inr (i7+1)))))
 (.fin (.inl (.inr ()))))
 (fun (_:Unit)=>⟨[],[]⟩) fun _ =>
 .fin true
def Hp (o:qv):Bool:=(zu o).val
theorem BC (o:qv):(zu o).pst (fun (x:Bool)=>x=true→(∀ j,j < o.choices.length→0≤(o.choices.getD j default).by_∧(o.choices.getD j default).by_ < 5)∧o.choices.length≤22∧o.rules.length≤22):=by
 refine Sk.pst_of _ ?_
 unfold zu
 simp only [Sk.pstq,Sk.isLoop,reduceCtorEq,ON,kk,jv,qB,forall_eq,maxLen]
 refine ⟨⟨⟨fun j hj=>absurd hj (by omega),Nat.zero_le _⟩,fun i hi=>⟨fun hc h1 _ h2 _=>?_,fun hc j hj=>?_⟩⟩,fun _ hJ=>⟨⟨⟨fun j hj=>absurd hj (by omega),Nat.zero_le _⟩,fun i hi=>⟨fun hc h1 _ h2 _=>?_,fun hc j hj=>?_⟩⟩,fun _ hJ2=>⟨fun j hj=>(hJ j hj).2,?_,?_⟩⟩⟩
 rotate_right
 rotate_right
 ·rcases Nat.lt_or_ge 22 o.choices.length with h | h
  ·have:=(hJ 22 h).1; omega
  ·exact h
 ·rcases Nat.lt_or_ge 22 o.rules.length with h | h
  ·have:=hJ2 22 h; omega
  ·exact h
 all_goals simp only [LN] at hc
 ·simp only [LN] at h1 h2
  refine ⟨⟨fun j hj=>?_,by omega⟩,by omega⟩
  by_cases e:j=i
  ·subst e
   refine ⟨⟨?_,by omega⟩,by omega,by omega⟩
   by_cases e0:j=0
   ·subst e0; omega
   ·have h3:=hi.1 (j - 1) (by omega)
    have h4:=h2.resolve_left (by omega)
    rw [jj (by omega) (by omega),show ((j:Int) - 1).toNat=j - 1 by omega] at h4
    omega
  ·exact hi.1 j (by omega)
 ·exact hi.1 j (by omega)
 ·simp only [LN] at h1 h2
  refine ⟨⟨fun j hj=>?_,by omega⟩,by omega⟩
  by_cases e:j=i
  ·subst e
   refine ⟨?_,by omega⟩
   by_cases e0:j=0
   ·subst e0; omega
   ·have h3:=hi.1 (j - 1) (by omega)
    have h4:=h2.resolve_left (by omega)
    rw [jj (by omega) (by omega),show ((j:Int) - 1).toNat=j - 1 by omega] at h4
    omega
  ·exact hi.1 j (by omega)
 ·exact hi.1 j (by omega)
theorem Fz (o:qv):(fun (x:Bool)=>x=true→(∀ j,j < o.choices.length→0≤(o.choices.getD j default).by_∧(o.choices.getD j default).by_ < 5)∧o.choices.length≤22∧o.rules.length≤22) (Hp o):=have h:=Sk.pval _ (BC o); h
theorem zax (o:qv):(zu o).obs (fun _=>True):=by
 refine Sk.obs_of _ ?_
 unfold zu
 simp only [Sk.obq,Sk.isLoop,reduceCtorEq,ON,kk,jv,qB,forall_eq,maxLen]
 refine ⟨⟨⟨fun j hj=>absurd hj (by omega),Nat.zero_le _⟩,fun i hi hm=>⟨fun hc=>⟨⟨?_,fun _=>?_⟩,fun h1=>⟨⟨fun h3=>?_,fun _=>?_⟩,fun _ h2 _=>⟨?_,?_⟩⟩⟩,fun hc j hj=>?_⟩⟩,fun _ hJ=>⟨⟨fun j hj=>absurd hj (by omega),Nat.zero_le _⟩,fun i hi hm=>⟨fun hc=>⟨?_,fun h1=>⟨⟨fun h3=>?_,fun _=>?_⟩,fun _ h2 _=>⟨?_,?_⟩⟩⟩,fun hc j hj=>?_⟩⟩⟩
 all_goals simp only [LN] at hc
 ·exact ⟨by omega,by omega⟩
 ·exact ⟨by omega,by omega⟩
 ·simp only [LN] at h3
  rw [jj (by omega) (by omega)]
  exact ⟨by omega,by omega⟩
 ·exact ⟨by omega,by omega⟩
 ·exact (jj (by omega) (by omega)).trans (by omega)
 ·simp only [LN] at h1 h2
  refine ⟨⟨fun j hj=>?_,by omega⟩,by omega⟩
  by_cases e:j=i
  ·subst e
   refine ⟨⟨?_,by omega⟩,by omega,by omega⟩
   by_cases e0:j=0
   ·subst e0; omega
   ·have h3:=hi.1 (j - 1) (by omega)
    have h4:=h2.resolve_left (by omega)
    rw [jj (by omega) (by omega),show ((j:Int) - 1).toNat=j - 1 by omega] at h4
    omega
  ·exact hi.1 j (by omega)
 ·exact hi.1 j (by omega)
 ·exact ⟨by omega,by omega⟩
 ·simp only [LN] at h3
  rw [jj (by omega) (by omega)]
  exact ⟨by omega,by omega⟩
 ·exact ⟨by omega,by omega⟩
 ·exact (jj (by omega) (by omega)).trans (by omega)
 ·simp only [LN] at h1 h2
  refine ⟨⟨fun j hj=>?_,by omega⟩,by omega⟩
  by_cases e:j=i
  ·subst e
   refine ⟨?_,by omega⟩
   by_cases e0:j=0
   ·subst e0; omega
   ·have h3:=hi.1 (j - 1) (by omega)
    have h4:=h2.resolve_left (by omega)
    rw [jj (by omega) (by omega),show ((j:Int) - 1).toNat=j - 1 by omega] at h4
    omega
  ·exact hi.1 j (by omega)
 ·exact hi.1 j (by omega)
def QN (o:qv):Ctr (Bool):=kk tok mixed Tryz.func61 [av o.cells] (fun x=>bv x) true (zu o) (Hp o) (fun (_:True)=>zax o) (fun (x:Bool)=>x=true→(∀ j,j < o.choices.length→0≤(o.choices.getD j default).by_∧(o.choices.getD j default).by_ < 5)∧o.choices.length≤22∧o.rules.length≤22) (Fz o)
def yA (r:jg):Sk (Int) :=
 .br (decide (((r.orders.length:Nat):Int) > 20))
 (.fin 6)
 (.bind true (fun b1=>r.ByOK∧(∀ i,i < r.orders.length→(r.orders.getD i default).choices.length≤22∧(r.orders.getD i default).rules.length≤22))
 (.loop (default:Sum (Int) (Unit)) (fun i2=>i2.1.length=i2.2∧i2.2≤r.orders.length∧(∀ i j,i < i2.2→j < (r.orders.getD i default).choices.length→0≤((r.orders.getD i default).choices.getD j default).by_∧((r.orders.getD i default).choices.getD j default).by_ < 5)∧(∀ i,i < i2.2→(r.orders.getD i default).choices.length≤22∧(r.orders.getD i default).rules.length≤22)) (fun i2=>r.orders.length - i2.2) (([],0):(List ByteArray) × Nat)
 (fun (i2:(List ByteArray) × Nat)=>⟨[(3,ow 100001 i2.1),(4,iv (i2.2:Int))],[(100001,jz 9 1 vU i2.1)]⟩) fun i2 =>
 .bnd 1 4 r.orders.length <|
 .br (decide ((i2.2:Int) < ((r.orders.length:Nat):Int)))
 (.r 7 (.andl (.p (ixP (i2.2:Int) r.orders.length)) (.andl (.o [.nrm (qk GC [(r.orders.getD i2.2 default).name])]) (.andl (.o [.nrm (gy GC i2.1 [(r.orders.getD i2.2 default).name])]) (.andl (.t (GC.ones [(r.orders.getD i2.2 default).name])) (.p (szP i2.1.length [(r.orders.getD i2.2 default).name].length 16)))))) fun _ =>
 .r 8 ((zN (i2.1++[(r.orders.getD i2.2 default).name]) (i2.2:Int)).c) fun x3 =>
 .br (x3 != 0)
 (.fin (.inl (.inl x3)))
 (.r 11 (.andl (.p (ixP (i2.2:Int) r.orders.length)) ((QN (r.orders.getD i2.2 default)).c)) fun x4 =>
 .br (!x4)
 (.fin (.inl (.inl 1)))
 (.r 6 .z fun _ =>
 .wi 4 (w64 ((i2.2:Int)+1)) ((i2.2+1:Nat):Int) <|
 .fin (.inr (i2.1++[(r.orders.getD i2.2 default).name],i2.2+1)))))
 (.fin (.inl (.inr ()))))
 (fun (_:Unit)=>⟨[],[]⟩) fun _ =>
 .fin 0)
def zgQ (r:jg):Int:=(yA r).val
theorem zfv (r:jg):(yA r).pst (fun (x:Int)=>x=0→r.ByOK∧r.orders.length≤20∧(∀ i,i < r.orders.length→(r.orders.getD i default).choices.length≤22∧(r.orders.getD i default).rules.length≤22)):=by
 unfold yA
 try simp only [QN,zN,jg.ByOK]
 exact okP
theorem zd7 (r:jg):(fun (x:Int)=>x=0→r.ByOK∧r.orders.length≤20∧(∀ i,i < r.orders.length→(r.orders.getD i default).choices.length≤22∧(r.orders.getD i default).rules.length≤22)) (zgQ r):=have h:=Sk.pval _ (zfv r); h
theorem zhA (r:jg):(yA r).obs (fun _=>True):=by
 unfold yA
 try simp only [QN,zN,jg.ByOK]
 exact okD
def Wx (r:jg):Ctr (Int):=kk tok mixed Tryz.func37 [av r.cells] (fun x=>iv x) true (yA r) (zgQ r) (fun (_:True)=>zhA r) (fun (x:Int)=>x=0→r.ByOK∧r.orders.length≤20∧(∀ i,i < r.orders.length→(r.orders.getD i default).choices.length≤22∧(r.orders.getD i default).rules.length≤22)) (zd7 r)
def uA (r:jg):Sk (Int) :=
 .br (decide (((r.usances.length:Nat):Int) > 100))
 (.fin 6)
 (.bind true (fun _=>True)
 (.loop (default:Sum (Int) (Unit)) (fun i2=>i2≤r.usances.length) (fun i2=>r.usances.length - i2) (0:Nat)
 (fun (i2:Nat)=>⟨[(3,iv (i2:Int))],[]⟩) fun i2 =>
 .bnd 1 5 r.usances.length <|
 .br (decide ((i2:Int) < ((r.usances.length:Nat):Int)))
 (.bind true (fun _=>True)
 (.r 6 (.p (ixP (i2:Int) r.usances.length)) fun _ =>
 .r 7 (.dep ((jv ((r.usances.getD i2 default).from_) 0 (w64 (((r.cities.length:Nat):Int) - 1))).c) fun x4=>.dep (.wh (!x4) false ((jv ((r.usances.getD i2 default).to_) 0 (w64 (((r.cities.length:Nat):Int) - 1))).c)) fun x5=>.wh ((!x4)||(!x5)) false ((jv ((r.usances.getD i2 default).days) 1 20000).c)) fun p9 =>
 .br (((!p9.1)||(!p9.2.1))||(!p9.2.2))
 (.fin (.inl (.inl (.inl 1))))
 (.bind true (fun _=>True)
 (.loop (default:Sum (Sum (Sum (Sum (Int) (Unit)) (Nat)) (Int × (List kZ) × Int × kZ × Int × (List zk) × Int × Int × Bool × Bool × Bool × Bool × Bool × Bool × Int × Int × Bool)) (Int × Int × Int × Bool)) (fun i8=>i8≤i2) (fun i8=>i2 - i8) (0:Nat)
 (fun (i8:Nat)=>⟨[(5,iv (i8:Int))],[]⟩) fun i8 =>
 .br (decide ((i8:Int) < (i2:Int)))
 (.r 12 (.andl (.p (ixP (i8:Int) r.usances.length)) (.wh (((r.usances.getD i8 default).from_) == ((r.usances.getD i2 default).from_)) true (.p (ixP (i8:Int) r.usances.length)))) fun _ =>
 .br ((((r.usances.getD i8 default).from_) == ((r.usances.getD i2 default).from_))&&(((r.usances.getD i8 default).to_) == ((r.usances.getD i2 default).to_)))
 (.fin (.inl (.inl (.inl (.inl (.inl 5))))))
 (.r 11 .z fun _ =>
 .wi 5 (w64 ((i8:Int)+1)) ((i8+1:Nat):Int) <|
 .fin (.inr (i8+1))))
 (.fin (.inl (.inr ((i8:Int),(i8:Int),(i2:Int),decide ((i8:Int) < (i2:Int)))))))
 (fun (b7:Int × Int × Int × Bool)=>⟨[(5,iv b7.1),(46,iv b7.2.1),(47,iv b7.2.2.1),(48,bv b7.2.2.2)],[]⟩) fun b7 =>
 .fin (.inr (b7.1,r.usances,(i2:Int),r.usances.getD i2 default,(r.usances.getD i2 default).from_,r.cities,((r.cities.length:Nat):Int),w64 (((r.cities.length:Nat):Int) - 1),p9.1,!p9.1,!p9.1,(!p9.1)||(!p9.2.1),(!p9.1)||(!p9.2.1),((!p9.1)||(!p9.2.1))||(!p9.2.2),b7.2.1,b7.2.2.1,b7.2.2.2))))
 (fun (b3:Int × (List kZ) × Int × kZ × Int × (List zk) × Int × Int × Bool × Bool × Bool × Bool × Bool × Bool × Int × Int × Bool)=>⟨[(5,iv b3.1),(18,lv kZ.cells b3.2.1),(19,iv b3.2.2.1),(21,av b3.2.2.2.1.cells),(23,iv b3.2.2.2.2.1),(25,lv zk.cells b3.2.2.2.2.2.1),(26,iv b3.2.2.2.2.2.2.1),(27,iv b3.2.2.2.2.2.2.2.1),(28,bv b3.2.2.2.2.2.2.2.2.1),(29,bv b3.2.2.2.2.2.2.2.2.2.1),(30,bv b3.2.2.2.2.2.2.2.2.2.2.1),(39,bv b3.2.2.2.2.2.2.2.2.2.2.2.1),(40,bv b3.2.2.2.2.2.2.2.2.2.2.2.2.1),(45,bv b3.2.2.2.2.2.2.2.2.2.2.2.2.2.1),(46,iv b3.2.2.2.2.2.2.2.2.2.2.2.2.2.2.1),(47,iv b3.2.2.2.2.2.2.2.2.2.2.2.2.2.2.2.1),(48,bv b3.2.2.2.2.2.2.2.2.2.2.2.2.2.2.2.2)],[]⟩) fun _ =>
 .r 5 .z fun _ =>
 .wi 3 (w64 ((i2:Int)+1)) ((i2+1:Nat):Int) <|
 .fin (.inr (i2+1)))
 (.fin (.inl (.inr ()))))
 (fun (_:Unit)=>⟨[],[]⟩) fun _ =>
 .fin 0)
def zdo (r:jg):Int:=(uA r).val
theorem zeD (r:jg):(uA r).pst (fun (x:Int)=>x=0→r.usances.length≤100):=by
 unfold uA
 try simp only [jv,qB]
 exact okQ
theorem zcd (r:jg):(fun (x:Int)=>x=0→r.usances.length≤100) (zdo r):=have h:=Sk.pval _ (zeD r); h
theorem zfF (r:jg):(uA r).obs (fun _=>True):=by
 unfold uA
 try simp only [jv,qB]
 exact okG
def Gg (r:jg):Ctr (Int):=kk tok mixed Tryz.func38 [av r.cells] (fun x=>iv x) true (uA r) (zdo r) (fun (_:True)=>zfF r) (fun (x:Int)=>x=0→r.usances.length≤100) (zcd r)
def yN (r:jg):Sk (Int) :=
 .br (decide (((r.rates.length:Nat):Int) > 100))
 (.fin 6)
 (.bind true (fun b1=>r.RateOK)
 (.loop (default:Sum (Int) (Unit)) (fun i2=>i2≤r.rates.length∧(∀ i,i < i2→(1≤(r.rates.getD i default).num∧(r.rates.getD i default).num≤1073741824)∧1≤(r.rates.getD i default).den∧(r.rates.getD i default).den≤1073741824)) (fun i2=>r.rates.length - i2) (0:Nat)
 (fun (i2:Nat)=>⟨[(3,iv (i2:Int))],[]⟩) fun i2 =>
 .bnd 1 6 r.rates.length <|
 .br (decide ((i2:Int) < ((r.rates.length:Nat):Int)))
 (.r 6 (.p (ixP (i2:Int) r.rates.length)) fun _ =>
 .r 7 (.dep ((jv ((r.rates.getD i2 default).from_) 0 (w64 (((r.currencies.length:Nat):Int) - 1))).c) fun x3=>.wh (!x3) false ((jv ((r.rates.getD i2 default).to_) 0 (w64 (((r.currencies.length:Nat):Int) - 1))).c)) fun p9 =>
 .br (((!p9.1)||(!p9.2))||(((r.rates.getD i2 default).from_) == ((r.rates.getD i2 default).to_)))
 (.fin (.inl (.inl 1)))
 (.r 9 (.dep ((jv ((r.rates.getD i2 default).num) 1 1073741824).c) fun x5=>.dep (.wh (!x5) false ((jv ((r.rates.getD i2 default).den) 1 1073741824).c)) fun x6=>.wh ((!x5)||(!x6)) false ((jv ((r.rates.getD i2 default).since) 0 100000).c)) fun p8 =>
 .br (((!p8.1)||(!p8.2.1))||(!p8.2.2))
 (.fin (.inl (.inl 1)))
 (.r 5 .z fun _ =>
 .wi 3 (w64 ((i2:Int)+1)) ((i2+1:Nat):Int) <|
 .fin (.inr (i2+1)))))
 (.fin (.inl (.inr ()))))
 (fun (_:Unit)=>⟨[],[]⟩) fun _ =>
 .br (decide (((r.halts.length:Nat):Int) > 20))
 (.fin 6)
 (.bind true (fun b10=>r.HaltOK)
 (.loop (default:Sum (Int) (Unit)) (fun i11=>i11≤r.halts.length∧(∀ i,i < i11→(r.halts.getD i default).to_≤100000)) (fun i11=>r.halts.length - i11) (0:Nat)
 (fun (i11:Nat)=>⟨[(5,iv (i11:Int))],[]⟩) fun i11 =>
 .bnd 1 7 r.halts.length <|
 .br (decide ((i11:Int) < ((r.halts.length:Nat):Int)))
 (.r 16 (.p (ixP (i11:Int) r.halts.length)) fun _ =>
 .r 17 (.dep ((jv ((r.halts.getD i11 default).order) 0 (w64 (((r.orders.length:Nat):Int) - 1))).c) fun x12=>.wh (!x12) false ((jv ((r.halts.getD i11 default).from_) 0 ((r.halts.getD i11 default).to_)).c)) fun p14 =>
 .br (((!p14.1)||(!p14.2))||(decide (((r.halts.getD i11 default).to_) > 100000)))
 (.fin (.inl (.inl 1)))
 (.r 15 .z fun _ =>
 .wi 5 (w64 ((i11:Int)+1)) ((i11+1:Nat):Int) <|
 .fin (.inr (i11+1))))
 (.fin (.inl (.inr ()))))
 (fun (_:Unit)=>⟨[],[]⟩) fun _ =>
 .fin 0))
def zfl (r:jg):Int:=(yN r).val
theorem zgy (r:jg):(yN r).pst (fun (x:Int)=>x=0→r.rates.length≤100∧r.halts.length≤20∧r.RateOK∧r.HaltOK):=by
 unfold yN
 try simp only [jv,qB,jg.HaltOK,jg.RateOK]
 exact okQ
theorem zdZ (r:jg):(fun (x:Int)=>x=0→r.rates.length≤100∧r.halts.length≤20∧r.RateOK∧r.HaltOK) (zfl r):=have h:=Sk.pval _ (zgy r); h
theorem ziM (r:jg):(yN r).obs (fun _=>True):=by
 unfold yN
 try simp only [jv,qB,jg.HaltOK,jg.RateOK]
 exact okG
def WH (r:jg):Ctr (Int):=kk tok mixed Tryz.func39 [av r.cells] (fun x=>iv x) true (yN r) (zfl r) (fun (_:True)=>ziM r) (fun (x:Int)=>x=0→r.rates.length≤100∧r.halts.length≤20∧r.RateOK∧r.HaltOK) (zdZ r)
end
end Go.Proofs.YtilbddpghnnmhaaGreatDoor
