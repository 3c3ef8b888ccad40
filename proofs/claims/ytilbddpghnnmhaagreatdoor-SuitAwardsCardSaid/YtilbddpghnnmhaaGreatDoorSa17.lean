/- Functions, as sketches. -/
import Derived.Test.YtilbddpghnnmhaaGreatDoorSa16
namespace Go.Proofs.YtilbddpghnnmhaaGreatDoor
noncomputable section
open Go Go.Av
set_option linter.unusedSimpArgs false
set_option linter.unusedVariables false
set_option maxHeartbeats 1000000
set_option maxRecDepth 100000
def gR (r:jg):Sk (Int) :=
 .r 1 ((We r).c) fun x1 =>
 .bind false (fun b2=>b2=0→r.currencies.length≤8∧r.cities.length≤40∧r.groups.length≤20∧r.firms.length≤200∧r.FirmOK)
 (.br (x1 == 0)
 (.r 3 ((XK r).c) fun x3 =>
 .fin (.inr x3))
 (.fin (.inr x1)))
 (fun (b2:Int)=>⟨[(3,iv b2)],[]⟩) fun b2 =>
 .bind false (fun b4=>b4=0→r.currencies.length≤8∧r.cities.length≤40∧r.groups.length≤20∧r.firms.length≤200∧r.FirmOK∧r.ByOK∧r.orders.length≤20∧(∀ i,i < r.orders.length→(r.orders.getD i default).choices.length≤22∧(r.orders.getD i default).rules.length≤22))
 (.br (b2 == 0)
 (.r 5 ((GX r).c) fun x5 =>
 .fin (.inr x5))
 (.fin (.inr b2)))
 (fun (b4:Int)=>⟨[(3,iv b4)],[]⟩) fun b4 =>
 .bind false (fun b6=>b6=0→r.currencies.length≤8∧r.cities.length≤40∧r.groups.length≤20∧r.firms.length≤200∧r.FirmOK∧r.ByOK∧r.orders.length≤20∧(∀ i,i < r.orders.length→(r.orders.getD i default).choices.length≤22∧(r.orders.getD i default).rules.length≤22)∧r.usances.length≤100)
 (.br (b4 == 0)
 (.r 7 ((Ys r).c) fun x7 =>
 .fin (.inr x7))
 (.fin (.inr b4)))
 (fun (b6:Int)=>⟨[(3,iv b6)],[]⟩) fun b6 =>
 .br (b6 == 0)
 (.r 9 ((WK r).c) fun x8 =>
 .fin x8)
 (.fin b6)
def zjx (r:jg):Int:=(gR r).val
theorem zil (r:jg):(gR r).pst (fun (x:Int)=>x=0→r.currencies.length≤8∧r.cities.length≤40∧r.groups.length≤20∧r.firms.length≤200∧r.FirmOK∧r.ByOK∧r.orders.length≤20∧(∀ i,i < r.orders.length→(r.orders.getD i default).choices.length≤22∧(r.orders.getD i default).rules.length≤22)∧r.usances.length≤100∧r.rates.length≤100∧r.halts.length≤20∧r.RateOK∧r.HaltOK):=by
 refine Sk.pst_of _ ?_
 unfold gR
 simp only [Sk.pstq,Sk.isLoop,reduceCtorEq,ON,kk,We,XK,GX,WK,Ys,maxLen]
 intro x _ hx
 refine ⟨⟨fun h y _ hy h0=>?_,fun h h0=>?_⟩,fun b _ hb=>⟨⟨fun h y _ hy h0=>?_,fun h h0=>?_⟩,fun b2 _ hb2=>⟨⟨fun h y _ hy h0=>?_,fun h h0=>?_⟩,fun b3 _ hb3=>⟨fun h y _ hy h0=>?_,fun h h0=>?_⟩⟩⟩⟩
 ·have hx:=hx (by simpa using h); have hy:=hy hx.2 h0; exact ⟨hx.1,hx.2,hy⟩
 ·rw [h0] at h; exact absurd h (by decide)
 ·have hb:=hb (by simpa using h); exact ⟨hb.1,hb.2.1,hb.2.2.1,hb.2.2.2.1,hb.2.2.2.2,hy h0⟩
 ·rw [h0] at h; exact absurd h (by decide)
 ·have hb:=hb2 (by simpa using h); exact ⟨hb.1,hb.2.1,hb.2.2.1,hb.2.2.2.1,hb.2.2.2.2.1,hb.2.2.2.2.2.1,hb.2.2.2.2.2.2.1,hb.2.2.2.2.2.2.2,hy h0⟩
 ·rw [h0] at h; exact absurd h (by decide)
 ·have hb:=hb3 (by simpa using h); exact ⟨hb.1,hb.2.1,hb.2.2.1,hb.2.2.2.1,hb.2.2.2.2.1,hb.2.2.2.2.2.1,hb.2.2.2.2.2.2.1,hb.2.2.2.2.2.2.2.1,hb.2.2.2.2.2.2.2.2,hy h0⟩
 ·rw [h0] at h; exact absurd h (by decide)
theorem zg5 (r:jg):(fun (x:Int)=>x=0→r.currencies.length≤8∧r.cities.length≤40∧r.groups.length≤20∧r.firms.length≤200∧r.FirmOK∧r.ByOK∧r.orders.length≤20∧(∀ i,i < r.orders.length→(r.orders.getD i default).choices.length≤22∧(r.orders.getD i default).rules.length≤22)∧r.usances.length≤100∧r.rates.length≤100∧r.halts.length≤20∧r.RateOK∧r.HaltOK) (zjx r):=have h:=Sk.pval _ (zil r); h
theorem zkU (r:jg):(gR r).obs (fun _=>True):=by
 refine Sk.obs_of _ ?_
 unfold gR
 simp only [Sk.obq,Sk.isLoop,reduceCtorEq,ON,kk,We,XK,GX,WK,Ys,maxLen]
 intro x _ hx
 refine ⟨⟨fun h y _ hy h0=>?_,fun h h0=>?_⟩,fun b _ hb=>⟨⟨fun h y _ hy h0=>?_,fun h h0=>?_⟩,fun b2 _ hb2=>⟨fun h y _ hy h0=>?_,fun h h0=>?_⟩⟩⟩
 ·have hx:=hx (by simpa using h); have hy:=hy hx.2 h0; exact ⟨hx.1,hx.2,hy⟩
 ·rw [h0] at h; exact absurd h (by decide)
 ·have hb:=hb (by simpa using h); exact ⟨hb.1,hb.2.1,hb.2.2.1,hb.2.2.2.1,hb.2.2.2.2,hy h0⟩
 ·rw [h0] at h; exact absurd h (by decide)
 ·have hb:=hb2 (by simpa using h); exact ⟨hb.1,hb.2.1,hb.2.2.1,hb.2.2.2.1,hb.2.2.2.2.1,hb.2.2.2.2.2.1,hb.2.2.2.2.2.2.1,hb.2.2.2.2.2.2.2,hy h0⟩
 ·rw [h0] at h; exact absurd h (by decide)
def Ho (r:jg):Ctr (Int):=kk tok mixed Tryz.func22 [av r.cells] (fun x=>iv x) true (gR r) (zjx r) (fun (_:True)=>zkU r) (fun (x:Int)=>x=0→r.currencies.length≤8∧r.cities.length≤40∧r.groups.length≤20∧r.firms.length≤200∧r.FirmOK∧r.ByOK∧r.orders.length≤20∧(∀ i,i < r.orders.length→(r.orders.getD i default).choices.length≤22∧(r.orders.getD i default).rules.length≤22)∧r.usances.length≤100∧r.rates.length≤100∧r.halts.length≤20∧r.RateOK∧r.HaltOK) (zg5 r)
def Ql (r:jg) (files:List jh) (suits:List jN) (moves:List Move):Sk (Bool) :=
 .r 1 (.dep ((zb0 r files suits moves).c) fun x1=>.wh x1 true ((Ho r).c)) fun p3 =>
 .fin (p3.1&&(p3.2 == 0))
def zot (r:jg) (files:List jh) (suits:List jN) (moves:List Move):Bool:=(Ql r files suits moves).val
theorem zlV (r:jg) (files:List jh) (suits:List jN) (moves:List Move):(Ql r files suits moves).pst (fun (x:Bool)=>x=true→r.Small∧r.ByOK∧r.FirmOK∧r.RateOK∧r.firms.length≤200∧(files.length≤50→∀ q,q < files.length→(files.getD q default).Small)):=by
 refine Sk.pst_of _ ?_
 unfold Ql
 simp only [Sk.pstq,Sk.isLoop,reduceCtorEq,ON,kk,Ho,zb0,maxLen]
 intro x _ hx hc
 simp only [LN] at hc
 obtain ⟨a1,a2,a3,a4,a5,a6,a7,a8,a9,b1,b2,b3,b4⟩:=hx.2 hc.2
 exact ⟨(hx.1 hc.1).1,a6,a5,b3,a4,(hx.1 hc.1).2⟩
theorem zkq (r:jg) (files:List jh) (suits:List jN) (moves:List Move):(fun (x:Bool)=>x=true→r.Small∧r.ByOK∧r.FirmOK∧r.RateOK∧r.firms.length≤200∧(files.length≤50→∀ q,q < files.length→(files.getD q default).Small)) (zot r files suits moves):=have h:=Sk.pval _ (zlV r files suits moves); h
theorem znJ (r:jg) (files:List jh) (suits:List jN) (moves:List Move):(Ql r files suits moves).obs (fun _=>True):=by
 refine Sk.obs_of _ ?_
 unfold Ql
 simp only [Sk.obq,Sk.isLoop,reduceCtorEq,ON,kk,Ho,zb0,maxLen]
def zcj (r:jg) (files:List jh) (suits:List jN) (moves:List Move):Ctr (Bool):=kk tok mixed Tryz.func10 [av r.cells,lv jh.cells files,lv jN.cells suits,lv Move.cells moves] (fun x=>bv x) true (Ql r files suits moves) (zot r files suits moves) (fun (_:True)=>znJ r files suits moves) (fun (x:Bool)=>x=true→r.Small∧r.ByOK∧r.FirmOK∧r.RateOK∧r.firms.length≤200∧(files.length≤50→∀ q,q < files.length→(files.getD q default).Small)) (zkq r files suits moves)
def yc (s:jN) (defences:List Int) (day:Int):Sk ((List Move)) :=
 .r 1 (.o [.nrm (qt Move.E [({ kind:=0,suit:=0,day:=s.day,no:=0 }:Move)])]) fun _ =>
 .bind true (fun b1=>b1=(({ kind:=0,suit:=0,day:=s.day,no:=0 }:Move) :: (defences.map fun d=>({ kind:=1,suit:=0,day:=s.day,no:=d }:Move))))
 (.loop (default:Sum ((List Move)) ((List Move))) (fun i2=>i2.2≤defences.length∧i2.1=(({ kind:=0,suit:=0,day:=s.day,no:=0 }:Move) :: ((defences.take i2.2).map fun d=>({ kind:=1,suit:=0,day:=s.day,no:=d }:Move)))) (fun i2=>defences.length - i2.2) (([({ kind:=0,suit:=0,day:=s.day,no:=0 }:Move)],0):(List Move) × Nat)
 (fun (i2:(List Move) × Nat)=>⟨[(7,ow 100002 i2.1),(8,iv (i2.2:Int))],[(100002,jy 32 4 Move.cells i2.1)]⟩) fun i2 =>
 .bnd 1 0 defences.length <|
 .br (decide ((i2.2:Int) < ((defences.length:Nat):Int)))
 (.r 5 (.andl (.p (ixP (i2.2:Int) defences.length)) (.andl (.o [.nrm (qt Move.E [({ kind:=1,suit:=0,day:=s.day,no:=defences.getD i2.2 default }:Move)])]) (.andl (.o [.nrm (Ji Move.E i2.1 [({ kind:=1,suit:=0,day:=s.day,no:=defences.getD i2.2 default }:Move)])]) (.andl (.t (Move.E.ones [({ kind:=1,suit:=0,day:=s.day,no:=defences.getD i2.2 default }:Move)])) (.p (szP i2.1.length [({ kind:=1,suit:=0,day:=s.day,no:=defences.getD i2.2 default }:Move)].length 32)))))) fun _ =>
 .r 4 .z fun _ =>
 .wi 8 (w64 ((i2.2:Int)+1)) ((i2.2+1:Nat):Int) <|
 .fin (.inr (i2.1++[({ kind:=1,suit:=0,day:=s.day,no:=defences.getD i2.2 default }:Move)],i2.2+1)))
 (.fin (.inl (.inr i2.1))))
 (fun (b1:(List Move))=>⟨[(7,ow 100001 b1)],[(100001,jy 32 4 Move.cells b1)]⟩) fun b1 =>
 .r 6 (.andl (.o [.nrm (qt Move.E [({ kind:=4,suit:=0,day:=day,no:=0 }:Move)])]) (.andl (.o [.nrm (Ji Move.E b1 [({ kind:=4,suit:=0,day:=day,no:=0 }:Move)])]) (.andl (.t (Move.E.ones [({ kind:=4,suit:=0,day:=day,no:=0 }:Move)])) (.p (szP b1.length [({ kind:=4,suit:=0,day:=day,no:=0 }:Move)].length 32))))) fun _ =>
 .fin (b1++[({ kind:=4,suit:=0,day:=day,no:=0 }:Move)])
def WL (s:jN) (defences:List Int) (day:Int):(List Move):=(yc s defences day).val
theorem zfL (s:jN) (defences:List Int) (day:Int):(yc s defences day).pst (fun (x:(List Move))=>x=(({ kind:=0,suit:=0,day:=s.day,no:=0 }:Move) :: (defences.map fun d=>({ kind:=1,suit:=0,day:=s.day,no:=d }:Move)))++[({ kind:=4,suit:=0,day:=day,no:=0 }:Move)]):=by
 refine Sk.pst_of _ ?_
 unfold yc
 simp only [Sk.pstq,Sk.isLoop,reduceCtorEq,ON,kk,maxLen]
 all_goals simp only [LN] at *
 refine fun _=>⟨⟨⟨Nat.zero_le _,rfl⟩,fun i hi=>⟨fun hc _ _=>⟨⟨by omega,?_⟩,by omega⟩,fun hc=>?_⟩⟩,fun b hb _=>by rw [hb]⟩
 ·rw [Kb (by omega),List.map_append,← List.cons_append,← hi.2]; rfl
 ·rw [hi.2,List.take_of_length_le (by omega)]
theorem ZD (s:jN) (defences:List Int) (day:Int):(fun (x:(List Move))=>x=(({ kind:=0,suit:=0,day:=s.day,no:=0 }:Move) :: (defences.map fun d=>({ kind:=1,suit:=0,day:=s.day,no:=d }:Move)))++[({ kind:=4,suit:=0,day:=day,no:=0 }:Move)]) (WL s defences day):=have h:=Sk.pval _ (zfL s defences day); h
theorem zhJ (s:jN) (defences:List Int) (day:Int) (hd:defences.length≤100):(yc s defences day).obs (fun _=>True):=by
 refine Sk.obs_of _ ?_
 unfold yc
 simp only [Sk.obq,Sk.isLoop,reduceCtorEq,ON,kk,maxLen]
 all_goals simp only [LN] at *
 refine fun _=>⟨⟨⟨Nat.zero_le _,rfl⟩,fun i hi _=>⟨fun hc=>⟨⟨⟨by omega,by omega⟩,?_⟩,fun _ _=>⟨?_,⟨by omega,?_⟩,by omega⟩⟩,fun hc=>?_⟩⟩,fun b hb=>?_⟩
 ·have:i.1.length≤101:=by rw [hi.2,List.length_cons,List.length_map,List.length_take]; omega
  omega
 ·rw [jj (by omega) (by omega)]; omega
 ·rw [Kb (by omega),List.map_append,← List.cons_append,← hi.2]; rfl
 ·rw [hi.2,List.take_of_length_le (by omega)]
 ·have:b.length≤101:=by rw [hb,List.length_cons,List.length_map]; omega
  omega
def Ve (s:jN) (defences:List Int) (day:Int):Ctr ((List Move)):=kk tok mixed Tryz.func13 [av s.cells,lv jA defences,iv day] (fun x=>lv Move.cells x) false (yc s defences day) (WL s defences day) (fun (h:(defences.length≤100))=>zhJ s defences day h) (fun (x:(List Move))=>x=(({ kind:=0,suit:=0,day:=s.day,no:=0 }:Move) :: (defences.map fun d=>({ kind:=1,suit:=0,day:=s.day,no:=d }:Move)))++[({ kind:=4,suit:=0,day:=day,no:=0 }:Move)]) (ZD s defences day)
theorem zp8 (a b:Int):vA a b=jn [a,b] 1:=XJ [a,b]
theorem zoZ (a b:Int):vA a b=0∨vA a b=1∨vA a b=2:=by
 rw [zp8]
 simp only [jn]
 repeat' split
 all_goals simp
theorem zra {a b:Int} (ha:a=0∨a=1∨a=2):vA a b=1↔a=1∧b≠0∧b≠2:=by
 rw [zp8]
 simp only [jn]
 rcases ha with rfl | rfl | rfl <;> (repeat' split) <;> simp_all
def Idle (x:jB) (c:Claim) (d:Int):Prop:=Uo (vA (uS x c d) (Uo (KI x 5 c d)))≠0∧Uo (vA (uS x c d) (Uo (KI x 5 c d)))≠2
theorem zi0 (x:jB) (c:Claim):∀ (D:List Int) (st:Int),(st=0∨st=1∨st=2)→(D.foldl (awf x c) st=1↔st=1∧∀ d,d∈D→Idle x c d)
 | [],st,_=>by simp
 | d :: r,st,h=>by
  rw [List.foldl_cons,zi0 x c r (awf x c st d) (zoZ _ _)]
  unfold awf
  rw [zra h]
  simp only [List.mem_cons,forall_eq_or_imp,Idle,ne_eq]
  exact ⟨fun ⟨⟨a,b⟩,e⟩=>⟨a,b,e⟩,fun ⟨a,b,e⟩=>⟨⟨a,b⟩,e⟩⟩
theorem zpD {x:jB} {c:Claim} (h:c.state=1∨c.state=2) (D:List Int):zaX x c D=1↔c.state=1∧∀ d,d∈D→Idle x c d:=zi0 x c D _ (.inr h)
theorem zjf (k k' v:Int) (m:List (Int × Int)):kf (yZ m k v) k' 0=if k'=k then v else kf m k' 0:=by
 unfold kf
 rw [zbG]
 split <;> rfl
def Hd (s:jN) (c:Claim):Prop:=c.debtor=s.defendant∧c.creditor=s.plaintiff∧c.sign=s.sign
structure Top (x:jB) (D:List Int) (l:List Claim) (n:Nat) (k:Int):Prop where
 has:kf (qa x D l n).2 k false=true↔∃ i,i < n∧Hd x.s (l.getD i default)∧zaX x (l.getD i default) D=k
 le:∀ i,i < n→Hd x.s (l.getD i default)→zaX x (l.getD i default) D=k→(l.getD i default).sum≤kf (qa x D l n).1 k 0
 ge:0≤kf (qa x D l n).1 k 0
 eq:kf (qa x D l n).1 k 0=0∨∃ i,i < n∧Hd x.s (l.getD i default)∧zaX x (l.getD i default) D=k∧(l.getD i default).sum=kf (qa x D l n).1 k 0
theorem zlI (x:jB) (D:List Int) (l:List Claim) (k:Int):∀ n,Top x D l n k
 | 0=>⟨⟨fun h=>(by simp [qa,kf,yY] at h),fun ⟨i,h,_⟩=>absurd h (by omega)⟩,fun i h=>absurd h (by omega),by simp [qa,kf,yY],.inl rfl⟩
 | n+1=>by
  obtain ⟨h1,h2,h3,h4⟩:=zlI x D l k n
  have sp:∀ {i:Nat},i < n+1→i < n∨i=n:=fun h=>Nat.lt_succ_iff_lt_or_eq.1 h
  by_cases hm:Hd x.s (l.getD n default)
  ·have e:qa x D l (n+1)=(yZ (qa x D l n).1 (zaX x (l.getD n default) D) (jP (kf (qa x D l n).1 (zaX x (l.getD n default) D) 0) (l.getD n default).sum),yZ (qa x D l n).2 (zaX x (l.getD n default) D) true):=by
    simp only [qa]; unfold zcN; exact if_pos hm
   by_cases hk:k=zaX x (l.getD n default) D
   ·have eb:kf (qa x D l (n+1)).2 k false=true:=by rw [e,zlm,if_pos hk]
    have ea:kf (qa x D l (n+1)).1 k 0=jP (kf (qa x D l n).1 k 0) (l.getD n default).sum:=by rw [e,zjf,if_pos hk,← hk]
    have hmx:∀ a b:Int,a≤jP a b∧b≤jP a b∧(jP a b=a∨jP a b=b):=fun a b=>by unfold jP; split <;> omega
    obtain ⟨m1,m2,m3⟩:=hmx (kf (qa x D l n).1 k 0) (l.getD n default).sum
    refine ⟨⟨fun _=>⟨n,by omega,hm,hk.symm⟩,fun _=>eb⟩,fun i hi hI hS=>?_,by rw [ea]; omega,?_⟩
    ·rw [ea]
     rcases sp hi with h | rfl
     ·have:=h2 i h hI hS; omega
     ·exact m2
    ·rw [ea]
     rcases m3 with h | h
     ·rw [h]
      rcases h4 with h4 | ⟨i,a,b,c,d⟩
      ·exact .inl h4
      ·exact .inr ⟨i,by omega,b,c,d⟩
     ·exact .inr ⟨n,by omega,hm,hk.symm,h.symm⟩
   ·have eb:kf (qa x D l (n+1)).2 k false=kf (qa x D l n).2 k false:=by rw [e,zlm,if_neg hk]
    have ea:kf (qa x D l (n+1)).1 k 0=kf (qa x D l n).1 k 0:=by rw [e,zjf,if_neg hk]
    refine ⟨?_,fun i hi hI hS=>?_,by rw [ea]; exact h3,?_⟩
    ·rw [eb,h1]
     exact ⟨fun ⟨i,a,b⟩=>⟨i,by omega,b⟩,fun ⟨i,a,b,c⟩=>by
      rcases sp a with h | rfl
      ·exact ⟨i,h,b,c⟩
      ·exact absurd c.symm hk⟩
    ·rw [ea]
     rcases sp hi with h | rfl
     ·exact h2 i h hI hS
     ·exact absurd hS.symm hk
    ·rw [ea]
     rcases h4 with h4 | ⟨i,a,b⟩
     ·exact .inl h4
     ·exact .inr ⟨i,by omega,b⟩
  ·have e:qa x D l (n+1)=qa x D l n:=by simp only [qa]; unfold zcN; exact if_neg hm
   refine ⟨?_,fun i hi hI hS=>?_,by rw [e]; exact h3,?_⟩
   ·rw [e,h1]
    exact ⟨fun ⟨i,a,b⟩=>⟨i,by omega,b⟩,fun ⟨i,a,b,c⟩=>by
     rcases sp a with h | rfl
     ·exact ⟨i,h,b,c⟩
     ·exact absurd b hm⟩
   ·rw [e]
    rcases sp hi with h | rfl
    ·exact h2 i h hI hS
    ·exact absurd hI hm
   ·rw [e]
    rcases h4 with h4 | ⟨i,a,b⟩
    ·exact .inl h4
    ·exact .inr ⟨i,by omega,b⟩
def zhZ (s:jN) (D:List Int) (day:Int):List Move:=({ kind:=0,suit:=0,day:=s.day,no:=0 }:Move) :: (D.map fun d=>({ kind:=1,suit:=0,day:=s.day,no:=d }:Move))++[({ kind:=4,suit:=0,day:=day,no:=0 }:Move)]
theorem zoe (s:jN) (h0:0≤s.day∧s.day≤100000):∀ (D:List Int),(∀ d,d∈D→0≤d∧d < 7)→vf [s] (D.map fun d=>({ kind:=1,suit:=0,day:=s.day,no:=d }:Move)) (s.day,[1],[])=(List.replicate D.length 0,s.day,[1],[])
 | [],_=>rfl
 | d :: r,h=>by
  have hd:=h d (by simp)
  have e:zdN [s] (s.day,[1],[]) ({ kind:=1,suit:=0,day:=s.day,no:=d }:Move)=(0,s.day,[1],[]):=by
   unfold zdN Vb
   rw [if_neg (by simp; omega),if_neg (by simp),if_neg (by simp),if_neg (by simp [XV])]
   simp [XV]
  rw [List.map_cons]
  simp only [vf,e]
  rw [zoe s h0 r (fun x hx=>h x (by simp [hx]))]
  rfl
theorem zn7 {s:jN} {D:List Int} {day:Int} (h0:0≤s.day) (h1:s.day≤day) (h2:day≤100000) (hD:∀ d,d∈D→0≤d∧d < 7):vf [s] (zhZ s D day) (Ku [s])=(List.replicate (D.length+2) 0,day,[3],[]):=by
 have e1:zdN [s] (Ku [s]) ({ kind:=0,suit:=0,day:=s.day,no:=0 }:Move)=(0,s.day,[1],[]):=by
  unfold zdN Vb Ku
  rw [if_neg (by simp; omega),if_neg (by simp),if_neg (by simp [List.getD]; omega),if_neg (by simp [XV])]
  simp [XV]
 have e2:zdN [s] (s.day,[1],[]) ({ kind:=4,suit:=0,day:=day,no:=0 }:Move)=(0,day,[3],[]):=by
  unfold zdN Vb
  rw [if_neg (by simp; omega),if_neg (by simp),if_neg (by simp; omega),if_neg (by simp [XV])]
  simp [XV]
 unfold zhZ
 rw [List.cons_append]
 simp only [vf,e1]
 rw [Hm,zoe s ⟨h0,by omega⟩ D hD]
 simp only [vf,e2]
 rw [List.replicate_succ,← List.replicate_append_replicate (n:=D.length) (m:=1)]
 rfl
theorem zjg (suit:Int) (w:Bool) (moves:List Move) (errors:List Int) (he:∀ i,i < moves.length→errors.getD i default=0):∀ n,n≤moves.length→Ul suit w moves errors n=(moves.take n).foldl (fun s m=>yB suit s m 0) (0,[],[],w)
 | 0,_=>rfl
 | n+1,h=>by
  rw [Kb (by omega),List.foldl_append,← zjg suit w moves errors he n (by omega)]
  simp only [Ul,List.foldl_cons,List.foldl_nil]
  rw [he n (by omega)]
theorem zlN (s:jN) (w:Bool):∀ (D R:List Int),(D.map fun d=>({ kind:=1,suit:=0,day:=s.day,no:=d }:Move)).foldl (fun s m=>yB 0 s m 0) (0,[],R,w)=(0,[],R++D,w)
 | [],R=>by simp
 | d :: r,R=>by
  rw [List.map_cons,List.foldl_cons]
  have e:yB 0 (0,[],R,w) ({ kind:=1,suit:=0,day:=s.day,no:=d }:Move) 0=(0,[],R++[d],w):=by
   unfold yB; rw [if_neg (by simp),if_pos rfl]
  rw [e,zlN s w r]
  simp
def counts (w:Bool) (D:List Int):List Int:=D.filter fun d=>w||d == 0||d == 1||d == 2
theorem zpJ {s:jN} {D:List Int} {day:Int} (h0:0≤s.day) (h1:s.day≤day) (h2:day≤100000) (hD:∀ d,d∈D→0≤d∧d < 7):ZT [s] (zhZ s D day) 0=(day,counts (s.kind == 1) D,D,s.kind == 1):=by
 have hl:(zhZ s D day).length=D.length+2:=by simp [zhZ]
 unfold ZT
 rw [zn7 h0 h1 h2 hD,zjg _ _ _ _ (fun i hi=>by simp only [List.getD,List.getElem?_replicate]; split <;> rfl) _ (Nat.le_refl _),List.take_length]
 unfold zhZ
 rw [List.cons_append,List.foldl_cons]
 have e:yB 0 (0,[],[],(([s].getD (0:Int).toNat default).kind == 1)) ({ kind:=0,suit:=0,day:=s.day,no:=0 }:Move) 0=(0,[],[],s.kind == 1):=by
  unfold yB; rw [if_neg (by simp),if_neg (by simp),if_neg (by simp),if_neg (by simp)]; rfl
 rw [e,List.foldl_append,zlN]
 simp only [List.foldl_cons,List.foldl_nil,List.nil_append]
 unfold yB; rw [if_neg (by simp),if_neg (by simp),if_neg (by simp),if_pos rfl]
 rfl
theorem zoQ {r:jg} {files:List jh} {s:jN} {moves:List Move} (hc:gk r files [s] []=0) (hl:moves.length≤100) (hs:(vf [s] moves (Ku [s])).2.2.1.getD 0 default=3):GV r files [s] moves 0=(awT r files s 0 (ZT [s] moves 0).1 (ZT [s] moves 0).2.1,0):=by
 refine WW r files [s] moves 0 ?_ ⟨by omega,by simp⟩ hs
 have:=(Ju r files [s] []).1 hc
 exact (Ju r files [s] moves).2 ⟨⟨this.1.1,this.1.2.1,hl⟩,this.2⟩
theorem zjC {r:jg} {files:List jh} {s:jN} {D:List Int} {day:Int} (hc:gk r files [s] []=0) (hl:D.length≤8) (h1:s.day≤day) (h2:day≤100000) (hD:∀ d,d∈D→0≤d∧d < 7):GV r files [s] (zhZ s D day) 0=(awT r files s 0 day (counts (s.kind == 1) D),0):=by
 have h0:0≤s.day:=(((Ju r files [s] []).1 hc).2.2 0 (by simp)).2.2.2.2.2.2.1.1
 rw [zoQ hc (by simp [zhZ]; omega) (by rw [zn7 h0 h1 h2 hD]; rfl),zpJ h0 h1 h2 hD]
theorem zp5 {r:jg} {forum:Int} {f:jh} {day:Int} (hF:jU r f) (hR:r.RateOK) {c:Claim} (h:c∈uK r forum f day):ClP c:=by
 rw [Yf r forum f day hF] at h
 obtain ⟨c0,h0,rfl⟩:=List.mem_map.1 h
 have h1:=(List.mem_filter.1 h0).1
 have s:=(Xa r forum f day).sums (fun x hx=>⟨(zc5 hF hR hx).2.2.2.2.2.2.1,(zc5 hF hR hx).2.2.2.2.2.1⟩) c0 h1
 unfold zap
 cases zB r forum f c0 day == 2 with
 | false=>exact s
 | true=>exact ⟨s.1,.inr rfl⟩
structure Mx (P:Claim→Prop) (l:List Claim) (n:Nat) (v:Int):Prop where
 ex:v = -1∨∃ i,i < n∧P (l.getD i default)∧v=(l.getD i default).sum
 le:∀ i,i < n→P (l.getD i default)→(l.getD i default).sum≤v
theorem Mx.init (P:Claim→Prop) (l:List Claim):Mx P l 0 (-1):=⟨.inl rfl,fun i h=>absurd h (by omega)⟩
theorem Mx.yes {P:Claim→Prop} {l:List Claim} {n:Nat} {v:Int} (h:Mx P l n v) (hp:P (l.getD n default)):Mx P l (n+1) (jP v (l.getD n default).sum):=by
 have m:∀ a b:Int,a≤jP a b∧b≤jP a b∧(jP a b=a∨jP a b=b):=fun a b=>by unfold jP; split <;> omega
 obtain ⟨m1,m2,m3⟩:=m v (l.getD n default).sum
 refine ⟨?_,fun i hi hP=>?_⟩
 ·rcases m3 with e | e
  ·rw [e]
   rcases h.ex with h | ⟨i,a,b⟩
   ·exact .inl h
   ·exact .inr ⟨i,by omega,b⟩
  ·exact .inr ⟨n,by omega,hp,e⟩
 ·rcases Nat.lt_succ_iff_lt_or_eq.1 hi with h1 | rfl
  ·have:=h.le i h1 hP; omega
  ·exact m2
theorem Mx.no {P:Claim→Prop} {l:List Claim} {n:Nat} {v:Int} (h:Mx P l n v) (hp:¬ P (l.getD n default)):Mx P l (n+1) v:=by
 refine ⟨?_,fun i hi hP=>?_⟩
 ·rcases h.ex with h | ⟨i,a,b⟩
  ·exact .inl h
  ·exact .inr ⟨i,by omega,b⟩
 ·rcases Nat.lt_succ_iff_lt_or_eq.1 hi with h1 | rfl
  ·exact h.le i h1 hP
  ·exact absurd hP hp
def zqQ (s:jN) (c:Claim):Prop:=Hd s c∧c.state=1
def zop (s:jN) (c:Claim):Prop:=Hd s c∧c.state≠1
def ZZ (y o:Int):Int × Int:=if 0≤y then (1,y) else if 0≤o then (2,o) else (0,0)
theorem zoi {k cur:Int} {bm:List (Int × Int) × List (Int × Bool)} (h:kf bm.2 1 false=true):FP k cur bm = { suit:=k,sum:=kf bm.1 1 0,currency:=cur,state:=1 }:=if_pos h
theorem zox {k cur:Int} {bm:List (Int × Int) × List (Int × Bool)} (h:¬ kf bm.2 1 false=true) (h2:kf bm.2 2 false=true):FP k cur bm = { suit:=k,sum:=kf bm.1 2 0,currency:=cur,state:=2 }:=(if_neg h).trans (if_pos h2)
theorem zn6 {k cur:Int} {bm:List (Int × Int) × List (Int × Bool)} (h:¬ kf bm.2 1 false=true) (h2:¬ kf bm.2 2 false=true):FP k cur bm = { suit:=k,sum:=0,currency:=cur,state:=0 }:=(if_neg h).trans (if_neg h2)
theorem zjM {x:jB} {l:List Claim} (hl:∀ i,i < l.length→ClP (l.getD i default)) {y o cur:Int} (hy:Mx (zqQ x.s) l l.length y) (ho:Mx (zop x.s) l l.length o) :
  FP 0 cur (qa x [] l l.length) = { suit:=0,sum:=(ZZ y o).2,currency:=cur,state:=(ZZ y o).1 }:=by
 have t1:=zlI x [] l 1 l.length
 have t2:=zlI x [] l 2 l.length
 have st:∀ c,zaX x c []=c.state:=fun c=>rfl
 unfold ZZ
 by_cases h1:kf (qa x [] l l.length).2 1 false=true
 ·rw [zoi h1]
  obtain ⟨i,a,b,c⟩:=t1.has.1 h1
  have hs:=(hl i a).1
  unfold yO at hs
  have g1:=hy.le i a ⟨b,c⟩
  rw [if_pos (by omega)]
  have g2:kf (qa x [] l l.length).1 1 0=y:=by
   have g3:kf (qa x [] l l.length).1 1 0≤y:=by
    rcases t1.eq with e | ⟨j,ja,jb,jc,jd⟩
    ·omega
    ·rw [← jd]; exact hy.le j ja ⟨jb,jc⟩
   rcases hy.ex with e | ⟨j,ja,jb,jc⟩
   ·omega
   ·have:=t1.le j ja jb.1 jb.2
    omega
  rw [g2]
 ·have n1:¬ 0≤y:=by
   intro h
   rcases hy.ex with e | ⟨j,ja,jb,jc⟩
   ·omega
   ·exact h1 (t1.has.2 ⟨j,ja,jb.1,jb.2⟩)
  rw [if_neg n1]
  by_cases h2:kf (qa x [] l l.length).2 2 false=true
  ·rw [zox h1 h2]
   obtain ⟨i,a,b,c⟩:=t2.has.1 h2
   have hs:=(hl i a).1
   unfold yO at hs
   rw [st] at c
   have g1:=ho.le i a ⟨b,by rw [c]; omega⟩
   rw [if_pos (by omega)]
   have g2:kf (qa x [] l l.length).1 2 0=o:=by
    have g3:kf (qa x [] l l.length).1 2 0≤o:=by
     rcases t2.eq with e | ⟨j,ja,jb,jc,jd⟩
     ·omega
     ·rw [st] at jc
      rw [← jd]; exact ho.le j ja ⟨jb,by rw [jc]; omega⟩
    rcases ho.ex with e | ⟨j,ja,jb,jc⟩
    ·omega
    ·have:=t2.le j ja jb.1 (by rcases (hl j ja).2 with q | q; exact absurd q jb.2; exact q)
     omega
   rw [g2]
  ·rw [zn6 h1 h2]
   rw [if_neg]
   intro h
   rcases ho.ex with e | ⟨j,ja,jb,jc⟩
   ·omega
   ·exact h2 (t2.has.2 ⟨j,ja,jb.1,by rcases (hl j ja).2 with q | q; exact absurd q jb.2; exact q⟩)
theorem zlu {x:jB} (D:List Int) {l:List Claim} (hl:∀ i,i < l.length→ClP (l.getD i default)) {y o cur:Int} (hy:Mx (zqQ x.s) l l.length y) (ho:Mx (zop x.s) l l.length o) {w:Jd} (hw:w=FP 0 cur (qa x D l l.length)) :
  (w.state=1→(ZZ y o).1=1∧w.sum≤(ZZ y o).2)∧w.sum≤jP 0 (jP y o)∧(w.state≠0∨w.sum=0)∧((ZZ y o).1≠0∨w.state=0):=by
 have t1:=zlI x D l 1 l.length
 have t2:=zlI x D l 2 l.length
 have m0:0≤jP 0 (jP y o)∧y≤jP 0 (jP y o)∧o≤jP 0 (jP y o):=by unfold jP; (repeat' split) <;> omega
 have y1:∀ j,j < l.length→Hd x.s (l.getD j default)→zaX x (l.getD j default) D=1→(l.getD j default).sum≤y∧0≤y:=by
  intro j ja jb jc
  have hc:=hl j ja
  have:=hy.le j ja ⟨jb,((zpD hc.2 D).1 jc).1⟩
  have hs:=hc.1
  unfold yO at hs
  omega
 have y2:∀ j,j < l.length→Hd x.s (l.getD j default)→0≤(l.getD j default).sum∧((l.getD j default).sum≤y∨(l.getD j default).sum≤o):=by
  intro j ja jb
  have hc:=hl j ja
  have hs:=hc.1
  unfold yO at hs
  refine ⟨by omega,?_⟩
  by_cases h:(l.getD j default).state=1
  ·exact .inl (hy.le j ja ⟨jb,h⟩)
  ·exact .inr (ho.le j ja ⟨jb,h⟩)
 subst hw
 by_cases h1:kf (qa x D l l.length).2 1 false=true
 ·rw [zoi h1]
  obtain ⟨i,a,b,c⟩:=t1.has.1 h1
  have g:=y1 i a b c
  have gm:kf (qa x D l l.length).1 1 0≤y:=by
   rcases t1.eq with e | ⟨j,ja,jb,jc,jd⟩
   ·omega
   ·rw [← jd]; exact (y1 j ja jb jc).1
  have hb:ZZ y o=(1,y):=by unfold ZZ; rw [if_pos g.2]
  rw [hb]
  exact ⟨fun _=>⟨rfl,gm⟩,by show kf (qa x D l l.length).1 1 0≤_; omega,.inl (by simp),.inl (by simp)⟩
 ·by_cases h2:kf (qa x D l l.length).2 2 false=true
  ·rw [zox h1 h2]
   obtain ⟨i,a,b,c⟩:=t2.has.1 h2
   have g:=y2 i a b
   refine ⟨fun h=>absurd h (by simp),?_,.inl (by simp),.inl ?_⟩
   ·show kf (qa x D l l.length).1 2 0≤_
    rcases t2.eq with e | ⟨j,ja,jb,jc,jd⟩
    ·omega
    ·have:=y2 j ja jb
     rw [← jd]; omega
   ·unfold ZZ
    split
    ·simp
    ·rw [if_pos (by omega)]; simp
  ·rw [zn6 h1 h2]
   exact ⟨fun h=>absurd h (by simp),by simp only; omega,.inr rfl,.inr rfl⟩
def zh (r:jg) (files:List jh) (s:jN) (defences:List Int) (day:Int):Sk (Bool) :=
 .r 1 Hy.c fun x1 =>
 .r 2 (.o [.nrm (qt jN.E [s])]) fun _ =>
 .r 3 (.dep (((zcj r files [s] []).nil 3 ⟨_,rfl⟩).c) fun x2=>.wh ((((!x2)||(decide (((defences.length:Nat):Int) > 8)))||(decide (day < s.day)))||(decide (day > 100000))) false (((vD r files [s] []).nil 3 ⟨_,rfl⟩).c)) fun p16 =>
 .br (((((!p16.1)||(decide (((defences.length:Nat):Int) > 8)))||(decide (day < s.day)))||(decide (day > 100000)))||(p16.2 != 0))
 (.fin x1)
 (.bind true (fun b4=>∀ q,q < defences.length→0≤defences.getD q default∧defences.getD q default < 7)
 (.loop (default:Sum (Bool) (Unit)) (fun i5=>i5≤defences.length∧∀ q,q < i5→0≤defences.getD q default∧defences.getD q default < 7) (fun i5=>defences.length - i5) (0:Nat)
 (fun (i5:Nat)=>⟨[(13,iv (i5:Int))],[]⟩) fun i5 =>
 .bnd 3 0 defences.length <|
 .br (decide ((i5:Int) < ((defences.length:Nat):Int)))
 (.r 8 (.andl (.p (ixP (i5:Int) defences.length)) (.wh (decide ((defences.getD i5 default) < 0)) false (.p (ixP (i5:Int) defences.length)))) fun _ =>
 .br ((decide ((defences.getD i5 default) < 0))||(decide ((defences.getD i5 default)≥7)))
 (.fin (.inl (.inl x1)))
 (.r 7 .z fun _ =>
 .wi 13 (w64 ((i5:Int)+1)) ((i5+1:Nat):Int) <|
 .fin (.inr (i5+1))))
 (.fin (.inl (.inr ()))))
 (fun (_:Unit)=>⟨[],[]⟩) fun _ =>
 .r 10 (.dep (((Ve s [] day).nil 1 ⟨_,rfl⟩).c) fun x6=>(gu r files [s] x6 0).c) fun p15 =>
 .r 11 (.dep ((Ve s defences day).c) fun x8=>(gu r files [s] x8 0).c) fun p14 =>
 .r 12 (.andl (.p (ixP s.file files.length)) ((zd r s.forum (files.getD s.file.toNat default) day).c)) fun x10 =>
 .bind true (fun b11=>Mx (zqQ s) x10 x10.length b11.1∧Mx (zop s) x10 x10.length b11.2)
 (.loop (default:Sum (Bool) (Int × Int)) (fun i12=>i12.2.2≤x10.length∧Mx (zqQ s) x10 i12.2.2 i12.1∧Mx (zop s) x10 i12.2.2 i12.2.1) (fun i12=>x10.length - i12.2.2) (((-1),(-1),0):Int × Int × Nat)
 (fun (i12:Int × Int × Nat)=>⟨[(19,iv i12.1),(20,iv i12.2.1),(21,iv (i12.2.2:Int))],[]⟩) fun i12 =>
 .bnd 18 0 x10.length <|
 .br (decide ((i12.2.2:Int) < ((x10.length:Nat):Int)))
 (.r 18 (.p (ixP (i12.2.2:Int) x10.length)) fun _ =>
 .br (((((x10.getD i12.2.2 default).debtor) == s.defendant)&&(((x10.getD i12.2.2 default).creditor) == s.plaintiff))&&(((x10.getD i12.2.2 default).sign) == s.sign))
 (.br (((x10.getD i12.2.2 default).state) == 1)
 (.r 17 .z fun _ =>
 .wi 21 (w64 ((i12.2.2:Int)+1)) ((i12.2.2+1:Nat):Int) <|
 .fin (.inr (jP i12.1 ((x10.getD i12.2.2 default).sum),i12.2.1,i12.2.2+1)))
 (.r 17 .z fun _ =>
 .wi 21 (w64 ((i12.2.2:Int)+1)) ((i12.2.2+1:Nat):Int) <|
 .fin (.inr (i12.1,jP i12.2.1 ((x10.getD i12.2.2 default).sum),i12.2.2+1))))
 (.r 17 .z fun _ =>
 .wi 21 (w64 ((i12.2.2:Int)+1)) ((i12.2.2+1:Nat):Int) <|
 .fin (.inr (i12.1,i12.2.1,i12.2.2+1))))
 (.fin (.inl (.inr (i12.1,i12.2.1)))))
 (fun (b11:Int × Int)=>⟨[(19,iv b11.1),(20,iv b11.2)],[]⟩) fun b11 =>
 .r 23 (.wh (((p15.2.2 != 0)||(p14.2.2 != 0))||(p15.2.1.suit != 0)) false (.p (ixP s.file files.length))) fun _ =>
 .br ((((p15.2.2 != 0)||(p14.2.2 != 0))||(p15.2.1.suit != 0))||(p15.2.1.currency != (((files.getD s.file.toNat default).bill).currency)))
 (.fin false)
 (.bind false (fun b13=>(b13.1,b13.2)=ZZ b11.1 b11.2)
 (.br (decide (b11.1≥0))
 (.fin (.inr (1,b11.1)))
 (.br (decide (b11.2≥0))
 (.fin (.inr (2,b11.2)))
 (.fin (.inr (0,0)))))
 (fun (b13:Int × Int)=>⟨[(23,iv b13.1),(24,iv b13.2)],[]⟩) fun b13 =>
 .br (((p15.2.1.state != b13.1)||(p15.2.1.sum != b13.2))||((p14.2.1.state == 1)&&((b13.1 != 1)||(decide (p14.2.1.sum > b13.2)))))
 (.fin false)
 (.fin (((x1&&(decide (p14.2.1.sum≤(jP 0 (jP b11.1 b11.2)))))&&((p14.2.1.state != 0)||(p14.2.1.sum == 0)))&&((b13.1 != 0)||(p14.2.1.state == 0))))))
def gh (r:jg) (files:List jh) (s:jN) (defences:List Int) (day:Int):Bool:=(zh r files s defences day).val
theorem Bt (r:jg) (files:List jh) (s:jN) (defences:List Int) (day:Int):(zh r files s defences day).pst (fun (x:Bool)=>x=true):=by
 refine Sk.pst_of _ ?_
 unfold zh
 simp only [Sk.pstq,Sk.isLoop,reduceCtorEq,ON,kk,zcj,Ve,Hy,zd,gu,vD,maxLen]
 all_goals simp only [LN] at *
 have nx:∀ {p:Nat→Prop} {i:Nat},(∀ q,q < i→p q)→p i→∀ q,q < i+1→p q:=fun h h0 q hq=>by
  rcases Nat.lt_succ_iff_lt_or_eq.1 hq with h1 | rfl
  ·exact h q h1
  ·exact h0
 intro x1 _ hx1 _ p hp hfew
 refine ⟨fun _=>hx1,fun hc=>⟨⟨⟨Nat.zero_le _,fun q hq=>absurd hq (by omega)⟩,fun i hi=>⟨fun hlt _=>⟨fun _=>hx1,fun h _=>⟨⟨by omega,nx hi.2 h⟩,by omega⟩⟩,fun hge q hq=>hi.2 q (by omega)⟩⟩,fun _ hD=>?_⟩⟩
 obtain ⟨⟨⟨⟨f1,f2⟩,f3⟩,f4⟩,f5⟩:=hc
 obtain ⟨r1,r2,r3,r4,r5,r6⟩:=hfew.1 f1
 have hck:gk r files [s] []=0:=by rw [hp] at f5; exact f5
 obtain ⟨c1,c2,c3⟩:=hfew.2.1 f5
 have hS:KA r files.length s:=c3 0 (by omega)
 have hfile:0≤s.file∧s.file < (files.length:Int):=by unfold KA at hS; omega
 have hF:jU r (files.getD s.file.toNat default):=(gz r _ r5 (c2 s.file.toNat (by omega))).1
 have hDm:∀ d,d∈defences→0≤d∧d < 7:=by
  intro d hd
  obtain ⟨q,hq,rfl⟩:=List.getElem_of_mem hd
  have:=hD q hq
  rwa [List.getD_eq_getElem?_getD,List.getElem?_eq_getElem hq] at this
 intro x3 h3 _ x4 h4 _ l hl _
 have v3:x3.2=(awT r files s 0 day [],0):=by
  rw [h3,show WL s [] day=zhZ s [] day from ZD s [] day]
  exact zjC hck (by simp) f3 f4 (fun d h=>by simp at h)
 have v4:x4.2=(awT r files s 0 day (counts (s.kind == 1) defences),0):=by
  rw [h4,show WL s defences day=zhZ s defences day from ZD s defences day]
  exact zjC hck (by omega) f3 f4 hDm
 have hcl:∀ i,i < l.length→ClP (l.getD i default):=by
  intro i hi
  refine zp5 (r:=r) (forum:=s.forum) (day:=day) hF r4 ?_
  rw [← hl,List.getD_eq_getElem?_getD,List.getElem?_eq_getElem hi]
  exact List.getElem_mem _
 have at':∀ D,awT r files s 0 day D=FP 0 (files.getD s.file.toNat default).bill.currency (qa (zaR r files s day) D l l.length):=fun D=>by rw [hl]; rfl
 refine ⟨⟨⟨Nat.zero_le _,Mx.init _ _,Mx.init _ _⟩,fun i hi=>⟨fun hc _=>⟨fun hI=>⟨fun hs _=>⟨⟨by omega,hi.2.1.yes ⟨⟨hI.1.1,hI.1.2,hI.2⟩,hs⟩,hi.2.2.no (fun q=>q.2 hs)⟩,by omega⟩,fun hs _=>⟨⟨by omega,hi.2.1.no (fun q=>hs q.2),hi.2.2.yes ⟨⟨hI.1.1,hI.1.2,hI.2⟩,hs⟩⟩,by omega⟩⟩,fun hI _=>⟨⟨by omega,hi.2.1.no ?_,hi.2.2.no ?_⟩,by omega⟩⟩,fun hc=>?_⟩⟩,fun b hb _=>?_⟩
 ·exact fun q=>hI.elim (fun a=>a.elim (fun a=>a q.1.1) (fun a=>a q.1.2.1)) (fun a=>a q.1.2.2)
 ·exact fun q=>hI.elim (fun a=>a.elim (fun a=>a q.1.1) (fun a=>a q.1.2.1)) (fun a=>a q.1.2.2)
 ·have e:i.2.2=l.length:=by omega
  have:=hi.2
  rwa [e] at this
 have hP:=zjM (x:=zaR r files s day) hcl hb.1 hb.2 (cur:=(files.getD s.file.toNat default).bill.currency)
 have hW:=zlu (x:=zaR r files s day) (counts (s.kind == 1) defences) hcl hb.1 hb.2 (cur:=(files.getD s.file.toNat default).bill.currency) rfl
 rw [← at'] at hP hW
 rw [v3,v4,hP]
 generalize awT r files s 0 day (counts (s.kind == 1) defences)=w at hW ⊢
 obtain ⟨w1,w2,w3,w4⟩:=hW
 refine ⟨fun h=>?_,fun _=>⟨⟨fun h=>?_,fun h=>⟨fun h2=>?_,fun h2=>?_⟩⟩,fun b1 _ hb1=>⟨fun h=>?_,fun h=>?_⟩⟩⟩
 ·simp only [ne_eq,not_true_eq_false,or_self] at h
 ·unfold ZZ; rw [if_pos h]
 ·unfold ZZ; rw [if_neg (by omega),if_pos h2]
 ·unfold ZZ; rw [if_neg (by omega),if_neg (by omega)]
 ·rw [← hb1] at h w1
  rcases h with (h | h) | ⟨h1,h2⟩
  ·exact h rfl
  ·exact h rfl
  ·obtain ⟨k1,k2⟩:=w1 h1
   rcases h2 with h2 | h2
   ·exact h2 k1
   ·have h3:w.sum > b1.2:=h2
    omega
 ·rw [← hb1] at w4
  exact ⟨⟨⟨hx1,w2⟩,w3⟩,w4⟩
theorem ZY (r:jg) (files:List jh) (s:jN) (defences:List Int) (day:Int):(fun (x:Bool)=>x=true) (gh r files s defences day):=have h:=Sk.pval _ (Bt r files s defences day); h
theorem zbe (r:jg) (files:List jh) (s:jN) (defences:List Int) (day:Int):(zh r files s defences day).obs (fun _=>True):=by
 refine Sk.obs_of _ ?_
 unfold zh
 simp only [Sk.obq,Sk.isLoop,reduceCtorEq,ON,kk,zcj,Ve,Hy,zd,gu,vD,maxLen]
 all_goals simp only [LN] at *
 have nx:∀ {p:Nat→Prop} {i:Nat},(∀ q,q < i→p q)→p i→∀ q,q < i+1→p q:=fun h h0 q hq=>by
  rcases Nat.lt_succ_iff_lt_or_eq.1 hq with h1 | rfl
  ·exact h q h1
  ·exact h0
 have wi:∀ n m:Nat,n < m→m≤9223372036854775807→w64 ((n:Int)+1)=((n+1:Nat):Int):=fun n m h h0=>by rw [jj (by omega) (by omega)]; omega
 intro x1 _ hx1 _
 refine ⟨fun y _ hy h=>(hy h.1.1.1).1,fun p hp hfew hc=>?_⟩
 obtain ⟨⟨⟨⟨f1,f2⟩,f3⟩,f4⟩,f5⟩:=hc
 obtain ⟨r1,r2,r3,r4,r5,r6⟩:=hfew.1 f1
 obtain ⟨c1,c2,c3⟩:=hfew.2.1 f5
 have hS:KA r files.length s:=c3 0 (by omega)
 have hfile:0≤s.file∧s.file < (files.length:Int):=by unfold KA at hS; omega
 have hF:jU r (files.getD s.file.toNat default):=(gz r _ r5 (c2 s.file.toNat (by omega))).1
 refine ⟨⟨⟨Nat.zero_le _,fun q hq=>absurd hq (by omega)⟩,fun i hi hm=>⟨fun hlt=>⟨⟨⟨by omega,by omega⟩,fun _=>⟨by omega,by omega⟩⟩,fun _ h _=>⟨wi _ _ (by omega) hm,⟨by omega,nx hi.2 h⟩,by omega⟩⟩,fun hge q hq=>hi.2 q (by omega)⟩⟩,fun _ hD=>⟨⟨by omega,fun _ _ _=>⟨r1,r2,r3,r4,r5,r6⟩⟩,fun x3 _ _=>⟨⟨by omega,fun _ _ _=>⟨r1,r2,r3,r4,r5,r6⟩⟩,fun x4 _ _=>⟨⟨⟨by omega,by omega⟩,hF,r6 c1.1 _ (by omega),r2,r1,r3,r4⟩,fun l _ _=>?_⟩⟩⟩⟩
 refine ⟨⟨⟨Nat.zero_le _,Mx.init _ _,Mx.init _ _⟩,fun i hi hm=>⟨fun hc=>⟨⟨by omega,by omega⟩,fun _=>⟨fun hI=>⟨fun hs _=>⟨wi _ _ (by omega) hm,⟨by omega,hi.2.1.yes ⟨⟨hI.1.1,hI.1.2,hI.2⟩,hs⟩,hi.2.2.no (fun q=>q.2 hs)⟩,by omega⟩,fun hs _=>⟨wi _ _ (by omega) hm,⟨by omega,hi.2.1.no (fun q=>hs q.2),hi.2.2.yes ⟨⟨hI.1.1,hI.1.2,hI.2⟩,hs⟩⟩,by omega⟩⟩,fun hI _=>⟨wi _ _ (by omega) hm,⟨by omega,hi.2.1.no ?_,hi.2.2.no ?_⟩,by omega⟩⟩⟩,fun hc=>?_⟩⟩,fun b hb=>⟨fun _=>⟨by omega,by omega⟩,fun _ _=>⟨fun h=>?_,fun h=>⟨fun h2=>?_,fun h2=>?_⟩⟩⟩⟩
 ·exact fun q=>hI.elim (fun a=>a.elim (fun a=>a q.1.1) (fun a=>a q.1.2.1)) (fun a=>a q.1.2.2)
 ·exact fun q=>hI.elim (fun a=>a.elim (fun a=>a q.1.1) (fun a=>a q.1.2.1)) (fun a=>a q.1.2.2)
 ·have e:i.2.2=l.length:=by omega
  have:=hi.2
  rwa [e] at this
 ·unfold ZZ; rw [if_pos h]
 ·unfold ZZ; rw [if_neg (by omega),if_pos h2]
 ·unfold ZZ; rw [if_neg (by omega),if_neg (by omega)]
def zcw (r:jg) (files:List jh) (s:jN) (defences:List Int) (day:Int):Ctr (Bool):=kk tok mixed Tryz.func4 [av r.cells,lv jh.cells files,av s.cells,lv jA defences,iv day] (fun x=>bv x) true (zh r files s defences day) (gh r files s defences day) (fun (_:True)=>zbe r files s defences day) (fun (x:Bool)=>x=true) (ZY r files s defences day)
theorem zaP (r:jg) (files:List jh) (s:jN) (defences:List Int) (day:Int):FnA Tryz.prog 4 [av r.cells,lv jh.cells files,av s.cells,lv jA defences,iv day] [] (bv (gh r files s defences day)) []:=(zcw r files s defences day).pf trivial
end
end Go.Proofs.YtilbddpghnnmhaaGreatDoor
