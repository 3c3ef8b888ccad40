/- Functions, as sketches. -/
import Derived.Test.YtilbddpghnnmhaaGreatDoorSa16
namespace Go.Proofs.YtilbddpghnnmhaaGreatDoor
noncomputable section
open Go Go.Av
set_option linter.unusedSimpArgs false
set_option linter.unusedVariables false
set_option maxHeartbeats 1000000
set_option maxRecDepth 100000
def Jq (r:jg):Sk (Int) :=
 .r 1 ((WC r).c) fun x1 =>
 .bind false (fun b2=>b2=0→r.currencies.length≤8∧r.cities.length≤40∧r.groups.length≤20∧r.firms.length≤200∧r.FirmOK)
 (.br (x1 == 0)
 (.r 3 ((HF r).c) fun x3 =>
 .fin (.inr x3))
 (.fin (.inr x1)))
 (fun (b2:Int)=>⟨[(3,iv b2)],[]⟩) fun b2 =>
 .bind false (fun b4=>b4=0→r.currencies.length≤8∧r.cities.length≤40∧r.groups.length≤20∧r.firms.length≤200∧r.FirmOK∧r.ByOK∧r.orders.length≤20∧(∀ i,i < r.orders.length→(r.orders.getD i default).choices.length≤22∧(r.orders.getD i default).rules.length≤22))
 (.br (b2 == 0)
 (.r 5 ((Wx r).c) fun x5 =>
 .fin (.inr x5))
 (.fin (.inr b2)))
 (fun (b4:Int)=>⟨[(3,iv b4)],[]⟩) fun b4 =>
 .bind false (fun b6=>b6=0→r.currencies.length≤8∧r.cities.length≤40∧r.groups.length≤20∧r.firms.length≤200∧r.FirmOK∧r.ByOK∧r.orders.length≤20∧(∀ i,i < r.orders.length→(r.orders.getD i default).choices.length≤22∧(r.orders.getD i default).rules.length≤22)∧r.usances.length≤100)
 (.br (b4 == 0)
 (.r 7 ((Gg r).c) fun x7 =>
 .fin (.inr x7))
 (.fin (.inr b4)))
 (fun (b6:Int)=>⟨[(3,iv b6)],[]⟩) fun b6 =>
 .br (b6 == 0)
 (.r 9 ((WH r).c) fun x8 =>
 .fin x8)
 (.fin b6)
def zjl (r:jg):Int:=(Jq r).val
theorem zim (r:jg):(Jq r).pst (fun (x:Int)=>x=0→r.currencies.length≤8∧r.cities.length≤40∧r.groups.length≤20∧r.firms.length≤200∧r.FirmOK∧r.ByOK∧r.orders.length≤20∧(∀ i,i < r.orders.length→(r.orders.getD i default).choices.length≤22∧(r.orders.getD i default).rules.length≤22)∧r.usances.length≤100∧r.rates.length≤100∧r.halts.length≤20∧r.RateOK∧r.HaltOK):=by
 refine Sk.pst_of _ ?_
 unfold Jq
 simp only [Sk.pstq,Sk.isLoop,reduceCtorEq,ON,kk,WC,HF,Wx,WH,Gg,maxLen]
 intro x _ hx
 refine ⟨⟨fun h y _ hy h0=>?_,fun h h0=>?_⟩,fun b _ hb=>⟨⟨fun h y _ hy h0=>?_,fun h h0=>?_⟩,fun b2 _ hb2=>⟨⟨fun h y _ hy h0=>?_,fun h h0=>?_⟩,fun b3 _ hb3=>⟨fun h y _ hy h0=>?_,fun h h0=>?_⟩⟩⟩⟩
 ·have hx:=hx (by simpa using h); have hy:=hy hx.2 h0; exact ⟨hx.1,hx.2,hy⟩
 ·rw [h0] at h; exact absurd h (by decide)
 ·have hb:=hb (by simpa using h); exact ⟨hb.1,hb.2.1,hb.2.2.1,hb.2.2.2.1,hb.2.2.2.2,hy h0⟩
 ·rw [h0] at h; exact absurd h (by decide)
 ·have hb:=hb2 (by simpa using h); exact ⟨hb.1,hb.2.1,hb.2.2.1,hb.2.2.2.1,hb.2.2.2.2.1,hb.2.2.2.2.2.1,hb.2.2.2.2.2.2.1,hb.2.2.2.2.2.2.2,hy h0⟩
 ·rw [h0] at h; exact absurd h (by decide)
 ·have hb:=hb3 (by simpa using h); exact ⟨hb.1,hb.2.1,hb.2.2.1,hb.2.2.2.1,hb.2.2.2.2.1,hb.2.2.2.2.2.1,hb.2.2.2.2.2.2.1,hb.2.2.2.2.2.2.2.1,hb.2.2.2.2.2.2.2.2,hy h0⟩
 ·rw [h0] at h; exact absurd h (by decide)
theorem zf1 (r:jg):(fun (x:Int)=>x=0→r.currencies.length≤8∧r.cities.length≤40∧r.groups.length≤20∧r.firms.length≤200∧r.FirmOK∧r.ByOK∧r.orders.length≤20∧(∀ i,i < r.orders.length→(r.orders.getD i default).choices.length≤22∧(r.orders.getD i default).rules.length≤22)∧r.usances.length≤100∧r.rates.length≤100∧r.halts.length≤20∧r.RateOK∧r.HaltOK) (zjl r):=have h:=Sk.pval _ (zim r); h
theorem zkW (r:jg):(Jq r).obs (fun _=>True):=by
 refine Sk.obs_of _ ?_
 unfold Jq
 simp only [Sk.obq,Sk.isLoop,reduceCtorEq,ON,kk,WC,HF,Wx,WH,Gg,maxLen]
 intro x _ hx
 refine ⟨⟨fun h y _ hy h0=>?_,fun h h0=>?_⟩,fun b _ hb=>⟨⟨fun h y _ hy h0=>?_,fun h h0=>?_⟩,fun b2 _ hb2=>⟨fun h y _ hy h0=>?_,fun h h0=>?_⟩⟩⟩
 ·have hx:=hx (by simpa using h); have hy:=hy hx.2 h0; exact ⟨hx.1,hx.2,hy⟩
 ·rw [h0] at h; exact absurd h (by decide)
 ·have hb:=hb (by simpa using h); exact ⟨hb.1,hb.2.1,hb.2.2.1,hb.2.2.2.1,hb.2.2.2.2,hy h0⟩
 ·rw [h0] at h; exact absurd h (by decide)
 ·have hb:=hb2 (by simpa using h); exact ⟨hb.1,hb.2.1,hb.2.2.1,hb.2.2.2.1,hb.2.2.2.2.1,hb.2.2.2.2.2.1,hb.2.2.2.2.2.2.1,hb.2.2.2.2.2.2.2,hy h0⟩
 ·rw [h0] at h; exact absurd h (by decide)
def Hz (r:jg):Ctr (Int):=kk tok mixed Tryz.func22 [av r.cells] (fun x=>iv x) true (Jq r) (zjl r) (fun (_:True)=>zkW r) (fun (x:Int)=>x=0→r.currencies.length≤8∧r.cities.length≤40∧r.groups.length≤20∧r.firms.length≤200∧r.FirmOK∧r.ByOK∧r.orders.length≤20∧(∀ i,i < r.orders.length→(r.orders.getD i default).choices.length≤22∧(r.orders.getD i default).rules.length≤22)∧r.usances.length≤100∧r.rates.length≤100∧r.halts.length≤20∧r.RateOK∧r.HaltOK) (zf1 r)
def QJ (r:jg) (files:List jh) (suits:List jM) (moves:List Move):Sk (Bool) :=
 .r 1 (.dep ((zb2 r files suits moves).c) fun x1=>.wh x1 true ((Hz r).c)) fun p3 =>
 .fin (p3.1&&(p3.2 == 0))
def zoj (r:jg) (files:List jh) (suits:List jM) (moves:List Move):Bool:=(QJ r files suits moves).val
theorem zlL (r:jg) (files:List jh) (suits:List jM) (moves:List Move):(QJ r files suits moves).pst (fun (x:Bool)=>x=true→r.Small∧r.ByOK∧r.FirmOK∧r.RateOK∧r.firms.length≤200∧(files.length≤50→∀ q,q < files.length→(files.getD q default).Small)):=by
 refine Sk.pst_of _ ?_
 unfold QJ
 simp only [Sk.pstq,Sk.isLoop,reduceCtorEq,ON,kk,Hz,zb2,maxLen]
 intro x _ hx hc
 simp only [LN] at hc
 obtain ⟨a1,a2,a3,a4,a5,a6,a7,a8,a9,b1,b2,b3,b4⟩:=hx.2 hc.2
 exact ⟨(hx.1 hc.1).1,a6,a5,b3,a4,(hx.1 hc.1).2⟩
theorem zlg (r:jg) (files:List jh) (suits:List jM) (moves:List Move):(fun (x:Bool)=>x=true→r.Small∧r.ByOK∧r.FirmOK∧r.RateOK∧r.firms.length≤200∧(files.length≤50→∀ q,q < files.length→(files.getD q default).Small)) (zoj r files suits moves):=have h:=Sk.pval _ (zlL r files suits moves); h
theorem znC (r:jg) (files:List jh) (suits:List jM) (moves:List Move):(QJ r files suits moves).obs (fun _=>True):=by
 refine Sk.obs_of _ ?_
 unfold QJ
 simp only [Sk.obq,Sk.isLoop,reduceCtorEq,ON,kk,Hz,zb2,maxLen]
def zbJ (r:jg) (files:List jh) (suits:List jM) (moves:List Move):Ctr (Bool):=kk tok mixed Tryz.func10 [av r.cells,lv jh.cells files,lv jM.cells suits,lv Move.cells moves] (fun x=>bv x) true (QJ r files suits moves) (zoj r files suits moves) (fun (_:True)=>znC r files suits moves) (fun (x:Bool)=>x=true→r.Small∧r.ByOK∧r.FirmOK∧r.RateOK∧r.firms.length≤200∧(files.length≤50→∀ q,q < files.length→(files.getD q default).Small)) (zlg r files suits moves)
def VJ (d:Int):Sk (Bool) :=
 .fin (((d == 0)||(d == 1))||(d == 2))
def zjk (d:Int):Bool:=(VJ d).val
theorem zaN (d:Int):zjk d=(((d == 0)||(d == 1))||(d == 2)):=rfl
theorem zki (d:Int):(VJ d).obs (fun _=>True):=by
 unfold VJ
 exact okE
def XL (d:Int):Ctr (Bool):=kk tok mixed Tryz.func15 [iv d] (fun x=>bv x) true (VJ d) (zjk d) (fun (_:True)=>zki d)
def vZ (s:jM) (defences:List Int) (day:Int):Sk ((List Move)) :=
 .r 1 (.o [.nrm (qk Move.E [({ kind:=0,suit:=0,day:=s.day,no:=0 }:Move)])]) fun _ =>
 .bind true (fun b1=>b1=(({ kind:=0,suit:=0,day:=s.day,no:=0 }:Move) :: (defences.map fun d=>({ kind:=1,suit:=0,day:=s.day,no:=d }:Move))))
 (.loop (default:Sum ((List Move)) ((List Move))) (fun i2=>i2.2≤defences.length∧i2.1=(({ kind:=0,suit:=0,day:=s.day,no:=0 }:Move) :: ((defences.take i2.2).map fun d=>({ kind:=1,suit:=0,day:=s.day,no:=d }:Move)))) (fun i2=>defences.length - i2.2) (([({ kind:=0,suit:=0,day:=s.day,no:=0 }:Move)],0):(List Move) × Nat)
 (fun (i2:(List Move) × Nat)=>⟨[(7,ow 100002 i2.1),(8,iv (i2.2:Int))],[(100002,jz 32 4 Move.cells i2.1)]⟩) fun i2 =>
 .bnd 1 0 defences.length <|
 .br (decide ((i2.2:Int) < ((defences.length:Nat):Int)))
 (.r 5 (.andl (.p (ixP (i2.2:Int) defences.length)) (.andl (.o [.nrm (qk Move.E [({ kind:=1,suit:=0,day:=s.day,no:=defences.getD i2.2 default }:Move)])]) (.andl (.o [.nrm (gy Move.E i2.1 [({ kind:=1,suit:=0,day:=s.day,no:=defences.getD i2.2 default }:Move)])]) (.andl (.t (Move.E.ones [({ kind:=1,suit:=0,day:=s.day,no:=defences.getD i2.2 default }:Move)])) (.p (szP i2.1.length [({ kind:=1,suit:=0,day:=s.day,no:=defences.getD i2.2 default }:Move)].length 32)))))) fun _ =>
 .r 4 .z fun _ =>
 .wi 8 (w64 ((i2.2:Int)+1)) ((i2.2+1:Nat):Int) <|
 .fin (.inr (i2.1++[({ kind:=1,suit:=0,day:=s.day,no:=defences.getD i2.2 default }:Move)],i2.2+1)))
 (.fin (.inl (.inr i2.1))))
 (fun (b1:(List Move))=>⟨[(7,ow 100001 b1)],[(100001,jz 32 4 Move.cells b1)]⟩) fun b1 =>
 .r 6 (.andl (.o [.nrm (qk Move.E [({ kind:=4,suit:=0,day:=day,no:=0 }:Move)])]) (.andl (.o [.nrm (gy Move.E b1 [({ kind:=4,suit:=0,day:=day,no:=0 }:Move)])]) (.andl (.t (Move.E.ones [({ kind:=4,suit:=0,day:=day,no:=0 }:Move)])) (.p (szP b1.length [({ kind:=4,suit:=0,day:=day,no:=0 }:Move)].length 32))))) fun _ =>
 .fin (b1++[({ kind:=4,suit:=0,day:=day,no:=0 }:Move)])
def gz (s:jM) (defences:List Int) (day:Int):(List Move):=(vZ s defences day).val
theorem zgS (s:jM) (defences:List Int) (day:Int):(vZ s defences day).pst (fun (x:(List Move))=>x=(({ kind:=0,suit:=0,day:=s.day,no:=0 }:Move) :: (defences.map fun d=>({ kind:=1,suit:=0,day:=s.day,no:=d }:Move)))++[({ kind:=4,suit:=0,day:=day,no:=0 }:Move)]):=by
 refine Sk.pst_of _ ?_
 unfold vZ
 simp only [Sk.pstq,Sk.isLoop,reduceCtorEq,ON,kk,maxLen]
 all_goals simp only [LN] at *
 refine fun _=>⟨⟨⟨Nat.zero_le _,rfl⟩,fun i hi=>⟨fun hc _ _=>⟨⟨by omega,?_⟩,by omega⟩,fun hc=>?_⟩⟩,fun b hb _=>by rw [hb]⟩
 ·rw [yE (by omega),List.map_append,← List.cons_append,← hi.2]; rfl
 ·rw [hi.2,List.take_of_length_le (by omega)]
theorem JT (s:jM) (defences:List Int) (day:Int):(fun (x:(List Move))=>x=(({ kind:=0,suit:=0,day:=s.day,no:=0 }:Move) :: (defences.map fun d=>({ kind:=1,suit:=0,day:=s.day,no:=d }:Move)))++[({ kind:=4,suit:=0,day:=day,no:=0 }:Move)]) (gz s defences day):=have h:=Sk.pval _ (zgS s defences day); h
theorem FZ (s:jM) (defences:List Int) (day:Int) (hd:defences.length≤100):(vZ s defences day).obs (fun _=>True):=by
 refine Sk.obs_of _ ?_
 unfold vZ
 simp only [Sk.obq,Sk.isLoop,reduceCtorEq,ON,kk,maxLen]
 all_goals simp only [LN] at *
 refine fun _=>⟨⟨⟨Nat.zero_le _,rfl⟩,fun i hi _=>⟨fun hc=>⟨⟨⟨by omega,by omega⟩,?_⟩,fun _ _=>⟨?_,⟨by omega,?_⟩,by omega⟩⟩,fun hc=>?_⟩⟩,fun b hb=>?_⟩
 ·have:i.1.length≤101:=by rw [hi.2,List.length_cons,List.length_map,List.length_take]; omega
  omega
 ·rw [jj (by omega) (by omega)]; omega
 ·rw [yE (by omega),List.map_append,← List.cons_append,← hi.2]; rfl
 ·rw [hi.2,List.take_of_length_le (by omega)]
 ·have:b.length≤101:=by rw [hb,List.length_cons,List.length_map]; omega
  omega
def KI (s:jM) (defences:List Int) (day:Int):Ctr ((List Move)):=kk tok mixed Tryz.func13 [av s.cells,lv jC defences,iv day] (fun x=>lv Move.cells x) false (vZ s defences day) (gz s defences day) (fun (h:(defences.length≤100))=>FZ s defences day h) (fun (x:(List Move))=>x=(({ kind:=0,suit:=0,day:=s.day,no:=0 }:Move) :: (defences.map fun d=>({ kind:=1,suit:=0,day:=s.day,no:=d }:Move)))++[({ kind:=4,suit:=0,day:=day,no:=0 }:Move)]) (JT s defences day)
theorem zg4 (s:jM) (defences:List Int) (day:Int) (hd:defences.length≤100):FnA Tryz.prog 13 [av s.cells,lv jC defences,iv day] [] (ow 777777 (gz s defences day)) [(777777,jz 32 4 Move.cells (gz s defences day))] :=
 FnA.sk tok mixed (fun x=>ow 777777 x) (fun x=>[(777777,jz 32 4 Move.cells x)]) Tryz.func13 rfl (by kernel_rfl) 3000 (vZ s defences day) (by kernel_rfl) (FZ s defences day hd)
def Ge (κ:Nat) (s:jM) (defences:List Int) (day:Int):vT ((List Move)):=⟨Tryz.prog,13,[av s.cells,lv jC defences,iv day],fun x=>ow κ x,fun x=>[(κ,jz 32 4 Move.cells x)],gz s defences day,(defences.length≤100),fun h=>FnA.rekey κ (zg4 s defences day h),fun (x:(List Move))=>x=(({ kind:=0,suit:=0,day:=s.day,no:=0 }:Move) :: (defences.map fun d=>({ kind:=1,suit:=0,day:=s.day,no:=d }:Move)))++[({ kind:=4,suit:=0,day:=day,no:=0 }:Move)],JT s defences day⟩
theorem zpY (a b:Int):zY a b=jn [a,b] 1:=Hr [a,b]
theorem zpz (a b:Int):zY a b=0∨zY a b=1∨zY a b=2:=by
 rw [zpY]
 simp only [jn]
 repeat' split
 all_goals simp
theorem zrn {a b:Int} (ha:a=0∨a=1∨a=2):zY a b=1↔a=1∧b≠0∧b≠2:=by
 rw [zpY]
 simp only [jn]
 rcases ha with rfl | rfl | rfl <;> (repeat' split) <;> simp_all
def Idle (x:jF) (c:Claim) (d:Int):Prop:=Up (zY (qQ x c d) (Up (zZ x 5 c d)))≠0∧Up (zY (qQ x c d) (Up (zZ x 5 c d)))≠2
theorem zjv (x:jF) (c:Claim):∀ (D:List Int) (st:Int),(st=0∨st=1∨st=2)→(D.foldl (awf x c) st=1↔st=1∧∀ d,d∈D→Idle x c d)
 | [],st,_=>by simp
 | d :: r,st,h=>by
  rw [List.foldl_cons,zjv x c r (awf x c st d) (zpz _ _)]
  unfold awf
  rw [zrn h]
  simp only [List.mem_cons,forall_eq_or_imp,Idle,ne_eq]
  exact ⟨fun ⟨⟨a,b⟩,e⟩=>⟨a,b,e⟩,fun ⟨a,b,e⟩=>⟨⟨a,b⟩,e⟩⟩
theorem zmP {x:jF} {c:Claim} (h:c.state=1∨c.state=2) (D:List Int):Hv x c D=1↔c.state=1∧∀ d,d∈D→Idle x c d:=zjv x c D _ (.inr h)
theorem zjh (k k' v:Int) (m:List (Int × Int)):km (gt m k v) k' 0=if k'=k then v else km m k' 0:=by
 unfold km
 rw [zbG]
 split <;> rfl
def zjO (s:jM) (c:Claim):Prop:=c.debtor=s.defendant∧c.creditor=s.plaintiff∧c.sign=s.sign
structure Top (x:jF) (D:List Int) (l:List Claim) (n:Nat) (k:Int):Prop where
 has:km (kT x D l n).2 k false=true↔∃ i,i < n∧zjO x.s (l.getD i default)∧Hv x (l.getD i default) D=k
 le:∀ i,i < n→zjO x.s (l.getD i default)→Hv x (l.getD i default) D=k→(l.getD i default).sum≤km (kT x D l n).1 k 0
 ge:0≤km (kT x D l n).1 k 0
 eq:km (kT x D l n).1 k 0=0∨∃ i,i < n∧zjO x.s (l.getD i default)∧Hv x (l.getD i default) D=k∧(l.getD i default).sum=km (kT x D l n).1 k 0
theorem zqo (x:jF) (D:List Int) (l:List Claim) (k:Int):∀ n,Top x D l n k
 | 0=>⟨⟨fun h=>(by simp [kT,km,gh] at h),fun ⟨i,h,_⟩=>absurd h (by omega)⟩,fun i h=>absurd h (by omega),by simp [kT,km,gh],.inl rfl⟩
 | n+1=>by
  obtain ⟨h1,h2,h3,h4⟩:=zqo x D l k n
  have sp:∀ {i:Nat},i < n+1→i < n∨i=n:=fun h=>Nat.lt_succ_iff_lt_or_eq.1 h
  by_cases hm:zjO x.s (l.getD n default)
  ·have e:kT x D l (n+1)=(gt (kT x D l n).1 (Hv x (l.getD n default) D) (ki (km (kT x D l n).1 (Hv x (l.getD n default) D) 0) (l.getD n default).sum),gt (kT x D l n).2 (Hv x (l.getD n default) D) true):=by
    simp only [kT]; unfold zaK; exact if_pos hm
   by_cases hk:k=Hv x (l.getD n default) D
   ·have eb:km (kT x D l (n+1)).2 k false=true:=by rw [e,zl6,if_pos hk]
    have ea:km (kT x D l (n+1)).1 k 0=ki (km (kT x D l n).1 k 0) (l.getD n default).sum:=by rw [e,zjh,if_pos hk,← hk]
    have hmx:∀ a b:Int,a≤ki a b∧b≤ki a b∧(ki a b=a∨ki a b=b):=fun a b=>by unfold ki; split <;> omega
    obtain ⟨m1,m2,m3⟩:=hmx (km (kT x D l n).1 k 0) (l.getD n default).sum
    refine ⟨⟨fun _=>⟨n,by omega,hm,hk.symm⟩,fun _=>eb⟩,fun i hi hI hS=>?_,by rw [ea]; omega,?_⟩
    ·rw [ea]
     rcases sp hi with h | rfl
     ·have:=h2 i h hI hS; omega
     ·exact m2
    ·rw [ea]
     rcases m3 with h | h
     ·rw [h]
      rcases h4 with h4 | ⟨i,a,b,c,d⟩
      ·exact .inl h4
      ·exact .inr ⟨i,by omega,b,c,d⟩
     ·exact .inr ⟨n,by omega,hm,hk.symm,h.symm⟩
   ·have eb:km (kT x D l (n+1)).2 k false=km (kT x D l n).2 k false:=by rw [e,zl6,if_neg hk]
    have ea:km (kT x D l (n+1)).1 k 0=km (kT x D l n).1 k 0:=by rw [e,zjh,if_neg hk]
    refine ⟨?_,fun i hi hI hS=>?_,by rw [ea]; exact h3,?_⟩
    ·rw [eb,h1]
     exact ⟨fun ⟨i,a,b⟩=>⟨i,by omega,b⟩,fun ⟨i,a,b,c⟩=>by
      rcases sp a with h | rfl
      ·exact ⟨i,h,b,c⟩
      ·exact absurd c.symm hk⟩
    ·rw [ea]
     rcases sp hi with h | rfl
     ·exact h2 i h hI hS
     ·exact absurd hS.symm hk
    ·rw [ea]
     rcases h4 with h4 | ⟨i,a,b⟩
     ·exact .inl h4
     ·exact .inr ⟨i,by omega,b⟩
  ·have e:kT x D l (n+1)=kT x D l n:=by simp only [kT]; unfold zaK; exact if_neg hm
   refine ⟨?_,fun i hi hI hS=>?_,by rw [e]; exact h3,?_⟩
   ·rw [e,h1]
    exact ⟨fun ⟨i,a,b⟩=>⟨i,by omega,b⟩,fun ⟨i,a,b,c⟩=>by
     rcases sp a with h | rfl
     ·exact ⟨i,h,b,c⟩
     ·exact absurd b hm⟩
   ·rw [e]
    rcases sp hi with h | rfl
    ·exact h2 i h hI hS
    ·exact absurd hI hm
   ·rw [e]
    rcases h4 with h4 | ⟨i,a,b⟩
    ·exact .inl h4
    ·exact .inr ⟨i,by omega,b⟩
def UQ (s:jM) (D:List Int) (day:Int):List Move:=({ kind:=0,suit:=0,day:=s.day,no:=0 }:Move) :: (D.map fun d=>({ kind:=1,suit:=0,day:=s.day,no:=d }:Move))++[({ kind:=4,suit:=0,day:=day,no:=0 }:Move)]
theorem zoC (s:jM) (h0:0≤s.day∧s.day≤100000):∀ (D:List Int),(∀ d,d∈D→0≤d∧d < 7)→zH [s] (D.map fun d=>({ kind:=1,suit:=0,day:=s.day,no:=d }:Move)) (s.day,[1],[])=(List.replicate D.length 0,s.day,[1],[])
 | [],_=>rfl
 | d :: r,h=>by
  have hd:=h d (by simp)
  have e:FD [s] (s.day,[1],[]) ({ kind:=1,suit:=0,day:=s.day,no:=d }:Move)=(0,s.day,[1],[]):=by
   unfold FD Qw
   rw [if_neg (by simp; omega),if_neg (by simp),if_neg (by simp),if_neg (by simp [Uf])]
   simp [Uf]
  rw [List.map_cons]
  simp only [zH,e]
  rw [zoC s h0 r (fun x hx=>h x (by simp [hx]))]
  rfl
theorem zeQ {s:jM} {D:List Int} {day:Int} (h0:0≤s.day) (h1:s.day≤day) (h2:day≤100000) (hD:∀ d,d∈D→0≤d∧d < 7):zH [s] (UQ s D day) (KH [s])=(List.replicate (D.length+2) 0,day,[3],[]):=by
 have e1:FD [s] (KH [s]) ({ kind:=0,suit:=0,day:=s.day,no:=0 }:Move)=(0,s.day,[1],[]):=by
  unfold FD Qw KH
  rw [if_neg (by simp; omega),if_neg (by simp),if_neg (by simp [List.getD]; omega),if_neg (by simp [Uf])]
  simp [Uf]
 have e2:FD [s] (s.day,[1],[]) ({ kind:=4,suit:=0,day:=day,no:=0 }:Move)=(0,day,[3],[]):=by
  unfold FD Qw
  rw [if_neg (by simp; omega),if_neg (by simp),if_neg (by simp; omega),if_neg (by simp [Uf])]
  simp [Uf]
 unfold UQ
 rw [List.cons_append]
 simp only [zH,e1]
 rw [Yr,zoC s ⟨h0,by omega⟩ D hD]
 simp only [zH,e2]
 rw [List.replicate_succ,← List.replicate_append_replicate (n:=D.length) (m:=1)]
 rfl
theorem Ff (suit:Int) (w:Bool) (moves:List Move) (errors:List Int) (he:∀ i,i < moves.length→errors.getD i default=0):∀ n,n≤moves.length→UK suit w moves errors n=(moves.take n).foldl (fun s m=>uE suit s m 0) (0,[],[],w)
 | 0,_=>rfl
 | n+1,h=>by
  rw [yE (by omega),List.foldl_append,← Ff suit w moves errors he n (by omega)]
  simp only [UK,List.foldl_cons,List.foldl_nil]
  rw [he n (by omega)]
theorem zm8 (s:jM) (w:Bool):∀ (D R:List Int),(D.map fun d=>({ kind:=1,suit:=0,day:=s.day,no:=d }:Move)).foldl (fun s m=>uE 0 s m 0) (0,[],R,w)=(0,[],R++D,w)
 | [],R=>by simp
 | d :: r,R=>by
  rw [List.map_cons,List.foldl_cons]
  have e:uE 0 (0,[],R,w) ({ kind:=1,suit:=0,day:=s.day,no:=d }:Move) 0=(0,[],R++[d],w):=by
   unfold uE; rw [if_neg (by simp),if_pos rfl]
  rw [e,zm8 s w r]
  simp
def counts (w:Bool) (D:List Int):List Int:=D.filter fun d=>w||d == 0||d == 1||d == 2
theorem zmA {s:jM} {D:List Int} {day:Int} (h0:0≤s.day) (h1:s.day≤day) (h2:day≤100000) (hD:∀ d,d∈D→0≤d∧d < 7):Qt [s] (UQ s D day) 0=(day,counts (s.kind == 1) D,D,s.kind == 1):=by
 have hl:(UQ s D day).length=D.length+2:=by simp [UQ]
 unfold Qt
 rw [zeQ h0 h1 h2 hD,Ff _ _ _ _ (fun i hi=>by simp only [List.getD,List.getElem?_replicate]; split <;> rfl) _ (Nat.le_refl _),List.take_length]
 unfold UQ
 rw [List.cons_append,List.foldl_cons]
 have e:uE 0 (0,[],[],(([s].getD (0:Int).toNat default).kind == 1)) ({ kind:=0,suit:=0,day:=s.day,no:=0 }:Move) 0=(0,[],[],s.kind == 1):=by
  unfold uE; rw [if_neg (by simp),if_neg (by simp),if_neg (by simp),if_neg (by simp)]; rfl
 rw [e,List.foldl_append,zm8]
 simp only [List.foldl_cons,List.foldl_nil,List.nil_append]
 unfold uE; rw [if_neg (by simp),if_neg (by simp),if_neg (by simp),if_pos rfl]
 rfl
theorem zjc {r:jg} {files:List jh} {s:jM} {moves:List Move} (hc:yo r files [s] []=0) (hl:moves.length≤100) (hs:(zH [s] moves (KH [s])).2.2.1.getD 0 default=3):uV r files [s] moves 0=(awT r files s 0 (Qt [s] moves 0).1 (Qt [s] moves 0).2.1,0):=by
 refine Xe r files [s] moves 0 ?_ ⟨by omega,by simp⟩ hs
 have:=(vt r files [s] []).1 hc
 exact (vt r files [s] moves).2 ⟨⟨this.1.1,this.1.2.1,hl⟩,this.2⟩
theorem zbX {r:jg} {files:List jh} {s:jM} {D:List Int} {day:Int} (hc:yo r files [s] []=0) (hl:D.length≤8) (h1:s.day≤day) (h2:day≤100000) (hD:∀ d,d∈D→0≤d∧d < 7):uV r files [s] (UQ s D day) 0=(awT r files s 0 day (counts (s.kind == 1) D),0):=by
 have h0:0≤s.day:=(((vt r files [s] []).1 hc).2.2 0 (by simp)).2.2.2.2.2.2.1.1
 rw [zjc hc (by simp [UQ]; omega) (by rw [zeQ h0 h1 h2 hD]; rfl),zmA h0 h1 h2 hD]
theorem zqu {r:jg} {forum:Int} {f:jh} {day:Int} (hF:jX r f) (hR:r.RateOK) {c:Claim} (h:c∈kE r forum f day):ClP c:=by
 rw [UZ r forum f day hF] at h
 obtain ⟨c0,h0,rfl⟩:=List.mem_map.1 h
 have h1:=(List.mem_filter.1 h0).1
 have s:=(Xd r forum f day).sums (fun x hx=>⟨(zc6 hF hR hx).2.2.2.2.2.2.1,(zc6 hF hR hx).2.2.2.2.2.1⟩) c0 h1
 unfold zbo
 cases zI r forum f c0 day == 2 with
 | false=>exact s
 | true=>exact ⟨s.1,.inr rfl⟩
structure Mx (P:Claim→Prop) (l:List Claim) (n:Nat) (v:Int):Prop where
 ex:v = -1∨∃ i,i < n∧P (l.getD i default)∧v=(l.getD i default).sum
 le:∀ i,i < n→P (l.getD i default)→(l.getD i default).sum≤v
theorem Mx.init (P:Claim→Prop) (l:List Claim):Mx P l 0 (-1):=⟨.inl rfl,fun i h=>absurd h (by omega)⟩
theorem Mx.no {P:Claim→Prop} {l:List Claim} {n:Nat} {v:Int} (h:Mx P l n v) (hp:¬ P (l.getD n default)):Mx P l (n+1) v:=by
 refine ⟨?_,fun i hi hP=>?_⟩
 ·rcases h.ex with h | ⟨i,a,b⟩
  ·exact .inl h
  ·exact .inr ⟨i,by omega,b⟩
 ·rcases Nat.lt_succ_iff_lt_or_eq.1 hi with h1 | rfl
  ·exact h.le i h1 hP
  ·exact absurd hP hp
theorem zoQ {k cur:Int} {bm:List (Int × Int) × List (Int × Bool)} (h:km bm.2 1 false=true):Yh k cur bm = { suit:=k,sum:=km bm.1 1 0,currency:=cur,state:=1 }:=if_pos h
theorem zrt {k cur:Int} {bm:List (Int × Int) × List (Int × Bool)} (h:¬ km bm.2 1 false=true) (h2:km bm.2 2 false=true):Yh k cur bm = { suit:=k,sum:=km bm.1 2 0,currency:=cur,state:=2 }:=(if_neg h).trans (if_pos h2)
theorem zq4 {k cur:Int} {bm:List (Int × Int) × List (Int × Bool)} (h:¬ km bm.2 1 false=true) (h2:¬ km bm.2 2 false=true):Yh k cur bm = { suit:=k,sum:=0,currency:=cur,state:=0 }:=(if_neg h).trans (if_neg h2)
theorem zlN (r:jg) (files:List jh) (s:jM) (day k k' q d:Int) (c:Claim):zZ (kB r files { s with kind:=k } day) q c d=zZ (kB r files { s with kind:=k' } day) q c d:=by kernel_rfl
theorem zjQ (r:jg) (files:List jh) (s:jM) (day k k':Int) (c:Claim):ye (kB r files { s with kind:=k } day) c=ye (kB r files { s with kind:=k' } day) c:=by kernel_rfl
theorem zpg (r:jg) (files:List jh) (s:jM) (day k k' d:Int) (c:Claim):qQ (kB r files { s with kind:=k } day) c d=qQ (kB r files { s with kind:=k' } day) c d:=by
 have e0:∀ k,yd (kB r files { s with kind:=k } day) c=yd (kB r files s day) c:=fun k=>by kernel_rfl
 have e1:∀ k,uW (kB r files { s with kind:=k } day) c=uW (kB r files s day) c:=fun k=>by kernel_rfl
 have e2:∀ k,yk (kB r files { s with kind:=k } day) c=yk (kB r files s day) c:=fun k=>by kernel_rfl
 have e3:∀ k,uX (kB r files { s with kind:=k } day) c=uX (kB r files s day) c:=fun k=>by kernel_rfl
 have e4:∀ k,yt (kB r files { s with kind:=k } day) c=yt (kB r files s day) c:=fun k=>by kernel_rfl
 have e5:∀ k,yh (kB r files { s with kind:=k } day) c=yh (kB r files s day) c:=fun k=>by kernel_rfl
 have e6:∀ x:jF,vc x c=zY (zZ x 18 c 6) (ye x c):=fun x=>by kernel_rfl
 have e7:vc (kB r files { s with kind:=k } day) c=vc (kB r files { s with kind:=k' } day) c:=by
  rw [e6,e6,zlN r files s day k k',zjQ r files s day k k']
 unfold qQ
 simp only [e0,e1,e2,e3,e4,e5,e7]
theorem zqs (r:jg) (files:List jh) (s:jM) (suit day k k':Int) (D:List Int):awT r files { s with kind:=k } suit day D=awT r files { s with kind:=k' } suit day D:=by
 have h:∀ c,Hv (kB r files { s with kind:=k } day) c D=Hv (kB r files { s with kind:=k' } day) c D:=by
  intro c
  have hf:awf (kB r files { s with kind:=k } day) c=awf (kB r files { s with kind:=k' } day) c:=by
   funext st d
   unfold awf
   rw [zpg r files s day k k',zlN r files s day k k']
  unfold Hv
  rw [hf]
 have hm:∀ l n,kT (kB r files { s with kind:=k } day) D l n=kT (kB r files { s with kind:=k' } day) D l n:=by
  intro l n
  induction n with
  | zero=>rfl
  | succ n ih =>
   simp only [kT]
   rw [ih]
   unfold zaK
   rw [h]
   rfl
 unfold awT
 rw [hm]
theorem zo9 {s:jM} {day:Int} (h2:0≤day∧day≤100000):zH [s] [({ kind:=5,suit:=0,day:=day,no:=0 }:Move),({ kind:=4,suit:=0,day:=day,no:=0 }:Move)] (day,[3],[])=([0,0],day,[3],[(0,true)]):=by
 have e1:FD [s] (day,[3],[]) ({ kind:=5,suit:=0,day:=day,no:=0 }:Move)=(0,day,[4],[(0,true)]):=by
  unfold FD Qw
  rw [if_neg (by simp; omega),if_neg (by simp),if_neg (by simp),if_neg (by simp [Uf,km,gh])]
  simp [Uf,gt]
 have e2:FD [s] (day,[4],[(0,true)]) ({ kind:=4,suit:=0,day:=day,no:=0 }:Move)=(0,day,[3],[(0,true)]):=by
  unfold FD Qw
  rw [if_neg (by simp; omega),if_neg (by simp),if_neg (by simp),if_neg (by simp [Uf])]
  simp [Uf]
 simp only [zH,e1,e2]
theorem zl0 {r:jg} {files:List jh} {s:jM} {D:List Int} {day:Int} (hc:yo r files [s] []=0) (hl:D.length≤8) (h1:s.day≤day) (h2:day≤100000) (hD:∀ d,d∈D→0≤d∧d < 7) :
  uV r files [s] (UQ s D day++[({ kind:=5,suit:=0,day:=day,no:=0 }:Move),({ kind:=4,suit:=0,day:=day,no:=0 }:Move)]) 0=(awT r files s 0 day D,0):=by
 have h0:0≤s.day:=(((vt r files [s] []).1 hc).2.2 0 (by simp)).2.2.2.2.2.2.1.1
 have hr:zH [s] (UQ s D day++[({ kind:=5,suit:=0,day:=day,no:=0 }:Move),({ kind:=4,suit:=0,day:=day,no:=0 }:Move)]) (KH [s])=(List.replicate (D.length+2) 0++[0,0],day,[3],[(0,true)]):=by
  rw [Yr,zeQ h0 h1 h2 hD]
  simp only
  rw [zo9 ⟨by omega,h2⟩]
 have hl':(UQ s D day).length=D.length+2:=by simp [UQ]
 have hj:Qt [s] (UQ s D day++[({ kind:=5,suit:=0,day:=day,no:=0 }:Move),({ kind:=4,suit:=0,day:=day,no:=0 }:Move)]) 0=(day,D,D,true):=by
  have hz:∀ i,i < (UQ s D day++[({ kind:=5,suit:=0,day:=day,no:=0 }:Move),({ kind:=4,suit:=0,day:=day,no:=0 }:Move)]).length→(List.replicate (D.length+2) (0:Int)++[0,0]).getD i default=0:=by
   intro i hi
   rw [show (List.replicate (D.length+2) (0:Int)++[0,0])=List.replicate (D.length+4) 0 from by rw [show ([0,0]:List Int)=List.replicate 2 0 from rfl,List.replicate_append_replicate]]
   simp only [List.getD,List.getElem?_replicate]; split <;> rfl
  have hb:=zmA (s:=s) h0 h1 h2 hD
  unfold Qt at hb ⊢
  rw [zeQ h0 h1 h2 hD,Ff _ _ _ _ (fun i hi=>by simp only [List.getD,List.getElem?_replicate]; split <;> rfl) _ (Nat.le_refl _),List.take_length] at hb
  rw [hr,Ff _ _ _ _ hz _ (Nat.le_refl _),List.take_length,List.foldl_append,hb]
  simp only [List.foldl_cons,List.foldl_nil]
  have e:uE 0 (day,counts (s.kind == 1) D,D,s.kind == 1) ({ kind:=5,suit:=0,day:=day,no:=0 }:Move) 0=(day,counts (s.kind == 1) D,D,true):=by
   unfold uE; rw [if_neg (by simp),if_neg (by simp),if_pos rfl]
  rw [e]
  unfold uE; rw [if_neg (by simp),if_neg (by simp),if_neg (by simp),if_pos rfl]
  simp
 rw [zjc hc (by simp [UQ]; omega) (by rw [hr]; rfl),hj]
theorem znR (D:List Int):counts true D=D:=by simp [counts]
theorem znS (D:List Int):counts false (counts false D)=counts false D:=by simp [counts,List.filter_filter]
theorem zkL {x:jF} {D E:List Int} (hs:∀ d,d∈E→d∈D) {l:List Claim} (hl:∀ i,i < l.length→ClP (l.getD i default)) {cur:Int} (h:(Yh 0 cur (kT x D l l.length)).state=1) :
  (Yh 0 cur (kT x E l l.length)).state=1∧(Yh 0 cur (kT x D l l.length)).sum≤(Yh 0 cur (kT x E l l.length)).sum:=by
 have t1:=zqo x D l 1 l.length
 have t2:=zqo x E l 1 l.length
 have mono:∀ i,i < l.length→Hv x (l.getD i default) D=1→Hv x (l.getD i default) E=1:=fun i hi q=>by
  have q:=(zmP (hl i hi).2 D).1 q
  exact (zmP (hl i hi).2 E).2 ⟨q.1,fun d hd=>q.2 d (hs d hd)⟩
 have h1:km (kT x D l l.length).2 1 false=true:=by
  by_cases h1:km (kT x D l l.length).2 1 false=true
  ·exact h1
  ·by_cases h2:km (kT x D l l.length).2 2 false=true
   ·rw [zrt h1 h2] at h; simp at h
   ·rw [zq4 h1 h2] at h; simp at h
 obtain ⟨i,a,b,c⟩:=t1.has.1 h1
 have h2:km (kT x E l l.length).2 1 false=true:=t2.has.2 ⟨i,a,b,mono i a c⟩
 rw [zoQ h1,zoQ h2]
 refine ⟨rfl,?_⟩
 show km (kT x D l l.length).1 1 0≤km (kT x E l l.length).1 1 0
 rcases t1.eq with e | ⟨j,ja,jb,jc,jd⟩
 ·have:=t2.ge; omega
 ·rw [← jd]; exact t2.le j ja jb (mono j ja jc)
def zT (r:jg) (files:List jh) (s:jM) (defences:List Int) (day:Int):Sk (Bool) :=
 .r 1 Hk.c fun x1 =>
 .r 3 (.o [.nrm (qk jM.E [{ s with kind:=0 }])]) fun _ =>
 .r 4 (.dep (((zbJ r files [{ s with kind:=0 }] []).nil 3 ⟨_,rfl⟩).c) fun x2=>.wh ((((!x2)||(decide (((defences.length:Nat):Int) > 8)))||(decide (day < s.day)))||(decide (day > 100000))) false (((vR r files [{ s with kind:=0 }] []).nil 3 ⟨_,rfl⟩).c)) fun p18 =>
 .br (((((!p18.1)||(decide (((defences.length:Nat):Int) > 8)))||(decide (day < s.day)))||(decide (day > 100000)))||(p18.2 != 0))
 (.fin x1)
 (.r 6 (.o [.nrm (qk kA ([]:List Int))]) fun _ =>
 .bind true (fun b4=>(∀ q,q < defences.length→0≤defences.getD q default∧defences.getD q default < 7)∧b4=defences.filter (fun d=>d == 0||d == 1||d == 2))
 (.loop (default:Sum (Bool) ((List Int))) (fun i5=>i5.2≤defences.length∧(∀ q,q < i5.2→0≤defences.getD q default∧defences.getD q default < 7)∧i5.1=(defences.take i5.2).filter (fun d=>d == 0||d == 1||d == 2)) (fun i5=>defences.length - i5.2) ((([]:List Int),0):(List Int) × Nat)
 (fun (i5:(List Int) × Nat)=>⟨[(13,ow 100002 i5.1),(14,iv (i5.2:Int))],[(100002,jz 3 1 jC i5.1)]⟩) fun i5 =>
 .bnd 3 0 defences.length <|
 .br (decide ((i5.2:Int) < ((defences.length:Nat):Int)))
 (.r 10 (.andl (.p (ixP (i5.2:Int) defences.length)) (.wh (decide ((defences.getD i5.2 default) < 0)) false (.p (ixP (i5.2:Int) defences.length)))) fun _ =>
 .br ((decide ((defences.getD i5.2 default) < 0))||(decide ((defences.getD i5.2 default)≥7)))
 (.fin (.inl (.inl x1)))
 (.r 12 (.andl (.p (ixP (i5.2:Int) defences.length)) ((XL (defences.getD i5.2 default)).c)) fun x6 =>
 .br x6
 (.r 13 (.andl (.p (ixP (i5.2:Int) defences.length)) (.andl (.o [.nrm (qk kA [defences.getD i5.2 default])]) (.andl (.o [.nrm (gy kA i5.1 [defences.getD i5.2 default])]) (.andl (.t (kA.ones [defences.getD i5.2 default])) (.p (szP i5.1.length [defences.getD i5.2 default].length 8)))))) fun _ =>
 .r 9 .z fun _ =>
 .wi 14 (w64 ((i5.2:Int)+1)) ((i5.2+1:Nat):Int) <|
 .fin (.inr (i5.1++[defences.getD i5.2 default],i5.2+1)))
 (.r 9 .z fun _ =>
 .wi 14 (w64 ((i5.2:Int)+1)) ((i5.2+1:Nat):Int) <|
 .fin (.inr (i5.1,i5.2+1)))))
 (.fin (.inl (.inr i5.1))))
 (fun (b4:(List Int))=>⟨[(13,ow 100001 b4)],[(100001,jz 3 1 jC b4)]⟩) fun b4 =>
 .r 14 (.dep ((KI ({ s with kind:=0 }) defences day).c) fun x7=>(vQ r files [{ s with kind:=0 }] x7 0).c) fun p17 =>
 .fz 100001 <|
 .r 15 (.dep ((KI ({ s with kind:=0 }) b4 day).c) fun x9=>(vQ r files [{ s with kind:=0 }] x9 0).c) fun p16 =>
 .r 16 (.depr ((Ge 114 ({ s with kind:=0 }) defences day).c) fun x11=>.andl (.o [.nrm (qk Move.E [({ kind:=5,suit:=0,day:=day,no:=0 }:Move),({ kind:=4,suit:=0,day:=day,no:=0 }:Move)])]) (.andl (.o [.nrm (gy Move.E x11 [({ kind:=5,suit:=0,day:=day,no:=0 }:Move),({ kind:=4,suit:=0,day:=day,no:=0 }:Move)])]) (.andl (.t (Move.E.ones [({ kind:=5,suit:=0,day:=day,no:=0 }:Move),({ kind:=4,suit:=0,day:=day,no:=0 }:Move)])) (.p (szP x11.length [({ kind:=5,suit:=0,day:=day,no:=0 }:Move),({ kind:=4,suit:=0,day:=day,no:=0 }:Move)].length 32))))) fun x11 =>
 .r 17 ((vQ r files [{ s with kind:=0 }] (x11++[({ kind:=5,suit:=0,day:=day,no:=0 }:Move),({ kind:=4,suit:=0,day:=day,no:=0 }:Move)]) 0).c) fun x12 =>
 .r 20 (.andl (.o [.nrm (qk jM.E [{ s with kind:=1 }])]) (.dep ((KI ({ s with kind:=0 }) defences day).c) fun x13=>(vQ r files [{ s with kind:=1 }] x13 0).c)) fun p15 =>
 .fin (((((((x1&&(p17.2.2 == 0))&&(p16.2.2 == 0))&&(x12.2 == 0))&&(p15.2.2 == 0))&&((p17.2.1.suit == p16.2.1.suit)&&((p17.2.1.sum == p16.2.1.sum)&&((p17.2.1.currency == p16.2.1.currency)&&((p17.2.1.state == p16.2.1.state)&&true)))))&&((x12.1.suit == p15.2.1.suit)&&((x12.1.sum == p15.2.1.sum)&&((x12.1.currency == p15.2.1.currency)&&((x12.1.state == p15.2.1.state)&&true)))))&&((p15.2.1.state != 1)||((p17.2.1.state == 1)&&(decide (p17.2.1.sum≥p15.2.1.sum))))))
def JF (r:jg) (files:List jh) (s:jM) (defences:List Int) (day:Int):Bool:=(zT r files s defences day).val
theorem zaP (r:jg) (files:List jh) (s:jM) (defences:List Int) (day:Int):(zT r files s defences day).pst (fun (x:Bool)=>x=true):=by
 refine Sk.pst_of _ ?_
 unfold zT
 simp only [Sk.pstq,Sk.isLoop,reduceCtorEq,ON,kk,zbJ,KI,Ge,Hk,XL,vQ,vR,zaN,forall_eq,maxLen]
 have fl:∀ (p:Int→Bool) (l:List Int) (n:Nat),n < l.length→(l.take (n+1)).filter p=(l.take n).filter p++if p (l.getD n default)=true then [l.getD n default] else []:=fun p l n h=>by
  rw [yE h,List.filter_append]; simp [List.filter_cons]
 have nx:∀ {p:Nat→Prop} {i:Nat},(∀ q,q < i→p q)→p i→∀ q,q < i+1→p q:=fun h h0 q hq=>by
  rcases Nat.lt_succ_iff_lt_or_eq.1 hq with h1 | rfl
  ·exact h q h1
  ·exact h0
 generalize hs0:({ s with kind:=0 }:jM)=s0
 generalize hs1:({ s with kind:=1 }:jM)=s1
 have e0:s0.day=s.day:=by rw [← hs0]
 simp only [LN]
 intro hx1 _ hfc
 obtain ⟨hfew,hchk⟩:=hfc
 refine ⟨fun _=>hx1,fun hc _=>⟨⟨⟨Nat.zero_le _,fun q hq=>absurd hq (by omega),by simp⟩,fun i hi=>⟨fun hlt _=>⟨fun _=>hx1,fun h=>⟨fun hp _ _=>⟨⟨by omega,nx hi.2.1 h,?_⟩,by omega⟩,fun hp _=>⟨⟨by omega,nx hi.2.1 h,?_⟩,by omega⟩⟩⟩,fun hge=>⟨fun q hq=>hi.2.1 q (by omega),?_⟩⟩⟩,fun b hb=>?_⟩⟩
 ·rw [fl _ _ _ (by omega),← hi.2.2,if_pos (by simpa only [Bool.or_eq_true,beq_iff_eq] using hp)]
 ·rw [fl _ _ _ (by omega),← hi.2.2,if_neg (by simp only [Bool.or_eq_true,beq_iff_eq]; rintro ((q | q) | q); exact hp.1.1 q; exact hp.1.2 q; exact hp.2 q),List.append_nil]
 ·rw [hi.2.2,List.take_of_length_le (by omega)]
 obtain ⟨⟨⟨⟨f1,f2⟩,f3⟩,f4⟩,f5⟩:=hc
 obtain ⟨r1,r2,r3,r4,r5,r6⟩:=hfew f1
 obtain ⟨c1,c2,c3⟩:=hchk.1 f5
 have hS:Qe r files.length s0:=c3 0 (by omega)
 have hfile:0≤s0.file∧s0.file < (files.length:Int):=by unfold Qe at hS; omega
 have hF:jX r (files.getD s0.file.toNat default):=(QM r _ r5 (c2 s0.file.toNat (by omega))).1
 have hck1:yo r files [s1] []=0:=by
  refine (vt r files [s1] []).2 ⟨c1,c2,fun q hq=>?_⟩
  have:q=0:=by simpa using hq
  subst this
  show Qe r files.length s1
  rw [← hs1]
  rw [← hs0] at hS
  unfold Qe at hS ⊢
  dsimp only at hS ⊢
  omega
 have hDm:∀ d,d∈defences→0≤d∧d < 7:=by
  intro d hd
  obtain ⟨q,hq,rfl⟩:=List.getElem_of_mem hd
  have:=hb.1 q hq
  rwa [List.getD_eq_getElem?_getD,List.getElem?_eq_getElem hq] at this
 have hb2:b=counts false defences:=by rw [hb.2]; simp [counts]
 have hbm:∀ d,d∈b→d∈defences:=fun d hd=>by rw [hb.2] at hd; exact (List.mem_filter.1 hd).1
 have hbl:b.length≤8:=by
  have:=List.length_filter_le (fun d=>d == 0||d == 1||d == 2) defences
  rw [← hb.2] at this; omega
 have jA:gz s0 defences day=UQ s0 defences day:=JT s0 defences day
 have jB:gz s0 b day=UQ s0 b day:=JT s0 b day
 have jD:UQ s0 defences day=UQ s1 defences day:=by rw [← hs0,← hs1]; rfl
 have k0:(s0.kind == 1)=false:=by rw [← hs0]; rfl
 have k1:(s1.kind == 1)=true:=by rw [← hs1]; rfl
 have hd1:s1.day≤day:=by rw [← hs1]; exact f3
 have vA:uV r files [s0] (UQ s0 defences day) 0=(awT r files s0 0 day (counts false defences),0):=by
  rw [zbX f5 (by omega) (by omega) f4 hDm,k0]
 have vB:uV r files [s0] (UQ s0 b day) 0=(awT r files s0 0 day (counts false defences),0):=by
  rw [zbX f5 hbl (by omega) f4 (fun d hd=>hDm d (hbm d hd)),k0,hb2,znS]
 have vC:=zl0 (D:=defences) f5 (by omega) (by omega) f4 hDm
 have vD:uV r files [s1] (UQ s0 defences day) 0=(awT r files s0 0 day defences,0):=by
  rw [jD,zbX hck1 (by omega) hd1 f4 hDm,k1,znR,← hs0,← hs1,zqs r files s 0 day 1 0]
 intros
 rw [jA,jB,vA,vB,vC,vD]
 refine ⟨⟨⟨⟨⟨⟨⟨hx1,rfl⟩,rfl⟩,rfl⟩,rfl⟩,rfl,rfl,rfl,rfl,trivial⟩,rfl,rfl,rfl,rfl,trivial⟩,?_⟩
 have hcl:∀ i,i < (kE r s0.forum (files.getD s0.file.toNat default) day).length→ClP ((kE r s0.forum (files.getD s0.file.toNat default) day).getD i default):=by
  intro i hi
  refine zqu (r:=r) (forum:=s0.forum) (day:=day) hF r4 ?_
  have hm:∀ (L:List Claim) (j:Nat),j < L.length→L.getD j default∈L:=fun L j hj=>by
   rw [List.getD_eq_getElem?_getD,List.getElem?_eq_getElem hj]
   exact List.getElem_mem _
  exact hm _ i hi
 have at':∀ D,awT r files s0 0 day D=Yh 0 (files.getD s0.file.toNat default).bill.currency (kT (kB r files s0 day) D (kE r s0.forum (files.getD s0.file.toNat default) day) (kE r s0.forum (files.getD s0.file.toNat default) day).length):=fun D=>rfl
 rw [at',at']
 have K:=zkL (x:=kB r files s0 day) (D:=defences) (E:=counts false defences) (cur:=(files.getD s0.file.toNat default).bill.currency) (fun d hd=>(List.mem_filter.1 hd).1) hcl
 generalize Yh 0 (files.getD s0.file.toNat default).bill.currency (kT (kB r files s0 day) defences (kE r s0.forum (files.getD s0.file.toNat default) day) (kE r s0.forum (files.getD s0.file.toNat default) day).length)=u at K ⊢
 generalize Yh 0 (files.getD s0.file.toNat default).bill.currency (kT (kB r files s0 day) (counts false defences) (kE r s0.forum (files.getD s0.file.toNat default) day) (kE r s0.forum (files.getD s0.file.toNat default) day).length)=u' at K ⊢
 by_cases hst:u.state=1
 ·exact .inr (K hst)
 ·exact .inl hst
theorem Ue (r:jg) (files:List jh) (s:jM) (defences:List Int) (day:Int):(fun (x:Bool)=>x=true) (JF r files s defences day):=have h:=Sk.pval _ (zaP r files s defences day); h
theorem zcQ (r:jg) (files:List jh) (s:jM) (defences:List Int) (day:Int):(zT r files s defences day).obs (fun _=>True):=by
 refine Sk.obs_of _ ?_
 unfold zT
 simp only [Sk.obq,Sk.isLoop,reduceCtorEq,ON,kk,zbJ,KI,Ge,Hk,XL,vQ,vR,zaN,forall_eq,maxLen]
 have fl:∀ (p:Int→Bool) (l:List Int) (n:Nat),n < l.length→(l.take (n+1)).filter p=(l.take n).filter p++if p (l.getD n default)=true then [l.getD n default] else []:=fun p l n h=>by
  rw [yE h,List.filter_append]; simp [List.filter_cons]
 have nx:∀ {p:Nat→Prop} {i:Nat},(∀ q,q < i→p q)→p i→∀ q,q < i+1→p q:=fun h h0 q hq=>by
  rcases Nat.lt_succ_iff_lt_or_eq.1 hq with h1 | rfl
  ·exact h q h1
  ·exact h0
 have wi:∀ n m:Nat,n < m→m≤9223372036854775807→w64 ((n:Int)+1)=((n+1:Nat):Int):=fun n m h h0=>by rw [jj (by omega) (by omega)]; omega
 generalize ({ s with kind:=0 }:jM)=s0
 generalize ({ s with kind:=1 }:jM)=s1
 generalize uV r files=A
 generalize gz=J
 simp only [LN]
 intro _ _
 refine ⟨fun hy h=>(hy h.1.1.1).1,fun hp hc _=>?_⟩
 obtain ⟨hfew,hchk⟩:=hp
 obtain ⟨⟨⟨⟨f1,f2⟩,f3⟩,f4⟩,f5⟩:=hc
 obtain ⟨r1,r2,r3,r4,r5,r6⟩:=hfew f1
 obtain ⟨c1,c2,c3⟩:=hchk.1 f5
 have fle:∀ n,((defences.take n).filter (fun d=>d == 0||d == 1||d == 2)).length≤8:=fun n=>by
  have h1:=List.length_filter_le (fun d:Int=>d == 0||d == 1||d == 2) (defences.take n)
  have h2:(defences.take n).length≤defences.length:=by rw [List.length_take]; omega
  omega
 refine ⟨⟨⟨Nat.zero_le _,fun q hq=>absurd hq (by omega),by simp⟩,fun i hi hm=>⟨fun hlt=>⟨⟨⟨by omega,by omega⟩,fun _=>⟨by omega,by omega⟩⟩,fun _ h=>⟨⟨by omega,by omega⟩,fun hp=>⟨⟨⟨by omega,by omega⟩,by have:=fle i.2; rw [← hi.2.2] at this; omega,by have:=fle i.2; rw [← hi.2.2] at this; omega⟩,fun _ _=>⟨wi _ _ (by omega) hm,⟨by omega,nx hi.2.1 h,?_⟩,by omega⟩⟩,fun hp _=>⟨wi _ _ (by omega) hm,⟨by omega,nx hi.2.1 h,?_⟩,by omega⟩⟩⟩,fun hge=>⟨fun q hq=>hi.2.1 q (by omega),?_⟩⟩⟩,fun b hb=>?_⟩
 ·rw [fl _ _ _ (by omega),← hi.2.2,if_pos (by simpa only [Bool.or_eq_true,beq_iff_eq] using hp)]
 ·rw [fl _ _ _ (by omega),← hi.2.2,if_neg (by simp only [Bool.or_eq_true,beq_iff_eq]; rintro ((q | q) | q); exact hp.1.1 q; exact hp.1.2 q; exact hp.2 q),List.append_nil]
 ·rw [hi.2.2,List.take_of_length_le (by omega)]
 have hbl:b.length≤8:=by have:=fle defences.length; rw [List.take_length,← hb.2] at this; exact this
 refine ⟨⟨by omega,fun _=>⟨r1,r2,r3,r4,r5,r6⟩⟩,fun _=>⟨⟨by omega,fun _=>⟨r1,r2,r3,r4,r5,r6⟩⟩,fun _=>?_⟩⟩
 have jl:∀ x,x=({ kind:=0,suit:=0,day:=s.day,no:=0 }:Move) :: List.map (fun d=>({ kind:=1,suit:=0,day:=s.day,no:=d }:Move)) defences++[({ kind:=4,suit:=0,day:=day,no:=0 }:Move)]→x.length≤10:=fun x h=>by
  rw [h]
  simp only [List.length_append,List.length_cons,List.length_nil,List.length_map]
  omega
 have R:=(⟨r1,r2,r3,r4,r5,r6⟩:r.Small∧r.ByOK∧r.FirmOK∧r.RateOK∧r.firms.length≤200∧(files.length≤50→∀ (q:Nat),q < files.length→(files.getD q default).Small))
 refine ⟨⟨by omega,fun h=>⟨by have:=jl _ h; omega,by have:=jl _ h; omega⟩⟩,fun _=>⟨R,fun _=>⟨by omega,fun _=>R⟩⟩⟩
def zez (r:jg) (files:List jh) (s:jM) (defences:List Int) (day:Int):Ctr (Bool):=kk tok mixed Tryz.func5 [av r.cells,lv jh.cells files,av s.cells,lv jC defences,iv day] (fun x=>bv x) true (zT r files s defences day) (JF r files s defences day) (fun (_:True)=>zcQ r files s defences day) (fun (x:Bool)=>x=true) (Ue r files s defences day)
theorem zbQ (r:jg) (files:List jh) (s:jM) (defences:List Int) (day:Int):FnA Tryz.prog 5 [av r.cells,lv jh.cells files,av s.cells,lv jC defences,iv day] [] (bv (JF r files s defences day)) []:=(zez r files s defences day).pf trivial
end
end Go.Proofs.YtilbddpghnnmhaaGreatDoor
