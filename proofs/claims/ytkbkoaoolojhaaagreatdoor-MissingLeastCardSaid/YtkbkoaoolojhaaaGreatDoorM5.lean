/- Functions, as sketches. -/
import Derived.Test.YtkbkoaoolojhaaaGreatDoorMvR
import Derived.Test.YtkbkoaoolojhaaaGreatDoorLi
import Derived.Test.YtkbkoaoolojhaaaGreatDoorLd
set_option linter.unusedSimpArgs false
set_option linter.unusedVariables false
set_option maxHeartbeats 1000000
set_option maxRecDepth 100000
namespace Go.Proofs.YtkbkoaoolojhaaaGreatDoor
noncomputable section
open Go Go.Av
def eX (r:ah) (forum:Int) (f:ai) (day:Int) (c_:Claim) (n:Int):Sk (Bool) :=
 .r 1 gE.c fun x1 =>
 .r 2 (.dep ((k8 r f day 3).c) fun x2=>.wh (!x2) false ((bB r forum f day c_).c)) fun p23 =>
 .br ((!p23.1)||(p23.2 != 2))
 (.fin x1)
 (.r 4 ((cQ r forum f day c_).c) fun x4 =>
 .br ((x4.2 != 0)||(decide (((x4.1.length:Nat):Int) > 8)))
 (.fin false)
 (.bt
 (.loop (default:Sum (Bool) (Unit)) (fun i6=>i6≤x4.1.length) (fun i6=>x4.1.length - i6) (0:Nat)
 (fun (i6:Nat)=>⟨[(16,iv (i6:Int))],[]⟩) fun i6 =>
 .lt 14 0 i6 x4.1.length
 (.bt
 (.bind true (fun b8=>b8.2.2.2.2.2.2.2=cP f (x4.1.getD i6 default))
 (.loop (default:Sum (Sum (Sum (Sum (Bool) (Unit)) (Nat)) (Int × ai × Int × (List (List Fact)) × Int × (List Fact) × Int × Bool × (List (List Fact)) × Int × (List Fact) × Int × Bool × Bool × Bool)) (Int × Int × (List (List Fact)) × Int × (List Fact) × Int × Bool × ai)) (fun i9=>i9.1≤(x4.1.getD i6 default).length∧i9.2=cP f ((x4.1.getD i6 default).take i9.1)) (fun i9=>(x4.1.getD i6 default).length - i9.1) ((0,f):Nat × ai)
 (fun (i9:Nat × ai)=>⟨[(18,iv (i9.1:Int))],[(17,.box (i9.2.cells.map .d))]⟩) fun i9 =>
 .r 12 (.p (bN (i6:Int) x4.1.length)) fun _ =>
 .br (decide ((i9.1:Int) < (((x4.1.getD i6 default).length:Nat):Int)))
 (.r 14 (.al (.p (bN (i6:Int) x4.1.length)) (.al (.p (bN (i9.1:Int) ((x4.1.getD i6 default).length))) (.al (.p (bN (i6:Int) x4.1.length)) (.al (.p (bN (i9.1:Int) ((x4.1.getD i6 default).length))) (.al (.p (bN (i6:Int) x4.1.length)) (.al (.p (bN (i9.1:Int) ((x4.1.getD i6 default).length))) ((gZ i9.2 (((x4.1.getD i6 default).getD i9.1 default).kind) (((x4.1.getD i6 default).getD i9.1 default).at_) (((x4.1.getD i6 default).getD i9.1 default).n)).c))))))) fun JN =>
 .nx 13 18 i9.1 (i9.1+1,JN))
 (.fin (.inl (.inr ((i9.1:Int),(i9.1:Int),x4.1,(i6:Int),x4.1.getD i6 default,(((x4.1.getD i6 default).length:Nat):Int),decide ((i9.1:Int) < (((x4.1.getD i6 default).length:Nat):Int)),i9.2)))))
 (fun (b8:Int × Int × (List (List Fact)) × Int × (List Fact) × Int × Bool × ai)=>⟨[(18,iv b8.1),(63,iv b8.2.1),(64,lv (LC Fact.E).cells b8.2.2.1),(65,iv b8.2.2.2.1),(67,lv Fact.cells b8.2.2.2.2.1),(68,iv b8.2.2.2.2.2.1),(69,bv b8.2.2.2.2.2.2.1)],[(17,.box (b8.2.2.2.2.2.2.2.cells.map .d))]⟩) fun b8 =>
 .r 15 (.al (.p (bN (i6:Int) x4.1.length)) (.wh ((((x4.1.getD i6 default).length:Nat):Int) == 0) false ((bB r forum b8.2.2.2.2.2.2.2 day c_).c))) fun Zz =>
 .br (((((x4.1.getD i6 default).length:Nat):Int) == 0)||(Zz == 2))
 (.fin (.inl (.inl (.inl false))))
 (.fin (.inr (b8.1,f,b8.2.1,b8.2.2.1,b8.2.2.2.1,b8.2.2.2.2.1,b8.2.2.2.2.2.1,b8.2.2.2.2.2.2.1,x4.1,(i6:Int),x4.1.getD i6 default,(((x4.1.getD i6 default).length:Nat):Int),(((x4.1.getD i6 default).length:Nat):Int) == 0,(((x4.1.getD i6 default).length:Nat):Int) == 0,((((x4.1.getD i6 default).length:Nat):Int) == 0)||(Zz == 2)))))
 (fun (b7:Int × ai × Int × (List (List Fact)) × Int × (List Fact) × Int × Bool × (List (List Fact)) × Int × (List Fact) × Int × Bool × Bool × Bool)=>⟨[(18,iv b7.1),(62,av b7.2.1.cells),(63,iv b7.2.2.1),(64,lv (LC Fact.E).cells b7.2.2.2.1),(65,iv b7.2.2.2.2.1),(67,lv Fact.cells b7.2.2.2.2.2.1),(68,iv b7.2.2.2.2.2.2.1),(69,bv b7.2.2.2.2.2.2.2.1),(98,lv (LC Fact.E).cells b7.2.2.2.2.2.2.2.2.1),(99,iv b7.2.2.2.2.2.2.2.2.2.1),(101,lv Fact.cells b7.2.2.2.2.2.2.2.2.2.2.1),(102,iv b7.2.2.2.2.2.2.2.2.2.2.2.1),(103,bv b7.2.2.2.2.2.2.2.2.2.2.2.2.1),(104,bv b7.2.2.2.2.2.2.2.2.2.2.2.2.2.1),(112,bv b7.2.2.2.2.2.2.2.2.2.2.2.2.2.2)],[]⟩) fun _ =>
 .nx 9 16 i6 (i6+1))
 (.fin (.inl (.inr ()))))
 (fun (_:Unit)=>⟨[],[]⟩) fun _ =>
 .r 17 (.dep ((bO f day).c) fun GG=>.al (.p ((27:Int)≠0)) ((DS GG ((au (n)).tmod 27)).c)) fun Te =>
 .bind true (fun PW=>PW=cP f Te.2)
 (.loop (default:Sum (Bool) (ai)) (fun i15=>i15.1≤Te.2.length∧i15.2=cP f (Te.2.take i15.1)) (fun i15=>Te.2.length - i15.1) ((0,f):Nat × ai)
 (fun (i15:Nat × ai)=>⟨[(21,iv (i15.1:Int))],[(20,.box (i15.2.cells.map .d))]⟩) fun i15 =>
 .lt 19 0 i15.1 Te.2.length
 (.r 22 (.al (.p (bN (i15.1:Int) Te.2.length)) (.al (.p (bN (i15.1:Int) Te.2.length)) (.al (.p (bN (i15.1:Int) Te.2.length)) ((gZ i15.2 ((Te.2.getD i15.1 default).kind) ((Te.2.getD i15.1 default).at_) ((Te.2.getD i15.1 default).n)).c)))) fun ZG =>
 .nx 21 21 i15.1 (i15.1+1,ZG))
 (.fin (.inl (.inr i15.2))))
 (fun (PW:ai)=>⟨[],[(20,.box (PW.cells.map .d))]⟩) fun PW =>
 .r 23 ((bB r forum PW day c_).c) fun x17 =>
 .br (x17 == 2)
 (.fin x1)
 (.bind true (fun b18=>(∀ q,q < x4.1.length→tI Te.2 (x4.1.getD q default)=true→b18=true))
 (.loop (default:Sum (Bool) (Bool)) (fun i19=>i19.2≤x4.1.length∧(∀ q,q < i19.2→tI Te.2 (x4.1.getD q default)=true→i19.1=true)) (fun i19=>x4.1.length - i19.2) ((false,0):Bool × Nat)
 (fun (i19:Bool × Nat)=>⟨[(22,bv i19.1),(23,iv (i19.2:Int))],[]⟩) fun i19 =>
 .lt 14 0 i19.2 x4.1.length
 (.r 29 (.al (.wh i19.1 false (.p (bN (i19.2:Int) x4.1.length))) (.wh i19.1 false ((qy Te.2 (x4.1.getD i19.2 default)).c))) fun Pk =>
 .r 30 (.al (.p (bN (i19.2:Int) x4.1.length)) (.al (.wh (decide (((Te.2.length:Nat):Int) < (((x4.1.getD i19.2 default).length:Nat):Int))) true (.p (bN (i19.2:Int) x4.1.length))) (.wh (decide (((Te.2.length:Nat):Int) < (((x4.1.getD i19.2 default).length:Nat):Int))) true ((qy (x4.1.getD i19.2 default) Te.2).c)))) fun VS =>
 .br ((decide (((Te.2.length:Nat):Int) < (((x4.1.getD i19.2 default).length:Nat):Int)))&&VS)
 (.fin (.inl (.inl false)))
 (.nx 28 23 i19.2 (i19.1||Pk,i19.2+1)))
 (.fin (.inl (.inr i19.1))))
 (fun (b18:Bool)=>⟨[(22,bv b18)],[]⟩) fun b18 =>
 .fin (x1&&b18))))
def kD r forum f day c_ n:=(eX r forum f day c_ n).val
theorem Bd (r:ah) (forum:Int) (f:ai) (day:Int) (c_:Claim) (n:Int) (hP:∀ x,x∈r.aI→(-9223372036854775808≤x.num∧x.num≤9223372036854775807)∧(-9223372036854775808≤x.den∧x.den≤9223372036854775807)):(eX r forum f day c_ n).cC (fun (x:Bool)=>x=true):=by
 refine Sk.aP _ ?_
 unfold eX
 simp only [Sk.ct,Sk.aA,reduceCtorEq,ON,kk,kp,k8,gE,qy,DS,gZ,cQ,bB,bO,maxLen]
 intro x Bu hx p hp hpp
 obtain ⟨hf,jK⟩:=hpp
 refine ⟨fun _=>hx,fun hc S hS Td=>?_⟩
 rw [Bool.or_eq_false_iff] at hc
 obtain ⟨a1,a2,a3,a4,a5,hF,XN,Z5,hU3⟩:=hf hP (by simpa using hc.1)
 have h2:bH r forum f day c_=2:=by have:=hc.2; rw [hp] at this; simpa using this
 have hUe:=kC f day hF.small
 have qP:=tV f day
 generalize hU:dF (aj f day) (5 * (aj f day).ae.length)=U at Td hUe qP
 rw [hUe] at hU3
 have FR:U.length≤8:=by omega
 obtain ⟨hS2,F,hFI⟩:=Td.2 h2 FR
 have hL:nE r forum f day c_ U S.1 F:=⟨hFI,FR,qP⟩
 have hN:=BP U.length FR
 have hp3:=Nat.pow_le_pow_right (show 0 < 2 by omega) (show U.length≤3 by omega)
 have hlen:=hFI.len (by omega)
 refine ⟨fun h=>?_,fun _=>⟨⟨Nat.zero_le _,fun i hi DT=>?_⟩,fun _ q hq hqp=>?_⟩⟩
 ·rw [Bool.or_eq_true,hS2] at h
  simp only [LN] at h
  rcases h with h | h
  ·exact absurd h (by decide)
  ·omega
 ·simp only [LN] at DT
  have DT:i < S.1.length:=by omega
  obtain ⟨l1,l2,l3,l4⟩:=hL.at_ DT
  refine ⟨⟨⟨⟨Nat.zero_le _,rfl⟩,fun j hj _=>⟨fun rO z hz _ _=>?_,fun rO=>?_⟩⟩,fun b hb y hy _ h=>?_⟩,fun b _=>?_⟩
  ·have rO:j.1 < (S.1.getD i default).length:=by simpa using rO
   exact ⟨⟨by omega,by rw [hz,hj.2,g4 f rO]⟩,by omega⟩
  ·have e:j.1=(S.1.getD i default).length:=by
    have:¬ (j.1 < (S.1.getD i default).length):=by simpa using rO
    omega
   rw [hj.2,e,List.take_length]
  ·rw [Bool.or_eq_true] at h
   rcases h with h | h
   ·exact l2 (by simpa using h)
   ·rw [hb] at hy
    rw [hy] at h
    exact l4 (by simpa using h)
  ·exact fun _=>⟨by omega,by omega⟩
 ·obtain ⟨o1,o2⟩:=hqp
  have hs:=o2 (by rw [o1]; omega)
  rw [o1] at hs
  clear o1 o2 hq
  generalize q.2=x at hs ⊢
  refine ⟨⟨⟨Nat.zero_le _,rfl⟩,fun j hj=>⟨fun rO z hz _ _=>?_,fun rO=>?_⟩⟩,fun b hb y hy _=>⟨fun _=>hx,fun h=>?_⟩⟩
  ·have rO:j.1 < x.length:=by simpa using rO
   exact ⟨⟨by omega,by rw [hz,hj.2,g4 f rO]⟩,by omega⟩
  ·have e:j.1=x.length:=by
    have:¬ (j.1 < x.length):=by simpa using rO
    omega
   rw [hj.2,e,List.take_length]
  ·rw [hb] at hy
   rw [hy] at h
   have hd:bH r forum (cP f x) day c_≠2:=by simpa using h
   refine ⟨⟨⟨Nat.zero_le _,fun q hq=>absurd hq (by omega)⟩,fun i hi=>⟨fun DT u hu1 hu2 v _ hv=>⟨fun hh=>?_,fun _ _=>⟨⟨?_,fun q hq hqc=>?_⟩,?_⟩⟩,fun DT q hq hqc=>?_⟩⟩,fun b hb=>?_⟩
   ·simp only [LN] at DT
    rw [Bool.and_eq_true,decide_eq_true_eq,hv] at hh
    exact hL.least h2 hs hd (by omega) (by omega) (Rj.1 hh.2)
   ·simp only [LN] at DT; omega
   ·rw [Bool.or_eq_true]
    rcases Nat.lt_succ_iff_lt_or_eq.1 hq with h1 | rfl
    ·exact .inl (hi.2 q h1 hqc)
    ·exact .inr (by rw [hu1]; exact hqc)
   ·simp only [LN] at DT; omega
   ·simp only [LN] at DT; exact hi.2 q (by omega) hqc
   ·obtain ⟨q,hq,hcv⟩:=hL.C9 h2 hs hd
    rw [hx,hb q hq (by rw [FX]; exact Rj.2 hcv)]
    rfl
theorem qK (r:ah) (forum:Int) (f:ai) (day:Int) (c_:Claim) (n:Int):(fun (x:Bool)=>(∀ x,x∈r.aI→(-9223372036854775808≤x.num∧x.num≤9223372036854775807)∧(-9223372036854775808≤x.den∧x.den≤9223372036854775807))→(x=true)) (kD r forum f day c_ n):=fun hP=>Sk.cI _ (Bd r forum f day c_ n hP)
theorem Cw (r:ah) (forum:Int) (f:ai) (day:Int) (c_:Claim) (n:Int) (hw:∀ x,x∈r.aI→(-9223372036854775808≤x.num∧x.num≤9223372036854775807)∧(-9223372036854775808≤x.den∧x.den≤9223372036854775807)):(eX r forum f day c_ n).a6 (fun _=>True):=by
 refine Sk.aG _ ?_
 unfold eX
 simp only [Sk.gL,Sk.aA,reduceCtorEq,ON,kk,kp,k8,gE,qy,DS,gZ,cQ,bB,bO,maxLen]
 intro x _ hx
 refine ⟨fun y _ hy hc=>?_,fun p hp hpp hc=>?_⟩
 ·obtain ⟨a1,a2,-,a4,a5,hF,-⟩:=hy hw (by simpa using hc)
  exact ⟨hF,hF.small,a2,a1,a4,a5⟩
 obtain ⟨hf,jK⟩:=hpp
 rw [Bool.or_eq_false_iff] at hc
 obtain ⟨a1,a2,a3,a4,a5,hF,XN,Z5,hU3⟩:=hf hw (by simpa using hc.1)
 have hS:=hF.small
 refine ⟨⟨hF,XN,hS,a2,a1,a4,a5⟩,fun S _ Td hS0=>?_⟩
 have h2:bH r forum f day c_=2:=by have:=hc.2; rw [hp] at this; simpa using this
 have hUe:=kC f day hF.small
 have qP:=tV f day
 generalize hU:dF (aj f day) (5 * (aj f day).ae.length)=U at Td hUe qP ⊢
 rw [hUe] at hU3
 have FR:U.length≤8:=by omega
 obtain ⟨hS2,F,hFI⟩:=Td.2 h2 FR
 have hL:nE r forum f day c_ U S.1 F:=⟨hFI,FR,qP⟩
 have nx:∀ {k m:Nat},k < m→m≤9223372036854775807→au ((k:Int)+1)=((k+1:Nat):Int):=fun h1 h2=>(ar (by omega) (by omega)).trans (by omega)
 refine ⟨⟨Nat.zero_le _,fun i hi him DT=>?_⟩,fun _=>⟨⟨hS,fun y _ hy=>⟨by omega,by rw [hy]; omega⟩⟩,fun q hq hqp=>?_⟩⟩
 ·simp only [LN] at DT
  have DT:i < S.1.length:=by omega
  obtain ⟨l5,l6⟩:=hL.apt DT
  refine ⟨⟨⟨⟨Nat.zero_le _,rfl⟩,fun j hj=>⟨by omega,fun _=>⟨fun rO=>?_,fun rO=>?_⟩⟩⟩,fun b hb=>⟨by omega,fun _=>?_⟩⟩,fun b _ _=>⟨nx DT (by omega),by omega,by omega⟩⟩
  ·have rO:j.1 < (S.1.getD i default).length:=by simpa using rO
   have hln:=zb l5 (n:=j.1) (by omega)
   rw [hj.2]
   exact ⟨⟨by omega,by omega,by omega,by omega,by omega,by omega,by omega,qv l5 rO⟩,fun z hz _ _=>⟨nx rO (by omega),⟨by omega,by rw [hz,g4 f rO]⟩,by omega⟩⟩
  ·have e:j.1=(S.1.getD i default).length:=by
    have:¬ (j.1 < (S.1.getD i default).length):=by simpa using rO
    omega
   rw [hj.2,e,List.take_length]
  ·have hR:bu r (cP f (S.1.getD i default)):=by
    have:=tE l5 hF (by omega) (n:=(S.1.getD i default).length) (Nat.le_refl _)
    rwa [List.take_length] at this
   rw [hb]
   exact ⟨hR,hR.small,a2,a1,a4,a5⟩
 ·obtain ⟨o1,o2⟩:=hqp
  have hs:=o2 (by rw [o1]; omega)
  rw [o1] at hs
  clear o1 o2 hq
  generalize q.2=x at hs ⊢
  have hxa:qp f x∧x.length≤8:=by
   obtain ⟨s,v,-,-,rfl⟩:=hs.Xz
   exact ⟨qP.sub (uV _ _ _),by rw [vZ]; have:=DG s U.length; omega⟩
  refine ⟨⟨⟨Nat.zero_le _,rfl⟩,fun j hj hm=>⟨fun rO=>?_,fun rO=>?_⟩⟩,fun b hb=>⟨?_,fun y hy _ h=>⟨⟨Nat.zero_le _,fun q hq=>absurd hq (by omega)⟩,fun i hi hm=>⟨fun DT=>⟨fun _=>?_,fun u hu1 hu2=>⟨⟨?_,fun _=>?_⟩,fun v _ hv _ _=>⟨?_,⟨?_,fun q hq hqc=>?_⟩,?_⟩⟩⟩,fun DT q hq hqc=>?_⟩⟩⟩⟩
  ·have rO:j.1 < x.length:=by simpa using rO
   have hln:=zb hxa.1 (n:=j.1) (by omega)
   rw [hj.2]
   exact ⟨⟨by omega,by omega,by omega,by omega,qv hxa.1 rO⟩,fun z hz _ _=>⟨nx rO (by omega),⟨by omega,by rw [hz,g4 f rO]⟩,by omega⟩⟩
  ·have e:j.1=x.length:=by
    have:¬ (j.1 < x.length):=by simpa using rO
    omega
   rw [hj.2,e,List.take_length]
  ·have hR:bu r (cP f x):=by
    have:=tE hxa.1 hF (by omega) (n:=x.length) (Nat.le_refl _)
    rwa [List.take_length] at this
   rw [hb]
   exact ⟨hR,hR.small,a2,a1,a4,a5⟩
  all_goals simp only [LN] at DT
  ·omega
  ·omega
  ·omega
  ·exact nx (m:=S.1.length) (by omega) (by omega)
  ·omega
  ·rw [Bool.or_eq_true]
   rcases Nat.lt_succ_iff_lt_or_eq.1 hq with h1 | rfl
   ·exact .inl (hi.2 q h1 hqc)
   ·exact .inr (by rw [hu1]; exact hqc)
  ·omega
  ·exact hi.2 q (by omega) hqc
def DU r forum f day c_ n:=kk tok mixed Tryz.func5 [av r.cells,iv forum,av f.cells,iv day,av c_.cells,.d (.v (.int .u8 n))] (fun x=>bv x) true (eX r forum f day c_ n) (kD r forum f day c_ n) (Cw r forum f day c_ n) (fun (x:Bool)=>(∀ x,x∈r.aI→(-9223372036854775808≤x.num∧x.num≤9223372036854775807)∧(-9223372036854775808≤x.den∧x.den≤9223372036854775807))→(x=true)) (qK r forum f day c_ n)
theorem Cy (r:ah) (forum:Int) (f:ai) (day:Int) (c_:Claim) (n:Int) (hw:∀ x,x∈r.aI→(-9223372036854775808≤x.num∧x.num≤9223372036854775807)∧(-9223372036854775808≤x.den∧x.den≤9223372036854775807)):eC Tryz.prog 5 [av r.cells,iv forum,av f.cells,iv day,av c_.cells,.d (.v (.int .u8 n))] [] (bv (kD r forum f day c_ n)) []:=(DU r forum f day c_ n).pf hw
theorem yf (RS:∀ (a0:ah) (a1:Int) (a2:ai) (a3:Int) (a4:Claim) (a5:Int),(∀ x,x∈a0.aI→(-9223372036854775808≤x.num∧x.num≤9223372036854775807)∧(-9223372036854775808≤x.den∧x.den≤9223372036854775807))→kD a0 a1 a2 a3 a4 a5=true) (zG:List (List D)) (h:Da TT [51,3,31,3,53,5] zG):eC Tryz.prog 5 (sy TT [51,3,31,3,53,5] zG) [] (.d (.v (.bool true))) []:=by
 obtain ⟨d0,d1,d2,d3,d4,d5,rfl⟩:∃ d0 d1 d2 d3 d4 d5,zG=[d0,d1,d2,d3,d4,d5]:=by
  match zG,h with
  | [d0,d1,d2,d3,d4,d5],_=>exact ⟨d0,d1,d2,d3,d4,d5,rfl⟩
 obtain ⟨h0,h1,h2,h3,h4,h5,-⟩:=h
 obtain ⟨x0,y0,w0⟩:=ah.of h0
 obtain ⟨x1,rfl,w1⟩:=h1.nZ rfl rfl
 obtain ⟨x2,y2,w2⟩:=ai.of h2
 obtain ⟨x3,rfl,w3⟩:=h3.nZ rfl rfl
 obtain ⟨x4,y4,w4⟩:=Claim.of h4
 obtain ⟨x5,rfl,w5⟩:=h5.nZ rfl rfl
 have hf:=Cy x0 x1 x2 x3 x4 x5 (fun x h=>⟨(w0.aI x h).num,(w0.aI x h).den⟩)
 rw [RS x0 x1 x2 x3 x4 x5 (fun x h=>⟨(w0.aI x h).num,(w0.aI x h).den⟩)] at hf
 exact eC.Mz hf ⟨lL.d y0.agg,lL.rfl',lL.d y2.agg,lL.rfl',lL.d y4.agg,lL.rfl',trivial⟩
theorem Be (a0:ah) (a1:Int) (a2:ai) (a3:Int) (a4:Claim) (a5:Int) (h:∀ x,x∈a0.aI→(-9223372036854775808≤x.num∧x.num≤9223372036854775807)∧(-9223372036854775808≤x.den∧x.den≤9223372036854775807)):kD a0 a1 a2 a3 a4 a5=true :=
 qK a0 a1 a2 a3 a4 a5 h
end
end Go.Proofs.YtkbkoaoolojhaaaGreatDoor
