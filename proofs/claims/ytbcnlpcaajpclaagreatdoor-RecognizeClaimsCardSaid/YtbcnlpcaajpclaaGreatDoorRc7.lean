/- Functions, as sketches. -/
import Derived.Test.YtbcnlpcaajpclaaGreatDoorRc6
namespace Go.Proofs.YtbcnlpcaajpclaaGreatDoor
open Go Go.Av
set_option linter.unusedSimpArgs false
set_option linter.unusedVariables false
set_option maxHeartbeats 1000000
set_option maxRecDepth 100000
theorem subL_getD {α:Type} [Inhabited α] (L:List α) (n i:Nat) (h:i < n):(subL L 0 n).getD i default=L.getD i default:=by
 simp [subL,List.getD,h]
noncomputable def paper_sign_sk (r:Realm) (f:File) (i:Int):Sk (Int) :=
 .r 1 (.p (ixP i f.signs.length)) fun _ =>
 .r 2 ((paper_in_k ((f.signs.getD i.toNat default).part) 0 (w64 (f.bill.parts - 1))).c) fun x1 =>
 .br (!x1)
 (.fin 15)
 (.r 4 (.dep ((paper_in_k ((f.signs.getD i.toNat default).who) 0 (w64 (((r.firms.length:Nat):Int) - 1))).c) fun x2=>.wh (!x2) false ((paper_in_k ((f.signs.getD i.toNat default).city) 0 (w64 (((r.cities.length:Nat):Int) - 1))).c)) fun p8 =>
 .br ((!p8.1)||(!p8.2))
 (.fin 1)
 (.r 7 (.andl (.o [.nrm (subC Sign.E f.signs 0 i.toNat)]) (.pt (0≤i∧i≤((f.signs.length:Nat):Int)) (Sign.E.lens f.signs))) fun _ =>
 .bind true (fun b4=>b4.1=(if i.toNat=0 then f.bill.day else (f.signs.getD (i.toNat - 1) default).day))
 (.loop (default:Sum (Int) (Int × Bool)) (fun i5=>i5.2.2≤i.toNat∧i5.1=(if i5.2.2=0 then f.bill.day else (f.signs.getD (i5.2.2 - 1) default).day)) (fun i5=>(subL f.signs 0 i.toNat).length - i5.2.2) ((f.bill.day,false,0):Int × Bool × Nat)
 (fun (i5:Int × Bool × Nat)=>⟨[(8,iv i5.1),(9,bv i5.2.1),(51,iv (i5.2.2:Int))],[]⟩) fun i5 =>
 .bnd 49 0 ((subL f.signs 0 i.toNat).length) <|
 .br (decide ((i5.2.2:Int) < (((subL f.signs 0 i.toNat).length:Nat):Int)))
 (.r 9 (.p (ixP (i5.2.2:Int) ((subL f.signs 0 i.toNat).length))) fun _ =>
 .r 12 .z fun _ =>
 .wi 51 (w64 ((i5.2.2:Int)+1)) ((i5.2.2+1:Nat):Int) <|
 .fin (.inr (((subL f.signs 0 i.toNat).getD i5.2.2 default).day,i5.2.1||(((((f.signs.getD i.toNat default).kind) == 1)&&((((subL f.signs 0 i.toNat).getD i5.2.2 default).kind) == 1))&&((((subL f.signs 0 i.toNat).getD i5.2.2 default).part) == ((f.signs.getD i.toNat default).part))),i5.2.2+1)))
 (.fin (.inl (.inr (i5.1,i5.2.1)))))
 (fun (b4:Int × Bool)=>⟨[(8,iv b4.1),(9,bv b4.2)],[]⟩) fun b4 =>
 .r 13 ((paper_in_k ((f.signs.getD i.toNat default).day) b4.1 100000).c) fun x6 =>
 .br ((!x6)||((i == 0)&&(((f.signs.getD i.toNat default).day) != b4.1)))
 (.fin 13)
 (.r 15 ((paper_fits_k r f i).c) fun x7 =>
 .br (!x7)
 (.fin 14)
 (.br b4.2
 (.fin 5)
 (.fin 0)))))
noncomputable def paper_sign (r:Realm) (f:File) (i:Int):Int:=(paper_sign_sk r f i).val
theorem paper_sign_pst (r:Realm) (f:File) (i:Int) (hP:(0≤i∧i < (f.signs.length:Int))∧f.signs.length≤40∧r.firms.length≤200∧BillR r f.bill):(paper_sign_sk r f i).pst (fun (x:Int)=>x=0→SgnOK r f i.toNat∧ToQ r f i.toNat):=by
 refine Sk.pst_of _ ?_
 unfold paper_sign_sk
 simp only [Sk.pstq,Sk.isLoop,reduceCtorEq,ON,kk,paper_fits_k,paper_in_k,paper_in_eq,forall_eq,File.Small,Realm.Small,maxLen]
 intro _
 obtain ⟨hi,hn,hr,hB⟩:=hP
 have hB2:=hB.2.2.2.1
 refine ⟨fun _ h=>absurd h (by decide),fun hpart=>⟨fun _ h=>absurd h (by decide),fun hwho _=>⟨⟨⟨by omega,by simp⟩,fun k hk=>⟨fun hc _ _=>⟨⟨?_,?_⟩,?_⟩,fun hc=>?_⟩⟩,fun b hb=>⟨fun _ h=>absurd h (by decide),fun hd hF=>⟨fun _ h=>absurd h (by decide),fun hf=>⟨fun _ h=>absurd h (by decide),fun _=>?_⟩⟩⟩⟩⟩⟩
 all_goals (try simp only [LN] at hc)
 ·omega
 ·rw [subL_getD _ _ _ (by omega),if_neg (by simp)]; rfl
 ·simp only [subL_length] at hc ⊢; omega
 ·have e:k.2.2=i.toNat:=by omega
  rw [hk.2,e]
 ·have hF:=hF ⟨hi,hn,hr⟩ (by simpa using hf)
  simp only [LN] at hpart hwho hd
  obtain ⟨⟨w1,w2⟩,_⟩:=hwho
  obtain ⟨⟨d1,d2⟩,d3⟩:=hd
  rw [w64_id (by omega) (by omega)] at w2 hpart
  refine ⟨⟨⟨w1,by omega⟩,fun h0=>?_,d2,fun h0=>?_,hpart,hF.1⟩,hF.2⟩
  ·rw [if_neg h0] at hb
   rw [← hb]; exact d1
  ·rw [if_pos h0] at hb
   rw [← hb]
   rcases d3 with d3 | d3
   ·omega
   ·exact d3
theorem paper_sign_post (r:Realm) (f:File) (i:Int):(fun (x:Int)=>((0≤i∧i < (f.signs.length:Int))∧f.signs.length≤40∧r.firms.length≤200∧BillR r f.bill)→(x=0→SgnOK r f i.toNat∧ToQ r f i.toNat)) (paper_sign r f i):=fun hP=>Sk.pval _ (paper_sign_pst r f i hP)
theorem paper_sign_ok (r:Realm) (f:File) (i:Int) (hi:0≤i∧i < (f.signs.length:Int)) (hf:f.signs.length≤1000000) (hr:r.Small):(paper_sign_sk r f i).obs (fun _=>True):=by
 simp only [File.Small,Realm.Small] at hr
 refine Sk.obs_of _ ?_
 unfold paper_sign_sk
 simp only [Sk.obq,Sk.isLoop,reduceCtorEq,ON,kk,paper_fits_k,paper_in_k,paper_in_eq,forall_eq,File.Small,Realm.Small,maxLen]
 refine ⟨hi,fun _ hp hwho=>⟨⟨hi.1,by omega⟩,fun _=>⟨⟨⟨by omega,by simp⟩,fun k hk hl=>⟨fun hc=>⟨⟨by omega,of_decide_eq_true hc⟩,fun _ _=>⟨?_,⟨⟨?_,?_⟩,?_⟩⟩⟩,fun hc=>?_⟩⟩,?_⟩⟩⟩
 all_goals (try simp only [LN] at hc)
 ·exact w64_id (by simp only [subL_length] at hl; omega) (by simp only [subL_length] at hl; omega)
 ·omega
 ·rw [subL_getD _ _ _ (by omega),if_neg (by simp)]; rfl
 ·simp only [subL_length] at hc ⊢; omega
 ·have e:k.2.2=i.toNat:=by omega
  rw [hk.2,e]
 ·intro b hb hd
  exact ⟨hi,hf⟩
noncomputable def paper_sign_k (r:Realm) (f:File) (i:Int):Ctr (Int):=kk tok mixed Tryz.func103 [av r.cells,av f.cells,iv i] (fun x=>iv x) true (paper_sign_sk r f i) (paper_sign r f i) (fun (h:(0≤i∧i < (f.signs.length:Int))∧(f.signs.length≤1000000)∧(r.Small))=>paper_sign_ok r f i h.1 h.2.1 h.2.2) (fun (x:Int)=>((0≤i∧i < (f.signs.length:Int))∧f.signs.length≤40∧r.firms.length≤200∧BillR r f.bill)→(x=0→SgnOK r f i.toNat∧ToQ r f i.toNat)) (paper_sign_post r f i)
noncomputable def paper_act_sk (r:Realm) (f:File) (a:ActX):Sk (Bool) :=
 .r 1 (.dep ((paper_in_k a.at_ 0 (w64 (((f.signs.length:Nat):Int) - 1))).c) fun x1=>.wh x1 true ((paper_stands_k f a.at_ a.part).c)) fun p11 =>
 .r 2 (.wh (p11.1&&p11.2) true (.p (ixP a.at_ f.signs.length))) fun _ =>
 .r 3 ((paper_in_k a.to_ 0 (w64 (((r.firms.length:Nat):Int) - 1))).c) fun x3 =>
 .r 4 ((paper_in_k a.who 0 (w64 (((r.firms.length:Nat):Int) - 1))).c) fun x4 =>
 .br ((!x4)||((a.kind != 4)&&(a.form != 0)))
 (.fin false)
 (.bind false (fun _=>True)
 (.br (a.kind == 0)
 (.fin (.inr (a.kind == 0)))
 (.br (a.kind == 1)
 (.fin (.inr (a.kind == 1)))
 (.fin (.inr (a.kind == 2)))))
 (fun (b5:Bool)=>⟨[(65,bv b5)],[]⟩) fun b5 =>
 .br b5
 (.fin ((x3&&(a.at_ == (-1)))&&(a.sum == 0)))
 (.bind false (fun _=>True)
 (.br (a.kind == 3)
 (.fin (.inr (a.kind == 3)))
 (.br (a.kind == 5)
 (.fin (.inr (a.kind == 5)))
 (.fin (.inr (a.kind == 4)))))
 (fun (b6:Bool)=>⟨[(80,bv b6)],[]⟩) fun b6 =>
 .br b6
 (.r 14 (.dep (.wh (x3&&(a.at_ == (-1))) true ((paper_in_k a.sum 0 1099511627776).c)) fun x7=>.wh ((x3&&(a.at_ == (-1)))&&x7) true ((paper_in_k a.form 0 1).c)) fun p9 =>
 .fin (((x3&&(a.at_ == (-1)))&&p9.1)&&p9.2))
 (.br (a.kind == 6)
 (.r 16 (.wh (x3&&((p11.1&&p11.2)&&(((f.signs.getD a.at_.toNat default).who) == a.who))) true ((paper_in_k a.sum 1 1099511627776).c)) fun x10 =>
 .fin ((x3&&((p11.1&&p11.2)&&(((f.signs.getD a.at_.toNat default).who) == a.who)))&&x10))
 (.br (a.kind == 9)
 (.fin (((a.to_ == (-1))&&((p11.1&&p11.2)&&(((f.signs.getD a.at_.toNat default).who) == a.who)))&&(a.sum == 0)))
 (.fin (((a.to_ == (-1))&&(p11.1&&p11.2))&&(a.sum == 0)))))))
noncomputable def paper_act (r:Realm) (f:File) (a:ActX):Bool:=(paper_act_sk r f a).val
theorem paper_act_pst (r:Realm) (f:File) (a:ActX) (hP:f.signs.length≤40):(paper_act_sk r f a).pst (fun (x:Bool)=>x=true→(a.at_ = -1∨(0≤a.at_∧a.at_ < (f.signs.length:Int)))∧SumP a.sum∧(a.kind=6→0≤a.at_∧(f.signs.getD a.at_.toNat default).who=a.who)):=by
 unfold paper_act_sk
 try simp only [paper_in_k,paper_stands_k,paper_in_eq]
 exact okQ
theorem paper_act_post (r:Realm) (f:File) (a:ActX):(fun (x:Bool)=>(f.signs.length≤40)→(x=true→(a.at_ = -1∨(0≤a.at_∧a.at_ < (f.signs.length:Int)))∧SumP a.sum∧(a.kind=6→0≤a.at_∧(f.signs.getD a.at_.toNat default).who=a.who))) (paper_act r f a):=fun hP=>Sk.pval _ (paper_act_pst r f a hP)
theorem paper_act_ok (r:Realm) (f:File) (a:ActX) (hf:f.signs.length≤1000000):(paper_act_sk r f a).obs (fun _=>True):=by
 unfold paper_act_sk
 try simp only [paper_in_k,paper_stands_k,paper_in_eq]
 exact okG
noncomputable def paper_act_k (r:Realm) (f:File) (a:ActX):Ctr (Bool):=kk tok mixed Tryz.func178 [av r.cells,av f.cells,av a.cells] (fun x=>bv x) true (paper_act_sk r f a) (paper_act r f a) (fun (h:(f.signs.length≤1000000))=>paper_act_ok r f a h) (fun (x:Bool)=>(f.signs.length≤40)→(x=true→(a.at_ = -1∨(0≤a.at_∧a.at_ < (f.signs.length:Int)))∧SumP a.sum∧(a.kind=6→0≤a.at_∧(f.signs.getD a.at_.toNat default).who=a.who))) (paper_act_post r f a)
noncomputable def paper_acts_sk (r:Realm) (f:File):Sk (Int) :=
 .bind true (fun b1=>∀ q,q < f.acts.length→DoneOK f q)
 (.loop (default:Sum (Int) (Unit)) (fun i2=>i2≤f.acts.length∧∀ q,q < i2→DoneOK f q) (fun i2=>f.acts.length - i2) (0:Nat)
 (fun (i2:Nat)=>⟨[(11,iv (i2:Int))],[]⟩) fun i2 =>
 .bnd 9 0 f.acts.length <|
 .br (decide ((i2:Int) < ((f.acts.length:Nat):Int)))
 (.r 3 (.p (ixP (i2:Int) f.acts.length)) fun _ =>
 .r 4 ((paper_in_k ((f.acts.getD i2 default).part) 0 (w64 (f.bill.parts - 1))).c) fun x3 =>
 .br (!x3)
 (.fin (.inl (.inl 15)))
 (.r 6 (.dep ((paper_in_k ((f.acts.getD i2 default).city) 0 (w64 (((r.cities.length:Nat):Int) - 1))).c) fun x4=>.wh (!x4) false ((paper_in_k ((f.acts.getD i2 default).kind) 0 9).c)) fun p10 =>
 .br ((!p10.1)||(!p10.2))
 (.fin (.inl (.inl 1)))
 (.r 8 ((paper_act_k r f (f.acts.getD i2 default)).c) fun x6 =>
 .br (!x6)
 (.fin (.inl (.inl 14)))
 (.bind false (fun b7=>f.bill.day≤b7∧(0≤(f.acts.getD i2 default).at_→(f.signs.getD (f.acts.getD i2 default).at_.toNat default).day≤b7))
 (.br (((f.acts.getD i2 default).at_) != (-1))
 (.r 12 (.p (ixP ((f.acts.getD i2 default).at_) f.signs.length)) fun _ =>
 .fin (.inr (maxI f.bill.day ((f.signs.getD (((f.acts.getD i2 default).at_).toNat) default).day))))
 (.fin (.inr f.bill.day)))
 (fun (b7:Int)=>⟨[(7,iv b7)],[]⟩) fun b7 =>
 .bind false (fun b8=>f.bill.day≤b8∧(0≤(f.acts.getD i2 default).at_→(f.signs.getD (f.acts.getD i2 default).at_.toNat default).day≤b8)∧(i2≠0→(f.acts.getD (i2 - 1) default).day≤b8))
 (.br (decide ((i2:Int) > 0))
 (.r 14 (.p (ixP (w64 ((i2:Int) - 1)) f.acts.length)) fun _ =>
 .fin (.inr (maxI b7 ((f.acts.getD ((w64 ((i2:Int) - 1)).toNat) default).day))))
 (.fin (.inr b7)))
 (fun (b8:Int)=>⟨[(7,iv b8)],[]⟩) fun b8 =>
 .r 15 ((paper_in_k ((f.acts.getD i2 default).day) b8 100000).c) fun x9 =>
 .br (!x9)
 (.fin (.inl (.inl 13)))
 (.r 17 .z fun _ =>
 .wi 11 (w64 ((i2:Int)+1)) ((i2+1:Nat):Int) <|
 .fin (.inr (i2+1)))))))
 (.fin (.inl (.inr ()))))
 (fun (_:Unit)=>⟨[],[]⟩) fun _ =>
 .fin 0
noncomputable def paper_acts (r:Realm) (f:File):Int:=(paper_acts_sk r f).val
theorem paper_acts_pst (r:Realm) (f:File) (hP:f.signs.length≤40∧f.acts.length≤100):(paper_acts_sk r f).pst (fun (x:Int)=>x=0→∀ q,q < f.acts.length→DoneOK f q):=by
 refine Sk.pst_of _ ?_
 unfold paper_acts_sk
 simp only [Sk.pstq,Sk.isLoop,reduceCtorEq,ON,kk,paper_act_k,paper_in_k,paper_in_eq,forall_eq,maxLen]
 obtain ⟨hf,ha⟩:=hP
 refine ⟨⟨⟨by omega,fun q hq=>absurd hq (by omega)⟩,fun k hk=>⟨fun hc _=>⟨fun _ h=>absurd h (by decide),fun _=>⟨fun _ h=>absurd h (by decide),fun _ hact=>⟨fun _ h=>absurd h (by decide),fun ha2=>⟨⟨fun _ _=>⟨?_,fun _=>?_⟩,fun hne=>⟨Int.le_refl _,fun h=>?_⟩⟩,fun b _ hb=>⟨⟨fun hk0 _=>⟨?_,fun h=>?_,fun _=>?_⟩,fun hk0=>⟨hb.1,hb.2,fun h=>?_⟩⟩,fun c _ hcc=>⟨fun _ h=>absurd h (by decide),fun hd _=>⟨⟨?_,fun q hq=>?_⟩,?_⟩⟩⟩⟩⟩⟩⟩,fun hc q hq=>hk.2 q (by simp only [LN] at hc; omega)⟩⟩,?_⟩
 all_goals (try simp only [LN] at hc)
 ·unfold maxI; omega
 ·unfold maxI; omega
 ·simp only [LN] at hne; omega
 ·have:=hb.1; unfold maxI; omega
 ·have:=hb.2 h; unfold maxI; omega
 ·simp only [LN] at hk0
  have e:(w64 ((k:Int) - 1)).toNat=k - 1:=by rw [w64_id (by omega) (by omega)]; omega
  rw [e]; unfold maxI; omega
 ·simp only [LN] at hk0; omega
 ·omega
 ·simp only [LN] at hd
  by_cases e:q=k
  ·subst e
   have A:=hact hf (by simpa using ha2)
   exact ⟨A.2.1,⟨by omega,hd.2⟩,fun h=>by have:=hcc.2.2 h; omega,fun h6=>⟨⟨(A.2.2 h6).1,by have:=(A.2.2 h6).1; have:=A.1; omega⟩,by have:=hcc.2.1 (A.2.2 h6).1; omega,(A.2.2 h6).2⟩⟩
  ·exact hk.2 q (by omega)
 ·omega
 ·first | exact fun _ hb=>hb | exact fun _ hb _=>hb | trivial
theorem paper_acts_post (r:Realm) (f:File):(fun (x:Int)=>(f.signs.length≤40∧f.acts.length≤100)→(x=0→∀ q,q < f.acts.length→DoneOK f q)) (paper_acts r f):=fun hP=>Sk.pval _ (paper_acts_pst r f hP)
theorem paper_acts_ok (r:Realm) (f:File) (hf:f.signs.length≤40) (ha:f.acts.length≤1000000):(paper_acts_sk r f).obs (fun _=>True):=by
 refine Sk.obs_of _ ?_
 unfold paper_acts_sk
 simp only [Sk.obq,Sk.isLoop,reduceCtorEq,ON,kk,paper_act_k,paper_in_k,paper_in_eq,forall_eq,maxLen]
 refine ⟨⟨by omega,fun q hq=>absurd hq (by omega)⟩,fun k hk hl=>⟨fun hc=>⟨⟨by omega,of_decide_eq_true hc⟩,fun _ _ _=>⟨by omega,fun hact ha2=>⟨⟨fun hne=>⟨?_,fun _=>⟨?_,fun _=>?_⟩⟩,fun hne=>⟨Int.le_refl _,fun h=>?_⟩⟩,fun b _ hb=>⟨⟨fun hk0=>⟨⟨?_,?_⟩,fun _=>⟨?_,fun h=>?_,fun _=>?_⟩⟩,fun hk0=>⟨hb.1,hb.2,fun h=>?_⟩⟩,fun c _ hcc hd _=>⟨?_,⟨?_,fun q hq=>?_⟩,?_⟩⟩⟩⟩⟩,fun hc q hq=>hk.2 q (by simp only [LN] at hc; omega)⟩⟩
 all_goals (try simp only [LN] at hc)
 ·simp only [LN] at hne
  have:=(hact hf (by simpa using ha2)).1
  omega
 ·unfold maxI; omega
 ·unfold maxI; omega
 ·simp only [LN] at hne; omega
 ·simp only [LN] at hk0; rw [w64_id (by omega) (by omega)]; omega
 ·simp only [LN] at hk0; rw [w64_id (by omega) (by omega)]; omega
 ·have:=hb.1; unfold maxI; omega
 ·have:=hb.2 h; unfold maxI; omega
 ·simp only [LN] at hk0
  have e:(w64 ((k:Int) - 1)).toNat=k - 1:=by rw [w64_id (by omega) (by omega)]; omega
  rw [e]; unfold maxI; omega
 ·simp only [LN] at hk0; omega
 ·exact w64_id (by omega) (by omega)
 ·omega
 ·simp only [LN] at hd
  by_cases e:q=k
  ·subst e
   have A:=hact hf (by simpa using ha2)
   exact ⟨A.2.1,⟨by omega,hd.2⟩,fun h=>by have:=hcc.2.2 h; omega,fun h6=>⟨⟨(A.2.2 h6).1,by have:=(A.2.2 h6).1; have:=A.1; omega⟩,by have:=hcc.2.1 (A.2.2 h6).1; omega,(A.2.2 h6).2⟩⟩
  ·exact hk.2 q (by omega)
 ·omega
noncomputable def paper_acts_k (r:Realm) (f:File):Ctr (Int):=kk tok mixed Tryz.func105 [av r.cells,av f.cells] (fun x=>iv x) true (paper_acts_sk r f) (paper_acts r f) (fun (h:(f.signs.length≤40)∧(f.acts.length≤1000000))=>paper_acts_ok r f h.1 h.2) (fun (x:Int)=>(f.signs.length≤40∧f.acts.length≤100)→(x=0→∀ q,q < f.acts.length→DoneOK f q)) (paper_acts_post r f)
noncomputable def cmp_isNaN_sk (x_:Int):Sk (Bool) :=
 .fin (x_ != x_)
noncomputable def cmp_isNaN (x_:Int):Bool:=(cmp_isNaN_sk x_).val
theorem cmp_isNaN_eq (x_:Int):cmp_isNaN x_=(x_ != x_):=rfl
theorem cmp_isNaN_ok (x_:Int):(cmp_isNaN_sk x_).obs (fun _=>True):=by
 unfold cmp_isNaN_sk
 exact okE
noncomputable def cmp_isNaN_k (x_:Int):Ctr (Bool):=kk tok mixed Tryz.func228 [iv x_] (fun x=>bv x) true (cmp_isNaN_sk x_) (cmp_isNaN x_) (fun (_:True)=>cmp_isNaN_ok x_)
noncomputable def cmp_Compare_sk (x_:Int) (y:Int):Sk (Int) :=
 .r 1 ((cmp_isNaN_k x_).c) fun x1 =>
 .r 2 ((cmp_isNaN_k y).c) fun x2 =>
 .br x1
 (.br x2
 (.fin 0)
 (.fin (-1)))
 (.br x2
 (.fin 1)
 (.br (decide (x_ < y))
 (.fin (-1))
 (.br (decide (x_ > y))
 (.fin 1)
 (.fin 0))))
noncomputable def cmp_Compare (x_:Int) (y:Int):Int:=(cmp_Compare_sk x_ y).val
theorem cmp_Compare_ok (x_:Int) (y:Int):(cmp_Compare_sk x_ y).obs (fun _=>True):=by
 unfold cmp_Compare_sk
 try simp only [cmp_isNaN_k,cmp_isNaN_eq]
 exact okG
noncomputable def cmp_Compare_k (x_:Int) (y:Int):Ctr (Int):=kk tok mixed Tryz.func180 [iv x_,iv y] (fun x=>iv x) true (cmp_Compare_sk x_ y) (cmp_Compare x_ y) (fun (_:True)=>cmp_Compare_ok x_ y)
noncomputable def cmp_Or_sk (vals:List Int):Sk (Int) :=
 .bind true (fun _=>True)
 (.loop (default:Sum (Int) (Unit)) (fun i2=>i2≤vals.length) (fun i2=>vals.length - i2) (0:Nat)
 (fun (i2:Nat)=>⟨[(8,iv (i2:Int))],[]⟩) fun i2 =>
 .bnd 6 0 vals.length <|
 .br (decide ((i2:Int) < ((vals.length:Nat):Int)))
 (.r 4 (.p (ixP (i2:Int) vals.length)) fun _ =>
 .br ((vals.getD i2 default) != 0)
 (.fin (.inl (.inl (vals.getD i2 default))))
 (.r 7 .z fun _ =>
 .wi 8 (w64 ((i2:Int)+1)) ((i2+1:Nat):Int) <|
 .fin (.inr (i2+1))))
 (.fin (.inl (.inr ()))))
 (fun (_:Unit)=>⟨[],[]⟩) fun _ =>
 .fin 0
noncomputable def cmp_Or (vals:List Int):Int:=(cmp_Or_sk vals).val
theorem cmp_Or_ok (vals:List Int):(cmp_Or_sk vals).obs (fun _=>True):=by
 unfold cmp_Or_sk
 exact okD
noncomputable def cmp_Or_k (vals:List Int):Ctr (Int):=kk tok mixed Tryz.func179 [lv intC vals] (fun x=>iv x) true (cmp_Or_sk vals) (cmp_Or vals) (fun (_:True)=>cmp_Or_ok vals)
noncomputable def paper_facts_sk (f:File):Sk (Int) :=
 .bind true (fun _=>True)
 (.loop (default:Sum (Int) (Unit)) (fun i2=>i2≤f.facts.length) (fun i2=>f.facts.length - i2) (0:Nat)
 (fun (i2:Nat)=>⟨[(9,iv (i2:Int))],[]⟩) fun i2 =>
 .bnd 7 0 f.facts.length <|
 .br (decide ((i2:Int) < ((f.facts.length:Nat):Int)))
 (.r 3 (.p (ixP (i2:Int) f.facts.length)) fun _ =>
 .r 4 (.dep ((paper_in_k ((f.facts.getD i2 default).kind) 0 4).c) fun x3=>.dep (.wh (!x3) false ((paper_in_k ((f.facts.getD i2 default).at_) 0 (w64 (((f.signs.length:Nat):Int) - 1))).c)) fun x4=>.wh ((!x3)||(!x4)) false ((paper_in_k ((f.facts.getD i2 default).n) 0 1).c)) fun p10 =>
 .br (((!p10.1)||(!p10.2.1))||(!p10.2.2))
 (.fin (.inl (.inl 1)))
 (.br ((i2:Int) == 0)
 (.r 10 .z fun _ =>
 .wi 9 (w64 ((i2:Int)+1)) ((i2+1:Nat):Int) <|
 .fin (.inr (i2+1)))
 (.r 7 (.p (ixP (w64 ((i2:Int) - 1)) f.facts.length)) fun _ =>
 .r 8 (.dep ((cmp_Compare_k ((f.facts.getD ((w64 ((i2:Int) - 1)).toNat) default).at_) ((f.facts.getD i2 default).at_)).c) fun x6=>.dep ((cmp_Compare_k ((f.facts.getD ((w64 ((i2:Int) - 1)).toNat) default).kind) ((f.facts.getD i2 default).kind)).c) fun x7=>.andl (.o [.nrm (litC intE [x6,x7])]) ((cmp_Or_k [x6,x7]).c)) fun p9 =>
 .br (decide (p9.2.2≥0))
 (.fin (.inl (.inl 5)))
 (.r 10 .z fun _ =>
 .wi 9 (w64 ((i2:Int)+1)) ((i2+1:Nat):Int) <|
 .fin (.inr (i2+1))))))
 (.fin (.inl (.inr ()))))
 (fun (_:Unit)=>⟨[],[]⟩) fun _ =>
 .fin 0
noncomputable def paper_facts (f:File):Int:=(paper_facts_sk f).val
theorem paper_facts_ok (f:File):(paper_facts_sk f).obs (fun _=>True):=by
 unfold paper_facts_sk
 try simp only [cmp_Compare_k,cmp_Or_k,paper_in_k,paper_in_eq]
 exact okG
noncomputable def paper_facts_k (f:File):Ctr (Int):=kk tok mixed Tryz.func106 [av f.cells] (fun x=>iv x) true (paper_facts_sk f) (paper_facts f) (fun (_:True)=>paper_facts_ok f)
noncomputable def paper_Check_sk (r:Realm) (f:File):Sk (Int) :=
 .br ((((decide (((f.signs.length:Nat):Int) > 40))||(decide (((f.alters.length:Nat):Int) > 4)))||(decide (((f.acts.length:Nat):Int) > 100)))||(decide (((f.facts.length:Nat):Int) > 200)))
 (.fin 6)
 (.r 3 ((wording_Check_k r f.bill).c) fun x1 =>
 .br (x1 != 0)
 (.fin x1)
 (.br (((f.signs.length:Nat):Int) == 0)
 (.fin 14)
 (.bind true (fun b2=>(r.firms.length≤200→∀ q,q < f.signs.length→SgnOK r f q∧ToQ r f q))
 (.loop (default:Sum (Int) (Unit)) (fun i3=>i3≤f.signs.length∧(r.firms.length≤200→∀ q,q < i3→SgnOK r f q∧ToQ r f q)) (fun i3=>f.signs.length - i3) (0:Nat)
 (fun (i3:Nat)=>⟨[(48,iv (i3:Int))],[]⟩) fun i3 =>
 .bnd 3 15 f.signs.length <|
 .br (decide ((i3:Int) < ((f.signs.length:Nat):Int)))
 (.r 11 ((paper_sign_k r f (i3:Int)).c) fun x4 =>
 .br (x4 != 0)
 (.fin (.inl (.inl x4)))
 (.r 14 .z fun _ =>
 .wi 48 (w64 ((i3:Int)+1)) ((i3+1:Nat):Int) <|
 .fin (.inr (i3+1))))
 (.fin (.inl (.inr ()))))
 (fun (_:Unit)=>⟨[],[]⟩) fun _ =>
 .bind true (fun b5=>(∀ q,q < f.alters.length→SumP (f.alters.getD q default).sum))
 (.loop (default:Sum (Int) (Unit)) (fun i6=>i6.2≤f.alters.length∧(∀ q,q < i6.2→SumP (f.alters.getD q default).sum)) (fun i6=>f.alters.length - i6.2) ((0,0):Int × Nat)
 (fun (i6:Int × Nat)=>⟨[(8,iv i6.1),(62,iv (i6.2:Int))],[]⟩) fun i6 =>
 .bnd 60 0 f.alters.length <|
 .br (decide ((i6.2:Int) < ((f.alters.length:Nat):Int)))
 (.r 18 (.p (ixP (i6.2:Int) f.alters.length)) fun _ =>
 .r 19 ((paper_in_k ((f.alters.getD i6.2 default).at_) (w64 (i6.1+1)) ((f.signs.length:Nat):Int)).c) fun x7 =>
 .br (!x7)
 (.fin (.inl (.inl 1)))
 (.r 21 ((paper_in_k ((f.alters.getD i6.2 default).sum) 1 1099511627776).c) fun x8 =>
 .br (!x8)
 (.fin (.inl (.inl 3)))
 (.r 24 .z fun _ =>
 .wi 62 (w64 ((i6.2:Int)+1)) ((i6.2+1:Nat):Int) <|
 .fin (.inr ((f.alters.getD i6.2 default).at_,i6.2+1)))))
 (.fin (.inl (.inr ()))))
 (fun (_:Unit)=>⟨[],[]⟩) fun _ =>
 .r 25 ((paper_acts_k r f).c) fun x9 =>
 .br (x9 != 0)
 (.fin x9)
 (.r 28 ((paper_facts_k f).c) fun x10 =>
 .fin x10))))
noncomputable def paper_Check (r:Realm) (f:File):Int:=(paper_Check_sk r f).val
theorem paper_Check_pst (r:Realm) (f:File) (hP:r.firms.length≤200):(paper_Check_sk r f).pst (fun (x:Int)=>x=0→RightF r f∧ToF r f):=by
 refine Sk.pst_of _ ?_
 unfold paper_Check_sk
 simp only [Sk.pstq,Sk.isLoop,reduceCtorEq,ON,kk,paper_acts_k,paper_facts_k,paper_in_k,paper_sign_k,wording_Check_k,paper_in_eq,forall_eq,maxLen]
 refine ⟨fun _ h=>absurd h (by decide),fun hlen hw=>⟨fun h1 h2=>?_,fun hwz=>⟨fun _ h=>absurd h (by decide),fun hne=>⟨⟨⟨by omega,fun _ q hq=>absurd hq (by omega)⟩,fun k hk=>⟨fun hc hs=>⟨fun h1 h2=>?_,fun h1 _=>⟨⟨?_,fun hr q hq=>?_⟩,?_⟩⟩,fun hc hr q hq=>hk.2 hr q (by simp only [LN] at hc; omega)⟩⟩,fun _ hsg=>⟨⟨⟨by omega,fun q hq=>absurd hq (by omega)⟩,fun k hk=>⟨fun hc _=>⟨fun _ h=>absurd h (by decide),fun _=>⟨fun _ h=>absurd h (by decide),fun hs _=>⟨⟨?_,fun q hq=>?_⟩,?_⟩⟩⟩,fun hc q hq=>hk.2 q (by simp only [LN] at hc; omega)⟩⟩,fun _ hal hac=>⟨fun h1 h2=>?_,fun h1 h2=>?_⟩⟩⟩⟩⟩⟩
 all_goals simp only [LN] at hlen
 all_goals (try simp only [LN] at hc)
 ·rw [h2] at h1; exact absurd h1 (by decide)
 ·rw [h2] at h1; exact absurd h1 (by decide)
 ·omega
 ·by_cases e:q=k
  ·subst e
   have:=hs ⟨by omega,by omega,hP,(hw (by simpa using hwz)).1⟩ (by simpa using h1)
   simpa using this
  ·exact hk.2 hr q (by omega)
 ·omega
 ·omega
 ·by_cases e:q=k.2
  ·subst e
   simp only [LN] at hs
   exact ⟨by omega,by omega⟩
  ·exact hk.2 q (by omega)
 ·omega
 ·rw [h2] at h1; exact absurd h1 (by decide)
 ·have W:=hw (by simpa using hwz)
  simp only [LN] at hne
  exact ⟨⟨W.1,⟨by omega,by omega,by omega,by omega,by omega⟩,fun q hq=>(hsg hP q hq).1,hal,hac ⟨by omega,by omega⟩ (by simpa using h1)⟩,W.2,fun q hq=>(hsg hP q hq).2⟩
theorem paper_Check_post (r:Realm) (f:File):(fun (x:Int)=>(r.firms.length≤200)→(x=0→RightF r f∧ToF r f)) (paper_Check r f):=fun hP=>Sk.pval _ (paper_Check_pst r f hP)
theorem paper_Check_ok (r:Realm) (f:File) (hr:r.Small):(paper_Check_sk r f).obs (fun _=>True):=by
 refine Sk.obs_of _ ?_
 unfold paper_Check_sk
 simp only [Sk.obq,Sk.isLoop,reduceCtorEq,ON,kk,paper_acts_k,paper_facts_k,paper_in_k,paper_sign_k,wording_Check_k,paper_in_eq,forall_eq,maxLen]
 intro hlen
 simp only [LN] at hlen
 refine ⟨hr,fun hw hwz hne=>⟨⟨⟨by omega,fun _ q hq=>absurd hq (by omega)⟩,fun k hk hl=>⟨fun hc=>⟨⟨⟨by omega,of_decide_eq_true hc⟩,by omega,hr⟩,fun hs h1 _=>⟨?_,⟨?_,fun hr2 q hq=>?_⟩,?_⟩⟩,fun hc hr2 q hq=>hk.2 hr2 q (by simp only [LN] at hc; omega)⟩⟩,fun _ hsg=>⟨⟨⟨by omega,fun q hq=>absurd hq (by omega)⟩,fun k hk hl=>⟨fun hc=>⟨⟨by omega,of_decide_eq_true hc⟩,fun _ _ hs _=>⟨?_,⟨?_,fun q hq=>?_⟩,?_⟩⟩,fun hc q hq=>hk.2 q (by simp only [LN] at hc; omega)⟩⟩,fun _ _=>⟨by omega,by omega⟩⟩⟩⟩
 all_goals (try simp only [LN] at hc)
 ·exact w64_id (by omega) (by omega)
 ·omega
 ·by_cases e:q=k
  ·subst e
   have:=hs ⟨by omega,by omega,hr2,(hw (by simpa using hwz)).1⟩ (by simpa using h1)
   simpa using this
  ·exact hk.2 hr2 q (by omega)
 ·omega
 ·exact w64_id (by omega) (by omega)
 ·omega
 ·by_cases e:q=k.2
  ·subst e
   simp only [LN] at hs
   exact ⟨by omega,by omega⟩
  ·exact hk.2 q (by omega)
 ·omega
noncomputable def paper_Check_k (r:Realm) (f:File):Ctr (Int):=kk tok mixed Tryz.func50 [av r.cells,av f.cells] (fun x=>iv x) true (paper_Check_sk r f) (paper_Check r f) (fun (h:(r.Small))=>paper_Check_ok r f h) (fun (x:Int)=>(r.firms.length≤200)→(x=0→RightF r f∧ToF r f)) (paper_Check_post r f)
noncomputable def L47_bounded_sk (r:Realm) (f:File):Sk (Bool) :=
 .r 1 (.dep ((R21_Few_k r f).c) fun x1=>.dep (.wh x1 true ((R09_Check_k r).c)) fun x2=>.wh (x1&&(x2 == 0)) true ((paper_Check_k r f).c)) fun p4 =>
 .fin ((p4.1&&(p4.2.1 == 0))&&(p4.2.2 == 0))
noncomputable def L47_bounded (r:Realm) (f:File):Bool:=(L47_bounded_sk r f).val
theorem L47_bounded_pst (r:Realm) (f:File):(L47_bounded_sk r f).pst (fun (x:Bool)=>x=true→r.Small∧r.ByOK∧r.HaltOK∧r.FirmOK∧r.RateOK∧RightF r f∧ToF r f∧r.rates.length≤100):=by
 refine Sk.pst_of _ ?_
 unfold L47_bounded_sk
 simp only [Sk.pstq,Sk.isLoop,reduceCtorEq,ON,kk,R09_Check_k,R21_Few_k,paper_Check_k,maxLen]
 intro x _ h hx
 simp only [LN] at hx
 have a:=h.1 hx.1.1
 have b:=h.2.1 hx.1.2
 have c:=h.2.2 b.2.2.2.1 hx.2
 exact ⟨a.1,b.2.2.2.2.2.1,b.2.2.2.2.2.2.2.2.2.2.2.2,b.2.2.2.2.1,b.2.2.2.2.2.2.2.2.2.2.2.1,c.1,c.2,b.2.2.2.2.2.2.2.2.2.1⟩
theorem L47_bounded_post (r:Realm) (f:File):(fun (x:Bool)=>x=true→r.Small∧r.ByOK∧r.HaltOK∧r.FirmOK∧r.RateOK∧RightF r f∧ToF r f∧r.rates.length≤100) (L47_bounded r f):=have h:=Sk.pval _ (L47_bounded_pst r f); h
theorem L47_bounded_ok (r:Realm) (f:File):(L47_bounded_sk r f).obs (fun _=>True):=by
 refine Sk.obs_of _ ?_
 unfold L47_bounded_sk
 simp only [Sk.obq,Sk.isLoop,reduceCtorEq,ON,kk,R09_Check_k,R21_Few_k,paper_Check_k,maxLen]
 all_goals (repeat' first | assumption | (apply And.intro) | (intro h))
 all_goals first | trivial | assumption | omega | ((try simp only [LN] at *) <;> first | omega | (refine (w64_id ?_ ?_).trans ?_ <;> omega) | (simp (disch:=omega) only [w64_id] at *; omega) | (grind) | (simp_all; done) | (simp_all; omega))
noncomputable def L47_bounded_k (r:Realm) (f:File):Ctr (Bool):=kk tok mixed Tryz.func18 [av r.cells,av f.cells] (fun x=>bv x) true (L47_bounded_sk r f) (L47_bounded r f) (fun (_:True)=>L47_bounded_ok r f) (fun (x:Bool)=>x=true→r.Small∧r.ByOK∧r.HaltOK∧r.FirmOK∧r.RateOK∧RightF r f∧ToF r f∧r.rates.length≤100) (L47_bounded_post r f)
structure View where
 all:File
 now:File
 day:Int
 lead:List Int
 deriving Inhabited
def View.cells (c:View):List D:=c.all.cells++c.now.cells++[dI c.day,slD intC c.lead]
def View.E:Enc View:=⟨View.cells,40,fun _=>rfl,fun _=>rfl⟩
def View.BaseOK (v:View):Prop:=∀ i,i < v.now.signs.length→((v.now.signs.getD i default).kind=3∨(v.now.signs.getD i default).kind=4)→0≤(v.now.signs.getD i default).for_∧(v.now.signs.getD i default).for_ < (i:Int)
structure Court where
 view:View
 r:Realm
 forum:Int
 due:Int
 deriving Inhabited
def Court.cells (c:Court):List D:=c.view.cells++c.r.cells++[dI c.forum,dI c.due]
def Court.E:Enc Court:=⟨Court.cells,50,fun _=>rfl,fun _=>rfl⟩
end Go.Proofs.YtbcnlpcaajpclaaGreatDoor
