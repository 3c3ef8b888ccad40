/- Functions, as sketches. -/
import Derived.Test.YtbcnlpcaajpclaaGreatDoorRc16
namespace Go.Proofs.YtbcnlpcaajpclaaGreatDoor
open Go Go.Av
set_option linter.unusedSimpArgs false
set_option linter.unusedVariables false
set_option maxHeartbeats 1000000
set_option maxRecDepth 100000
theorem mapw_len {α:Type} (g:α→α) (l:List α) (n:Nat):((l.take n).map g++l.drop n).length=l.length:=by
 simp only [List.length_append,List.length_map,List.length_take,List.length_drop]
 omega
theorem mapw_get {α:Type} [Inhabited α] (g:α→α) {l:List α} {n:Nat} (h:n < l.length):((l.take n).map g++l.drop n).getD n default=l.getD n default:=by
 simp only [List.getD]
 rw [List.getElem?_append_right (by simp; omega)]
 have:n - ((l.take n).map g).length=0:=by simp; omega
 rw [this,List.getElem?_drop,Nat.add_zero]
theorem mapw_set {α:Type} [Inhabited α] (g:α→α) {l:List α} {n:Nat} (h:n < l.length):((l.take n).map g++l.drop n).set n (g (l.getD n default))=(l.take (n+1)).map g++l.drop (n+1):=by
 have h1:((l.take n).map g).length=n:=by simp; omega
 have h2:l[n]?.toList=[l.getD n default]:=by simp [List.getD,h]
 rw [List.set_append_right _ _ (by omega),h1,Nat.sub_self,List.take_add_one,h2,List.drop_eq_getElem_cons h,List.set_cons_zero,List.map_append,List.append_assoc,List.map_cons,List.map_nil,List.singleton_append]
theorem mapw_same {α:Type} [Inhabited α] (g:α→α) {l:List α} {n:Nat} (h:n < l.length) (hg:g (l.getD n default)=l.getD n default):(l.take n).map g++l.drop n=(l.take (n+1)).map g++l.drop (n+1):=by
 rw [← mapw_set g h,hg,← mapw_get g h]
 have h2:n < ((l.take n).map g++l.drop n).length:=by rw [mapw_len]; exact h
 generalize (l.take n).map g++l.drop n=m at h2
 refine List.ext_getElem (by simp) (fun i h3 h4=>?_)
 rw [List.getElem_set]
 split
 ·rename_i e
  subst e
  simp [List.getD,h2]
 ·rfl
theorem mapw_end {α:Type} (g:α→α) {l:List α} {n:Nat} (h:l.length≤n):(l.take n).map g++l.drop n=l.map g:=by
 rw [List.take_of_length_le h,List.drop_of_length_le h,List.append_nil]
theorem paid_len {r:Realm} {forum:Int} {f:File} {day:Int} {l:List Claim} (hF:RightF r f) (h:Paid (record_At f day) (owe_Claims r forum f day) (record_At f day).acts.length l):l.length≤1000000000:=by
 have h1:=h.count.1
 have h2:=claims_len (forum:=forum) (day:=day) hF
 have h3:=hF.2.1.2.2.2.1
 have h5:=(record_At_post f day).2.1
 have h4:=Nat.mul_le_mul (show (record_At f day).acts.length≤100 by omega) h2
 omega
noncomputable def lapF (r:Realm) (forum:Int) (f:File) (day:Int) (c:Claim):Claim:=bif limit_Lapsed r forum f c day == 2 then { c with state:=2 } else c
noncomputable def notLapsed (r:Realm) (forum:Int) (f:File) (day:Int) (c:Claim):Bool:=!(limit_Lapsed r forum f c day == 1)
theorem notLapsed_eq (r:Realm) (forum:Int) (f:File) (day:Int):(fun c_=>!limit_Claims_c1 c_ r forum f day)=notLapsed r forum f day:=by
 funext c
 show (!limit_Claims_c1 c r forum f day) = !(limit_Lapsed r forum f c day == 1)
 congr 1
noncomputable def limit_Claims_sk (r:Realm) (forum:Int) (f:File) (day:Int):Sk ((List Claim)) :=
 .r 0 (.andl (.o [.pur 4]) (.andl (.o [.pur 5]) (.andl (.o [.pur 6]) (.o [.pur 7])))) fun _ =>
 .r 1 (.dep ((pay_Claims_ko 16 r forum f day).c) fun x1=>(slices_DeleteFunc_52_kh 16 18 x1 r forum f day).c) fun p6 =>
 .bind true (fun b3=>b3=p6.2.map (lapF r forum f day))
 (.loop (default:Sum ((List Claim)) ((List Claim))) (fun i4=>i4.2≤p6.2.length∧i4.1=(p6.2.take i4.2).map (lapF r forum f day)++p6.2.drop i4.2) (fun i4=>p6.2.length - i4.2) ((p6.2,0):(List Claim) × Nat)
 (fun (i4:(List Claim) × Nat)=>⟨[(9,ow 100002 i4.1),(19,ow 100002 i4.1),(21,iv (i4.2:Int))],[(100002,rowB 48 9 Claim.cells i4.1)]⟩) fun i4 =>
 .br (decide ((i4.2:Int) < ((p6.2.length:Nat):Int)))
 (.r 4 (.andl (.p (ixP (i4.2:Int) i4.1.length)) (.p (i4.2 < i4.1.length))) fun _ =>
 .r 5 ((limit_Lapsed_k r forum f (i4.1.getD i4.2 default) day).c) fun x5 =>
 .br (x5 == 2)
 (.r 6 (.andl (.p (ixP (i4.2:Int) i4.1.length)) (.andl (.o [.nrm (setC Claim.E i4.1 i4.2 ({ i4.1.getD i4.2 default with state:=2 }))]) (.p (i4.2 < i4.1.length)))) fun _ =>
 .wn 100002 i4.1.length (i4.1.set i4.2 ({ i4.1.getD i4.2 default with state:=2 })).length <|
 .r 7 .z fun _ =>
 .wi 21 (w64 ((i4.2:Int)+1)) ((i4.2+1:Nat):Int) <|
 .fin (.inr (i4.1.set i4.2 ({ i4.1.getD i4.2 default with state:=2 }),i4.2+1)))
 (.r 7 .z fun _ =>
 .wi 21 (w64 ((i4.2:Int)+1)) ((i4.2+1:Nat):Int) <|
 .fin (.inr (i4.1,i4.2+1))))
 (.fin (.inl (.inr i4.1))))
 (fun (b3:(List Claim))=>⟨[(9,ow 100001 b3)],[(100001,rowB 48 9 Claim.cells b3)]⟩) fun b3 =>
 .fin b3
noncomputable def limit_Claims (r:Realm) (forum:Int) (f:File) (day:Int):(List Claim):=(limit_Claims_sk r forum f day).val
theorem limit_Claims_pst (r:Realm) (forum:Int) (f:File) (day:Int) (hP:RightF r f):(limit_Claims_sk r forum f day).pst (fun (x:(List Claim))=>x=((pay_Claims r forum f day).filter (notLapsed r forum f day)).map (lapF r forum f day)):=by
 refine Sk.pst_of _ ?_
 unfold limit_Claims_sk
 simp only [Sk.pstq,Sk.isLoop,reduceCtorEq,ON,kk,limit_Lapsed_k,pay_Claims_ko,slices_DeleteFunc_52_kh,slices_DeleteFunc_52_kh,CtrH.c,maxLen]
 have hg:∀ c,limit_Lapsed r forum f c day=2→lapF r forum f day c = { c with state:=2 }:=fun c h=>by unfold lapF; rw [h]; rfl
 have hn:∀ c,limit_Lapsed r forum f c day≠2→lapF r forum f day c=c:=fun c h=>by unfold lapF; rw [beq_eq_false_iff_ne.2 h]; rfl
 intro _ x hx hp
 have hd:x.2=(pay_Claims r forum f day).filter (notLapsed r forum f day):=by
  have:=hp.2 (by rw [hx] at hp ⊢; exact paid_len hP hp.1)
  rw [this,notLapsed_eq,hx]
 refine ⟨⟨⟨Nat.zero_le _,by simp⟩,fun i hi=>⟨fun hc _ y hy=>⟨fun h2 _ _=>?_,fun h2 _=>?_⟩,fun hc=>?_⟩⟩,fun b hb=>by rw [hb,hd]⟩
 all_goals simp only [LN] at hc
 ·simp only [LN] at h2
  rw [hi.2,mapw_get _ (by omega)] at hy
  refine ⟨⟨by omega,?_⟩,by omega⟩
  rw [← mapw_set _ (by omega),hi.2,mapw_get _ (by omega),hg _ (by omega)]
 ·simp only [LN] at h2
  rw [hi.2,mapw_get _ (by omega)] at hy
  refine ⟨⟨by omega,?_⟩,by omega⟩
  rw [← mapw_same _ (by omega) (hn _ (by omega))]
  exact hi.2
 ·rw [hi.2,mapw_end _ (by omega)]
theorem limit_Claims_post (r:Realm) (forum:Int) (f:File) (day:Int):(fun (x:(List Claim))=>(RightF r f)→(x=((pay_Claims r forum f day).filter (notLapsed r forum f day)).map (lapF r forum f day))) (limit_Claims r forum f day):=fun hP=>Sk.pval _ (limit_Claims_pst r forum f day hP)
theorem limit_Claims_ok (r:Realm) (forum:Int) (f:File) (day:Int) (hF:RightF r f) (h_f_Small:f.Small) (h_r_ByOK:r.ByOK) (h_r_Small:r.Small) (h_r_FirmOK:r.FirmOK) (h_r_RateOK:r.RateOK):(limit_Claims_sk r forum f day).obs (fun _=>True):=by
 refine Sk.obs_of _ ?_
 unfold limit_Claims_sk
 simp only [Sk.obq,Sk.isLoop,reduceCtorEq,ON,kk,limit_Lapsed_k,pay_Claims_ko,slices_DeleteFunc_52_kh,slices_DeleteFunc_52_kh,CtrH.c,maxLen]
 have hg:∀ c,limit_Lapsed r forum f c day=2→lapF r forum f day c = { c with state:=2 }:=fun c h=>by unfold lapF; rw [h]; rfl
 have hn:∀ c,limit_Lapsed r forum f c day≠2→lapF r forum f day c=c:=fun c h=>by unfold lapF; rw [beq_eq_false_iff_ne.2 h]; rfl
 refine fun _=>⟨⟨⟨hF,h_f_Small,h_r_ByOK,h_r_Small,h_r_FirmOK,h_r_RateOK⟩,fun x _ hp=>⟨paid_len hF hp,by (repeat' first | assumption | trivial | apply And.intro)⟩⟩,fun x hx hp=>⟨⟨Nat.zero_le _,by simp⟩,fun i hi=>⟨fun hc=>?_,fun hc=>?_⟩⟩⟩
 all_goals simp only [LN] at hc
 ·have hl:i.1.length=x.2.length:=by rw [hi.2,mapw_len]
  have hm:x.2.length≤1000000000:=by
   have h1:=hp.1
   have h2:=hp.2 (by rw [hx] at hp ⊢; exact paid_len hF hp.1)
   rw [hx] at h1
   have h3:=paid_len hF h1
   rw [h2,hx]
   exact Nat.le_trans (List.length_filter_le _ _) h3
  have hw:w64 ((i.2:Int)+1)=((i.2+1:Nat):Int):=(w64_id (by omega) (by omega)).trans (by omega)
  refine ⟨by omega,fun _=>⟨by (repeat' first | assumption | trivial | apply And.intro),fun y hy=>⟨fun h2=>⟨by omega,fun _=>⟨by rw [List.length_set],fun _=>⟨hw,⟨by omega,?_⟩,by omega⟩⟩⟩,fun h2 _=>⟨hw,⟨by omega,?_⟩,by omega⟩⟩⟩⟩
  all_goals rw [hi.2,mapw_get _ (by omega)] at hy
  all_goals simp only [LN] at h2
  ·rw [← mapw_set _ (by omega),hi.2,mapw_get _ (by omega),hg _ (by omega)]
  ·rw [← mapw_same _ (by omega) (hn _ (by omega))]
   exact hi.2
 ·rw [hi.2,mapw_end _ (by omega)]
noncomputable def limit_Claims_k (r:Realm) (forum:Int) (f:File) (day:Int):Ctr ((List Claim)):=kk tok mixed Tryz.func19 [av r.cells,iv forum,av f.cells,iv day] (fun x=>lv Claim.cells x) false (limit_Claims_sk r forum f day) (limit_Claims r forum f day) (fun (h:(RightF r f)∧(f.Small)∧(r.ByOK)∧(r.Small)∧(r.FirmOK)∧(r.RateOK))=>limit_Claims_ok r forum f day h.1 h.2.1 h.2.2.1 h.2.2.2.1 h.2.2.2.2.1 h.2.2.2.2.2) (fun (x:(List Claim))=>(RightF r f)→(x=((pay_Claims r forum f day).filter (notLapsed r forum f day)).map (lapF r forum f day))) (limit_Claims_post r forum f day)
theorem c1_eq (x:Receipt) (r:Realm):recognize_Received_c1 x r = !(recognize_receipt r x):=by
 simp only [recognize_Received_c1,recognize_Received_c1_sk,Sk.val_r,Sk.val_fin,Ctr.c_v,kk,recognize_receipt_k]
noncomputable def rateBad (s:Bool) (x:RateX):Bool:=(s||!(money_within (w64 (x.num - 1)) 1073741823))||!(money_within (w64 (x.den - 1)) 1073741823)
noncomputable def convBad (rates:List RateX) (sum day:Int):Bool:=rates.foldl rateBad (((decide ((rates.length:Int) > 100))||(!(money_within sum 1099511627776)))||(!(money_within day 100000)))
theorem foldl_bad:∀ (l:List RateX) (s:Bool),l.foldl rateBad s=(s||l.foldl rateBad false)
 | [],s=>by simp
 | x :: r,s=>by
  simp only [List.foldl_cons]
  rw [foldl_bad r (rateBad s x),foldl_bad r (rateBad false x)]
  unfold rateBad
  cases s <;> simp
theorem Convert_ex (rates:List RateX) (sum a b day:Int):∃ rest:Int × Int,money_Convert rates sum a b day=bif convBad rates sum day then (0,1) else bif a == b then (sum,0) else rest:=by
 simp only [money_Convert,money_Convert_sk,Sk.val_r,Cal.dep_v,Cal.wh_v,Ctr.c_v,kk,money_within_k]
 rw [Sk.val_bind]
 have h:∀ (k:Bool→Sk (Int × Int)) (m:Nat→Nat),True:=fun _ _=>trivial
 rw [Sk.val_loop,iter_walk0 rates (fun s i=>(s,i)) (fun x s=>Sum.inr (rateBad s x)) (fun s=>Sum.inr s) (fun s i hi=>?_) (fun s=>?_) (by simp) _]
 ·rw [walk_fold (fun (x:RateX) s=>rateBad s x)]
  show ∃ rest:Int × Int,pickS (Sum.inr (convBad rates sum day)) _=_
  simp only [pickS_inr,Sk.val_br,Sk.val_fin]
  exact ⟨_,rfl⟩
 ·simp only [Sk.val_bnd,Sk.val_br,Sk.val_r,Sk.val_wi,Sk.val_fin,Cal.dep_v,Cal.wh_v,Ctr.c_v,kk]
  rw [decide_eq_true (by omega),cond_true]
  rfl
 ·simp only [Sk.val_bnd,Sk.val_br,Sk.val_r,Sk.val_wi,Sk.val_fin]
  rw [decide_eq_false (by omega),cond_false]
structure ClaimQ (r:Realm) (forum:Int) (f:File) (day:Int) (c:Claim):Prop where
 forum:0≤forum∧forum < (r.orders.length:Int)
 sign:0≤c.sign∧c.sign < ((record_At f day).signs.length:Int)
 who:((record_At f day).signs.getD c.sign.toNat default).who=c.debtor
 cur:c.currency=f.bill.currency
 cred:c.creditor = -1∨(0≤c.creditor∧c.creditor < (r.firms.length:Int))
 ne:c.creditor≠c.debtor
theorem owe_claimQ {r:Realm} {forum:Int} {f:File} {day:Int} (hF:RightF r f) (hR:r.RateOK) (hT:ToF r f):∀ c∈owe_Claims r forum f day,ClaimQ r forum f day c:=by
 intro c h
 have hc:=claim_facts hF hR h
 have hfo:0≤forum∧forum < (r.orders.length:Int):=by
  cases ht:(owe_try r forum f day).2 with
  | true=>exact (owe_try_post r forum f day ht).2
  | false=>rw [Claims_eq,ht,Bool.not_false,cond_true] at h; cases h
 obtain ⟨he,part,o,sign,k⟩:=claims_from h
 have hl:=liable_mem k.li
 have hm:=liTo_mem hl.2
 rw [open_now] at hm
 have heq:=k.eq
 obtain ⟨-,hby,-,hcr,hne,-,-,hcu⟩:=hc
 refine ⟨hfo,?_,?_,hcu,?_,fun e=>hne e.symm⟩
 ·rw [heq]; exact ⟨hm.1,hm.2.1⟩
 ·rw [heq]
 ·rw [hcr]
  by_cases h0:0≤c.by_
  ·rw [if_pos h0]
   exact hT.2 c.by_.toNat (by omega)
  ·rw [if_neg h0]
   exact hT.1
theorem like_claimQ {r:Realm} {forum:Int} {f:File} {day:Int} {x y:Claim} (h:Like x y) (k:ClaimQ r forum f day y):ClaimQ r forum f day x:=by
 obtain ⟨⟨h1,h2,h3,h4,h5⟩,h6,h7⟩:=h
 exact ⟨k.forum,by rw [h4]; exact k.sign,by rw [h4,h1]; exact k.who,by rw [h7]; exact k.cur,by rw [h2]; exact k.cred,by rw [h1,h2]; exact k.ne⟩
theorem paid_claimQ {r:Realm} {forum:Int} {f:File} {day:Int} (hF:RightF r f) {l0 l:List Claim} {k:Nat} (h:Paid (record_At f day) l0 k l) (h0:∀ c∈l0,ClaimQ r forum f day c):∀ c∈l,ClaimQ r forum f day c:=by
 induction h with
 | zero=>exact h0
 | skip _ _ _ ih=>exact ih
 | @pay k l out st _ hk hp _ ha ih =>
  intro c hc
  obtain ⟨i,hi,rfl⟩:=List.getElem_of_mem hc
  have e:out[i]=out.getD i default:=by simp [List.getD,hi]
  rw [e]
  by_cases h1:i < l.length
  ·exact like_claimQ (ha.old i h1).1 (ih _ (getD_mem h1))
  ·obtain ⟨e1,e2,e3,x,hx,x1,x2,x3,x4⟩:=ha.new i (by omega) hi
   have q:=ih x hx
   have hwho:0≤((record_At f day).acts.getD k default).who∧((record_At f day).acts.getD k default).who < (r.firms.length:Int):=by
    obtain ⟨a1,a2,a3⟩:=acts_AtR f day hk
    rw [a1] at hp ⊢
    obtain ⟨d1,d2,d3⟩:=(hF.2.2.2.2 k a2).2.2.2 hp.1
    rw [← d3]
    exact (hF.2.2.1 _ (by omega)).1
   refine ⟨q.forum,by rw [← x3]; exact q.sign,by rw [← x3,← x1]; exact q.who,by rw [← x4]; exact q.cur,.inr (by rw [e1]; exact hwho),fun e=>e3 (by rw [← e,e1])⟩
theorem limit_claimQ {r:Realm} {forum:Int} {f:File} {day:Int} (hF:RightF r f) (hR:r.RateOK) (hT:ToF r f) {c:Claim} (h:c∈limit_Claims r forum f day):ClaimQ r forum f day c∧SumP c.sum:=by
 rw [limit_Claims_post r forum f day hF] at h
 obtain ⟨c0,h0,rfl⟩:=List.mem_map.1 h
 have h1:=(List.mem_filter.1 h0).1
 have hp:=pay_Claims_post r forum f day
 have q:=paid_claimQ hF hp (owe_claimQ hF hR hT) c0 h1
 have s:=hp.sums (fun x hx=>(claim_facts hF hR hx).2.2.2.2.2.2.1) c0 h1
 unfold lapF
 cases limit_Lapsed r forum f c0 day == 2 with
 | false=>exact ⟨q,s⟩
 | true=>exact ⟨⟨q.forum,q.sign,q.who,q.cur,q.cred,q.ne⟩,s⟩
theorem Check_eq47 (r:Realm) (f:File) (j:Judgment):recognize_Check r f j=(bif (((!((((((recognize_within j.court r.orders.length&&recognize_within j.bill 50)&&recognize_within j.sum 1099511627777)&&recognize_within j.currency r.currencies.length)&&recognize_within j.day 100001)&&recognize_within j.creditor r.firms.length)&&(j.creditor != j.debtor)))||(!recognize_within j.sign (record_At f j.day).signs.length))||((((record_At f j.day).signs.getD j.sign.toNat default).who) != j.debtor)) then 1 else 0):=by kernel_rfl
theorem Of_eq47 (forum bill:Int) (c:Claim) (day:Int):recognize_Of forum bill c day = { court:=forum,bill:=bill,sign:=c.sign,debtor:=c.debtor,creditor:=c.creditor,sum:=c.sum,currency:=c.currency,day:=day }:=by kernel_rfl
theorem Convert_own {r:Realm} (hR:r.RateOK) (hl:r.rates.length≤100) {s a d:Int} (hs:SumP s) (hd:0≤d∧d≤100000):money_Convert r.rates s a a d=(s,0):=by
 obtain ⟨rest,e⟩:=Convert_ex r.rates s a a d
 rw [e]
 have:convBad r.rates s d=false:=by
  unfold convBad
  rw [foldl_bad]
  have hb:r.rates.foldl rateBad false=false:=by
   have:∀ l:List RateX,(∀ x∈l,rateBad false x=false)→l.foldl rateBad false=false:=fun l=>by
    induction l with
    | nil=>intro _; rfl
    | cons x t ih=>intro h; rw [List.foldl_cons,h x (by simp)]; exact ih (fun y hy=>h y (List.mem_cons_of_mem _ hy))
   refine this _ (fun x hx=>?_)
   obtain ⟨i,hi,rfl⟩:=List.getElem_of_mem hx
   have h:=hR i hi
   rw [show r.rates.getD i default=r.rates[i] by simp [List.getD,hi]] at h
   unfold rateBad
   rw [w64_id (by omega) (by omega),w64_id (by omega) (by omega),money_within_eq,money_within_eq,decide_eq_true (by omega),decide_eq_true (by omega),decide_eq_true (by omega),decide_eq_true (by omega)]
   rfl
  rw [hb]
  simp only [Bool.or_false,money_within_eq,LN]
  unfold SumP at hs
  omega
 rw [this]
 simp
theorem Recognized_at {r:Realm} {f:File} {j:Judgment} (hc:recognize_Check r f j=0) (hd:0≤j.day∧j.day≤100000) (hj:0≤j.court∧j.court < (r.orders.length:Int)):recognize_Recognized r j.court f j j.day=1:=by
 have e:recognize_Recognized r j.court f j j.day=bif ((recognize_Check r f j != 0||!(recognize_within j.court (r.orders.length:Int)))||decide (j.day < j.day))||decide (j.day > 100000) then 0 else bif j.court == j.court then 1 else ask_Tri (ask_Ask r j.court 19 ⟨f,j.sign,j.sign,-1,ask_Maturity r j.court f j.day,j.day⟩):=by kernel_rfl
 rw [e,hc,recognize_within_eq]
 have:((((0:Int) != 0||!(decide (j.court≥0)&&decide (j.court < (r.orders.length:Int))))||decide (j.day < j.day))||decide (j.day > 100000))=false:=by
  rw [decide_eq_true hj.1,decide_eq_true hj.2,decide_eq_false (by omega),decide_eq_false (by omega)]
  rfl
 rw [this,beq_self_eq_true]
 rfl
theorem Received_one {r:Realm} {f:File} {j:Judgment} {l:List Receipt} {v:Int} (hc:recognize_Check r f j=0) (hd:0≤j.day∧j.day≤100000) (hl:l.length≤200) (h4:slices_ContainsFunc_110 l r=false) (h5:recv r f j j.day l=(v,0)):recognize_Received r f j l j.day=(v,0):=by
 rw [Received_eq,hc,recognize_within_eq,h4,h5]
 have:(((0:Int) != 0)||!(decide (j.day≥0)&&decide (j.day < 100001)))=false:=by
  rw [decide_eq_true hd.1,decide_eq_true (by omega)]
  rfl
 rw [this,decide_eq_false (by omega)]
 rfl
theorem Rest_one {r:Realm} {f:File} {j:Judgment} {l:List Receipt} {v:Int} (hR:r.RateOK) (hl:r.rates.length≤100) (hc:recognize_Check r f j=0) (hd:0≤j.day∧j.day≤100000) (hj:0≤j.court∧j.court < (r.orders.length:Int)) (hs:SumP j.sum) (hcu:j.currency=f.bill.currency) (hv:0≤v∧v≤1099511627776)
  (h:recognize_Received r f j l j.day=(v,0)):recognize_Rest r j.court f j l j.day=(maxI (j.sum - v) 0,0):=by
 rw [Rest_eq,h,Recognized_at hc hd hj,hcu,Convert_own hR hl hs hd,recognize_within_eq]
 have:(!(decide (j.court≥0)&&decide (j.court < (r.orders.length:Int)))||decide (j.day < j.day))=false:=by
  rw [decide_eq_true hj.1,decide_eq_true hj.2,decide_eq_false (by omega)]
  rfl
 unfold SumP at hs
 rw [this,w64_id (by omega) (by omega)]
 rfl
theorem Enforce_eq47 (r:Realm) (forum:Int) (f:File) (j:Judgment) (day sum:Int):recognize_Enforce r forum f j [] day sum=bif !(recognize_within (w64 (sum - 1)) 1099511627776) then ([],1) else bif (recognize_Rest r forum f j [] day).2 != 0 then ([],(recognize_Rest r forum f j [] day).2) else bif (recognize_Rest r forum f j [] day).1 == 0 then ([],7)
  else (slices_Clone ([]:List Receipt)++[{ bill:=j.bill,from_:=j.debtor,to_:=j.creditor,sum:=minI sum (recognize_Rest r forum f j [] day).1,currency:=f.bill.currency,day:=day }],0):=by kernel_rfl
theorem judge {r:Realm} {forum bill:Int} {f:File} {day:Int} {c:Claim} (hF:RightF r f) (hR:r.RateOK) (hl:r.rates.length≤100) (hb:0≤bill∧bill < 50) (hd:0≤day∧day≤100000) (hc:ClaimQ r forum f day c) (hs:SumP c.sum) :
  (c.creditor = -1→recognize_Check r f (recognize_Of forum bill c day)=1)∧(c.creditor≠-1→recognize_Check r f (recognize_Of forum bill c day)=0∧recognize_Rest r forum f (recognize_Of forum bill c day) [] day=(c.sum,0) ∧
   (c.sum≠0→∃ x:Receipt,recognize_Enforce r forum f (recognize_Of forum bill c day) [] day c.sum=([x],0)∧x.from_=c.debtor∧x.sum=c.sum∧recognize_Rest r forum f (recognize_Of forum bill c day) [x] day=(0,0))):=by
 rw [Of_eq47]
 refine ⟨fun h=>?_,fun h=>?_⟩
 ·rw [Check_eq47]
  dsimp only
  rw [h,recognize_within_eq (-1)]
  simp
 ·obtain ⟨⟨⟨b1,b2⟩,b3,b4,b5,b6⟩,l1,l2,l3⟩:=And.intro hF.1 hF.2
  have hcr:=hc.cred.resolve_left h
  have h0:recognize_Check r f { court:=forum,bill:=bill,sign:=c.sign,debtor:=c.debtor,creditor:=c.creditor,sum:=c.sum,currency:=c.currency,day:=day }=0:=by
   rw [Check_eq47]
   dsimp only
   have e:(((!((((((recognize_within forum r.orders.length&&recognize_within bill 50)&&recognize_within c.sum 1099511627777)&&recognize_within c.currency r.currencies.length)&&recognize_within day 100001)&&recognize_within c.creditor r.firms.length)&&(c.creditor != c.debtor)))||(!recognize_within c.sign (record_At f day).signs.length))||((((record_At f day).signs.getD c.sign.toNat default).who) != c.debtor))=false:=by
    have q1:=hc.forum
    have q2:=hc.sign
    have q3:=hc.who
    have q4:=hc.cur
    have q5:=hc.ne
    unfold SumP at hs
    simp only [recognize_within_eq,LN,q4]
    refine ⟨⟨⟨⟨⟨⟨⟨⟨?_,?_⟩,?_⟩,?_⟩,?_⟩,?_⟩,q5⟩,?_⟩,q3⟩ <;> omega
   rw [e]
   rfl
  have R0:recognize_Received r f { court:=forum,bill:=bill,sign:=c.sign,debtor:=c.debtor,creditor:=c.creditor,sum:=c.sum,currency:=c.currency,day:=day } [] day=(0,0):=Received_one (j:={ court:=forum,bill:=bill,sign:=c.sign,debtor:=c.debtor,creditor:=c.creditor,sum:=c.sum,currency:=c.currency,day:=day }) h0 hd (by simp) (Bool.eq_false_iff.2 (fun e=>by
   obtain ⟨q,hq,_⟩:=(slices_ContainsFunc_110_post [] r).1 e
   exact absurd hq (by simp))) rfl
  have hmx:maxI (c.sum - 0) 0=c.sum:=by unfold maxI; unfold SumP at hs; split <;> omega
  have T0:recognize_Rest r forum f { court:=forum,bill:=bill,sign:=c.sign,debtor:=c.debtor,creditor:=c.creditor,sum:=c.sum,currency:=c.currency,day:=day } [] day=(c.sum,0):=by
   have:=Rest_one (j:={ court:=forum,bill:=bill,sign:=c.sign,debtor:=c.debtor,creditor:=c.creditor,sum:=c.sum,currency:=c.currency,day:=day }) hR hl h0 hd hc.forum hs hc.cur ⟨Int.le_refl _,by omega⟩ R0
   dsimp only at this
   rw [this,hmx]
  refine ⟨h0,T0,fun hz=>⟨{ bill:=bill,from_:=c.debtor,to_:=c.creditor,sum:=c.sum,currency:=f.bill.currency,day:=day },?_,rfl,rfl,?_⟩⟩
  ·rw [Enforce_eq47,T0]
   dsimp only
   have e1:recognize_within (w64 (c.sum - 1)) 1099511627776=true:=by
    unfold SumP at hs
    rw [w64_id (by omega) (by omega),recognize_within_eq]
    simp only [LN]
    omega
   have e2:(c.sum == 0)=false:=by simpa using hz
   have e3:slices_Clone ([]:List Receipt)=[]:=by
    have:=(slices_Clone_post ([]:List Receipt)).1
    exact List.length_eq_zero_iff.1 (by simpa using this)
   have e4:minI c.sum c.sum=c.sum:=by unfold minI; simp
   rw [e1,e2,e3,e4]
   rfl
  ·have hwd:0≤c.debtor∧c.debtor < (r.firms.length:Int):=by
    rw [← hc.who,sign_AtR f day _ (by have:=hc.sign; omega)]
    exact (hF.2.2.1 _ (by have:=hc.sign; have:=signs_At_leR f day; omega)).1
   have hrc:recognize_receipt r { bill:=bill,from_:=c.debtor,to_:=c.creditor,sum:=c.sum,currency:=f.bill.currency,day:=day }=true:=by
    unfold SumP at hs
    simp only [recognize_receipt,recognize_receipt_sk,recognize_within_k,recognize_within_eq,Sk.val_r,Sk.val_fin,Cal.dep_v,Cal.wh_v,Ctr.c_v,kk,LN]
    omega
   have R1:recognize_Received r f { court:=forum,bill:=bill,sign:=c.sign,debtor:=c.debtor,creditor:=c.creditor,sum:=c.sum,currency:=c.currency,day:=day } [{ bill:=bill,from_:=c.debtor,to_:=c.creditor,sum:=c.sum,currency:=f.bill.currency,day:=day }] day=(c.sum,0):=by
    refine Received_one (j:={ court:=forum,bill:=bill,sign:=c.sign,debtor:=c.debtor,creditor:=c.creditor,sum:=c.sum,currency:=c.currency,day:=day }) h0 hd (by simp) (Bool.eq_false_iff.2 (fun e=>?_)) ?_
    ·obtain ⟨q,hq,hq2⟩:=(slices_ContainsFunc_110_post _ r).1 e
     have:q=0:=by simpa using hq
     subst this
     rw [c1_eq] at hq2
     simp only [List.getD_cons_zero,hrc] at hq2
     cases hq2
    ·unfold recv
     simp only [walk,rStep,bne_self_eq_false,Bool.or_false,Bool.false_or]
     rw [decide_eq_false (by omega),cond_false,Convert_own hR hl hs hd]
     unfold SumP at hs
     simp only [bne_self_eq_false,cond_false]
     rw [w64_id (by omega) (by omega),Int.zero_add]
   have:=Rest_one (j:={ court:=forum,bill:=bill,sign:=c.sign,debtor:=c.debtor,creditor:=c.creditor,sum:=c.sum,currency:=c.currency,day:=day }) hR hl h0 hd hc.forum hs hc.cur hs R1
   dsimp only at this
   rw [this]
   have:maxI (c.sum - c.sum) 0=0:=by rw [Int.sub_self]; rfl
   rw [this]
noncomputable def L47_RecognizeClaims_sk (r:Realm) (forum:Int) (f:File) (day:Int) (bill:Int):Sk (Bool) :=
 .r 1 L47_sane_k.c fun x1 =>
 .r 2 ((L47_bounded_k r f).c) fun x2 =>
 .br (((((!x2)||(decide (bill < 0)))||(decide (bill≥50)))||(decide (day < 0)))||(decide (day > 100000)))
 (.fin x1)
 (.r 4 ((limit_Claims_k r forum f day).c) fun x3 =>
 .bind true (fun _=>True)
 (.loop (default:Sum (Bool) (Unit)) (fun i5=>i5≤x3.length) (fun i5=>x3.length - i5) (0:Nat)
 (fun (i5:Nat)=>⟨[(13,iv (i5:Int))],[]⟩) fun i5 =>
 .bnd 12 0 x3.length <|
 .br (decide ((i5:Int) < ((x3.length:Nat):Int)))
 (.r 8 (.andl (.p (ixP (i5:Int) x3.length)) ((recognize_Of_k forum bill (x3.getD i5 default) day).c)) fun x6 =>
 .r 9 (.p (ixP (i5:Int) x3.length)) fun _ =>
 .br (((x3.getD i5 default).creditor) == (-1))
 (.r 10 ((recognize_Check_k r f x6).c) fun x7 =>
 .br (x7 != 1)
 (.fin (.inl (.inl false)))
 (.r 7 .z fun _ =>
 .wi 13 (w64 ((i5:Int)+1)) ((i5+1:Nat):Int) <|
 .fin (.inr (i5+1))))
 (.r 12 (((recognize_Rest_k r forum f x6 [] day).nil 4 ⟨_,rfl⟩).c) fun x8 =>
 .r 13 (.depr ((recognize_Check_k r f x6).c) fun x9=>.wh ((x9 != 0)||(x8.2 != 0)) false (.p (ixP (i5:Int) x3.length))) fun x9 =>
 .br (((x9 != 0)||(x8.2 != 0))||(x8.1 != ((x3.getD i5 default).sum)))
 (.fin (.inl (.inl false)))
 (.br (x8.1 == 0)
 (.r 7 .z fun _ =>
 .wi 13 (w64 ((i5:Int)+1)) ((i5+1:Nat):Int) <|
 .fin (.inr (i5+1)))
 (.r 16 (((recognize_Enforce_k r forum f x6 [] day x8.1).nil 4 ⟨_,rfl⟩).c) fun x10 =>
 .r 17 ((recognize_Rest_k r forum f x6 x10.1 day).c) fun x11 =>
 .r 18 (.andl (.wh ((((x10.2 != 0)||(x11.2 != 0))||(x11.1 != 0))||(((x10.1.length:Nat):Int) != 1)) false (.p (ixP (0:Int) x10.1.length))) (.andl (.wh ((((x10.2 != 0)||(x11.2 != 0))||(x11.1 != 0))||(((x10.1.length:Nat):Int) != 1)) false (.p (ixP (i5:Int) x3.length))) (.wh (((((x10.2 != 0)||(x11.2 != 0))||(x11.1 != 0))||(((x10.1.length:Nat):Int) != 1))||(((x10.1.getD 0 default).from_) != ((x3.getD i5 default).debtor))) false (.p (ixP (0:Int) x10.1.length))))) fun _ =>
 .br ((((((x10.2 != 0)||(x11.2 != 0))||(x11.1 != 0))||(((x10.1.length:Nat):Int) != 1))||(((x10.1.getD 0 default).from_) != ((x3.getD i5 default).debtor)))||(((x10.1.getD 0 default).sum) != x8.1))
 (.fin (.inl (.inl false)))
 (.r 7 .z fun _ =>
 .wi 13 (w64 ((i5:Int)+1)) ((i5+1:Nat):Int) <|
 .fin (.inr (i5+1)))))))
 (.fin (.inl (.inr ()))))
 (fun (_:Unit)=>⟨[],[]⟩) fun _ =>
 .fin x1)
noncomputable def L47_RecognizeClaims (r:Realm) (forum:Int) (f:File) (day:Int) (bill:Int):Bool:=(L47_RecognizeClaims_sk r forum f day bill).val
theorem L47_RecognizeClaims_pst (r:Realm) (forum:Int) (f:File) (day:Int) (bill:Int):(L47_RecognizeClaims_sk r forum f day bill).pst (fun (x:Bool)=>x=true):=by
 refine Sk.pst_of _ ?_
 unfold L47_RecognizeClaims_sk
 simp only [Sk.pstq,Sk.isLoop,reduceCtorEq,ON,kk,L47_bounded_k,L47_sane_k,limit_Claims_k,recognize_Check_k,recognize_Enforce_k,recognize_Of_k,recognize_Rest_k,maxLen]
 intro x1 _ hs x2 _ hB
 refine ⟨fun _=>hs,fun hc l hl _=>⟨⟨Nat.zero_le _,fun i hi hlt j hj _=>?_⟩,fun _=>hs⟩⟩
 simp only [LN] at hc hlt
 obtain ⟨b1,b2,b3,b4,b5,b6,b7,b8⟩:=hB (by simpa using hc.1.1.1.1)
 have hm:l.getD i default∈limit_Claims r forum f day:=by rw [← hl]; exact getD_mem (by omega)
 have Q:=limit_claimQ b6 b5 b7 hm
 have J:=judge (bill:=bill) b6 b5 b8 ⟨by omega,by omega⟩ ⟨by omega,by omega⟩ Q.1 Q.2
 rw [← hj] at J
 refine ⟨fun h k hk=>⟨fun hh=>?_,fun _ _=>⟨by omega,by omega⟩⟩,fun h k hk m hm2=>⟨fun hh=>?_,fun _=>⟨fun _ _=>⟨by omega,by omega⟩,fun hz e he g hg _=>⟨fun hh=>?_,fun _ _=>⟨by omega,by omega⟩⟩⟩⟩⟩
 ·rw [hk,J.1 (by simpa using h)] at hh
  exact absurd hh (by decide)
 ·obtain ⟨e1,e2,e3⟩:=J.2 (by simpa using h)
  rw [hm2,hk,e1,e2] at hh
  simp at hh
 ·obtain ⟨e1,e2,e3⟩:=J.2 (by simpa using h)
  have hk1:k.1=(l.getD i default).sum:=by rw [hk,e2]
  obtain ⟨x,q1,q2,q3,q4⟩:=e3 (by rw [← hk1]; simpa using hz)
  rw [hk1,q1] at he
  subst he
  rw [q4] at hg
  subst hg
  simp [q2,q3,hk1] at hh
theorem L47_RecognizeClaims_post (r:Realm) (forum:Int) (f:File) (day:Int) (bill:Int):(fun (x:Bool)=>x=true) (L47_RecognizeClaims r forum f day bill):=have h:=Sk.pval _ (L47_RecognizeClaims_pst r forum f day bill); h
theorem L47_RecognizeClaims_ok (r:Realm) (forum:Int) (f:File) (day:Int) (bill:Int):(L47_RecognizeClaims_sk r forum f day bill).obs (fun _=>True):=by
 refine Sk.obs_of _ ?_
 unfold L47_RecognizeClaims_sk
 simp only [Sk.obq,Sk.isLoop,reduceCtorEq,ON,kk,L47_bounded_k,L47_sane_k,limit_Claims_k,recognize_Check_k,recognize_Enforce_k,recognize_Of_k,recognize_Rest_k,maxLen]
 intro x1 _ hs x2 _ hB hc
 simp only [LN] at hc
 obtain ⟨b1,b2,b3,b4,b5,b6,b7,b8⟩:=hB (by simpa using hc.1.1.1.1)
 have hsm:=b6.small
 refine ⟨⟨b6,hsm,b2,b1,b4,b5⟩,fun l hl hL=>⟨Nat.zero_le _,fun i hi hmx hlt=>?_⟩⟩
 simp only [LN] at hlt
 have hw:w64 ((i:Int)+1)=((i+1:Nat):Int):=(w64_id (by omega) (by omega)).trans (by omega)
 refine ⟨⟨by omega,by omega⟩,fun j hj=>⟨⟨by omega,by omega⟩,fun _=>⟨fun h=>⟨hsm,fun k hk _ _=>⟨hw,by omega,by omega⟩⟩,fun h=>⟨⟨hsm,b2,b1⟩,fun k hk=>⟨⟨hsm,fun m hm _=>⟨by omega,by omega⟩⟩,fun m hm hh=>⟨fun _ _=>⟨hw,by omega,by omega⟩,fun hz=>⟨⟨by simp,hsm,b2,b1⟩,fun e he=>⟨⟨hsm,b2,b1⟩,fun g hg=>⟨⟨fun h3=>⟨by omega,?_⟩,fun _=>⟨by omega,by omega⟩,fun h3=>⟨by omega,?_⟩⟩,fun _ _ _=>⟨hw,by omega,by omega⟩⟩⟩⟩⟩⟩⟩⟩⟩⟩
 ·simp only [LN] at h3
  omega
 ·simp only [LN] at h3
  omega
noncomputable def L47_RecognizeClaims_k (r:Realm) (forum:Int) (f:File) (day:Int) (bill:Int):Ctr (Bool):=kk tok mixed Tryz.func5 [av r.cells,iv forum,av f.cells,iv day,iv bill] (fun x=>bv x) true (L47_RecognizeClaims_sk r forum f day bill) (L47_RecognizeClaims r forum f day bill) (fun (_:True)=>L47_RecognizeClaims_ok r forum f day bill) (fun (x:Bool)=>x=true) (L47_RecognizeClaims_post r forum f day bill)
theorem L47_RecognizeClaims_fn (r:Realm) (forum:Int) (f:File) (day:Int) (bill:Int):FnA Tryz.prog 5 [av r.cells,iv forum,av f.cells,iv day,iv bill] [] (bv (L47_RecognizeClaims r forum f day bill)) []:=(L47_RecognizeClaims_k r forum f day bill).pf trivial
end Go.Proofs.YtbcnlpcaajpclaaGreatDoor
