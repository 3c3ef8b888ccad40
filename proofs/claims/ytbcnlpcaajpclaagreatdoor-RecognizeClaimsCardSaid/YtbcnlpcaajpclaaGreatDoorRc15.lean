/- Functions, as sketches. -/
import Derived.Test.YtbcnlpcaajpclaaGreatDoorRc14
namespace Go.Proofs.YtbcnlpcaajpclaaGreatDoor
open Go Go.Av
set_option linter.unusedSimpArgs false
set_option linter.unusedVariables false
set_option maxHeartbeats 1000000
set_option maxRecDepth 100000
noncomputable def amount_exchange_sk (r:Realm) (b:Bill) (who:Int) (sum:Int) (from_:Int) (to_:Int):Sk (Int) :=
 .r 1 (.andl (.p (ixP who r.firms.length)) (.p (ixP ((r.firms.getD who.toNat default).city) r.cities.length))) fun _ =>
 .br (((r.cities.getD (((r.firms.getD who.toNat default).city).toNat) default).currency) == b.currency)
 (.fin 0)
 (.r 4 ((amount_Rate_k r b.currency ((r.cities.getD (((r.firms.getD who.toNat default).city).toNat) default).currency) from_).c) fun x1 =>
 .r 5 ((amount_Rate_k r ((r.cities.getD (((r.firms.getD who.toNat default).city).toNat) default).currency) b.currency to_).c) fun x2 =>
 .br ((!x1.2)||(!x2.2))
 (.fin 0)
 (.r 8 ((amount_loss_k sum x1.1 x2.1).c) fun x3 =>
 .fin x3))
noncomputable def amount_exchange (r:Realm) (b:Bill) (who:Int) (sum:Int) (from_:Int) (to_:Int):Int:=(amount_exchange_sk r b who sum from_ to_).val
theorem amount_exchange_pst (r:Realm) (b:Bill) (who:Int) (sum:Int) (from_:Int) (to_:Int) (hP:(0≤sum∧sum≤1099511627776)∧r.RateOK):(amount_exchange_sk r b who sum from_ to_).pst (fun (x:Int)=>0≤x∧x≤1099511627776):=by
  unfold amount_exchange_sk
  try simp only [amount_Rate_k,amount_loss_k]
  exact okP

theorem amount_exchange_post (r:Realm) (b:Bill) (who:Int) (sum:Int) (from_:Int) (to_:Int):(fun (x:Int)=>((0≤sum∧sum≤1099511627776)∧r.RateOK)→(0≤x∧x≤1099511627776)) (amount_exchange r b who sum from_ to_):=fun hP=>Sk.pval _ (amount_exchange_pst r b who sum from_ to_ hP)
theorem amount_exchange_ok (r:Realm) (b:Bill) (who:Int) (sum:Int) (from_:Int) (to_:Int) (hw:0≤who∧who < (r.firms.length:Int)) (hs:0≤sum∧sum≤1099511627776) (hfi:r.FirmOK) (hra:r.RateOK):(amount_exchange_sk r b who sum from_ to_).obs (fun _=>True):=by
  refine Sk.obs_of _ ?_
  unfold amount_exchange_sk
  simp only [Sk.obq,Sk.isLoop,reduceCtorEq,ON,kk,amount_Rate_k,amount_loss_k,maxLen]
  refine ⟨⟨hw,hfi who.toNat (by omega)⟩,fun _ _=>⟨hra,fun x _ hx=>⟨hra,fun y _ hy hc=>?_⟩⟩⟩
  simp only [LN] at hc
  exact ⟨hs,hx hra hc.1,hy hra hc.2⟩

noncomputable def amount_exchange_k (r:Realm) (b:Bill) (who:Int) (sum:Int) (from_:Int) (to_:Int):Ctr (Int):=kk tok mixed Tryz.func99 [av r.cells,av b.cells,iv who,iv sum,iv from_,iv to_] (fun x=>iv x) true (amount_exchange_sk r b who sum from_ to_) (amount_exchange r b who sum from_ to_) (fun (h:(0≤who∧who < (r.firms.length:Int))∧(0≤sum∧sum≤1099511627776)∧(r.FirmOK)∧(r.RateOK))=>amount_exchange_ok r b who sum from_ to_ h.1 h.2.1 h.2.2.1 h.2.2.2) (fun (x:Int)=>((0≤sum∧sum≤1099511627776)∧r.RateOK)→(0≤x∧x≤1099511627776)) (amount_exchange_post r b who sum from_ to_)
noncomputable def amount_Owed_sk (r:Realm) (forum:Int) (f:File) (sign:Int) (day:Int):Sk (Owed) :=
 .r 1 ((record_At_k f day).c) fun x1 =>
 .r 2 ((bind_Effect_k r forum f sign day).c) fun x2 =>
 .br (((!x2.2)||(decide (sign < 0)))||(decide (sign≥((x1.signs.length:Nat):Int))))
 (.fin ({ sum:=0,interest:=0,costs:=0,exchange:=0,paid:=0,rest:=0,currency:=0 }:Owed))
 (.r 6 ((ask_Maturity_k r forum f day).c) fun x3 =>
 .bind false (fun b4=>RightF r f→r.RateOK→(0≤b4.sum∧b4.sum≤1099511627776)∧(0≤b4.interest∧b4.interest≤1099511627776)∧(0≤b4.costs∧b4.costs≤1099511627776)∧(0≤b4.exchange∧b4.exchange≤1099511627776))
 (.br ((x3 != (-1))&&(decide (x3≤(minI day 100000))))
 (.bind false (fun _=>True)
 (.br (f.bill.rate == 0)
 (.r 11 (.dep ((ask_Ask_k r forum 16 ({ file:=f,sign:=sign,holder:=sign,defence:=(-1),due:=x3,day:=day }:CaseX)).c) fun x6=>(ask_Number_k x6).c) fun p8 =>
 .fin (.inr (minI 1000 (maxI 0 p8.2))))
 (.fin (.inr f.bill.rate)))
 (fun (b5:Int)=>⟨[(18,iv b5)],[]⟩) fun b5 =>
 .r 12 ((amount_interest_k x2.1.sum b5 x3 (minI day 100000)).c) fun x9 =>
 .r 13 (.dep ((ask_Ask_k r forum 17 ({ file:=f,sign:=sign,holder:=sign,defence:=(-1),due:=x3,day:=day }:CaseX)).c) fun x10=>(ask_Tri_k x10).c) fun p13 =>
 .br (p13.2 == 1)
 (.r 14 (.andl (.p (ixP sign x1.signs.length)) ((amount_exchange_k r f.bill ((x1.signs.getD sign.toNat default).who) x2.1.sum x3 (minI day 100000)).c)) fun x12 =>
 .fin (.inr ({ sum:=x2.1.sum,interest:=x9,costs:=0,exchange:=x12,paid:=0,rest:=0,currency:=f.bill.currency }:Owed)))
 (.fin (.inr ({ sum:=x2.1.sum,interest:=x9,costs:=0,exchange:=0,paid:=0,rest:=0,currency:=f.bill.currency }:Owed))))
 (.fin (.inr ({ sum:=x2.1.sum,interest:=0,costs:=0,exchange:=0,paid:=0,rest:=0,currency:=f.bill.currency }:Owed))))
 (fun (b4:Owed)=>⟨[],[(14,.box (b4.cells.map .d))]⟩) fun b4 =>
 .bind true (fun b14=>RightF r f→0≤b14∧b14≤1099511627776)
 (.loop (default:Sum (Owed) (Int)) (fun i15=>i15.1≤x1.acts.length∧(RightF r f→0≤i15.2∧i15.2≤1099511627776)) (fun i15=>x1.acts.length - i15.1) ((0,b4.costs):Nat × Int)
 (fun (i15:Nat × Int)=>⟨[(116,iv ((i15.1:Nat):Int))],[(14,.box [iv b4.sum,iv b4.interest,iv i15.2,iv b4.exchange,iv b4.paid,iv b4.rest,iv b4.currency])]⟩) fun i15 =>
 .bnd 114 0 x1.acts.length <|
 .br (decide (((i15.1:Nat):Int) < ((x1.acts.length:Nat):Int)))
 (.r 17 (.p (ixP ((i15.1:Nat):Int) x1.acts.length)) fun _ =>
 .br ((((x1.acts.getD i15.1 default).kind) == 4)||(((x1.acts.getD i15.1 default).kind) == 5))
 (.r 20 .z fun _ =>
 .wi 116 (w64 (((i15.1:Nat):Int)+1)) ((i15.1+1:Nat):Int) <|
 .fin (.inr (i15.1+1,minI 1099511627776 (w64 (i15.2+((x1.acts.getD i15.1 default).sum))))))
 (.r 20 .z fun _ =>
 .wi 116 (w64 (((i15.1:Nat):Int)+1)) ((i15.1+1:Nat):Int) <|
 .fin (.inr (i15.1+1,i15.2))))
 (.fin (.inl (.inr i15.2))))
 (fun (b14:Int)=>⟨[],[(14,.box [iv b4.sum,iv b4.interest,iv b14,iv b4.exchange,iv b4.paid,iv b4.rest,iv b4.currency])]⟩) fun b14 =>
 .fin ({ b4 with costs:=b14,rest:=minI 1099511627776 (w64 ((w64 ((w64 (b4.sum+b4.interest))+b14))+b4.exchange)) }))
noncomputable def amount_Owed (r:Realm) (forum:Int) (f:File) (sign:Int) (day:Int):Owed:=(amount_Owed_sk r forum f sign day).val
theorem amount_Owed_pst (r:Realm) (forum:Int) (f:File) (sign:Int) (day:Int) (hP:RightF r f∧r.RateOK):(amount_Owed_sk r forum f sign day).pst (fun (x:Owed)=>0≤x.rest∧x.rest≤1099511627776):=by
  refine Sk.pst_of _ ?_
  unfold amount_Owed_sk
  simp only [Sk.pstq,Sk.isLoop,reduceCtorEq,ON,kk,amount_exchange_k,amount_interest_k,ask_Ask_k,ask_Maturity_k,ask_Number_k,ask_Tri_k,bind_Effect_k,record_At_k,maxLen]
  obtain ⟨hF,hR⟩:=hP
  have hSum:=hF.sums
  have hSm:=hF.small
  have hw:∀ h1:File,h1=record_At f day→0≤sign→sign < (h1.signs.length:Int)→0≤(h1.signs.getD sign.toNat default).who∧(h1.signs.getD sign.toNat default).who < (r.firms.length:Int):=fun h1 e a b=>by subst e; exact hF.at_who day a b
  have ha:∀ h1:File,h1=record_At f day→∀ q:Nat,q < h1.acts.length→0≤(h1.acts.getD q default).sum∧(h1.acts.getD q default).sum≤1099511627776:=fun h1 e q hq=>by subst e; exact (hF.at_sums day).2.2.2 q hq
  all_goals (repeat' first | assumption | (apply And.intro) | (intro h))
  all_goals first | trivial | assumption | omega | (try simp only [hF,hR,hSum,hSm,and_self,and_true,true_implies,forall_const,LN] at *) <;> first | omega | assumption | exact (hw _ ‹_=record_At f day› (by omega) (by omega)).1 | exact (hw _ ‹_=record_At f day› (by omega) (by omega)).2 | (simp (disch:=omega) only [w64_id] at *; omega) | (simp (disch:=omega) only [w64_id,minI] at *; split <;> omega) | (have hq:=ha _ ‹_=record_At f day› _ (Int.ofNat_lt.1 (by assumption)); simp (disch:=omega) only [w64_id,minI] at *; first | omega | (split <;> omega))

theorem amount_Owed_post (r:Realm) (forum:Int) (f:File) (sign:Int) (day:Int):(fun (x:Owed)=>(RightF r f∧r.RateOK)→(0≤x.rest∧x.rest≤1099511627776)) (amount_Owed r forum f sign day):=fun hP=>Sk.pval _ (amount_Owed_pst r forum f sign day hP)
theorem amount_Owed_ok (r:Realm) (forum:Int) (f:File) (sign:Int) (day:Int) (hF:RightF r f) (h_f_Small:f.Small) (h_r_ByOK:r.ByOK) (h_r_Small:r.Small) (h_r_FirmOK:r.FirmOK) (h_r_RateOK:r.RateOK):(amount_Owed_sk r forum f sign day).obs (fun _=>True):=by
  refine Sk.obs_of _ ?_
  unfold amount_Owed_sk
  simp only [Sk.obq,Sk.isLoop,reduceCtorEq,ON,kk,amount_exchange_k,amount_interest_k,ask_Ask_k,ask_Maturity_k,ask_Number_k,ask_Tri_k,bind_Effect_k,record_At_k,maxLen]
  have hSum:=hF.sums
  have hSm:=hF.small
  have hw:∀ h1:File,h1=record_At f day→0≤sign→sign < (h1.signs.length:Int)→0≤(h1.signs.getD sign.toNat default).who∧(h1.signs.getD sign.toNat default).who < (r.firms.length:Int):=fun h1 e a b=>by subst e; exact hF.at_who day a b
  have ha:∀ h1:File,h1=record_At f day→∀ q:Nat,q < h1.acts.length→0≤(h1.acts.getD q default).sum∧(h1.acts.getD q default).sum≤1099511627776:=fun h1 e q hq=>by subst e; exact (hF.at_sums day).2.2.2 q hq
  all_goals (repeat' first | assumption | (apply And.intro) | (intro h))
  all_goals first | trivial | assumption | omega | (try simp only [hF,h_r_RateOK,hSum,hSm,and_self,and_true,true_implies,forall_const,LN] at *) <;> first | omega | assumption | exact (hw _ ‹_=record_At f day› (by omega) (by omega)).1 | exact (hw _ ‹_=record_At f day› (by omega) (by omega)).2 | (simp (disch:=omega) only [w64_id] at *; omega) | (simp (disch:=omega) only [w64_id,minI] at *; split <;> omega) | (have hq:=ha _ ‹_=record_At f day› _ (Int.ofNat_lt.1 (by assumption)); simp (disch:=omega) only [w64_id,minI] at *; first | omega | (split <;> omega))

noncomputable def amount_Owed_k (r:Realm) (forum:Int) (f:File) (sign:Int) (day:Int):Ctr (Owed):=kk tok mixed Tryz.func41 [av r.cells,iv forum,av f.cells,iv sign,iv day] (fun x=>av x.cells) true (amount_Owed_sk r forum f sign day) (amount_Owed r forum f sign day) (fun (h:(RightF r f)∧(f.Small)∧(r.ByOK)∧(r.Small)∧(r.FirmOK)∧(r.RateOK))=>amount_Owed_ok r forum f sign day h.1 h.2.1 h.2.2.1 h.2.2.2.1 h.2.2.2.2.1 h.2.2.2.2.2) (fun (x:Owed)=>(RightF r f∧r.RateOK)→(0≤x.rest∧x.rest≤1099511627776)) (amount_Owed_post r forum f sign day)
noncomputable def owe_Claims_sk (r:Realm) (forum:Int) (f:File) (day:Int):Sk ((List Claim)) :=
 .r 1 ((owe_try_k r forum f day).c) fun x1 =>
 .br (!x1.2)
 (.fin [])
 (.r 4 ((bind_Effects_k r forum f day).c) fun x2 =>
 .bind true (fun b3=>b3.length≤1000000)
 (.loop (default:Sum ((List Claim)) ((List Claim))) (fun i4=>i4.1≤x1.1.view.lead.length∧i4.2.length≤i4.1 * 10000) (fun i4=>x1.1.view.lead.length - i4.1) ((0,[]):Nat × (List Claim))
 (fun (i4:Nat × (List Claim))=>⟨[(42,iv ((i4.1:Nat):Int))],[(100366,rowB 48 9 Claim.cells i4.2),(12,.box [ow 100366 i4.2])]⟩) fun i4 =>
 .bnd 40 0 x1.1.view.lead.length <|
 .br (decide (((i4.1:Nat):Int) < ((x1.1.view.lead.length:Nat):Int)))
 (.bind true (fun b5=>b5.length≤i4.2.length+10000)
 (.r 8 (.p (ixP ((i4.1:Nat):Int) x1.1.view.lead.length)) fun _ =>
 .r 9 ((owe_view_links_k x1.1.view (x1.1.view.lead.getD i4.1 default)).c) fun x6 =>
 .r 10 ((owe_court_owners_k x1.1 x6).c) fun _ =>
 .bind true (fun b8=>b8.length≤i4.2.length+10000)
 (.rf (owe_court_owners_c1_it x1.1 x6) (fun ki9 i9=>i9.length≤i4.2.length+ki9 * 100) (fun (_:Unit)=>False) 2 (i4.2:(List Claim))
 (fun (i9:(List Claim))=>[(100534,rowB 48 9 Claim.cells i9),(12,.box [ow 100534 i9])]) (fun (_:Unit)=>[])
 (fun i9 y10 =>
 .bind true (fun b12=>b12.length≤i9.length+100)
 (.r 12 ((owe_view_liable_k x1.1.view (x1.1.view.lead.getD i4.1 default) y10.sign x6).c) fun x13 =>
 .bind true (fun b14=>b14.2.length≤i9.length+x13.length)
 (.loop (default:Sum (Sum (Sum (Unit) ((List Claim))) ((List Claim))) (Int × (List Claim))) (fun i15=>i15.1≤x13.length∧i15.2.length≤i9.length+i15.1) (fun i15=>x13.length - i15.1) ((0,i9):Nat × (List Claim))
 (fun (i15:Nat × (List Claim))=>⟨[(62,iv ((i15.1:Nat):Int))],[(100548,rowB 48 9 Claim.cells i15.2),(12,.box [ow 100548 i15.2])]⟩) fun i15 =>
 .bnd 60 0 x13.length <|
 .br (decide (((i15.1:Nat):Int) < ((x13.length:Nat):Int)))
 (.r 14 (.p (ixP ((i15.1:Nat):Int) x13.length)) fun _ =>
 .r 15 (.p (ixP (x13.getD i15.1 default) x1.1.view.now.signs.length)) fun _ =>
 .r 16 ((owe_court_state_k x1.1 y10 (x13.getD i15.1 default) x6 x2).c) fun x16 =>
 .br ((x16.1 == 0)||(((x1.1.view.now.signs.getD ((x13.getD i15.1 default).toNat) default).who) == y10.firm))
 (.r 20 .z fun _ =>
 .wi 62 (w64 (((i15.1:Nat):Int)+1)) ((i15.1+1:Nat):Int) <|
 .fin (.inr (i15.1+1,i15.2)))
 (.r 18 ((amount_Owed_k r forum f (x13.getD i15.1 default) day).c) fun x17 =>
 .r 19 (.andl (.o [.nrm (litC Claim.E [({ debtor:=(x1.1.view.now.signs.getD ((x13.getD i15.1 default).toNat) default).who,creditor:=y10.firm,part:=x1.1.view.lead.getD i4.1 default,sign:=x13.getD i15.1 default,by_:=y10.sign,turn:=x16.2,sum:=x17.rest,currency:=f.bill.currency,state:=x16.1 }:Claim)])]) (.andl (.o [.nrm (catC Claim.E i15.2 [({ debtor:=(x1.1.view.now.signs.getD ((x13.getD i15.1 default).toNat) default).who,creditor:=y10.firm,part:=x1.1.view.lead.getD i4.1 default,sign:=x13.getD i15.1 default,by_:=y10.sign,turn:=x16.2,sum:=x17.rest,currency:=f.bill.currency,state:=x16.1 }:Claim)])]) (.andl (.t (Claim.E.ones [({ debtor:=(x1.1.view.now.signs.getD ((x13.getD i15.1 default).toNat) default).who,creditor:=y10.firm,part:=x1.1.view.lead.getD i4.1 default,sign:=x13.getD i15.1 default,by_:=y10.sign,turn:=x16.2,sum:=x17.rest,currency:=f.bill.currency,state:=x16.1 }:Claim)])) (.p (szP i15.2.length [({ debtor:=(x1.1.view.now.signs.getD ((x13.getD i15.1 default).toNat) default).who,creditor:=y10.firm,part:=x1.1.view.lead.getD i4.1 default,sign:=x13.getD i15.1 default,by_:=y10.sign,turn:=x16.2,sum:=x17.rest,currency:=f.bill.currency,state:=x16.1 }:Claim)].length 72))))) fun _ =>
 .r 20 .z fun _ =>
 .wi 62 (w64 (((i15.1:Nat):Int)+1)) ((i15.1+1:Nat):Int) <|
 .fin (.inr (i15.1+1,i15.2++[({ debtor:=(x1.1.view.now.signs.getD ((x13.getD i15.1 default).toNat) default).who,creditor:=y10.firm,part:=x1.1.view.lead.getD i4.1 default,sign:=x13.getD i15.1 default,by_:=y10.sign,turn:=x16.2,sum:=x17.rest,currency:=f.bill.currency,state:=x16.1 }:Claim)]))))
 (.fin (.inl (.inr (((i15.1:Nat):Int),i15.2)))))
 (fun (b14:Int × (List Claim))=>⟨[(62,iv b14.1)],[(100547,rowB 48 9 Claim.cells b14.2),(12,.box [ow 100547 b14.2])]⟩) fun b14 =>
 .fin (.inr b14.2))
 (fun (b12:(List Claim))=>⟨[],[(100545,rowB 48 9 Claim.cells b12),(12,.box [ow 100545 b12])]⟩) fun b12 =>
 .fin (.inr b12)) fun r=>match r with
 | .inl _=>(.dead default)
 | .inr j18=>(.fin (.inr j18)))
 (fun (b8:(List Claim))=>⟨[],[(100526,rowB 48 9 Claim.cells b8),(12,.box [ow 100526 b8])]⟩) fun b8 =>
 .fin (.inr b8))
 (fun (b5:(List Claim))=>⟨[],[(100503,rowB 48 9 Claim.cells b5),(12,.box [ow 100503 b5])]⟩) fun b5 =>
 .r 21 .z fun _ =>
 .wi 42 (w64 (((i4.1:Nat):Int)+1)) ((i4.1+1:Nat):Int) <|
 .fin (.inr (i4.1+1,b5)))
 (.fin (.inl (.inr i4.2))))
 (fun (b3:(List Claim))=>⟨[],[(100274,rowB 48 9 Claim.cells b3),(12,.box [ow 100274 b3])]⟩) fun b3 =>
 .fin b3)
noncomputable def owe_Claims (r:Realm) (forum:Int) (f:File) (day:Int):(List Claim):=(owe_Claims_sk r forum f day).val
theorem owe_Claims_ok (r:Realm) (forum:Int) (f:File) (day:Int) (hF:RightF r f) (h_f_Small:f.Small) (h_r_ByOK:r.ByOK) (h_r_Small:r.Small) (h_r_FirmOK:r.FirmOK) (h_r_RateOK:r.RateOK):(owe_Claims_sk r forum f day).obs (fun _=>True):=by
  refine Sk.obs_of _ ?_
  unfold owe_Claims_sk
  simp only [Sk.obq,Sk.isLoop,reduceCtorEq,ON,kk,Sk.pstq,amount_Owed_k,bind_Effects_k,owe_court_owners_k,owe_court_state_k,owe_try_k,owe_view_liable_k,owe_view_links_k,owe_court_owners_c1_it,Sum.forall,owe_court_owners_eq,forall_eq,maxLen]
  refine ⟨⟨h_f_Small,h_r_ByOK,h_r_Small⟩,?_⟩
  generalize owe_try r forum f day=x
  intro hx hc
  have he:=(hx (by simpa using hc)).1
  have ho:=owe_open_post f day
  dsimp only at ho
  have hall:x.1.view.all=f:=by rw [he]; exact ho.1
  have hnow:x.1.view.now=record_At f day:=by rw [he]; exact ho.2.1
  have hday:x.1.view.day=day:=by rw [he]; exact ho.2.2.1
  have hxr:x.1.r=r:=by rw [he]
  have hS40:=hF.2.1.1
  have hlead:x.1.view.lead.length≠0∧x.1.view.lead.length≤41:=by rw [he]; exact ⟨ho.2.2.2.1,by have:=ho.2.2.2.2; show (owe_open f day).lead.length≤41; omega⟩
  have hsg:=signs_At_leR f day
  have hBase:x.1.view.BaseOK:=by unfold View.BaseOK; rw [hnow]; exact hF.at_base day
  have hlk:∀ part,(owe_view_links x.1.view part).length≤40∧∀ y,y∈owe_view_links x.1.view part→0≤y∧y < ((record_At f day).signs.length:Int):=fun part=>by
    have h:=owe_view_links_post x.1.view part
    rw [hall,hday] at h
    exact ⟨Nat.le_trans h.1 hS40,fun y hy=>⟨(h.2 y hy).1,hF.at_in (h.2 y hy).1 (h.2 y hy).2.1 (h.2 y hy).2.2⟩⟩
  have hlg:∀ part i,i < (owe_view_links x.1.view part).length→0≤(owe_view_links x.1.view part).getD i default∧(owe_view_links x.1.view part).getD i default < ((record_At f day).signs.length:Int):=fun part i hi=>(hlk part).2 _ (lget_mem hi _)
  have hpre:∀ part,ownPre x.1 (owe_view_links x.1.view part):=fun part=>by
    refine ⟨by have:=(hlk part).1; omega,fun i hi=>by rw [hnow]; exact hlg part i hi,fun i hi=>?_⟩
    have hs:x.1.view.now.Small:=by rw [hnow]; exact At_small h_f_Small day
    have hb:x.1.r.ByOK:=by rw [hxr]; exact h_r_ByOK
    have hr:x.1.r.Small:=by rw [hxr]; exact h_r_Small
    exact ⟨hs,hb,hr⟩
  have hol:∀ part k y,(owe_court_owners_c1 x.1 (owe_view_links x.1.view part))[k]? = some y→k≤40:=fun part k y h=>by
    have h1:=(List.getElem?_eq_some_iff.1 h).1
    have h2:=owners_len x.1 (owe_view_links x.1.view part)
    have h3:=(hlk part).1
    omega
  have hli:∀ part b l,(owe_view_liable x.1.view part b l).length≤40∧∀ i,i < (owe_view_liable x.1.view part b l).length→0≤(owe_view_liable x.1.view part b l).getD i default∧(owe_view_liable x.1.view part b l).getD i default < ((record_At f day).signs.length:Int):=fun part b l=>by
    have h:=owe_view_liable_post x.1.view part b l
    rw [hnow] at h
    exact ⟨Nat.le_trans h.1 (by omega),fun i hi=>h.2 _ (lget_mem hi _)⟩
  refine ⟨⟨h_f_Small,h_r_ByOK,h_r_Small⟩,fun hE=>⟨⟨Nat.zero_le _,by simp⟩,fun i hi hm=>⟨fun hlt=>⟨⟨by simp only [LN] at hlt; omega,fun _=>⟨by rw [hall]; exact h_f_Small,fun _ _=>⟨⟨hpre _,by omega,fun k s y hs hy=>?_,?_⟩,?_⟩⟩⟩,?_⟩,?_⟩⟩⟩
  · have hk:=hol _ _ _ hy
    obtain ⟨hn,hg⟩:=hli (x.1.view.lead.getD i.1 default) y.sign (owe_view_links x.1.view (x.1.view.lead.getD i.1 default))
    have hcl:∀ (l:List Claim) (c:Claim),(l++[c]).length=l.length+1:=fun l c=>by simp
    have hmax:i.2.length≤410000:=by simp only [LN] at hlt; omega
    refine ⟨⟨fun _=>⟨⟨⟨Nat.zero_le _,Nat.le_refl _⟩,fun j hj=>⟨fun hc _ _=>⟨fun _ _=>?_,fun _ _ _ _=>?_⟩,fun hc=>?_⟩⟩,fun b hb=>?_⟩,fun b _ hb=>?_⟩,⟨⟨hlead.1,by rw [hnow]; omega⟩,fun _=>?_⟩,?_⟩
    · simp only [LN] at hc; exact ⟨⟨by omega,by omega⟩,by omega⟩
    · simp only [LN] at hc; rw [hcl]; exact ⟨⟨by omega,by omega⟩,by omega⟩
    · simp only [LN] at hc; omega
    · omega
    · omega
    · have e1:x.1.view.now=record_At x.1.view.all x.1.view.day:=by rw [hnow,hall,hday]
      have e2:RightF x.1.r x.1.view.all:=by rw [hxr,hall]; exact hF
      have e3:x.1.view.all.Small:=by rw [hall]; exact h_f_Small
      have e4:x.1.r.ByOK:=by rw [hxr]; exact h_r_ByOK
      have e5:x.1.r.Small:=by rw [hxr]; exact h_r_Small
      have e6:(bind_Effects r forum f day).length=x.1.view.now.signs.length:=by rw [hnow]; exact hE
      have h1:∀ c:Claim,[c].length=1:=fun _=>rfl
      refine ⟨⟨⟨Nat.zero_le _,Nat.le_refl _⟩,fun j hj hm2=>⟨fun hc=>?_,fun hc=>?_⟩⟩,fun b hb=>by omega⟩
      · simp only [LN] at hc
        have hgj:=hg j.1 (by omega)
        rw [← hnow] at hgj
        refine ⟨⟨by omega,by omega⟩,fun _=>⟨hgj,fun _=>⟨⟨e6,hgj,e1,e2,hBase,e3,e4,e5⟩,fun _ _=>⟨(w64_id (by omega) (by omega)).trans (by omega),⟨by omega,by omega⟩,by omega⟩,fun _=>⟨⟨hF,h_f_Small,h_r_ByOK,h_r_Small,h_r_FirmOK,h_r_RateOK⟩,fun _=>⟨?_,fun _ _=>⟨(w64_id (by omega) (by omega)).trans (by omega),⟨by omega,?_⟩,by omega⟩⟩⟩⟩⟩⟩
        · rw [h1]; omega
        · rw [hcl]; omega
      · simp only [LN] at hc; omega
    · exact fun b _ hb=>by omega
  · intro b hb
    have h2:=owners_len x.1 (owe_view_links x.1.view (x.1.view.lead.getD i.1 default))
    have h3:=(hlk (x.1.view.lead.getD i.1 default)).1
    omega
  · exact fun b _ hb=>hb
  · intro b _ hb _
    simp only [LN] at hlt
    exact ⟨(w64_id (by omega) (by omega)).trans (by omega),⟨by omega,by omega⟩,by omega⟩
  · intro hc
    simp only [LN] at hc
    omega

theorem owe_Claims_fnO (r:Realm) (forum:Int) (f:File) (day:Int) (hF:RightF r f) (h_f_Small:f.Small) (h_r_ByOK:r.ByOK) (h_r_Small:r.Small) (h_r_FirmOK:r.FirmOK) (h_r_RateOK:r.RateOK):FnA Tryz.prog 10 [av r.cells,iv forum,av f.cells,iv day] [] (ow 777777 (owe_Claims r forum f day)) [(777777,rowB 48 9 Claim.cells (owe_Claims r forum f day))] :=
  FnA.sk tok mixed (fun x=>ow 777777 x) (fun x=>[(777777,rowB 48 9 Claim.cells x)]) Tryz.func10 rfl (by kernel_rfl) 3000 (owe_Claims_sk r forum f day) (by kernel_rfl) (owe_Claims_ok r forum f day hF h_f_Small h_r_ByOK h_r_Small h_r_FirmOK h_r_RateOK)
noncomputable def owe_Claims_ko (κ:Nat) (r:Realm) (forum:Int) (f:File) (day:Int):CtrO ((List Claim)):=⟨Tryz.prog,10,[av r.cells,iv forum,av f.cells,iv day],fun x=>ow κ x,fun x=>[(κ,rowB 48 9 Claim.cells x)],owe_Claims r forum f day,(RightF r f)∧(f.Small)∧(r.ByOK)∧(r.Small)∧(r.FirmOK)∧(r.RateOK),fun h=>FnA.rekey κ (owe_Claims_fnO r forum f day h.1 h.2.1 h.2.2.1 h.2.2.2.1 h.2.2.2.2.1 h.2.2.2.2.2),fun _=>True,trivial⟩
noncomputable def pay_run_c1_sk (s:Sign) (v:ActX):Sk (Bool) :=
 .fin (s.who == v.to_)
noncomputable def pay_run_c1 (s:Sign) (v:ActX):Bool:=(pay_run_c1_sk s v).val
theorem pay_run_c1_eq (s:Sign) (v:ActX):pay_run_c1 s v=(s.who == v.to_):=rfl
theorem pay_run_c1_ok (s:Sign) (v:ActX):(pay_run_c1_sk s v).obs (fun _=>True):=by
  unfold pay_run_c1_sk
  exact okE

noncomputable def pay_run_c1_k (s:Sign) (v:ActX):Ctr (Bool):=kk tok mixed Tryz.func101 [av s.cells,.ref v.cells] (fun x=>bv x) true (pay_run_c1_sk s v) (pay_run_c1 s v) (fun (_:True)=>pay_run_c1_ok s v)
noncomputable def slices_IndexFunc_101_sk (s:List Sign) (v:ActX):Sk (Int) :=
 .bind true (fun b1=>∀ q,q < s.length→pay_run_c1 (s.getD q default) v=false)
 (.loop (default:Sum (Int) (Unit)) (fun i2=>∀ q,q < i2→pay_run_c1 (s.getD q default) v=false) (fun i2=>s.length - i2) (0:Nat)
 (fun (i2:Nat)=>⟨[(8,iv ((i2:Nat):Int))],[]⟩) fun i2 =>
 .bnd 0 0 s.length <|
 .br (decide (((i2:Nat):Int) < ((s.length:Nat):Int)))
 (.r 4 (.andl (.p (ixP ((i2:Nat):Int) s.length)) ((pay_run_c1_k (s.getD i2 default) v).c)) fun x3 =>
 .br x3
 (.fin (.inl (.inl ((i2:Nat):Int))))
 (.r 6 .z fun _ =>
 .wi 8 (w64 (((i2:Nat):Int)+1)) ((i2+1:Nat):Int) <|
 .fin (.inr (i2+1))))
 (.fin (.inl (.inr ()))))
 (fun (_:Unit)=>⟨[],[]⟩) fun _ =>
 .fin (-1)
noncomputable def slices_IndexFunc_101 (s:List Sign) (v:ActX):Int:=(slices_IndexFunc_101_sk s v).val
theorem slices_IndexFunc_101_pst (s:List Sign) (v:ActX):(slices_IndexFunc_101_sk s v).pst (fun (x:Int)=>(x = -1∧∀ q,q < s.length→pay_run_c1 (s.getD q default) v=false)∨(0≤x∧x < s.length∧pay_run_c1 (s.getD x.toNat default) v=true∧∀ q,(q:Nat) < x.toNat→pay_run_c1 (s.getD q default) v=false)):=by
  unfold slices_IndexFunc_101_sk
  try simp only [pay_run_c1_k,pay_run_c1_eq]
  exact okQ

theorem slices_IndexFunc_101_post (s:List Sign) (v:ActX):(fun (x:Int)=>(x = -1∧∀ q,q < s.length→pay_run_c1 (s.getD q default) v=false)∨(0≤x∧x < s.length∧pay_run_c1 (s.getD x.toNat default) v=true∧∀ q,(q:Nat) < x.toNat→pay_run_c1 (s.getD q default) v=false)) (slices_IndexFunc_101 s v):=have h:=Sk.pval _ (slices_IndexFunc_101_pst s v); h
theorem slices_IndexFunc_101_ok (s:List Sign) (v:ActX):(slices_IndexFunc_101_sk s v).obs (fun _=>True):=by
  unfold slices_IndexFunc_101_sk
  try simp only [pay_run_c1_k,pay_run_c1_eq]
  exact okG

noncomputable def slices_IndexFunc_101_k (s:List Sign) (v:ActX):Ctr (Int):=kk tok mixed Tryz.func173 [lv Sign.cells s,.fn 101 [.ref v.cells]] (fun x=>iv x) true (slices_IndexFunc_101_sk s v) (slices_IndexFunc_101 s v) (fun (_:True)=>slices_IndexFunc_101_ok s v) (fun (x:Int)=>(x = -1∧∀ q,q < s.length→pay_run_c1 (s.getD q default) v=false)∨(0≤x∧x < s.length∧pay_run_c1 (s.getD x.toNat default) v=true∧∀ q,(q:Nat) < x.toNat→pay_run_c1 (s.getD q default) v=false)) (slices_IndexFunc_101_post s v)
noncomputable def slices_ContainsFunc_101_sk (s:List Sign) (v:ActX):Sk (Bool) :=
 .r 1 ((slices_IndexFunc_101_k s v).c) fun x1 =>
 .fin (decide (x1≥0))
noncomputable def slices_ContainsFunc_101 (s:List Sign) (v:ActX):Bool:=(slices_ContainsFunc_101_sk s v).val
theorem slices_ContainsFunc_101_pst (s:List Sign) (v:ActX):(slices_ContainsFunc_101_sk s v).pst (fun (x:Bool)=>(x=true↔∃ q,q < s.length∧pay_run_c1 (s.getD q default) v=true)):=by
  unfold slices_ContainsFunc_101_sk
  try simp only [slices_IndexFunc_101_k]
  exact okP

theorem slices_ContainsFunc_101_post (s:List Sign) (v:ActX):(fun (x:Bool)=>(x=true↔∃ q,q < s.length∧pay_run_c1 (s.getD q default) v=true)) (slices_ContainsFunc_101 s v):=have h:=Sk.pval _ (slices_ContainsFunc_101_pst s v); h
theorem slices_ContainsFunc_101_ok (s:List Sign) (v:ActX):(slices_ContainsFunc_101_sk s v).obs (fun _=>True):=by
  unfold slices_ContainsFunc_101_sk
  try simp only [slices_IndexFunc_101_k]
  exact okE

noncomputable def slices_ContainsFunc_101_k (s:List Sign) (v:ActX):Ctr (Bool):=kk tok mixed Tryz.func100 [lv Sign.cells s,.fn 101 [.ref v.cells]] (fun x=>bv x) true (slices_ContainsFunc_101_sk s v) (slices_ContainsFunc_101 s v) (fun (_:True)=>slices_ContainsFunc_101_ok s v) (fun (x:Bool)=>(x=true↔∃ q,q < s.length∧pay_run_c1 (s.getD q default) v=true)) (slices_ContainsFunc_101_post s v)
structure Step where
  debtor:Int
  creditor:Int
  sign:Int
  sum:Int
  deriving Inhabited
def Step.cells (c:Step):List D:=[dI c.debtor,dI c.creditor,dI c.sign,dI c.sum]
def Step.E:Enc Step:=⟨Step.cells,4,fun _=>rfl,fun _=>rfl⟩
noncomputable def slices_Clone_2_sk (s:List Claim):Sk ((List Claim)) :=
 .nsp 0 s.length
 (.brt <|
 .fin [])
 (.brf <|
 .r 3 (.andl (.o [.nrm (litC Claim.E ([]:List Claim))]) (.andl (.o [.nrm (catC Claim.E ([]:List Claim) s)]) (.andl (.t (Claim.E.src s)) (.p (szP (([]:List Claim).length) s.length 72))))) fun _ =>
 .fin (([]:List Claim)++s))
noncomputable def slices_Clone_2 (s:List Claim):(List Claim):=(slices_Clone_2_sk s).val
theorem slices_Clone_2_pst (s:List Claim):(slices_Clone_2_sk s).pst (fun (x:(List Claim))=>x.length=s.length∧x=s):=by
  unfold slices_Clone_2_sk
  simp [Sk.pst,litC,catC]
theorem slices_Clone_2_post (s:List Claim):(fun (x:(List Claim))=>x.length=s.length∧x=s) (slices_Clone_2 s):=have h:=Sk.pval _ (slices_Clone_2_pst s); h
theorem slices_Clone_2_ok (s:List Claim) (hs:s.length≤1000000000):(slices_Clone_2_sk s).obs (fun _=>True):=by
  unfold slices_Clone_2_sk
  exact okD

theorem slices_Clone_2_fnO (s:List Claim) (hs:s.length≤1000000000):FnA Tryz.prog 63 [lv Claim.cells s] [] (ow 777777 (slices_Clone_2 s)) [(777777,rowB 48 9 Claim.cells (slices_Clone_2 s))] :=
  FnA.sk tok mixed (fun x=>ow 777777 x) (fun x=>[(777777,rowB 48 9 Claim.cells x)]) Tryz.func63 rfl (by kernel_rfl) 3000 (slices_Clone_2_sk s) (by kernel_rfl) (slices_Clone_2_ok s hs)
noncomputable def slices_Clone_2_ko (κ:Nat) (s:List Claim):CtrO ((List Claim)):=⟨Tryz.prog,63,[lv Claim.cells s],fun x=>ow κ x,fun x=>[(κ,rowB 48 9 Claim.cells x)],slices_Clone_2 s,(s.length≤1000000000),fun h=>FnA.rekey κ (slices_Clone_2_fnO s h),fun (x:(List Claim))=>x.length=s.length∧x=s,slices_Clone_2_post s⟩
noncomputable def pay_meets_sk (a:ActX) (stranger:Bool) (c_:Claim):Sk (Bool) :=
 .fin ((c_.creditor == a.to_)||((c_.creditor == (-1))&&stranger))
noncomputable def pay_meets (a:ActX) (stranger:Bool) (c_:Claim):Bool:=(pay_meets_sk a stranger c_).val
theorem pay_meets_eq (a:ActX) (stranger:Bool) (c_:Claim):pay_meets a stranger c_=((c_.creditor == a.to_)||((c_.creditor == (-1))&&stranger)):=rfl
theorem pay_meets_ok (a:ActX) (stranger:Bool) (c_:Claim):(pay_meets_sk a stranger c_).obs (fun _=>True):=by
  unfold pay_meets_sk
  exact okE

noncomputable def pay_meets_k (a:ActX) (stranger:Bool) (c_:Claim):Ctr (Bool):=kk tok mixed Tryz.func64 [av a.cells,bv stranger,av c_.cells] (fun x=>bv x) true (pay_meets_sk a stranger c_) (pay_meets a stranger c_) (fun (_:True)=>pay_meets_ok a stranger c_)
structure Key where
  debtor:Int
  creditor:Int
  part:Int
  sign:Int
  by_:Int
  deriving Inhabited
def Key.cells (c:Key):List D:=[dI c.debtor,dI c.creditor,dI c.part,dI c.sign,dI c.by_]
def Key.E:Enc Key:=⟨Key.cells,5,fun _=>rfl,fun _=>rfl⟩
noncomputable def pay_of_sk (c_:Claim):Sk (Key) :=
 .fin ({ debtor:=c_.debtor,creditor:=c_.creditor,part:=c_.part,sign:=c_.sign,by_:=c_.by_ }:Key)
noncomputable def pay_of (c_:Claim):Key:=(pay_of_sk c_).val
theorem pay_of_eq (c_:Claim):pay_of c_=({ debtor:=c_.debtor,creditor:=c_.creditor,part:=c_.part,sign:=c_.sign,by_:=c_.by_ }:Key):=rfl
theorem pay_of_ok (c_:Claim):(pay_of_sk c_).obs (fun _=>True):=by
  unfold pay_of_sk
  exact okE

noncomputable def pay_of_k (c_:Claim):Ctr (Key):=kk tok mixed Tryz.func132 [av c_.cells] (fun x=>av x.cells) true (pay_of_sk c_) (pay_of c_) (fun (_:True)=>pay_of_ok c_)
noncomputable def bind_And_sk (a:Int) (b:Int):Sk (Int) :=
 .r 1 (.andl (.o [.nrm (litC intE [a,b])]) ((bind_join_k [a,b]).c)) fun x1 =>
 .fin x1
noncomputable def bind_And (a:Int) (b:Int):Int:=(bind_And_sk a b).val
theorem bind_And_ok (a:Int) (b:Int):(bind_And_sk a b).obs (fun _=>True):=by
  unfold bind_And_sk
  try simp only [bind_join_k]
  exact okE

noncomputable def bind_And_k (a:Int) (b:Int):Ctr (Int):=kk tok mixed Tryz.func133 [iv a,iv b] (fun x=>iv x) true (bind_And_sk a b) (bind_And a b) (fun (_:True)=>bind_And_ok a b)
/-- two claims with the same key -/
def KeyEq (x y:Claim):Prop:=x.debtor=y.debtor∧x.creditor=y.creditor∧x.part=y.part∧x.sign=y.sign∧x.by_=y.by_
/-- a claim put to others: the first one of its key is turned by f,or it is new -/
def Merged (f:Claim→Claim) (l:List Claim) (c:Claim) (x:List Claim):Prop :=
  (∃ i,i < l.length∧KeyEq (l.getD i default) c∧x=l.set i (f (l.getD i default)))∨((∀ i,i < l.length→¬ KeyEq (l.getD i default) c)∧x=l++[c])
noncomputable def fG (c x:Claim):Claim:={ x with sum:=maxI x.sum c.sum,state:=bind_And c.state x.state }
noncomputable def fJ (c x:Claim):Claim:={ x with sum:=minI 1099511627776 (w64 (x.sum+c.sum)),state:=bind_And x.state c.state }
/-- what a payment takes from a claim -/
def lessOf (a:ActX) (x:Claim):Int:=minI (maxI 0 a.sum) (maxI 0 x.sum)
noncomputable def redOf (a:ActX) (st:Bool) (x:Claim):Claim:=bif pay_meets a st x then { x with sum:=w64 (maxI 0 x.sum - lessOf a x) } else x
/-- the same but for sum and state -/
def Like (x y:Claim):Prop:=KeyEq x y∧x.turn=y.turn∧x.currency=y.currency
theorem Like.rfl' (x:Claim):Like x x:=⟨⟨rfl,rfl,rfl,rfl,rfl⟩,rfl,rfl⟩
theorem Like.trans {x y z:Claim} (h:Like x y) (k:Like y z):Like x z:=⟨⟨h.1.1.trans k.1.1,h.1.2.1.trans k.1.2.1,h.1.2.2.1.trans k.1.2.2.1,h.1.2.2.2.1.trans k.1.2.2.2.1,h.1.2.2.2.2.trans k.1.2.2.2.2⟩,h.2.1.trans k.2.1,h.2.2.trans k.2.2⟩
/-- a claim that comes of a payment for a claim of l -/
def Sub (l:List Claim) (a:ActX) (c:Claim):Prop:=(c.creditor=a.who∧c.by_=a.at_∧c.debtor≠a.who)∧(∃ x∈l,x.debtor=c.debtor∧x.part=c.part∧x.sign=c.sign∧x.currency=c.currency)∧((∀ x∈l,SumP x.sum)→SumP c.sum)
def InnOK (l:List Claim) (a:ActX) (inn:List Claim):Prop:=(∀ c∈inn,Sub l a c)∧inn.Pairwise fun x y=>¬ KeyEq x y
theorem maxI_le' {a b:Int} (ha:SumP a) (hb:SumP b):SumP (maxI a b):=by unfold maxI SumP at *; split <;> omega
theorem KeyEq.comm {x y:Claim} (h:KeyEq x y):KeyEq y x:=⟨h.1.symm,h.2.1.symm,h.2.2.1.symm,h.2.2.2.1.symm,h.2.2.2.2.symm⟩
theorem KeyEq.tr {x y z:Claim} (h:KeyEq x y) (k:KeyEq y z):KeyEq x z:=⟨h.1.trans k.1,h.2.1.trans k.2.1,h.2.2.1.trans k.2.2.1,h.2.2.2.1.trans k.2.2.2.1,h.2.2.2.2.trans k.2.2.2.2⟩
theorem mem_set' {l:List Claim} {i:Nat} {y x:Claim} (h:x∈l.set i y):x=y∨x∈l:=by
  rcases List.mem_or_eq_of_mem_set h with h | h
  · exact .inr h
  · exact .inl h
theorem getD_mem {l:List Claim} {i:Nat} (h:i < l.length):l.getD i default∈l:=lget_mem h _
theorem getD_set {l:List Claim} {i j:Nat} {y:Claim} (h:j < l.length):(l.set i y).getD j default=if i=j then y else l.getD j default:=by
  simp only [List.getD,List.getElem?_set]
  split
  · subst_vars; simp [h]
  · rfl
theorem InnOK.group {l:List Claim} {a:ActX} {inn x:List Claim} {c:Claim} (h:InnOK l a inn) (hc:Sub l a c) (hm:Merged (fG c) inn c x):InnOK l a x:=by
  rcases hm with ⟨i,hi,hk,rfl⟩ | ⟨hn,rfl⟩
  · have hs:=h.1 _ (getD_mem hi)
    have hx:KeyEq (fG c (inn.getD i default)) (inn.getD i default):=⟨rfl,rfl,rfl,rfl,rfl⟩
    refine ⟨fun z hz=>?_,?_⟩
    · rcases mem_set' hz with rfl | hz
      · exact ⟨hs.1,hs.2.1,fun hP=>maxI_le' (hs.2.2 hP) (hc.2.2 hP)⟩
      · exact h.1 z hz
    · rw [List.pairwise_iff_getElem]
      intro p q hp hq hpq
      have hp':p < inn.length:=by simpa using hp
      have hq':q < inn.length:=by simpa using hq
      have h0:=List.pairwise_iff_getElem.1 h.2 p q hp' hq' hpq
      simp only [List.getElem_set]
      have e:∀ j (hj:j < inn.length),i=j→KeyEq (fG c (inn.getD i default)) inn[j]:=by
        rintro j hj rfl
        simpa [List.getD,hj] using hx
      intro hk2
      apply h0
      split at hk2 <;> split at hk2
      · omega
      · exact (e p hp' ‹_›).comm.tr hk2
      · exact hk2.tr (e q hq' ‹_›)
      · exact hk2
  · refine ⟨fun z hz=>?_,?_⟩
    · rcases List.mem_append.1 hz with hz | hz
      · exact h.1 z hz
      · rw [List.mem_singleton.1 hz]; exact hc
    · rw [List.pairwise_append]
      refine ⟨h.2,List.pairwise_singleton _ _,fun x hx y hy=>?_⟩
      rw [List.mem_singleton.1 hy]
      obtain ⟨j,hj,rfl⟩:=List.getElem_of_mem hx
      have:=hn j hj
      rwa [show inn.getD j default=inn[j] by simp [List.getD,hj]] at this
/-- a list without twins is not longer than one that holds it -/
theorem nodup_len {α:Type}:∀ (l D:List α),l.Pairwise (·≠·)→(∀ x∈l,x∈D)→l.length≤D.length
  | [],D,_,_=>Nat.zero_le _
  | x :: r,D,hp,hs=>by
    classical
    have hx:x∈D:=hs x (by simp)
    rw [List.pairwise_cons] at hp
    have:=nodup_len r (D.erase x) hp.2 (fun y hy=>(List.mem_erase_of_ne (fun e=>hp.1 y hy e.symm)).2 (hs y (by simp [hy])))
    rw [List.length_erase_of_mem hx] at this
    have hpos:0 < D.length:=List.length_pos_of_mem hx
    simp only [List.length_cons]
    omega
def dps (x:Claim):Int × Int × Int:=(x.debtor,x.part,x.sign)
theorem InnOK.len {l:List Claim} {a:ActX} {inn:List Claim} (h:InnOK l a inn) {D:List (Int × Int × Int)} (hD:∀ x∈l,dps x∈D):inn.length≤D.length:=by
  have:=nodup_len (inn.map dps) D ?_ ?_
  · simpa using this
  · rw [List.pairwise_map]
    refine List.Pairwise.imp_of_mem ?_ h.2
    intro x y hx hy hne e
    have hx:=(h.1 x hx).1
    have hy:=(h.1 y hy).1
    simp only [dps,Prod.mk.injEq] at e
    exact hne ⟨e.1,hx.1.trans hy.1.symm,e.2.1,e.2.2,hx.2.1.trans hy.2.1.symm⟩
  · intro z hz
    obtain ⟨c,hc,rfl⟩:=List.mem_map.1 hz
    obtain ⟨x,hx,e1,e2,e3,-⟩:=(h.1 c hc).2.1
    have:=hD x hx
    rwa [show dps x=dps c by simp [dps,e1,e2,e3]] at this
/-- the claims while the payment goes over them -/
def Inv0 (l:List Claim) (a:ActX) (st:Bool) (k:Nat) (out inn:List Claim):Prop :=
  out.length=l.length∧(∀ i,i < l.length→out.getD i default=if i < k then redOf a st (l.getD i default) else l.getD i default)∧InnOK l a inn
theorem Inv0.init (l:List Claim) (a:ActX) (st:Bool):Inv0 l a st 0 l []:=⟨rfl,fun i _=>by simp,fun c hc=>by simp at hc,.nil⟩
theorem Inv0.skip {l:List Claim} {a:ActX} {st:Bool} {k:Nat} {out inn:List Claim} (h:Inv0 l a st k out inn) (hk:k < l.length) (hm:pay_meets a st (l.getD k default)=false):Inv0 l a st (k+1) out inn:=by
  refine ⟨h.1,fun i hi=>?_,h.2.2⟩
  rw [h.2.1 i hi]
  by_cases hik:i=k
  · subst hik; rw [if_neg (Nat.lt_irrefl i),if_pos (Nat.lt_succ_self i)]; unfold redOf; rw [hm]; rfl
  · by_cases h1:i < k
    · rw [if_pos h1,if_pos (by omega)]
    · rw [if_neg h1,if_neg (by omega)]
theorem Inv0.meet {l:List Claim} {a:ActX} {st:Bool} {k:Nat} {out inn inn':List Claim} (h:Inv0 l a st k out inn) (hk:k < l.length) (hm:pay_meets a st (l.getD k default)=true) (hi:InnOK l a inn') :
    Inv0 l a st (k+1) (out.set k { out.getD k default with sum:=w64 (maxI 0 (l.getD k default).sum - lessOf a (l.getD k default)) }) inn':=by
  have hok:=h.2.1 k hk
  rw [if_neg (Nat.lt_irrefl k)] at hok
  refine ⟨by rw [List.length_set]; exact h.1,fun i hi=>?_,hi⟩
  rw [getD_set (by rw [h.1]; exact hi)]
  by_cases hik:k=i
  · subst hik; rw [if_pos rfl,if_pos (by omega),hok]; unfold redOf; rw [hm]; rfl
  · rw [if_neg hik,h.2.1 i hi]
    by_cases h1:i < k
    · rw [if_pos h1,if_pos (by omega)]
    · rw [if_neg h1,if_neg (by omega)]
theorem sub_less {l:List Claim} {a:ActX} {c:Claim} (hc:c∈l) (hd:c.debtor≠a.who) (s:Int) (hs:s=lessOf a c):Sub l a { c with creditor:=a.who,by_:=a.at_,sum:=s }:=by
  subst hs
  refine ⟨⟨rfl,rfl,hd⟩,⟨c,hc,rfl,rfl,rfl,rfl⟩,fun hP=>?_⟩
  have:=hP c hc
  unfold SumP at *
  show 0≤lessOf a c∧lessOf a c≤1099511627776
  unfold lessOf minI maxI
  constructor <;> (repeat' split) <;> omega
/-- the claims while the new ones are joined to them -/
def Inv1 (a:ActX) (m inn:List Claim) (k:Nat) (v:List Claim):Prop :=
  (m.length≤v.length∧v.length≤m.length+k)∧(∀ i,i < m.length→Like (v.getD i default) (m.getD i default)∧((m.getD i default).creditor≠a.who→v.getD i default=m.getD i default)) ∧
    (∀ i,m.length≤i→i < v.length→∃ c∈inn,Like (v.getD i default) c)∧((∀ x∈m,SumP x.sum)→(∀ x∈inn,SumP x.sum)→∀ x∈v,SumP x.sum)
theorem Inv1.init (a:ActX) (m inn:List Claim):Inv1 a m inn 0 m:=⟨⟨Nat.le_refl _,Nat.le_refl _⟩,fun i hi=>⟨Like.rfl' _,fun _=>rfl⟩,fun i h1 h2=>absurd h2 (by omega),fun h _=>h⟩
theorem fJ_sum {c x:Claim} (hc:SumP c.sum) (hx:SumP x.sum):SumP (fJ c x).sum:=by
  unfold SumP at *
  show 0≤minI _ _∧minI _ _≤_
  rw [w64_id (by omega) (by omega)]
  unfold minI; split <;> omega
theorem Inv1.step {a:ActX} {m inn v x:List Claim} {k:Nat} {c:Claim} (h:Inv1 a m inn k v) (hc:c∈inn) (hw:c.creditor=a.who) (hm:Merged (fJ c) v c x):Inv1 a m inn (k+1) x:=by
  obtain ⟨⟨h1,h2⟩,h3,h4,h5⟩:=h
  rcases hm with ⟨i,hi,hk,rfl⟩ | ⟨hn,rfl⟩
  · have hl:Like (fJ c (v.getD i default)) (v.getD i default):=⟨⟨rfl,rfl,rfl,rfl,rfl⟩,rfl,rfl⟩
    refine ⟨⟨by simpa using h1,by rw [List.length_set]; omega⟩,fun j hj=>?_,fun j hj hj2=>?_,fun hP hQ z hz=>?_⟩
    · rw [getD_set (by omega)]
      split
      · subst_vars
        refine ⟨hl.trans (h3 _ hj).1,fun hne=>absurd ?_ hne⟩
        have e2:=hk.2.1
        have e3:=(h3 _ hj).1.1.2.1
        rw [← e3,e2,hw]
      · exact h3 j hj
    · rw [List.length_set] at hj2
      rw [getD_set hj2]
      split
      · subst_vars
        obtain ⟨d,hd,e⟩:=h4 _ hj hj2
        exact ⟨d,hd,hl.trans e⟩
      · exact h4 j hj hj2
    · rcases mem_set' hz with rfl | hz
      · exact fJ_sum (hQ c hc) (h5 hP hQ _ (getD_mem hi))
      · exact h5 hP hQ z hz
  · have e:∀ j,j < v.length→(v++[c]).getD j default=v.getD j default:=fun j hj=>by simp [List.getD,List.getElem?_append_left hj]
    refine ⟨⟨by simp; omega,by simp; omega⟩,fun j hj=>?_,fun j hj hj2=>?_,fun hP hQ z hz=>?_⟩
    · rw [e j (by omega)]; exact h3 j hj
    · by_cases hjv:j < v.length
      · rw [e j hjv]; exact h4 j hj hjv
      · have:j=v.length:=by simp at hj2; omega
        subst this
        exact ⟨c,hc,by simp [List.getD]; exact Like.rfl' _⟩
    · rcases List.mem_append.1 hz with hz | hz
      · exact h5 hP hQ z hz
      · rw [List.mem_singleton.1 hz]; exact hQ c hc
/-- what a payment makes of claims -/
structure Applied (l:List Claim) (a:ActX) (st:Bool) (out:List Claim):Prop where
  len:l.length≤out.length
  old:∀ i,i < l.length→Like (out.getD i default) (l.getD i default)∧((l.getD i default).creditor≠a.who→out.getD i default=redOf a st (l.getD i default))
  new:∀ i,l.length≤i→i < out.length→(out.getD i default).creditor=a.who∧(out.getD i default).by_=a.at_∧(out.getD i default).debtor≠a.who∧∃ x∈l,x.debtor=(out.getD i default).debtor∧x.part=(out.getD i default).part∧x.sign=(out.getD i default).sign∧x.currency=(out.getD i default).currency
  sums:(∀ x∈l,SumP x.sum)→∀ x∈out,SumP x.sum
  few:∀ D:List (Int × Int × Int),(∀ x∈l,dps x∈D)→out.length≤l.length+D.length
theorem red_like (a:ActX) (st:Bool) (x:Claim):Like (redOf a st x) x:=by
  unfold redOf
  cases pay_meets a st x
  · exact Like.rfl' x
  · exact ⟨⟨rfl,rfl,rfl,rfl,rfl⟩,rfl,rfl⟩
theorem red_sum {a:ActX} {st:Bool} {x:Claim} (h:SumP x.sum):SumP (redOf a st x).sum:=by
  unfold redOf
  cases pay_meets a st x
  · exact h
  · unfold SumP at *
    have h1:0≤lessOf a x∧lessOf a x≤x.sum:=by unfold lessOf minI maxI; constructor <;> (repeat' split) <;> omega
    have h2:maxI 0 x.sum=x.sum:=by unfold maxI; split <;> omega
    show 0≤w64 _∧w64 _≤_
    rw [h2,w64_id (by omega) (by omega)]
    omega
theorem Applied.mk' {l:List Claim} {a:ActX} {st:Bool} {m inn v:List Claim} {k n:Nat} (h0:Inv0 l a st n m inn) (hn:n=l.length) (h1:Inv1 a m inn k v) (hk:k≤inn.length):Applied l a st v:=by
  subst hn
  obtain ⟨hl,hr,hi⟩:=h0
  obtain ⟨⟨h11,h12⟩,h13,h14,h15⟩:=h1
  have hr':∀ i,i < l.length→m.getD i default=redOf a st (l.getD i default):=fun i h=>by rw [hr i h,if_pos h]
  refine ⟨by omega,fun i h=>?_,fun i h h2=>?_,fun hP=>?_,fun D hD=>?_⟩
  · have h3:=h13 i (by omega)
    rw [hr' i h] at h3
    refine ⟨h3.1.trans (red_like a st _),fun hne=>h3.2 ?_⟩
    rw [(red_like a st (l.getD i default)).1.2.1]
    exact hne
  · obtain ⟨c,hc,e⟩:=h14 i (by omega) h2
    obtain ⟨⟨k1,k2,k3⟩,⟨x,hx,e1,e2,e3,e4⟩,-⟩:=hi.1 c hc
    obtain ⟨⟨f1,f2,f3,f4,f5⟩,-,f6⟩:=e
    exact ⟨f2.trans k1,f5.trans k2,fun z=>k3 (f1 ▸ z),x,hx,e1.trans f1.symm,e2.trans f3.symm,e3.trans f4.symm,e4.trans f6.symm⟩
  · refine h15 (fun x hx=>?_) (fun x hx=>(hi.1 x hx).2.2 hP)
    obtain ⟨i,hi',rfl⟩:=List.getElem_of_mem hx
    have:=hr' i (by omega)
    rw [show m.getD i default=m[i] by simp [List.getD,hi']] at this
    rw [this]
    exact red_sum (hP _ (getD_mem (by omega)))
  · have:=hi.len hD
    omega
theorem key_beq {x c:Claim}:((x.debtor == c.debtor)&&((x.creditor == c.creditor)&&((x.part == c.part)&&((x.sign == c.sign)&&((x.by_ == c.by_)&&true)))))=true↔KeyEq x c:=by
  simp only [Bool.and_eq_true,beq_iff_eq,Bool.and_true]
  exact Iff.rfl
theorem set_two {l:List Claim} {i:Nat} (h:i < l.length) (y:Claim) (s:Int):(l.set i y).set i { (l.set i y).getD i default with state:=s }=l.set i { y with state:=s }:=by
  rw [List.set_set,getD_set h,if_pos rfl]
theorem nokey {l:List Claim} {c:Claim} {i:Nat} (h:∀ q,q < i→¬ KeyEq (l.getD q default) c) (hk:(((l.getD i default).debtor == c.debtor)&&(((l.getD i default).creditor == c.creditor)&&(((l.getD i default).part == c.part)&&(((l.getD i default).sign == c.sign)&&(((l.getD i default).by_ == c.by_)&&true)))))=false):∀ q,q < i+1→¬ KeyEq (l.getD q default) c:=by
  intro q hq e
  by_cases h1:q < i
  · exact h q h1 e
  · obtain rfl:q=i:=by omega
    rw [key_beq.2 e] at hk
    cases hk
theorem Merged.len {f:Claim→Claim} {l x:List Claim} {c:Claim} (h:Merged f l c x):x.length≤l.length+1:=by
  rcases h with ⟨i,hi,-,rfl⟩ | ⟨-,rfl⟩
  · rw [List.length_set]; omega
  · simp
noncomputable def pay_group_sk (l:List Claim) (c_:Claim):Sk ((List Claim)) :=
 .bind true (fun b1=>∀ q,q < l.length→¬ KeyEq (l.getD q default) c_)
 (.loop (default:Sum ((List Claim)) (Unit)) (fun i2=>i2≤l.length∧∀ q,q < i2→¬ KeyEq (l.getD q default) c_) (fun i2=>l.length - i2) (0:Nat)
 (fun (i2:Nat)=>⟨[(9,iv ((i2:Nat):Int))],[]⟩) fun i2 =>
 .bnd 0 0 l.length <|
 .br (decide (((i2:Nat):Int) < ((l.length:Nat):Int)))
 (.r 3 (.andl (.p (ixP ((i2:Nat):Int) l.length)) (.p (i2 < l.length))) fun _ =>
 .r 4 (.dep ((pay_of_k (l.getD i2 default)).c) fun _=>(pay_of_k c_).c) fun p6 =>
 .br ((p6.1.debtor == p6.2.debtor)&&((p6.1.creditor == p6.2.creditor)&&((p6.1.part == p6.2.part)&&((p6.1.sign == p6.2.sign)&&((p6.1.by_ == p6.2.by_)&&true)))))
 (.r 5 (.andl (.p (ixP ((i2:Nat):Int) l.length)) (.andl (.o [.nrm (setC Claim.E l i2 ({ l.getD i2 default with sum:=maxI ((l.getD i2 default).sum) c_.sum }))]) (.p (i2 < l.length)))) fun _ =>
 .wn 777776 l.length (l.set i2 ({ l.getD i2 default with sum:=maxI ((l.getD i2 default).sum) c_.sum })).length <|
 .r 6 (.depr ((bind_And_k c_.state ((l.getD i2 default).state)).c) fun x5=>.andl (.p (ixP ((i2:Nat):Int) ((l.set i2 ({ l.getD i2 default with sum:=maxI ((l.getD i2 default).sum) c_.sum })).length))) (.andl (.o [.nrm (setC Claim.E (l.set i2 ({ l.getD i2 default with sum:=maxI ((l.getD i2 default).sum) c_.sum })) i2 ({ (l.set i2 ({ l.getD i2 default with sum:=maxI ((l.getD i2 default).sum) c_.sum })).getD i2 default with state:=x5 }))]) (.p (i2 < (l.set i2 ({ l.getD i2 default with sum:=maxI ((l.getD i2 default).sum) c_.sum })).length)))) fun x5 =>
 .wn 777776 (l.set i2 ({ l.getD i2 default with sum:=maxI ((l.getD i2 default).sum) c_.sum })).length ((l.set i2 ({ l.getD i2 default with sum:=maxI ((l.getD i2 default).sum) c_.sum })).set i2 ({ (l.set i2 ({ l.getD i2 default with sum:=maxI ((l.getD i2 default).sum) c_.sum })).getD i2 default with state:=x5 })).length <|
 .fin (.inl (.inl ((l.set i2 ({ l.getD i2 default with sum:=maxI ((l.getD i2 default).sum) c_.sum })).set i2 ({ (l.set i2 ({ l.getD i2 default with sum:=maxI ((l.getD i2 default).sum) c_.sum })).getD i2 default with state:=x5 })))))
 (.r 8 .z fun _ =>
 .wi 9 (w64 (((i2:Nat):Int)+1)) ((i2+1:Nat):Int) <|
 .fin (.inr (i2+1))))
 (.fin (.inl (.inr ()))))
 (fun (_:Unit)=>⟨[],[]⟩) fun _ =>
 .r 9 (.andl (.o [.nrm (litC Claim.E [c_])]) (.andl (.o [.nrm (catC Claim.E l [c_])]) (.andl (.t (Claim.E.ones [c_])) (.p (szP l.length [c_].length 72))))) fun _ =>
 .fin (l++[c_])
noncomputable def pay_group (l:List Claim) (c_:Claim):(List Claim):=(pay_group_sk l c_).val
theorem pay_group_pst (l:List Claim) (c_:Claim):(pay_group_sk l c_).pst (fun (x:(List Claim))=>Merged (fG c_) l c_ x):=by
  refine Sk.pst_of _ ?_
  unfold pay_group_sk
  simp only [Sk.pstq,Sk.isLoop,reduceCtorEq,ON,kk,bind_And_k,pay_of_k,pay_of_eq,forall_eq,maxLen]
  refine ⟨⟨⟨Nat.zero_le _,fun q hq=>absurd hq (by omega)⟩,fun i hi=>⟨fun hc _=>⟨fun hk _=>?_,fun hk _=>⟨⟨?_,nokey hi.2 hk⟩,by simp only [LN] at hc; omega⟩⟩,fun hc=>?_⟩⟩,fun _ hb _=>.inr ⟨hb,rfl⟩⟩
  all_goals simp only [LN] at hc
  · exact .inl ⟨i,by omega,key_beq.1 hk,set_two (by omega) _ _⟩
  · omega
  · exact fun q hq=>hi.2 q (by omega)

theorem pay_group_post (l:List Claim) (c_:Claim):(fun (x:(List Claim))=>Merged (fG c_) l c_ x) (pay_group l c_):=have h:=Sk.pval _ (pay_group_pst l c_); h
theorem pay_group_ok (l:List Claim) (c_:Claim) (hl:l.length≤1000000000000):(pay_group_sk l c_).obs (fun _=>True):=by
  refine Sk.obs_of _ ?_
  unfold pay_group_sk
  simp only [Sk.obq,Sk.isLoop,reduceCtorEq,ON,kk,bind_And_k,pay_of_k,pay_of_eq,forall_eq,maxLen]
  refine ⟨⟨⟨Nat.zero_le _,fun q hq=>absurd hq (by omega)⟩,fun i hi hm=>⟨fun hc=>?_,fun hc q hq=>hi.2 q (by simp only [LN] at hc; omega)⟩⟩,fun b hb=>?_⟩
  · simp only [LN] at hc
    refine ⟨⟨⟨by omega,by omega⟩,by omega⟩,fun _=>⟨fun hk=>?_,fun hk _=>⟨(w64_id (by omega) (by omega)).trans (by omega),⟨by omega,nokey hi.2 hk⟩,by omega⟩⟩⟩
    simp only [List.length_set]
    refine ⟨⟨⟨by omega,by omega⟩,by omega⟩,fun _=>?_⟩
    (repeat' first | exact trivial | (apply And.intro) | (intro h))
    all_goals first | rfl | trivial | omega
  · simp only [List.length_cons,List.length_nil]
    omega

theorem pay_group_fnH (l:List Claim) (c_:Claim) (hl:l.length≤1000000000000):FnA Tryz.prog 65 [ow 777776 l,av c_.cells] [(777776,rowB 48 9 Claim.cells l)] (ow 777777 (pay_group l c_)) [(777777,rowB 48 9 Claim.cells (pay_group l c_))] :=
  FnA.sk tok mixed (fun x=>ow 777777 x) (fun x=>[(777777,rowB 48 9 Claim.cells x)]) Tryz.func65 rfl (by kernel_rfl) 3000 (pay_group_sk l c_) (by kernel_rfl) (pay_group_ok l c_ hl)
noncomputable def pay_group_kh (κ κ':Nat) (l:List Claim) (c_:Claim):CtrH ((List Claim)):=⟨Tryz.prog,65,[ow κ l,av c_.cells],[(κ,rowB 48 9 Claim.cells l)],fun x=>ow κ' x,fun x=>[(κ',rowB 48 9 Claim.cells x)],pay_group l c_,(l.length≤1000000000000),fun h=>FnA.rekeyA κ rfl (FnA.rekeyR κ' (pay_group_fnH l c_ h)),fun (x:(List Claim))=>Merged (fG c_) l c_ x,pay_group_post l c_⟩
noncomputable def pay_join_sk (l:List Claim) (c_:Claim):Sk ((List Claim)) :=
 .bind true (fun b1=>∀ q,q < l.length→¬ KeyEq (l.getD q default) c_)
 (.loop (default:Sum ((List Claim)) (Unit)) (fun i2=>i2≤l.length∧∀ q,q < i2→¬ KeyEq (l.getD q default) c_) (fun i2=>l.length - i2) (0:Nat)
 (fun (i2:Nat)=>⟨[(9,iv ((i2:Nat):Int))],[]⟩) fun i2 =>
 .bnd 0 0 l.length <|
 .br (decide (((i2:Nat):Int) < ((l.length:Nat):Int)))
 (.r 3 (.andl (.p (ixP ((i2:Nat):Int) l.length)) (.p (i2 < l.length))) fun _ =>
 .r 4 (.dep ((pay_of_k (l.getD i2 default)).c) fun _=>(pay_of_k c_).c) fun p6 =>
 .br ((p6.1.debtor == p6.2.debtor)&&((p6.1.creditor == p6.2.creditor)&&((p6.1.part == p6.2.part)&&((p6.1.sign == p6.2.sign)&&((p6.1.by_ == p6.2.by_)&&true)))))
 (.r 5 (.andl (.p (ixP ((i2:Nat):Int) l.length)) (.andl (.o [.nrm (setC Claim.E l i2 ({ l.getD i2 default with sum:=minI 1099511627776 (w64 (((l.getD i2 default).sum)+c_.sum)) }))]) (.p (i2 < l.length)))) fun _ =>
 .wn 777776 l.length (l.set i2 ({ l.getD i2 default with sum:=minI 1099511627776 (w64 (((l.getD i2 default).sum)+c_.sum)) })).length <|
 .r 6 (.depr ((bind_And_k ((l.getD i2 default).state) c_.state).c) fun x5=>.andl (.p (ixP ((i2:Nat):Int) ((l.set i2 ({ l.getD i2 default with sum:=minI 1099511627776 (w64 (((l.getD i2 default).sum)+c_.sum)) })).length))) (.andl (.o [.nrm (setC Claim.E (l.set i2 ({ l.getD i2 default with sum:=minI 1099511627776 (w64 (((l.getD i2 default).sum)+c_.sum)) })) i2 ({ (l.set i2 ({ l.getD i2 default with sum:=minI 1099511627776 (w64 (((l.getD i2 default).sum)+c_.sum)) })).getD i2 default with state:=x5 }))]) (.p (i2 < (l.set i2 ({ l.getD i2 default with sum:=minI 1099511627776 (w64 (((l.getD i2 default).sum)+c_.sum)) })).length)))) fun x5 =>
 .wn 777776 (l.set i2 ({ l.getD i2 default with sum:=minI 1099511627776 (w64 (((l.getD i2 default).sum)+c_.sum)) })).length ((l.set i2 ({ l.getD i2 default with sum:=minI 1099511627776 (w64 (((l.getD i2 default).sum)+c_.sum)) })).set i2 ({ (l.set i2 ({ l.getD i2 default with sum:=minI 1099511627776 (w64 (((l.getD i2 default).sum)+c_.sum)) })).getD i2 default with state:=x5 })).length <|
 .fin (.inl (.inl ((l.set i2 ({ l.getD i2 default with sum:=minI 1099511627776 (w64 (((l.getD i2 default).sum)+c_.sum)) })).set i2 ({ (l.set i2 ({ l.getD i2 default with sum:=minI 1099511627776 (w64 (((l.getD i2 default).sum)+c_.sum)) })).getD i2 default with state:=x5 })))))
 (.r 8 .z fun _ =>
 .wi 9 (w64 (((i2:Nat):Int)+1)) ((i2+1:Nat):Int) <|
 .fin (.inr (i2+1))))
 (.fin (.inl (.inr ()))))
 (fun (_:Unit)=>⟨[],[]⟩) fun _ =>
 .r 9 (.andl (.o [.nrm (litC Claim.E [c_])]) (.andl (.o [.nrm (catC Claim.E l [c_])]) (.andl (.t (Claim.E.ones [c_])) (.p (szP l.length [c_].length 72))))) fun _ =>
 .fin (l++[c_])
noncomputable def pay_join (l:List Claim) (c_:Claim):(List Claim):=(pay_join_sk l c_).val
theorem pay_join_pst (l:List Claim) (c_:Claim):(pay_join_sk l c_).pst (fun (x:(List Claim))=>Merged (fJ c_) l c_ x):=by
  refine Sk.pst_of _ ?_
  unfold pay_join_sk
  simp only [Sk.pstq,Sk.isLoop,reduceCtorEq,ON,kk,bind_And_k,pay_of_k,pay_of_eq,forall_eq,maxLen]
  refine ⟨⟨⟨Nat.zero_le _,fun q hq=>absurd hq (by omega)⟩,fun i hi=>⟨fun hc _=>⟨fun hk _=>?_,fun hk _=>⟨⟨?_,nokey hi.2 hk⟩,by simp only [LN] at hc; omega⟩⟩,fun hc=>?_⟩⟩,fun _ hb _=>.inr ⟨hb,rfl⟩⟩
  all_goals simp only [LN] at hc
  · exact .inl ⟨i,by omega,key_beq.1 hk,set_two (by omega) _ _⟩
  · omega
  · exact fun q hq=>hi.2 q (by omega)

theorem pay_join_post (l:List Claim) (c_:Claim):(fun (x:(List Claim))=>Merged (fJ c_) l c_ x) (pay_join l c_):=have h:=Sk.pval _ (pay_join_pst l c_); h
theorem pay_join_ok (l:List Claim) (c_:Claim) (hl:l.length≤1000000000000):(pay_join_sk l c_).obs (fun _=>True):=by
  refine Sk.obs_of _ ?_
  unfold pay_join_sk
  simp only [Sk.obq,Sk.isLoop,reduceCtorEq,ON,kk,bind_And_k,pay_of_k,pay_of_eq,forall_eq,maxLen]
  refine ⟨⟨⟨Nat.zero_le _,fun q hq=>absurd hq (by omega)⟩,fun i hi hm=>⟨fun hc=>?_,fun hc q hq=>hi.2 q (by simp only [LN] at hc; omega)⟩⟩,fun b hb=>?_⟩
  · simp only [LN] at hc
    refine ⟨⟨⟨by omega,by omega⟩,by omega⟩,fun _=>⟨fun hk=>?_,fun hk _=>⟨(w64_id (by omega) (by omega)).trans (by omega),⟨by omega,nokey hi.2 hk⟩,by omega⟩⟩⟩
    simp only [List.length_set]
    refine ⟨⟨⟨by omega,by omega⟩,by omega⟩,fun _=>?_⟩
    (repeat' first | exact trivial | (apply And.intro) | (intro h))
    all_goals first | rfl | trivial | omega
  · simp only [List.length_cons,List.length_nil]
    omega

theorem pay_join_fnH (l:List Claim) (c_:Claim) (hl:l.length≤1000000000000):FnA Tryz.prog 66 [ow 777776 l,av c_.cells] [(777776,rowB 48 9 Claim.cells l)] (ow 777777 (pay_join l c_)) [(777777,rowB 48 9 Claim.cells (pay_join l c_))] :=
  FnA.sk tok mixed (fun x=>ow 777777 x) (fun x=>[(777777,rowB 48 9 Claim.cells x)]) Tryz.func66 rfl (by kernel_rfl) 3000 (pay_join_sk l c_) (by kernel_rfl) (pay_join_ok l c_ hl)
noncomputable def pay_join_kh (κ κ':Nat) (l:List Claim) (c_:Claim):CtrH ((List Claim)):=⟨Tryz.prog,66,[ow κ l,av c_.cells],[(κ,rowB 48 9 Claim.cells l)],fun x=>ow κ' x,fun x=>[(κ',rowB 48 9 Claim.cells x)],pay_join l c_,(l.length≤1000000000000),fun h=>FnA.rekeyA κ rfl (FnA.rekeyR κ' (pay_join_fnH l c_ h)),fun (x:(List Claim))=>Merged (fJ c_) l c_ x,pay_join_post l c_⟩
noncomputable def pay_Apply_sk (l:List Claim) (a:ActX) (kind:Int) (stranger:Bool):Sk ((List Claim) × (List Step)) :=
 .r 2 ((slices_Clone_2_ko 21 l).c) fun x1 =>
 .bind true (fun b2=>Inv0 l a stranger l.length b2.1 b2.2.2∧b2.2.1.length≤l.length∧b2.2.2.length≤l.length)
 (.loop (default:Sum ((List Claim) × (List Step)) ((List Claim) × (List Step) × (List Claim))) (fun i3=>i3.2.2.2≤l.length∧Inv0 l a stranger i3.2.2.2 i3.1 i3.2.2.1∧i3.2.1.length≤i3.2.2.2∧i3.2.2.1.length≤i3.2.2.2) (fun i3=>l.length - i3.2.2.2) ((x1,[],[],0):(List Claim) × (List Step) × (List Claim) × Nat)
 (fun (i3:(List Claim) × (List Step) × (List Claim) × Nat)=>⟨[(8,ow 100006 i3.1),(9,ow 100007 i3.2.1),(11,ow 100008 i3.2.2.1),(24,iv ((i3.2.2.2:Nat):Int))],[(100006,rowB 48 9 Claim.cells i3.1),(100007,rowB 87 4 Step.cells i3.2.1),(100008,rowB 48 9 Claim.cells i3.2.2.1)]⟩) fun i3 =>
 .bnd 22 0 l.length <|
 .br (decide (((i3.2.2.2:Nat):Int) < ((l.length:Nat):Int)))
 (.r 6 (.p (ixP ((i3.2.2.2:Nat):Int) l.length)) fun _ =>
 .r 7 ((pay_meets_k a stranger (l.getD i3.2.2.2 default)).c) fun x4 =>
 .br (!x4)
 (.r 14 .z fun _ =>
 .wi 24 (w64 (((i3.2.2.2:Nat):Int)+1)) ((i3.2.2.2+1:Nat):Int) <|
 .fin (.inr (i3.1,i3.2.1,i3.2.2.1,i3.2.2.2+1)))
 (.r 9 (.andl (.p (ixP ((i3.2.2.2:Nat):Int) i3.1.length)) (.andl (.o [.nrm (setC Claim.E i3.1 i3.2.2.2 ({ i3.1.getD i3.2.2.2 default with sum:=w64 ((maxI 0 ((l.getD i3.2.2.2 default).sum)) - (minI (maxI 0 a.sum) (maxI 0 ((l.getD i3.2.2.2 default).sum)))) }))]) (.p (i3.2.2.2 < i3.1.length)))) fun _ =>
 .wn 100006 i3.1.length (i3.1.set i3.2.2.2 ({ i3.1.getD i3.2.2.2 default with sum:=w64 ((maxI 0 ((l.getD i3.2.2.2 default).sum)) - (minI (maxI 0 a.sum) (maxI 0 ((l.getD i3.2.2.2 default).sum)))) })).length <|
 .r 10 (.andl (.o [.nrm (litC Step.E [({ debtor:=(l.getD i3.2.2.2 default).debtor,creditor:=(l.getD i3.2.2.2 default).creditor,sign:=(l.getD i3.2.2.2 default).sign,sum:=minI (maxI 0 a.sum) (maxI 0 ((l.getD i3.2.2.2 default).sum)) }:Step)])]) (.andl (.o [.nrm (catC Step.E i3.2.1 [({ debtor:=(l.getD i3.2.2.2 default).debtor,creditor:=(l.getD i3.2.2.2 default).creditor,sign:=(l.getD i3.2.2.2 default).sign,sum:=minI (maxI 0 a.sum) (maxI 0 ((l.getD i3.2.2.2 default).sum)) }:Step)])]) (.andl (.t (Step.E.ones [({ debtor:=(l.getD i3.2.2.2 default).debtor,creditor:=(l.getD i3.2.2.2 default).creditor,sign:=(l.getD i3.2.2.2 default).sign,sum:=minI (maxI 0 a.sum) (maxI 0 ((l.getD i3.2.2.2 default).sum)) }:Step)])) (.p (szP i3.2.1.length [({ debtor:=(l.getD i3.2.2.2 default).debtor,creditor:=(l.getD i3.2.2.2 default).creditor,sign:=(l.getD i3.2.2.2 default).sign,sum:=minI (maxI 0 a.sum) (maxI 0 ((l.getD i3.2.2.2 default).sum)) }:Step)].length 32))))) fun _ =>
 .br (((kind != 1)&&((((l.getD i3.2.2.2 default).turn) == 0)||(decide (((l.getD i3.2.2.2 default).sign) < a.at_))))&&(((l.getD i3.2.2.2 default).debtor) != a.who))
 (.r 13 ((pay_group_kh 100008 90 i3.2.2.1 ({ l.getD i3.2.2.2 default with creditor:=a.who,by_:=a.at_,sum:=minI (maxI 0 a.sum) (maxI 0 ((l.getD i3.2.2.2 default).sum)) })).c) fun x5 =>
 .r 14 .z fun _ =>
 .wi 24 (w64 (((i3.2.2.2:Nat):Int)+1)) ((i3.2.2.2+1:Nat):Int) <|
 .fin (.inr (i3.1.set i3.2.2.2 ({ i3.1.getD i3.2.2.2 default with sum:=w64 ((maxI 0 ((l.getD i3.2.2.2 default).sum)) - (minI (maxI 0 a.sum) (maxI 0 ((l.getD i3.2.2.2 default).sum)))) }),i3.2.1++[({ debtor:=(l.getD i3.2.2.2 default).debtor,creditor:=(l.getD i3.2.2.2 default).creditor,sign:=(l.getD i3.2.2.2 default).sign,sum:=minI (maxI 0 a.sum) (maxI 0 ((l.getD i3.2.2.2 default).sum)) }:Step)],x5,i3.2.2.2+1)))
 (.r 14 .z fun _ =>
 .wi 24 (w64 (((i3.2.2.2:Nat):Int)+1)) ((i3.2.2.2+1:Nat):Int) <|
 .fin (.inr (i3.1.set i3.2.2.2 ({ i3.1.getD i3.2.2.2 default with sum:=w64 ((maxI 0 ((l.getD i3.2.2.2 default).sum)) - (minI (maxI 0 a.sum) (maxI 0 ((l.getD i3.2.2.2 default).sum)))) }),i3.2.1++[({ debtor:=(l.getD i3.2.2.2 default).debtor,creditor:=(l.getD i3.2.2.2 default).creditor,sign:=(l.getD i3.2.2.2 default).sign,sum:=minI (maxI 0 a.sum) (maxI 0 ((l.getD i3.2.2.2 default).sum)) }:Step)],i3.2.2.1,i3.2.2.2+1)))))
 (.fin (.inl (.inr (i3.1,i3.2.1,i3.2.2.1)))))
 (fun (b2:(List Claim) × (List Step) × (List Claim))=>⟨[(8,ow 100003 b2.1),(9,ow 100004 b2.2.1),(11,ow 100005 b2.2.2)],[(100003,rowB 48 9 Claim.cells b2.1),(100004,rowB 87 4 Step.cells b2.2.1),(100005,rowB 48 9 Claim.cells b2.2.2)]⟩) fun b2 =>
 .bind true (fun b6=>Inv1 a b2.1 b2.2.2 b2.2.2.length b6)
 (.loop (default:Sum ((List Claim) × (List Step)) ((List Claim))) (fun i7=>i7.2≤b2.2.2.length∧Inv1 a b2.1 b2.2.2 i7.2 i7.1) (fun i7=>b2.2.2.length - i7.2) ((b2.1,0):(List Claim) × Nat)
 (fun (i7:(List Claim) × Nat)=>⟨[(8,ow 100011 i7.1),(94,iv ((i7.2:Nat):Int))],[(100011,rowB 48 9 Claim.cells i7.1)]⟩) fun i7 =>
 .bnd 92 0 b2.2.2.length <|
 .br (decide (((i7.2:Nat):Int) < ((b2.2.2.length:Nat):Int)))
 (.r 17 (.andl (.p (ixP ((i7.2:Nat):Int) b2.2.2.length)) (.p (i7.2 < b2.2.2.length))) fun _ =>
 .r 18 ((pay_join_kh 100011 100 i7.1 (b2.2.2.getD i7.2 default)).c) fun x8 =>
 .r 19 .z fun _ =>
 .wi 94 (w64 (((i7.2:Nat):Int)+1)) ((i7.2+1:Nat):Int) <|
 .fin (.inr (x8,i7.2+1)))
 (.fin (.inl (.inr i7.1))))
 (fun (b6:(List Claim))=>⟨[(8,ow 100010 b6)],[(100010,rowB 48 9 Claim.cells b6)]⟩) fun b6 =>
 .fz 100004 <|
 .fin (b6,b2.2.1)
noncomputable def pay_Apply (l:List Claim) (a:ActX) (kind:Int) (stranger:Bool):(List Claim) × (List Step):=(pay_Apply_sk l a kind stranger).val
theorem pay_Apply_pst (l:List Claim) (a:ActX) (kind:Int) (stranger:Bool):(pay_Apply_sk l a kind stranger).pst (fun (x:(List Claim) × (List Step))=>Applied l a stranger x.1):=by
  refine Sk.pst_of _ ?_
  unfold pay_Apply_sk
  simp only [Sk.pstq,Sk.isLoop,reduceCtorEq,ON,kk,pay_group_kh,pay_join_kh,pay_meets_k,slices_Clone_2_ko,pay_group_kh,pay_join_kh,CtrH.c,pay_meets_eq,forall_eq,maxLen]
  intro hx
  refine ⟨⟨⟨Nat.zero_le _,by rw [hx.2]; exact Inv0.init l a stranger,Nat.le_refl _,Nat.le_refl _⟩,fun i hi=>⟨fun hc _=>?_,fun hc=>?_⟩⟩,fun b hb=>⟨⟨⟨Nat.zero_le _,Inv1.init a _ _⟩,fun i hi=>⟨fun hc _ hM _=>?_,fun hc=>?_⟩⟩,fun b1 hb1=>Applied.mk' hb.1 rfl hb1 (Nat.le_refl _)⟩⟩
  all_goals simp only [LN] at hc
  · have hk:i.2.2.2 < l.length:=by omega
    have hi2:=hi.2.2
    refine ⟨fun hm _=>⟨⟨by omega,hi.2.1.skip hk (by rw [pay_meets_eq]; exact (Bool.not_eq_true' _).mp hm),by omega,by omega⟩,by omega⟩,fun hm _ _=>?_⟩
    have hm':pay_meets a stranger (l.getD i.2.2.2 default)=true:=by rw [pay_meets_eq]; exact (Bool.not_eq_false' _).mp hm
    refine ⟨fun hg hM _=>⟨⟨by omega,hi.2.1.meet hk hm' (hi.2.1.2.2.group (sub_less (getD_mem hk) ?_ _ rfl) hM),?_,?_⟩,by omega⟩,fun _ _=>⟨⟨by omega,hi.2.1.meet hk hm' hi.2.1.2.2,?_,by omega⟩,by omega⟩⟩
    · simp only [LN] at hg
      exact hg.2
    · rw [List.length_append,List.length_singleton]; omega
    · exact Nat.le_trans hM.len (by omega)
    · rw [List.length_append,List.length_singleton]; omega
  · have e:i.2.2.2=l.length:=by omega
    rw [e] at hi
    exact hi.2
  · have hk:i.2 < b.2.2.length:=by omega
    have hin:=hb.1.2.2.1 _ (getD_mem hk)
    exact ⟨⟨by omega,hi.2.step (getD_mem hk) hin.1.1 hM⟩,by omega⟩
  · have e:i.2=b.2.2.length:=by omega
    rw [e] at hi
    exact hi.2

theorem pay_Apply_post (l:List Claim) (a:ActX) (kind:Int) (stranger:Bool):(fun (x:(List Claim) × (List Step))=>Applied l a stranger x.1) (pay_Apply l a kind stranger):=have h:=Sk.pval _ (pay_Apply_pst l a kind stranger); h
theorem pay_Apply_ok (l:List Claim) (a:ActX) (kind:Int) (stranger:Bool) (hl:l.length≤1000000000):(pay_Apply_sk l a kind stranger).obs (fun _=>True):=by
  refine Sk.obs_of _ ?_
  unfold pay_Apply_sk
  simp only [Sk.obq,Sk.isLoop,reduceCtorEq,ON,kk,pay_group_kh,pay_join_kh,pay_meets_k,slices_Clone_2_ko,pay_group_kh,pay_join_kh,CtrH.c,pay_meets_eq,forall_eq,maxLen]
  refine ⟨hl,fun hx=>⟨⟨⟨Nat.zero_le _,by rw [hx.2]; exact Inv0.init l a stranger,Nat.le_refl _,Nat.le_refl _⟩,fun i hi hmx=>⟨fun hc=>?_,fun hc=>?_⟩⟩,fun b hb=>⟨⟨Nat.zero_le _,Inv1.init a _ _⟩,fun i hi hmx=>⟨fun hc=>?_,fun hc=>?_⟩⟩⟩⟩
  all_goals simp only [LN] at hc
  · have hk:i.2.2.2 < l.length:=by omega
    have hi2:=hi.2.2
    have hol:=hi.2.1.1
    have hw:w64 ((i.2.2.2:Int)+1)=((i.2.2.2+1:Nat):Int):=(w64_id (by omega) (by omega)).trans (by omega)
    refine ⟨⟨by omega,by omega⟩,fun _=>⟨fun hm _=>⟨hw,⟨by omega,hi.2.1.skip hk (by rw [pay_meets_eq]; exact (Bool.not_eq_true' _).mp hm),by omega,by omega⟩,by omega⟩,fun hm=>⟨⟨⟨by omega,by omega⟩,by omega⟩,fun _=>⟨by rw [List.length_set],⟨by simp only [List.length_singleton]; omega,by simp only [List.length_singleton]; omega⟩,fun _=>?_⟩⟩⟩⟩
    have hm':pay_meets a stranger (l.getD i.2.2.2 default)=true:=by rw [pay_meets_eq]; exact (Bool.not_eq_false' _).mp hm
    refine ⟨fun hg=>⟨by omega,fun hM _=>⟨hw,⟨by omega,hi.2.1.meet hk hm' (hi.2.1.2.2.group (sub_less (getD_mem hk) ?_ _ rfl) hM),?_,?_⟩,by omega⟩⟩,fun _ _=>⟨hw,⟨by omega,hi.2.1.meet hk hm' hi.2.1.2.2,?_,by omega⟩,by omega⟩⟩
    · simp only [LN] at hg
      exact hg.2
    · rw [List.length_append,List.length_singleton]; omega
    · exact Nat.le_trans hM.len (by omega)
    · rw [List.length_append,List.length_singleton]; omega
  · have e:i.2.2.2=l.length:=by omega
    rw [e] at hi
    exact hi.2
  · have hk:i.2 < b.2.2.length:=by omega
    have hin:=hb.1.2.2.1 _ (getD_mem hk)
    have hln:=hi.2.1
    have hol:=hb.1.1
    exact ⟨⟨⟨by omega,by omega⟩,hk⟩,fun _=>⟨by omega,fun hM _=>⟨(w64_id (by omega) (by omega)).trans (by omega),⟨by omega,hi.2.step (getD_mem hk) hin.1.1 hM⟩,by omega⟩⟩⟩
  · have e:i.2=b.2.2.length:=by omega
    rw [e] at hi
    exact hi.2

theorem pay_Apply_fnO (l:List Claim) (a:ActX) (kind:Int) (stranger:Bool) (hl:l.length≤1000000000):FnA Tryz.prog 29 [lv Claim.cells l,av a.cells,iv kind,bv stranger] [] (.tup [ow 777777 (pay_Apply l a kind stranger).1,lv Step.cells ((pay_Apply l a kind stranger).2)]) [(777777,rowB 48 9 Claim.cells (pay_Apply l a kind stranger).1)] :=
  FnA.sk tok mixed (fun x=>.tup [ow 777777 x.1,lv Step.cells x.2]) (fun x=>[(777777,rowB 48 9 Claim.cells x.1)]) Tryz.func29 rfl (by kernel_rfl) 3000 (pay_Apply_sk l a kind stranger) (by kernel_rfl) (pay_Apply_ok l a kind stranger hl)
noncomputable def pay_Apply_ko (κ:Nat) (l:List Claim) (a:ActX) (kind:Int) (stranger:Bool):CtrO ((List Claim) × (List Step)):=⟨Tryz.prog,29,[lv Claim.cells l,av a.cells,iv kind,bv stranger],fun x=>.tup [ow κ x.1,lv Step.cells x.2],fun x=>[(κ,rowB 48 9 Claim.cells x.1)],pay_Apply l a kind stranger,(l.length≤1000000000),fun h=>FnA.rekeyT κ rfl (pay_Apply_fnO l a kind stranger h),fun (x:(List Claim) × (List Step))=>Applied l a stranger x.1,pay_Apply_post l a kind stranger⟩
end Go.Proofs.YtbcnlpcaajpclaaGreatDoor

