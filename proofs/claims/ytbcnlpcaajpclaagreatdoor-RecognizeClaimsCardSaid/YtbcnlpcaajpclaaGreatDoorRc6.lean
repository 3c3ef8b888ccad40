/- Functions, as sketches. -/
import Derived.Test.YtbcnlpcaajpclaaGreatDoorRc5
namespace Go.Proofs.YtbcnlpcaajpclaaGreatDoor
open Go Go.Av
set_option linter.unusedSimpArgs false
set_option linter.unusedVariables false
set_option maxHeartbeats 1000000
set_option maxRecDepth 100000
noncomputable def tenor_settle_sk (r:Realm) (city:Int) (day:Int):Sk (Int × Int) :=
 .r 1 ((realm_OrderAt_k r city).c) fun x1 =>
 .loop (default:Int × Int) (fun i2=>(0:Int)≤i2∧i2≤100001) (fun i2=>(100001 - i2).toNat) (day:Int)
 (fun (i2:Int)=>⟨[(2,iv i2)],[]⟩) fun i2 =>
 .r 2 ((tenor_skip_k r x1 i2).c) fun x3 =>
 .r 3 (.andl (.p (ixP city r.cities.length)) ((calendar_Next_k (r.cities.getD city.toNat default) x3).c)) fun x4 =>
 .br (x4.2 != 0)
 (.fin (.inl (0,3)))
 (.br (x4.1 == x3)
 (.fin (.inl (x3,0)))
 (.fin (.inr x4.1)))
noncomputable def tenor_settle (r:Realm) (city:Int) (day:Int):Int × Int:=(tenor_settle_sk r city day).val
theorem tenor_settle_pst (r:Realm) (city:Int) (day:Int) (hP:(0≤city∧city < (r.cities.length:Int))∧(0≤day∧day≤100001)∧r.HaltOK):(tenor_settle_sk r city day).pst (fun (x:Int × Int)=>x.2=0→0≤x.1∧x.1≤100001):=by
 refine Sk.pst_of _ ?_
 unfold tenor_settle_sk
 simp only [Sk.pstq,Sk.isLoop,reduceCtorEq,ON,kk,calendar_Next_k,realm_OrderAt_k,tenor_skip_k,Realm.HaltOK,maxLen]
 obtain ⟨hc,hd,hh⟩:=hP
 intro _ _
 refine ⟨hd,fun i hi y hy hyp x hx hxp=>⟨fun _ h=>absurd h (by decide),fun he=>⟨fun hq=>?_,fun hq=>⟨?_,?_⟩⟩⟩⟩
 all_goals have h2:=hyp ⟨hh,hi⟩
 all_goals simp only [LN] at he hq
 all_goals have h3:=hxp he
 all_goals omega
theorem tenor_settle_post (r:Realm) (city:Int) (day:Int):(fun (x:Int × Int)=>((0≤city∧city < (r.cities.length:Int))∧(0≤day∧day≤100001)∧r.HaltOK)→(x.2=0→0≤x.1∧x.1≤100001)) (tenor_settle r city day):=fun hP=>Sk.pval _ (tenor_settle_pst r city day hP)
theorem tenor_settle_ok (r:Realm) (city:Int) (day:Int) (hc:0≤city∧city < (r.cities.length:Int)) (hd:0≤day∧day≤100001) (hh:r.HaltOK):(tenor_settle_sk r city day).obs (fun _=>True):=by
 simp only [Realm.HaltOK] at hh
 unfold tenor_settle_sk
 try simp only [calendar_Next_k,realm_OrderAt_k,tenor_skip_k,Realm.HaltOK]
 exact okD
noncomputable def tenor_settle_k (r:Realm) (city:Int) (day:Int):Ctr (Int × Int):=kk tok mixed Tryz.func206 [av r.cells,iv city,iv day] (fun x=>.tup [iv x.1,iv x.2]) true (tenor_settle_sk r city day) (tenor_settle r city day) (fun (h:(0≤city∧city < (r.cities.length:Int))∧(0≤day∧day≤100001)∧(r.HaltOK))=>tenor_settle_ok r city day h.1 h.2.1 h.2.2) (fun (x:Int × Int)=>((0≤city∧city < (r.cities.length:Int))∧(0≤day∧day≤100001)∧r.HaltOK)→(x.2=0→0≤x.1∧x.1≤100001)) (tenor_settle_post r city day)
noncomputable def tenor_Due_sk (r:Realm) (b:Bill) (seen:Int) (grace:Int):Sk (Int × Int) :=
 .r 2 (.dep ((realm_Check_k r).c) fun x1=>.dep (.wh (x1 != 0) false ((tenor_isCity_k r b.city).c)) fun x2=>.dep (.wh ((x1 != 0)||(!x2)) false ((tenor_isCity_k r b.pay).c)) fun x3=>.wh (((x1 != 0)||(!x2))||(!x3)) false ((tenor_isDay_k b.day).c)) fun p10 =>
 .br ((((p10.1 != 0)||(!p10.2.1))||(!p10.2.2.1))||(!p10.2.2.2))
 (.fin (0,1))
 (.br ((((decide (b.tenor.kind < 0))||(decide (b.tenor.kind≥5)))||(decide (b.tenor.unit < 0)))||(decide (b.tenor.unit≥2)))
 (.fin (0,1))
 (.r 6 (.wh (seen != (-1)) true ((tenor_isDay_k seen).c)) fun x5 =>
 .br ((((seen != (-1))&&(!x5))||(decide (grace < 0)))||(decide (grace > 20000)))
 (.fin (0,1))
 (.r 8 ((tenor_Sights_k b.tenor).c) fun x6 =>
 .br (x6&&(seen == (-1)))
 (.fin (0,4))
 (.r 10 ((tenor_base_k r b seen).c) fun x7 =>
 .br (x7.2 != 0)
 (.fin (0,x7.2))
 (.r 13 ((tenor_isDay_k x7.1).c) fun x8 =>
 .br ((!x8)||(decide ((w64 (x7.1+grace)) > 100000)))
 (.fin (0,3))
 (.r 15 ((tenor_settle_k r b.pay (w64 (x7.1+grace))).c) fun x9 =>
 .fin (x9.1,x9.2)))))))
noncomputable def tenor_Due (r:Realm) (b:Bill) (seen:Int) (grace:Int):Int × Int:=(tenor_Due_sk r b seen grace).val
theorem tenor_Due_pst (r:Realm) (b:Bill) (seen:Int) (grace:Int):(tenor_Due_sk r b seen grace).pst (fun (x:Int × Int)=>x.2=0→0≤x.1∧x.1≤100001):=by
 refine Sk.pst_of _ ?_
 unfold tenor_Due_sk
 simp only [Sk.pstq,Sk.isLoop,reduceCtorEq,ON,kk,realm_Check_k,tenor_Sights_k,tenor_base_k,tenor_isCity_k,tenor_isDay_k,tenor_settle_k,tenor_Sights_eq,tenor_isCity_eq,tenor_isDay_eq,forall_eq,File.Small,Realm.Small,Realm.HaltOK,maxLen]
 intro hr
 refine ⟨fun _ h=>absurd h (by decide),fun h1=>⟨fun _ h=>absurd h (by decide),fun _=>⟨fun _ h=>absurd h (by decide),fun h3=>⟨fun _ h=>absurd h (by decide),fun _=>⟨fun h h'=>by rw [h'] at h; exact absurd h (by decide),fun h4=>⟨fun _ h=>absurd h (by decide),fun h5 himp=>?_⟩⟩⟩⟩⟩⟩
 simp only [LN] at h1 h5
 have e:∀ x g:Int,0≤x∧x≤100000→0≤g∧g≤20000→0≤w64 (x+g):=fun x g h1 h2=>by rw [w64_id (by omega) (by omega)]; omega
 have h6:0≤grace∧grace≤20000:=by simp only [LN] at h3; omega
 refine himp ⟨by omega,⟨e _ _ h5.1 h6,by omega⟩,hr h1.1.1.1⟩
theorem tenor_Due_post (r:Realm) (b:Bill) (seen:Int) (grace:Int):(fun (x:Int × Int)=>x.2=0→0≤x.1∧x.1≤100001) (tenor_Due r b seen grace):=have h:=Sk.pval _ (tenor_Due_pst r b seen grace); h
theorem tenor_Due_ok (r:Realm) (b:Bill) (seen:Int) (grace:Int) (h_r_Small:r.Small):(tenor_Due_sk r b seen grace).obs (fun _=>True):=by
 simp only [File.Small,Realm.Small,Realm.HaltOK] at h_r_Small
 unfold tenor_Due_sk
 try simp only [realm_Check_k,tenor_Sights_k,tenor_base_k,tenor_isCity_k,tenor_isDay_k,tenor_settle_k,tenor_Sights_eq,tenor_isCity_eq,tenor_isDay_eq,File.Small,Realm.Small,Realm.HaltOK]
 exact okG
noncomputable def tenor_Due_k (r:Realm) (b:Bill) (seen:Int) (grace:Int):Ctr (Int × Int):=kk tok mixed Tryz.func148 [av r.cells,av b.cells,iv seen,iv grace] (fun x=>.tup [iv x.1,iv x.2]) true (tenor_Due_sk r b seen grace) (tenor_Due r b seen grace) (fun (h:(r.Small))=>tenor_Due_ok r b seen grace h) (fun (x:Int × Int)=>x.2=0→0≤x.1∧x.1≤100001) (tenor_Due_post r b seen grace)
noncomputable def ask_Maturity_sk (r:Realm) (forum:Int) (f:File) (day:Int):Sk (Int) :=
 .r 1 ((record_At_k f day).c) fun x1 =>
 .br (((x1.signs.length:Nat):Int) == 0)
 (.fin (-1))
 (.r 4 (.dep ((ask_Bill_k r forum 6 x1 day).c) fun x2=>(ask_Number_k x2).c) fun p7 =>
 .r 5 (.dep ((record_Seen_k x1).c) fun x4=>(tenor_Due_k r x1.bill x4 (maxI p7.2 0)).c) fun p6 =>
 .br (p6.2.2 != 0)
 (.fin (-1))
 (.fin p6.2.1))
noncomputable def ask_Maturity (r:Realm) (forum:Int) (f:File) (day:Int):Int:=(ask_Maturity_sk r forum f day).val
theorem ask_Maturity_ok (r:Realm) (forum:Int) (f:File) (day:Int) (h_f_Small:f.Small) (h_r_ByOK:r.ByOK) (h_r_Small:r.Small):(ask_Maturity_sk r forum f day).obs (fun _=>True):=by
 simp only [File.Small,Realm.Small,Realm.ByOK] at h_f_Small
 simp only [File.Small,Realm.Small,Realm.ByOK] at h_r_ByOK
 simp only [File.Small,Realm.Small,Realm.ByOK] at h_r_Small
 unfold ask_Maturity_sk
 try simp only [ask_Bill_k,ask_Number_k,record_At_k,record_Seen_k,tenor_Due_k,File.Small,Realm.Small,Realm.ByOK]
 exact okD
noncomputable def ask_Maturity_k (r:Realm) (forum:Int) (f:File) (day:Int):Ctr (Int):=kk tok mixed Tryz.func81 [av r.cells,iv forum,av f.cells,iv day] (fun x=>iv x) true (ask_Maturity_sk r forum f day) (ask_Maturity r forum f day) (fun (h:(f.Small)∧(r.ByOK)∧(r.Small))=>ask_Maturity_ok r forum f day h.1 h.2.1 h.2.2)
noncomputable def ask_Tri_sk (s:Said):Sk (Int) :=
 .br (s.err != 0)
 (.fin 0)
 (.br (!s.cell.known)
 (.fin 2)
 (.br (s.cell.n != 0)
 (.fin 1)
 (.fin 0)))
noncomputable def ask_Tri (s:Said):Int:=(ask_Tri_sk s).val
theorem ask_Tri_ok (s:Said):(ask_Tri_sk s).obs (fun _=>True):=by
 unfold ask_Tri_sk
 exact okE
noncomputable def ask_Tri_k (s:Said):Ctr (Int):=kk tok mixed Tryz.func98 [av s.cells] (fun x=>iv x) true (ask_Tri_sk s) (ask_Tri s) (fun (_:True)=>ask_Tri_ok s)
noncomputable def recognize_Recognized_sk (r:Realm) (forum:Int) (f:File) (j:Judgment) (day:Int):Sk (Int) :=
 .r 1 (.dep ((recognize_Check_k r f j).c) fun x1=>.wh (x1 != 0) false ((recognize_within_k forum ((r.orders.length:Nat):Int)).c)) fun p7 =>
 .br ((((p7.1 != 0)||(!p7.2))||(decide (day < j.day)))||(decide (day > 100000)))
 (.fin 0)
 (.br (forum == j.court)
 (.fin 1)
 (.r 5 ((ask_Maturity_k r forum f day).c) fun x3 =>
 .r 6 (.dep ((ask_Ask_k r forum 19 ({ file:=f,sign:=j.sign,holder:=j.sign,defence:=(-1),due:=x3,day:=day }:CaseX)).c) fun x4=>(ask_Tri_k x4).c) fun p6 =>
 .fin p6.2))
noncomputable def recognize_Recognized (r:Realm) (forum:Int) (f:File) (j:Judgment) (day:Int):Int:=(recognize_Recognized_sk r forum f j day).val
theorem recognize_Recognized_ok (r:Realm) (forum:Int) (f:File) (j:Judgment) (day:Int) (h_f_Small:f.Small) (h_r_ByOK:r.ByOK) (h_r_Small:r.Small):(recognize_Recognized_sk r forum f j day).obs (fun _=>True):=by
 simp only [File.Small,Realm.Small,Realm.ByOK] at h_f_Small
 simp only [File.Small,Realm.Small,Realm.ByOK] at h_r_ByOK
 simp only [File.Small,Realm.Small,Realm.ByOK] at h_r_Small
 unfold recognize_Recognized_sk
 try simp only [ask_Ask_k,ask_Maturity_k,ask_Tri_k,recognize_Check_k,recognize_within_k,recognize_within_eq,File.Small,Realm.Small,Realm.ByOK]
 exact okG
noncomputable def recognize_Recognized_k (r:Realm) (forum:Int) (f:File) (j:Judgment) (day:Int):Ctr (Int):=kk tok mixed Tryz.func49 [av r.cells,iv forum,av f.cells,av j.cells,iv day] (fun x=>iv x) true (recognize_Recognized_sk r forum f j day) (recognize_Recognized r forum f j day) (fun (h:(f.Small)∧(r.ByOK)∧(r.Small))=>recognize_Recognized_ok r forum f j day h.1 h.2.1 h.2.2)
noncomputable def recognize_Rest_sk (r:Realm) (forum:Int) (f:File) (j:Judgment) (l:List Receipt) (day:Int):Sk (Int × Int) :=
 .r 1 ((recognize_Received_k r f j l day).c) fun x1 =>
 .br (x1.2 != 0)
 (.fin (0,x1.2))
 (.r 4 ((recognize_within_k forum ((r.orders.length:Nat):Int)).c) fun x2 =>
 .br ((!x2)||(decide (day < j.day)))
 (.fin (0,1))
 (.r 6 ((recognize_Recognized_k r forum f j day).c) fun x3 =>
 .br (x3 == 0)
 (.fin (0,4))
 (.br (x3 == 2)
 (.fin (0,17))
 (.r 11 ((money_Convert_k r.rates j.sum j.currency f.bill.currency j.day).c) fun x4 =>
 .br (x4.2 != 0)
 (.fin (0,x4.2))
 (.fin (maxI (w64 (x4.1 - x1.1)) 0,0))))))
noncomputable def recognize_Rest (r:Realm) (forum:Int) (f:File) (j:Judgment) (l:List Receipt) (day:Int):Int × Int:=(recognize_Rest_sk r forum f j l day).val
theorem recognize_Rest_ok (r:Realm) (forum:Int) (f:File) (j:Judgment) (l:List Receipt) (day:Int) (h_f_Small:f.Small) (h_r_ByOK:r.ByOK) (h_r_Small:r.Small):(recognize_Rest_sk r forum f j l day).obs (fun _=>True):=by
 simp only [File.Small,Realm.Small,Realm.ByOK] at h_f_Small
 simp only [File.Small,Realm.Small,Realm.ByOK] at h_r_ByOK
 simp only [File.Small,Realm.Small,Realm.ByOK] at h_r_Small
 unfold recognize_Rest_sk
 try simp only [money_Convert_k,recognize_Received_k,recognize_Recognized_k,recognize_within_k,recognize_within_eq,File.Small,Realm.Small,Realm.ByOK]
 exact okG
noncomputable def recognize_Rest_k (r:Realm) (forum:Int) (f:File) (j:Judgment) (l:List Receipt) (day:Int):Ctr (Int × Int):=kk tok mixed Tryz.func22 [av r.cells,iv forum,av f.cells,av j.cells,lv Receipt.cells l,iv day] (fun x=>.tup [iv x.1,iv x.2]) true (recognize_Rest_sk r forum f j l day) (recognize_Rest r forum f j l day) (fun (h:(f.Small)∧(r.ByOK)∧(r.Small))=>recognize_Rest_ok r forum f j l day h.1 h.2.1 h.2.2)
noncomputable def rStep (r:Realm) (f:File) (j:Judgment) (day:Int) (x:Receipt) (n:Int):(Int × Int) ⊕ Int :=
 bif ((x.bill != j.bill)||(x.to_ != j.creditor))||decide (x.day > day) then .inr n
 else bif (money_Convert r.rates x.sum x.currency f.bill.currency x.day).2 != 0 then .inl (0,(money_Convert r.rates x.sum x.currency f.bill.currency x.day).2)
 else .inr (w64 (n+(money_Convert r.rates x.sum x.currency f.bill.currency x.day).1))
noncomputable def recv (r:Realm) (f:File) (j:Judgment) (day:Int) (l:List Receipt):Int × Int:=walk (rStep r f j day) (fun n=>(n,0)) l 0
theorem Received_eq (r:Realm) (f:File) (j:Judgment) (l:List Receipt) (day:Int):recognize_Received r f j l day =
  bif (recognize_Check r f j != 0)||!(recognize_within day 100001) then (0,1) else bif decide ((l.length:Int) > 200) then (0,6) else bif slices_ContainsFunc_110 l r then (0,1) else recv r f j day l:=by
 simp only [recognize_Received,recognize_Received_sk,Sk.val_r,Sk.val_br,Sk.val_fin,Sk.val_bind,Sk.val_loop,Cal.dep_v,Cal.wh_v,Ctr.c_v,kk,recognize_Check_k,recognize_within_k,slices_ContainsFunc_110_k]
 congr 1
 congr 1
 congr 1
 unfold recv
 refine pick_iter_walk l (fun s i=>(s,i)) (rStep r f j day) id (fun b4=>(b4,0)) (fun s i hi=>?_) (fun s=>?_) (by simp) 0
 ·simp only [Sk.val_bnd,Sk.val_br,Sk.val_r,Sk.val_wi,Sk.val_fin,Ctr.c_v,kk,money_Convert_k]
  rw [decide_eq_true (by omega),cond_true]
  unfold rStep
  cases (((l.getD i default).bill != j.bill||(l.getD i default).to_ != j.creditor)||decide ((l.getD i default).day > day)) with
  | true=>rfl
  | false=>cases ((money_Convert r.rates (l.getD i default).sum (l.getD i default).currency f.bill.currency (l.getD i default).day).2 != 0) <;> rfl
 ·simp only [Sk.val_bnd,Sk.val_br,Sk.val_r,Sk.val_wi,Sk.val_fin]
  rw [decide_eq_false (by omega),cond_false]
  rfl
theorem Rest_eq (r:Realm) (forum:Int) (f:File) (j:Judgment) (l:List Receipt) (day:Int):recognize_Rest r forum f j l day =
  bif (recognize_Received r f j l day).2 != 0 then (0,(recognize_Received r f j l day).2) else bif (!(recognize_within forum r.orders.length))||decide (day < j.day) then (0,1)
  else bif recognize_Recognized r forum f j day == 0 then (0,4) else bif recognize_Recognized r forum f j day == 2 then (0,17)
  else bif (money_Convert r.rates j.sum j.currency f.bill.currency j.day).2 != 0 then (0,(money_Convert r.rates j.sum j.currency f.bill.currency j.day).2)
  else (maxI (w64 ((money_Convert r.rates j.sum j.currency f.bill.currency j.day).1 - (recognize_Received r f j l day).1)) 0,0):=by
 simp only [recognize_Rest,recognize_Rest_sk,Sk.val_r,Sk.val_br,Sk.val_fin,Ctr.c_v,kk,recognize_Received_k,recognize_within_k,recognize_Recognized_k,money_Convert_k]
noncomputable def slices_Clone_sk (s:List Receipt):Sk ((List Receipt)) :=
 .nsp 0 s.length
 (.brt <|
 .fin [])
 (.brf <|
 .r 3 (.andl (.o [.nrm (litC Receipt.E ([]:List Receipt))]) (.andl (.o [.nrm (catC Receipt.E ([]:List Receipt) s)]) (.andl (.t (Receipt.E.src s)) (.p (szP (([]:List Receipt).length) s.length 48))))) fun _ =>
 .fin (([]:List Receipt)++s))
noncomputable def slices_Clone (s:List Receipt):(List Receipt):=(slices_Clone_sk s).val
theorem slices_Clone_pst (s:List Receipt):(slices_Clone_sk s).pst (fun (x:(List Receipt))=>x.length=s.length∧x=s):=by
 unfold slices_Clone_sk
 simp [Sk.pst,litC,catC]
theorem slices_Clone_post (s:List Receipt):(fun (x:(List Receipt))=>x.length=s.length∧x=s) (slices_Clone s):=have h:=Sk.pval _ (slices_Clone_pst s); h
theorem slices_Clone_ok (s:List Receipt) (hs:s.length≤1000000000):(slices_Clone_sk s).obs (fun _=>True):=by
 unfold slices_Clone_sk
 exact okD
theorem slices_Clone_fnO (s:List Receipt) (hs:s.length≤1000000000):FnA Tryz.prog 57 [lv Receipt.cells s] [] (ow 777777 (slices_Clone s)) [(777777,rowB 71 6 Receipt.cells (slices_Clone s))] :=
 FnA.sk tok mixed (fun x=>ow 777777 x) (fun x=>[(777777,rowB 71 6 Receipt.cells x)]) Tryz.func57 rfl (by kernel_rfl) 3000 (slices_Clone_sk s) (by kernel_rfl) (slices_Clone_ok s hs)
noncomputable def slices_Clone_ko (κ:Nat) (s:List Receipt):CtrO ((List Receipt)):=⟨Tryz.prog,57,[lv Receipt.cells s],fun x=>ow κ x,fun x=>[(κ,rowB 71 6 Receipt.cells x)],slices_Clone s,(s.length≤1000000000),fun h=>FnA.rekey κ (slices_Clone_fnO s h),fun (x:(List Receipt))=>x.length=s.length∧x=s,slices_Clone_post s⟩
noncomputable def recognize_Enforce_sk (r:Realm) (forum:Int) (f:File) (j:Judgment) (l:List Receipt) (day:Int) (sum:Int):Sk ((List Receipt) × Int) :=
 .r 1 ((recognize_within_k (w64 (sum - 1)) 1099511627776).c) fun x1 =>
 .br (!x1)
 (.fin ([],1))
 (.r 3 ((recognize_Rest_k r forum f j l day).c) fun x2 =>
 .br (x2.2 != 0)
 (.fin ([],x2.2))
 (.br (x2.1 == 0)
 (.fin ([],7))
 (.br (((l.length:Nat):Int) == 200)
 (.fin ([],6))
 (.r 11 (.depr ((slices_Clone_ko 59 l).c) fun x3=>.andl (.o [.nrm (litC Receipt.E [({ bill:=j.bill,from_:=j.debtor,to_:=j.creditor,sum:=minI sum x2.1,currency:=f.bill.currency,day:=day }:Receipt)])]) (.andl (.o [.nrm (catC Receipt.E x3 [({ bill:=j.bill,from_:=j.debtor,to_:=j.creditor,sum:=minI sum x2.1,currency:=f.bill.currency,day:=day }:Receipt)])]) (.andl (.t (Receipt.E.ones [({ bill:=j.bill,from_:=j.debtor,to_:=j.creditor,sum:=minI sum x2.1,currency:=f.bill.currency,day:=day }:Receipt)])) (.p (szP x3.length [({ bill:=j.bill,from_:=j.debtor,to_:=j.creditor,sum:=minI sum x2.1,currency:=f.bill.currency,day:=day }:Receipt)].length 48))))) fun x3 =>
 .fin (x3++[({ bill:=j.bill,from_:=j.debtor,to_:=j.creditor,sum:=minI sum x2.1,currency:=f.bill.currency,day:=day }:Receipt)],0)))))
noncomputable def recognize_Enforce (r:Realm) (forum:Int) (f:File) (j:Judgment) (l:List Receipt) (day:Int) (sum:Int):(List Receipt) × Int:=(recognize_Enforce_sk r forum f j l day sum).val
theorem recognize_Enforce_ok (r:Realm) (forum:Int) (f:File) (j:Judgment) (l:List Receipt) (day:Int) (sum:Int) (hl:l.length≤1000000) (h_f_Small:f.Small) (h_r_ByOK:r.ByOK) (h_r_Small:r.Small):(recognize_Enforce_sk r forum f j l day sum).obs (fun _=>True):=by
 simp only [File.Small,Realm.Small,Realm.ByOK] at h_f_Small
 simp only [File.Small,Realm.Small,Realm.ByOK] at h_r_ByOK
 simp only [File.Small,Realm.Small,Realm.ByOK] at h_r_Small
 unfold recognize_Enforce_sk
 try simp only [recognize_Rest_k,recognize_within_k,slices_Clone_ko,recognize_within_eq,File.Small,Realm.Small,Realm.ByOK]
 exact okG
noncomputable def recognize_Enforce_k (r:Realm) (forum:Int) (f:File) (j:Judgment) (l:List Receipt) (day:Int) (sum:Int):Ctr ((List Receipt) × Int):=kk tok mixed Tryz.func23 [av r.cells,iv forum,av f.cells,av j.cells,lv Receipt.cells l,iv day,iv sum] (fun x=>.tup [lv Receipt.cells x.1,iv x.2]) false (recognize_Enforce_sk r forum f j l day sum) (recognize_Enforce r forum f j l day sum) (fun (h:(l.length≤1000000)∧(f.Small)∧(r.ByOK)∧(r.Small))=>recognize_Enforce_ok r forum f j l day sum h.1 h.2.1 h.2.2.1 h.2.2.2)
noncomputable def L47_sane_sk:Sk (Bool) :=
 .r 1 L47_example_k.c fun x1 =>
 .r 2 L47_papers_k.c fun x2 =>
 .r 4 ((recognize_Of_k 1 0 ({ debtor:=1,creditor:=2,part:=0,sign:=1,by_:=0,turn:=0,sum:=60,currency:=1,state:=0 }:Claim) 50).c) fun x3 =>
 .r 5 (.o [.nrm (litC Receipt.E [({ bill:=0,from_:=1,to_:=2,sum:=30,currency:=0,day:=55 }:Receipt)])]) fun _ =>
 .r 6 (((recognize_Rest_k x1 1 x2 ({ court:=0,bill:=0,sign:=0,debtor:=0,creditor:=2,sum:=100,currency:=0,day:=50 }:Judgment) [] 60).nil 4 ⟨_,rfl⟩).c) fun x4 =>
 .r 7 ((recognize_Rest_k x1 1 x2 ({ court:=0,bill:=0,sign:=0,debtor:=0,creditor:=2,sum:=100,currency:=0,day:=50 }:Judgment) [({ bill:=0,from_:=1,to_:=2,sum:=30,currency:=0,day:=55 }:Receipt)] 60).c) fun x5 =>
 .r 8 (((recognize_Rest_k x1 1 x2 x3 [] 60).nil 4 ⟨_,rfl⟩).c) fun x6 =>
 .r 9 ((recognize_Rest_k x1 1 x2 x3 [({ bill:=0,from_:=1,to_:=2,sum:=30,currency:=0,day:=55 }:Receipt)] 60).c) fun x7 =>
 .r 10 (((recognize_Enforce_k x1 0 x2 ({ court:=0,bill:=0,sign:=0,debtor:=0,creditor:=2,sum:=100,currency:=0,day:=50 }:Judgment) [] 60 1000).nil 4 ⟨_,rfl⟩).c) fun x8 =>
 .r 11 (.dep (.wh ((((((x4.2 != 0)||(x5.2 != 0))||(x6.2 != 0))||(x7.2 != 0))||(x8.2 != 0))||(((x8.1.length:Nat):Int) != 1)) false ((recognize_Check_k x1 x2 ({ court:=0,bill:=0,sign:=0,debtor:=0,creditor:=2,sum:=100,currency:=0,day:=50 }:Judgment)).c)) fun x9=>.wh (((((((x4.2 != 0)||(x5.2 != 0))||(x6.2 != 0))||(x7.2 != 0))||(x8.2 != 0))||(((x8.1.length:Nat):Int) != 1))||(x9 != 0)) false ((recognize_Check_k x1 x2 ({ court:=0,bill:=0,sign:=0,debtor:=0,creditor:=0,sum:=0,currency:=0,day:=0 }:Judgment)).c)) fun p15 =>
 .br ((((((((x4.2 != 0)||(x5.2 != 0))||(x6.2 != 0))||(x7.2 != 0))||(x8.2 != 0))||(((x8.1.length:Nat):Int) != 1))||(p15.1 != 0))||(p15.2 != 1))
 (.fin false)
 (.r 13 (.wh ((((x4.1 == 100)&&(x5.1 == 70))&&(x6.1 == 120))&&(x7.1 == 90)) true (.p (ixP (0:Int) x8.1.length))) fun _ =>
 .r 14 (.dep (.wh (((((x4.1 == 100)&&(x5.1 == 70))&&(x6.1 == 120))&&(x7.1 == 90))&&((((x8.1.getD 0 default).bill) == 0)&&((((x8.1.getD 0 default).from_) == 0)&&((((x8.1.getD 0 default).to_) == 2)&&((((x8.1.getD 0 default).sum) == 100)&&((((x8.1.getD 0 default).currency) == 0)&&((((x8.1.getD 0 default).day) == 60)&&true))))))) true ((recognize_Recognized_k x1 1 x2 ({ court:=0,bill:=0,sign:=0,debtor:=0,creditor:=2,sum:=100,currency:=0,day:=50 }:Judgment) 60).c)) fun x11=>.dep (.wh ((((((x4.1 == 100)&&(x5.1 == 70))&&(x6.1 == 120))&&(x7.1 == 90))&&((((x8.1.getD 0 default).bill) == 0)&&((((x8.1.getD 0 default).from_) == 0)&&((((x8.1.getD 0 default).to_) == 2)&&((((x8.1.getD 0 default).sum) == 100)&&((((x8.1.getD 0 default).currency) == 0)&&((((x8.1.getD 0 default).day) == 60)&&true)))))))&&(x11 == 1)) true ((recognize_Recognized_k x1 0 x2 x3 60).c)) fun x12=>.wh (((((((x4.1 == 100)&&(x5.1 == 70))&&(x6.1 == 120))&&(x7.1 == 90))&&((((x8.1.getD 0 default).bill) == 0)&&((((x8.1.getD 0 default).from_) == 0)&&((((x8.1.getD 0 default).to_) == 2)&&((((x8.1.getD 0 default).sum) == 100)&&((((x8.1.getD 0 default).currency) == 0)&&((((x8.1.getD 0 default).day) == 60)&&true)))))))&&(x11 == 1))&&(x12 == 0)) true ((recognize_Recognized_k x1 0 x2 ({ court:=0,bill:=0,sign:=0,debtor:=0,creditor:=2,sum:=100,currency:=0,day:=50 }:Judgment) 49).c)) fun p14 =>
 .fin ((((((((x4.1 == 100)&&(x5.1 == 70))&&(x6.1 == 120))&&(x7.1 == 90))&&((((x8.1.getD 0 default).bill) == 0)&&((((x8.1.getD 0 default).from_) == 0)&&((((x8.1.getD 0 default).to_) == 2)&&((((x8.1.getD 0 default).sum) == 100)&&((((x8.1.getD 0 default).currency) == 0)&&((((x8.1.getD 0 default).day) == 60)&&true)))))))&&(p14.1 == 1))&&(p14.2.1 == 0))&&(p14.2.2 == 0)))
noncomputable def L47_sane:Bool:=(L47_sane_sk).val
theorem L47_sane_post:(fun (x:Bool)=>x=true) (L47_sane):=(show L47_sane=true by kernel_rfl)
theorem L47_sane_ok:(L47_sane_sk).obs (fun _=>True):=by
 unfold L47_sane_sk
 try simp only [L47_example_k,L47_papers_k,recognize_Check_k,recognize_Enforce_k,recognize_Of_k,recognize_Recognized_k,recognize_Rest_k,File.Small,Realm.Small,Realm.ByOK]
 exact okD
noncomputable def L47_sane_k:Ctr (Bool):=kk tok mixed Tryz.func17 [] (fun x=>bv x) true (L47_sane_sk) (L47_sane) (fun (_:True)=>L47_sane_ok) (fun (x:Bool)=>x=true) (L47_sane_post)
noncomputable def R09_Few_sk (r:Realm):Sk (Bool) :=
 .bind true (fun _=>True)
 (.loop (default:Sum (Bool) (Unit)) (fun i2=>i2≤r.cities.length) (fun i2=>r.cities.length - i2) (0:Nat)
 (fun (i2:Nat)=>⟨[(3,iv (i2:Int))],[]⟩) fun i2 =>
 .bnd 1 1 r.cities.length <|
 .br ((decide ((i2:Int) < ((r.cities.length:Nat):Int)))&&(decide ((i2:Int) < 50)))
 (.r 4 (.andl (.p (ixP (i2:Int) r.cities.length)) (.andl (.wh (decide (((((r.cities.getD i2 default).feasts).length:Nat):Int) > 70)) false (.p (ixP (i2:Int) r.cities.length))) (.wh ((decide (((((r.cities.getD i2 default).feasts).length:Nat):Int) > 70))||(decide (((((r.cities.getD i2 default).shut).length:Nat):Int) > 210))) false (.p (ixP (i2:Int) r.cities.length))))) fun _ =>
 .br (((decide (((((r.cities.getD i2 default).feasts).length:Nat):Int) > 70))||(decide (((((r.cities.getD i2 default).shut).length:Nat):Int) > 210)))||(decide (((((r.cities.getD i2 default).rest).length:Nat):Int) > 8)))
 (.fin (.inl (.inl false)))
 (.r 3 .z fun _ =>
 .wi 3 (w64 ((i2:Int)+1)) ((i2+1:Nat):Int) <|
 .fin (.inr (i2+1))))
 (.fin (.inl (.inr ()))))
 (fun (_:Unit)=>⟨[],[]⟩) fun _ =>
 .bind true (fun b3=>∀ k,k < r.orders.length→k < 50→(r.orders.getD k default).choices.length≤40∧(r.orders.getD k default).rules.length≤40)
 (.loop (default:Sum (Bool) (Unit)) (fun i4=>(∀ k,k < i4→(r.orders.getD k default).choices.length≤40∧(r.orders.getD k default).rules.length≤40)∧i4≤r.orders.length) (fun i4=>r.orders.length - i4) (0:Nat)
 (fun (i4:Nat)=>⟨[(4,iv (i4:Int))],[]⟩) fun i4 =>
 .bnd 1 4 r.orders.length <|
 .br ((decide ((i4:Int) < ((r.orders.length:Nat):Int)))&&(decide ((i4:Int) < 50)))
 (.r 9 (.andl (.p (ixP (i4:Int) r.orders.length)) (.wh (decide (((((r.orders.getD i4 default).choices).length:Nat):Int) > 40)) false (.p (ixP (i4:Int) r.orders.length)))) fun _ =>
 .br ((decide (((((r.orders.getD i4 default).choices).length:Nat):Int) > 40))||(decide (((((r.orders.getD i4 default).rules).length:Nat):Int) > 40)))
 (.fin (.inl (.inl false)))
 (.r 8 .z fun _ =>
 .wi 4 (w64 ((i4:Int)+1)) ((i4+1:Nat):Int) <|
 .fin (.inr (i4+1))))
 (.fin (.inl (.inr ()))))
 (fun (_:Unit)=>⟨[],[]⟩) fun _ =>
 .fin ((((((((decide (((r.currencies.length:Nat):Int) < 50))&&(decide (((r.cities.length:Nat):Int) < 50)))&&(decide (((r.groups.length:Nat):Int) < 50)))&&(decide (((r.firms.length:Nat):Int) < 210)))&&(decide (((r.orders.length:Nat):Int) < 50)))&&(decide (((r.usances.length:Nat):Int) < 110)))&&(decide (((r.rates.length:Nat):Int) < 110)))&&(decide (((r.halts.length:Nat):Int) < 50)))
noncomputable def R09_Few (r:Realm):Bool:=(R09_Few_sk r).val
theorem R09_Few_pst (r:Realm):(R09_Few_sk r).pst (fun (x:Bool)=>x=true→r.Small):=by
 unfold R09_Few_sk
 try simp only [File.Small,Realm.Small]
 exact okP
theorem R09_Few_post (r:Realm):(fun (x:Bool)=>x=true→r.Small) (R09_Few r):=have h:=Sk.pval _ (R09_Few_pst r); h
theorem R09_Few_ok (r:Realm):(R09_Few_sk r).obs (fun _=>True):=by
 unfold R09_Few_sk
 try simp only [File.Small,Realm.Small]
 exact okD
noncomputable def R09_Few_k (r:Realm):Ctr (Bool):=kk tok mixed Tryz.func67 [av r.cells] (fun x=>bv x) true (R09_Few_sk r) (R09_Few r) (fun (_:True)=>R09_Few_ok r) (fun (x:Bool)=>x=true→r.Small) (R09_Few_post r)
noncomputable def R14_Few_sk (f:File):Sk (Bool) :=
 .fin ((((decide (((f.signs.length:Nat):Int)≤50))&&(decide (((f.alters.length:Nat):Int)≤10)))&&(decide (((f.acts.length:Nat):Int)≤110)))&&(decide (((f.facts.length:Nat):Int)≤220)))
noncomputable def R14_Few (f:File):Bool:=(R14_Few_sk f).val
theorem R14_Few_eq (f:File):R14_Few f=((((decide (((f.signs.length:Nat):Int)≤50))&&(decide (((f.alters.length:Nat):Int)≤10)))&&(decide (((f.acts.length:Nat):Int)≤110)))&&(decide (((f.facts.length:Nat):Int)≤220))):=rfl
theorem R14_Few_pst (f:File):(R14_Few_sk f).pst (fun (x:Bool)=>x=true→f.Small):=by
 unfold R14_Few_sk
 try simp only [File.Small,Realm.Small]
 exact okP
theorem R14_Few_post (f:File):(fun (x:Bool)=>x=true→f.Small) (R14_Few f):=have h:=Sk.pval _ (R14_Few_pst f); h
theorem R14_Few_ok (f:File):(R14_Few_sk f).obs (fun _=>True):=by
 unfold R14_Few_sk
 try simp only [File.Small,Realm.Small]
 exact okE
noncomputable def R14_Few_k (f:File):Ctr (Bool):=kk tok mixed Tryz.func68 [av f.cells] (fun x=>bv x) true (R14_Few_sk f) (R14_Few f) (fun (_:True)=>R14_Few_ok f) (fun (x:Bool)=>x=true→f.Small) (R14_Few_post f)
noncomputable def R15_size_kr (rv:Term→Int→Int→Int) (rp:Term→Int→Int→Prop) (rf:∀ (t:Term) (n:Int) (levels:Int),rp t n levels→FnA Tryz.prog 194 [av t.cells,iv n,iv levels] [] (iv (rv t n levels)) []) (t:Term) (n:Int) (levels:Int):Ctr (Int):=⟨Tryz.prog,194,[av t.cells,iv n,iv levels],fun x=>iv x,true,rv t n levels,rp t n levels,rf t n levels,fun _=>True,trivial⟩
noncomputable def R15_size_sk (rv:Term→Int→Int→Int) (rp:Term→Int→Int→Prop) (rf:∀ (t:Term) (n:Int) (levels:Int),rp t n levels→FnA Tryz.prog 194 [av t.cells,iv n,iv levels] [] (iv (rv t n levels)) []) (t:Term) (n:Int) (levels:Int):Sk (Int) :=
 .br (decide (levels < 1))
 (.fin (-1))
 (.bind true (fun _=>True)
 (.loop (default:Sum (Int) (Int)) (fun i2=>i2.2≤t.args.length) (fun i2=>t.args.length - i2.2) ((w64 (n - 1),0):Int × Nat)
 (fun (i2:Int × Nat)=>⟨[(1,iv i2.1),(7,iv (i2.2:Int))],[]⟩) fun i2 =>
 .bnd 3 2 t.args.length <|
 .br ((decide ((i2.2:Int) < ((t.args.length:Nat):Int)))&&(decide (i2.1≥0)))
 (.r 7 (.andl (.andl (.p (ixP (i2.2:Int) t.args.length)) (.o [.cast 26 (refC (Term.unroll (t.args.getD i2.2 default)))])) ((R15_size_kr rv rp rf (t.args.getD i2.2 default) i2.1 (w64 (levels - 1))).c)) fun x3 =>
 .r 6 .z fun _ =>
 .wi 7 (w64 ((i2.2:Int)+1)) ((i2.2+1:Nat):Int) <|
 .fin (.inr (x3,i2.2+1)))
 (.fin (.inl (.inr i2.1))))
 (fun (b1:Int)=>⟨[(1,iv b1)],[]⟩) fun b1 =>
 .fin b1)
noncomputable def R15_size_n:Nat→Term→Int→Int→Int
 | 0,_,_,_=>default
 | fu+1,t,n,levels=>(R15_size_sk (R15_size_n fu) (fun _ _ _=>False) (fun _ _ _=>fun h=>h.elim) t n levels).val
theorem R15_size_ok (fu:Nat) (rf:∀ (t:Term) (n:Int) (levels:Int),t.depth≤fu∧True→FnA Tryz.prog 194 [av t.cells,iv n,iv levels] [] (iv (R15_size_n fu t n levels)) []) (t:Term) (n:Int) (levels:Int) (hm:t.depth≤fu+1):(R15_size_sk (R15_size_n fu) (fun t n levels=>t.depth≤fu∧True) rf t n levels).obs (fun _=>True):=by
 refine Sk.obs_of _ ?_
 unfold R15_size_sk
 simp only [Sk.obq,Sk.isLoop,reduceCtorEq,ON,kk,R15_size_kr,maxLen]
 all_goals (repeat' first | assumption | (apply And.intro) | (intro h))
 all_goals first | trivial | assumption | omega | (refine Nat.le_of_lt_succ (Nat.lt_of_lt_of_le (Term.depth_args t _ (by (try simp only [LN] at *); omega)) hm)) | ((try simp only [LN] at *) <;> first | omega | (refine (w64_id ?_ ?_).trans ?_ <;> omega) | (simp (disch:=omega) only [w64_id] at *; omega) | (grind) | (simp_all; done) | (simp_all; omega))
theorem R15_size_val (fu:Nat) (rp:Term→Int→Int→Prop) (rf:∀ (t:Term) (n:Int) (levels:Int),rp t n levels→FnA Tryz.prog 194 [av t.cells,iv n,iv levels] [] (iv (R15_size_n fu t n levels)) []) (t:Term) (n:Int) (levels:Int):(R15_size_sk (R15_size_n fu) rp rf t n levels).val=R15_size_n (fu+1) t n levels:=by kernel_rfl
theorem R15_size_fnN (fu:Nat):∀ (t:Term) (n:Int) (levels:Int),t.depth≤fu→FnA Tryz.prog 194 [av t.cells,iv n,iv levels] [] (iv (R15_size_n fu t n levels)) []:=by
 induction fu with
 | zero=>intro t n levels hm; exact absurd hm (by have:=Term.depth_pos t; omega)
 | succ fu ih =>
  intro t n levels hm
  have h:FnA Tryz.prog 194 [av t.cells,iv n,iv levels] [] (iv ((R15_size_sk (R15_size_n fu) (fun t n levels=>t.depth≤fu∧True) (fun t n levels h=>ih t n levels h.1) t n levels).val)) []:=FnA.sk tok mixed (fun x=>iv x) (fun _=>[]) Tryz.func194 rfl (by kernel_rfl) 3000 (R15_size_sk (R15_size_n fu) (fun t n levels=>t.depth≤fu∧True) (fun t n levels h=>ih t n levels h.1) t n levels) (by kernel_rfl) (R15_size_ok fu _ t n levels hm)
  rw [R15_size_val] at h
  exact h
noncomputable def R15_size (t:Term) (n:Int) (levels:Int):Int:=R15_size_n (t.depth) t n levels
theorem R15_size_fn (t:Term) (n:Int) (levels:Int):FnA Tryz.prog 194 [av t.cells,iv n,iv levels] [] (iv (R15_size t n levels)) []:=R15_size_fnN _ t n levels (Nat.le_refl _)
noncomputable def R15_size_k (t:Term) (n:Int) (levels:Int):Ctr (Int):=⟨Tryz.prog,194,[av t.cells,iv n,iv levels],fun x=>iv x,true,R15_size t n levels,True,fun _=>R15_size_fn t n levels,fun _=>True,trivial⟩
noncomputable def R15_Few_sk (t:Term):Sk (Bool) :=
 .r 1 ((R15_size_k t 100 20).c) fun x1 =>
 .fin (decide (x1≥0))
noncomputable def R15_Few (t:Term):Bool:=(R15_Few_sk t).val
theorem R15_Few_ok (t:Term):(R15_Few_sk t).obs (fun _=>True):=by
 unfold R15_Few_sk
 try simp only [R15_size_k]
 exact okE
noncomputable def R15_Few_k (t:Term):Ctr (Bool):=kk tok mixed Tryz.func134 [av t.cells] (fun x=>bv x) true (R15_Few_sk t) (R15_Few t) (fun (_:True)=>R15_Few_ok t)
noncomputable def R18_Few_sk (o:Order):Sk (Bool) :=
 .br ((decide (((o.rules.length:Nat):Int) > 60))||(decide (((o.choices.length:Nat):Int) > 60)))
 (.fin false)
 (.bind true (fun _=>True)
 (.loop (default:Sum (Bool) (Unit)) (fun i2=>i2≤o.rules.length) (fun i2=>o.rules.length - i2) (0:Nat)
 (fun (i2:Nat)=>⟨[(3,iv (i2:Int))],[]⟩) fun i2 =>
 .bnd 1 3 o.rules.length <|
 .br (decide ((i2:Int) < ((o.rules.length:Nat):Int)))
 (.r 6 (.andl (.p (ixP (i2:Int) o.rules.length)) ((R15_Few_k ((o.rules.getD i2 default).term)).c)) fun x3 =>
 .br (!x3)
 (.fin (.inl (.inl false)))
 (.r 5 .z fun _ =>
 .wi 3 (w64 ((i2:Int)+1)) ((i2+1:Nat):Int) <|
 .fin (.inr (i2+1))))
 (.fin (.inl (.inr ()))))
 (fun (_:Unit)=>⟨[],[]⟩) fun _ =>
 .fin true)
noncomputable def R18_Few (o:Order):Bool:=(R18_Few_sk o).val
theorem R18_Few_ok (o:Order):(R18_Few_sk o).obs (fun _=>True):=by
 unfold R18_Few_sk
 try simp only [R15_Few_k]
 exact okD
noncomputable def R18_Few_k (o:Order):Ctr (Bool):=kk tok mixed Tryz.func69 [av o.cells] (fun x=>bv x) true (R18_Few_sk o) (R18_Few o) (fun (_:True)=>R18_Few_ok o)
noncomputable def R21_Few_sk (r:Realm) (f:File):Sk (Bool) :=
 .r 1 (.dep ((R09_Few_k r).c) fun x1=>.wh (!x1) false ((R14_Few_k f).c)) fun p6 =>
 .br ((!p6.1)||(!p6.2))
 (.fin false)
 (.bind true (fun _=>True)
 (.loop (default:Sum (Bool) (Unit)) (fun i4=>i4≤r.orders.length) (fun i4=>r.orders.length - i4) (0:Nat)
 (fun (i4:Nat)=>⟨[(5,iv (i4:Int))],[]⟩) fun i4 =>
 .bnd 2 4 r.orders.length <|
 .br (decide ((i4:Int) < ((r.orders.length:Nat):Int)))
 (.r 6 (.andl (.p (ixP (i4:Int) r.orders.length)) ((R18_Few_k (r.orders.getD i4 default)).c)) fun x5 =>
 .br (!x5)
 (.fin (.inl (.inl false)))
 (.r 5 .z fun _ =>
 .wi 5 (w64 ((i4:Int)+1)) ((i4+1:Nat):Int) <|
 .fin (.inr (i4+1))))
 (.fin (.inl (.inr ()))))
 (fun (_:Unit)=>⟨[],[]⟩) fun _ =>
 .fin true)
noncomputable def R21_Few (r:Realm) (f:File):Bool:=(R21_Few_sk r f).val
theorem R21_Few_pst (r:Realm) (f:File):(R21_Few_sk r f).pst (fun (x:Bool)=>x=true→r.Small∧f.Small):=by
 unfold R21_Few_sk
 try simp only [R09_Few_k,R14_Few_k,R18_Few_k,R14_Few_eq,File.Small,Realm.Small]
 exact okQ
theorem R21_Few_post (r:Realm) (f:File):(fun (x:Bool)=>x=true→r.Small∧f.Small) (R21_Few r f):=have h:=Sk.pval _ (R21_Few_pst r f); h
theorem R21_Few_ok (r:Realm) (f:File):(R21_Few_sk r f).obs (fun _=>True):=by
 unfold R21_Few_sk
 try simp only [R09_Few_k,R14_Few_k,R18_Few_k,R14_Few_eq,File.Small,Realm.Small]
 exact okG
noncomputable def R21_Few_k (r:Realm) (f:File):Ctr (Bool):=kk tok mixed Tryz.func31 [av r.cells,av f.cells] (fun x=>bv x) true (R21_Few_sk r f) (R21_Few r f) (fun (_:True)=>R21_Few_ok r f) (fun (x:Bool)=>x=true→r.Small∧f.Small) (R21_Few_post r f)
noncomputable def R09_Letter_sk (c_:Int):Sk (Bool) :=
 .fin (((decide ((97:Int)≤c_))&&(decide (c_≤122)))||((decide ((65:Int)≤c_))&&(decide (c_≤90))))
noncomputable def R09_Letter (c_:Int):Bool:=(R09_Letter_sk c_).val
theorem R09_Letter_eq (c_:Int):R09_Letter c_=(((decide ((97:Int)≤c_))&&(decide (c_≤122)))||((decide ((65:Int)≤c_))&&(decide (c_≤90)))):=rfl
theorem R09_Letter_ok (c_:Int):(R09_Letter_sk c_).obs (fun _=>True):=by
 unfold R09_Letter_sk
 exact okE
noncomputable def R09_Letter_k (c_:Int):Ctr (Bool):=kk tok mixed Tryz.func235 [.d (.v (.int .u8 c_))] (fun x=>bv x) true (R09_Letter_sk c_) (R09_Letter c_) (fun (_:True)=>R09_Letter_ok c_)
noncomputable def R09_Name_sk (s:ByteArray):Sk (Bool) :=
 .br ((decide (((s.size:Nat):Int) < 1))||(decide (((s.size:Nat):Int) > 20)))
 (.fin false)
 (.bind true (fun _=>True)
 (.loop (default:Sum (Bool) (Unit)) (fun i2=>i2≤s.size) (fun i2=>s.size - i2) (0:Nat)
 (fun (i2:Nat)=>⟨[(3,iv (i2:Int))],[]⟩) fun i2 =>
 .br (decide ((i2:Int) < ((s.size:Nat):Int)))
 (.r 6 (.andl (.p (0≤(i2:Int)∧(i2:Int) < ((s.size:Nat):Int))) (.andl (.wh (((s.data.toList.getD i2 0).toNat:Int) == 95) false (.p (0≤(i2:Int)∧(i2:Int) < ((s.size:Nat):Int)))) (.wh (((s.data.toList.getD i2 0).toNat:Int) == 95) false (.wh (decide ((48:Int)≤((s.data.toList.getD i2 0).toNat:Int))) true (.p (0≤(i2:Int)∧(i2:Int) < ((s.size:Nat):Int))))))) fun _ =>
 .r 7 (.andl (.p (0≤(i2:Int)∧(i2:Int) < ((s.size:Nat):Int))) ((R09_Letter_k ((s.data.toList.getD i2 0).toNat:Int)).c)) fun x3 =>
 .br ((!x3)&&(((i2:Int) == 0)||(!((((s.data.toList.getD i2 0).toNat:Int) == 95)||((decide ((48:Int)≤((s.data.toList.getD i2 0).toNat:Int)))&&(decide (((s.data.toList.getD i2 0).toNat:Int)≤57)))))))
 (.fin (.inl (.inl false)))
 (.r 5 .z fun _ =>
 .wi 3 (w64 ((i2:Int)+1)) ((i2+1:Nat):Int) <|
 .fin (.inr (i2+1))))
 (.fin (.inl (.inr ()))))
 (fun (_:Unit)=>⟨[],[]⟩) fun _ =>
 .fin true)
noncomputable def R09_Name (s:ByteArray):Bool:=(R09_Name_sk s).val
theorem R09_Name_ok (s:ByteArray):(R09_Name_sk s).obs (fun _=>True):=by
 unfold R09_Name_sk
 try simp only [R09_Letter_k,R09_Letter_eq]
 exact okG
noncomputable def R09_Name_k (s:ByteArray):Ctr (Bool):=kk tok mixed Tryz.func195 [sv s] (fun x=>bv x) true (R09_Name_sk s) (R09_Name s) (fun (_:True)=>R09_Name_ok s)
noncomputable def R09_Before_sk (l:List ByteArray) (n:Int) (s:ByteArray):Sk (Bool) :=
 .bind true (fun _=>True)
 (.loop (default:Sum (Bool) (Unit)) (fun i2=>i2≤l.length) (fun i2=>l.length - i2) (0:Nat)
 (fun (i2:Nat)=>⟨[(7,iv (i2:Int))],[]⟩) fun i2 =>
 .bnd 0 0 l.length <|
 .br ((decide ((i2:Int) < n))&&(decide ((i2:Int) < ((l.length:Nat):Int))))
 (.r 4 (.p (ixP (i2:Int) l.length)) fun _ =>
 .br ((l.getD i2 default).toList == s.toList)
 (.fin (.inl (.inl true)))
 (.r 3 .z fun _ =>
 .wi 7 (w64 ((i2:Int)+1)) ((i2+1:Nat):Int) <|
 .fin (.inr (i2+1))))
 (.fin (.inl (.inr ()))))
 (fun (_:Unit)=>⟨[],[]⟩) fun _ =>
 .fin false
noncomputable def R09_Before (l:List ByteArray) (n:Int) (s:ByteArray):Bool:=(R09_Before_sk l n s).val
theorem R09_Before_ok (l:List ByteArray) (n:Int) (s:ByteArray):(R09_Before_sk l n s).obs (fun _=>True):=by
 unfold R09_Before_sk
 exact okD
noncomputable def R09_Before_k (l:List ByteArray) (n:Int) (s:ByteArray):Ctr (Bool):=kk tok mixed Tryz.func196 [lv strC l,iv n,sv s] (fun x=>bv x) true (R09_Before_sk l n s) (R09_Before l n s) (fun (_:True)=>R09_Before_ok l n s)
noncomputable def R09_named_sk (l:List ByteArray) (i:Int):Sk (Int) :=
 .r 1 (.andl (.p (ixP i l.length)) ((R09_Name_k (l.getD i.toNat default)).c)) fun x1 =>
 .br (!x1)
 (.fin 2)
 (.r 3 (.andl (.p (ixP i l.length)) ((R09_Before_k l i (l.getD i.toNat default)).c)) fun x2 =>
 .br x2
 (.fin 5)
 (.fin 0))
noncomputable def R09_named (l:List ByteArray) (i:Int):Int:=(R09_named_sk l i).val
theorem R09_named_ok (l:List ByteArray) (i:Int) (hi:0≤i∧i < (l.length:Int)):(R09_named_sk l i).obs (fun _=>True):=by
 unfold R09_named_sk
 try simp only [R09_Before_k,R09_Name_k]
 exact okD
noncomputable def R09_named_k (l:List ByteArray) (i:Int):Ctr (Int):=kk tok mixed Tryz.func135 [lv strC l,iv i] (fun x=>iv x) true (R09_named_sk l i) (R09_named l i) (fun (h:(0≤i∧i < (l.length:Int)))=>R09_named_ok l i h)
noncomputable def R09_Within_sk (n:Int) (low:Int) (high:Int):Sk (Bool) :=
 .fin ((decide (low≤n))&&(decide (n≤high)))
noncomputable def R09_Within (n:Int) (low:Int) (high:Int):Bool:=(R09_Within_sk n low high).val
theorem R09_Within_eq (n:Int) (low:Int) (high:Int):R09_Within n low high=((decide (low≤n))&&(decide (n≤high))):=rfl
theorem R09_Within_ok (n:Int) (low:Int) (high:Int):(R09_Within_sk n low high).obs (fun _=>True):=by
 unfold R09_Within_sk
 exact okE
noncomputable def R09_Within_k (n:Int) (low:Int) (high:Int):Ctr (Bool):=kk tok mixed Tryz.func77 [iv n,iv low,iv high] (fun x=>bv x) true (R09_Within_sk n low high) (R09_Within n low high) (fun (_:True)=>R09_Within_ok n low high)
noncomputable def R09_Rising_sk (l:List Int) (low:Int) (high:Int):Sk (Bool) :=
 .bind true (fun _=>True)
 (.loop (default:Sum (Bool) (Unit)) (fun i2=>i2≤l.length) (fun i2=>l.length - i2) (0:Nat)
 (fun (i2:Nat)=>⟨[(7,iv (i2:Int))],[]⟩) fun i2 =>
 .bnd 0 0 l.length <|
 .br (decide ((i2:Int) < ((l.length:Nat):Int)))
 (.r 4 (.andl (.p (ixP (i2:Int) l.length)) ((R09_Within_k (l.getD i2 default) low high).c)) fun x3 =>
 .br (!x3)
 (.fin (.inl (.inl false)))
 (.r 6 (.andl (.wh (decide ((i2:Int) > 0)) true (.p (ixP (w64 ((i2:Int) - 1)) l.length))) (.wh (decide ((i2:Int) > 0)) true (.p (ixP (i2:Int) l.length)))) fun _ =>
 .br ((decide ((i2:Int) > 0))&&(decide ((l.getD ((w64 ((i2:Int) - 1)).toNat) default)≥(l.getD i2 default))))
 (.fin (.inl (.inl false)))
 (.r 3 .z fun _ =>
 .wi 7 (w64 ((i2:Int)+1)) ((i2+1:Nat):Int) <|
 .fin (.inr (i2+1)))))
 (.fin (.inl (.inr ()))))
 (fun (_:Unit)=>⟨[],[]⟩) fun _ =>
 .fin true
noncomputable def R09_Rising (l:List Int) (low:Int) (high:Int):Bool:=(R09_Rising_sk l low high).val
theorem R09_Rising_ok (l:List Int) (low:Int) (high:Int):(R09_Rising_sk l low high).obs (fun _=>True):=by
 unfold R09_Rising_sk
 try simp only [R09_Within_k,R09_Within_eq]
 exact okG
noncomputable def R09_Rising_k (l:List Int) (low:Int) (high:Int):Ctr (Bool):=kk tok mixed Tryz.func197 [lv intC l,iv low,iv high] (fun x=>bv x) true (R09_Rising_sk l low high) (R09_Rising l low high) (fun (_:True)=>R09_Rising_ok l low high)
noncomputable def R09_RightCity_sk (r:Realm) (c_:City):Sk (Bool) :=
 .r 1 (.dep ((R09_Within_k c_.order 0 (w64 (((r.orders.length:Nat):Int) - 1))).c) fun x1=>.wh (!x1) false ((R09_Within_k c_.currency 0 (w64 (((r.currencies.length:Nat):Int) - 1))).c)) fun p12 =>
 .br ((((!p12.1)||(!p12.2))||(decide (((c_.feasts.length:Nat):Int) > 60)))||(decide (((c_.shut.length:Nat):Int) > 200)))
 (.fin false)
 (.bind true (fun _=>True)
 (.loop (default:Sum (Bool) (Unit)) (fun i4=>i4≤c_.feasts.length) (fun i4=>c_.feasts.length - i4) (0:Nat)
 (fun (i4:Nat)=>⟨[(5,iv (i4:Int))],[]⟩) fun i4 =>
 .bnd 3 4 c_.feasts.length <|
 .br (decide ((i4:Int) < ((c_.feasts.length:Nat):Int)))
 (.r 6 (.andl (.p (ixP (i4:Int) c_.feasts.length)) (.andl (.p ((100:Int)≠0)) (.dep ((R09_Within_k (w64 ((c_.feasts.getD i4 default).tdiv 100)) 1 12).c) fun x5=>.andl (.wh (!x5) false (.p (ixP (i4:Int) c_.feasts.length))) (.andl (.wh (!x5) false (.p ((100:Int)≠0))) (.wh (!x5) false ((R09_Within_k ((c_.feasts.getD i4 default).tmod 100) 1 31).c)))))) fun p7 =>
 .br ((!p7.1)||(!p7.2))
 (.fin (.inl (.inl false)))
 (.r 5 .z fun _ =>
 .wi 5 (w64 ((i4:Int)+1)) ((i4+1:Nat):Int) <|
 .fin (.inr (i4+1))))
 (.fin (.inl (.inr ()))))
 (fun (_:Unit)=>⟨[],[]⟩) fun _ =>
 .r 8 (.dep ((R09_Rising_k c_.rest 0 6).c) fun x8=>.dep (.wh x8 true ((R09_Rising_k c_.feasts 0 2000).c)) fun x9=>.wh (x8&&x9) true ((R09_Rising_k c_.shut 0 100000).c)) fun p11 =>
 .fin ((p11.1&&p11.2.1)&&p11.2.2))
noncomputable def R09_RightCity (r:Realm) (c_:City):Bool:=(R09_RightCity_sk r c_).val
theorem R09_RightCity_ok (r:Realm) (c_:City):(R09_RightCity_sk r c_).obs (fun _=>True):=by
 unfold R09_RightCity_sk
 try simp only [R09_Rising_k,R09_Within_k,R09_Within_eq]
 exact okG
noncomputable def R09_RightCity_k (r:Realm) (c_:City):Ctr (Bool):=kk tok mixed Tryz.func136 [av r.cells,av c_.cells] (fun x=>bv x) true (R09_RightCity_sk r c_) (R09_RightCity r c_) (fun (_:True)=>R09_RightCity_ok r c_)
noncomputable def R09_cities_sk (r:Realm):Sk (Int) :=
 .br (decide (((r.currencies.length:Nat):Int) > 8))
 (.fin 6)
 (.bind true (fun _=>True)
 (.loop (default:Sum (Int) (Unit)) (fun i2=>i2≤r.currencies.length) (fun i2=>r.currencies.length - i2) (0:Nat)
 (fun (i2:Nat)=>⟨[(3,iv (i2:Int))],[]⟩) fun i2 =>
 .bnd 1 0 r.currencies.length <|
 .br (decide ((i2:Int) < ((r.currencies.length:Nat):Int)))
 (.r 6 ((R09_named_k r.currencies (i2:Int)).c) fun x3 =>
 .br (x3 != 0)
 (.fin (.inl (.inl x3)))
 (.r 5 .z fun _ =>
 .wi 3 (w64 ((i2:Int)+1)) ((i2+1:Nat):Int) <|
 .fin (.inr (i2+1))))
 (.fin (.inl (.inr ()))))
 (fun (_:Unit)=>⟨[],[]⟩) fun _ =>
 .br (decide (((r.cities.length:Nat):Int) > 40))
 (.fin 6)
 (.bind true (fun _=>True)
 (.loop (default:Sum (Int) (Unit)) (fun i5=>i5.1.length=i5.2∧i5.2≤r.cities.length) (fun i5=>r.cities.length - i5.2) (([],0):(List ByteArray) × Nat)
 (fun (i5:(List ByteArray) × Nat)=>⟨[(5,ow 100001 i5.1),(6,iv (i5.2:Int))],[(100001,rowB 9 1 strC i5.1)]⟩) fun i5 =>
 .bnd 1 1 r.cities.length <|
 .br (decide ((i5.2:Int) < ((r.cities.length:Nat):Int)))
 (.r 15 (.andl (.p (ixP (i5.2:Int) r.cities.length)) (.andl (.o [.nrm (litC strE [(r.cities.getD i5.2 default).name])]) (.andl (.o [.nrm (catC strE i5.1 [(r.cities.getD i5.2 default).name])]) (.andl (.t (strE.ones [(r.cities.getD i5.2 default).name])) (.p (szP i5.1.length [(r.cities.getD i5.2 default).name].length 16)))))) fun _ =>
 .r 16 ((R09_named_k (i5.1++[(r.cities.getD i5.2 default).name]) (i5.2:Int)).c) fun x6 =>
 .br (x6 != 0)
 (.fin (.inl (.inl x6)))
 (.r 19 (.andl (.p (ixP (i5.2:Int) r.cities.length)) ((R09_RightCity_k r (r.cities.getD i5.2 default)).c)) fun x7 =>
 .br (!x7)
 (.fin (.inl (.inl 1)))
 (.r 14 .z fun _ =>
 .wi 6 (w64 ((i5.2:Int)+1)) ((i5.2+1:Nat):Int) <|
 .fin (.inr (i5.1++[(r.cities.getD i5.2 default).name],i5.2+1)))))
 (.fin (.inl (.inr ()))))
 (fun (_:Unit)=>⟨[],[]⟩) fun _ =>
 .fin 0))
noncomputable def R09_cities (r:Realm):Int:=(R09_cities_sk r).val
theorem R09_cities_pst (r:Realm):(R09_cities_sk r).pst (fun (x:Int)=>x=0→r.currencies.length≤8∧r.cities.length≤40):=by
 unfold R09_cities_sk
 try simp only [R09_RightCity_k,R09_named_k]
 exact okP
theorem R09_cities_post (r:Realm):(fun (x:Int)=>x=0→r.currencies.length≤8∧r.cities.length≤40) (R09_cities r):=have h:=Sk.pval _ (R09_cities_pst r); h
theorem R09_cities_ok (r:Realm):(R09_cities_sk r).obs (fun _=>True):=by
 unfold R09_cities_sk
 try simp only [R09_RightCity_k,R09_named_k]
 exact okD
noncomputable def R09_cities_k (r:Realm):Ctr (Int):=kk tok mixed Tryz.func70 [av r.cells] (fun x=>iv x) true (R09_cities_sk r) (R09_cities r) (fun (_:True)=>R09_cities_ok r) (fun (x:Int)=>x=0→r.currencies.length≤8∧r.cities.length≤40) (R09_cities_post r)
noncomputable def R09_firms_sk (r:Realm):Sk (Int) :=
 .br (decide (((r.groups.length:Nat):Int) > 20))
 (.fin 6)
 (.bind true (fun _=>True)
 (.loop (default:Sum (Int) (Unit)) (fun i2=>i2≤r.groups.length) (fun i2=>r.groups.length - i2) (0:Nat)
 (fun (i2:Nat)=>⟨[(3,iv (i2:Int))],[]⟩) fun i2 =>
 .bnd 1 2 r.groups.length <|
 .br (decide ((i2:Int) < ((r.groups.length:Nat):Int)))
 (.r 6 (.andl (.p (ixP (i2:Int) r.groups.length)) ((R09_Within_k ((r.groups.getD i2 default).grade) 0 9).c)) fun x3 =>
 .br (!x3)
 (.fin (.inl (.inl 1)))
 (.r 5 .z fun _ =>
 .wi 3 (w64 ((i2:Int)+1)) ((i2+1:Nat):Int) <|
 .fin (.inr (i2+1))))
 (.fin (.inl (.inr ()))))
 (fun (_:Unit)=>⟨[],[]⟩) fun _ =>
 .br (decide (((r.firms.length:Nat):Int) > 200))
 (.fin 6)
 (.bind true (fun b4=>r.cities.length≤40→r.FirmOK)
 (.loop (default:Sum (Int) (Unit)) (fun i5=>i5.1.length=i5.2∧i5.2≤r.firms.length∧(r.cities.length≤40→∀ q,q < i5.2→0≤(r.firms.getD q default).city∧(r.firms.getD q default).city < (r.cities.length:Int))) (fun i5=>r.firms.length - i5.2) (([],0):(List ByteArray) × Nat)
 (fun (i5:(List ByteArray) × Nat)=>⟨[(4,ow 100001 i5.1),(5,iv (i5.2:Int))],[(100001,rowB 9 1 strC i5.1)]⟩) fun i5 =>
 .bnd 1 3 r.firms.length <|
 .br (decide ((i5.2:Int) < ((r.firms.length:Nat):Int)))
 (.r 14 (.andl (.p (ixP (i5.2:Int) r.firms.length)) (.andl (.o [.nrm (litC strE [(r.firms.getD i5.2 default).name])]) (.andl (.o [.nrm (catC strE i5.1 [(r.firms.getD i5.2 default).name])]) (.andl (.t (strE.ones [(r.firms.getD i5.2 default).name])) (.p (szP i5.1.length [(r.firms.getD i5.2 default).name].length 16)))))) fun _ =>
 .r 15 ((R09_named_k (i5.1++[(r.firms.getD i5.2 default).name]) (i5.2:Int)).c) fun x6 =>
 .br (x6 != 0)
 (.fin (.inl (.inl x6)))
 (.r 18 (.andl (.p (ixP (i5.2:Int) r.firms.length)) (.dep ((R09_Within_k ((r.firms.getD i5.2 default).city) 0 (w64 (((r.cities.length:Nat):Int) - 1))).c) fun x7=>.andl (.wh (!x7) false (.p (ixP (i5.2:Int) r.firms.length))) (.wh (!x7) false ((R09_Within_k ((r.firms.getD i5.2 default).group) 0 (w64 (((r.groups.length:Nat):Int) - 1))).c)))) fun p9 =>
 .br ((!p9.1)||(!p9.2))
 (.fin (.inl (.inl 1)))
 (.r 13 .z fun _ =>
 .wi 5 (w64 ((i5.2:Int)+1)) ((i5.2+1:Nat):Int) <|
 .fin (.inr (i5.1++[(r.firms.getD i5.2 default).name],i5.2+1)))))
 (.fin (.inl (.inr ()))))
 (fun (_:Unit)=>⟨[],[]⟩) fun _ =>
 .fin 0))
noncomputable def R09_firms (r:Realm):Int:=(R09_firms_sk r).val
theorem R09_firms_pst (r:Realm) (hP:r.cities.length≤40):(R09_firms_sk r).pst (fun (x:Int)=>x=0→r.groups.length≤20∧r.firms.length≤200∧r.FirmOK):=by
 refine Sk.pst_of _ ?_
 unfold R09_firms_sk
 simp only [Sk.pstq,Sk.isLoop,reduceCtorEq,ON,kk,R09_Within_k,R09_named_k,R09_Within_eq,forall_eq,Realm.FirmOK,maxLen]
 all_goals exact okT2
theorem R09_firms_post (r:Realm):(fun (x:Int)=>(r.cities.length≤40)→(x=0→r.groups.length≤20∧r.firms.length≤200∧r.FirmOK)) (R09_firms r):=fun hP=>Sk.pval _ (R09_firms_pst r hP)
theorem R09_firms_ok (r:Realm):(R09_firms_sk r).obs (fun _=>True):=by
 refine Sk.obs_of _ ?_
 unfold R09_firms_sk
 simp only [Sk.obq,Sk.isLoop,reduceCtorEq,ON,kk,R09_Within_k,R09_named_k,R09_Within_eq,forall_eq,Realm.FirmOK,maxLen]
 all_goals exact okT2
noncomputable def R09_firms_k (r:Realm):Ctr (Int):=kk tok mixed Tryz.func71 [av r.cells] (fun x=>iv x) true (R09_firms_sk r) (R09_firms r) (fun (_:True)=>R09_firms_ok r) (fun (x:Int)=>(r.cities.length≤40)→(x=0→r.groups.length≤20∧r.firms.length≤200∧r.FirmOK)) (R09_firms_post r)
noncomputable def R09_RightOrder_sk (o:Order):Sk (Bool) :=
 .bind true (fun b1=>∀ j:Nat,j < o.choices.length→((j:Int)≤(o.choices.getD j default).ask∧(o.choices.getD j default).ask≤21)∧0≤(o.choices.getD j default).by_∧(o.choices.getD j default).by_ < 5)
 (.loop (default:Sum (Bool) (Unit)) (fun i2=>(∀ j:Nat,j < i2→((j:Int)≤(o.choices.getD j default).ask∧(o.choices.getD j default).ask≤21)∧0≤(o.choices.getD j default).by_∧(o.choices.getD j default).by_ < 5)∧i2≤o.choices.length) (fun i2=>o.choices.length - i2) (0:Nat)
 (fun (i2:Nat)=>⟨[(3,iv (i2:Int))],[]⟩) fun i2 =>
 .bnd 1 2 o.choices.length <|
 .br (decide ((i2:Int) < ((o.choices.length:Nat):Int)))
 (.r 4 (.andl (.p (ixP (i2:Int) o.choices.length)) (.dep ((R09_Within_k ((o.choices.getD i2 default).ask) 0 21).c) fun x3=>.andl (.wh (!x3) false (.p (ixP (i2:Int) o.choices.length))) (.wh (!x3) false ((R09_Within_k ((o.choices.getD i2 default).by_) 0 4).c)))) fun p5 =>
 .br ((!p5.1)||(!p5.2))
 (.fin (.inl (.inl false)))
 (.r 6 (.andl (.wh (decide ((i2:Int) > 0)) true (.p (ixP (w64 ((i2:Int) - 1)) o.choices.length))) (.wh (decide ((i2:Int) > 0)) true (.p (ixP (i2:Int) o.choices.length)))) fun _ =>
 .br ((decide ((i2:Int) > 0))&&(decide (((o.choices.getD ((w64 ((i2:Int) - 1)).toNat) default).ask)≥((o.choices.getD i2 default).ask))))
 (.fin (.inl (.inl false)))
 (.r 3 .z fun _ =>
 .wi 3 (w64 ((i2:Int)+1)) ((i2+1:Nat):Int) <|
 .fin (.inr (i2+1)))))
 (.fin (.inl (.inr ()))))
 (fun (_:Unit)=>⟨[],[]⟩) fun _ =>
 .bind true (fun b6=>∀ j:Nat,j < o.rules.length→(j:Int)≤(o.rules.getD j default).ask∧(o.rules.getD j default).ask≤21)
 (.loop (default:Sum (Bool) (Unit)) (fun i7=>(∀ j:Nat,j < i7→(j:Int)≤(o.rules.getD j default).ask∧(o.rules.getD j default).ask≤21)∧i7≤o.rules.length) (fun i7=>o.rules.length - i7) (0:Nat)
 (fun (i7:Nat)=>⟨[(4,iv (i7:Int))],[]⟩) fun i7 =>
 .bnd 1 3 o.rules.length <|
 .br (decide ((i7:Int) < ((o.rules.length:Nat):Int)))
 (.r 11 (.andl (.p (ixP (i7:Int) o.rules.length)) ((R09_Within_k ((o.rules.getD i7 default).ask) 0 21).c)) fun x8 =>
 .br (!x8)
 (.fin (.inl (.inl false)))
 (.r 13 (.andl (.wh (decide ((i7:Int) > 0)) true (.p (ixP (w64 ((i7:Int) - 1)) o.rules.length))) (.wh (decide ((i7:Int) > 0)) true (.p (ixP (i7:Int) o.rules.length)))) fun _ =>
 .br ((decide ((i7:Int) > 0))&&(decide (((o.rules.getD ((w64 ((i7:Int) - 1)).toNat) default).ask)≥((o.rules.getD i7 default).ask))))
 (.fin (.inl (.inl false)))
 (.r 10 .z fun _ =>
 .wi 4 (w64 ((i7:Int)+1)) ((i7+1:Nat):Int) <|
 .fin (.inr (i7+1)))))
 (.fin (.inl (.inr ()))))
 (fun (_:Unit)=>⟨[],[]⟩) fun _ =>
 .fin true
noncomputable def R09_RightOrder (o:Order):Bool:=(R09_RightOrder_sk o).val
theorem R09_RightOrder_pst (o:Order):(R09_RightOrder_sk o).pst (fun (x:Bool)=>x=true→(∀ j,j < o.choices.length→0≤(o.choices.getD j default).by_∧(o.choices.getD j default).by_ < 5)∧o.choices.length≤22∧o.rules.length≤22):=by
 refine Sk.pst_of _ ?_
 unfold R09_RightOrder_sk
 simp only [Sk.pstq,Sk.isLoop,reduceCtorEq,ON,kk,R09_Within_k,R09_Within_eq,forall_eq,maxLen]
 refine ⟨⟨⟨fun j hj=>absurd hj (by omega),Nat.zero_le _⟩,fun i hi=>⟨fun hc h1 _ h2 _=>?_,fun hc j hj=>?_⟩⟩,fun _ hJ=>⟨⟨⟨fun j hj=>absurd hj (by omega),Nat.zero_le _⟩,fun i hi=>⟨fun hc h1 _ h2 _=>?_,fun hc j hj=>?_⟩⟩,fun _ hJ2=>⟨fun j hj=>(hJ j hj).2,?_,?_⟩⟩⟩
 rotate_right
 rotate_right
 ·rcases Nat.lt_or_ge 22 o.choices.length with h | h
  ·have:=(hJ 22 h).1; omega
  ·exact h
 ·rcases Nat.lt_or_ge 22 o.rules.length with h | h
  ·have:=hJ2 22 h; omega
  ·exact h
 all_goals simp only [LN] at hc
 ·simp only [LN] at h1 h2
  refine ⟨⟨fun j hj=>?_,by omega⟩,by omega⟩
  by_cases e:j=i
  ·subst e
   refine ⟨⟨?_,by omega⟩,by omega,by omega⟩
   by_cases e0:j=0
   ·subst e0; omega
   ·have h3:=hi.1 (j - 1) (by omega)
    have h4:=h2.resolve_left (by omega)
    rw [w64_id (by omega) (by omega),show ((j:Int) - 1).toNat=j - 1 by omega] at h4
    omega
  ·exact hi.1 j (by omega)
 ·exact hi.1 j (by omega)
 ·simp only [LN] at h1 h2
  refine ⟨⟨fun j hj=>?_,by omega⟩,by omega⟩
  by_cases e:j=i
  ·subst e
   refine ⟨?_,by omega⟩
   by_cases e0:j=0
   ·subst e0; omega
   ·have h3:=hi.1 (j - 1) (by omega)
    have h4:=h2.resolve_left (by omega)
    rw [w64_id (by omega) (by omega),show ((j:Int) - 1).toNat=j - 1 by omega] at h4
    omega
  ·exact hi.1 j (by omega)
 ·exact hi.1 j (by omega)
theorem R09_RightOrder_post (o:Order):(fun (x:Bool)=>x=true→(∀ j,j < o.choices.length→0≤(o.choices.getD j default).by_∧(o.choices.getD j default).by_ < 5)∧o.choices.length≤22∧o.rules.length≤22) (R09_RightOrder o):=have h:=Sk.pval _ (R09_RightOrder_pst o); h
theorem R09_RightOrder_ok (o:Order):(R09_RightOrder_sk o).obs (fun _=>True):=by
 refine Sk.obs_of _ ?_
 unfold R09_RightOrder_sk
 simp only [Sk.obq,Sk.isLoop,reduceCtorEq,ON,kk,R09_Within_k,R09_Within_eq,forall_eq,maxLen]
 refine ⟨⟨⟨fun j hj=>absurd hj (by omega),Nat.zero_le _⟩,fun i hi hm=>⟨fun hc=>⟨⟨?_,fun _=>?_⟩,fun h1=>⟨⟨fun h3=>?_,fun _=>?_⟩,fun _ h2 _=>⟨?_,?_⟩⟩⟩,fun hc j hj=>?_⟩⟩,fun _ hJ=>⟨⟨fun j hj=>absurd hj (by omega),Nat.zero_le _⟩,fun i hi hm=>⟨fun hc=>⟨?_,fun h1=>⟨⟨fun h3=>?_,fun _=>?_⟩,fun _ h2 _=>⟨?_,?_⟩⟩⟩,fun hc j hj=>?_⟩⟩⟩
 all_goals simp only [LN] at hc
 ·exact ⟨by omega,by omega⟩
 ·exact ⟨by omega,by omega⟩
 ·simp only [LN] at h3
  rw [w64_id (by omega) (by omega)]
  exact ⟨by omega,by omega⟩
 ·exact ⟨by omega,by omega⟩
 ·exact (w64_id (by omega) (by omega)).trans (by omega)
 ·simp only [LN] at h1 h2
  refine ⟨⟨fun j hj=>?_,by omega⟩,by omega⟩
  by_cases e:j=i
  ·subst e
   refine ⟨⟨?_,by omega⟩,by omega,by omega⟩
   by_cases e0:j=0
   ·subst e0; omega
   ·have h3:=hi.1 (j - 1) (by omega)
    have h4:=h2.resolve_left (by omega)
    rw [w64_id (by omega) (by omega),show ((j:Int) - 1).toNat=j - 1 by omega] at h4
    omega
  ·exact hi.1 j (by omega)
 ·exact hi.1 j (by omega)
 ·exact ⟨by omega,by omega⟩
 ·simp only [LN] at h3
  rw [w64_id (by omega) (by omega)]
  exact ⟨by omega,by omega⟩
 ·exact ⟨by omega,by omega⟩
 ·exact (w64_id (by omega) (by omega)).trans (by omega)
 ·simp only [LN] at h1 h2
  refine ⟨⟨fun j hj=>?_,by omega⟩,by omega⟩
  by_cases e:j=i
  ·subst e
   refine ⟨?_,by omega⟩
   by_cases e0:j=0
   ·subst e0; omega
   ·have h3:=hi.1 (j - 1) (by omega)
    have h4:=h2.resolve_left (by omega)
    rw [w64_id (by omega) (by omega),show ((j:Int) - 1).toNat=j - 1 by omega] at h4
    omega
  ·exact hi.1 j (by omega)
 ·exact hi.1 j (by omega)
noncomputable def R09_RightOrder_k (o:Order):Ctr (Bool):=kk tok mixed Tryz.func137 [av o.cells] (fun x=>bv x) true (R09_RightOrder_sk o) (R09_RightOrder o) (fun (_:True)=>R09_RightOrder_ok o) (fun (x:Bool)=>x=true→(∀ j,j < o.choices.length→0≤(o.choices.getD j default).by_∧(o.choices.getD j default).by_ < 5)∧o.choices.length≤22∧o.rules.length≤22) (R09_RightOrder_post o)
noncomputable def R09_orders_sk (r:Realm):Sk (Int) :=
 .br (decide (((r.orders.length:Nat):Int) > 20))
 (.fin 6)
 (.bind true (fun b1=>r.ByOK∧(∀ i,i < r.orders.length→(r.orders.getD i default).choices.length≤22∧(r.orders.getD i default).rules.length≤22))
 (.loop (default:Sum (Int) (Unit)) (fun i2=>i2.1.length=i2.2∧i2.2≤r.orders.length∧(∀ i j,i < i2.2→j < (r.orders.getD i default).choices.length→0≤((r.orders.getD i default).choices.getD j default).by_∧((r.orders.getD i default).choices.getD j default).by_ < 5)∧(∀ i,i < i2.2→(r.orders.getD i default).choices.length≤22∧(r.orders.getD i default).rules.length≤22)) (fun i2=>r.orders.length - i2.2) (([],0):(List ByteArray) × Nat)
 (fun (i2:(List ByteArray) × Nat)=>⟨[(3,ow 100001 i2.1),(4,iv (i2.2:Int))],[(100001,rowB 9 1 strC i2.1)]⟩) fun i2 =>
 .bnd 1 4 r.orders.length <|
 .br (decide ((i2.2:Int) < ((r.orders.length:Nat):Int)))
 (.r 7 (.andl (.p (ixP (i2.2:Int) r.orders.length)) (.andl (.o [.nrm (litC strE [(r.orders.getD i2.2 default).name])]) (.andl (.o [.nrm (catC strE i2.1 [(r.orders.getD i2.2 default).name])]) (.andl (.t (strE.ones [(r.orders.getD i2.2 default).name])) (.p (szP i2.1.length [(r.orders.getD i2.2 default).name].length 16)))))) fun _ =>
 .r 8 ((R09_named_k (i2.1++[(r.orders.getD i2.2 default).name]) (i2.2:Int)).c) fun x3 =>
 .br (x3 != 0)
 (.fin (.inl (.inl x3)))
 (.r 11 (.andl (.p (ixP (i2.2:Int) r.orders.length)) ((R09_RightOrder_k (r.orders.getD i2.2 default)).c)) fun x4 =>
 .br (!x4)
 (.fin (.inl (.inl 1)))
 (.r 6 .z fun _ =>
 .wi 4 (w64 ((i2.2:Int)+1)) ((i2.2+1:Nat):Int) <|
 .fin (.inr (i2.1++[(r.orders.getD i2.2 default).name],i2.2+1)))))
 (.fin (.inl (.inr ()))))
 (fun (_:Unit)=>⟨[],[]⟩) fun _ =>
 .fin 0)
noncomputable def R09_orders (r:Realm):Int:=(R09_orders_sk r).val
theorem R09_orders_pst (r:Realm):(R09_orders_sk r).pst (fun (x:Int)=>x=0→r.ByOK∧r.orders.length≤20∧(∀ i,i < r.orders.length→(r.orders.getD i default).choices.length≤22∧(r.orders.getD i default).rules.length≤22)):=by
 unfold R09_orders_sk
 try simp only [R09_RightOrder_k,R09_named_k,Realm.ByOK]
 exact okP
theorem R09_orders_post (r:Realm):(fun (x:Int)=>x=0→r.ByOK∧r.orders.length≤20∧(∀ i,i < r.orders.length→(r.orders.getD i default).choices.length≤22∧(r.orders.getD i default).rules.length≤22)) (R09_orders r):=have h:=Sk.pval _ (R09_orders_pst r); h
theorem R09_orders_ok (r:Realm):(R09_orders_sk r).obs (fun _=>True):=by
 unfold R09_orders_sk
 try simp only [R09_RightOrder_k,R09_named_k,Realm.ByOK]
 exact okD
noncomputable def R09_orders_k (r:Realm):Ctr (Int):=kk tok mixed Tryz.func72 [av r.cells] (fun x=>iv x) true (R09_orders_sk r) (R09_orders r) (fun (_:True)=>R09_orders_ok r) (fun (x:Int)=>x=0→r.ByOK∧r.orders.length≤20∧(∀ i,i < r.orders.length→(r.orders.getD i default).choices.length≤22∧(r.orders.getD i default).rules.length≤22)) (R09_orders_post r)
noncomputable def R09_usances_sk (r:Realm):Sk (Int) :=
 .br (decide (((r.usances.length:Nat):Int) > 100))
 (.fin 6)
 (.bind true (fun _=>True)
 (.loop (default:Sum (Int) (Unit)) (fun i2=>i2≤r.usances.length) (fun i2=>r.usances.length - i2) (0:Nat)
 (fun (i2:Nat)=>⟨[(3,iv (i2:Int))],[]⟩) fun i2 =>
 .bnd 1 5 r.usances.length <|
 .br (decide ((i2:Int) < ((r.usances.length:Nat):Int)))
 (.bind true (fun _=>True)
 (.r 6 (.p (ixP (i2:Int) r.usances.length)) fun _ =>
 .r 7 (.dep ((R09_Within_k ((r.usances.getD i2 default).from_) 0 (w64 (((r.cities.length:Nat):Int) - 1))).c) fun x4=>.dep (.wh (!x4) false ((R09_Within_k ((r.usances.getD i2 default).to_) 0 (w64 (((r.cities.length:Nat):Int) - 1))).c)) fun x5=>.wh ((!x4)||(!x5)) false ((R09_Within_k ((r.usances.getD i2 default).days) 1 20000).c)) fun p9 =>
 .br (((!p9.1)||(!p9.2.1))||(!p9.2.2))
 (.fin (.inl (.inl (.inl 1))))
 (.bind true (fun _=>True)
 (.loop (default:Sum (Sum (Sum (Sum (Int) (Unit)) (Nat)) (Int × (List Usance) × Int × Usance × Int × (List City) × Int × Int × Bool × Bool × Bool × Bool × Bool × Bool × Int × Int × Bool)) (Int × Int × Int × Bool)) (fun i8=>i8≤i2) (fun i8=>i2 - i8) (0:Nat)
 (fun (i8:Nat)=>⟨[(5,iv (i8:Int))],[]⟩) fun i8 =>
 .br (decide ((i8:Int) < (i2:Int)))
 (.r 12 (.andl (.p (ixP (i8:Int) r.usances.length)) (.wh (((r.usances.getD i8 default).from_) == ((r.usances.getD i2 default).from_)) true (.p (ixP (i8:Int) r.usances.length)))) fun _ =>
 .br ((((r.usances.getD i8 default).from_) == ((r.usances.getD i2 default).from_))&&(((r.usances.getD i8 default).to_) == ((r.usances.getD i2 default).to_)))
 (.fin (.inl (.inl (.inl (.inl (.inl 5))))))
 (.r 11 .z fun _ =>
 .wi 5 (w64 ((i8:Int)+1)) ((i8+1:Nat):Int) <|
 .fin (.inr (i8+1))))
 (.fin (.inl (.inr ((i8:Int),(i8:Int),(i2:Int),decide ((i8:Int) < (i2:Int)))))))
 (fun (b7:Int × Int × Int × Bool)=>⟨[(5,iv b7.1),(46,iv b7.2.1),(47,iv b7.2.2.1),(48,bv b7.2.2.2)],[]⟩) fun b7 =>
 .fin (.inr (b7.1,r.usances,(i2:Int),r.usances.getD i2 default,(r.usances.getD i2 default).from_,r.cities,((r.cities.length:Nat):Int),w64 (((r.cities.length:Nat):Int) - 1),p9.1,!p9.1,!p9.1,(!p9.1)||(!p9.2.1),(!p9.1)||(!p9.2.1),((!p9.1)||(!p9.2.1))||(!p9.2.2),b7.2.1,b7.2.2.1,b7.2.2.2))))
 (fun (b3:Int × (List Usance) × Int × Usance × Int × (List City) × Int × Int × Bool × Bool × Bool × Bool × Bool × Bool × Int × Int × Bool)=>⟨[(5,iv b3.1),(18,lv Usance.cells b3.2.1),(19,iv b3.2.2.1),(21,av b3.2.2.2.1.cells),(23,iv b3.2.2.2.2.1),(25,lv City.cells b3.2.2.2.2.2.1),(26,iv b3.2.2.2.2.2.2.1),(27,iv b3.2.2.2.2.2.2.2.1),(28,bv b3.2.2.2.2.2.2.2.2.1),(29,bv b3.2.2.2.2.2.2.2.2.2.1),(30,bv b3.2.2.2.2.2.2.2.2.2.2.1),(39,bv b3.2.2.2.2.2.2.2.2.2.2.2.1),(40,bv b3.2.2.2.2.2.2.2.2.2.2.2.2.1),(45,bv b3.2.2.2.2.2.2.2.2.2.2.2.2.2.1),(46,iv b3.2.2.2.2.2.2.2.2.2.2.2.2.2.2.1),(47,iv b3.2.2.2.2.2.2.2.2.2.2.2.2.2.2.2.1),(48,bv b3.2.2.2.2.2.2.2.2.2.2.2.2.2.2.2.2)],[]⟩) fun _ =>
 .r 5 .z fun _ =>
 .wi 3 (w64 ((i2:Int)+1)) ((i2+1:Nat):Int) <|
 .fin (.inr (i2+1)))
 (.fin (.inl (.inr ()))))
 (fun (_:Unit)=>⟨[],[]⟩) fun _ =>
 .fin 0)
noncomputable def R09_usances (r:Realm):Int:=(R09_usances_sk r).val
theorem R09_usances_pst (r:Realm):(R09_usances_sk r).pst (fun (x:Int)=>x=0→r.usances.length≤100):=by
 unfold R09_usances_sk
 try simp only [R09_Within_k,R09_Within_eq]
 exact okQ
theorem R09_usances_post (r:Realm):(fun (x:Int)=>x=0→r.usances.length≤100) (R09_usances r):=have h:=Sk.pval _ (R09_usances_pst r); h
theorem R09_usances_ok (r:Realm):(R09_usances_sk r).obs (fun _=>True):=by
 unfold R09_usances_sk
 try simp only [R09_Within_k,R09_Within_eq]
 exact okG
noncomputable def R09_usances_k (r:Realm):Ctr (Int):=kk tok mixed Tryz.func73 [av r.cells] (fun x=>iv x) true (R09_usances_sk r) (R09_usances r) (fun (_:True)=>R09_usances_ok r) (fun (x:Int)=>x=0→r.usances.length≤100) (R09_usances_post r)
noncomputable def R09_others_sk (r:Realm):Sk (Int) :=
 .br (decide (((r.rates.length:Nat):Int) > 100))
 (.fin 6)
 (.bind true (fun b1=>r.RateOK)
 (.loop (default:Sum (Int) (Unit)) (fun i2=>i2≤r.rates.length∧(∀ i,i < i2→(1≤(r.rates.getD i default).num∧(r.rates.getD i default).num≤1073741824)∧1≤(r.rates.getD i default).den∧(r.rates.getD i default).den≤1073741824)) (fun i2=>r.rates.length - i2) (0:Nat)
 (fun (i2:Nat)=>⟨[(3,iv (i2:Int))],[]⟩) fun i2 =>
 .bnd 1 6 r.rates.length <|
 .br (decide ((i2:Int) < ((r.rates.length:Nat):Int)))
 (.r 6 (.p (ixP (i2:Int) r.rates.length)) fun _ =>
 .r 7 (.dep ((R09_Within_k ((r.rates.getD i2 default).from_) 0 (w64 (((r.currencies.length:Nat):Int) - 1))).c) fun x3=>.wh (!x3) false ((R09_Within_k ((r.rates.getD i2 default).to_) 0 (w64 (((r.currencies.length:Nat):Int) - 1))).c)) fun p9 =>
 .br (((!p9.1)||(!p9.2))||(((r.rates.getD i2 default).from_) == ((r.rates.getD i2 default).to_)))
 (.fin (.inl (.inl 1)))
 (.r 9 (.dep ((R09_Within_k ((r.rates.getD i2 default).num) 1 1073741824).c) fun x5=>.dep (.wh (!x5) false ((R09_Within_k ((r.rates.getD i2 default).den) 1 1073741824).c)) fun x6=>.wh ((!x5)||(!x6)) false ((R09_Within_k ((r.rates.getD i2 default).since) 0 100000).c)) fun p8 =>
 .br (((!p8.1)||(!p8.2.1))||(!p8.2.2))
 (.fin (.inl (.inl 1)))
 (.r 5 .z fun _ =>
 .wi 3 (w64 ((i2:Int)+1)) ((i2+1:Nat):Int) <|
 .fin (.inr (i2+1)))))
 (.fin (.inl (.inr ()))))
 (fun (_:Unit)=>⟨[],[]⟩) fun _ =>
 .br (decide (((r.halts.length:Nat):Int) > 20))
 (.fin 6)
 (.bind true (fun b10=>r.HaltOK)
 (.loop (default:Sum (Int) (Unit)) (fun i11=>i11≤r.halts.length∧(∀ i,i < i11→(r.halts.getD i default).to_≤100000)) (fun i11=>r.halts.length - i11) (0:Nat)
 (fun (i11:Nat)=>⟨[(5,iv (i11:Int))],[]⟩) fun i11 =>
 .bnd 1 7 r.halts.length <|
 .br (decide ((i11:Int) < ((r.halts.length:Nat):Int)))
 (.r 16 (.p (ixP (i11:Int) r.halts.length)) fun _ =>
 .r 17 (.dep ((R09_Within_k ((r.halts.getD i11 default).order) 0 (w64 (((r.orders.length:Nat):Int) - 1))).c) fun x12=>.wh (!x12) false ((R09_Within_k ((r.halts.getD i11 default).from_) 0 ((r.halts.getD i11 default).to_)).c)) fun p14 =>
 .br (((!p14.1)||(!p14.2))||(decide (((r.halts.getD i11 default).to_) > 100000)))
 (.fin (.inl (.inl 1)))
 (.r 15 .z fun _ =>
 .wi 5 (w64 ((i11:Int)+1)) ((i11+1:Nat):Int) <|
 .fin (.inr (i11+1))))
 (.fin (.inl (.inr ()))))
 (fun (_:Unit)=>⟨[],[]⟩) fun _ =>
 .fin 0))
noncomputable def R09_others (r:Realm):Int:=(R09_others_sk r).val
theorem R09_others_pst (r:Realm):(R09_others_sk r).pst (fun (x:Int)=>x=0→r.rates.length≤100∧r.halts.length≤20∧r.RateOK∧r.HaltOK):=by
 unfold R09_others_sk
 try simp only [R09_Within_k,R09_Within_eq,Realm.HaltOK,Realm.RateOK]
 exact okQ
theorem R09_others_post (r:Realm):(fun (x:Int)=>x=0→r.rates.length≤100∧r.halts.length≤20∧r.RateOK∧r.HaltOK) (R09_others r):=have h:=Sk.pval _ (R09_others_pst r); h
theorem R09_others_ok (r:Realm):(R09_others_sk r).obs (fun _=>True):=by
 unfold R09_others_sk
 try simp only [R09_Within_k,R09_Within_eq,Realm.HaltOK,Realm.RateOK]
 exact okG
noncomputable def R09_others_k (r:Realm):Ctr (Int):=kk tok mixed Tryz.func74 [av r.cells] (fun x=>iv x) true (R09_others_sk r) (R09_others r) (fun (_:True)=>R09_others_ok r) (fun (x:Int)=>x=0→r.rates.length≤100∧r.halts.length≤20∧r.RateOK∧r.HaltOK) (R09_others_post r)
noncomputable def R09_Check_sk (r:Realm):Sk (Int) :=
 .r 1 ((R09_cities_k r).c) fun x1 =>
 .bind false (fun b2=>b2=0→r.currencies.length≤8∧r.cities.length≤40∧r.groups.length≤20∧r.firms.length≤200∧r.FirmOK)
 (.br (x1 == 0)
 (.r 3 ((R09_firms_k r).c) fun x3 =>
 .fin (.inr x3))
 (.fin (.inr x1)))
 (fun (b2:Int)=>⟨[(3,iv b2)],[]⟩) fun b2 =>
 .bind false (fun b4=>b4=0→r.currencies.length≤8∧r.cities.length≤40∧r.groups.length≤20∧r.firms.length≤200∧r.FirmOK∧r.ByOK∧r.orders.length≤20∧(∀ i,i < r.orders.length→(r.orders.getD i default).choices.length≤22∧(r.orders.getD i default).rules.length≤22))
 (.br (b2 == 0)
 (.r 5 ((R09_orders_k r).c) fun x5 =>
 .fin (.inr x5))
 (.fin (.inr b2)))
 (fun (b4:Int)=>⟨[(3,iv b4)],[]⟩) fun b4 =>
 .bind false (fun b6=>b6=0→r.currencies.length≤8∧r.cities.length≤40∧r.groups.length≤20∧r.firms.length≤200∧r.FirmOK∧r.ByOK∧r.orders.length≤20∧(∀ i,i < r.orders.length→(r.orders.getD i default).choices.length≤22∧(r.orders.getD i default).rules.length≤22)∧r.usances.length≤100)
 (.br (b4 == 0)
 (.r 7 ((R09_usances_k r).c) fun x7 =>
 .fin (.inr x7))
 (.fin (.inr b4)))
 (fun (b6:Int)=>⟨[(3,iv b6)],[]⟩) fun b6 =>
 .br (b6 == 0)
 (.r 9 ((R09_others_k r).c) fun x8 =>
 .fin x8)
 (.fin b6)
noncomputable def R09_Check (r:Realm):Int:=(R09_Check_sk r).val
theorem R09_Check_pst (r:Realm):(R09_Check_sk r).pst (fun (x:Int)=>x=0→r.currencies.length≤8∧r.cities.length≤40∧r.groups.length≤20∧r.firms.length≤200∧r.FirmOK∧r.ByOK∧r.orders.length≤20∧(∀ i,i < r.orders.length→(r.orders.getD i default).choices.length≤22∧(r.orders.getD i default).rules.length≤22)∧r.usances.length≤100∧r.rates.length≤100∧r.halts.length≤20∧r.RateOK∧r.HaltOK):=by
 refine Sk.pst_of _ ?_
 unfold R09_Check_sk
 simp only [Sk.pstq,Sk.isLoop,reduceCtorEq,ON,kk,R09_cities_k,R09_firms_k,R09_orders_k,R09_others_k,R09_usances_k,maxLen]
 intro x _ hx
 refine ⟨⟨fun h y _ hy h0=>?_,fun h h0=>?_⟩,fun b _ hb=>⟨⟨fun h y _ hy h0=>?_,fun h h0=>?_⟩,fun b2 _ hb2=>⟨⟨fun h y _ hy h0=>?_,fun h h0=>?_⟩,fun b3 _ hb3=>⟨fun h y _ hy h0=>?_,fun h h0=>?_⟩⟩⟩⟩
 ·have hx:=hx (by simpa using h); have hy:=hy hx.2 h0; exact ⟨hx.1,hx.2,hy⟩
 ·rw [h0] at h; exact absurd h (by decide)
 ·have hb:=hb (by simpa using h); exact ⟨hb.1,hb.2.1,hb.2.2.1,hb.2.2.2.1,hb.2.2.2.2,hy h0⟩
 ·rw [h0] at h; exact absurd h (by decide)
 ·have hb:=hb2 (by simpa using h); exact ⟨hb.1,hb.2.1,hb.2.2.1,hb.2.2.2.1,hb.2.2.2.2.1,hb.2.2.2.2.2.1,hb.2.2.2.2.2.2.1,hb.2.2.2.2.2.2.2,hy h0⟩
 ·rw [h0] at h; exact absurd h (by decide)
 ·have hb:=hb3 (by simpa using h); exact ⟨hb.1,hb.2.1,hb.2.2.1,hb.2.2.2.1,hb.2.2.2.2.1,hb.2.2.2.2.2.1,hb.2.2.2.2.2.2.1,hb.2.2.2.2.2.2.2.1,hb.2.2.2.2.2.2.2.2,hy h0⟩
 ·rw [h0] at h; exact absurd h (by decide)
theorem R09_Check_post (r:Realm):(fun (x:Int)=>x=0→r.currencies.length≤8∧r.cities.length≤40∧r.groups.length≤20∧r.firms.length≤200∧r.FirmOK∧r.ByOK∧r.orders.length≤20∧(∀ i,i < r.orders.length→(r.orders.getD i default).choices.length≤22∧(r.orders.getD i default).rules.length≤22)∧r.usances.length≤100∧r.rates.length≤100∧r.halts.length≤20∧r.RateOK∧r.HaltOK) (R09_Check r):=have h:=Sk.pval _ (R09_Check_pst r); h
theorem R09_Check_ok (r:Realm):(R09_Check_sk r).obs (fun _=>True):=by
 refine Sk.obs_of _ ?_
 unfold R09_Check_sk
 simp only [Sk.obq,Sk.isLoop,reduceCtorEq,ON,kk,R09_cities_k,R09_firms_k,R09_orders_k,R09_others_k,R09_usances_k,maxLen]
 intro x _ hx
 refine ⟨⟨fun h y _ hy h0=>?_,fun h h0=>?_⟩,fun b _ hb=>⟨⟨fun h y _ hy h0=>?_,fun h h0=>?_⟩,fun b2 _ hb2=>⟨fun h y _ hy h0=>?_,fun h h0=>?_⟩⟩⟩
 ·have hx:=hx (by simpa using h); have hy:=hy hx.2 h0; exact ⟨hx.1,hx.2,hy⟩
 ·rw [h0] at h; exact absurd h (by decide)
 ·have hb:=hb (by simpa using h); exact ⟨hb.1,hb.2.1,hb.2.2.1,hb.2.2.2.1,hb.2.2.2.2,hy h0⟩
 ·rw [h0] at h; exact absurd h (by decide)
 ·have hb:=hb2 (by simpa using h); exact ⟨hb.1,hb.2.1,hb.2.2.1,hb.2.2.2.1,hb.2.2.2.2.1,hb.2.2.2.2.2.1,hb.2.2.2.2.2.2.1,hb.2.2.2.2.2.2.2,hy h0⟩
 ·rw [h0] at h; exact absurd h (by decide)
noncomputable def R09_Check_k (r:Realm):Ctr (Int):=kk tok mixed Tryz.func32 [av r.cells] (fun x=>iv x) true (R09_Check_sk r) (R09_Check r) (fun (_:True)=>R09_Check_ok r) (fun (x:Int)=>x=0→r.currencies.length≤8∧r.cities.length≤40∧r.groups.length≤20∧r.firms.length≤200∧r.FirmOK∧r.ByOK∧r.orders.length≤20∧(∀ i,i < r.orders.length→(r.orders.getD i default).choices.length≤22∧(r.orders.getD i default).rules.length≤22)∧r.usances.length≤100∧r.rates.length≤100∧r.halts.length≤20∧r.RateOK∧r.HaltOK) (R09_Check_post r)
noncomputable def wording_index_sk (n:Int) (length:Int):Sk (Bool) :=
 .fin ((decide (n≥0))&&(decide (n < length)))
noncomputable def wording_index (n:Int) (length:Int):Bool:=(wording_index_sk n length).val
theorem wording_index_eq (n:Int) (length:Int):wording_index n length=((decide (n≥0))&&(decide (n < length))):=rfl
theorem wording_index_ok (n:Int) (length:Int):(wording_index_sk n length).obs (fun _=>True):=by
 unfold wording_index_sk
 exact okE
noncomputable def wording_index_k (n:Int) (length:Int):Ctr (Bool):=kk tok mixed Tryz.func174 [iv n,iv length] (fun x=>bv x) true (wording_index_sk n length) (wording_index n length) (fun (_:True)=>wording_index_ok n length)
noncomputable def wording_tenor_sk (b:Bill):Sk (Bool) :=
 .bind false (fun _=>True)
 (.br (b.tenor.kind == 0)
 (.fin (.inr (b.tenor.kind == 0)))
 (.fin (.inr (b.tenor.kind == 4))))
 (fun (b1:Bool)=>⟨[(8,bv b1)],[]⟩) fun b1 =>
 .br b1
 (.fin ((b.tenor.n == 0)&&(b.tenor.unit == 0)))
 (.bind false (fun _=>True)
 (.br (b.tenor.kind == 1)
 (.fin (.inr (b.tenor.kind == 1)))
 (.fin (.inr (b.tenor.kind == 2))))
 (fun (b2:Bool)=>⟨[(19,bv b2)],[]⟩) fun b2 =>
 .br b2
 (.fin (((decide (b.tenor.n≥1))&&(decide (b.tenor.n≤400)))&&((b.tenor.unit == 0)||(b.tenor.unit == 1))))
 (.br (b.tenor.kind == 3)
 (.fin (((decide (b.tenor.n≥b.day))&&(decide (b.tenor.n≤100000)))&&(b.tenor.unit == 0)))
 (.fin false)))
noncomputable def wording_tenor (b:Bill):Bool:=(wording_tenor_sk b).val
theorem wording_tenor_ok (b:Bill):(wording_tenor_sk b).obs (fun _=>True):=by
 unfold wording_tenor_sk
 exact okE
noncomputable def wording_tenor_k (b:Bill):Ctr (Bool):=kk tok mixed Tryz.func175 [av b.cells] (fun x=>bv x) true (wording_tenor_sk b) (wording_tenor b) (fun (_:True)=>wording_tenor_ok b)
noncomputable def wording_Check_sk (r:Realm) (b:Bill):Sk (Int) :=
 .r 1 ((realm_Check_k r).c) fun x1 =>
 .br (x1 != 0)
 (.fin x1)
 (.r 5 (.dep ((wording_index_k b.drawer ((r.firms.length:Nat):Int)).c) fun x2=>.dep (.wh x2 true ((wording_index_k b.drawee ((r.firms.length:Nat):Int)).c)) fun x3=>.dep (.wh (x2&&x3) true (.wh (b.payee == (-1)) false ((wording_index_k b.payee ((r.firms.length:Nat):Int)).c))) fun x4=>.wh ((x2&&x3)&&((b.payee == (-1))||x4)) true (.wh (b.need == (-1)) false ((wording_index_k b.need ((r.firms.length:Nat):Int)).c))) fun p12 =>
 .r 6 (.dep (.wh (!(((p12.1&&p12.2.1)&&((b.payee == (-1))||p12.2.2.1))&&((b.need == (-1))||p12.2.2.2))) false ((wording_index_k b.currency ((r.currencies.length:Nat):Int)).c)) fun x6=>.dep (.wh ((!(((p12.1&&p12.2.1)&&((b.payee == (-1))||p12.2.2.1))&&((b.need == (-1))||p12.2.2.2)))||(!x6)) false ((wording_index_k b.city ((r.cities.length:Nat):Int)).c)) fun x7=>.wh (((!(((p12.1&&p12.2.1)&&((b.payee == (-1))||p12.2.2.1))&&((b.need == (-1))||p12.2.2.2)))||(!x6))||(!x7)) false ((wording_index_k b.pay ((r.cities.length:Nat):Int)).c)) fun p11 =>
 .br ((((!(((p12.1&&p12.2.1)&&((b.payee == (-1))||p12.2.2.1))&&((b.need == (-1))||p12.2.2.2)))||(!p11.1))||(!p11.2.1))||(!p11.2.2))
 (.fin 1)
 (.br ((((((decide (b.sum < 1))||(decide (b.sum > 1099511627776)))||(decide (b.day < 0)))||(decide (b.day > 100000)))||(decide (b.rate < 0)))||(decide (b.rate > 1000)))
 (.fin 3)
 (.br ((decide (b.parts < 1))||(decide (b.parts > 4)))
 (.fin 15)
 (.r 12 (.wh (((decide (b.flags < 0))||(decide (b.flags > 7)))||(((andK .i64 b.flags 4) != 0)&&(b.payee == (-1)))) false ((wording_tenor_k b).c)) fun x9 =>
 .br ((((decide (b.flags < 0))||(decide (b.flags > 7)))||(((andK .i64 b.flags 4) != 0)&&(b.payee == (-1))))||(!x9))
 (.fin 2)
 (.br (b.tenor.kind == 4)
 (.r 15 ((realm_Usance_k r b.city b.pay).c) fun x10 =>
 .fin x10.2)
 (.fin 0))))))
noncomputable def wording_Check (r:Realm) (b:Bill):Int:=(wording_Check_sk r b).val
theorem wording_Check_pst (r:Realm) (b:Bill):(wording_Check_sk r b).pst (fun (x:Int)=>x=0→BillR r b∧(b.payee = -1∨(0≤b.payee∧b.payee < r.firms.length))):=by
 unfold wording_Check_sk
 try simp only [realm_Check_k,realm_Usance_k,wording_index_k,wording_tenor_k,wording_index_eq,File.Small,Realm.Small,Realm.HaltOK]
 exact okQ
theorem wording_Check_post (r:Realm) (b:Bill):(fun (x:Int)=>x=0→BillR r b∧(b.payee = -1∨(0≤b.payee∧b.payee < r.firms.length))) (wording_Check r b):=have h:=Sk.pval _ (wording_Check_pst r b); h
theorem wording_Check_ok (r:Realm) (b:Bill) (h_r_Small:r.Small):(wording_Check_sk r b).obs (fun _=>True):=by
 simp only [File.Small,Realm.Small,Realm.HaltOK] at h_r_Small
 unfold wording_Check_sk
 try simp only [realm_Check_k,realm_Usance_k,wording_index_k,wording_tenor_k,wording_index_eq,File.Small,Realm.Small,Realm.HaltOK]
 exact okG
noncomputable def wording_Check_k (r:Realm) (b:Bill):Ctr (Int):=kk tok mixed Tryz.func102 [av r.cells,av b.cells] (fun x=>iv x) true (wording_Check_sk r b) (wording_Check r b) (fun (h:(r.Small))=>wording_Check_ok r b h) (fun (x:Int)=>x=0→BillR r b∧(b.payee = -1∨(0≤b.payee∧b.payee < r.firms.length))) (wording_Check_post r b)
noncomputable def paper_in_sk (n:Int) (low:Int) (high:Int):Sk (Bool) :=
 .fin ((decide (n≥low))&&(decide (n≤high)))
noncomputable def paper_in (n:Int) (low:Int) (high:Int):Bool:=(paper_in_sk n low high).val
theorem paper_in_eq (n:Int) (low:Int) (high:Int):paper_in n low high=((decide (n≥low))&&(decide (n≤high))):=rfl
theorem paper_in_ok (n:Int) (low:Int) (high:Int):(paper_in_sk n low high).obs (fun _=>True):=by
 unfold paper_in_sk
 exact okE
noncomputable def paper_in_k (n:Int) (low:Int) (high:Int):Ctr (Bool):=kk tok mixed Tryz.func104 [iv n,iv low,iv high] (fun x=>bv x) true (paper_in_sk n low high) (paper_in n low high) (fun (_:True)=>paper_in_ok n low high)
noncomputable def paper_stands_sk (f:File) (i:Int) (part:Int):Sk (Bool) :=
 .r 1 (.wh (i == 0) false (.p (ixP i f.signs.length))) fun _ =>
 .fin ((i == 0)||(((f.signs.getD i.toNat default).part) == part))
noncomputable def paper_stands (f:File) (i:Int) (part:Int):Bool:=(paper_stands_sk f i part).val
theorem paper_stands_ok (f:File) (i:Int) (part:Int) (hi:i=0∨(0≤i∧i < (f.signs.length:Int))):(paper_stands_sk f i part).obs (fun _=>True):=by
 unfold paper_stands_sk
 exact okD
noncomputable def paper_stands_k (f:File) (i:Int) (part:Int):Ctr (Bool):=kk tok mixed Tryz.func227 [av f.cells,iv i,iv part] (fun x=>bv x) true (paper_stands_sk f i part) (paper_stands f i part) (fun (h:(i=0∨(0≤i∧i < (f.signs.length:Int))))=>paper_stands_ok f i part h)
noncomputable def paper_bears_sk (f:File) (i:Int) (kinds:List Int):Sk (Bool) :=
 .r 1 (.p (ixP i f.signs.length)) fun _ =>
 .r 2 (.dep ((paper_in_k ((f.signs.getD i.toNat default).for_) 0 (w64 (i - 1))).c) fun x1=>.andl (.wh x1 true (.p (ixP i f.signs.length))) (.dep (.wh x1 true ((paper_stands_k f ((f.signs.getD i.toNat default).for_) ((f.signs.getD i.toNat default).part)).c)) fun x2=>.andl (.wh (x1&&x2) true (.p (ixP ((f.signs.getD i.toNat default).for_) f.signs.length))) (.wh (x1&&x2) true ((slices_Contains_k kinds ((f.signs.getD (((f.signs.getD i.toNat default).for_).toNat) default).kind)).c)))) fun p4 =>
 .fin ((p4.1&&p4.2.1)&&p4.2.2)
noncomputable def paper_bears (f:File) (i:Int) (kinds:List Int):Bool:=(paper_bears_sk f i kinds).val
theorem paper_bears_pst (f:File) (i:Int) (kinds:List Int) (hP:(0≤i∧i < (f.signs.length:Int))∧f.signs.length≤40):(paper_bears_sk f i kinds).pst (fun (x:Bool)=>x=true→0≤(f.signs.getD i.toNat default).for_∧(f.signs.getD i.toNat default).for_ < i):=by
 unfold paper_bears_sk
 try simp only [paper_in_k,paper_stands_k,slices_Contains_k,paper_in_eq]
 exact okQ
theorem paper_bears_post (f:File) (i:Int) (kinds:List Int):(fun (x:Bool)=>((0≤i∧i < (f.signs.length:Int))∧f.signs.length≤40)→(x=true→0≤(f.signs.getD i.toNat default).for_∧(f.signs.getD i.toNat default).for_ < i)) (paper_bears f i kinds):=fun hP=>Sk.pval _ (paper_bears_pst f i kinds hP)
theorem paper_bears_ok (f:File) (i:Int) (kinds:List Int) (hi:0≤i∧i < (f.signs.length:Int)) (hf:f.signs.length≤1000000):(paper_bears_sk f i kinds).obs (fun _=>True):=by
 unfold paper_bears_sk
 try simp only [paper_in_k,paper_stands_k,slices_Contains_k,paper_in_eq]
 exact okG
noncomputable def paper_bears_k (f:File) (i:Int) (kinds:List Int):Ctr (Bool):=kk tok mixed Tryz.func226 [av f.cells,iv i,lv intC kinds] (fun x=>bv x) true (paper_bears_sk f i kinds) (paper_bears f i kinds) (fun (h:(0≤i∧i < (f.signs.length:Int))∧(f.signs.length≤1000000))=>paper_bears_ok f i kinds h.1 h.2) (fun (x:Bool)=>((0≤i∧i < (f.signs.length:Int))∧f.signs.length≤40)→(x=true→0≤(f.signs.getD i.toNat default).for_∧(f.signs.getD i.toNat default).for_ < i)) (paper_bears_post f i kinds)
noncomputable def paper_fits_sk (r:Realm) (f:File) (i:Int):Sk (Bool) :=
 .r 1 (.p (ixP i f.signs.length)) fun _ =>
 .br ((!((i == 0) == (((f.signs.getD i.toNat default).kind) == 0)))||((((f.signs.getD i.toNat default).kind) != 2)&&(((f.signs.getD i.toNat default).to_) != (-1))))
 (.fin false)
 (.br (((((f.signs.getD i.toNat default).kind) != 3)&&(((f.signs.getD i.toNat default).kind) != 4))&&(((f.signs.getD i.toNat default).for_) != (-1)))
 (.fin false)
 (.r 7 ((paper_in_k ((f.signs.getD i.toNat default).sum) 1 1099511627776).c) fun x1 =>
 .br (((f.signs.getD i.toNat default).kind) == 0)
 (.fin ((((((((f.signs.getD i.toNat default).who) == f.bill.drawer)&&(((f.signs.getD i.toNat default).sum) == 0))&&((orK .i64 ((f.signs.getD i.toNat default).flags) 1) == 1))&&(((f.signs.getD i.toNat default).part) == 0))&&(((f.signs.getD i.toNat default).day) == f.bill.day))&&(((f.signs.getD i.toNat default).city) == f.bill.city)))
 (.br (((f.signs.getD i.toNat default).kind) == 1)
 (.fin ((((f.signs.getD i.toNat default).who) == f.bill.drawee)&&(x1&&(((f.signs.getD i.toNat default).flags) == 0))))
 (.br (((f.signs.getD i.toNat default).kind) == 2)
 (.r 15 (.dep ((paper_in_k ((f.signs.getD i.toNat default).to_) (-1) (w64 (((r.firms.length:Nat):Int) - 1))).c) fun x2=>.wh (x2&&(((f.signs.getD i.toNat default).sum) == 0)) true ((paper_in_k ((f.signs.getD i.toNat default).flags) 0 7).c)) fun p4 =>
 .fin (((p4.1&&(((f.signs.getD i.toNat default).sum) == 0))&&p4.2)&&((andK .i64 ((f.signs.getD i.toNat default).flags) 6) != 6)))
 (.br (((f.signs.getD i.toNat default).kind) == 3)
 (.r 17 (.andl (.wh ((((f.signs.getD i.toNat default).sum) == 0)&&(((f.signs.getD i.toNat default).flags) == 0)) true (.o [.nrm (litC intE [0,1,2,4])])) (.wh ((((f.signs.getD i.toNat default).sum) == 0)&&(((f.signs.getD i.toNat default).flags) == 0)) true ((paper_bears_k f i [0,1,2,4]).c))) fun x5 =>
 .fin (((((f.signs.getD i.toNat default).sum) == 0)&&(((f.signs.getD i.toNat default).flags) == 0))&&x5))
 (.br (((f.signs.getD i.toNat default).kind) == 4)
 (.r 19 (.andl (.wh ((x1&&(((f.signs.getD i.toNat default).flags) == 0))&&(((f.signs.getD i.toNat default).who) != f.bill.drawee)) true (.o [.nrm (litC intE [0,2])])) (.wh ((x1&&(((f.signs.getD i.toNat default).flags) == 0))&&(((f.signs.getD i.toNat default).who) != f.bill.drawee)) true ((paper_bears_k f i [0,2]).c))) fun x6 =>
 .fin (((x1&&(((f.signs.getD i.toNat default).flags) == 0))&&(((f.signs.getD i.toNat default).who) != f.bill.drawee))&&x6))
 (.fin false)))))))
noncomputable def paper_fits (r:Realm) (f:File) (i:Int):Bool:=(paper_fits_sk r f i).val
theorem paper_fits_pst (r:Realm) (f:File) (i:Int) (hP:(0≤i∧i < (f.signs.length:Int))∧f.signs.length≤40∧r.firms.length≤200):(paper_fits_sk r f i).pst (fun (x:Bool)=>x=true→FitOK f i.toNat∧ToQ r f i.toNat):=by
 refine Sk.pst_of _ ?_
 unfold paper_fits_sk
 simp only [Sk.pstq,Sk.isLoop,reduceCtorEq,ON,kk,paper_bears_k,paper_in_k,paper_in_eq,forall_eq,maxLen]
 intro _ h1 h2
 obtain ⟨hi,hn,hr⟩:=hP
 have hw:w64 ((r.firms.length:Int) - 1)=(r.firms.length:Int) - 1:=w64_id (by omega) (by omega)
 rw [hw]
 unfold FitOK ToQ SumP
 generalize f.signs.getD i.toNat default=s at *
 have hk0:(s.kind=0↔i.toNat=0)∧(s.kind=2∨s.to_ = -1):=by
  by_cases a:i=0 <;> by_cases b:s.kind=0 <;> simp [a,b] at h1 ⊢ <;> omega
 clear h1
 obtain ⟨q1,q2⟩:=hk0
 refine ⟨fun k0 h=>?_,fun k0=>⟨fun k1 h=>?_,fun k1=>⟨fun k2 h=>?_,fun k2=>⟨fun k3 hb h=>?_,fun k3 k4 hb h=>?_⟩⟩⟩⟩
 all_goals simp only [LN] at *
 ·exact ⟨⟨by omega,by omega,q1,by omega⟩,by omega⟩
 ·exact ⟨⟨by omega,by omega,q1,by omega⟩,by omega⟩
 ·exact ⟨⟨by omega,by omega,q1,by omega⟩,by omega⟩
 ·have:=hb ⟨hi,hn⟩ h.2
  exact ⟨⟨by omega,by omega,q1,fun _=>by omega⟩,by omega⟩
 ·have:=hb ⟨hi,hn⟩ h.2
  exact ⟨⟨by omega,by omega,q1,fun _=>by omega⟩,by omega⟩
theorem paper_fits_post (r:Realm) (f:File) (i:Int):(fun (x:Bool)=>((0≤i∧i < (f.signs.length:Int))∧f.signs.length≤40∧r.firms.length≤200)→(x=true→FitOK f i.toNat∧ToQ r f i.toNat)) (paper_fits r f i):=fun hP=>Sk.pval _ (paper_fits_pst r f i hP)
theorem paper_fits_ok (r:Realm) (f:File) (i:Int) (hi:0≤i∧i < (f.signs.length:Int)) (hf:f.signs.length≤1000000):(paper_fits_sk r f i).obs (fun _=>True):=by
 unfold paper_fits_sk
 try simp only [paper_bears_k,paper_in_k,paper_in_eq]
 exact okG
noncomputable def paper_fits_k (r:Realm) (f:File) (i:Int):Ctr (Bool):=kk tok mixed Tryz.func177 [av r.cells,av f.cells,iv i] (fun x=>bv x) true (paper_fits_sk r f i) (paper_fits r f i) (fun (h:(0≤i∧i < (f.signs.length:Int))∧(f.signs.length≤1000000))=>paper_fits_ok r f i h.1 h.2) (fun (x:Bool)=>((0≤i∧i < (f.signs.length:Int))∧f.signs.length≤40∧r.firms.length≤200)→(x=true→FitOK f i.toNat∧ToQ r f i.toNat)) (paper_fits_post r f i)
end Go.Proofs.YtbcnlpcaajpclaaGreatDoor
