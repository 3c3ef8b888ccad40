/- Functions, as sketches. -/
import Derived.Test.YtgibnoahjhfmcaaGreatDoorRa2
namespace Go.Proofs.YtgibnoahjhfmcaaGreatDoor
open Go Go.Av
set_option linter.unusedSimpArgs false
set_option linter.unusedVariables false
set_option maxHeartbeats 1000000
set_option maxRecDepth 100000
noncomputable def rule_Questions_sk:Sk ((List ByteArray)) :=
 .r 1 ((strings_Fields_k (⟨#[102,111,114,109,32,97,98,108,101,32,98,105,110,100,115,32,116,97,107,101,115,32,110,101,119,116,101,120,116,32,99,117,116,115,32,103,114,97,99,101,32,115,104,111,119,32,112,114,111,116,101,115,116,32,119,105,116,110,101,115,115,32,112,114,111,116,101,115,116,100,97,121,115,32,110,111,116,105,99,101,32,110,111,116,105,99,101,100,97,121,115,32,108,105,109,105,116,97,99,99,101,112,116,111,114,32,108,105,109,105,116,104,111,108,100,101,114,32,108,105,109,105,116,97,109,111,110,103,32,105,110,116,101,114,101,115,116,32,114,101,101,120,99,104,97,110,103,101,32,115,101,116,111,102,102,32,114,101,99,111,103,110,105,122,101,32,99,97,110,99,101,108,100,97,121,115,32,112,114,101,102,101,114]⟩:ByteArray)).c) fun x1 =>
 .fin x1
noncomputable def rule_Questions:(List ByteArray):=(rule_Questions_sk).val
theorem rule_Questions_ok:(rule_Questions_sk).obs (fun _=>True):=by
  exact ⟨of_decide_eq_true (p:=asciiP _) (by kernel_rfl),fun _ _ _=>trivial⟩
noncomputable def rule_Questions_k:Ctr ((List ByteArray)):=kk tok mixed Tryz.func16 [] (fun x=>lv strC x) false (rule_Questions_sk) (rule_Questions) (fun (_:True)=>rule_Questions_ok)
noncomputable def slices_IndexS_sk (s:List ByteArray) (v:ByteArray):Sk (Int) :=
 .bind true (fun b1=>∀ q,q < s.length→((s.getD q default).toList == v.toList)=false)
 (.loop (default:Sum (Int) (Unit)) (fun i2=>∀ q,q < i2→((s.getD q default).toList == v.toList)=false) (fun i2=>s.length - i2) (0:Nat)
 (fun (i2:Nat)=>⟨[(8,iv ((i2:Nat):Int))],[]⟩) fun i2 =>
 .bnd 0 0 s.length <|
 .br (decide (((i2:Nat):Int) < ((s.length:Nat):Int)))
 (.r 4 (.p (ixP ((i2:Nat):Int) s.length)) fun _ =>
 .br (v.toList == (s.getD i2 default).toList)
 (.fin (.inl (.inl ((i2:Nat):Int))))
 (.r 6 .z fun _ =>
 .wi 8 (w64 (((i2:Nat):Int)+1)) ((i2+1:Nat):Int) <|
 .fin (.inr (i2+1))))
 (.fin (.inl (.inr ()))))
 (fun (_:Unit)=>⟨[],[]⟩) fun _ =>
 .fin (-1)
noncomputable def slices_IndexS (s:List ByteArray) (v:ByteArray):Int:=(slices_IndexS_sk s v).val
theorem slices_IndexS_pst (s:List ByteArray) (v:ByteArray):(slices_IndexS_sk s v).pst (fun (x:Int)=>(x = -1∧∀ q,q < s.length→((s.getD q default).toList == v.toList)=false)∨(0≤x∧x < s.length∧((s.getD x.toNat default).toList == v.toList)=true∧∀ q,(q:Nat) < x.toNat→((s.getD q default).toList == v.toList)=false)):=by
  unfold slices_IndexS_sk
  exact okP

theorem slices_IndexS_post (s:List ByteArray) (v:ByteArray):(fun (x:Int)=>(x = -1∧∀ q,q < s.length→((s.getD q default).toList == v.toList)=false)∨(0≤x∧x < s.length∧((s.getD x.toNat default).toList == v.toList)=true∧∀ q,(q:Nat) < x.toNat→((s.getD q default).toList == v.toList)=false)) (slices_IndexS s v):=have h:=Sk.pval _ (slices_IndexS_pst s v); h
theorem slices_IndexS_ok (s:List ByteArray) (v:ByteArray):(slices_IndexS_sk s v).obs (fun _=>True):=by
  unfold slices_IndexS_sk
  exact okD

noncomputable def slices_IndexS_k (s:List ByteArray) (v:ByteArray):Ctr (Int):=kk tok mixed Tryz.func117 [lv strC s,sv v] (fun x=>iv x) true (slices_IndexS_sk s v) (slices_IndexS s v) (fun (_:True)=>slices_IndexS_ok s v) (fun (x:Int)=>(x = -1∧∀ q,q < s.length→((s.getD q default).toList == v.toList)=false)∨(0≤x∧x < s.length∧((s.getD x.toNat default).toList == v.toList)=true∧∀ q,(q:Nat) < x.toNat→((s.getD q default).toList == v.toList)=false)) (slices_IndexS_post s v)
noncomputable def rule_reader_one_sk (x_:Reader) (names:List ByteArray):Sk (Except Wrong (Int × Reader)) :=
 .rx 1 .z (fun _=>(rule_reader_name_kx x_).c) (fun _ x1=>(slices_IndexS_k names x1.1).c) (fun e_=>.error e_) fun _ x1 x2 =>
 .br (decide (x2 < 0))
 (.up ⟨[(0,.ptr 888020 0)],Reader.bx 888020 888020 x1.2⟩ <|
 .rx 3 .z (fun _=>(rule_reader_fail_kx x1.2 10).c) (fun _ _=>.z) (fun e_=>.error e_) fun _ x3 _ =>
 .fin (.ok (x2,x3)))
 (.fin (.ok (x2,x1.2)))
noncomputable def rule_reader_one (x_:Reader) (names:List ByteArray):Except Wrong (Int × Reader):=(rule_reader_one_sk x_ names).val
theorem rule_reader_one_pst (x_:Reader) (names:List ByteArray) (hP:Rgd x_):(rule_reader_one_sk x_ names).pst (fun v=>OkP (fun x=>x.2=x_∧x_.at_ < (x_.l.length:Int)∧0≤x.1∧x.1 < (names.length:Int)) v):=by
  refine Sk.pst_of _ ?_
  unfold rule_reader_one_sk
  simp only [Sk.pstq,Sk.isLoop,reduceCtorEq,ON,kk,rule_reader_fail_kx,rule_reader_name_kx,slices_IndexS_k,CtrX.c,leafX,CtrX.c,CtrB.c,maxLen]
  all_goals (repeat' first | assumption | (refine rx_ob ?_ ?_ ?_) | (refine rx_ps ?_ ?_ ?_) | (refine rx_ob0 ?_ ?_) | (refine r_ob ?_ ?_) | (refine r_ps ?_ ?_) | (apply And.intro) | (intro h))
  all_goals (try simp only [Rgd,Rs,ixP,OkP_ok,OkP_error,leafE,LN] at *)
  all_goals first | trivial | assumption | omega | grind [w64_id] | (simp (disch:=omega) only [w64_id] at *; omega) | (simp only [szP,maxLen] at *; omega) | (simp (disch:=omega) only [w64_id,szP,maxLen] at *; omega) | grind | (simp_all; done) | (simp_all; omega)

theorem rule_reader_one_post (x_:Reader) (names:List ByteArray):(fun v=>(Rgd x_)→(OkP (fun x=>x.2=x_∧x_.at_ < (x_.l.length:Int)∧0≤x.1∧x.1 < (names.length:Int)) v)) (rule_reader_one x_ names):=fun hP=>have h:=Sk.pval _ (rule_reader_one_pst x_ names hP); h
theorem rule_reader_one_ok (x_:Reader) (names:List ByteArray) (hr:Rgd x_):(rule_reader_one_sk x_ names).obs (fun _=>True):=by
  refine Sk.obs_of _ ?_
  unfold rule_reader_one_sk
  simp only [Sk.obq,Sk.isLoop,reduceCtorEq,ON,kk,rule_reader_fail_kx,rule_reader_name_kx,slices_IndexS_k,CtrX.c,leafX,CtrX.c,CtrB.c,maxLen]
  all_goals (repeat' first | assumption | (refine rx_ob ?_ ?_ ?_) | (refine rx_ps ?_ ?_ ?_) | (refine rx_ob0 ?_ ?_) | (refine r_ob ?_ ?_) | (refine r_ps ?_ ?_) | (apply And.intro) | (intro h))
  all_goals (try simp only [Rgd,Rs,ixP,OkP_ok,OkP_error,leafE,LN] at *)
  all_goals first | trivial | assumption | omega | grind [w64_id] | (simp (disch:=omega) only [w64_id] at *; omega) | (simp only [szP,maxLen] at *; omega) | (simp (disch:=omega) only [w64_id,szP,maxLen] at *; omega) | grind | (simp_all; done) | (simp_all; omega)

theorem rule_reader_one_fnX (x_:Reader) (names:List ByteArray) (hr:Rgd x_):FnX Tryz.prog 87 [.ptr 888020 0,lv strC names] (Reader.bx 888020 888020 x_) [(0,888020)] (fun (x:Int × Reader)=>(iv x.1:AV)) (fun (x:Int × Reader)=>Reader.bx 888020 888025 x.2) panV (rule_reader_one x_ names) :=
  FnX.sk tok mixed (fun x=>iv x.1) (fun x=>Reader.bx 888020 888025 x.2) panV [(0,888020)] Tryz.func87 rfl (by kernel_rfl) 3000 (rule_reader_one_sk x_ names) (by kernel_rfl) (rule_reader_one_ok x_ names hr)
noncomputable def rule_reader_one_kx (x_:Reader) (names:List ByteArray):CtrX Wrong (Int × Reader):=⟨Tryz.prog,87,[.ptr 888020 0,lv strC names],(Reader.bx 888020 888020 x_),[(0,888020)],fun x=>iv x.1,fun x=>Reader.bx 888020 888025 x.2,panV,rule_reader_one x_ names,(Rgd x_),fun h=>rule_reader_one_fnX x_ names h,fun v=>(Rgd x_)→(OkP (fun x=>x.2=x_∧x_.at_ < (x_.l.length:Int)∧0≤x.1∧x.1 < (names.length:Int)) v),rule_reader_one_post x_ names⟩
noncomputable def rule_reader_choice_c1_sk (c_:Choice) (v:Int):Sk (Bool) :=
 .fin (c_.ask == v)
noncomputable def rule_reader_choice_c1 (c_:Choice) (v:Int):Bool:=(rule_reader_choice_c1_sk c_ v).val
theorem rule_reader_choice_c1_eq (c_:Choice) (v:Int):rule_reader_choice_c1 c_ v=(c_.ask == v):=rfl
theorem rule_reader_choice_c1_ok (c_:Choice) (v:Int):(rule_reader_choice_c1_sk c_ v).obs (fun _=>True):=by
  unfold rule_reader_choice_c1_sk
  exact okE

noncomputable def rule_reader_choice_c1_k (c_:Choice) (v:Int):Ctr (Bool):=kk tok mixed Tryz.func89 [av c_.cells,.ref [dI v]] (fun x=>bv x) true (rule_reader_choice_c1_sk c_ v) (rule_reader_choice_c1 c_ v) (fun (_:True)=>rule_reader_choice_c1_ok c_ v)
noncomputable def slices_IndexFunc_89_sk (s:List Choice) (v:Int):Sk (Int) :=
 .bind true (fun b1=>∀ q,q < s.length→rule_reader_choice_c1 (s.getD q default) v=false)
 (.loop (default:Sum (Int) (Unit)) (fun i2=>∀ q,q < i2→rule_reader_choice_c1 (s.getD q default) v=false) (fun i2=>s.length - i2) (0:Nat)
 (fun (i2:Nat)=>⟨[(8,iv ((i2:Nat):Int))],[]⟩) fun i2 =>
 .bnd 0 0 s.length <|
 .br (decide (((i2:Nat):Int) < ((s.length:Nat):Int)))
 (.r 4 (.andl (.p (ixP ((i2:Nat):Int) s.length)) ((rule_reader_choice_c1_k (s.getD i2 default) v).c)) fun x3 =>
 .br x3
 (.fin (.inl (.inl ((i2:Nat):Int))))
 (.r 6 .z fun _ =>
 .wi 8 (w64 (((i2:Nat):Int)+1)) ((i2+1:Nat):Int) <|
 .fin (.inr (i2+1))))
 (.fin (.inl (.inr ()))))
 (fun (_:Unit)=>⟨[],[]⟩) fun _ =>
 .fin (-1)
noncomputable def slices_IndexFunc_89 (s:List Choice) (v:Int):Int:=(slices_IndexFunc_89_sk s v).val
theorem slices_IndexFunc_89_pst (s:List Choice) (v:Int):(slices_IndexFunc_89_sk s v).pst (fun (x:Int)=>(x = -1∧∀ q,q < s.length→rule_reader_choice_c1 (s.getD q default) v=false)∨(0≤x∧x < s.length∧rule_reader_choice_c1 (s.getD x.toNat default) v=true∧∀ q,(q:Nat) < x.toNat→rule_reader_choice_c1 (s.getD q default) v=false)):=by
  unfold slices_IndexFunc_89_sk
  try simp only [rule_reader_choice_c1_k,rule_reader_choice_c1_eq]
  exact okQ

theorem slices_IndexFunc_89_post (s:List Choice) (v:Int):(fun (x:Int)=>(x = -1∧∀ q,q < s.length→rule_reader_choice_c1 (s.getD q default) v=false)∨(0≤x∧x < s.length∧rule_reader_choice_c1 (s.getD x.toNat default) v=true∧∀ q,(q:Nat) < x.toNat→rule_reader_choice_c1 (s.getD q default) v=false)) (slices_IndexFunc_89 s v):=have h:=Sk.pval _ (slices_IndexFunc_89_pst s v); h
theorem slices_IndexFunc_89_ok (s:List Choice) (v:Int):(slices_IndexFunc_89_sk s v).obs (fun _=>True):=by
  unfold slices_IndexFunc_89_sk
  try simp only [rule_reader_choice_c1_k,rule_reader_choice_c1_eq]
  exact okG

noncomputable def slices_IndexFunc_89_k (s:List Choice) (v:Int):Ctr (Int):=kk tok mixed Tryz.func118 [lv Choice.cells s,.fn 89 [.ref [dI v]]] (fun x=>iv x) true (slices_IndexFunc_89_sk s v) (slices_IndexFunc_89 s v) (fun (_:True)=>slices_IndexFunc_89_ok s v) (fun (x:Int)=>(x = -1∧∀ q,q < s.length→rule_reader_choice_c1 (s.getD q default) v=false)∨(0≤x∧x < s.length∧rule_reader_choice_c1 (s.getD x.toNat default) v=true∧∀ q,(q:Nat) < x.toNat→rule_reader_choice_c1 (s.getD q default) v=false)) (slices_IndexFunc_89_post s v)
noncomputable def slices_ContainsFunc_89_sk (s:List Choice) (v:Int):Sk (Bool) :=
 .r 1 ((slices_IndexFunc_89_k s v).c) fun x1 =>
 .fin (decide (x1≥0))
noncomputable def slices_ContainsFunc_89 (s:List Choice) (v:Int):Bool:=(slices_ContainsFunc_89_sk s v).val
theorem slices_ContainsFunc_89_pst (s:List Choice) (v:Int):(slices_ContainsFunc_89_sk s v).pst (fun (x:Bool)=>(x=true↔∃ q,q < s.length∧rule_reader_choice_c1 (s.getD q default) v=true)):=by
  unfold slices_ContainsFunc_89_sk
  try simp only [slices_IndexFunc_89_k]
  exact okP

theorem slices_ContainsFunc_89_post (s:List Choice) (v:Int):(fun (x:Bool)=>(x=true↔∃ q,q < s.length∧rule_reader_choice_c1 (s.getD q default) v=true)) (slices_ContainsFunc_89 s v):=have h:=Sk.pval _ (slices_ContainsFunc_89_pst s v); h
theorem slices_ContainsFunc_89_ok (s:List Choice) (v:Int):(slices_ContainsFunc_89_sk s v).obs (fun _=>True):=by
  unfold slices_ContainsFunc_89_sk
  try simp only [slices_IndexFunc_89_k]
  exact okE

noncomputable def slices_ContainsFunc_89_k (s:List Choice) (v:Int):Ctr (Bool):=kk tok mixed Tryz.func88 [lv Choice.cells s,.fn 89 [.ref [dI v]]] (fun x=>bv x) true (slices_ContainsFunc_89_sk s v) (slices_ContainsFunc_89 s v) (fun (_:True)=>slices_ContainsFunc_89_ok s v) (fun (x:Bool)=>(x=true↔∃ q,q < s.length∧rule_reader_choice_c1 (s.getD q default) v=true)) (slices_ContainsFunc_89_post s v)
noncomputable def rule_Factors_sk:Sk ((List ByteArray)) :=
 .r 1 ((strings_Fields_k (⟨#[102,111,114,117,109,32,115,105,103,110,32,112,97,121,32,100,114,97,119,32,115,101,97,116]⟩:ByteArray)).c) fun x1 =>
 .fin x1
noncomputable def rule_Factors:(List ByteArray):=(rule_Factors_sk).val
theorem rule_Factors_ok:(rule_Factors_sk).obs (fun _=>True):=by
  exact ⟨of_decide_eq_true (p:=asciiP _) (by kernel_rfl),fun _ _ _=>trivial⟩
noncomputable def rule_Factors_k:Ctr ((List ByteArray)):=kk tok mixed Tryz.func20 [] (fun x=>lv strC x) false (rule_Factors_sk) (rule_Factors) (fun (_:True)=>rule_Factors_ok)
noncomputable def rule_reader_choice_sk (x_:Reader) (o:Order):Sk (Except Wrong (Reader × Order)) :=
 .rx 0 rule_Questions_k.c (fun x1=>(rule_reader_one_kx x_ x1).c) (fun _ _=>.z) (fun e_=>.error e_) fun _ x2 _ =>
 .r 1 ((slices_ContainsFunc_89_k o.choices x2.1).c) fun x3 =>
 .bind false (fun b4=>Rgd b4∧Rs x_ b4∧(b4).at_ < (x_.l.length:Int)∧x3=false)
 (.br x3
 (.up ⟨[(0,.ptr 888020 0)],Reader.bx 888020 888020 x2.2⟩ <|
 .rx 2 .z (fun _=>(rule_reader_fail_kx x2.2 5).c) (fun _ _=>.z) (fun e_=>.inl (.error e_)) fun _ x5 _ =>
 .fin (.inr x5))
 (.fin (.inr x2.2)))
 (fun (b4:Reader)=>⟨[],Reader.bx 888020 888020 b4⟩) fun b4 =>
 .rx 4 .z (fun _=>(rule_reader_need_kx ({ l:=b4.l,at_:=w64 (b4.at_+1),end_:=b4.end_,list:=b4.list }:Reader) (⟨#[58]⟩:ByteArray)).c) (fun _ _=>.z) (fun e_=>.error e_) fun _ x6 _ =>
 .up ⟨[(0,.ptr 888020 0)],Reader.bx 888020 888020 x6⟩ <|
 .rx 5 rule_Factors_k.c (fun x8=>(rule_reader_one_kx x6 x8).c) (fun _ _=>.z) (fun e_=>.error e_) fun _ x9 _ =>
 .r 6 .z fun _ =>
 .up ⟨[(0,.ptr 888020 0)],Reader.bx 888020 888020 ({ l:=x9.2.l,at_:=w64 (x9.2.at_+1),end_:=x9.2.end_,list:=x9.2.list }:Reader)⟩ <|
 .r 7 (.depr ((rule_reader_take_kb ({ l:=x9.2.l,at_:=w64 (x9.2.at_+1),end_:=x9.2.end_,list:=x9.2.list }:Reader) (⟨#[119,104,111,108,101]⟩:ByteArray)).c) fun x10=>.andl (.o [.nrm (litC Choice.E [({ ask:=x2.1,by_:=x9.1,whole:=x10.1 }:Choice)])]) (.andl (.o [.nrm (catC Choice.E o.choices [({ ask:=x2.1,by_:=x9.1,whole:=x10.1 }:Choice)])]) (.andl (.t (Choice.E.ones [({ ask:=x2.1,by_:=x9.1,whole:=x10.1 }:Choice)])) (.p (szP o.choices.length [({ ask:=x2.1,by_:=x9.1,whole:=x10.1 }:Choice)].length 24))))) fun x10 =>
 .up ⟨[(0,.ptr 888020 0)],Reader.bx 888020 888020 x10.2⟩ <|
 .rx 8 .z (fun _=>(rule_reader_need_kx x10.2 (⟨#[59]⟩:ByteArray)).c) (fun _ _=>.z) (fun e_=>.error e_) fun _ x11 _ =>
 .fin (.ok (x11,({ name:=o.name,accepts:=o.accepts,choices:=o.choices++[({ ask:=x2.1,by_:=x9.1,whole:=x10.1 }:Choice)],rules:=o.rules }:Order)))
noncomputable def rule_reader_choice (x_:Reader) (o:Order):Except Wrong (Reader × Order):=(rule_reader_choice_sk x_ o).val
theorem rule_reader_choice_pst (x_:Reader) (o:Order) (hP:(Rgd x_)∧(o.choices.length≤20000)):(rule_reader_choice_sk x_ o).pst (fun v=>OkP (fun x=>Rs x_ x.1∧x_.at_+1≤x.1.at_∧x.2.choices.length≤o.choices.length+1∧x.2.rules=o.rules∧((o.choices.map (·.ask)).Nodup→(x.2.choices.map (·.ask)).Nodup)) v):=by
  refine Sk.pst_of _ ?_
  unfold rule_reader_choice_sk
  simp only [Sk.pstq,Sk.isLoop,reduceCtorEq,ON,kk,rule_Factors_k,rule_Questions_k,rule_reader_fail_kx,rule_reader_need_kx,rule_reader_one_kx,rule_reader_take_kb,slices_ContainsFunc_89_k,CtrB.c,CtrX.c,leafX,CtrX.c,CtrB.c,maxLen]
  obtain ⟨hr,ho⟩:=hP
  all_goals (repeat' first | assumption | (refine rx_ob ?_ ?_ ?_) | (refine rx_ps ?_ ?_ ?_) | (refine rx_ob0 ?_ ?_) | (refine r_ob ?_ ?_) | (refine r_ps ?_ ?_) | (refine nodup_snoc ‹_› ‹_› ?_) | (apply And.intro) | (intro h))
  all_goals (try simp only [Rgd,Rs,ixP,OkP_ok,OkP_error,leafE,LN] at *)
  all_goals first | trivial | assumption | omega | grind [w64_id] | (simp (disch:=omega) only [w64_id] at *; omega) | (simp only [szP,maxLen] at *; omega) | (simp (disch:=omega) only [w64_id,szP,maxLen] at *; omega) | grind | (simp_all; done) | (simp_all; omega)

theorem rule_reader_choice_post (x_:Reader) (o:Order):(fun v=>((Rgd x_)∧(o.choices.length≤20000))→(OkP (fun x=>Rs x_ x.1∧x_.at_+1≤x.1.at_∧x.2.choices.length≤o.choices.length+1∧x.2.rules=o.rules∧((o.choices.map (·.ask)).Nodup→(x.2.choices.map (·.ask)).Nodup)) v)) (rule_reader_choice x_ o):=fun hP=>have h:=Sk.pval _ (rule_reader_choice_pst x_ o hP); h
theorem rule_reader_choice_ok (x_:Reader) (o:Order) (hr:Rgd x_) (ho:o.choices.length≤20000):(rule_reader_choice_sk x_ o).obs (fun _=>True):=by
  refine Sk.obs_of _ ?_
  unfold rule_reader_choice_sk
  simp only [Sk.obq,Sk.isLoop,reduceCtorEq,ON,kk,rule_Factors_k,rule_Questions_k,rule_reader_fail_kx,rule_reader_need_kx,rule_reader_one_kx,rule_reader_take_kb,slices_ContainsFunc_89_k,CtrB.c,CtrX.c,leafX,CtrX.c,CtrB.c,maxLen]
  all_goals (repeat' first | assumption | (refine rx_ob ?_ ?_ ?_) | (refine rx_ps ?_ ?_ ?_) | (refine rx_ob0 ?_ ?_) | (refine r_ob ?_ ?_) | (refine r_ps ?_ ?_) | (apply And.intro) | (intro h))
  all_goals (try simp only [Rgd,Rs,ixP,OkP_ok,OkP_error,leafE,LN] at *)
  all_goals first | trivial | assumption | omega | grind [w64_id] | (simp (disch:=omega) only [w64_id] at *; omega) | (simp only [szP,maxLen] at *; omega) | (simp (disch:=omega) only [w64_id,szP,maxLen] at *; omega) | grind | (simp_all; done) | (simp_all; omega)

theorem rule_reader_choice_fnX (x_:Reader) (o:Order) (hr:Rgd x_) (ho:o.choices.length≤20000):FnX Tryz.prog 47 [.ptr 888020 0,.ptr 888010 0] (Reader.bx 888020 888020 x_++Order.bx 888010 888010 o) [(0,888020),(1,888010)] (fun (x:Reader × Order)=>(.tup []:AV)) (fun (x:Reader × Order)=>Reader.bx 888020 888025 x.1++Order.bx 888010 888015 x.2) panV (rule_reader_choice x_ o) :=
  FnX.sk tok mixed (fun x=>.tup []) (fun x=>Reader.bx 888020 888025 x.1++Order.bx 888010 888015 x.2) panV [(0,888020),(1,888010)] Tryz.func47 rfl (by kernel_rfl) 3000 (rule_reader_choice_sk x_ o) (by kernel_rfl) (rule_reader_choice_ok x_ o hr ho)
noncomputable def rule_reader_choice_kx (x_:Reader) (o:Order):CtrX Wrong (Reader × Order):=⟨Tryz.prog,47,[.ptr 888020 0,.ptr 888010 0],(Reader.bx 888020 888020 x_++Order.bx 888010 888010 o),[(0,888020),(1,888010)],fun x=>.tup [],fun x=>Reader.bx 888020 888025 x.1++Order.bx 888010 888015 x.2,panV,rule_reader_choice x_ o,(Rgd x_)∧(o.choices.length≤20000),fun h=>rule_reader_choice_fnX x_ o h.1 h.2,fun v=>((Rgd x_)∧(o.choices.length≤20000))→(OkP (fun x=>Rs x_ x.1∧x_.at_+1≤x.1.at_∧x.2.choices.length≤o.choices.length+1∧x.2.rules=o.rules∧((o.choices.map (·.ask)).Nodup→(x.2.choices.map (·.ask)).Nodup)) v),rule_reader_choice_post x_ o⟩
noncomputable def rule_reader_rule_c1_sk (c_:Rule) (v:Int):Sk (Bool) :=
 .fin (c_.ask == v)
noncomputable def rule_reader_rule_c1 (c_:Rule) (v:Int):Bool:=(rule_reader_rule_c1_sk c_ v).val
theorem rule_reader_rule_c1_eq (c_:Rule) (v:Int):rule_reader_rule_c1 c_ v=(c_.ask == v):=rfl
theorem rule_reader_rule_c1_ok (c_:Rule) (v:Int):(rule_reader_rule_c1_sk c_ v).obs (fun _=>True):=by
  unfold rule_reader_rule_c1_sk
  exact okE

noncomputable def rule_reader_rule_c1_k (c_:Rule) (v:Int):Ctr (Bool):=kk tok mixed Tryz.func91 [av c_.cells,.ref [dI v]] (fun x=>bv x) true (rule_reader_rule_c1_sk c_ v) (rule_reader_rule_c1 c_ v) (fun (_:True)=>rule_reader_rule_c1_ok c_ v)
noncomputable def slices_IndexFunc_91_sk (s:List Rule) (v:Int):Sk (Int) :=
 .bind true (fun b1=>∀ q,q < s.length→rule_reader_rule_c1 (s.getD q default) v=false)
 (.loop (default:Sum (Int) (Unit)) (fun i2=>∀ q,q < i2→rule_reader_rule_c1 (s.getD q default) v=false) (fun i2=>s.length - i2) (0:Nat)
 (fun (i2:Nat)=>⟨[(8,iv ((i2:Nat):Int))],[]⟩) fun i2 =>
 .bnd 0 0 s.length <|
 .br (decide (((i2:Nat):Int) < ((s.length:Nat):Int)))
 (.r 4 (.andl (.p (ixP ((i2:Nat):Int) s.length)) ((rule_reader_rule_c1_k (s.getD i2 default) v).c)) fun x3 =>
 .br x3
 (.fin (.inl (.inl ((i2:Nat):Int))))
 (.r 6 .z fun _ =>
 .wi 8 (w64 (((i2:Nat):Int)+1)) ((i2+1:Nat):Int) <|
 .fin (.inr (i2+1))))
 (.fin (.inl (.inr ()))))
 (fun (_:Unit)=>⟨[],[]⟩) fun _ =>
 .fin (-1)
noncomputable def slices_IndexFunc_91 (s:List Rule) (v:Int):Int:=(slices_IndexFunc_91_sk s v).val
theorem slices_IndexFunc_91_pst (s:List Rule) (v:Int):(slices_IndexFunc_91_sk s v).pst (fun (x:Int)=>(x = -1∧∀ q,q < s.length→rule_reader_rule_c1 (s.getD q default) v=false)∨(0≤x∧x < s.length∧rule_reader_rule_c1 (s.getD x.toNat default) v=true∧∀ q,(q:Nat) < x.toNat→rule_reader_rule_c1 (s.getD q default) v=false)):=by
  unfold slices_IndexFunc_91_sk
  try simp only [rule_reader_rule_c1_k,rule_reader_rule_c1_eq]
  exact okQ

theorem slices_IndexFunc_91_post (s:List Rule) (v:Int):(fun (x:Int)=>(x = -1∧∀ q,q < s.length→rule_reader_rule_c1 (s.getD q default) v=false)∨(0≤x∧x < s.length∧rule_reader_rule_c1 (s.getD x.toNat default) v=true∧∀ q,(q:Nat) < x.toNat→rule_reader_rule_c1 (s.getD q default) v=false)) (slices_IndexFunc_91 s v):=have h:=Sk.pval _ (slices_IndexFunc_91_pst s v); h
theorem slices_IndexFunc_91_ok (s:List Rule) (v:Int):(slices_IndexFunc_91_sk s v).obs (fun _=>True):=by
  unfold slices_IndexFunc_91_sk
  try simp only [rule_reader_rule_c1_k,rule_reader_rule_c1_eq]
  exact okG

noncomputable def slices_IndexFunc_91_k (s:List Rule) (v:Int):Ctr (Int):=kk tok mixed Tryz.func119 [lv Rule.cells s,.fn 91 [.ref [dI v]]] (fun x=>iv x) true (slices_IndexFunc_91_sk s v) (slices_IndexFunc_91 s v) (fun (_:True)=>slices_IndexFunc_91_ok s v) (fun (x:Int)=>(x = -1∧∀ q,q < s.length→rule_reader_rule_c1 (s.getD q default) v=false)∨(0≤x∧x < s.length∧rule_reader_rule_c1 (s.getD x.toNat default) v=true∧∀ q,(q:Nat) < x.toNat→rule_reader_rule_c1 (s.getD q default) v=false)) (slices_IndexFunc_91_post s v)
noncomputable def slices_ContainsFunc_91_sk (s:List Rule) (v:Int):Sk (Bool) :=
 .r 1 ((slices_IndexFunc_91_k s v).c) fun x1 =>
 .fin (decide (x1≥0))
noncomputable def slices_ContainsFunc_91 (s:List Rule) (v:Int):Bool:=(slices_ContainsFunc_91_sk s v).val
theorem slices_ContainsFunc_91_pst (s:List Rule) (v:Int):(slices_ContainsFunc_91_sk s v).pst (fun (x:Bool)=>(x=true↔∃ q,q < s.length∧rule_reader_rule_c1 (s.getD q default) v=true)):=by
  unfold slices_ContainsFunc_91_sk
  try simp only [slices_IndexFunc_91_k]
  exact okP

theorem slices_ContainsFunc_91_post (s:List Rule) (v:Int):(fun (x:Bool)=>(x=true↔∃ q,q < s.length∧rule_reader_rule_c1 (s.getD q default) v=true)) (slices_ContainsFunc_91 s v):=have h:=Sk.pval _ (slices_ContainsFunc_91_pst s v); h
theorem slices_ContainsFunc_91_ok (s:List Rule) (v:Int):(slices_ContainsFunc_91_sk s v).obs (fun _=>True):=by
  unfold slices_ContainsFunc_91_sk
  try simp only [slices_IndexFunc_91_k]
  exact okE

noncomputable def slices_ContainsFunc_91_k (s:List Rule) (v:Int):Ctr (Bool):=kk tok mixed Tryz.func90 [lv Rule.cells s,.fn 91 [.ref [dI v]]] (fun x=>bv x) true (slices_ContainsFunc_91_sk s v) (slices_ContainsFunc_91 s v) (fun (_:True)=>slices_ContainsFunc_91_ok s v) (fun (x:Bool)=>(x=true↔∃ q,q < s.length∧rule_reader_rule_c1 (s.getD q default) v=true)) (slices_ContainsFunc_91_post s v)
noncomputable def rule_reader_atom_kr (rv:Reader→Except Wrong (Term × Reader)) (rp:Reader→Prop) (rf:∀ (x_:Reader),rp x_→(FnX Tryz.prog 120 [.ptr 888020 0] (Reader.bx 888020 888020 x_) [(0,888020)] (fun (x:Term × Reader)=>(av x.1.cells:AV)) (fun (x:Term × Reader)=>Reader.bx 888020 888025 x.2) panV (rv x_))∧(fun v=>OkP (fun x=>Rs x_ x.2∧x_.at_+1≤x.2.at_) v) (rv x_)) (x_:Reader):CtrX Wrong (Term × Reader):=⟨Tryz.prog,120,[.ptr 888020 0],(Reader.bx 888020 888020 x_),[(0,888020)],fun x=>av x.1.cells,fun x=>Reader.bx 888020 888025 x.2,panV,rv x_,rp x_,fun h=>(rf x_ h).1,fun v_=>rp x_→(fun v=>OkP (fun x=>Rs x_ x.2∧x_.at_+1≤x.2.at_) v) v_,fun h=>(rf x_ h).2⟩
noncomputable def rule_operators_sk:Sk ((List (Int × ByteArray))) :=
 .r 1 (.andl (.o [.nrmm (mkM dS)]) (.andl (.o [.nrmm (insL dS ([]:List (Int × ByteArray)) (4:Int) (⟨#[97,110,100]⟩:ByteArray))]) (.andl (.o [.nrmm (insL dS (([]:List (Int × ByteArray))++[(4,(⟨#[97,110,100]⟩:ByteArray))]) (5:Int) (⟨#[111,114]⟩:ByteArray))]) (.andl (.o [.nrmm (insL dS ((([]:List (Int × ByteArray))++[(4,(⟨#[97,110,100]⟩:ByteArray))])++[(5,(⟨#[111,114]⟩:ByteArray))]) (7:Int) (⟨#[60]⟩:ByteArray))]) (.andl (.o [.nrmm (insL dS (((([]:List (Int × ByteArray))++[(4,(⟨#[97,110,100]⟩:ByteArray))])++[(5,(⟨#[111,114]⟩:ByteArray))])++[(7,(⟨#[60]⟩:ByteArray))]) (8:Int) (⟨#[61]⟩:ByteArray))]) (.andl (.o [.nrmm (insL dS ((((([]:List (Int × ByteArray))++[(4,(⟨#[97,110,100]⟩:ByteArray))])++[(5,(⟨#[111,114]⟩:ByteArray))])++[(7,(⟨#[60]⟩:ByteArray))])++[(8,(⟨#[61]⟩:ByteArray))]) (9:Int) (⟨#[43]⟩:ByteArray))]) (.andl (.o [.nrmm (insL dS (((((([]:List (Int × ByteArray))++[(4,(⟨#[97,110,100]⟩:ByteArray))])++[(5,(⟨#[111,114]⟩:ByteArray))])++[(7,(⟨#[60]⟩:ByteArray))])++[(8,(⟨#[61]⟩:ByteArray))])++[(9,(⟨#[43]⟩:ByteArray))]) (10:Int) (⟨#[45]⟩:ByteArray))]) (.andl (.o [.nrmm (insL dS ((((((([]:List (Int × ByteArray))++[(4,(⟨#[97,110,100]⟩:ByteArray))])++[(5,(⟨#[111,114]⟩:ByteArray))])++[(7,(⟨#[60]⟩:ByteArray))])++[(8,(⟨#[61]⟩:ByteArray))])++[(9,(⟨#[43]⟩:ByteArray))])++[(10,(⟨#[45]⟩:ByteArray))]) (11:Int) (⟨#[42]⟩:ByteArray))]) (.andl (.o [.nrmm (insL dS (((((((([]:List (Int × ByteArray))++[(4,(⟨#[97,110,100]⟩:ByteArray))])++[(5,(⟨#[111,114]⟩:ByteArray))])++[(7,(⟨#[60]⟩:ByteArray))])++[(8,(⟨#[61]⟩:ByteArray))])++[(9,(⟨#[43]⟩:ByteArray))])++[(10,(⟨#[45]⟩:ByteArray))])++[(11,(⟨#[42]⟩:ByteArray))]) (12:Int) (⟨#[109,105,110]⟩:ByteArray))]) (.o [.nrmm (insL dS ((((((((([]:List (Int × ByteArray))++[(4,(⟨#[97,110,100]⟩:ByteArray))])++[(5,(⟨#[111,114]⟩:ByteArray))])++[(7,(⟨#[60]⟩:ByteArray))])++[(8,(⟨#[61]⟩:ByteArray))])++[(9,(⟨#[43]⟩:ByteArray))])++[(10,(⟨#[45]⟩:ByteArray))])++[(11,(⟨#[42]⟩:ByteArray))])++[(12,(⟨#[109,105,110]⟩:ByteArray))]) (13:Int) (⟨#[109,97,120]⟩:ByteArray))])))))))))) fun _ =>
 .fin (((((((((([]:List (Int × ByteArray))++[(4,(⟨#[97,110,100]⟩:ByteArray))])++[(5,(⟨#[111,114]⟩:ByteArray))])++[(7,(⟨#[60]⟩:ByteArray))])++[(8,(⟨#[61]⟩:ByteArray))])++[(9,(⟨#[43]⟩:ByteArray))])++[(10,(⟨#[45]⟩:ByteArray))])++[(11,(⟨#[42]⟩:ByteArray))])++[(12,(⟨#[109,105,110]⟩:ByteArray))])++[(13,(⟨#[109,97,120]⟩:ByteArray))])
noncomputable def rule_operators:(List (Int × ByteArray)):=(rule_operators_sk).val
theorem rule_operators_ok:(rule_operators_sk).obs (fun _=>True):=by
  unfold rule_operators_sk
  exact okE

theorem rule_operators_fnM:FnA Tryz.prog 108 [] [] ((fun (_:(List (Int × ByteArray)))=>(.mpv 777790:AV)) (rule_operators)) ((fun (x:(List (Int × ByteArray)))=>[(777790,mpM dS x)]) (rule_operators)) :=
  FnA.sk tok mixed (fun x=>.mpv 777790) (fun x=>[(777790,mpM dS x)]) Tryz.func108 rfl (by kernel_rfl) 3000 (rule_operators_sk) (by kernel_rfl) (rule_operators_ok)
noncomputable def rule_operators_km:CtrO ((List (Int × ByteArray))):=⟨Tryz.prog,108,[],fun x=>.mpv 777790,fun x=>[(777790,mpM dS x)],rule_operators,True,fun _=>rule_operators_fnM,fun _=>True,trivial⟩
theorem ops_ne:∀ i:Fin 9,∀ j:Fin 9,i≠j→(rule_operators.getD i default).2.data.toList≠(rule_operators.getD j default).2.data.toList:=by
  have e:rule_operators=[(4,(⟨#[97,110,100]⟩:ByteArray)),(5,(⟨#[111,114]⟩:ByteArray)),(7,(⟨#[60]⟩:ByteArray)),(8,(⟨#[61]⟩:ByteArray)),(9,(⟨#[43]⟩:ByteArray)),(10,(⟨#[45]⟩:ByteArray)),(11,(⟨#[42]⟩:ByteArray)),(12,(⟨#[109,105,110]⟩:ByteArray)),(13,(⟨#[109,97,120]⟩:ByteArray))]:=rfl
  rw [e]
  decide
theorem ops_len:rule_operators.length=9:=rfl
theorem me_uniq {γ δ:Type} {l:List (Int × ByteArray)} (hl:l=rule_operators) {i j:Nat} (hi:i < l.length) (hj:j < l.length) (hne:¬ i=j) {a b:Option γ} {x:Reader} {A A':γ ⊕ δ} {g g':δ} (ha:a=exitOf (cond (rule_reader_take x (l.getD i default).2).1 A (.inr g))) (hb:b=exitOf (cond (rule_reader_take x (l.getD j default).2).1 A' (.inr g'))):a=none∨b=none:=by
  subst hl
  cases hti:(rule_reader_take x (rule_operators.getD i default).2).1 with
  | false=>left; rw [ha,hti]; rfl
  | true =>
    cases htj:(rule_reader_take x (rule_operators.getD j default).2).1 with
    | false=>right; rw [hb,htj]; rfl
    | true =>
      have h1:=take_text hti
      have h2:=take_text htj
      rw [ops_len] at hi hj
      exact absurd (by rw [← h1,← h2]) (ops_ne ⟨i,by omega⟩ ⟨j,by omega⟩ (fun e=>hne (congrArg Fin.val e)))

noncomputable def rule_reader_term_w_sk (rv:Reader→Except Wrong (Term × Reader)) (rp:Reader→Prop) (rf:∀ (x_:Reader),rp x_→(FnX Tryz.prog 120 [.ptr 888020 0] (Reader.bx 888020 888020 x_) [(0,888020)] (fun (x:Term × Reader)=>(av x.1.cells:AV)) (fun (x:Term × Reader)=>Reader.bx 888020 888025 x.2) panV (rv x_))∧(fun v=>OkP (fun x=>Rs x_ x.2∧x_.at_+1≤x.2.at_) v) (rv x_)) (x_:Reader):Sk (Except Wrong (Term × Reader)) :=
 .r 1 ((rule_reader_take_kb x_ (⟨#[110,111,116]⟩:ByteArray)).c) fun x1 =>
 .br x1.1
 (.up ⟨[(0,.ptr 888020 0)],Reader.bx 888020 888020 x1.2⟩ <|
 .rx 2 .z (fun _=>(rule_reader_atom_kr rv rp rf x1.2).c) (fun _ x2=>.andl (.o [.pur 12]) (.o [.nrm (litP Term.E [x2.1] (x2.1.cells++([])) ((Term.roll x2.1).append (.nil)))])) (fun e_=>.error e_) fun _ x2 _ =>
 .fin (.ok (({ op:=3,n:=0,args:=[x2.1] }:Term),x2.2)))
 (.up ⟨[(0,.ptr 888020 0)],Reader.bx 888020 888020 x1.2⟩ <|
 .r 3 ((rule_reader_take_kb x1.2 (⟨#[105,102]⟩:ByteArray)).c) fun x3 =>
 .br x3.1
 (.up ⟨[(0,.ptr 888020 0)],Reader.bx 888020 888020 x3.2⟩ <|
 .rx 4 .z (fun _=>(rule_reader_atom_kr rv rp rf x3.2).c) (fun _ _=>.z) (fun e_=>.error e_) fun _ x4 _ =>
 .up ⟨[(0,.ptr 888020 0)],Reader.bx 888020 888020 x4.2⟩ <|
 .rx 5 .z (fun _=>(rule_reader_need_kx x4.2 (⟨#[116,104,101,110]⟩:ByteArray)).c) (fun _ _=>.z) (fun e_=>.error e_) fun _ x5 _ =>
 .up ⟨[(0,.ptr 888020 0)],Reader.bx 888020 888020 x5⟩ <|
 .rx 6 .z (fun _=>(rule_reader_atom_kr rv rp rf x5).c) (fun _ _=>.z) (fun e_=>.error e_) fun _ x6 _ =>
 .up ⟨[(0,.ptr 888020 0)],Reader.bx 888020 888020 x6.2⟩ <|
 .rx 7 .z (fun _=>(rule_reader_need_kx x6.2 (⟨#[101,108,115,101]⟩:ByteArray)).c) (fun _ _=>.z) (fun e_=>.error e_) fun _ x7 _ =>
 .up ⟨[(0,.ptr 888020 0)],Reader.bx 888020 888020 x7⟩ <|
 .rx 8 .z (fun _=>(rule_reader_atom_kr rv rp rf x7).c) (fun _ x8=>.andl (.o [.pur 28]) (.o [.nrm (litP Term.E [x4.1,x6.1,x8.1] (x4.1.cells++(x6.1.cells++(x8.1.cells++([])))) ((Term.roll x4.1).append ((Term.roll x6.1).append ((Term.roll x8.1).append (.nil)))))])) (fun e_=>.error e_) fun _ x8 _ =>
 .fin (.ok (({ op:=6,n:=0,args:=[x4.1,x6.1,x8.1] }:Term),x8.2)))
 (.up ⟨[(0,.ptr 888020 0)],Reader.bx 888020 888020 x3.2⟩ <|
 .rx 9 .z (fun _=>(rule_reader_atom_kr rv rp rf x3.2).c) (fun _ _=>.z) (fun e_=>.error e_) fun _ x9 _ =>
 .r 10 ((rule_operators_km).c) fun x10 =>
 .bind true (fun b11=>Rgd b11∧Rs x_ b11∧x_.at_+1≤(b11).at_)
 (.me x10.length (x9.2:Reader)
 (fun g12 s14=>⟨[],Reader.bx 888020 888020 g12++[(33,.it 777790 x10.length s14)]⟩)
 (fun g17=>⟨[],Reader.bx 888020 888020 g17⟩)
 (fun i13 =>
 .brt <|
 .r 12 (.p (i13 < x10.length)) fun _ =>
 .r 13 ((rule_reader_take_kb (x9.2:Reader) ((x10.getD i13 default).2)).c) fun x18 =>
 .br x18.1
 (.up ⟨[(0,.ptr 888020 0),(39,.ptr 888020 0)],Reader.bx 888020 888020 x18.2⟩ <|
 .rx 14 .z (fun _=>(rule_reader_atom_kr rv rp rf x18.2).c) (fun _ x19=>.andl (.o [.pur 46]) (.o [.nrm (litP Term.E [x9.1,x19.1] (x9.1.cells++(x19.1.cells++([]))) ((Term.roll x9.1).append ((Term.roll x19.1).append (.nil))))])) (fun e_=>.inl (.inl (.error e_))) fun _ x19 _ =>
 .fin (.inl (.inl (.ok (({ op:=(x10.getD i13 default).1,n:=0,args:=[x9.1,x19.1] }:Term),x19.2)))))
 (.fin (.inr x18.2)))
 (.brf <|
 .fin (.inr (x9.2:Reader))))
 (fun (b11:Reader)=>⟨[(33,.any)],Reader.bx 888020 888020 b11⟩) fun b11 =>
 .fin (.ok (x9.1,b11))))
noncomputable def rule_reader_term_w (rv:Reader→Except Wrong (Term × Reader)) (rp:Reader→Prop) (rf:∀ (x_:Reader),rp x_→(FnX Tryz.prog 120 [.ptr 888020 0] (Reader.bx 888020 888020 x_) [(0,888020)] (fun (x:Term × Reader)=>(av x.1.cells:AV)) (fun (x:Term × Reader)=>Reader.bx 888020 888025 x.2) panV (rv x_))∧(fun v=>OkP (fun x=>Rs x_ x.2∧x_.at_+1≤x.2.at_) v) (rv x_)) (x_:Reader):Except Wrong (Term × Reader):=(rule_reader_term_w_sk rv rp rf x_).val
theorem rule_reader_term_w_pst (rv:Reader→Except Wrong (Term × Reader)) (rp:Reader→Prop) (rf:∀ (x_:Reader),rp x_→(FnX Tryz.prog 120 [.ptr 888020 0] (Reader.bx 888020 888020 x_) [(0,888020)] (fun (x:Term × Reader)=>(av x.1.cells:AV)) (fun (x:Term × Reader)=>Reader.bx 888020 888025 x.2) panV (rv x_))∧(fun v=>OkP (fun x=>Rs x_ x.2∧x_.at_+1≤x.2.at_) v) (rv x_)) (x_:Reader) (hP:(Rgd x_)∧(∀ y,Rgd y→Rs x_ y→rp y)):(rule_reader_term_w_sk rv rp rf x_).pst (fun v=>OkP (fun x=>Rs x_ x.2∧x_.at_+1≤x.2.at_) v):=by
  refine Sk.pst_of _ ?_
  unfold rule_reader_term_w_sk
  simp only [Sk.pstq,Sk.isLoop,reduceCtorEq,ON,kk,rule_operators_km,rule_reader_need_kx,rule_reader_take_kb,CtrB.c,CtrX.c,leafX,rule_reader_atom_kr,CtrX.c,CtrB.c,maxLen]
  obtain ⟨hr,hp⟩:=hP
  all_goals (repeat' first | assumption | (refine hp _ ?_ ?_) | (refine rx_ob ?_ ?_ ?_) | (refine rx_ps ?_ ?_ ?_) | (refine rx_ob0 ?_ ?_) | (refine r_ob ?_ ?_) | (refine r_ps ?_ ?_) | (apply And.intro) | (intro h) | (rename_i l_ hl_ i_ j_ hi_ hj_; exact me_uniq (i:=i_) (j:=j_) hl_ hi_ hj_ h rfl rfl))
  all_goals (try simp only [Rgd,Rs,ixP,OkP_ok,OkP_error,leafE,LN] at *)
  all_goals first | trivial | assumption | omega | grind [w64_id] | (simp (disch:=omega) only [w64_id] at *; omega) | (simp only [szP,maxLen] at *; omega) | (simp (disch:=omega) only [w64_id,szP,maxLen] at *; omega) | grind | (simp_all; done) | (simp_all; omega)

theorem rule_reader_term_w_post (rv:Reader→Except Wrong (Term × Reader)) (rp:Reader→Prop) (rf:∀ (x_:Reader),rp x_→(FnX Tryz.prog 120 [.ptr 888020 0] (Reader.bx 888020 888020 x_) [(0,888020)] (fun (x:Term × Reader)=>(av x.1.cells:AV)) (fun (x:Term × Reader)=>Reader.bx 888020 888025 x.2) panV (rv x_))∧(fun v=>OkP (fun x=>Rs x_ x.2∧x_.at_+1≤x.2.at_) v) (rv x_)) (x_:Reader):(fun v=>((Rgd x_)∧(∀ y,Rgd y→Rs x_ y→rp y))→(OkP (fun x=>Rs x_ x.2∧x_.at_+1≤x.2.at_) v)) (rule_reader_term_w rv rp rf x_):=fun hP=>have h:=Sk.pval _ (rule_reader_term_w_pst rv rp rf x_ hP); h
theorem rule_reader_term_w_ok (rv:Reader→Except Wrong (Term × Reader)) (rp:Reader→Prop) (rf:∀ (x_:Reader),rp x_→(FnX Tryz.prog 120 [.ptr 888020 0] (Reader.bx 888020 888020 x_) [(0,888020)] (fun (x:Term × Reader)=>(av x.1.cells:AV)) (fun (x:Term × Reader)=>Reader.bx 888020 888025 x.2) panV (rv x_))∧(fun v=>OkP (fun x=>Rs x_ x.2∧x_.at_+1≤x.2.at_) v) (rv x_)) (x_:Reader) (hr:Rgd x_) (hp:∀ y,Rgd y→Rs x_ y→rp y):(rule_reader_term_w_sk rv rp rf x_).obs (fun _=>True):=by
  refine Sk.obs_of _ ?_
  unfold rule_reader_term_w_sk
  simp only [Sk.obq,Sk.isLoop,reduceCtorEq,ON,kk,rule_operators_km,rule_reader_need_kx,rule_reader_take_kb,CtrB.c,CtrX.c,leafX,rule_reader_atom_kr,CtrX.c,CtrB.c,maxLen]
  all_goals (repeat' first | assumption | (refine hp _ ?_ ?_) | (refine rx_ob ?_ ?_ ?_) | (refine rx_ps ?_ ?_ ?_) | (refine rx_ob0 ?_ ?_) | (refine r_ob ?_ ?_) | (refine r_ps ?_ ?_) | (apply And.intro) | (intro h) | (rename_i l_ hl_ i_ j_ hi_ hj_; exact me_uniq (i:=i_) (j:=j_) hl_ hi_ hj_ h rfl rfl))
  all_goals (try simp only [Rgd,Rs,ixP,OkP_ok,OkP_error,leafE,LN] at *)
  all_goals first | trivial | assumption | omega | grind [w64_id] | (simp (disch:=omega) only [w64_id] at *; omega) | (simp only [szP,maxLen] at *; omega) | (simp (disch:=omega) only [w64_id,szP,maxLen] at *; omega) | grind | (simp_all; done) | (simp_all; omega)

theorem rule_reader_term_w_fnX (rv:Reader→Except Wrong (Term × Reader)) (rp:Reader→Prop) (rf:∀ (x_:Reader),rp x_→(FnX Tryz.prog 120 [.ptr 888020 0] (Reader.bx 888020 888020 x_) [(0,888020)] (fun (x:Term × Reader)=>(av x.1.cells:AV)) (fun (x:Term × Reader)=>Reader.bx 888020 888025 x.2) panV (rv x_))∧(fun v=>OkP (fun x=>Rs x_ x.2∧x_.at_+1≤x.2.at_) v) (rv x_)) (x_:Reader) (hr:Rgd x_) (hp:∀ y,Rgd y→Rs x_ y→rp y):FnX Tryz.prog 92 [.ptr 888020 0] (Reader.bx 888020 888020 x_) [(0,888020)] (fun (x:Term × Reader)=>(av x.1.cells:AV)) (fun (x:Term × Reader)=>Reader.bx 888020 888025 x.2) panV (rule_reader_term_w rv rp rf x_) :=
  FnX.sk tok mixed (fun x=>av x.1.cells) (fun x=>Reader.bx 888020 888025 x.2) panV [(0,888020)] Tryz.func92 rfl (by kernel_rfl) 3000 (rule_reader_term_w_sk rv rp rf x_) (by kernel_rfl) (rule_reader_term_w_ok rv rp rf x_ hr hp)
noncomputable def rule_reader_term_w_kw (rv:Reader→Except Wrong (Term × Reader)) (rp:Reader→Prop) (rf:∀ (x_:Reader),rp x_→(FnX Tryz.prog 120 [.ptr 888020 0] (Reader.bx 888020 888020 x_) [(0,888020)] (fun (x:Term × Reader)=>(av x.1.cells:AV)) (fun (x:Term × Reader)=>Reader.bx 888020 888025 x.2) panV (rv x_))∧(fun v=>OkP (fun x=>Rs x_ x.2∧x_.at_+1≤x.2.at_) v) (rv x_)) (x_:Reader):CtrX Wrong (Term × Reader):=⟨Tryz.prog,92,[.ptr 888020 0],(Reader.bx 888020 888020 x_),[(0,888020)],fun x=>av x.1.cells,fun x=>Reader.bx 888020 888025 x.2,panV,rule_reader_term_w rv rp rf x_,(Rgd x_)∧(∀ y,Rgd y→Rs x_ y→rp y),fun h=>rule_reader_term_w_fnX rv rp rf x_ h.1 h.2,fun v=>((Rgd x_)∧(∀ y,Rgd y→Rs x_ y→rp y))→(OkP (fun x=>Rs x_ x.2∧x_.at_+1≤x.2.at_) v),rule_reader_term_w_post rv rp rf x_⟩
noncomputable def rule_Variables_sk:Sk ((List ByteArray)) :=
 .r 1 ((strings_Fields_k (⟨#[115,117,109,32,112,97,114,116,115,32,116,101,110,111,114,32,114,97,116,101,32,115,105,103,110,32,100,101,102,101,110,99,101,32,103,97,112,32,119,111,114,100,32,98,101,97,114,101,114,32,110,111,116,116,111,111,114,100,101,114,32,110,111,112,114,111,116,101,115,116,32,102,111,114,101,105,103,110,32,97,108,116,101,114,101,100,32,110,111,114,101,99,111,117,114,115,101,32,108,97,116,101,32,103,101,110,117,105,110,101,32,97,100,117,108,116,32,112,111,119,101,114,32,102,97,105,116,104,32,118,97,108,117,101]⟩:ByteArray)).c) fun x1 =>
 .fin x1
noncomputable def rule_Variables:(List ByteArray):=(rule_Variables_sk).val
theorem rule_Variables_ok:(rule_Variables_sk).obs (fun _=>True):=by
  exact ⟨of_decide_eq_true (p:=asciiP _) (by kernel_rfl),fun _ _ _=>trivial⟩
noncomputable def rule_Variables_k:Ctr ((List ByteArray)):=kk tok mixed Tryz.func18 [] (fun x=>lv strC x) false (rule_Variables_sk) (rule_Variables) (fun (_:True)=>rule_Variables_ok)
noncomputable def rule_reader_atom_sk (rv:Reader→Except Wrong (Term × Reader)) (rp:Reader→Prop) (rf:∀ (x_:Reader),rp x_→(FnX Tryz.prog 120 [.ptr 888020 0] (Reader.bx 888020 888020 x_) [(0,888020)] (fun (x:Term × Reader)=>(av x.1.cells:AV)) (fun (x:Term × Reader)=>Reader.bx 888020 888025 x.2) panV (rv x_))∧(fun v=>OkP (fun x=>Rs x_ x.2∧x_.at_+1≤x.2.at_) v) (rv x_)) (x_:Reader):Sk (Except Wrong (Term × Reader)) :=
 .r 1 ((rule_reader_take_kb x_ (⟨#[40]⟩:ByteArray)).c) fun x1 =>
 .br x1.1
 (.up ⟨[(0,.ptr 888020 0)],Reader.bx 888020 888020 x1.2⟩ <|
 .rx 2 .z (fun _=>(rule_reader_term_w_kw rv rp rf x1.2).c) (fun _ _=>.z) (fun e_=>.error e_) fun _ x2 _ =>
 .up ⟨[(0,.ptr 888020 0)],Reader.bx 888020 888020 x2.2⟩ <|
 .rx 3 .z (fun _=>(rule_reader_need_kx x2.2 (⟨#[41]⟩:ByteArray)).c) (fun _ _=>.z) (fun e_=>.error e_) fun _ x3 _ =>
 .fin (.ok (x2.1,x3)))
 (.up ⟨[(0,.ptr 888020 0)],Reader.bx 888020 888020 x1.2⟩ <|
 .r 5 ((rule_reader_take_kb x1.2 (⟨#[116,114,117,101]⟩:ByteArray)).c) fun x4 =>
 .br x4.1
 (.fin (.ok (({ op:=1,n:=1,args:=[] }:Term),x4.2)))
 (.up ⟨[(0,.ptr 888020 0)],Reader.bx 888020 888020 x4.2⟩ <|
 .r 7 ((rule_reader_take_kb x4.2 (⟨#[102,97,108,115,101]⟩:ByteArray)).c) fun x5 =>
 .br x5.1
 (.fin (.ok (({ op:=1,n:=0,args:=[] }:Term),x5.2)))
 (.up ⟨[(0,.ptr 888020 0)],Reader.bx 888020 888020 x5.2⟩ <|
 .r 9 ((rule_reader_take_kb x5.2 (⟨#[45]⟩:ByteArray)).c) fun x6 =>
 .r 10 (.wh (decide (x6.2.at_ < ((x6.2.l.length:Nat):Int))) true (.p (ixP x6.2.at_ x6.2.l.length))) fun _ =>
 .br ((decide (x6.2.at_ < ((x6.2.l.length:Nat):Int)))&&(((x6.2.l.getD x6.2.at_.toNat default).kind) == 1))
 (.r 11 (.p (ixP x6.2.at_ x6.2.l.length)) fun _ =>
 .br x6.1
 (.fin (.ok (({ op:=0,n:=w64 (0 - ((x6.2.l.getD x6.2.at_.toNat default).n)),args:=[] }:Term),({ l:=x6.2.l,at_:=w64 (x6.2.at_+1),end_:=x6.2.end_,list:=x6.2.list }:Reader))))
 (.fin (.ok (({ op:=0,n:=(x6.2.l.getD x6.2.at_.toNat default).n,args:=[] }:Term),({ l:=x6.2.l,at_:=w64 (x6.2.at_+1),end_:=x6.2.end_,list:=x6.2.list }:Reader)))))
 (.bind false (fun b7=>Rgd b7∧Rs x_ b7)
 (.br x6.1
 (.up ⟨[(0,.ptr 888020 0)],Reader.bx 888020 888020 x6.2⟩ <|
 .rx 17 .z (fun _=>(rule_reader_fail_kx x6.2 9).c) (fun _ _=>.z) (fun e_=>.inl (.error e_)) fun _ x8 _ =>
 .fin (.inr x8))
 (.fin (.inr x6.2)))
 (fun (b7:Reader)=>⟨[],Reader.bx 888020 888020 b7⟩) fun b7 =>
 .rx 18 rule_Variables_k.c (fun x9=>(rule_reader_one_kx b7 x9).c) (fun _ _=>.z) (fun e_=>.error e_) fun _ x10 _ =>
 .fin (.ok (({ op:=2,n:=x10.1,args:=[] }:Term),({ l:=x10.2.l,at_:=w64 (x10.2.at_+1),end_:=x10.2.end_,list:=x10.2.list }:Reader)))))))
noncomputable def rule_reader_atom_n:Nat→Reader→Except Wrong (Term × Reader)
  | 0,_=>default
  | fu+1,x_=>(rule_reader_atom_sk (rule_reader_atom_n fu) (fun _=>False) (fun _=>fun h=>h.elim) x_).val
theorem rule_reader_atom_ok (fu:Nat) (rf:∀ (x_:Reader),x_.l.length - x_.at_.toNat+1≤fu∧(Rgd x_)→(FnX Tryz.prog 120 [.ptr 888020 0] (Reader.bx 888020 888020 x_) [(0,888020)] (fun (x:Term × Reader)=>(av x.1.cells:AV)) (fun (x:Term × Reader)=>Reader.bx 888020 888025 x.2) panV (rule_reader_atom_n fu x_))∧(fun v=>OkP (fun x=>Rs x_ x.2∧x_.at_+1≤x.2.at_) v) (rule_reader_atom_n fu x_)) (x_:Reader) (hm:x_.l.length - x_.at_.toNat+1≤fu+1) (hr:Rgd x_):(rule_reader_atom_sk (rule_reader_atom_n fu) (fun x_=>x_.l.length - x_.at_.toNat+1≤fu∧(Rgd x_)) rf x_).obs (fun _=>True):=by
  refine Sk.obs_of _ ?_
  unfold rule_reader_atom_sk
  simp only [Sk.obq,Sk.isLoop,reduceCtorEq,ON,kk,rule_Variables_k,rule_reader_fail_kx,rule_reader_need_kx,rule_reader_one_kx,rule_reader_take_kb,CtrB.c,CtrX.c,leafX,rule_reader_atom_kr,rule_reader_term_w_kw,CtrX.c,CtrB.c,maxLen]
  all_goals (repeat' first | assumption | (refine rx_ob ?_ ?_ ?_) | (refine rx_ps ?_ ?_ ?_) | (refine rx_ob0 ?_ ?_) | (refine r_ob ?_ ?_) | (refine r_ps ?_ ?_) | (apply And.intro) | (intro h))
  all_goals (try simp only [Rgd,Rs,ixP,OkP_ok,OkP_error,leafE,LN] at *)
  all_goals first | trivial | assumption | omega | grind [w64_id] | (simp (disch:=omega) only [w64_id] at *; omega) | (simp only [szP,maxLen] at *; omega) | (simp (disch:=omega) only [w64_id,szP,maxLen] at *; omega) | grind | (simp_all; done) | (simp_all; omega)

theorem rule_reader_atom_val (fu:Nat) (rp:Reader→Prop) (rf:∀ (x_:Reader),rp x_→(FnX Tryz.prog 120 [.ptr 888020 0] (Reader.bx 888020 888020 x_) [(0,888020)] (fun (x:Term × Reader)=>(av x.1.cells:AV)) (fun (x:Term × Reader)=>Reader.bx 888020 888025 x.2) panV (rule_reader_atom_n fu x_))∧(fun v=>OkP (fun x=>Rs x_ x.2∧x_.at_+1≤x.2.at_) v) (rule_reader_atom_n fu x_)) (x_:Reader):(rule_reader_atom_sk (rule_reader_atom_n fu) rp rf x_).val=rule_reader_atom_n (fu+1) x_:=by kernel_rfl
theorem rule_reader_atom_pst (fu:Nat) (rf:∀ (x_:Reader),x_.l.length - x_.at_.toNat+1≤fu∧(Rgd x_)→(FnX Tryz.prog 120 [.ptr 888020 0] (Reader.bx 888020 888020 x_) [(0,888020)] (fun (x:Term × Reader)=>(av x.1.cells:AV)) (fun (x:Term × Reader)=>Reader.bx 888020 888025 x.2) panV (rule_reader_atom_n fu x_))∧(fun v=>OkP (fun x=>Rs x_ x.2∧x_.at_+1≤x.2.at_) v) (rule_reader_atom_n fu x_)) (x_:Reader) (hm:x_.l.length - x_.at_.toNat+1≤fu+1) (hr:Rgd x_):(rule_reader_atom_sk (rule_reader_atom_n fu) (fun x_=>x_.l.length - x_.at_.toNat+1≤fu∧(Rgd x_)) rf x_).pst (fun v=>OkP (fun x=>Rs x_ x.2∧x_.at_+1≤x.2.at_) v):=by
  refine Sk.pst_of _ ?_
  unfold rule_reader_atom_sk
  simp only [Sk.pstq,Sk.isLoop,reduceCtorEq,ON,kk,rule_Variables_k,rule_reader_fail_kx,rule_reader_need_kx,rule_reader_one_kx,rule_reader_take_kb,CtrB.c,CtrX.c,leafX,rule_reader_atom_kr,rule_reader_term_w_kw,CtrX.c,CtrB.c,maxLen]
  all_goals (repeat' first | assumption | (refine rx_ob ?_ ?_ ?_) | (refine rx_ps ?_ ?_ ?_) | (refine rx_ob0 ?_ ?_) | (refine r_ob ?_ ?_) | (refine r_ps ?_ ?_) | (apply And.intro) | (intro h))
  all_goals (try simp only [Rgd,Rs,ixP,OkP_ok,OkP_error,leafE,LN] at *)
  all_goals first | trivial | assumption | omega | grind [w64_id] | (simp (disch:=omega) only [w64_id] at *; omega) | (simp only [szP,maxLen] at *; omega) | (simp (disch:=omega) only [w64_id,szP,maxLen] at *; omega) | grind | (simp_all; done) | (simp_all; omega)

theorem rule_reader_atom_fnN (fu:Nat):∀ (x_:Reader),x_.l.length - x_.at_.toNat+1≤fu→(Rgd x_)→(FnX Tryz.prog 120 [.ptr 888020 0] (Reader.bx 888020 888020 x_) [(0,888020)] (fun (x:Term × Reader)=>(av x.1.cells:AV)) (fun (x:Term × Reader)=>Reader.bx 888020 888025 x.2) panV (rule_reader_atom_n fu x_))∧(fun v=>OkP (fun x=>Rs x_ x.2∧x_.at_+1≤x.2.at_) v) (rule_reader_atom_n fu x_):=by
  induction fu with
  | zero=>intro x_ hm h0; exact absurd hm (by omega)
  | succ fu ih =>
    intro x_ hm h0
    have h:(FnX Tryz.prog 120 [.ptr 888020 0] (Reader.bx 888020 888020 x_) [(0,888020)] (fun (x:Term × Reader)=>(av x.1.cells:AV)) (fun (x:Term × Reader)=>Reader.bx 888020 888025 x.2) panV ((rule_reader_atom_sk (rule_reader_atom_n fu) (fun x_=>x_.l.length - x_.at_.toNat+1≤fu∧(Rgd x_)) (fun x_ h=>ih x_ h.1 h.2) x_).val))∧(fun v=>OkP (fun x=>Rs x_ x.2∧x_.at_+1≤x.2.at_) v) ((rule_reader_atom_sk (rule_reader_atom_n fu) (fun x_=>x_.l.length - x_.at_.toNat+1≤fu∧(Rgd x_)) (fun x_ h=>ih x_ h.1 h.2) x_).val):=⟨FnX.sk tok mixed (fun x=>av x.1.cells) (fun x=>Reader.bx 888020 888025 x.2) panV [(0,888020)] Tryz.func120 rfl (by kernel_rfl) 3000 (rule_reader_atom_sk (rule_reader_atom_n fu) (fun x_=>x_.l.length - x_.at_.toNat+1≤fu∧(Rgd x_)) (fun x_ h=>ih x_ h.1 h.2) x_) (by kernel_rfl) (rule_reader_atom_ok fu _ x_ hm h0),have hp:=Sk.pval _ (rule_reader_atom_pst fu (fun x_ h=>ih x_ h.1 h.2) x_ hm h0); hp⟩
    rw [rule_reader_atom_val] at h
    exact h
noncomputable def rule_reader_atom (x_:Reader):Except Wrong (Term × Reader):=rule_reader_atom_n (x_.l.length - x_.at_.toNat+1) x_
theorem rule_reader_atom_fnX (x_:Reader) (hr:Rgd x_):FnX Tryz.prog 120 [.ptr 888020 0] (Reader.bx 888020 888020 x_) [(0,888020)] (fun (x:Term × Reader)=>(av x.1.cells:AV)) (fun (x:Term × Reader)=>Reader.bx 888020 888025 x.2) panV (rule_reader_atom x_):=(rule_reader_atom_fnN _ x_ (Nat.le_refl _) hr).1
theorem rule_reader_atom_post (x_:Reader):(fun v=>((Rgd x_))→(OkP (fun x=>Rs x_ x.2∧x_.at_+1≤x.2.at_) v)) (rule_reader_atom x_):=fun h=>(rule_reader_atom_fnN _ x_ (Nat.le_refl _) h).2
noncomputable def rule_reader_atom_kx (x_:Reader):CtrX Wrong (Term × Reader):=⟨Tryz.prog,120,[.ptr 888020 0],(Reader.bx 888020 888020 x_),[(0,888020)],fun x=>av x.1.cells,fun x=>Reader.bx 888020 888025 x.2,panV,rule_reader_atom x_,(Rgd x_),fun h=>rule_reader_atom_fnX x_ h,fun v=>((Rgd x_))→(OkP (fun x=>Rs x_ x.2∧x_.at_+1≤x.2.at_) v),rule_reader_atom_post x_⟩
noncomputable def rule_reader_term_sk (x_:Reader):Sk (Except Wrong (Term × Reader)) :=
 .r 1 ((rule_reader_take_kb x_ (⟨#[110,111,116]⟩:ByteArray)).c) fun x1 =>
 .br x1.1
 (.up ⟨[(0,.ptr 888020 0)],Reader.bx 888020 888020 x1.2⟩ <|
 .rx 2 .z (fun _=>(rule_reader_atom_kx x1.2).c) (fun _ x2=>.andl (.o [.pur 12]) (.o [.nrm (litP Term.E [x2.1] (x2.1.cells++([])) ((Term.roll x2.1).append (.nil)))])) (fun e_=>.error e_) fun _ x2 _ =>
 .fin (.ok (({ op:=3,n:=0,args:=[x2.1] }:Term),x2.2)))
 (.up ⟨[(0,.ptr 888020 0)],Reader.bx 888020 888020 x1.2⟩ <|
 .r 3 ((rule_reader_take_kb x1.2 (⟨#[105,102]⟩:ByteArray)).c) fun x3 =>
 .br x3.1
 (.up ⟨[(0,.ptr 888020 0)],Reader.bx 888020 888020 x3.2⟩ <|
 .rx 4 .z (fun _=>(rule_reader_atom_kx x3.2).c) (fun _ _=>.z) (fun e_=>.error e_) fun _ x4 _ =>
 .up ⟨[(0,.ptr 888020 0)],Reader.bx 888020 888020 x4.2⟩ <|
 .rx 5 .z (fun _=>(rule_reader_need_kx x4.2 (⟨#[116,104,101,110]⟩:ByteArray)).c) (fun _ _=>.z) (fun e_=>.error e_) fun _ x5 _ =>
 .up ⟨[(0,.ptr 888020 0)],Reader.bx 888020 888020 x5⟩ <|
 .rx 6 .z (fun _=>(rule_reader_atom_kx x5).c) (fun _ _=>.z) (fun e_=>.error e_) fun _ x6 _ =>
 .up ⟨[(0,.ptr 888020 0)],Reader.bx 888020 888020 x6.2⟩ <|
 .rx 7 .z (fun _=>(rule_reader_need_kx x6.2 (⟨#[101,108,115,101]⟩:ByteArray)).c) (fun _ _=>.z) (fun e_=>.error e_) fun _ x7 _ =>
 .up ⟨[(0,.ptr 888020 0)],Reader.bx 888020 888020 x7⟩ <|
 .rx 8 .z (fun _=>(rule_reader_atom_kx x7).c) (fun _ x8=>.andl (.o [.pur 28]) (.o [.nrm (litP Term.E [x4.1,x6.1,x8.1] (x4.1.cells++(x6.1.cells++(x8.1.cells++([])))) ((Term.roll x4.1).append ((Term.roll x6.1).append ((Term.roll x8.1).append (.nil)))))])) (fun e_=>.error e_) fun _ x8 _ =>
 .fin (.ok (({ op:=6,n:=0,args:=[x4.1,x6.1,x8.1] }:Term),x8.2)))
 (.up ⟨[(0,.ptr 888020 0)],Reader.bx 888020 888020 x3.2⟩ <|
 .rx 9 .z (fun _=>(rule_reader_atom_kx x3.2).c) (fun _ _=>.z) (fun e_=>.error e_) fun _ x9 _ =>
 .r 10 ((rule_operators_km).c) fun x10 =>
 .bind true (fun b11=>Rgd b11∧Rs x_ b11∧x_.at_+1≤(b11).at_)
 (.me x10.length (x9.2:Reader)
 (fun g12 s14=>⟨[],Reader.bx 888020 888020 g12++[(33,.it 777790 x10.length s14)]⟩)
 (fun g17=>⟨[],Reader.bx 888020 888020 g17⟩)
 (fun i13 =>
 .brt <|
 .r 12 (.p (i13 < x10.length)) fun _ =>
 .r 13 ((rule_reader_take_kb (x9.2:Reader) ((x10.getD i13 default).2)).c) fun x18 =>
 .br x18.1
 (.up ⟨[(0,.ptr 888020 0),(39,.ptr 888020 0)],Reader.bx 888020 888020 x18.2⟩ <|
 .rx 14 .z (fun _=>(rule_reader_atom_kx x18.2).c) (fun _ x19=>.andl (.o [.pur 46]) (.o [.nrm (litP Term.E [x9.1,x19.1] (x9.1.cells++(x19.1.cells++([]))) ((Term.roll x9.1).append ((Term.roll x19.1).append (.nil))))])) (fun e_=>.inl (.inl (.error e_))) fun _ x19 _ =>
 .fin (.inl (.inl (.ok (({ op:=(x10.getD i13 default).1,n:=0,args:=[x9.1,x19.1] }:Term),x19.2)))))
 (.fin (.inr x18.2)))
 (.brf <|
 .fin (.inr (x9.2:Reader))))
 (fun (b11:Reader)=>⟨[(33,.any)],Reader.bx 888020 888020 b11⟩) fun b11 =>
 .fin (.ok (x9.1,b11))))
noncomputable def rule_reader_term (x_:Reader):Except Wrong (Term × Reader):=(rule_reader_term_sk x_).val
theorem rule_reader_term_pst (x_:Reader) (hP:Rgd x_):(rule_reader_term_sk x_).pst (fun v=>OkP (fun x=>Rs x_ x.2∧x_.at_+1≤x.2.at_) v):=by
  refine Sk.pst_of _ ?_
  unfold rule_reader_term_sk
  simp only [Sk.pstq,Sk.isLoop,reduceCtorEq,ON,kk,rule_operators_km,rule_reader_atom_kx,rule_reader_need_kx,rule_reader_take_kb,CtrB.c,CtrX.c,leafX,CtrX.c,CtrB.c,maxLen]
  all_goals (repeat' first | assumption | (refine hp _ ?_ ?_) | (refine rx_ob ?_ ?_ ?_) | (refine rx_ps ?_ ?_ ?_) | (refine rx_ob0 ?_ ?_) | (refine r_ob ?_ ?_) | (refine r_ps ?_ ?_) | (apply And.intro) | (intro h) | (rename_i l_ hl_ i_ j_ hi_ hj_; exact me_uniq (i:=i_) (j:=j_) hl_ hi_ hj_ h rfl rfl))
  all_goals (try simp only [Rgd,Rs,ixP,OkP_ok,OkP_error,leafE,LN] at *)
  all_goals first | trivial | assumption | omega | grind [w64_id] | (simp (disch:=omega) only [w64_id] at *; omega) | (simp only [szP,maxLen] at *; omega) | (simp (disch:=omega) only [w64_id,szP,maxLen] at *; omega) | grind | (simp_all; done) | (simp_all; omega)

theorem rule_reader_term_post (x_:Reader):(fun v=>(Rgd x_)→(OkP (fun x=>Rs x_ x.2∧x_.at_+1≤x.2.at_) v)) (rule_reader_term x_):=fun hP=>have h:=Sk.pval _ (rule_reader_term_pst x_ hP); h
theorem rule_reader_term_ok (x_:Reader) (hr:Rgd x_):(rule_reader_term_sk x_).obs (fun _=>True):=by
  refine Sk.obs_of _ ?_
  unfold rule_reader_term_sk
  simp only [Sk.obq,Sk.isLoop,reduceCtorEq,ON,kk,rule_operators_km,rule_reader_atom_kx,rule_reader_need_kx,rule_reader_take_kb,CtrB.c,CtrX.c,leafX,CtrX.c,CtrB.c,maxLen]
  all_goals (repeat' first | assumption | (refine hp _ ?_ ?_) | (refine rx_ob ?_ ?_ ?_) | (refine rx_ps ?_ ?_ ?_) | (refine rx_ob0 ?_ ?_) | (refine r_ob ?_ ?_) | (refine r_ps ?_ ?_) | (apply And.intro) | (intro h) | (rename_i l_ hl_ i_ j_ hi_ hj_; exact me_uniq (i:=i_) (j:=j_) hl_ hi_ hj_ h rfl rfl))
  all_goals (try simp only [Rgd,Rs,ixP,OkP_ok,OkP_error,leafE,LN] at *)
  all_goals first | trivial | assumption | omega | grind [w64_id] | (simp (disch:=omega) only [w64_id] at *; omega) | (simp only [szP,maxLen] at *; omega) | (simp (disch:=omega) only [w64_id,szP,maxLen] at *; omega) | grind | (simp_all; done) | (simp_all; omega)

theorem rule_reader_term_fnX (x_:Reader) (hr:Rgd x_):FnX Tryz.prog 92 [.ptr 888020 0] (Reader.bx 888020 888020 x_) [(0,888020)] (fun (x:Term × Reader)=>(av x.1.cells:AV)) (fun (x:Term × Reader)=>Reader.bx 888020 888025 x.2) panV (rule_reader_term x_) :=
  FnX.sk tok mixed (fun x=>av x.1.cells) (fun x=>Reader.bx 888020 888025 x.2) panV [(0,888020)] Tryz.func92 rfl (by kernel_rfl) 3000 (rule_reader_term_sk x_) (by kernel_rfl) (rule_reader_term_ok x_ hr)
noncomputable def rule_reader_term_kx (x_:Reader):CtrX Wrong (Term × Reader):=⟨Tryz.prog,92,[.ptr 888020 0],(Reader.bx 888020 888020 x_),[(0,888020)],fun x=>av x.1.cells,fun x=>Reader.bx 888020 888025 x.2,panV,rule_reader_term x_,(Rgd x_),fun h=>rule_reader_term_fnX x_ h,fun v=>(Rgd x_)→(OkP (fun x=>Rs x_ x.2∧x_.at_+1≤x.2.at_) v),rule_reader_term_post x_⟩
noncomputable def term_measure_kr (rv:Term→Int→Int) (rp:Term→Int→Prop) (rf:∀ (t:Term) (level:Int),rp t level→FnA Tryz.prog 102 [av t.cells,iv level] [] (iv (rv t level)) []) (t:Term) (level:Int):Ctr (Int):=⟨Tryz.prog,102,[av t.cells,iv level],fun x=>iv x,true,rv t level,rp t level,rf t level,fun _=>True,trivial⟩
noncomputable def term_measure_sk (rv:Term→Int→Int) (rp:Term→Int→Prop) (rf:∀ (t:Term) (level:Int),rp t level→FnA Tryz.prog 102 [av t.cells,iv level] [] (iv (rv t level)) []) (t:Term) (level:Int):Sk (Int) :=
 .br (decide (level > 8))
 (.fin 61)
 (.bind true (fun b1=>∀ B:Int,1≤B→B≤1000000→(∀ q,q < t.args.length→1≤rv (t.args.getD q default) (w64 (level+1))∧rv (t.args.getD q default) (w64 (level+1))≤B)→(1:Int)≤b1∧b1≤60+B∧(b1≤60→t.args.length≤60∧∀ q,q < t.args.length→rv (t.args.getD q default) (w64 (level+1))≤60))
 (.loop (default:Sum (Int) (Int)) (fun i2=>i2.2≤t.args.length∧(∀ B:Int,1≤B→B≤1000000→(∀ q,q < t.args.length→1≤rv (t.args.getD q default) (w64 (level+1))∧rv (t.args.getD q default) (w64 (level+1))≤B)→(1+(i2.2:Int))≤i2.1∧i2.1≤60∧∀ q,q < i2.2→rv (t.args.getD q default) (w64 (level+1))≤60)) (fun i2=>t.args.length - i2.2) ((1,0):Int × Nat)
 (fun (i2:Int × Nat)=>⟨[(5,iv i2.1),(13,iv ((i2.2:Nat):Int))],[]⟩) fun i2 =>
 .bnd 11 0 t.args.length <|
 .br (decide (((i2.2:Nat):Int) < ((t.args.length:Nat):Int)))
 (.r 6 (.andl (.p (ixP ((i2.2:Nat):Int) t.args.length)) (.o [.cast 15 (refC (Term.unroll (t.args.getD i2.2 default)))])) fun _ =>
 .r 7 ((term_measure_kr rv rp rf (t.args.getD i2.2 default) (w64 (level+1))).c) fun x3 =>
 .br (decide ((w64 (i2.1+x3)) > 60))
 (.fin (.inl (.inr (w64 (i2.1+x3)))))
 (.r 9 .z fun _ =>
 .wi 13 (w64 (((i2.2:Nat):Int)+1)) ((i2.2+1:Nat):Int) <|
 .fin (.inr (w64 (i2.1+x3),i2.2+1))))
 (.fin (.inl (.inr i2.1))))
 (fun (b1:Int)=>⟨[(5,iv b1)],[]⟩) fun b1 =>
 .fin b1)
noncomputable def term_measure_n:Nat→Term→Int→Int
  | 0,_,_=>default
  | fu+1,t,level=>(term_measure_sk (term_measure_n fu) (fun _ _=>False) (fun _ _=>fun h=>h.elim) t level).val
/-- no node has too many parts -/
inductive Thin:Term→Prop
  | mk {t:Term} (h:t.args.length≤60) (h2:∀ q,q < t.args.length→Thin (t.args.getD q default)):Thin t
theorem term_measure_ok (fu:Nat) (rf:∀ (t:Term) (level:Int),t.depth≤fu∧True→FnA Tryz.prog 102 [av t.cells,iv level] [] (iv (term_measure_n fu t level)) []) (t:Term) (level:Int) (hm:t.depth≤fu+1):(term_measure_sk (term_measure_n fu) (fun t level=>t.depth≤fu∧True) rf t level).obs (fun _=>True):=by
  refine Sk.obs_of _ ?_
  unfold term_measure_sk
  simp only [Sk.obq,Sk.isLoop,reduceCtorEq,ON,kk,term_measure_kr,maxLen]
  intro hlev
  have hlev:level≤8:=by simp only [LN] at hlev; exact hlev
  refine ⟨⟨Nat.zero_le _,fun B _ _ _=>⟨by omega,by omega,fun q hq=>absurd hq (by omega)⟩⟩,fun i hi hlen=>⟨fun hc=>⟨⟨by omega,of_decide_eq_true hc⟩,fun _=>⟨?_,fun x hx=>⟨fun hb B b1 b2 hq=>?_,fun hb _=>⟨?_,⟨?_,fun B b1 b2 hq=>?_⟩,?_⟩⟩⟩⟩,fun hc B b1 b2 hq=>?_⟩⟩
  all_goals (try simp only [LN] at hc)
  all_goals (try simp only [LN] at hb)
  · have:=t.depth_args i.2 (by omega); omega
  · subst hx
    have q1:=hi.2 B b1 b2 hq
    have q2:=hq i.2 (by omega)
    rw [w64_id (n:=i.1+_) (by omega) (by omega)] at hb ⊢
    exact ⟨by omega,by omega,fun h=>by omega⟩
  · exact w64_id (by omega) (by omega)
  · omega
  · subst hx
    have q1:=hi.2 B b1 b2 hq
    have q2:=hq i.2 (by omega)
    rw [w64_id (n:=i.1+_) (by omega) (by omega)] at hb ⊢
    refine ⟨by omega,by omega,fun q hqq=>?_⟩
    by_cases e:q=i.2
    · subst e; omega
    · exact q1.2.2 q (by omega)
  · omega
  · have q1:=hi.2 B b1 b2 hq
    exact ⟨by omega,by omega,fun _=>⟨by omega,fun q hqq=>q1.2.2 q (by omega)⟩⟩

theorem term_measure_val (fu:Nat) (rp:Term→Int→Prop) (rf:∀ (t:Term) (level:Int),rp t level→FnA Tryz.prog 102 [av t.cells,iv level] [] (iv (term_measure_n fu t level)) []) (t:Term) (level:Int):(term_measure_sk (term_measure_n fu) rp rf t level).val=term_measure_n (fu+1) t level:=by kernel_rfl
theorem term_measure_fnN (fu:Nat):∀ (t:Term) (level:Int),t.depth≤fu→FnA Tryz.prog 102 [av t.cells,iv level] [] (iv (term_measure_n fu t level)) []:=by
  induction fu with
  | zero=>intro t level hm; exact absurd hm (by have:=Term.depth_pos t; omega)
  | succ fu ih =>
    intro t level hm
    have h:FnA Tryz.prog 102 [av t.cells,iv level] [] (iv ((term_measure_sk (term_measure_n fu) (fun t level=>t.depth≤fu∧True) (fun t level h=>ih t level h.1) t level).val)) []:=FnA.sk tok mixed (fun x=>iv x) (fun _=>[]) Tryz.func102 rfl (by kernel_rfl) 3000 (term_measure_sk (term_measure_n fu) (fun t level=>t.depth≤fu∧True) (fun t level h=>ih t level h.1) t level) (by kernel_rfl) (term_measure_ok fu _ t level hm)
    rw [term_measure_val] at h
    exact h
noncomputable def term_measure (t:Term) (level:Int):Int:=term_measure_n (t.depth) t level
theorem term_measure_fn (t:Term) (level:Int):FnA Tryz.prog 102 [av t.cells,iv level] [] (iv (term_measure t level)) []:=term_measure_fnN _ t level (Nat.le_refl _)
noncomputable def term_measure_k (t:Term) (level:Int):Ctr (Int):=⟨Tryz.prog,102,[av t.cells,iv level],fun x=>iv x,true,term_measure t level,True,fun _=>term_measure_fn t level,fun _=>True,trivial⟩
theorem Term.depthL_le {B:Nat}:∀ (l:List Term),(∀ q,q < l.length→(l.getD q default).depth≤B)→Term.depthL l≤B
  | [],_=>by simp [Term.depthL]
  | x :: r,h=>by
    have h0:=h 0 (by simp)
    have:=Term.depthL_le r (fun q hq=>by simpa using h (q+1) (by simpa using hq))
    simp only [Term.depthL]
    simp at h0
    omega

theorem term_measure_le:∀ (fu:Nat) (t:Term) (level:Int),t.depth≤fu→1≤level→level≤9→1≤term_measure_n fu t level∧term_measure_n fu t level≤61+60 * (9 - level)∧(term_measure_n fu t level≤60→t.depth+level≤9)∧(term_measure_n fu t level≤60→Thin t)
  | 0,t,_,hd,_,_=>absurd hd (by have:=t.depth_pos; omega)
  | fu+1,t,level,hd,h1,h9=>by
    have ih:=term_measure_le fu
    have key:term_measure_n (fu+1) t level=(term_measure_sk (term_measure_n fu) (fun _ _=>False) (fun _ _ h=>h.elim) t level).val:=rfl
    rw [key]
    refine Sk.pval (term_measure_sk (term_measure_n fu) (fun _ _=>False) (fun _ _ h=>h.elim) t level) (L:=fun x=>1≤x∧x≤61+60 * (9 - level)∧(x≤60→t.depth+level≤9)∧(x≤60→Thin t)) (Sk.pst_of _ ?_)
    have hw:w64 (level+1)=level+1:=w64_id (by omega) (by omega)
    unfold term_measure_sk
    simp only [Sk.pstq,Sk.isLoop,reduceCtorEq,false_implies,leafB,leafJ,Cal.z,Cal.p,Cal.t,Cal.pt,Cal.o,Cal.and,Cal.andl,Cal.andr,Cal.wh,Cal.dep,Cal.depr,Ctr.c,kk,Ctr.nil,Ctr.nilc,CtrO.c,CtrO.nil,term_measure_kr,implies_true,true_and,and_true,and_self,true_implies,forall_eq,forall_const,hw]
    refine ⟨fun h=>⟨by omega,by omega,fun h=>by omega,fun h=>by omega⟩,fun hlev=>?_⟩
    have hlev:level≤8:=by simp only [LN] at hlev; exact hlev
    have hq:∀ q,q < t.args.length→1≤term_measure_n fu (t.args.getD q default) (level+1)∧term_measure_n fu (t.args.getD q default) (level+1)≤61+60 * (8 - level):=fun q hq=>by
      have:=ih (t.args.getD q default) (level+1) (by have:=t.depth_args q hq; omega) (by omega) (by omega)
      omega
    refine ⟨⟨⟨Nat.zero_le _,fun B _ _ _=>⟨by omega,by omega,fun q hq=>absurd hq (by omega)⟩⟩,fun i hi=>⟨fun hc=>⟨fun hb=>?_,fun hb=>⟨⟨?_,fun B b1 b2 hq=>?_⟩,?_⟩⟩,fun hc=>?_⟩⟩,fun b hb=>?_⟩
    all_goals (try simp only [LN] at hc)
    all_goals (try simp only [LN] at hb)
    · intro B b1 b2 hq
      have q1:=hi.2 B b1 b2 hq
      have q2:=hq i.2 (by omega)
      rw [w64_id (by omega) (by omega)] at hb ⊢
      exact ⟨by omega,by omega,fun h=>by omega⟩
    · omega
    · have q1:=hi.2 B b1 b2 hq
      have q2:=hq i.2 (by omega)
      rw [w64_id (by omega) (by omega)] at hb ⊢
      refine ⟨by omega,by omega,fun q hqq=>?_⟩
      by_cases e:q=i.2
      · subst e; omega
      · exact q1.2.2 q (by omega)
    · omega
    · intro B b1 b2 hq
      have q1:=hi.2 B b1 b2 hq
      exact ⟨by omega,by omega,fun _=>⟨by omega,fun q hqq=>q1.2.2 q (by omega)⟩⟩
    · have:=hb _ (by omega) (by omega) hq
      refine ⟨this.1,by omega,fun h60=>?_,fun h60=>.mk (this.2.2 h60).1 fun q hqq=>?_⟩
      · have q3:=(this.2.2 h60).2
        have:Term.depthL t.args≤(8 - level).toNat:=Term.depthL_le _ (fun q hqq=>by
          have:=(ih (t.args.getD q default) (level+1) (by have:=t.depth_args q hqq; omega) (by omega) (by omega)).2.2.1 (q3 q hqq)
          omega)
        have e:t.depth=Term.depthL t.args+1:=by obtain ⟨_,_,_⟩:=t; rfl
        omega
      · exact (ih (t.args.getD q default) (level+1) (by have:=t.depth_args q hqq; omega) (by omega) (by omega)).2.2.2 ((this.2.2 h60).2 q hqq)
noncomputable def term_cut_sk (n:Int):Sk (Int) :=
 .fin (minI (maxI n (-1099511627776)) 1099511627776)
noncomputable def term_cut (n:Int):Int:=(term_cut_sk n).val
theorem term_cut_eq (n:Int):term_cut n=(minI (maxI n (-1099511627776)) 1099511627776):=rfl
theorem term_cut_ok (n:Int):(term_cut_sk n).obs (fun _=>True):=by
  unfold term_cut_sk
  exact okE

noncomputable def term_cut_k (n:Int):Ctr (Int):=kk tok mixed Tryz.func162 [iv n] (fun x=>iv x) true (term_cut_sk n) (term_cut n) (fun (_:True)=>term_cut_ok n)
noncomputable def term_VarType_sk (v:Int):Sk (Int × Bool) :=
 .br ((decide (v < 0))||(decide (v > 19)))
 (.fin (0,false))
 (.br (decide (v < 7))
 (.fin (0,true))
 (.fin (1,true)))
noncomputable def term_VarType (v:Int):Int × Bool:=(term_VarType_sk v).val
theorem term_VarType_ok (v:Int):(term_VarType_sk v).obs (fun _=>True):=by
  unfold term_VarType_sk
  exact okE

noncomputable def term_VarType_k (v:Int):Ctr (Int × Bool):=kk tok mixed Tryz.func163 [iv v] (fun x=>.tup [iv x.1,bv x.2]) true (term_VarType_sk v) (term_VarType v) (fun (_:True)=>term_VarType_ok v)
noncomputable def term_leaf_sk (t:Term):Sk (Int × Int) :=
 .br (decide (((t.args.length:Nat):Int) > 0))
 (.fin (0,2))
 (.br (t.op == 0)
 (.r 5 ((term_cut_k t.n).c) fun x1 =>
 .br (x1 != t.n)
 (.fin (0,3))
 (.fin (0,0)))
 (.br (t.op == 1)
 (.br ((decide (t.n < 0))||(decide (t.n > 1)))
 (.fin (0,3))
 (.fin (1,0)))
 (.r 12 ((term_VarType_k t.n).c) fun x2 =>
 .br (!x2.2)
 (.fin (0,10))
 (.fin (x2.1,0)))))
noncomputable def term_leaf (t:Term):Int × Int:=(term_leaf_sk t).val
theorem term_leaf_ok (t:Term):(term_leaf_sk t).obs (fun _=>True):=by
  unfold term_leaf_sk
  try simp only [term_VarType_k,term_cut_k,term_cut_eq]
  exact okG

noncomputable def term_leaf_k (t:Term):Ctr (Int × Int):=kk tok mixed Tryz.func142 [av t.cells] (fun x=>.tup [iv x.1,iv x.2]) true (term_leaf_sk t) (term_leaf t) (fun (_:True)=>term_leaf_ok t)
structure Shape where
  args:List Int
  result:Int
  deriving Inhabited
def Shape.cells (c:Shape):List D:=[slD intC c.args,dI c.result]
noncomputable def term_shapeOf_sk (op:Int):Sk (Shape) :=
 .br (op == 3)
 (.r 3 (.o [.nrm (litC intE [1])]) fun _ =>
 .fin ({ args:=[1],result:=1 }:Shape))
 (.bind false (fun _=>True)
 (.br (op == 4)
 (.fin (.inr (op == 4)))
 (.fin (.inr (op == 5))))
 (fun (b1:Bool)=>⟨[(8,bv b1)],[]⟩) fun b1 =>
 .br b1
 (.r 6 (.o [.nrm (litC intE [1,1])]) fun _ =>
 .fin ({ args:=[1,1],result:=1 }:Shape))
 (.br (op == 6)
 (.r 8 (.o [.nrm (litC intE [1,(-1),(-1)])]) fun _ =>
 .fin ({ args:=[1,(-1),(-1)],result:=(-1) }:Shape))
 (.br (op == 7)
 (.r 10 (.o [.nrm (litC intE [0,0])]) fun _ =>
 .fin ({ args:=[0,0],result:=1 }:Shape))
 (.br (op == 8)
 (.r 12 (.o [.nrm (litC intE [(-1),(-1)])]) fun _ =>
 .fin ({ args:=[(-1),(-1)],result:=1 }:Shape))
 (.r 13 (.o [.nrm (litC intE [0,0])]) fun _ =>
 .fin ({ args:=[0,0],result:=0 }:Shape))))))
noncomputable def term_shapeOf (op:Int):Shape:=(term_shapeOf_sk op).val
theorem term_shapeOf_ok (op:Int):(term_shapeOf_sk op).obs (fun _=>True):=by
  unfold term_shapeOf_sk
  exact okE

noncomputable def term_shapeOf_k (op:Int):Ctr (Shape):=kk tok mixed Tryz.func143 [iv op] (fun x=>av x.cells) false (term_shapeOf_sk op) (term_shapeOf op) (fun (_:True)=>term_shapeOf_ok op)
/-- typed terms -/
inductive TyT:Term→Int→Prop
  | int {n:Int} (h : -1099511627776≤n∧n≤1099511627776):TyT ⟨0,n,[]⟩ 0
  | bool {n:Int} (h:0≤n∧n≤1):TyT ⟨1,n,[]⟩ 1
  | var {n:Int} (h:0≤n∧n≤19):TyT ⟨2,n,[]⟩ (if n < 7 then 0 else 1)
  | not {a:Term}:TyT a 1→TyT ⟨3,0,[a]⟩ 1
  | conj {op:Int} {a b:Term} (h:op=4∨op=5):TyT a 1→TyT b 1→TyT ⟨op,0,[a,b]⟩ 1
  | ite {a b c:Term} {k:Int}:TyT a 1→TyT b k→TyT c k→TyT ⟨6,0,[a,b,c]⟩ k
  | less {a b:Term}:TyT a 0→TyT b 0→TyT ⟨7,0,[a,b]⟩ 1
  | eq {a b:Term} {k:Int}:TyT a k→TyT b k→TyT ⟨8,0,[a,b]⟩ 1
  | arith {op:Int} {a b:Term} (h:9≤op∧op≤13):TyT a 0→TyT b 0→TyT ⟨op,0,[a,b]⟩ 0
theorem TyT.kind {t:Term} {k:Int} (h:TyT t k):k=0∨k=1:=by
  induction h with
  | var _=>split <;> simp
  | ite _ _ _ _ ih _=>exact ih
  | _=>simp
noncomputable def term_check_kr (rv:Term→Int × Int) (rp:Term→Prop) (rf:∀ (t:Term),rp t→FnA Tryz.prog 103 [av t.cells] [] (.tup [iv ((rv t).1),iv ((rv t).2)]) []) (t:Term):Ctr (Int × Int):=⟨Tryz.prog,103,[av t.cells],fun x=>.tup [iv x.1,iv x.2],true,rv t,rp t,rf t,fun _=>True,trivial⟩
noncomputable def term_check_sk (rv:Term→Int × Int) (rp:Term→Prop) (rf:∀ (t:Term),rp t→FnA Tryz.prog 103 [av t.cells] [] (.tup [iv ((rv t).1),iv ((rv t).2)]) []) (t:Term):Sk (Int × Int) :=
 .r 1 (.andl (.o [.nrm (mkC intE t.args.length 0)]) (.p (mkP ((t.args.length:Nat):Int) 8))) fun _ =>
 .bind true (fun b1=>b1.length=t.args.length∧∀ q,q < t.args.length→(rv (t.args.getD q default)).2=0∧b1.getD q default=(rv (t.args.getD q default)).1)
 (.loop (default:Sum (Int × Int) ((List Int))) (fun i2=>i2.1.length=t.args.length∧i2.2≤t.args.length∧∀ q,q < i2.2→(rv (t.args.getD q default)).2=0∧i2.1.getD q default=(rv (t.args.getD q default)).1) (fun i2=>t.args.length - i2.2) ((List.replicate t.args.length (0:Int),0):(List Int) × Nat)
 (fun (i2:(List Int) × Nat)=>⟨[(4,ow 100002 i2.1),(20,iv ((i2.2:Nat):Int))],[(100002,rowB 3 1 intC i2.1)]⟩) fun i2 =>
 .bnd 18 0 t.args.length <|
 .br (decide (((i2.2:Nat):Int) < ((t.args.length:Nat):Int)))
 (.r 4 (.andl (.p (ixP ((i2.2:Nat):Int) t.args.length)) (.o [.cast 23 (refC (Term.unroll (t.args.getD i2.2 default)))])) fun _ =>
 .r 5 ((term_check_kr rv rp rf (t.args.getD i2.2 default)).c) fun x3 =>
 .br (x3.2 != 0)
 (.fin (.inl (.inl (0,x3.2))))
 (.r 8 (.andl (.p (ixP ((i2.2:Nat):Int) i2.1.length)) (.andl (.o [.nrm (setC intE i2.1 i2.2 x3.1)]) (.p (i2.2 < i2.1.length)))) fun _ =>
 .wn 100002 i2.1.length (i2.1.set i2.2 x3.1).length <|
 .r 9 .z fun _ =>
 .wi 20 (w64 (((i2.2:Nat):Int)+1)) ((i2.2+1:Nat):Int) <|
 .fin (.inr (i2.1.set i2.2 x3.1,i2.2+1))))
 (.fin (.inl (.inr i2.1))))
 (fun (b1:(List Int))=>⟨[(4,ow 100001 b1)],[(100001,rowB 3 1 intC b1)]⟩) fun b1 =>
 .br ((decide (t.op < 0))||(decide (t.op > 13)))
 (.fin (0,1))
 (.br (((t.op == 0)||(t.op == 1))||(t.op == 2))
 (.r 13 ((term_leaf_k t).c) fun x4 =>
 .fin (x4.1,x4.2))
 (.r 14 ((term_shapeOf_k t.op).c) fun x5 =>
 .br ((((b1.length:Nat):Int) != ((x5.args.length:Nat):Int))||(t.n != 0))
 (.fin (0,2))
 (.bind true (fun b6=>∀ q,q < x5.args.length→(x5.args.getD q default = -1→b1.getD q default=b6∨b1.getD q default = -1)∧(x5.args.getD q default≠-1→b1.getD q default=x5.args.getD q default))
 (.loop (default:Sum (Int × Int) (Int)) (fun i7=>i7.2≤x5.args.length∧∀ q,q < i7.2→(x5.args.getD q default = -1→b1.getD q default=i7.1∨b1.getD q default = -1)∧(x5.args.getD q default≠-1→b1.getD q default=x5.args.getD q default)) (fun i7=>x5.args.length - i7.2) (((-1),0):Int × Nat)
 (fun (i7:Int × Nat)=>⟨[(10,iv i7.1),(82,iv ((i7.2:Nat):Int))],[]⟩) fun i7 =>
 .bnd 80 0 x5.args.length <|
 .br (decide (((i7.2:Nat):Int) < ((x5.args.length:Nat):Int)))
 (.r 20 (.p (ixP ((i7.2:Nat):Int) x5.args.length)) fun _ =>
 .bind false (fun b8=>b8=if (x5.args.getD i7.2 default) = -1∧i7.1 = -1 then b1.getD i7.2 default else i7.1)
 (.br (((x5.args.getD i7.2 default) == (-1))&&(i7.1 == (-1)))
 (.r 22 (.andl (.p (ixP ((i7.2:Nat):Int) b1.length)) (.p (i7.2 < b1.length))) fun _ =>
 .fin (.inr (b1.getD i7.2 default)))
 (.fin (.inr i7.1)))
 (fun (b8:Int)=>⟨[(10,iv b8)],[]⟩) fun b8 =>
 .bind false (fun b9=>b9=if (x5.args.getD i7.2 default) = -1 then b8 else (x5.args.getD i7.2 default))
 (.br ((x5.args.getD i7.2 default) == (-1))
 (.fin (.inr b8))
 (.fin (.inr (x5.args.getD i7.2 default))))
 (fun (b9:Int)=>⟨[(12,iv b9)],[]⟩) fun b9 =>
 .r 25 (.andl (.p (ixP ((i7.2:Nat):Int) b1.length)) (.p (i7.2 < b1.length))) fun _ =>
 .br ((b1.getD i7.2 default) != b9)
 (.fin (.inl (.inl (0,11))))
 (.r 27 .z fun _ =>
 .wi 82 (w64 (((i7.2:Nat):Int)+1)) ((i7.2+1:Nat):Int) <|
 .fin (.inr (b8,i7.2+1))))
 (.fin (.inl (.inr i7.1))))
 (fun (b6:Int)=>⟨[(10,iv b6)],[]⟩) fun b6 =>
 .br (x5.result == (-1))
 (.fin (b6,0))
 (.fin (x5.result,0)))))
noncomputable def term_check_n:Nat→Term→Int × Int
  | 0,_=>default
  | fu+1,t=>(term_check_sk (term_check_n fu) (fun _=>False) (fun _=>fun h=>h.elim) t).val
theorem term_check_ok (fu:Nat) (rf:∀ (t:Term),t.depth≤fu∧(Thin t)→FnA Tryz.prog 103 [av t.cells] [] (.tup [iv ((term_check_n fu t).1),iv ((term_check_n fu t).2)]) []) (t:Term) (hm:t.depth≤fu+1) (hth:Thin t):(term_check_sk (term_check_n fu) (fun t=>t.depth≤fu∧(Thin t)) rf t).obs (fun _=>True):=by
  refine Sk.obs_of _ ?_
  unfold term_check_sk
  simp only [Sk.obq,Sk.isLoop,reduceCtorEq,ON,kk,term_leaf_k,term_shapeOf_k,term_check_kr,maxLen]
  have hth':=hth
  obtain ⟨ht1,ht2⟩:=hth'
  refine ⟨⟨by omega,by omega,by omega⟩,fun _=>⟨⟨⟨by simp,by omega,fun q hq=>absurd hq (by omega)⟩,fun i hi hl=>⟨fun hc=>⟨⟨by omega,of_decide_eq_true hc⟩,fun _=>⟨⟨?_,?_⟩,fun x hx he=>⟨⟨⟨by omega,?_⟩,?_⟩,fun _=>⟨by simp,fun _=>⟨?_,⟨⟨by simp [hi.1],?_,fun q hq=>?_⟩,?_⟩⟩⟩⟩⟩⟩,fun hc=>⟨hi.1,fun q hq=>hi.2.2 q (by simp only [LN] at hc; omega)⟩⟩⟩,fun b hb hc hop x hx hl=>⟨⟨by omega,fun q hq=>absurd hq (by omega)⟩,fun i hi hl2=>⟨fun hc=>⟨⟨by omega,of_decide_eq_true hc⟩,fun _=>⟨⟨fun h=>⟨⟨⟨by omega,?_⟩,?_⟩,fun _=>?_⟩,fun h=>?_⟩,fun y _ hy=>⟨⟨fun h=>?_,fun h=>?_⟩,fun z _ hz=>⟨⟨⟨by omega,?_⟩,?_⟩,fun _=>fun he _=>⟨?_,⟨⟨?_,fun q hq=>?_⟩,?_⟩⟩⟩⟩⟩⟩,fun hc q hq=>hi.2 q (by simp only [LN] at hc; omega)⟩⟩⟩⟩
  all_goals (try simp only [LN] at hc)
  · have:=t.depth_args i.2 (by omega); omega
  · exact ht2 i.2 (by omega)
  · omega
  · omega
  · exact w64_id (by omega) (by omega)
  · omega
  · simp only [LN] at he
    by_cases e:q=i.2
    · subst e
      subst hx
      exact ⟨he,lget_set_eq _ (by omega) _ _⟩
    · have:=hi.2.2 q (by omega)
      refine ⟨this.1,?_⟩
      rw [← this.2]
      exact lget_set_ne _ e _ _
  · omega
  all_goals (try simp only [LN] at hl)
  · omega
  · omega
  · simp only [LN] at h
    rw [if_pos h]
  · rw [if_neg]
    simp only [LN] at h
    intro ⟨h1,h2⟩
    rcases h with h | h
    · exact h h1
    · exact h h2
  · simp only [LN] at h; rw [if_pos h]
  · simp only [LN] at h; rw [if_neg h]
  · omega
  · omega
  · exact w64_id (by omega) (by omega)
  · omega
  · simp only [LN] at he
    by_cases e:q=i.2
    · subst e
      refine ⟨fun h=>?_,fun h=>?_⟩
      · rw [if_pos h] at hz; left; rw [he,hz]
      · rw [if_neg h] at hz; rw [he,hz]
    · have:=hi.2 q (by omega)
      refine ⟨fun h=>?_,this.2⟩
      rcases this.1 h with h1 | h1
      · by_cases c:x.args.getD i.snd default = -1∧i.fst = -1
        · right; rw [h1,c.2]
        · rw [if_neg c] at hy; left; rw [h1,hy]
      · exact .inr h1
  · omega

theorem term_check_val (fu:Nat) (rp:Term→Prop) (rf:∀ (t:Term),rp t→FnA Tryz.prog 103 [av t.cells] [] (.tup [iv ((term_check_n fu t).1),iv ((term_check_n fu t).2)]) []) (t:Term):(term_check_sk (term_check_n fu) rp rf t).val=term_check_n (fu+1) t:=by kernel_rfl
theorem term_check_fnN (fu:Nat):∀ (t:Term),t.depth≤fu→(Thin t)→FnA Tryz.prog 103 [av t.cells] [] (.tup [iv ((term_check_n fu t).1),iv ((term_check_n fu t).2)]) []:=by
  induction fu with
  | zero=>intro t hm h0; exact absurd hm (by have:=Term.depth_pos t; omega)
  | succ fu ih =>
    intro t hm h0
    have h:FnA Tryz.prog 103 [av t.cells] [] (.tup [iv (((term_check_sk (term_check_n fu) (fun t=>t.depth≤fu∧(Thin t)) (fun t h=>ih t h.1 h.2) t).val).1),iv (((term_check_sk (term_check_n fu) (fun t=>t.depth≤fu∧(Thin t)) (fun t h=>ih t h.1 h.2) t).val).2)]) []:=FnA.sk tok mixed (fun x=>.tup [iv x.1,iv x.2]) (fun _=>[]) Tryz.func103 rfl (by kernel_rfl) 3000 (term_check_sk (term_check_n fu) (fun t=>t.depth≤fu∧(Thin t)) (fun t h=>ih t h.1 h.2) t) (by kernel_rfl) (term_check_ok fu _ t hm h0)
    rw [term_check_val] at h
    exact h
noncomputable def term_check (t:Term):Int × Int:=term_check_n (t.depth) t
theorem term_check_fn (t:Term) (hth:Thin t):FnA Tryz.prog 103 [av t.cells] [] (.tup [iv ((term_check t).1),iv ((term_check t).2)]) []:=term_check_fnN _ t (Nat.le_refl _) hth
noncomputable def term_check_k (t:Term):Ctr (Int × Int):=⟨Tryz.prog,103,[av t.cells],fun x=>.tup [iv x.1,iv x.2],true,term_check t,(Thin t),fun h=>term_check_fn t h,fun _=>True,trivial⟩
theorem term_leaf_typed (t:Term) (hop:t.op=0∨t.op=1∨t.op=2) (h:(term_leaf t).2=0):TyT t (term_leaf t).1:=by
  obtain ⟨op,n,args⟩:=t
  simp only at hop
  revert h
  cases args with
  | cons a r =>
    intro h
    exfalso
    revert h
    simp only [term_leaf,term_leaf_sk,Sk.val_br,Sk.val_fin]
    rw [show decide ((((a :: r).length:Nat):Int) > 0)=true from by simp]
    simp
  | nil =>
    rcases hop with rfl | rfl | rfl
    · simp only [term_leaf,term_leaf_sk,Sk.val_br,Sk.val_fin,Sk.val_r,Ctr.c_v,kk,term_cut_k,term_cut_eq]
      intro h
      by_cases c:minI (maxI n (-1099511627776)) 1099511627776=n
      · have : -1099511627776≤n∧n≤1099511627776:=by simp only [minI,maxI] at c; omega
        have e:(minI (maxI n (-1099511627776)) 1099511627776 != n)=false:=by simpa using c
        rw [e]
        exact TyT.int this
      · have e:(minI (maxI n (-1099511627776)) 1099511627776 != n)=true:=by simpa using c
        rw [e] at h
        exact absurd (show (3:Int)=0 from h) (by decide)
    · simp only [term_leaf,term_leaf_sk,Sk.val_br,Sk.val_fin,Sk.val_r,Ctr.c_v,kk,term_cut_k,term_cut_eq]
      intro h
      by_cases c:n < 0∨n > 1
      · have e:(decide (n < 0)||decide (n > 1))=true:=by simpa using c
        rw [e] at h
        exact absurd (show (3:Int)=0 from h) (by decide)
      · have:0≤n∧n≤1:=by omega
        have e:(decide (n < 0)||decide (n > 1))=false:=by simp; omega
        rw [e]
        exact TyT.bool this
    · intro h
      have e:term_leaf ⟨2,n,[]⟩=(if n < 0∨n > 19 then (0,10) else if n < 7 then (0,0) else (1,0)):=by
        simp only [term_leaf,term_leaf_sk,Sk.val_br,Sk.val_fin,Sk.val_r,Ctr.c_v,kk,term_VarType_k,term_VarType,term_VarType_sk]
        by_cases c:n < 0∨n > 19
        · have:(decide (n < 0)||decide (n > 19))=true:=by simpa using c
          simp [this,c]
        · have:(decide (n < 0)||decide (n > 19))=false:=by simp; omega
          by_cases d:n < 7 <;> simp [this,c,d]
      rw [e] at h ⊢
      by_cases c:n < 0∨n > 19
      · simp [c] at h
      · have:0≤n∧n≤19:=by omega
        have:=TyT.var this
        by_cases d:n < 7 <;> simpa [c,d] using this

theorem shape3:term_shapeOf 3=⟨[1],1⟩:=by kernel_rfl
theorem shape4:term_shapeOf 4=⟨[1,1],1⟩:=by kernel_rfl
theorem shape5:term_shapeOf 5=⟨[1,1],1⟩:=by kernel_rfl
theorem shape6:term_shapeOf 6=⟨[1,-1,-1],-1⟩:=by kernel_rfl
theorem shape7:term_shapeOf 7=⟨[0,0],1⟩:=by kernel_rfl
theorem shape8:term_shapeOf 8=⟨[-1,-1],1⟩:=by kernel_rfl
theorem shape9_9:term_shapeOf 9=⟨[0,0],0⟩:=by kernel_rfl
theorem shape9_10:term_shapeOf 10=⟨[0,0],0⟩:=by kernel_rfl
theorem shape9_11:term_shapeOf 11=⟨[0,0],0⟩:=by kernel_rfl
theorem shape9_12:term_shapeOf 12=⟨[0,0],0⟩:=by kernel_rfl
theorem shape9_13:term_shapeOf 13=⟨[0,0],0⟩:=by kernel_rfl
theorem shape9 (op:Int) (h:9≤op∧op≤13):term_shapeOf op=⟨[0,0],0⟩:=by
  have:op=9∨op=10∨op=11∨op=12∨op=13:=by omega
  rcases this with e | e | e | e | e <;> rw [e]
  · exact shape9_9
  · exact shape9_10
  · exact shape9_11
  · exact shape9_12
  · exact shape9_13

theorem list1 {α:Type} {l:List α} (h:l.length=1):∃ a,l=[a]:=by
  match l,h with
  | [a],_=>exact ⟨a,rfl⟩
theorem list2 {α:Type} {l:List α} (h:l.length=2):∃ a b,l=[a,b]:=by
  match l,h with
  | [a,b],_=>exact ⟨a,b,rfl⟩
theorem list3 {α:Type} {l:List α} (h:l.length=3):∃ a b c,l=[a,b,c]:=by
  match l,h with
  | [a,b,c],_=>exact ⟨a,b,c,rfl⟩

/-- what the shapes say -/
theorem typed_node {t:Term} {b1:List Int} {common:Int} (hop:3≤t.op∧t.op≤13) (hn:t.n=0) (hl:b1.length=(term_shapeOf t.op).args.length) (hb:b1.length=t.args.length) (hty:∀ q,q < t.args.length→TyT (t.args.getD q default) (b1.getD q default))
    (hc:∀ q,q < (term_shapeOf t.op).args.length→((term_shapeOf t.op).args.getD q default = -1→b1.getD q default=common∨b1.getD q default = -1)∧((term_shapeOf t.op).args.getD q default≠-1→b1.getD q default=(term_shapeOf t.op).args.getD q default)) :
    TyT t (if (term_shapeOf t.op).result = -1 then common else (term_shapeOf t.op).result):=by
  obtain ⟨op,n,args⟩:=t
  simp only at hop hn hl hb hty hc ⊢
  subst hn
  have cases9:op=3∨op=4∨op=5∨op=6∨op=7∨op=8∨(9≤op∧op≤13):=by omega
  rcases cases9 with rfl | rfl | rfl | rfl | rfl | rfl | h9
  · rw [shape3] at hl hc ⊢
    obtain ⟨a,rfl⟩:=list1 (hb.symm.trans hl)
    have h0:=hty 0 (by simp)
    have c0:=hc 0 (by simp)
    simp at h0 c0 ⊢
    rw [c0] at h0
    exact .not h0
  · rw [shape4] at hl hc ⊢
    obtain ⟨a,b,rfl⟩:=list2 (hb.symm.trans hl)
    have h0:=hty 0 (by simp); have h1:=hty 1 (by simp)
    have c0:=hc 0 (by simp); have c1:=hc 1 (by simp)
    simp at h0 h1 c0 c1 ⊢
    rw [c0] at h0; rw [c1] at h1
    exact .conj (.inl rfl) h0 h1
  · rw [shape5] at hl hc ⊢
    obtain ⟨a,b,rfl⟩:=list2 (hb.symm.trans hl)
    have h0:=hty 0 (by simp); have h1:=hty 1 (by simp)
    have c0:=hc 0 (by simp); have c1:=hc 1 (by simp)
    simp at h0 h1 c0 c1 ⊢
    rw [c0] at h0; rw [c1] at h1
    exact .conj (.inr rfl) h0 h1
  · rw [shape6] at hl hc ⊢
    obtain ⟨a,b,c,rfl⟩:=list3 (hb.symm.trans hl)
    have h0:=hty 0 (by simp); have h1:=hty 1 (by simp); have h2:=hty 2 (by simp)
    have c0:=hc 0 (by simp); have c1:=hc 1 (by simp); have c2:=hc 2 (by simp)
    simp at h0 h1 h2 c0 c1 c2 ⊢
    have k1:=h1.kind; have k2:=h2.kind
    rw [c0] at h0
    have e1:b1[1]?.getD 0=common:=by omega
    have e2:b1[2]?.getD 0=common:=by omega
    rw [e1] at h1; rw [e2] at h2
    exact .ite h0 h1 h2
  · rw [shape7] at hl hc ⊢
    obtain ⟨a,b,rfl⟩:=list2 (hb.symm.trans hl)
    have h0:=hty 0 (by simp); have h1:=hty 1 (by simp)
    have c0:=hc 0 (by simp); have c1:=hc 1 (by simp)
    simp at h0 h1 c0 c1 ⊢
    rw [c0] at h0; rw [c1] at h1
    exact .less h0 h1
  · rw [shape8] at hl hc ⊢
    obtain ⟨a,b,rfl⟩:=list2 (hb.symm.trans hl)
    have h0:=hty 0 (by simp); have h1:=hty 1 (by simp)
    have c0:=hc 0 (by simp); have c1:=hc 1 (by simp)
    simp at h0 h1 c0 c1 ⊢
    have k1:=h0.kind; have k2:=h1.kind
    have e1:b1[0]?.getD 0=common:=by omega
    have e2:b1[1]?.getD 0=common:=by omega
    rw [e1] at h0; rw [e2] at h1
    exact .eq h0 h1
  · rw [shape9 op h9] at hl hc ⊢
    obtain ⟨a,b,rfl⟩:=list2 (hb.symm.trans hl)
    have h0:=hty 0 (by simp); have h1:=hty 1 (by simp)
    have c0:=hc 0 (by simp); have c1:=hc 1 (by simp)
    simp at h0 h1 c0 c1 ⊢
    rw [c0] at h0; rw [c1] at h1
    exact .arith h9 h0 h1

theorem term_check_typed:∀ (fu:Nat) (t:Term),t.depth≤fu→(term_check_n fu t).2=0→TyT t (term_check_n fu t).1
  | 0,t,hd,_=>absurd hd (by have:=t.depth_pos; omega)
  | fu+1,t,hd,h=>by
    have ih:=term_check_typed fu
    have key:term_check_n (fu+1) t=(term_check_sk (term_check_n fu) (fun _=>False) (fun _ h=>h.elim) t).val:=rfl
    rw [key] at h ⊢
    refine (Sk.pval (term_check_sk (term_check_n fu) (fun _=>False) (fun _ h=>h.elim) t) (L:=fun x=>x.2=0→TyT t x.1) (Sk.pst_of _ ?_)) h
    unfold term_check_sk
    simp only [Sk.pstq,Sk.isLoop,reduceCtorEq,false_implies,leafB,leafJ,Cal.z,Cal.p,Cal.t,Cal.pt,Cal.o,Cal.and,Cal.andl,Cal.andr,Cal.wh,Cal.dep,Cal.depr,Ctr.c,kk,term_check_kr,term_leaf_k,term_shapeOf_k,implies_true,true_and,and_true,and_self,true_implies,forall_eq,forall_const]
    refine ⟨⟨⟨by simp,Nat.zero_le _,fun q hq=>absurd hq (by omega)⟩,fun i hi=>⟨fun hc=>⟨fun he h=>?_,fun he=>⟨⟨by simp [hi.1],?_,fun q hq=>?_⟩,?_⟩⟩,fun hc=>⟨hi.1,fun q hq=>hi.2.2 q (by simp at hc; omega)⟩⟩⟩,fun b hb=>⟨fun hc h=>absurd h (by decide),fun hc=>⟨fun hop h=>?_,fun hop=>⟨fun _ h=>absurd h (by decide),fun hl=>⟨⟨⟨Nat.zero_le _,fun q hq=>absurd hq (by omega)⟩,fun i hi=>⟨fun hc=>⟨⟨?_,?_⟩,fun y _ hy=>⟨⟨?_,?_⟩,fun z _ hz=>⟨fun _ h=>absurd h (by decide),fun he=>⟨⟨?_,fun q hq=>?_⟩,?_⟩⟩⟩⟩,fun hc q hq=>hi.2 q (by simp at hc; omega)⟩⟩,fun y hy=>⟨?_,?_⟩⟩⟩⟩⟩⟩
    · rw [h] at he; exact absurd he (by decide)
    · simp only [LN] at hc; omega
    · simp only [LN] at hc he
      by_cases e:q=i.2
      · subst e
        exact ⟨he,lget_set_eq _ (by omega) _ _⟩
      · have:=hi.2.2 q (by omega)
        refine ⟨this.1,?_⟩
        rw [← this.2]
        exact lget_set_ne _ e _ _
    · simp only [LN] at hc; omega
    · exact term_leaf_typed t (by simp only [LN] at hop; omega) h
    · intro h; simp only [LN] at h; rw [if_pos h]
    · intro h
      rw [if_neg]
      simp only [LN] at h
      intro ⟨h1,h2⟩
      rcases h with h | h
      · exact h h1
      · exact h h2
    · intro h; simp only [LN] at h; rw [if_pos h]
    · intro h; simp only [LN] at h; rw [if_neg h]
    · simp only [LN] at hc; omega
    · simp only [LN] at hc he
      by_cases e:q=i.2
      · subst e
        refine ⟨fun h=>?_,fun h=>?_⟩
        · rw [if_pos h] at hz; left; rw [he,hz]
        · rw [if_neg h] at hz; rw [he,hz]
      · have:=hi.2 q (by omega)
        refine ⟨fun h=>?_,this.2⟩
        rcases this.1 h with h1 | h1
        · by_cases c:(term_shapeOf t.op).args.getD i.snd default = -1∧i.fst = -1
          · right; rw [h1,c.2]
          · rw [if_neg c] at hy; left; rw [h1,hy]
        · exact .inr h1
    · simp only [LN] at hc; omega
    · intro h
      simp only [LN] at hc hop hl h
      have:=typed_node (t:=t) (b1:=b) (common:=y) (by omega) hl.2 (by omega) hb.1 (fun q hq=>by
        have h1:=hb.2 q hq
        rw [h1.2]
        exact ih _ (by have:=t.depth_args q hq; omega) h1.1) hy
      rw [if_pos h] at this
      exact this
    · intro h
      simp only [LN] at hc hop hl h
      have:=typed_node (t:=t) (b1:=b) (common:=y) (by omega) hl.2 (by omega) hb.1 (fun q hq=>by
        have h1:=hb.2 q hq
        rw [h1.2]
        exact ih _ (by have:=t.depth_args q hq; omega) h1.1) hy
      rw [if_neg h] at this
      exact this
noncomputable def term_Check_sk (t:Term):Sk (Int × Int) :=
 .r 1 ((term_measure_k t 1).c) fun x1 =>
 .br (decide (x1 > 60))
 (.fin (0,6))
 (.r 3 ((term_check_k t).c) fun x2 =>
 .fin (x2.1,x2.2))
noncomputable def term_Check (t:Term):Int × Int:=(term_Check_sk t).val
theorem term_Check_pst (t:Term):(term_Check_sk t).pst (fun (x:Int × Int)=>(x.2=0→TyT t x.1∧t.depth≤8)∧(x.2≠6→t.depth≤8)):=by
  refine Sk.pst_of _ ?_
  unfold term_Check_sk
  simp only [Sk.pstq,Sk.isLoop,reduceCtorEq,false_implies,leafB,leafJ,Cal.z,Cal.p,Cal.t,Cal.pt,Cal.o,Cal.and,Cal.andl,Cal.andr,Cal.wh,Cal.dep,Cal.depr,Ctr.c,kk,Ctr.nil,Ctr.nilc,CtrO.c,CtrO.nil,term_measure_k,term_check_k,forall_eq,forall_const]
  have hm:=term_measure_le _ t 1 (Nat.le_refl _) (by omega) (by omega)
  have hc:=term_check_typed _ t (Nat.le_refl _)
  refine ⟨fun _=>⟨fun h=>absurd h (by decide),fun h=>absurd rfl h⟩,fun c=>?_⟩
  suffices hs:t.depth≤8 from ⟨fun h=>⟨hc h,hs⟩,fun _=>hs⟩
  simp only [decide_eq_false_iff_not] at c
  have:term_measure_n t.depth t 1≤60:=Int.not_lt.1 c
  have:=hm.2.2.1 this
  omega
theorem term_Check_post (t:Term):(fun (x:Int × Int)=>(x.2=0→TyT t x.1∧t.depth≤8)∧(x.2≠6→t.depth≤8)) (term_Check t):=have h:=Sk.pval _ (term_Check_pst t); h
theorem term_Check_ok (t:Term):(term_Check_sk t).obs (fun _=>True):=by
  refine Sk.obs_of _ ?_
  unfold term_Check_sk
  simp only [Sk.obq,Sk.isLoop,reduceCtorEq,ON,kk,term_check_k,term_measure_k,maxLen]
  exact fun x hx h=>(term_measure_le _ t 1 (Nat.le_refl _) (by omega) (by omega)).2.2.2 (by subst hx; simp only [LN] at h; exact h)

noncomputable def term_Check_k (t:Term):Ctr (Int × Int):=kk tok mixed Tryz.func63 [av t.cells] (fun x=>.tup [iv x.1,iv x.2]) true (term_Check_sk t) (term_Check t) (fun (_:True)=>term_Check_ok t) (fun (x:Int × Int)=>(x.2=0→TyT t x.1∧t.depth≤8)∧(x.2≠6→t.depth≤8)) (term_Check_post t)
noncomputable def rule_reader_rule_sk (x_:Reader) (o:Order):Sk (Except Wrong (Reader × Order)) :=
 .rx 0 rule_Questions_k.c (fun x1=>(rule_reader_one_kx x_ x1).c) (fun _ _=>.z) (fun e_=>.error e_) fun _ x2 _ =>
 .r 1 ((slices_ContainsFunc_91_k o.rules x2.1).c) fun x3 =>
 .bind false (fun b4=>Rgd b4∧Rs x_ b4∧(b4).at_ < (x_.l.length:Int)∧x3=false)
 (.br x3
 (.up ⟨[(0,.ptr 888020 0)],Reader.bx 888020 888020 x2.2⟩ <|
 .rx 2 .z (fun _=>(rule_reader_fail_kx x2.2 5).c) (fun _ _=>.z) (fun e_=>.inl (.error e_)) fun _ x5 _ =>
 .fin (.inr x5))
 (.fin (.inr x2.2)))
 (fun (b4:Reader)=>⟨[],Reader.bx 888020 888020 b4⟩) fun b4 =>
 .rx 4 .z (fun _=>(rule_reader_need_kx ({ l:=b4.l,at_:=w64 (b4.at_+1),end_:=b4.end_,list:=b4.list }:Reader) (⟨#[61]⟩:ByteArray)).c) (fun _ _=>.z) (fun e_=>.error e_) fun _ x6 _ =>
 .up ⟨[(0,.ptr 888020 0)],Reader.bx 888020 888020 x6⟩ <|
 .rx 5 .z (fun _=>(rule_reader_term_kx x6).c) (fun _ _=>.z) (fun e_=>.error e_) fun _ x7 _ =>
 .up ⟨[(0,.ptr 888020 0)],Reader.bx 888020 888020 x7.2⟩ <|
 .r 6 ((rule_reader_is_kb x7.2 (⟨#[59]⟩:ByteArray)).c) fun x8 =>
 .bind false (fun b9=>Rgd b9∧Rs x_ b9∧(b9).at_ < (x_.l.length:Int))
 (.br (!x8.1)
 (.up ⟨[(0,.ptr 888020 0)],Reader.bx 888020 888020 x8.2⟩ <|
 .rx 7 .z (fun _=>(rule_reader_fail_kx x8.2 9).c) (fun _ _=>.z) (fun e_=>.inl (.error e_)) fun _ x10 _ =>
 .fin (.inr x10))
 (.fin (.inr x8.2)))
 (fun (b9:Reader)=>⟨[],Reader.bx 888020 888020 b9⟩) fun b9 =>
 .r 8 ((term_Check_k x7.1).c) fun x11 =>
 .br (x11.2 == 6)
 (.rx 10 .z (fun _=>(rule_reader_fail_kx b9 6).c) (fun _ _=>.z) (fun e_=>.error e_) fun _ x12 _ =>
 .r 12 (.andl (.o [.nrm (litC Rule.E [({ ask:=x2.1,term:=x7.1 }:Rule)])]) (.andl (.o [.nrm (catC Rule.E o.rules [({ ask:=x2.1,term:=x7.1 }:Rule)])]) (.andl (.t (Rule.E.ones [({ ask:=x2.1,term:=x7.1 }:Rule)])) (.p (szP o.rules.length [({ ask:=x2.1,term:=x7.1 }:Rule)].length 48))))) fun _ =>
 .fin (.ok (({ l:=x12.l,at_:=w64 (x12.at_+1),end_:=x12.end_,list:=x12.list }:Reader),({ name:=o.name,accepts:=o.accepts,choices:=o.choices,rules:=o.rules++[({ ask:=x2.1,term:=x7.1 }:Rule)] }:Order))))
 (.r 12 (.andl (.o [.nrm (litC Rule.E [({ ask:=x2.1,term:=x7.1 }:Rule)])]) (.andl (.o [.nrm (catC Rule.E o.rules [({ ask:=x2.1,term:=x7.1 }:Rule)])]) (.andl (.t (Rule.E.ones [({ ask:=x2.1,term:=x7.1 }:Rule)])) (.p (szP o.rules.length [({ ask:=x2.1,term:=x7.1 }:Rule)].length 48))))) fun _ =>
 .fin (.ok (({ l:=b9.l,at_:=w64 (b9.at_+1),end_:=b9.end_,list:=b9.list }:Reader),({ name:=o.name,accepts:=o.accepts,choices:=o.choices,rules:=o.rules++[({ ask:=x2.1,term:=x7.1 }:Rule)] }:Order))))
noncomputable def rule_reader_rule (x_:Reader) (o:Order):Except Wrong (Reader × Order):=(rule_reader_rule_sk x_ o).val
theorem rule_reader_rule_pst (x_:Reader) (o:Order) (hP:(Rgd x_)∧(o.rules.length≤20000)):(rule_reader_rule_sk x_ o).pst (fun v=>OkP (fun x=>Rs x_ x.1∧x_.at_+1≤x.1.at_∧x.2.rules.length≤o.rules.length+1∧x.2.choices=o.choices∧((o.rules.map (·.ask)).Nodup→(x.2.rules.map (·.ask)).Nodup)) v):=by
  refine Sk.pst_of _ ?_
  unfold rule_reader_rule_sk
  simp only [Sk.pstq,Sk.isLoop,reduceCtorEq,ON,kk,rule_Questions_k,rule_reader_fail_kx,rule_reader_is_kb,rule_reader_need_kx,rule_reader_one_kx,rule_reader_term_kx,slices_ContainsFunc_91_k,term_Check_k,CtrB.c,CtrX.c,leafX,CtrX.c,CtrB.c,maxLen]
  obtain ⟨hr,ho⟩:=hP
  all_goals (repeat' first | assumption | (refine rx_ob ?_ ?_ ?_) | (refine rx_ps ?_ ?_ ?_) | (refine rx_ob0 ?_ ?_) | (refine r_ob ?_ ?_) | (refine r_ps ?_ ?_) | (refine nodup_snoc ‹_› ‹_› ?_) | (apply And.intro) | (intro h))
  all_goals (try simp only [Rgd,Rs,ixP,OkP_ok,OkP_error,leafE,LN] at *)
  all_goals first | trivial | assumption | omega | grind [w64_id] | (simp (disch:=omega) only [w64_id] at *; omega) | (simp only [szP,maxLen] at *; omega) | (simp (disch:=omega) only [w64_id,szP,maxLen] at *; omega) | grind | (simp_all; done) | (simp_all; omega)

theorem rule_reader_rule_post (x_:Reader) (o:Order):(fun v=>((Rgd x_)∧(o.rules.length≤20000))→(OkP (fun x=>Rs x_ x.1∧x_.at_+1≤x.1.at_∧x.2.rules.length≤o.rules.length+1∧x.2.choices=o.choices∧((o.rules.map (·.ask)).Nodup→(x.2.rules.map (·.ask)).Nodup)) v)) (rule_reader_rule x_ o):=fun hP=>have h:=Sk.pval _ (rule_reader_rule_pst x_ o hP); h
theorem rule_reader_rule_ok (x_:Reader) (o:Order) (hr:Rgd x_) (ho:o.rules.length≤20000):(rule_reader_rule_sk x_ o).obs (fun _=>True):=by
  refine Sk.obs_of _ ?_
  unfold rule_reader_rule_sk
  simp only [Sk.obq,Sk.isLoop,reduceCtorEq,ON,kk,rule_Questions_k,rule_reader_fail_kx,rule_reader_is_kb,rule_reader_need_kx,rule_reader_one_kx,rule_reader_term_kx,slices_ContainsFunc_91_k,term_Check_k,CtrB.c,CtrX.c,leafX,CtrX.c,CtrB.c,maxLen]
  all_goals (repeat' first | assumption | (refine rx_ob ?_ ?_ ?_) | (refine rx_ps ?_ ?_ ?_) | (refine rx_ob0 ?_ ?_) | (refine r_ob ?_ ?_) | (refine r_ps ?_ ?_) | (apply And.intro) | (intro h))
  all_goals (try simp only [Rgd,Rs,ixP,OkP_ok,OkP_error,leafE,LN] at *)
  all_goals first | trivial | assumption | omega | grind [w64_id] | (simp (disch:=omega) only [w64_id] at *; omega) | (simp only [szP,maxLen] at *; omega) | (simp (disch:=omega) only [w64_id,szP,maxLen] at *; omega) | grind | (simp_all; done) | (simp_all; omega)

theorem rule_reader_rule_fnX (x_:Reader) (o:Order) (hr:Rgd x_) (ho:o.rules.length≤20000):FnX Tryz.prog 48 [.ptr 888020 0,.ptr 888010 0] (Reader.bx 888020 888020 x_++Order.bx 888010 888010 o) [(0,888020),(1,888010)] (fun (x:Reader × Order)=>(.tup []:AV)) (fun (x:Reader × Order)=>Reader.bx 888020 888025 x.1++Order.bx 888010 888015 x.2) panV (rule_reader_rule x_ o) :=
  FnX.sk tok mixed (fun x=>.tup []) (fun x=>Reader.bx 888020 888025 x.1++Order.bx 888010 888015 x.2) panV [(0,888020),(1,888010)] Tryz.func48 rfl (by kernel_rfl) 3000 (rule_reader_rule_sk x_ o) (by kernel_rfl) (rule_reader_rule_ok x_ o hr ho)
noncomputable def rule_reader_rule_kx (x_:Reader) (o:Order):CtrX Wrong (Reader × Order):=⟨Tryz.prog,48,[.ptr 888020 0,.ptr 888010 0],(Reader.bx 888020 888020 x_++Order.bx 888010 888010 o),[(0,888020),(1,888010)],fun x=>.tup [],fun x=>Reader.bx 888020 888025 x.1++Order.bx 888010 888015 x.2,panV,rule_reader_rule x_ o,(Rgd x_)∧(o.rules.length≤20000),fun h=>rule_reader_rule_fnX x_ o h.1 h.2,fun v=>((Rgd x_)∧(o.rules.length≤20000))→(OkP (fun x=>Rs x_ x.1∧x_.at_+1≤x.1.at_∧x.2.rules.length≤o.rules.length+1∧x.2.choices=o.choices∧((o.rules.map (·.ask)).Nodup→(x.2.rules.map (·.ask)).Nodup)) v),rule_reader_rule_post x_ o⟩
noncomputable def cmp_isNaN_sk (x_:Int):Sk (Bool) :=
 .fin (x_ != x_)
noncomputable def cmp_isNaN (x_:Int):Bool:=(cmp_isNaN_sk x_).val
theorem cmp_isNaN_eq (x_:Int):cmp_isNaN x_=(x_ != x_):=rfl
theorem cmp_isNaN_ok (x_:Int):(cmp_isNaN_sk x_).obs (fun _=>True):=by
  unfold cmp_isNaN_sk
  exact okE

noncomputable def cmp_isNaN_k (x_:Int):Ctr (Bool):=kk tok mixed Tryz.func95 [iv x_] (fun x=>bv x) true (cmp_isNaN_sk x_) (cmp_isNaN x_) (fun (_:True)=>cmp_isNaN_ok x_)
noncomputable def cmp_Compare_sk (x_:Int) (y:Int):Sk (Int) :=
 .r 1 ((cmp_isNaN_k x_).c) fun x1 =>
 .r 2 ((cmp_isNaN_k y).c) fun x2 =>
 .br x1
 (.br x2
 (.fin 0)
 (.fin (-1)))
 (.br x2
 (.fin 1)
 (.br (decide (x_ < y))
 (.fin (-1))
 (.br (decide (x_ > y))
 (.fin 1)
 (.fin 0))))
noncomputable def cmp_Compare (x_:Int) (y:Int):Int:=(cmp_Compare_sk x_ y).val
theorem cmp_Compare_ok (x_:Int) (y:Int):(cmp_Compare_sk x_ y).obs (fun _=>True):=by
  unfold cmp_Compare_sk
  try simp only [cmp_isNaN_k,cmp_isNaN_eq]
  exact okG

noncomputable def cmp_Compare_k (x_:Int) (y:Int):Ctr (Int):=kk tok mixed Tryz.func51 [iv x_,iv y] (fun x=>iv x) true (cmp_Compare_sk x_ y) (cmp_Compare x_ y) (fun (_:True)=>cmp_Compare_ok x_ y)
noncomputable def rule_reader_order_c2_sk (a:Choice) (b:Choice):Sk (Int) :=
 .r 1 ((cmp_Compare_k a.ask b.ask).c) fun x1 =>
 .fin x1
noncomputable def rule_reader_order_c2 (a:Choice) (b:Choice):Int:=(rule_reader_order_c2_sk a b).val
theorem rule_reader_order_c2_ok (a:Choice) (b:Choice):(rule_reader_order_c2_sk a b).obs (fun _=>True):=by
  unfold rule_reader_order_c2_sk
  try simp only [cmp_Compare_k]
  exact okE

noncomputable def rule_reader_order_c2_k (a:Choice) (b:Choice):Ctr (Int):=kk tok mixed Tryz.func50 [av a.cells,av b.cells] (fun x=>iv x) true (rule_reader_order_c2_sk a b) (rule_reader_order_c2 a b) (fun (_:True)=>rule_reader_order_c2_ok a b)
end Go.Proofs.YtgibnoahjhfmcaaGreatDoor

