/- Functions, as sketches. -/
import Derived.Test.YtgibnoahjhfmcaaGreatDoorRa6
namespace Go.Proofs.YtgibnoahjhfmcaaGreatDoor
open Go Go.Av
set_option linter.unusedSimpArgs false
set_option linter.unusedVariables false
set_option maxHeartbeats 1000000
set_option maxRecDepth 100000
noncomputable def rule_reader_order_sk (x_:Reader):Sk (Except Wrong Reader) :=
 .rx 0 .z (fun _=>(rule_reader_need_kx x_ (⟨#[111,114,100,101,114]⟩:ByteArray)).c) (fun _ _=>.z) (fun e_=>.error e_) fun _ x1 _ =>
 .up ⟨[(0,.ptr 888020 0)],Reader.bx 888020 888020 x1⟩ <|
 .rx 1 .z (fun _=>(rule_reader_name_kx x1).c) (fun _ _=>.z) (fun e_=>.error e_) fun _ x2 _ =>
 .up ⟨[(2,.ptr 888010 0)],Order.bx 888010 888010 ({ name:=x2.1,accepts:=false,choices:=[],rules:=[] }:Order)⟩ <|
 .r 2 ((slices_ContainsFunc_44_k x2.2.list ({ name:=({ name:=x2.1,accepts:=false,choices:=[],rules:=[] }:Order).name,accepts:=({ name:=x2.1,accepts:=false,choices:=[],rules:=[] }:Order).accepts,choices:=({ name:=x2.1,accepts:=false,choices:=[],rules:=[] }:Order).choices,rules:=({ name:=x2.1,accepts:=false,choices:=[],rules:=[] }:Order).rules }:Order)).c) fun x3 =>
 .bind false (fun b4=>Rgd b4∧Rs x_ b4∧(b4).at_ < (x_.l.length:Int))
 (.br x3
 (.up ⟨[(0,.ptr 888020 0)],Reader.bx 888020 888020 x2.2⟩ <|
 .rx 3 .z (fun _=>(rule_reader_fail_kx x2.2 5).c) (fun _ _=>.z) (fun e_=>.inl (.error e_)) fun _ x5 _ =>
 .fin (.inr x5))
 (.fin (.inr x2.2)))
 (fun (b4:Reader)=>⟨[],Reader.bx 888020 888020 b4⟩) fun b4 =>
 .bind false (fun b6=>Rgd b6∧Rs x_ b6∧(b6).at_ < (x_.l.length:Int)∧(b6).list.length < 20)
 (.br (((b4.list.length:Nat):Int) == 20)
 (.rx 5 .z (fun _=>(rule_reader_fail_kx b4 6).c) (fun _ _=>.z) (fun e_=>.inl (.error e_)) fun _ x7 _ =>
 .fin (.inr x7))
 (.fin (.inr b4)))
 (fun (b6:Reader)=>⟨[],Reader.bx 888020 888020 b6⟩) fun b6 =>
 .r 7 ((rule_reader_take_kb ({ l:=b6.l,at_:=w64 (b6.at_+1),end_:=b6.end_,list:=b6.list }:Reader) (⟨#[97,99,99,101,112,116,115]⟩:ByteArray)).c) fun x8 =>
 .up ⟨[(0,.ptr 888020 0)],Reader.bx 888020 888020 x8.2⟩ <|
 .rx 8 .z (fun _=>(rule_reader_need_kx x8.2 (⟨#[123]⟩:ByteArray)).c) (fun _ _=>.z) (fun e_=>.error e_) fun _ x9 _ =>
 .bind true (fun b10=>Rgd b10.2∧(b10.2).l.length=x_.l.length∧(b10.2).list.length < 20∧x_.at_+1≤(b10.2).at_∧(((b10.1).choices.length:Nat):Int)≤(b10.2).at_∧(((b10.1).rules.length:Nat):Int)≤(b10.2).at_∧((b10.1).choices.map (·.ask)).Nodup∧((b10.1).rules.map (·.ask)).Nodup)
 (.loop (default:Sum (Except Wrong Reader) (Order × Reader)) (fun i11=>Rgd i11.2∧(i11.2).l.length=x_.l.length∧(i11.2).list.length < 20∧x_.at_+1≤(i11.2).at_∧(((i11.1).choices.length:Nat):Int)≤(i11.2).at_∧(((i11.1).rules.length:Nat):Int)≤(i11.2).at_∧((i11.1).choices.map (·.ask)).Nodup∧((i11.1).rules.map (·.ask)).Nodup) (fun i11=>(i11.2).l.length - (i11.2).at_.toNat) ((({ name:=({ name:=x2.1,accepts:=false,choices:=[],rules:=[] }:Order).name,accepts:=x8.1,choices:=({ name:=x2.1,accepts:=false,choices:=[],rules:=[] }:Order).choices,rules:=({ name:=x2.1,accepts:=false,choices:=[],rules:=[] }:Order).rules }:Order),x9):Order × Reader)
 (fun (i11:Order × Reader)=>⟨[],Order.bx 888010 888010 i11.1++Reader.bx 888020 888020 i11.2⟩) fun i11 =>
 .r 9 ((rule_reader_take_kb i11.2 (⟨#[125]⟩:ByteArray)).c) fun x12 =>
 .br (!x12.1)
 (.up ⟨[(0,.ptr 888020 0),(36,.ptr 888020 0)],Reader.bx 888020 888020 x12.2⟩ <|
 .r 11 ((rule_reader_take_kb x12.2 (⟨#[99,104,111,111,115,101]⟩:ByteArray)).c) fun x13 =>
 .br x13.1
 (.up ⟨[(0,.ptr 888020 0),(36,.ptr 888020 0),(42,.ptr 888020 0)],Reader.bx 888020 888020 x13.2⟩ <|
 .rx 12 .z (fun _=>(rule_reader_choice_kx x13.2 ({ name:=i11.1.name,accepts:=i11.1.accepts,choices:=i11.1.choices,rules:=i11.1.rules }:Order)).c) (fun _ _=>.z) (fun e_=>.inl (.inl (.error e_))) fun _ x14 _ =>
 .fin (.inr (({ name:=x14.2.name,accepts:=x14.2.accepts,choices:=x14.2.choices,rules:=x14.2.rules }:Order),x14.1)))
 (.up ⟨[(0,.ptr 888020 0),(36,.ptr 888020 0),(42,.ptr 888020 0)],Reader.bx 888020 888020 x13.2⟩ <|
 .r 13 ((rule_reader_take_kb x13.2 (⟨#[114,117,108,101]⟩:ByteArray)).c) fun x15 =>
 .br x15.1
 (.up ⟨[(0,.ptr 888020 0),(36,.ptr 888020 0),(42,.ptr 888020 0),(47,.ptr 888020 0)],Reader.bx 888020 888020 x15.2⟩ <|
 .rx 14 .z (fun _=>(rule_reader_rule_kx x15.2 ({ name:=i11.1.name,accepts:=i11.1.accepts,choices:=i11.1.choices,rules:=i11.1.rules }:Order)).c) (fun _ _=>.z) (fun e_=>.inl (.inl (.error e_))) fun _ x16 _ =>
 .fin (.inr (({ name:=x16.2.name,accepts:=x16.2.accepts,choices:=x16.2.choices,rules:=x16.2.rules }:Order),x16.1)))
 (.up ⟨[(0,.ptr 888020 0),(36,.ptr 888020 0),(42,.ptr 888020 0),(47,.ptr 888020 0)],Reader.bx 888020 888020 x15.2⟩ <|
 .rx 10 .z (fun _=>(rule_reader_fail_kx x15.2 9).c) (fun _ _=>.z) (fun e_=>.inl (.inl (.error e_))) fun _ x17 _ =>
 .fin (.inr (({ name:=i11.1.name,accepts:=i11.1.accepts,choices:=i11.1.choices,rules:=i11.1.rules }:Order),x17)))))
 (.fin (.inl (.inr (({ name:=i11.1.name,accepts:=i11.1.accepts,choices:=i11.1.choices,rules:=i11.1.rules }:Order),x12.2)))))
 (fun (b10:Order × Reader)=>⟨[],Order.bx 888010 888010 b10.1++Reader.bx 888020 888020 b10.2⟩) fun b10 =>
 .r 15 ((slices_SortFunc_ch_s 888013 b10.1.choices).c) fun x18 =>
 .wn 888013 b10.1.choices.length x18.length <|
 .r 16 ((slices_SortFunc_ru_s 888014 b10.1.rules).c) fun x19 =>
 .wn 888014 b10.1.rules.length x19.length <|
 .fz 888013 <|
 .fz 888014 <|
 .r 17 (.andl (.o [.nrm (litC Order.E [({ name:=b10.1.name,accepts:=b10.1.accepts,choices:=x18,rules:=x19 }:Order)])]) (.andl (.o [.nrm (catC Order.E b10.2.list [({ name:=b10.1.name,accepts:=b10.1.accepts,choices:=x18,rules:=x19 }:Order)])]) (.andl (.t (Order.E.ones [({ name:=b10.1.name,accepts:=b10.1.accepts,choices:=x18,rules:=x19 }:Order)])) (.p (szP b10.2.list.length [({ name:=b10.1.name,accepts:=b10.1.accepts,choices:=x18,rules:=x19 }:Order)].length 72))))) fun _ =>
 .fin (.ok ({ b10.2 with list:=b10.2.list++[({ name:=b10.1.name,accepts:=b10.1.accepts,choices:=x18,rules:=x19 }:Order)] }))
noncomputable def rule_reader_order (x_:Reader):Except Wrong Reader:=(rule_reader_order_sk x_).val
theorem rule_reader_order_pst (x_:Reader) (hP:Rgd x_):(rule_reader_order_sk x_).pst (fun v=>OkP (fun x=>x.l.length=x_.l.length∧x_.at_+1≤x.at_∧x.at_≤(x_.l.length:Int)∧x.list.length≤20) v):=by
 refine Sk.pst_of _ ?_
 unfold rule_reader_order_sk
 simp only [Sk.pstq,Sk.isLoop,reduceCtorEq,ON,kk,rule_reader_choice_kx,rule_reader_fail_kx,rule_reader_name_kx,rule_reader_need_kx,rule_reader_rule_kx,rule_reader_take_kb,slices_ContainsFunc_44_k,CtrB.c,CtrX.c,leafX,slices_SortFunc_ch_s,slices_SortFunc_ru_s,CtrS.c,CtrX.c,CtrB.c,maxLen]
 all_goals (repeat' first | assumption | (refine rx_ob ?_ ?_ ?_) | (refine rx_ps ?_ ?_ ?_) | (refine rx_ob0 ?_ ?_) | (refine r_ob ?_ ?_) | (refine r_ps ?_ ?_) | (apply And.intro) | (intro h))
 all_goals (try simp only [Rgd,Rs,ixP,OkP_ok,OkP_error,leafE,LN] at *)
 all_goals first | trivial | assumption | omega | grind [w64_id] | (simp (disch:=omega) only [w64_id] at *; omega) | (simp only [szP,maxLen] at *; omega) | (simp (disch:=omega) only [w64_id,szP,maxLen] at *; omega) | grind | (simp_all; done) | (simp_all; omega)
theorem rule_reader_order_post (x_:Reader):(fun v=>(Rgd x_)→(OkP (fun x=>x.l.length=x_.l.length∧x_.at_+1≤x.at_∧x.at_≤(x_.l.length:Int)∧x.list.length≤20) v)) (rule_reader_order x_):=fun hP=>have h:=Sk.pval _ (rule_reader_order_pst x_ hP); h
theorem rule_reader_order_ok (x_:Reader) (hr:Rgd x_):(rule_reader_order_sk x_).obs (fun _=>True):=by
 refine Sk.obs_of _ ?_
 unfold rule_reader_order_sk
 simp only [Sk.obq,Sk.isLoop,reduceCtorEq,ON,kk,rule_reader_choice_kx,rule_reader_fail_kx,rule_reader_name_kx,rule_reader_need_kx,rule_reader_rule_kx,rule_reader_take_kb,slices_ContainsFunc_44_k,CtrB.c,CtrX.c,leafX,slices_SortFunc_ch_s,slices_SortFunc_ru_s,CtrS.c,CtrX.c,CtrB.c,maxLen]
 all_goals (repeat' first | assumption | (refine rx_ob ?_ ?_ ?_) | (refine rx_ps ?_ ?_ ?_) | (refine rx_ob0 ?_ ?_) | (refine r_ob ?_ ?_) | (refine r_ps ?_ ?_) | (apply And.intro) | (intro h))
 all_goals (try simp only [Rgd,Rs,ixP,OkP_ok,OkP_error,leafE,LN] at *)
 all_goals first | trivial | assumption | omega | grind [w64_id] | (simp (disch:=omega) only [w64_id] at *; omega) | (simp only [szP,maxLen] at *; omega) | (simp (disch:=omega) only [w64_id,szP,maxLen] at *; omega) | grind | (simp_all; done) | (simp_all; omega)
theorem rule_reader_order_fnX (x_:Reader) (hr:Rgd x_):FnX Tryz.prog 26 [.ptr 888020 0] (Reader.bx 888020 888020 x_) [(0,888020)] (fun (x:Reader)=>(.tup []:AV)) (fun (x:Reader)=>Reader.bx 888020 888025 x) panV (rule_reader_order x_) :=
 FnX.sk tok mixed (fun x=>.tup []) (fun x=>Reader.bx 888020 888025 x) panV [(0,888020)] Tryz.func26 rfl (by kernel_rfl) 3000 (rule_reader_order_sk x_) (by kernel_rfl) (rule_reader_order_ok x_ hr)
noncomputable def rule_reader_order_kx (x_:Reader):CtrX Wrong Reader:=⟨Tryz.prog,26,[.ptr 888020 0],(Reader.bx 888020 888020 x_),[(0,888020)],fun x=>.tup [],fun x=>Reader.bx 888020 888025 x,panV,rule_reader_order x_,(Rgd x_),fun h=>rule_reader_order_fnX x_ h,fun v=>(Rgd x_)→(OkP (fun x=>x.l.length=x_.l.length∧x_.at_+1≤x.at_∧x.at_≤(x_.l.length:Int)∧x.list.length≤20) v),rule_reader_order_post x_⟩
end Go.Proofs.YtgibnoahjhfmcaaGreatDoor
