/- Functions, as sketches. -/
import Derived.Test.YtgibnoahjhfmcaaGreatDoorRaT
namespace Go.Proofs.YtgibnoahjhfmcaaGreatDoor
open Go Go.Av
set_option linter.unusedSimpArgs false
set_option linter.unusedVariables false
set_option maxHeartbeats 1000000
set_option maxRecDepth 100000
structure Token where
 kind:Int
 text:ByteArray
 n:Int
 pos:Int
 deriving Inhabited
def Token.cells (c:Token):List D:=[dI c.kind,.v (.string c.text),dI c.n,dI c.pos]
def Token.E:Enc Token:=⟨Token.cells,4,fun _=>rfl,fun _=>rfl⟩
def OkP {E β:Type} (Q:β→Prop) (v:Except E β):Prop:=match v with | .ok b=>Q b | .error _=>True
theorem OkP_ok {E β:Type} (Q:β→Prop) (b:β):OkP (E:=E) Q (.ok b)=Q b:=rfl
theorem OkP_error {E β:Type} (Q:β→Prop) (e:E):OkP Q (.error e)=True:=rfl
theorem rx_ob {E β:Type} {P:Prop} {v:Except E β} {Q A:β→Prop} {B:E→Prop} (hP:P) (h:∀ b,v=.ok b→Q b→A b) (he:∀ e,B e):P∧∀ y,y=v→(P→OkP Q y)→leafX y A B :=
 ⟨hP,fun y hy hq=>by
  cases y with
  | ok b=>exact h b hy.symm (hq hP)
  | error e=>exact he e⟩
theorem rx_ps {E β:Type} {P:Prop} {v:Except E β} {Q A:β→Prop} {B:E→Prop} (hP:P) (h:∀ b,v=.ok b→Q b→A b) (he:∀ e,B e):∀ y,y=v→(P→OkP Q y)→leafX y A B:=(rx_ob hP h he).2
theorem rx_ob0 {E β:Type} {v:Except E β} {Q A:β→Prop} {B:E→Prop} (h:∀ b,v=.ok b→Q b→A b) (he:∀ e,B e):∀ y,y=v→OkP Q y→leafX y A B:=fun y hy hq=>by
 cases y with
 | ok b=>exact h b hy.symm hq
 | error e=>exact he e
theorem r_ob {β:Type} {P:Prop} {v:β} {Q A:β→Prop} (hP:P) (h:∀ b,b=v→Q b→A b):P∧∀ y,y=v→(P→Q y)→A y:=⟨hP,fun y hy hq=>h y hy (hq hP)⟩
theorem r_ps {β:Type} {P:Prop} {v:β} {Q A:β→Prop} (hP:P) (h:∀ b,b=v→Q b→A b):∀ y,y=v→(P→Q y)→A y:=(r_ob hP h).2
theorem r_ob1 {β:Type} {p P:Prop} {v:β} {Q A:β→Prop} (h0:p) (hP:P) (h:∀ b,b=v→Q b→A b):(p∧P)∧∀ y,y=v→(P→Q y)→A y:=⟨⟨h0,hP⟩,fun y hy hq=>h y hy (hq hP)⟩
theorem bnilT (s:ByteArray):((s.toList == (⟨#[]⟩:ByteArray).toList)=true)=(s.size=0):=by
 have e:s.size=s.data.toList.length:=rfl
 have e0:(⟨#[]⟩:ByteArray).toList=[]:=by rw [ByteArray.toList_eq]
 rw [beq_iff_eq,e0,ByteArray.toList_eq,e,List.length_eq_zero_iff]
theorem bnilF (s:ByteArray):((s.toList == (⟨#[]⟩:ByteArray).toList)=false)=(1≤s.size):=by
 have:=bnilT s
 rw [← Bool.not_eq_true,this]
 exact propext ⟨fun h=>by omega,fun h=>by omega⟩
theorem bnilE (s:ByteArray):(s.toList=(⟨#[]⟩:ByteArray).toList)=(s.size=0):=by
 rw [← bnilT s,beq_iff_eq]
noncomputable def lex_blank_sk (c_:Int):Sk (Bool) :=
 .fin (((c_ == 32)||(c_ == 9))||(c_ == 10))
noncomputable def lex_blank (c_:Int):Bool:=(lex_blank_sk c_).val
theorem lex_blank_eq (c_:Int):lex_blank c_=(((c_ == 32)||(c_ == 9))||(c_ == 10)):=rfl
theorem lex_blank_ok (c_:Int):(lex_blank_sk c_).obs (fun _=>True):=by
 unfold lex_blank_sk
 exact okE
noncomputable def lex_blank_k (c_:Int):Ctr (Bool):=kk tok mixed Tryz.func82 [.d (.v (.int .u8 c_))] (fun x=>bv x) true (lex_blank_sk c_) (lex_blank c_) (fun (_:True)=>lex_blank_ok c_)
noncomputable def lex_span_82_sk (s:ByteArray):Sk (Int) :=
 .bind true (fun b1=>0≤(b1:Int)∧(b1:Int)≤((s.size:Nat):Int))
 (.loop (default:Sum (Int) (Int)) (fun i3=>i3≤s.size) (fun i3=>s.size - i3) (0:Nat)
 (fun (i3:Nat)=>⟨[(5,iv (i3:Int))],[]⟩) fun i3 =>
 .r 2 (.andl (.wh (decide ((i3:Int) < ((s.size:Nat):Int))) true (.p (0≤(i3:Int)∧(i3:Int) < ((s.size:Nat):Int)))) (.wh (decide ((i3:Int) < ((s.size:Nat):Int))) true ((lex_blank_k ((s.data.toList.getD i3 0).toNat:Int)).c))) fun x4 =>
 .br ((decide ((i3:Int) < ((s.size:Nat):Int)))&&x4)
 (.r 3 .z fun _ =>
 .wi 5 (w64 ((i3:Int)+1)) ((i3+1:Nat):Int) <|
 .fin (.inr (i3+1)))
 (.fin (.inl (.inr (i3:Int)))))
 (fun (b1:Int)=>⟨[(5,iv b1)],[]⟩) fun b1 =>
 .fin b1
noncomputable def lex_span_82 (s:ByteArray):Int:=(lex_span_82_sk s).val
theorem lex_span_82_pst (s:ByteArray):(lex_span_82_sk s).pst (fun (x:Int)=>0≤x∧x≤s.size):=by
 unfold lex_span_82_sk
 try simp only [lex_blank_k,lex_blank_eq]
 exact okQ
theorem lex_span_82_post (s:ByteArray):(fun (x:Int)=>0≤x∧x≤s.size) (lex_span_82 s):=have h:=Sk.pval _ (lex_span_82_pst s); h
theorem lex_span_82_ok (s:ByteArray) (hs:s.size≤1000000):(lex_span_82_sk s).obs (fun _=>True):=by
 unfold lex_span_82_sk
 try simp only [lex_blank_k,lex_blank_eq]
 exact okG
noncomputable def lex_span_82_k (s:ByteArray):Ctr (Int):=kk tok mixed Tryz.func67 [sv s,.fn 82 []] (fun x=>iv x) true (lex_span_82_sk s) (lex_span_82 s) (fun (h:(s.size≤1000000))=>lex_span_82_ok s h) (fun (x:Int)=>0≤x∧x≤s.size) (lex_span_82_post s)
noncomputable def lex_gap_sk (s:ByteArray):Sk (Int) :=
 .r 1 ((lex_span_82_k s).c) fun x1 =>
 .bind true (fun b2=>0≤(b2:Int)∧(b2:Int)≤((s.size:Nat):Int))
 (.loop (default:Sum (Int) (Int)) (fun i3=>0≤(i3:Int)∧(i3:Int)≤((s.size:Nat):Int)) (fun i3=>((s.size:Int) - i3).toNat) (x1:Int)
 (fun (i3:Int)=>⟨[(3,iv i3)],[]⟩) fun i3 =>
 .r 2 (.wh (decide (i3 < ((s.size:Nat):Int))) true (.p (0≤i3∧i3 < ((s.size:Nat):Int)))) fun _ =>
 .br ((decide (i3 < ((s.size:Nat):Int)))&&(((s.data.toList.getD i3.toNat 0).toNat:Int) == 35))
 (.bind true (fun b4=>0≤(b4:Int)∧(b4:Int)≤((s.size:Nat):Int)∧i3 < b4)
 (.bind true (fun b5=>0≤(b5:Int)∧(b5:Int)≤((s.size:Nat):Int)∧i3 < b5)
 (.loop (default:Sum (Sum (Sum (Sum (Int) (Int)) (Int)) (Int)) (Int)) (fun i6=>i3 < (s.size:Int)∧0≤(i6:Int)∧(i6:Int)≤((s.size:Nat):Int)∧i3≤i6) (fun i6=>((s.size:Int) - i6).toNat) (i3:Int)
 (fun (i6:Int)=>⟨[(3,iv i6)],[]⟩) fun i6 =>
 .r 3 (.wh (decide (i6 < ((s.size:Nat):Int))) true (.p (0≤i6∧i6 < ((s.size:Nat):Int)))) fun _ =>
 .br ((decide (i6 < ((s.size:Nat):Int)))&&(((s.data.toList.getD i6.toNat 0).toNat:Int) != 10))
 (.fin (.inr (w64 (i6+1))))
 (.fin (.inl (.inr i6))))
 (fun (b5:Int)=>⟨[(3,iv b5)],[]⟩) fun b5 =>
 .r 5 (.andl (.p (0≤b5∧b5≤((s.size:Nat):Int))) ((lex_span_82_k (s.extract b5.toNat s.size)).c)) fun x7 =>
 .fin (.inr (w64 (b5+x7))))
 (fun (b4:Int)=>⟨[(3,iv b4)],[]⟩) fun b4 =>
 .fin (.inr b4))
 (.fin (.inl (.inr i3))))
 (fun (b2:Int)=>⟨[(3,iv b2)],[]⟩) fun b2 =>
 .fin b2
noncomputable def lex_gap (s:ByteArray):Int:=(lex_gap_sk s).val
theorem lex_gap_pst (s:ByteArray) (hP:s.size≤1000000):(lex_gap_sk s).pst (fun (x:Int)=>0≤x∧x≤s.size):=by
 refine Sk.pst_of _ ?_
 unfold lex_gap_sk
 simp only [Sk.pstq,Sk.isLoop,reduceCtorEq,ON,kk,lex_span_82_k,maxLen]
 all_goals (repeat' first | assumption | (apply And.intro) | (intro h))
 all_goals (try simp only [Bool.and_eq_true,Bool.and_eq_false_imp,decide_eq_true_eq,bne_iff_ne,beq_iff_eq,ne_eq,bne_eq_false_iff_eq,ByteArray.size_extract] at *)
 all_goals first | trivial | assumption | omega | ((try simp only [LN] at *) <;> first | omega | (rw [w64_id (by omega) (by omega)]; omega) | (simp (disch:=omega) only [w64_id] at *; omega)) | grind
theorem lex_gap_post (s:ByteArray):(fun (x:Int)=>(s.size≤1000000)→(0≤x∧x≤s.size)) (lex_gap s):=fun hP=>have h:=Sk.pval _ (lex_gap_pst s hP); h
theorem lex_gap_ok (s:ByteArray) (hs:s.size≤1000000):(lex_gap_sk s).obs (fun _=>True):=by
 refine Sk.obs_of _ ?_
 unfold lex_gap_sk
 simp only [Sk.obq,Sk.isLoop,reduceCtorEq,ON,kk,lex_span_82_k,maxLen]
 all_goals (repeat' first | assumption | (apply And.intro) | (intro h))
 all_goals (try simp only [Bool.and_eq_true,Bool.and_eq_false_imp,decide_eq_true_eq,bne_iff_ne,beq_iff_eq,ne_eq,bne_eq_false_iff_eq,ByteArray.size_extract] at *)
 all_goals first | trivial | assumption | omega | ((try simp only [LN] at *) <;> first | omega | (rw [w64_id (by omega) (by omega)]; omega) | (simp (disch:=omega) only [w64_id] at *; omega)) | grind
noncomputable def lex_gap_k (s:ByteArray):Ctr (Int):=kk tok mixed Tryz.func40 [sv s] (fun x=>iv x) true (lex_gap_sk s) (lex_gap s) (fun (h:(s.size≤1000000))=>lex_gap_ok s h) (fun (x:Int)=>(s.size≤1000000)→(0≤x∧x≤s.size)) (lex_gap_post s)
noncomputable def lex_letter_sk (c_:Int):Sk (Bool) :=
 .fin (((decide (c_≥97))&&(decide (c_≤122)))||((decide (c_≥65))&&(decide (c_≤90))))
noncomputable def lex_letter (c_:Int):Bool:=(lex_letter_sk c_).val
theorem lex_letter_eq (c_:Int):lex_letter c_=(((decide (c_≥97))&&(decide (c_≤122)))||((decide (c_≥65))&&(decide (c_≤90)))):=rfl
theorem lex_letter_ok (c_:Int):(lex_letter_sk c_).obs (fun _=>True):=by
 unfold lex_letter_sk
 exact okE
noncomputable def lex_letter_k (c_:Int):Ctr (Bool):=kk tok mixed Tryz.func66 [.d (.v (.int .u8 c_))] (fun x=>bv x) true (lex_letter_sk c_) (lex_letter c_) (fun (_:True)=>lex_letter_ok c_)
noncomputable def lex_digit_sk (c_:Int):Sk (Bool) :=
 .fin ((decide (c_≥48))&&(decide (c_≤57)))
noncomputable def lex_digit (c_:Int):Bool:=(lex_digit_sk c_).val
theorem lex_digit_eq (c_:Int):lex_digit c_=((decide (c_≥48))&&(decide (c_≤57))):=rfl
theorem lex_digit_ok (c_:Int):(lex_digit_sk c_).obs (fun _=>True):=by
 unfold lex_digit_sk
 exact okE
noncomputable def lex_digit_k (c_:Int):Ctr (Bool):=kk tok mixed Tryz.func83 [.d (.v (.int .u8 c_))] (fun x=>bv x) true (lex_digit_sk c_) (lex_digit c_) (fun (_:True)=>lex_digit_ok c_)
noncomputable def lex_inner_sk (c_:Int):Sk (Bool) :=
 .r 1 (.dep ((lex_letter_k c_).c) fun x1=>.wh x1 false ((lex_digit_k c_).c)) fun p3 =>
 .fin ((p3.1||p3.2)||(c_ == 95))
noncomputable def lex_inner (c_:Int):Bool:=(lex_inner_sk c_).val
theorem lex_inner_ok (c_:Int):(lex_inner_sk c_).obs (fun _=>True):=by
 unfold lex_inner_sk
 try simp only [lex_digit_k,lex_letter_k,lex_digit_eq,lex_letter_eq]
 exact okG
noncomputable def lex_inner_k (c_:Int):Ctr (Bool):=kk tok mixed Tryz.func68 [.d (.v (.int .u8 c_))] (fun x=>bv x) true (lex_inner_sk c_) (lex_inner c_) (fun (_:True)=>lex_inner_ok c_)
noncomputable def lex_span_68_sk (s:ByteArray):Sk (Int) :=
 .bind true (fun b1=>0≤(b1:Int)∧(b1:Int)≤((s.size:Nat):Int))
 (.loop (default:Sum (Int) (Int)) (fun i3=>i3≤s.size) (fun i3=>s.size - i3) (0:Nat)
 (fun (i3:Nat)=>⟨[(5,iv (i3:Int))],[]⟩) fun i3 =>
 .r 2 (.andl (.wh (decide ((i3:Int) < ((s.size:Nat):Int))) true (.p (0≤(i3:Int)∧(i3:Int) < ((s.size:Nat):Int)))) (.wh (decide ((i3:Int) < ((s.size:Nat):Int))) true ((lex_inner_k ((s.data.toList.getD i3 0).toNat:Int)).c))) fun x4 =>
 .br ((decide ((i3:Int) < ((s.size:Nat):Int)))&&x4)
 (.r 3 .z fun _ =>
 .wi 5 (w64 ((i3:Int)+1)) ((i3+1:Nat):Int) <|
 .fin (.inr (i3+1)))
 (.fin (.inl (.inr (i3:Int)))))
 (fun (b1:Int)=>⟨[(5,iv b1)],[]⟩) fun b1 =>
 .fin b1
noncomputable def lex_span_68 (s:ByteArray):Int:=(lex_span_68_sk s).val
theorem lex_span_68_pst (s:ByteArray):(lex_span_68_sk s).pst (fun (x:Int)=>0≤x∧x≤s.size):=by
 unfold lex_span_68_sk
 try simp only [lex_inner_k]
 exact okP
theorem lex_span_68_post (s:ByteArray):(fun (x:Int)=>0≤x∧x≤s.size) (lex_span_68 s):=have h:=Sk.pval _ (lex_span_68_pst s); h
theorem lex_span_68_ok (s:ByteArray) (hs:s.size≤1000000):(lex_span_68_sk s).obs (fun _=>True):=by
 unfold lex_span_68_sk
 try simp only [lex_inner_k]
 exact okD
noncomputable def lex_span_68_k (s:ByteArray):Ctr (Int):=kk tok mixed Tryz.func67 [sv s,.fn 68 []] (fun x=>iv x) true (lex_span_68_sk s) (lex_span_68 s) (fun (h:(s.size≤1000000))=>lex_span_68_ok s h) (fun (x:Int)=>0≤x∧x≤s.size) (lex_span_68_post s)
noncomputable def lex_Name_sk (s:ByteArray):Sk (Bool) :=
 .r 1 (.andl (.wh (!(s.toList == (⟨#[]⟩:ByteArray).toList)) true (.p (0≤(0:Int)∧0 < ((s.size:Nat):Int)))) (.dep (.wh (!(s.toList == (⟨#[]⟩:ByteArray).toList)) true ((lex_letter_k ((s.data.toList.getD 0 0).toNat:Int)).c)) fun x1=>.wh (((!(s.toList == (⟨#[]⟩:ByteArray).toList))&&x1)&&(decide (((s.size:Nat):Int)≤20))) true ((lex_span_68_k s).c))) fun p3 =>
 .fin ((((!(s.toList == (⟨#[]⟩:ByteArray).toList))&&p3.1)&&(decide (((s.size:Nat):Int)≤20)))&&(p3.2 == ((s.size:Nat):Int)))
noncomputable def lex_Name (s:ByteArray):Bool:=(lex_Name_sk s).val
theorem lex_Name_pst (s:ByteArray):(lex_Name_sk s).pst (fun (x:Bool)=>x=true→1≤s.size):=by
 refine Sk.pst_of _ ?_
 unfold lex_Name_sk
 simp only [Sk.pstq,Sk.isLoop,reduceCtorEq,ON,kk,lex_letter_k,lex_span_68_k,lex_letter_eq,forall_eq,maxLen]
 all_goals (repeat' first | assumption | (refine r_ob1 ?_ ?_ ?_) | (refine r_ob ?_ ?_) | (refine r_ps ?_ ?_) | (apply And.intro) | (intro h))
 all_goals (try simp only [LN,bnilE,Bool.and_eq_true,Bool.and_eq_false_imp,decide_eq_true_eq,bne_iff_ne,beq_iff_eq,ne_eq,bne_eq_false_iff_eq,ByteArray.size_extract] at *)
 all_goals first | trivial | assumption | omega | grind [w64_id] | (simp (disch:=omega) only [w64_id] at *; omega) | (simp (disch:=omega) only [w64_id,szP,maxLen] at *; omega) | grind | (simp_all; done) | (simp_all; omega)
theorem lex_Name_post (s:ByteArray):(fun (x:Bool)=>x=true→1≤s.size) (lex_Name s):=have h:=Sk.pval _ (lex_Name_pst s); h
theorem lex_Name_ok (s:ByteArray):(lex_Name_sk s).obs (fun _=>True):=by
 refine Sk.obs_of _ ?_
 unfold lex_Name_sk
 simp only [Sk.obq,Sk.isLoop,reduceCtorEq,ON,kk,lex_letter_k,lex_span_68_k,lex_letter_eq,forall_eq,maxLen]
 all_goals (repeat' first | assumption | (refine r_ob1 ?_ ?_ ?_) | (refine r_ob ?_ ?_) | (refine r_ps ?_ ?_) | (apply And.intro) | (intro h))
 all_goals (try simp only [LN,bnilE,Bool.and_eq_true,Bool.and_eq_false_imp,decide_eq_true_eq,bne_iff_ne,beq_iff_eq,ne_eq,bne_eq_false_iff_eq,ByteArray.size_extract] at *)
 all_goals first | trivial | assumption | omega | grind [w64_id] | (simp (disch:=omega) only [w64_id] at *; omega) | (simp (disch:=omega) only [w64_id,szP,maxLen] at *; omega) | grind | (simp_all; done) | (simp_all; omega)
noncomputable def lex_Name_k (s:ByteArray):Ctr (Bool):=kk tok mixed Tryz.func30 [sv s] (fun x=>bv x) true (lex_Name_sk s) (lex_Name s) (fun (_:True)=>lex_Name_ok s) (fun (x:Bool)=>x=true→1≤s.size) (lex_Name_post s)
noncomputable def lex_span_83_sk (s:ByteArray):Sk (Int) :=
 .bind true (fun b1=>0≤(b1:Int)∧(b1:Int)≤((s.size:Nat):Int))
 (.loop (default:Sum (Int) (Int)) (fun i3=>i3≤s.size) (fun i3=>s.size - i3) (0:Nat)
 (fun (i3:Nat)=>⟨[(5,iv (i3:Int))],[]⟩) fun i3 =>
 .r 2 (.andl (.wh (decide ((i3:Int) < ((s.size:Nat):Int))) true (.p (0≤(i3:Int)∧(i3:Int) < ((s.size:Nat):Int)))) (.wh (decide ((i3:Int) < ((s.size:Nat):Int))) true ((lex_digit_k ((s.data.toList.getD i3 0).toNat:Int)).c))) fun x4 =>
 .br ((decide ((i3:Int) < ((s.size:Nat):Int)))&&x4)
 (.r 3 .z fun _ =>
 .wi 5 (w64 ((i3:Int)+1)) ((i3+1:Nat):Int) <|
 .fin (.inr (i3+1)))
 (.fin (.inl (.inr (i3:Int)))))
 (fun (b1:Int)=>⟨[(5,iv b1)],[]⟩) fun b1 =>
 .fin b1
noncomputable def lex_span_83 (s:ByteArray):Int:=(lex_span_83_sk s).val
theorem lex_span_83_pst (s:ByteArray):(lex_span_83_sk s).pst (fun (x:Int)=>0≤x∧x≤s.size):=by
 unfold lex_span_83_sk
 try simp only [lex_digit_k,lex_digit_eq]
 exact okQ
theorem lex_span_83_post (s:ByteArray):(fun (x:Int)=>0≤x∧x≤s.size) (lex_span_83 s):=have h:=Sk.pval _ (lex_span_83_pst s); h
theorem lex_span_83_ok (s:ByteArray) (hs:s.size≤1000000):(lex_span_83_sk s).obs (fun _=>True):=by
 unfold lex_span_83_sk
 try simp only [lex_digit_k,lex_digit_eq]
 exact okG
noncomputable def lex_span_83_k (s:ByteArray):Ctr (Int):=kk tok mixed Tryz.func67 [sv s,.fn 83 []] (fun x=>iv x) true (lex_span_83_sk s) (lex_span_83 s) (fun (h:(s.size≤1000000))=>lex_span_83_ok s h) (fun (x:Int)=>0≤x∧x≤s.size) (lex_span_83_post s)
noncomputable def lex_Number_sk (s:ByteArray):Sk (Int × Bool) :=
 .r 1 (.depr (.wh (s.toList == (⟨#[]⟩:ByteArray).toList) false ((lex_span_83_k s).c)) fun x1=>.wh ((s.toList == (⟨#[]⟩:ByteArray).toList)||(x1 != ((s.size:Nat):Int))) false (.p (0≤(0:Int)∧0 < ((s.size:Nat):Int)))) fun x1 =>
 .br ((((s.toList == (⟨#[]⟩:ByteArray).toList)||(x1 != ((s.size:Nat):Int)))||((((s.data.toList.getD 0 0).toNat:Int) == 48)&&(!(s.toList == (⟨#[48]⟩:ByteArray).toList))))||(decide (((s.size:Nat):Int) > 13)))
 (.fin (0,false))
 (.bind true (fun _=>True)
 (.loop (default:Sum (Int × Bool) (Int)) (fun i3=>i3.2≤s.size) (fun i3=>s.size - i3.2) ((0,0):Int × Nat)
 (fun (i3:Int × Nat)=>⟨[(4,iv i3.1),(31,iv (i3.2:Int))],[]⟩) fun i3 =>
 .br (decide ((i3.2:Int) < ((s.size:Nat):Int)))
 (.r 7 (.p (0≤(i3.2:Int)∧(i3.2:Int) < ((s.size:Nat):Int))) fun _ =>
 .r 8 .z fun _ =>
 .wi 31 (w64 ((i3.2:Int)+1)) ((i3.2+1:Nat):Int) <|
 .fin (.inr (w64 ((w64 ((10:Int) * i3.1))+(w64 (IntKind.u8.wrap (((s.data.toList.getD i3.2 0).toNat:Int) - 48)))),i3.2+1)))
 (.fin (.inl (.inr i3.1))))
 (fun (b2:Int)=>⟨[(4,iv b2)],[]⟩) fun b2 =>
 .br (decide (b2 > 1099511627776))
 (.fin (0,false))
 (.fin (b2,true)))
noncomputable def lex_Number (s:ByteArray):Int × Bool:=(lex_Number_sk s).val
theorem lex_Number_pst (s:ByteArray) (hP:s.size≤1000000):(lex_Number_sk s).pst (fun (x:Int × Bool)=>x.2=true→1≤s.size):=by
 refine Sk.pst_of _ ?_
 unfold lex_Number_sk
 simp only [Sk.pstq,Sk.isLoop,reduceCtorEq,ON,kk,lex_span_83_k,maxLen]
 all_goals (repeat' first | assumption | (refine r_ob1 ?_ ?_ ?_) | (refine r_ob ?_ ?_) | (refine r_ps ?_ ?_) | (apply And.intro) | (intro h))
 all_goals (try simp only [LN,bnilE,Bool.and_eq_true,Bool.and_eq_false_imp,decide_eq_true_eq,bne_iff_ne,beq_iff_eq,ne_eq,bne_eq_false_iff_eq,ByteArray.size_extract] at *)
 all_goals first | trivial | assumption | omega | grind [w64_id] | (simp (disch:=omega) only [w64_id] at *; omega) | (simp (disch:=omega) only [w64_id,szP,maxLen] at *; omega) | grind | (simp_all; done) | (simp_all; omega)
theorem lex_Number_post (s:ByteArray):(fun (x:Int × Bool)=>(s.size≤1000000)→(x.2=true→1≤s.size)) (lex_Number s):=fun hP=>have h:=Sk.pval _ (lex_Number_pst s hP); h
theorem lex_Number_ok (s:ByteArray) (hs:s.size≤1000000):(lex_Number_sk s).obs (fun _=>True):=by
 refine Sk.obs_of _ ?_
 unfold lex_Number_sk
 simp only [Sk.obq,Sk.isLoop,reduceCtorEq,ON,kk,lex_span_83_k,maxLen]
 all_goals (repeat' first | assumption | (refine r_ob1 ?_ ?_ ?_) | (refine r_ob ?_ ?_) | (refine r_ps ?_ ?_) | (apply And.intro) | (intro h))
 all_goals (try simp only [LN,bnilE,Bool.and_eq_true,Bool.and_eq_false_imp,decide_eq_true_eq,bne_iff_ne,beq_iff_eq,ne_eq,bne_eq_false_iff_eq,ByteArray.size_extract] at *)
 all_goals first | trivial | assumption | omega | grind [w64_id] | (simp (disch:=omega) only [w64_id] at *; omega) | (simp (disch:=omega) only [w64_id,szP,maxLen] at *; omega) | grind | (simp_all; done) | (simp_all; omega)
noncomputable def lex_Number_k (s:ByteArray):Ctr (Int × Bool):=kk tok mixed Tryz.func84 [sv s] (fun x=>.tup [iv x.1,bv x.2]) true (lex_Number_sk s) (lex_Number s) (fun (h:(s.size≤1000000))=>lex_Number_ok s h) (fun (x:Int × Bool)=>(s.size≤1000000)→(x.2=true→1≤s.size)) (lex_Number_post s)
noncomputable def lex_plain_sk (c_:Int):Sk (Bool) :=
 .fin ((decide (c_≥32))&&(decide (c_≤126)))
noncomputable def lex_plain (c_:Int):Bool:=(lex_plain_sk c_).val
theorem lex_plain_eq (c_:Int):lex_plain c_=((decide (c_≥32))&&(decide (c_≤126))):=rfl
theorem lex_plain_ok (c_:Int):(lex_plain_sk c_).obs (fun _=>True):=by
 unfold lex_plain_sk
 exact okE
noncomputable def lex_plain_k (c_:Int):Ctr (Bool):=kk tok mixed Tryz.func116 [.d (.v (.int .u8 c_))] (fun x=>bv x) true (lex_plain_sk c_) (lex_plain c_) (fun (_:True)=>lex_plain_ok c_)
noncomputable def lex_quoted_sk (s:ByteArray):Sk (ByteArray × Int) :=
 .bind true (fun b1=>1≤(b1.2:Int)∧((b1.1.length:Nat):Int) < b1.2∧(b1.2:Int) < ((s.size:Nat):Int))
 (.loop (default:Sum (ByteArray × Int) ((List Int) × Int)) (fun i2=>1≤(i2.2:Int)∧((i2.1.length:Nat):Int) < i2.2∧(i2.2:Int)≤((s.size:Nat):Int)+2) (fun i2=>((s.size:Int)+2 - i2.2).toNat) (([],1):(List Int) × Int)
 (fun (i2:(List Int) × Int)=>⟨[(4,ow 100002 i2.1),(5,iv i2.2)],[(100002,rowB 5 1 u8C i2.1)]⟩) fun i2 =>
 .r 3 (.andl (.wh (decide (i2.2≥((s.size:Nat):Int))) false (.p (0≤i2.2∧i2.2 < ((s.size:Nat):Int)))) (.wh (decide (i2.2≥((s.size:Nat):Int))) false ((lex_plain_k ((s.data.toList.getD i2.2.toNat 0).toNat:Int)).c))) fun x3 =>
 .br ((decide (i2.2≥((s.size:Nat):Int)))||(!x3))
 (.fin (.inl (.inl ((⟨#[]⟩:ByteArray),0))))
 (.r 5 (.p (0≤i2.2∧i2.2 < ((s.size:Nat):Int))) fun _ =>
 .br (((s.data.toList.getD i2.2.toNat 0).toNat:Int) == 34)
 (.fin (.inl (.inr (i2.1,i2.2))))
 (.r 6 (.p (0≤i2.2∧i2.2 < ((s.size:Nat):Int))) fun _ =>
 .br (((s.data.toList.getD i2.2.toNat 0).toNat:Int) == 92)
 (.r 8 (.andl (.wh (decide ((w64 (i2.2+1))≥((s.size:Nat):Int))) false (.p (0≤(w64 (i2.2+1))∧(w64 (i2.2+1)) < ((s.size:Nat):Int)))) (.wh (decide ((w64 (i2.2+1))≥((s.size:Nat):Int))) false (.wh (((s.data.toList.getD ((w64 (i2.2+1)).toNat) 0).toNat:Int) != 34) true (.p (0≤(w64 (i2.2+1))∧(w64 (i2.2+1)) < ((s.size:Nat):Int)))))) fun _ =>
 .br ((decide ((w64 (i2.2+1))≥((s.size:Nat):Int)))||((((s.data.toList.getD ((w64 (i2.2+1)).toNat) 0).toNat:Int) != 34)&&(((s.data.toList.getD ((w64 (i2.2+1)).toNat) 0).toNat:Int) != 92)))
 (.fin (.inl (.inl ((⟨#[]⟩:ByteArray),0))))
 (.r 10 (.andl (.p (0≤(w64 (i2.2+1))∧(w64 (i2.2+1)) < ((s.size:Nat):Int))) (.andl (.o [.nrm (litC u8E [((s.data.toList.getD ((w64 (i2.2+1)).toNat) 0).toNat:Int)])]) (.andl (.o [.nrm (catC u8E i2.1 [((s.data.toList.getD ((w64 (i2.2+1)).toNat) 0).toNat:Int)])]) (.andl (.t (u8E.ones [((s.data.toList.getD ((w64 (i2.2+1)).toNat) 0).toNat:Int)])) (.p (szP i2.1.length [((s.data.toList.getD ((w64 (i2.2+1)).toNat) 0).toNat:Int)].length 1)))))) fun _ =>
 .fin (.inr (i2.1++[((s.data.toList.getD ((w64 (i2.2+1)).toNat) 0).toNat:Int)],w64 ((w64 (i2.2+1))+1)))))
 (.r 10 (.andl (.p (0≤i2.2∧i2.2 < ((s.size:Nat):Int))) (.andl (.o [.nrm (litC u8E [((s.data.toList.getD i2.2.toNat 0).toNat:Int)])]) (.andl (.o [.nrm (catC u8E i2.1 [((s.data.toList.getD i2.2.toNat 0).toNat:Int)])]) (.andl (.t (u8E.ones [((s.data.toList.getD i2.2.toNat 0).toNat:Int)])) (.p (szP i2.1.length [((s.data.toList.getD i2.2.toNat 0).toNat:Int)].length 1)))))) fun _ =>
 .fin (.inr (i2.1++[((s.data.toList.getD i2.2.toNat 0).toNat:Int)],w64 (i2.2+1)))))))
 (fun (b1:(List Int) × Int)=>⟨[(4,ow 100001 b1.1),(5,iv b1.2)],[(100001,rowB 5 1 u8C b1.1)]⟩) fun b1 =>
 .br (decide (((b1.1.length:Nat):Int) > 400))
 (.fin ((⟨#[]⟩:ByteArray),0))
 (.fz 100001 <|
 .r 14 (.t (bytesT b1.1)) fun _ =>
 .fin (bytesS b1.1,w64 (b1.2+1)))
noncomputable def lex_quoted (s:ByteArray):ByteArray × Int:=(lex_quoted_sk s).val
theorem lex_quoted_pst (s:ByteArray) (hP:s.size≤1000000):(lex_quoted_sk s).pst (fun (x:ByteArray × Int)=>0≤x.2∧x.2≤((s.size:Nat):Int)):=by
 refine Sk.pst_of _ ?_
 unfold lex_quoted_sk
 simp only [Sk.pstq,Sk.isLoop,reduceCtorEq,ON,kk,lex_plain_k,lex_plain_eq,forall_eq,maxLen]
 all_goals (repeat' first | assumption | (refine r_ob1 ?_ ?_ ?_) | (refine r_ob ?_ ?_) | (refine r_ps ?_ ?_) | (apply And.intro) | (intro h))
 all_goals (try simp only [LN,bnilE,Bool.and_eq_true,Bool.and_eq_false_imp,decide_eq_true_eq,bne_iff_ne,beq_iff_eq,ne_eq,bne_eq_false_iff_eq,ByteArray.size_extract] at *)
 all_goals first | trivial | assumption | omega | grind [w64_id] | (simp (disch:=omega) only [w64_id] at *; omega) | (simp (disch:=omega) only [w64_id,szP,maxLen] at *; omega) | grind | (simp_all; done) | (simp_all; omega)
theorem lex_quoted_post (s:ByteArray):(fun (x:ByteArray × Int)=>(s.size≤1000000)→(0≤x.2∧x.2≤((s.size:Nat):Int))) (lex_quoted s):=fun hP=>have h:=Sk.pval _ (lex_quoted_pst s hP); h
theorem lex_quoted_ok (s:ByteArray) (hs:s.size≤1000000):(lex_quoted_sk s).obs (fun _=>True):=by
 refine Sk.obs_of _ ?_
 unfold lex_quoted_sk
 simp only [Sk.obq,Sk.isLoop,reduceCtorEq,ON,kk,lex_plain_k,lex_plain_eq,forall_eq,maxLen]
 all_goals (repeat' first | assumption | (refine r_ob1 ?_ ?_ ?_) | (refine r_ob ?_ ?_) | (refine r_ps ?_ ?_) | (apply And.intro) | (intro h))
 all_goals (try simp only [LN,bnilE,Bool.and_eq_true,Bool.and_eq_false_imp,decide_eq_true_eq,bne_iff_ne,beq_iff_eq,ne_eq,bne_eq_false_iff_eq,ByteArray.size_extract] at *)
 all_goals first | trivial | assumption | omega | grind [w64_id] | (simp (disch:=omega) only [w64_id] at *; omega) | (simp (disch:=omega) only [w64_id,szP,maxLen] at *; omega) | grind | (simp_all; done) | (simp_all; omega)
noncomputable def lex_quoted_k (s:ByteArray):Ctr (ByteArray × Int):=kk tok mixed Tryz.func85 [sv s] (fun x=>.tup [sv x.1,iv x.2]) true (lex_quoted_sk s) (lex_quoted s) (fun (h:(s.size≤1000000))=>lex_quoted_ok s h) (fun (x:ByteArray × Int)=>(s.size≤1000000)→(0≤x.2∧x.2≤((s.size:Nat):Int))) (lex_quoted_post s)
noncomputable def lex_next_sk (s:ByteArray):Sk (Token × Int × Int) :=
 .r 1 (.andl (.p (0≤(0:Int)∧0 < ((s.size:Nat):Int))) ((lex_letter_k ((s.data.toList.getD 0 0).toNat:Int)).c)) fun x1 =>
 .br x1
 (.r 2 (.depr ((lex_span_68_k s).c) fun x2=>.p (0≤x2∧x2≤((s.size:Nat):Int))) fun x2 =>
 .r 3 ((lex_Name_k (s.extract 0 x2.toNat)).c) fun x3 =>
 .br (!x3)
 (.fin (({ kind:=0,text:=(⟨#[]⟩:ByteArray),n:=0,pos:=0 }:Token),0,3))
 (.fin (({ kind:=0,text:=s.extract 0 x2.toNat,n:=0,pos:=0 }:Token),(((s.extract 0 x2.toNat).size:Nat):Int),0)))
 (.r 6 (.andl (.p (0≤(0:Int)∧0 < ((s.size:Nat):Int))) ((lex_digit_k ((s.data.toList.getD 0 0).toNat:Int)).c)) fun x4 =>
 .br x4
 (.r 7 (.depr ((lex_span_83_k s).c) fun x5=>.p (0≤x5∧x5≤((s.size:Nat):Int))) fun x5 =>
 .r 8 ((lex_Number_k (s.extract 0 x5.toNat)).c) fun x6 =>
 .br (!x6.2)
 (.fin (({ kind:=0,text:=(⟨#[]⟩:ByteArray),n:=0,pos:=0 }:Token),0,3))
 (.fin (({ kind:=1,text:=s.extract 0 x5.toNat,n:=x6.1,pos:=0 }:Token),(((s.extract 0 x5.toNat).size:Nat):Int),0)))
 (.r 12 (.p (0≤(0:Int)∧0 < ((s.size:Nat):Int))) fun _ =>
 .br (((s.data.toList.getD 0 0).toNat:Int) == 34)
 (.r 13 ((lex_quoted_k s).c) fun x7 =>
 .br (x7.2 == 0)
 (.fin (({ kind:=0,text:=(⟨#[]⟩:ByteArray),n:=0,pos:=0 }:Token),0,21))
 (.fin (({ kind:=2,text:=x7.1,n:=0,pos:=0 }:Token),x7.2,0)))
 (.bind true (fun _=>True)
 (.loop (default:Sum (Token × Int × Int) (Unit)) (fun i9=>i9≤13) (fun i9=>13 - i9) (0:Nat)
 (fun (i9:Nat)=>⟨[(66,iv (i9:Int))],[]⟩) fun i9 =>
 .br (decide ((i9:Int) < 13))
 (.r 19 (.p (0≤(i9:Int)∧(i9:Int) < ((13:Nat):Int))) fun _ =>
 .r 20 (.p (0≤(0:Int)∧0 < ((s.size:Nat):Int))) fun _ =>
 .br (((s.data.toList.getD 0 0).toNat:Int) == (([40,41,44,59,58,61,60,43,45,42,46,123,125]:List Int).getD i9 0))
 (.r 21 (.p (0≤(1:Int)∧1≤((s.size:Nat):Int))) fun _ =>
 .fin (.inl (.inl (({ kind:=3,text:=s.extract 0 1,n:=0,pos:=0 }:Token),1,0))))
 (.r 22 .z fun _ =>
 .wi 66 (w64 ((i9:Int)+1)) ((i9+1:Nat):Int) <|
 .fin (.inr (i9+1))))
 (.fin (.inl (.inr ()))))
 (fun (_:Unit)=>⟨[],[]⟩) fun _ =>
 .fin (({ kind:=0,text:=(⟨#[]⟩:ByteArray),n:=0,pos:=0 }:Token),0,20))))
noncomputable def lex_next (s:ByteArray):Token × Int × Int:=(lex_next_sk s).val
theorem lex_next_pst (s:ByteArray) (hP:s.size≤1000000∧1≤s.size):(lex_next_sk s).pst (fun (x:Token × Int × Int)=>x.2.2=0→1≤x.2.1∧x.2.1≤((s.size:Nat):Int)):=by
 refine Sk.pst_of _ ?_
 unfold lex_next_sk
 simp only [Sk.pstq,Sk.isLoop,reduceCtorEq,ON,kk,lex_Name_k,lex_Number_k,lex_digit_k,lex_letter_k,lex_quoted_k,lex_span_68_k,lex_span_83_k,lex_digit_eq,lex_letter_eq,forall_eq,maxLen]
 all_goals (repeat' first | assumption | (refine r_ob1 ?_ ?_ ?_) | (refine r_ob ?_ ?_) | (refine r_ps ?_ ?_) | (apply And.intro) | (intro h))
 all_goals (try simp only [LN,bnilE,Bool.and_eq_true,Bool.and_eq_false_imp,decide_eq_true_eq,bne_iff_ne,beq_iff_eq,ne_eq,bne_eq_false_iff_eq,ByteArray.size_extract] at *)
 all_goals first | trivial | assumption | omega | grind [w64_id] | (simp (disch:=omega) only [w64_id] at *; omega) | (simp (disch:=omega) only [w64_id,szP,maxLen] at *; omega) | grind | (simp_all; done) | (simp_all; omega)
theorem lex_next_post (s:ByteArray):(fun (x:Token × Int × Int)=>(s.size≤1000000∧1≤s.size)→(x.2.2=0→1≤x.2.1∧x.2.1≤((s.size:Nat):Int))) (lex_next s):=fun hP=>have h:=Sk.pval _ (lex_next_pst s hP); h
theorem lex_next_ok (s:ByteArray) (hs:s.size≤1000000) (h0:1≤s.size):(lex_next_sk s).obs (fun _=>True):=by
 refine Sk.obs_of _ ?_
 unfold lex_next_sk
 simp only [Sk.obq,Sk.isLoop,reduceCtorEq,ON,kk,lex_Name_k,lex_Number_k,lex_digit_k,lex_letter_k,lex_quoted_k,lex_span_68_k,lex_span_83_k,lex_digit_eq,lex_letter_eq,forall_eq,maxLen]
 all_goals (repeat' first | assumption | (refine r_ob1 ?_ ?_ ?_) | (refine r_ob ?_ ?_) | (refine r_ps ?_ ?_) | (apply And.intro) | (intro h))
 all_goals (try simp only [LN,bnilE,Bool.and_eq_true,Bool.and_eq_false_imp,decide_eq_true_eq,bne_iff_ne,beq_iff_eq,ne_eq,bne_eq_false_iff_eq,ByteArray.size_extract] at *)
 all_goals first | trivial | assumption | omega | grind [w64_id] | (simp (disch:=omega) only [w64_id] at *; omega) | (simp (disch:=omega) only [w64_id,szP,maxLen] at *; omega) | grind | (simp_all; done) | (simp_all; omega)
noncomputable def lex_next_k (s:ByteArray):Ctr (Token × Int × Int):=kk tok mixed Tryz.func41 [sv s] (fun x=>.tup [av x.1.cells,iv x.2.1,iv x.2.2]) true (lex_next_sk s) (lex_next s) (fun (h:(s.size≤1000000)∧(1≤s.size))=>lex_next_ok s h.1 h.2) (fun (x:Token × Int × Int)=>(s.size≤1000000∧1≤s.size)→(x.2.2=0→1≤x.2.1∧x.2.1≤((s.size:Nat):Int))) (lex_next_post s)
noncomputable def lex_Scan_sk (s:ByteArray):Sk ((List Token) × Int × Int) :=
 .br (decide (((s.size:Nat):Int) > 20000))
 (.fin ([],0,6))
 (.loop (default:(List Token) × Int × Int) (fun i1=>0≤(i1.2:Int)∧(i1.2:Int)≤((s.size:Nat):Int)∧((i1.1.length:Nat):Int)≤i1.2) (fun i1=>((s.size:Int) - i1.2).toNat) (([],0):(List Token) × Int)
 (fun (i1:(List Token) × Int)=>⟨[(5,ow 100001 i1.1),(6,iv i1.2)],[(100001,rowB 76 4 Token.cells i1.1)]⟩) fun i1 =>
 .r 5 (.andl (.p (0≤i1.2∧i1.2≤((s.size:Nat):Int))) ((lex_gap_k (s.extract i1.2.toNat s.size)).c)) fun x2 =>
 .br ((w64 (i1.2+x2)) == ((s.size:Nat):Int))
 (.fin (.inl (i1.1,0,0)))
 (.r 8 (.andl (.p (0≤(w64 (i1.2+x2))∧(w64 (i1.2+x2))≤((s.size:Nat):Int))) ((lex_next_k (s.extract ((w64 (i1.2+x2)).toNat) s.size)).c)) fun x3 =>
 .br (x3.2.2 != 0)
 (.fin (.inl ([],w64 (i1.2+x2),x3.2.2)))
 (.r 12 (.andl (.o [.nrm (litC Token.E [{ x3.1 with pos:=w64 (i1.2+x2) }])]) (.andl (.o [.nrm (catC Token.E i1.1 [{ x3.1 with pos:=w64 (i1.2+x2) }])]) (.andl (.t (Token.E.ones [{ x3.1 with pos:=w64 (i1.2+x2) }])) (.p (szP i1.1.length [{ x3.1 with pos:=w64 (i1.2+x2) }].length 40))))) fun _ =>
 .fin (.inr (i1.1++[{ x3.1 with pos:=w64 (i1.2+x2) }],w64 ((w64 (i1.2+x2))+x3.2.1))))))
noncomputable def lex_Scan (s:ByteArray):(List Token) × Int × Int:=(lex_Scan_sk s).val
theorem lex_Scan_pst (s:ByteArray):(lex_Scan_sk s).pst (fun (x:(List Token) × Int × Int)=>x.1.length≤20000):=by
 refine Sk.pst_of _ ?_
 unfold lex_Scan_sk
 simp only [Sk.pstq,Sk.isLoop,reduceCtorEq,ON,kk,lex_gap_k,lex_next_k,maxLen]
 all_goals (repeat' first | assumption | (refine r_ob1 ?_ ?_ ?_) | (refine r_ob ?_ ?_) | (refine r_ps ?_ ?_) | (apply And.intro) | (intro h))
 all_goals (try simp only [LN,bnilE,Bool.and_eq_true,Bool.and_eq_false_imp,decide_eq_true_eq,bne_iff_ne,beq_iff_eq,ne_eq,bne_eq_false_iff_eq,ByteArray.size_extract] at *)
 all_goals first | trivial | assumption | omega | grind [w64_id] | (simp (disch:=omega) only [w64_id] at *; omega) | (simp (disch:=omega) only [w64_id,szP,maxLen] at *; omega) | grind | (simp_all; done) | (simp_all; omega)
theorem lex_Scan_post (s:ByteArray):(fun (x:(List Token) × Int × Int)=>x.1.length≤20000) (lex_Scan s):=have h:=Sk.pval _ (lex_Scan_pst s); h
theorem lex_Scan_ok (s:ByteArray):(lex_Scan_sk s).obs (fun _=>True):=by
 refine Sk.obs_of _ ?_
 unfold lex_Scan_sk
 simp only [Sk.obq,Sk.isLoop,reduceCtorEq,ON,kk,lex_gap_k,lex_next_k,maxLen]
 all_goals (repeat' first | assumption | (refine r_ob1 ?_ ?_ ?_) | (refine r_ob ?_ ?_) | (refine r_ps ?_ ?_) | (apply And.intro) | (intro h))
 all_goals (try simp only [LN,bnilE,Bool.and_eq_true,Bool.and_eq_false_imp,decide_eq_true_eq,bne_iff_ne,beq_iff_eq,ne_eq,bne_eq_false_iff_eq,ByteArray.size_extract] at *)
 all_goals first | trivial | assumption | omega | grind [w64_id] | (simp (disch:=omega) only [w64_id] at *; omega) | (simp (disch:=omega) only [w64_id,szP,maxLen] at *; omega) | grind | (simp_all; done) | (simp_all; omega)
noncomputable def lex_Scan_k (s:ByteArray):Ctr ((List Token) × Int × Int):=kk tok mixed Tryz.func24 [sv s] (fun x=>.tup [lv Token.cells x.1,iv x.2.1,iv x.2.2]) false (lex_Scan_sk s) (lex_Scan s) (fun (_:True)=>lex_Scan_ok s) (fun (x:(List Token) × Int × Int)=>x.1.length≤20000) (lex_Scan_post s)
structure Choice where
 ask:Int
 by_:Int
 whole:Bool
 deriving Inhabited
def Choice.cells (c:Choice):List D:=[dI c.ask,dI c.by_,dB c.whole]
def Choice.E:Enc Choice:=⟨Choice.cells,3,fun _=>rfl,fun _=>rfl⟩
structure Term where
 op:Int
 n:Int
 args:List Term
instance:Inhabited Term:=⟨⟨default,default,default⟩⟩
mutual
def Term.argsR:Term→D
 | ⟨_,_,args⟩=>.sl args.length (Term.cellsF args)
def Term.cellsF:List Term→Nat→List D
 | [],_=>[]
 | x :: _,0=>[dI x.op,dI x.n,Term.argsR x]
 | _ :: r,i+1=>Term.cellsF r i
end
def Term.cellsR (x:Term):List D:=[dI x.op,dI x.n,Term.argsR x]
theorem Term.cellsF_at:∀ (l:List Term) (i:Nat),i < l.length→Term.cellsF l i=(l.getD i default).cellsR
 | [],i,h=>absurd h (by simp)
 | x :: r,0,_=>by simp [Term.cellsF,Term.cellsR]
 | x :: r,i+1,h=>by simpa [Term.cellsF] using Term.cellsF_at r i (by simpa using h)
def Term.cells (c:Term):List D:=[dI c.op,dI c.n,slD Term.cellsR c.args]
theorem Term.argsR_le (c:Term):DLe (Term.argsR c) (slD Term.cellsR c.args)∧DLe (slD Term.cellsR c.args) (Term.argsR c):=by
 obtain ⟨op,n,args⟩:=c
 unfold Term.argsR
 exact ⟨DLe.sl rfl (fun i hi=>Term.cellsF_at args i hi),DLe.sl rfl (fun i hi=>(Term.cellsF_at args i hi).symm)⟩
theorem Term.unroll (c:Term):CsLe c.cellsR c.cells:=.cons .rfl' (.cons .rfl' (.cons ((Term.argsR_le c).1) (.nil)))
theorem Term.roll (c:Term):CsLe c.cells c.cellsR:=.cons .rfl' (.cons .rfl' (.cons ((Term.argsR_le c).2) (.nil)))
def Term.E:Enc Term:=⟨Term.cellsR,3,fun _=>rfl,fun ⟨_,_,_⟩=>by unfold Term.cellsR; rfl⟩
mutual
def Term.depth:Term→Nat
 | ⟨_,_,args⟩=>Term.depthL args+1
def Term.depthL:List Term→Nat
 | []=>0
 | x :: r=>max x.depth (Term.depthL r)
end
theorem Term.depthL_at:∀ (l:List Term) (i:Nat),i < l.length→(l.getD i default).depth≤Term.depthL l
 | [],i,h=>absurd h (by simp)
 | x :: r,0,_=>by simp [Term.depthL]; omega
 | x :: r,i+1,h=>by
  have:=Term.depthL_at r i (by simpa using h)
  simp [Term.depthL] at this ⊢
  omega
theorem Term.depth_args (c:Term) (i:Nat) (h:i < c.args.length):(c.args.getD i default).depth < c.depth:=by
 obtain ⟨op,n,args⟩:=c
 have:=Term.depthL_at args i h
 simp only [Term.depth]
 omega
theorem Term.depth_pos (c:Term):0 < c.depth:=by
 obtain ⟨op,n,args⟩:=c
 simp only [Term.depth]
 omega
structure Rule where
 ask:Int
 term:Term
 deriving Inhabited
def Rule.cells (c:Rule):List D:=[dI c.ask]++c.term.cells
def Rule.E:Enc Rule:=⟨Rule.cells,4,fun _=>rfl,fun _=>rfl⟩
structure Order where
 name:ByteArray
 accepts:Bool
 choices:List Choice
 rules:List Rule
 deriving Inhabited
def Order.cells (c:Order):List D:=[.v (.string c.name),dB c.accepts,slD Choice.cells c.choices,slD Rule.cells c.rules]
def Order.E:Enc Order:=⟨Order.cells,4,fun _=>rfl,fun _=>rfl⟩
structure Reader where
 l:List Token
 at_:Int
 end_:Int
 list:List Order
 deriving Inhabited
structure Wrong where
 pos:Int
 e:Int
 deriving Inhabited
def panV (e_:Wrong):Value:=.iface 53 (.agg #[.int .i64 e_.pos,.int .i64 e_.e])
def Reader.bx (κ ρ:Nat) (m:Reader):List (Nat × Blk):=[(κ,.box [lv Token.cells m.l,iv m.at_,iv m.end_,ow (ρ+4) m.list]),((ρ+4),rowB 39 4 Order.cells m.list)]
def Rgd (x:Reader):Prop:=0≤x.at_∧x.at_≤(x.l.length:Int)∧x.l.length≤20000∧x.list.length≤20
def Rs (x y:Reader):Prop:=y.l.length=x.l.length∧y.list.length=x.list.length∧x.at_≤y.at_∧y.at_≤(x.l.length:Int)
theorem nodup_snoc {α:Type} [Inhabited α] {key:α→Int} {l:List α} {c:α} {b:Bool} (hn:(l.map key).Nodup) (hb:b=true↔∃ q,q < l.length∧(key (l.getD q default) == key c)=true) (hf:b=false):((l++[c]).map key).Nodup:=by
 rw [List.map_append,List.nodup_append]
 refine ⟨hn,List.nodup_cons.2 ⟨by simp,List.nodup_nil⟩,fun a ha a' ha' e=>?_⟩
 obtain ⟨x,hx,rfl⟩:=List.mem_map.1 ha
 have e2:a'=key c:=by simpa using ha'
 obtain ⟨q,hq,rfl⟩:=List.mem_iff_getElem.1 hx
 have:b=true:=hb.2 ⟨q,hq,by rw [← e2,← e]; simp [List.getD,hq]⟩
 rw [hf] at this
 cases this
noncomputable def rule_reader_is_sk (x_:Reader) (s:ByteArray):Sk (Bool × Reader) :=
 .r 1 (.andl (.wh (decide (x_.at_ < ((x_.l.length:Nat):Int))) true (.p (ixP x_.at_ x_.l.length))) (.andl (.wh ((decide (x_.at_ < ((x_.l.length:Nat):Int)))&&(((x_.l.getD x_.at_.toNat default).text).toList == s.toList)) true (.p (ixP x_.at_ x_.l.length))) (.wh ((decide (x_.at_ < ((x_.l.length:Nat):Int)))&&(((x_.l.getD x_.at_.toNat default).text).toList == s.toList)) true (.wh (((x_.l.getD x_.at_.toNat default).kind) == 0) false (.p (ixP x_.at_ x_.l.length)))))) fun _ =>
 .fin (((decide (x_.at_ < ((x_.l.length:Nat):Int)))&&(((x_.l.getD x_.at_.toNat default).text).toList == s.toList))&&((((x_.l.getD x_.at_.toNat default).kind) == 0)||(((x_.l.getD x_.at_.toNat default).kind) == 3)),x_)
noncomputable def rule_reader_is (x_:Reader) (s:ByteArray):Bool × Reader:=(rule_reader_is_sk x_ s).val
theorem rule_reader_is_pst (x_:Reader) (s:ByteArray) (hP:Rgd x_):(rule_reader_is_sk x_ s).pst (fun (x:Bool × Reader)=>x.2.at_=x_.at_∧x.2.l=x_.l∧x.2.end_=x_.end_∧x.2.list=x_.list∧x.2=x_∧(x.1=true→x_.at_ < (x_.l.length:Int))):=by
 refine Sk.pst_of _ ?_
 unfold rule_reader_is_sk
 simp only [Sk.pstq,Sk.isLoop,reduceCtorEq,ON,kk,CtrX.c,CtrB.c,maxLen]
 all_goals (repeat' first | assumption | (refine rx_ob ?_ ?_ ?_) | (refine rx_ps ?_ ?_ ?_) | (refine rx_ob0 ?_ ?_) | (refine r_ob ?_ ?_) | (refine r_ps ?_ ?_) | (apply And.intro) | (intro h))
 all_goals (try simp only [Rgd,Rs,ixP,OkP_ok,OkP_error,leafE,LN] at *)
 all_goals first | trivial | assumption | omega | grind [w64_id] | (simp (disch:=omega) only [w64_id] at *; omega) | (simp only [szP,maxLen] at *; omega) | (simp (disch:=omega) only [w64_id,szP,maxLen] at *; omega) | grind | (simp_all; done) | (simp_all; omega)
theorem rule_reader_is_post (x_:Reader) (s:ByteArray):(fun (x:Bool × Reader)=>(Rgd x_)→(x.2.at_=x_.at_∧x.2.l=x_.l∧x.2.end_=x_.end_∧x.2.list=x_.list∧x.2=x_∧(x.1=true→x_.at_ < (x_.l.length:Int)))) (rule_reader_is x_ s):=fun hP=>have h:=Sk.pval _ (rule_reader_is_pst x_ s hP); h
theorem rule_reader_is_ok (x_:Reader) (s:ByteArray) (hr:Rgd x_):(rule_reader_is_sk x_ s).obs (fun _=>True):=by
 refine Sk.obs_of _ ?_
 unfold rule_reader_is_sk
 simp only [Sk.obq,Sk.isLoop,reduceCtorEq,ON,kk,CtrX.c,CtrB.c,maxLen]
 all_goals (repeat' first | assumption | (refine rx_ob ?_ ?_ ?_) | (refine rx_ps ?_ ?_ ?_) | (refine rx_ob0 ?_ ?_) | (refine r_ob ?_ ?_) | (refine r_ps ?_ ?_) | (apply And.intro) | (intro h))
 all_goals (try simp only [Rgd,Rs,ixP,OkP_ok,OkP_error,leafE,LN] at *)
 all_goals first | trivial | assumption | omega | grind [w64_id] | (simp (disch:=omega) only [w64_id] at *; omega) | (simp only [szP,maxLen] at *; omega) | (simp (disch:=omega) only [w64_id,szP,maxLen] at *; omega) | grind | (simp_all; done) | (simp_all; omega)
theorem rule_reader_is_fnB (x_:Reader) (s:ByteArray) (hr:Rgd x_):FnB Tryz.prog 86 [.ptr 888020 0,sv s] (Reader.bx 888020 888020 x_) ((fun (x:Bool × Reader)=>(bv x.1:AV)) (rule_reader_is x_ s)) ((fun (x:Bool × Reader)=>Reader.bx 888020 888025 x.2) (rule_reader_is x_ s)) [(0,888020)] :=
 FnB.sk tok mixed (fun x=>bv x.1) (fun x=>Reader.bx 888020 888025 x.2) [(0,888020)] Tryz.func86 rfl (by kernel_rfl) 3000 (rule_reader_is_sk x_ s) (by kernel_rfl) (rule_reader_is_ok x_ s hr)
noncomputable def rule_reader_is_kb (x_:Reader) (s:ByteArray):CtrB (Bool × Reader):=⟨Tryz.prog,86,[.ptr 888020 0,sv s],(Reader.bx 888020 888020 x_),[(0,888020)],fun x=>bv x.1,fun x=>Reader.bx 888020 888025 x.2,rule_reader_is x_ s,(Rgd x_),fun h=>rule_reader_is_fnB x_ s h,fun (x:Bool × Reader)=>(Rgd x_)→(x.2.at_=x_.at_∧x.2.l=x_.l∧x.2.end_=x_.end_∧x.2.list=x_.list∧x.2=x_∧(x.1=true→x_.at_ < (x_.l.length:Int))),rule_reader_is_post x_ s⟩
noncomputable def rule_reader_take_sk (x_:Reader) (s:ByteArray):Sk (Bool × Reader) :=
 .r 1 ((rule_reader_is_kb x_ s).c) fun x1 =>
 .br (!x1.1)
 (.fin (false,x1.2))
 (.fin (true,({ l:=x1.2.l,at_:=w64 (x1.2.at_+1),end_:=x1.2.end_,list:=x1.2.list }:Reader)))
noncomputable def rule_reader_take (x_:Reader) (s:ByteArray):Bool × Reader:=(rule_reader_take_sk x_ s).val
theorem rule_reader_take_pst (x_:Reader) (s:ByteArray) (hP:Rgd x_):(rule_reader_take_sk x_ s).pst (fun (x:Bool × Reader)=>Rs x_ x.2∧(x.1=true→x_.at_+1≤x.2.at_)∧(x.1=false→x.2=x_)):=by
 refine Sk.pst_of _ ?_
 unfold rule_reader_take_sk
 simp only [Sk.pstq,Sk.isLoop,reduceCtorEq,ON,kk,rule_reader_is_kb,CtrB.c,CtrX.c,CtrB.c,maxLen]
 all_goals (repeat' first | assumption | (refine rx_ob ?_ ?_ ?_) | (refine rx_ps ?_ ?_ ?_) | (refine rx_ob0 ?_ ?_) | (refine r_ob ?_ ?_) | (refine r_ps ?_ ?_) | (apply And.intro) | (intro h))
 all_goals (try simp only [Rgd,Rs,ixP,OkP_ok,OkP_error,leafE,LN] at *)
 all_goals first | trivial | assumption | omega | grind [w64_id] | (simp (disch:=omega) only [w64_id] at *; omega) | (simp only [szP,maxLen] at *; omega) | (simp (disch:=omega) only [w64_id,szP,maxLen] at *; omega) | grind | (simp_all; done) | (simp_all; omega)
theorem rule_reader_take_post (x_:Reader) (s:ByteArray):(fun (x:Bool × Reader)=>(Rgd x_)→(Rs x_ x.2∧(x.1=true→x_.at_+1≤x.2.at_)∧(x.1=false→x.2=x_))) (rule_reader_take x_ s):=fun hP=>have h:=Sk.pval _ (rule_reader_take_pst x_ s hP); h
theorem rule_reader_take_ok (x_:Reader) (s:ByteArray) (hr:Rgd x_):(rule_reader_take_sk x_ s).obs (fun _=>True):=by
 refine Sk.obs_of _ ?_
 unfold rule_reader_take_sk
 simp only [Sk.obq,Sk.isLoop,reduceCtorEq,ON,kk,rule_reader_is_kb,CtrB.c,CtrX.c,CtrB.c,maxLen]
 all_goals (repeat' first | assumption | (refine rx_ob ?_ ?_ ?_) | (refine rx_ps ?_ ?_ ?_) | (refine rx_ob0 ?_ ?_) | (refine r_ob ?_ ?_) | (refine r_ps ?_ ?_) | (apply And.intro) | (intro h))
 all_goals (try simp only [Rgd,Rs,ixP,OkP_ok,OkP_error,leafE,LN] at *)
 all_goals first | trivial | assumption | omega | grind [w64_id] | (simp (disch:=omega) only [w64_id] at *; omega) | (simp only [szP,maxLen] at *; omega) | (simp (disch:=omega) only [w64_id,szP,maxLen] at *; omega) | grind | (simp_all; done) | (simp_all; omega)
theorem rule_reader_take_fnB (x_:Reader) (s:ByteArray) (hr:Rgd x_):FnB Tryz.prog 46 [.ptr 888020 0,sv s] (Reader.bx 888020 888020 x_) ((fun (x:Bool × Reader)=>(bv x.1:AV)) (rule_reader_take x_ s)) ((fun (x:Bool × Reader)=>Reader.bx 888020 888025 x.2) (rule_reader_take x_ s)) [(0,888020)] :=
 FnB.sk tok mixed (fun x=>bv x.1) (fun x=>Reader.bx 888020 888025 x.2) [(0,888020)] Tryz.func46 rfl (by kernel_rfl) 3000 (rule_reader_take_sk x_ s) (by kernel_rfl) (rule_reader_take_ok x_ s hr)
noncomputable def rule_reader_take_kb (x_:Reader) (s:ByteArray):CtrB (Bool × Reader):=⟨Tryz.prog,46,[.ptr 888020 0,sv s],(Reader.bx 888020 888020 x_),[(0,888020)],fun x=>bv x.1,fun x=>Reader.bx 888020 888025 x.2,rule_reader_take x_ s,(Rgd x_),fun h=>rule_reader_take_fnB x_ s h,fun (x:Bool × Reader)=>(Rgd x_)→(Rs x_ x.2∧(x.1=true→x_.at_+1≤x.2.at_)∧(x.1=false→x.2=x_)),rule_reader_take_post x_ s⟩
theorem bytes_inj {s t:ByteArray} (h:s.toList=t.toList):s=t:=by
 rw [ByteArray.toList_eq,ByteArray.toList_eq] at h
 obtain ⟨⟨s⟩⟩:=s
 obtain ⟨⟨t⟩⟩:=t
 simp at h
 subst h; rfl
theorem is_eq (x:Reader) (s:ByteArray):rule_reader_is x s=(((decide (x.at_ < ((x.l.length:Nat):Int)))&&(((x.l.getD x.at_.toNat default).text).toList == s.toList))&&((((x.l.getD x.at_.toNat default).kind) == 0)||(((x.l.getD x.at_.toNat default).kind) == 3)),x):=rfl
theorem take_eq (x:Reader) (s:ByteArray):rule_reader_take x s=bif (rule_reader_is x s).1 then (true,{ x with at_:=w64 (x.at_+1) }) else (false,x):=by
 have h:rule_reader_take x s=bif !(rule_reader_is x s).1 then (false,(rule_reader_is x s).2) else (true,{ (rule_reader_is x s).2 with at_:=w64 ((rule_reader_is x s).2.at_+1) }):=rfl
 rw [h,is_eq]
 cases (((decide (x.at_ < ((x.l.length:Nat):Int)))&&(((x.l.getD x.at_.toNat default).text).toList == s.toList))&&((((x.l.getD x.at_.toNat default).kind) == 0)||(((x.l.getD x.at_.toNat default).kind) == 3))) <;> rfl
theorem take_text {x:Reader} {s:ByteArray} (h:(rule_reader_take x s).1=true):(x.l.getD x.at_.toNat default).text=s:=by
 rw [take_eq] at h
 cases e:(rule_reader_is x s).1 with
 | false=>rw [e] at h; cases h
 | true =>
  rw [is_eq] at e
  simp only [Bool.and_eq_true,beq_iff_eq] at e
  exact bytes_inj e.1.2
noncomputable def rule_reader_fail_sk (x_:Reader) (e_:Int):Sk (Except Wrong Reader) :=
 .br (decide (x_.at_ < ((x_.l.length:Nat):Int)))
 (.pn 1 (.p (ixP x_.at_ x_.l.length)) (.error ({ pos:=(x_.l.getD x_.at_.toNat default).pos,e:=e_ }:Wrong)))
 (.pn 2 .z (.error ({ pos:=x_.end_,e:=e_ }:Wrong)))
noncomputable def rule_reader_fail (x_:Reader) (e_:Int):Except Wrong Reader:=(rule_reader_fail_sk x_ e_).val
theorem rule_reader_fail_pst (x_:Reader) (e_:Int) (hP:Rgd x_):(rule_reader_fail_sk x_ e_).pst (fun v=>OkP (fun x=>False) v):=by
 refine Sk.pst_of _ ?_
 unfold rule_reader_fail_sk
 simp only [Sk.pstq,Sk.isLoop,reduceCtorEq,ON,kk,CtrX.c,CtrB.c,maxLen]
 all_goals (repeat' first | assumption | (refine rx_ob ?_ ?_ ?_) | (refine rx_ps ?_ ?_ ?_) | (refine rx_ob0 ?_ ?_) | (refine r_ob ?_ ?_) | (refine r_ps ?_ ?_) | (apply And.intro) | (intro h))
 all_goals (try simp only [Rgd,Rs,ixP,OkP_ok,OkP_error,leafE,LN] at *)
 all_goals first | trivial | assumption | omega | grind [w64_id] | (simp (disch:=omega) only [w64_id] at *; omega) | (simp only [szP,maxLen] at *; omega) | (simp (disch:=omega) only [w64_id,szP,maxLen] at *; omega) | grind | (simp_all; done) | (simp_all; omega)
theorem rule_reader_fail_post (x_:Reader) (e_:Int):(fun v=>(Rgd x_)→(OkP (fun x=>False) v)) (rule_reader_fail x_ e_):=fun hP=>have h:=Sk.pval _ (rule_reader_fail_pst x_ e_ hP); h
theorem rule_reader_fail_ok (x_:Reader) (e_:Int) (hr:Rgd x_):(rule_reader_fail_sk x_ e_).obs (fun _=>True):=by
 refine Sk.obs_of _ ?_
 unfold rule_reader_fail_sk
 simp only [Sk.obq,Sk.isLoop,reduceCtorEq,ON,kk,CtrX.c,CtrB.c,maxLen]
 all_goals (repeat' first | assumption | (refine rx_ob ?_ ?_ ?_) | (refine rx_ps ?_ ?_ ?_) | (refine rx_ob0 ?_ ?_) | (refine r_ob ?_ ?_) | (refine r_ps ?_ ?_) | (apply And.intro) | (intro h))
 all_goals (try simp only [Rgd,Rs,ixP,OkP_ok,OkP_error,leafE,LN] at *)
 all_goals first | trivial | assumption | omega | grind [w64_id] | (simp (disch:=omega) only [w64_id] at *; omega) | (simp only [szP,maxLen] at *; omega) | (simp (disch:=omega) only [w64_id,szP,maxLen] at *; omega) | grind | (simp_all; done) | (simp_all; omega)
theorem rule_reader_fail_fnX (x_:Reader) (e_:Int) (hr:Rgd x_):FnX Tryz.prog 45 [.ptr 888020 0,iv e_] (Reader.bx 888020 888020 x_) [(0,888020)] (fun (x:Reader)=>(.tup []:AV)) (fun (x:Reader)=>Reader.bx 888020 888025 x) panV (rule_reader_fail x_ e_) :=
 FnX.sk tok mixed (fun x=>.tup []) (fun x=>Reader.bx 888020 888025 x) panV [(0,888020)] Tryz.func45 rfl (by kernel_rfl) 3000 (rule_reader_fail_sk x_ e_) (by kernel_rfl) (rule_reader_fail_ok x_ e_ hr)
noncomputable def rule_reader_fail_kx (x_:Reader) (e_:Int):CtrX Wrong Reader:=⟨Tryz.prog,45,[.ptr 888020 0,iv e_],(Reader.bx 888020 888020 x_),[(0,888020)],fun x=>.tup [],fun x=>Reader.bx 888020 888025 x,panV,rule_reader_fail x_ e_,(Rgd x_),fun h=>rule_reader_fail_fnX x_ e_ h,fun v=>(Rgd x_)→(OkP (fun x=>False) v),rule_reader_fail_post x_ e_⟩
noncomputable def rule_reader_need_sk (x_:Reader) (s:ByteArray):Sk (Except Wrong Reader) :=
 .r 0 ((rule_reader_take_kb x_ s).c) fun x1 =>
 .br (!x1.1)
 (.up ⟨[(0,.ptr 888020 0)],Reader.bx 888020 888020 x1.2⟩ <|
 .rx 1 .z (fun _=>(rule_reader_fail_kx x1.2 9).c) (fun _ _=>.z) (fun e_=>.error e_) fun _ x2 _ =>
 .fin (.ok x2))
 (.fin (.ok x1.2))
noncomputable def rule_reader_need (x_:Reader) (s:ByteArray):Except Wrong Reader:=(rule_reader_need_sk x_ s).val
theorem rule_reader_need_pst (x_:Reader) (s:ByteArray) (hP:Rgd x_):(rule_reader_need_sk x_ s).pst (fun v=>OkP (fun x=>Rs x_ x∧x_.at_+1≤x.at_) v):=by
 refine Sk.pst_of _ ?_
 unfold rule_reader_need_sk
 simp only [Sk.pstq,Sk.isLoop,reduceCtorEq,ON,kk,rule_reader_fail_kx,rule_reader_take_kb,CtrB.c,CtrX.c,leafX,CtrX.c,CtrB.c,maxLen]
 all_goals (repeat' first | assumption | (refine rx_ob ?_ ?_ ?_) | (refine rx_ps ?_ ?_ ?_) | (refine rx_ob0 ?_ ?_) | (refine r_ob ?_ ?_) | (refine r_ps ?_ ?_) | (apply And.intro) | (intro h))
 all_goals (try simp only [Rgd,Rs,ixP,OkP_ok,OkP_error,leafE,LN] at *)
 all_goals first | trivial | assumption | omega | grind [w64_id] | (simp (disch:=omega) only [w64_id] at *; omega) | (simp only [szP,maxLen] at *; omega) | (simp (disch:=omega) only [w64_id,szP,maxLen] at *; omega) | grind | (simp_all; done) | (simp_all; omega)
theorem rule_reader_need_post (x_:Reader) (s:ByteArray):(fun v=>(Rgd x_)→(OkP (fun x=>Rs x_ x∧x_.at_+1≤x.at_) v)) (rule_reader_need x_ s):=fun hP=>have h:=Sk.pval _ (rule_reader_need_pst x_ s hP); h
theorem rule_reader_need_ok (x_:Reader) (s:ByteArray) (hr:Rgd x_):(rule_reader_need_sk x_ s).obs (fun _=>True):=by
 refine Sk.obs_of _ ?_
 unfold rule_reader_need_sk
 simp only [Sk.obq,Sk.isLoop,reduceCtorEq,ON,kk,rule_reader_fail_kx,rule_reader_take_kb,CtrB.c,CtrX.c,leafX,CtrX.c,CtrB.c,maxLen]
 all_goals (repeat' first | assumption | (refine rx_ob ?_ ?_ ?_) | (refine rx_ps ?_ ?_ ?_) | (refine rx_ob0 ?_ ?_) | (refine r_ob ?_ ?_) | (refine r_ps ?_ ?_) | (apply And.intro) | (intro h))
 all_goals (try simp only [Rgd,Rs,ixP,OkP_ok,OkP_error,leafE,LN] at *)
 all_goals first | trivial | assumption | omega | grind [w64_id] | (simp (disch:=omega) only [w64_id] at *; omega) | (simp only [szP,maxLen] at *; omega) | (simp (disch:=omega) only [w64_id,szP,maxLen] at *; omega) | grind | (simp_all; done) | (simp_all; omega)
theorem rule_reader_need_fnX (x_:Reader) (s:ByteArray) (hr:Rgd x_):FnX Tryz.prog 42 [.ptr 888020 0,sv s] (Reader.bx 888020 888020 x_) [(0,888020)] (fun (x:Reader)=>(.tup []:AV)) (fun (x:Reader)=>Reader.bx 888020 888025 x) panV (rule_reader_need x_ s) :=
 FnX.sk tok mixed (fun x=>.tup []) (fun x=>Reader.bx 888020 888025 x) panV [(0,888020)] Tryz.func42 rfl (by kernel_rfl) 3000 (rule_reader_need_sk x_ s) (by kernel_rfl) (rule_reader_need_ok x_ s hr)
noncomputable def rule_reader_need_kx (x_:Reader) (s:ByteArray):CtrX Wrong Reader:=⟨Tryz.prog,42,[.ptr 888020 0,sv s],(Reader.bx 888020 888020 x_),[(0,888020)],fun x=>.tup [],fun x=>Reader.bx 888020 888025 x,panV,rule_reader_need x_ s,(Rgd x_),fun h=>rule_reader_need_fnX x_ s h,fun v=>(Rgd x_)→(OkP (fun x=>Rs x_ x∧x_.at_+1≤x.at_) v),rule_reader_need_post x_ s⟩
noncomputable def rule_reader_name_sk (x_:Reader):Sk (Except Wrong (ByteArray × Reader)) :=
 .r 1 (.wh (decide (x_.at_≥((x_.l.length:Nat):Int))) false (.p (ixP x_.at_ x_.l.length))) fun _ =>
 .br ((decide (x_.at_≥((x_.l.length:Nat):Int)))||(((x_.l.getD x_.at_.toNat default).kind) != 0))
 (.rx 2 .z (fun _=>(rule_reader_fail_kx x_ 9).c) (fun _ _=>.z) (fun e_=>.error e_) fun _ x1 _ =>
 .r 3 (.p (ixP x1.at_ x1.l.length)) fun _ =>
 .fin (.ok ((x1.l.getD x1.at_.toNat default).text,x1)))
 (.r 3 (.p (ixP x_.at_ x_.l.length)) fun _ =>
 .fin (.ok ((x_.l.getD x_.at_.toNat default).text,x_)))
noncomputable def rule_reader_name (x_:Reader):Except Wrong (ByteArray × Reader):=(rule_reader_name_sk x_).val
theorem rule_reader_name_pst (x_:Reader) (hP:Rgd x_):(rule_reader_name_sk x_).pst (fun v=>OkP (fun x=>x.2=x_∧x_.at_ < (x_.l.length:Int)) v):=by
 refine Sk.pst_of _ ?_
 unfold rule_reader_name_sk
 simp only [Sk.pstq,Sk.isLoop,reduceCtorEq,ON,kk,rule_reader_fail_kx,CtrX.c,leafX,CtrX.c,CtrB.c,maxLen]
 all_goals (repeat' first | assumption | (refine rx_ob ?_ ?_ ?_) | (refine rx_ps ?_ ?_ ?_) | (refine rx_ob0 ?_ ?_) | (refine r_ob ?_ ?_) | (refine r_ps ?_ ?_) | (apply And.intro) | (intro h))
 all_goals (try simp only [Rgd,Rs,ixP,OkP_ok,OkP_error,leafE,LN] at *)
 all_goals first | trivial | assumption | omega | grind [w64_id] | (simp (disch:=omega) only [w64_id] at *; omega) | (simp only [szP,maxLen] at *; omega) | (simp (disch:=omega) only [w64_id,szP,maxLen] at *; omega) | grind | (simp_all; done) | (simp_all; omega)
theorem rule_reader_name_post (x_:Reader):(fun v=>(Rgd x_)→(OkP (fun x=>x.2=x_∧x_.at_ < (x_.l.length:Int)) v)) (rule_reader_name x_):=fun hP=>have h:=Sk.pval _ (rule_reader_name_pst x_ hP); h
theorem rule_reader_name_ok (x_:Reader) (hr:Rgd x_):(rule_reader_name_sk x_).obs (fun _=>True):=by
 refine Sk.obs_of _ ?_
 unfold rule_reader_name_sk
 simp only [Sk.obq,Sk.isLoop,reduceCtorEq,ON,kk,rule_reader_fail_kx,CtrX.c,leafX,CtrX.c,CtrB.c,maxLen]
 all_goals (repeat' first | assumption | (refine rx_ob ?_ ?_ ?_) | (refine rx_ps ?_ ?_ ?_) | (refine rx_ob0 ?_ ?_) | (refine r_ob ?_ ?_) | (refine r_ps ?_ ?_) | (apply And.intro) | (intro h))
 all_goals (try simp only [Rgd,Rs,ixP,OkP_ok,OkP_error,leafE,LN] at *)
 all_goals first | trivial | assumption | omega | grind [w64_id] | (simp (disch:=omega) only [w64_id] at *; omega) | (simp only [szP,maxLen] at *; omega) | (simp (disch:=omega) only [w64_id,szP,maxLen] at *; omega) | grind | (simp_all; done) | (simp_all; omega)
theorem rule_reader_name_fnX (x_:Reader) (hr:Rgd x_):FnX Tryz.prog 43 [.ptr 888020 0] (Reader.bx 888020 888020 x_) [(0,888020)] (fun (x:ByteArray × Reader)=>(sv x.1:AV)) (fun (x:ByteArray × Reader)=>Reader.bx 888020 888025 x.2) panV (rule_reader_name x_) :=
 FnX.sk tok mixed (fun x=>sv x.1) (fun x=>Reader.bx 888020 888025 x.2) panV [(0,888020)] Tryz.func43 rfl (by kernel_rfl) 3000 (rule_reader_name_sk x_) (by kernel_rfl) (rule_reader_name_ok x_ hr)
noncomputable def rule_reader_name_kx (x_:Reader):CtrX Wrong (ByteArray × Reader):=⟨Tryz.prog,43,[.ptr 888020 0],(Reader.bx 888020 888020 x_),[(0,888020)],fun x=>sv x.1,fun x=>Reader.bx 888020 888025 x.2,panV,rule_reader_name x_,(Rgd x_),fun h=>rule_reader_name_fnX x_ h,fun v=>(Rgd x_)→(OkP (fun x=>x.2=x_∧x_.at_ < (x_.l.length:Int)) v),rule_reader_name_post x_⟩
def Order.bx (κ ρ:Nat) (m:Order):List (Nat × Blk):=[(κ,.box [sv m.name,bv m.accepts,ow (ρ+3) m.choices,ow (ρ+4) m.rules]),((ρ+3),rowB 70 3 Choice.cells m.choices),((ρ+4),rowB 48 4 Rule.cells m.rules)]
noncomputable def rule_reader_order_c1_sk (y:Order) (v:Order):Sk (Bool) :=
 .fin (y.name.toList == v.name.toList)
noncomputable def rule_reader_order_c1 (y:Order) (v:Order):Bool:=(rule_reader_order_c1_sk y v).val
theorem rule_reader_order_c1_eq (y:Order) (v:Order):rule_reader_order_c1 y v=(y.name.toList == v.name.toList):=rfl
theorem rule_reader_order_c1_ok (y:Order) (v:Order):(rule_reader_order_c1_sk y v).obs (fun _=>True):=by
 unfold rule_reader_order_c1_sk
 exact okE
noncomputable def rule_reader_order_c1_k (y:Order) (v:Order):Ctr (Bool):=kk tok mixed Tryz.func44 [av y.cells,.ref v.cells] (fun x=>bv x) true (rule_reader_order_c1_sk y v) (rule_reader_order_c1 y v) (fun (_:True)=>rule_reader_order_c1_ok y v)
noncomputable def slices_IndexFunc_44_sk (s:List Order) (v:Order):Sk (Int) :=
 .bind true (fun b1=>∀ q,q < s.length→rule_reader_order_c1 (s.getD q default) v=false)
 (.loop (default:Sum (Int) (Unit)) (fun i2=>∀ q,q < i2→rule_reader_order_c1 (s.getD q default) v=false) (fun i2=>s.length - i2) (0:Nat)
 (fun (i2:Nat)=>⟨[(8,iv (i2:Int))],[]⟩) fun i2 =>
 .bnd 0 0 s.length <|
 .br (decide ((i2:Int) < ((s.length:Nat):Int)))
 (.r 4 (.andl (.p (ixP (i2:Int) s.length)) ((rule_reader_order_c1_k (s.getD i2 default) v).c)) fun x3 =>
 .br x3
 (.fin (.inl (.inl (i2:Int))))
 (.r 6 .z fun _ =>
 .wi 8 (w64 ((i2:Int)+1)) ((i2+1:Nat):Int) <|
 .fin (.inr (i2+1))))
 (.fin (.inl (.inr ()))))
 (fun (_:Unit)=>⟨[],[]⟩) fun _ =>
 .fin (-1)
noncomputable def slices_IndexFunc_44 (s:List Order) (v:Order):Int:=(slices_IndexFunc_44_sk s v).val
theorem slices_IndexFunc_44_pst (s:List Order) (v:Order):(slices_IndexFunc_44_sk s v).pst (fun (x:Int)=>(x = -1∧∀ q,q < s.length→rule_reader_order_c1 (s.getD q default) v=false)∨(0≤x∧x < s.length∧rule_reader_order_c1 (s.getD x.toNat default) v=true∧∀ q,(q:Nat) < x.toNat→rule_reader_order_c1 (s.getD q default) v=false)):=by
 unfold slices_IndexFunc_44_sk
 try simp only [rule_reader_order_c1_k,rule_reader_order_c1_eq]
 exact okQ
theorem slices_IndexFunc_44_post (s:List Order) (v:Order):(fun (x:Int)=>(x = -1∧∀ q,q < s.length→rule_reader_order_c1 (s.getD q default) v=false)∨(0≤x∧x < s.length∧rule_reader_order_c1 (s.getD x.toNat default) v=true∧∀ q,(q:Nat) < x.toNat→rule_reader_order_c1 (s.getD q default) v=false)) (slices_IndexFunc_44 s v):=have h:=Sk.pval _ (slices_IndexFunc_44_pst s v); h
theorem slices_IndexFunc_44_ok (s:List Order) (v:Order):(slices_IndexFunc_44_sk s v).obs (fun _=>True):=by
 unfold slices_IndexFunc_44_sk
 try simp only [rule_reader_order_c1_k,rule_reader_order_c1_eq]
 exact okG
noncomputable def slices_IndexFunc_44_k (s:List Order) (v:Order):Ctr (Int):=kk tok mixed Tryz.func69 [lv Order.cells s,.fn 44 [.ref v.cells]] (fun x=>iv x) true (slices_IndexFunc_44_sk s v) (slices_IndexFunc_44 s v) (fun (_:True)=>slices_IndexFunc_44_ok s v) (fun (x:Int)=>(x = -1∧∀ q,q < s.length→rule_reader_order_c1 (s.getD q default) v=false)∨(0≤x∧x < s.length∧rule_reader_order_c1 (s.getD x.toNat default) v=true∧∀ q,(q:Nat) < x.toNat→rule_reader_order_c1 (s.getD q default) v=false)) (slices_IndexFunc_44_post s v)
noncomputable def slices_ContainsFunc_44_sk (s:List Order) (v:Order):Sk (Bool) :=
 .r 1 ((slices_IndexFunc_44_k s v).c) fun x1 =>
 .fin (decide (x1≥0))
noncomputable def slices_ContainsFunc_44 (s:List Order) (v:Order):Bool:=(slices_ContainsFunc_44_sk s v).val
theorem slices_ContainsFunc_44_pst (s:List Order) (v:Order):(slices_ContainsFunc_44_sk s v).pst (fun (x:Bool)=>(x=true↔∃ q,q < s.length∧rule_reader_order_c1 (s.getD q default) v=true)):=by
 unfold slices_ContainsFunc_44_sk
 try simp only [slices_IndexFunc_44_k]
 exact okP
theorem slices_ContainsFunc_44_post (s:List Order) (v:Order):(fun (x:Bool)=>(x=true↔∃ q,q < s.length∧rule_reader_order_c1 (s.getD q default) v=true)) (slices_ContainsFunc_44 s v):=have h:=Sk.pval _ (slices_ContainsFunc_44_pst s v); h
theorem slices_ContainsFunc_44_ok (s:List Order) (v:Order):(slices_ContainsFunc_44_sk s v).obs (fun _=>True):=by
 unfold slices_ContainsFunc_44_sk
 try simp only [slices_IndexFunc_44_k]
 exact okE
noncomputable def slices_ContainsFunc_44_k (s:List Order) (v:Order):Ctr (Bool):=kk tok mixed Tryz.func31 [lv Order.cells s,.fn 44 [.ref v.cells]] (fun x=>bv x) true (slices_ContainsFunc_44_sk s v) (slices_ContainsFunc_44 s v) (fun (_:True)=>slices_ContainsFunc_44_ok s v) (fun (x:Bool)=>(x=true↔∃ q,q < s.length∧rule_reader_order_c1 (s.getD q default) v=true)) (slices_ContainsFunc_44_post s v)
end Go.Proofs.YtgibnoahjhfmcaaGreatDoor
