/- Functions, as sketches. -/
import Derived.Test.YtgibnoahjhfmcaaGreatDoorRa12
namespace Go.Proofs.YtgibnoahjhfmcaaGreatDoor
open Go Go.Av
set_option linter.unusedSimpArgs false
set_option linter.unusedVariables false
set_option maxHeartbeats 1000000
set_option maxRecDepth 100000
theorem joinL_len (B:Nat) (sep:List UInt8):∀ l:List (List UInt8),(∀ s,s∈l→s.length≤B)→(Lib.join l sep).length≤l.length * (B+sep.length)
 | [],_=>by simp [Lib.join_nil]
 | [x],h=>by
  have:=h x (by simp)
  rw [Lib.join_one]
  simp only [List.length_cons,List.length_nil]
  omega
 | x :: y :: r,h=>by
  have h0:=h x (by simp)
  have ih:=joinL_len B sep (y :: r) (fun s hs=>h s (by simp [hs]))
  have e:Lib.join (x :: y :: r) sep=x++sep++Lib.join (y :: r) sep:=by simp [Lib.join,List.intercalate,List.intersperse]
  rw [e,List.length_append,List.length_append]
  simp only [List.length_cons] at ih ⊢
  rw [Nat.add_mul (r.length+1) 1]
  omega
theorem joinS_size {l:List ByteArray} {B:Nat} (h:∀ s,s∈l→s.size≤B) (sep:ByteArray):(joinS l sep).size≤l.length * (B+sep.size):=by
 have:=joinL_len B sep.data.toList (l.map (·.data.toList)) (fun s hs=>by
  obtain ⟨b,hb,rfl⟩:=List.mem_map.1 hs
  exact h b hb)
 rw [List.length_map] at this
 exact this
theorem joinS_small {l:List ByteArray} (h:∀ s,s∈l→s.size≤10000010) (hl:l.length≤20):(joinS l (⟨#[32]⟩:ByteArray)).size≤1000000000:=by
 have:=joinS_size h (⟨#[32]⟩:ByteArray)
 have s1:(⟨#[32]⟩:ByteArray).size=1:=rfl
 rw [s1] at this
 have:=Nat.mul_le_mul_right (10000010+1) hl
 omega
noncomputable def rule_Print_sk (l:List Order):Sk (ByteArray × Bool) :=
 .br (decide (((l.length:Nat):Int) > 20))
 (.fin ((⟨#[]⟩:ByteArray),false))
 (.bind true (fun b1=>b1.length≤l.length∧∀ s,s∈b1→s.size≤10000010)
 (.loop (default:Sum (ByteArray × Bool) ((List ByteArray))) (fun i2=>i2.2≤l.length∧i2.1.length≤i2.2∧∀ s,s∈i2.1→s.size≤10000010) (fun i2=>l.length - i2.2) (([],0):(List ByteArray) × Nat)
 (fun (i2:(List ByteArray) × Nat)=>⟨[(4,ow 100002 i2.1),(15,iv (i2.2:Int))],[(100002,rowB 9 1 strC i2.1)]⟩) fun i2 =>
 .bnd 0 0 l.length <|
 .br (decide ((i2.2:Int) < ((l.length:Nat):Int)))
 (.r 6 (.p (ixP (i2.2:Int) l.length)) fun _ =>
 .r 7 ((rule_text_k (l.getD i2.2 default)).c) fun x3 =>
 .r 8 (.dep (.wh (!x3.2) false ((lex_Name_k ((l.getD i2.2 default).name)).c)) fun x4=>.andl (.wh ((!x3.2)||(!x4)) false (.andl (.o [.nrm (subC Order.E l 0 i2.2)]) (.pt (0≤(i2.2:Int)∧(i2.2:Int)≤((l.length:Nat):Int)) (Order.E.lens l)))) (.wh ((!x3.2)||(!x4)) false ((slices_ContainsFunc_32_k (subL l 0 i2.2) (l.getD i2.2 default)).c))) fun p6 =>
 .br (((!x3.2)||(!p6.1))||p6.2)
 (.fin (.inl (.inl ((⟨#[]⟩:ByteArray),false))))
 (.r 10 (.andl (.o [.nrm (litC strE [x3.1])]) (.andl (.o [.nrm (catC strE i2.1 [x3.1])]) (.andl (.t (strE.ones [x3.1])) (.p (szP i2.1.length [x3.1].length 16))))) fun _ =>
 .r 11 .z fun _ =>
 .wi 15 (w64 ((i2.2:Int)+1)) ((i2.2+1:Nat):Int) <|
 .fin (.inr (i2.1++[x3.1],i2.2+1))))
 (.fin (.inl (.inr i2.1))))
 (fun (b1:(List ByteArray))=>⟨[(4,ow 100001 b1)],[(100001,rowB 9 1 strC b1)]⟩) fun b1 =>
 .r 12 ((strings_Join_k b1 (⟨#[32]⟩:ByteArray)).c) fun x7 =>
 .br (decide (((x7.size:Nat):Int) > 20000))
 (.fin ((⟨#[]⟩:ByteArray),false))
 (.fin (x7,true)))
noncomputable def rule_Print (l:List Order):ByteArray × Bool:=(rule_Print_sk l).val
theorem rule_Print_ok (l:List Order) (hn:∀ o_,o_∈l→o_.name.size≤20000):(rule_Print_sk l).obs (fun _=>True):=by
 refine Sk.obs_of _ ?_
 unfold rule_Print_sk
 simp only [Sk.obq,Sk.isLoop,reduceCtorEq,ON,kk,lex_Name_k,rule_text_k,slices_ContainsFunc_32_k,strings_Join_k,maxLen]
 all_goals (repeat' first | assumption | (refine r_ob1 ?_ ?_ ?_) | (refine r_ob ?_ ?_) | (refine r_ps ?_ ?_) | (apply And.intro) | (intro h))
 all_goals (try simp only [LN,bnilE,Bool.and_eq_true,Bool.and_eq_false_imp,decide_eq_true_eq,bne_iff_ne,beq_iff_eq,ne_eq,bne_eq_false_iff_eq,ByteArray.size_extract] at *)
 all_goals first | trivial | assumption | (exact hn _ (lget_mem (by omega) _)) | (exact joinS_small (by assumption) (by omega)) | (exact joinS_small (And.right ‹_›) (by omega)) | omega | grind [w64_id] | (simp (disch:=omega) only [w64_id] at *; omega) | (simp (disch:=omega) only [w64_id,szP,maxLen] at *; omega) | grind | (simp_all; done) | (simp_all; omega)
noncomputable def rule_Print_k (l:List Order):Ctr (ByteArray × Bool):=kk tok mixed Tryz.func12 [lv Order.cells l] (fun x=>.tup [sv x.1,bv x.2]) true (rule_Print_sk l) (rule_Print l) (fun (h:(∀ o_,o_∈l→o_.name.size≤20000))=>rule_Print_ok l h)
noncomputable def R16_SameTerm_kr (rv:Term→Term→Int→Bool) (rp:Term→Term→Int→Prop) (rf:∀ (a:Term) (b:Term) (levels:Int),rp a b levels→FnA Tryz.prog 37 [av a.cells,av b.cells,iv levels] [] (bv (rv a b levels)) []) (a:Term) (b:Term) (levels:Int):Ctr (Bool):=⟨Tryz.prog,37,[av a.cells,av b.cells,iv levels],fun x=>bv x,true,rv a b levels,rp a b levels,rf a b levels,fun _=>True,trivial⟩
noncomputable def R16_SameTerm_sk (rv:Term→Term→Int→Bool) (rp:Term→Term→Int→Prop) (rf:∀ (a:Term) (b:Term) (levels:Int),rp a b levels→FnA Tryz.prog 37 [av a.cells,av b.cells,iv levels] [] (bv (rv a b levels)) []) (a:Term) (b:Term) (levels:Int):Sk (Bool) :=
 .br ((((a.op != b.op)||(a.n != b.n))||(((a.args.length:Nat):Int) != ((b.args.length:Nat):Int)))||(decide (levels≤0)))
 (.fin false)
 (.bind true (fun _=>True)
 (.loop (default:Sum (Bool) (Unit)) (fun i2=>i2≤a.args.length) (fun i2=>a.args.length - i2) (0:Nat)
 (fun (i2:Nat)=>⟨[(7,iv (i2:Int))],[]⟩) fun i2 =>
 .bnd 3 2 a.args.length <|
 .br (decide ((i2:Int) < ((a.args.length:Nat):Int)))
 (.r 6 (.andl (.andl (.p (ixP (i2:Int) a.args.length)) (.o [.cast 43 (refC (Term.unroll (a.args.getD i2 default)))])) (.andl (.andl (.p (ixP (i2:Int) b.args.length)) (.o [.cast 48 (refC (Term.unroll (b.args.getD i2 default)))])) ((R16_SameTerm_kr rv rp rf (a.args.getD i2 default) (b.args.getD i2 default) (w64 (levels - 1))).c))) fun x3 =>
 .br (!x3)
 (.fin (.inl (.inl false)))
 (.r 5 .z fun _ =>
 .wi 7 (w64 ((i2:Int)+1)) ((i2+1:Nat):Int) <|
 .fin (.inr (i2+1))))
 (.fin (.inl (.inr ()))))
 (fun (_:Unit)=>⟨[],[]⟩) fun _ =>
 .fin true)
noncomputable def R16_SameTerm_n:Nat→Term→Term→Int→Bool
 | 0,_,_,_=>default
 | fu+1,a,b,levels=>(R16_SameTerm_sk (R16_SameTerm_n fu) (fun _ _ _=>False) (fun _ _ _=>fun h=>h.elim) a b levels).val
theorem R16_SameTerm_ok (fu:Nat) (rf:∀ (a:Term) (b:Term) (levels:Int),a.depth≤fu∧True→FnA Tryz.prog 37 [av a.cells,av b.cells,iv levels] [] (bv (R16_SameTerm_n fu a b levels)) []) (a:Term) (b:Term) (levels:Int) (hm:a.depth≤fu+1):(R16_SameTerm_sk (R16_SameTerm_n fu) (fun a b levels=>a.depth≤fu∧True) rf a b levels).obs (fun _=>True):=by
 refine Sk.obs_of _ ?_
 unfold R16_SameTerm_sk
 simp only [Sk.obq,Sk.isLoop,reduceCtorEq,ON,kk,R16_SameTerm_kr,maxLen]
 all_goals (repeat' first | assumption | (apply And.intro) | (intro h))
 all_goals first | trivial | assumption | omega | (refine Nat.le_of_lt_succ (Nat.lt_of_lt_of_le (Term.depth_args a _ (by (try simp only [LN] at *); omega)) hm)) | (refine Nat.le_of_lt_succ (Nat.lt_of_lt_of_le (Term.depth_args b _ (by (try simp only [LN] at *); omega)) hm)) | ((try simp only [LN] at *) <;> first | omega | (refine (w64_id ?_ ?_).trans ?_ <;> omega) | (simp (disch:=omega) only [w64_id] at *; omega) | (grind) | (simp_all; done) | (simp_all; omega))
theorem R16_SameTerm_val (fu:Nat) (rp:Term→Term→Int→Prop) (rf:∀ (a:Term) (b:Term) (levels:Int),rp a b levels→FnA Tryz.prog 37 [av a.cells,av b.cells,iv levels] [] (bv (R16_SameTerm_n fu a b levels)) []) (a:Term) (b:Term) (levels:Int):(R16_SameTerm_sk (R16_SameTerm_n fu) rp rf a b levels).val=R16_SameTerm_n (fu+1) a b levels:=by kernel_rfl
theorem R16_SameTerm_fnN (fu:Nat):∀ (a:Term) (b:Term) (levels:Int),a.depth≤fu→FnA Tryz.prog 37 [av a.cells,av b.cells,iv levels] [] (bv (R16_SameTerm_n fu a b levels)) []:=by
 induction fu with
 | zero=>intro a b levels hm; exact absurd hm (by have:=Term.depth_pos a; omega)
 | succ fu ih =>
  intro a b levels hm
  have h:FnA Tryz.prog 37 [av a.cells,av b.cells,iv levels] [] (bv ((R16_SameTerm_sk (R16_SameTerm_n fu) (fun a b levels=>a.depth≤fu∧True) (fun a b levels h=>ih a b levels h.1) a b levels).val)) []:=FnA.sk tok mixed (fun x=>bv x) (fun _=>[]) Tryz.func37 rfl (by kernel_rfl) 3000 (R16_SameTerm_sk (R16_SameTerm_n fu) (fun a b levels=>a.depth≤fu∧True) (fun a b levels h=>ih a b levels h.1) a b levels) (by kernel_rfl) (R16_SameTerm_ok fu _ a b levels hm)
  rw [R16_SameTerm_val] at h
  exact h
noncomputable def R16_SameTerm (a:Term) (b:Term) (levels:Int):Bool:=R16_SameTerm_n (a.depth) a b levels
theorem R16_SameTerm_fn (a:Term) (b:Term) (levels:Int):FnA Tryz.prog 37 [av a.cells,av b.cells,iv levels] [] (bv (R16_SameTerm a b levels)) []:=R16_SameTerm_fnN _ a b levels (Nat.le_refl _)
noncomputable def R16_SameTerm_k (a:Term) (b:Term) (levels:Int):Ctr (Bool):=⟨Tryz.prog,37,[av a.cells,av b.cells,iv levels],fun x=>bv x,true,R16_SameTerm a b levels,True,fun _=>R16_SameTerm_fn a b levels,fun _=>True,trivial⟩
noncomputable def R16_Same_sk (a:List Order) (b:List Order):Sk (Bool) :=
 .br (((a.length:Nat):Int) != ((b.length:Nat):Int))
 (.fin false)
 (.bind true (fun _=>True)
 (.loop (default:Sum (Bool) (Unit)) (fun i2=>i2≤a.length) (fun i2=>a.length - i2) (0:Nat)
 (fun (i2:Nat)=>⟨[(5,iv (i2:Int))],[]⟩) fun i2 =>
 .bnd 0 0 a.length <|
 .br (decide ((i2:Int) < ((a.length:Nat):Int)))
 (.bind true (fun _=>True)
 (.r 6 (.andl (.p (ixP (i2:Int) a.length)) (.andl (.p (ixP (i2:Int) b.length)) (.andl (.wh (!(((a.getD i2 default).name).toList == ((b.getD i2 default).name).toList)) false (.p (ixP (i2:Int) a.length))) (.andl (.wh (!(((a.getD i2 default).name).toList == ((b.getD i2 default).name).toList)) false (.p (ixP (i2:Int) b.length))) (.andl (.wh ((!(((a.getD i2 default).name).toList == ((b.getD i2 default).name).toList))||(!(((a.getD i2 default).accepts) == ((b.getD i2 default).accepts)))) false (.p (ixP (i2:Int) a.length))) (.andl (.wh ((!(((a.getD i2 default).name).toList == ((b.getD i2 default).name).toList))||(!(((a.getD i2 default).accepts) == ((b.getD i2 default).accepts)))) false (.p (ixP (i2:Int) b.length))) (.andl (.wh (((!(((a.getD i2 default).name).toList == ((b.getD i2 default).name).toList))||(!(((a.getD i2 default).accepts) == ((b.getD i2 default).accepts))))||(((((a.getD i2 default).choices).length:Nat):Int) != ((((b.getD i2 default).choices).length:Nat):Int))) false (.p (ixP (i2:Int) a.length))) (.wh (((!(((a.getD i2 default).name).toList == ((b.getD i2 default).name).toList))||(!(((a.getD i2 default).accepts) == ((b.getD i2 default).accepts))))||(((((a.getD i2 default).choices).length:Nat):Int) != ((((b.getD i2 default).choices).length:Nat):Int))) false (.p (ixP (i2:Int) b.length)))))))))) fun _ =>
 .br ((((!(((a.getD i2 default).name).toList == ((b.getD i2 default).name).toList))||(!(((a.getD i2 default).accepts) == ((b.getD i2 default).accepts))))||(((((a.getD i2 default).choices).length:Nat):Int) != ((((b.getD i2 default).choices).length:Nat):Int)))||(((((a.getD i2 default).rules).length:Nat):Int) != ((((b.getD i2 default).rules).length:Nat):Int)))
 (.fin (.inl (.inl (.inl false))))
 (.bind true (fun _=>True)
 (.loop (default:Sum (Sum (Sum (Sum (Bool) (Unit)) (Nat)) (Int × Int × (List Order) × Int × ByteArray × (List Order) × Int × ByteArray × Bool × Bool × Bool × Bool × Bool × Bool × Bool × Int × (List Order) × Int × (List Choice) × Int × Bool × Int × (List Order) × Int × (List Rule) × Int × Bool)) (Int × Int × (List Order) × Int × (List Choice) × Int × Bool)) (fun i5=>i5≤((a.getD i2 default).choices).length) (fun i5=>((a.getD i2 default).choices).length - i5) (0:Nat)
 (fun (i5:Nat)=>⟨[(6,iv (i5:Int))],[]⟩) fun i5 =>
 .bnd 21 2 (((a.getD i2 default).choices).length) <|
 .r 9 (.p (ixP (i2:Int) a.length)) fun _ =>
 .br (decide ((i5:Int) < ((((a.getD i2 default).choices).length:Nat):Int)))
 (.r 11 (.andl (.p (ixP (i2:Int) a.length)) (.andl (.p (ixP (i5:Int) (((a.getD i2 default).choices).length))) (.andl (.p (ixP (i2:Int) b.length)) (.p (ixP (i5:Int) (((b.getD i2 default).choices).length)))))) fun _ =>
 .br (!((((((a.getD i2 default).choices).getD i5 default).ask) == ((((b.getD i2 default).choices).getD i5 default).ask))&&((((((a.getD i2 default).choices).getD i5 default).by_) == ((((b.getD i2 default).choices).getD i5 default).by_))&&((((((a.getD i2 default).choices).getD i5 default).whole) == ((((b.getD i2 default).choices).getD i5 default).whole))&&true))))
 (.fin (.inl (.inl (.inl (.inl (.inl false))))))
 (.r 10 .z fun _ =>
 .wi 6 (w64 ((i5:Int)+1)) ((i5+1:Nat):Int) <|
 .fin (.inr (i5+1))))
 (.fin (.inl (.inr ((i5:Int),(i5:Int),a,(i2:Int),(a.getD i2 default).choices,((((a.getD i2 default).choices).length:Nat):Int),decide ((i5:Int) < ((((a.getD i2 default).choices).length:Nat):Int)))))))
 (fun (b4:Int × Int × (List Order) × Int × (List Choice) × Int × Bool)=>⟨[(6,iv b4.1),(73,iv b4.2.1),(74,lv Order.cells b4.2.2.1),(75,iv b4.2.2.2.1),(78,lv Choice.cells b4.2.2.2.2.1),(79,iv b4.2.2.2.2.2.1),(80,bv b4.2.2.2.2.2.2)],[]⟩) fun b4 =>
 .bind true (fun _=>True)
 (.loop (default:Sum (Sum (Sum (Sum (Bool) (Unit)) (Nat)) (Int × Int × (List Order) × Int × ByteArray × (List Order) × Int × ByteArray × Bool × Bool × Bool × Bool × Bool × Bool × Bool × Int × (List Order) × Int × (List Choice) × Int × Bool × Int × (List Order) × Int × (List Rule) × Int × Bool)) (Int × Int × (List Order) × Int × (List Rule) × Int × Bool)) (fun i7=>i7≤((a.getD i2 default).rules).length) (fun i7=>((a.getD i2 default).rules).length - i7) (0:Nat)
 (fun (i7:Nat)=>⟨[(7,iv (i7:Int))],[]⟩) fun i7 =>
 .bnd 21 3 (((a.getD i2 default).rules).length) <|
 .r 14 (.p (ixP (i2:Int) a.length)) fun _ =>
 .br (decide ((i7:Int) < ((((a.getD i2 default).rules).length:Nat):Int)))
 (.r 16 (.andl (.p (ixP (i2:Int) a.length)) (.andl (.p (ixP (i7:Int) (((a.getD i2 default).rules).length))) (.andl (.p (ixP (i2:Int) b.length)) (.andl (.p (ixP (i7:Int) (((b.getD i2 default).rules).length))) (.andl (.wh (((((a.getD i2 default).rules).getD i7 default).ask) != ((((b.getD i2 default).rules).getD i7 default).ask)) false (.p (ixP (i2:Int) a.length))) (.andl (.wh (((((a.getD i2 default).rules).getD i7 default).ask) != ((((b.getD i2 default).rules).getD i7 default).ask)) false (.p (ixP (i7:Int) (((a.getD i2 default).rules).length)))) (.andl (.wh (((((a.getD i2 default).rules).getD i7 default).ask) != ((((b.getD i2 default).rules).getD i7 default).ask)) false (.p (ixP (i2:Int) b.length))) (.andl (.wh (((((a.getD i2 default).rules).getD i7 default).ask) != ((((b.getD i2 default).rules).getD i7 default).ask)) false (.p (ixP (i7:Int) (((b.getD i2 default).rules).length)))) (.wh (((((a.getD i2 default).rules).getD i7 default).ask) != ((((b.getD i2 default).rules).getD i7 default).ask)) false ((R16_SameTerm_k ((((a.getD i2 default).rules).getD i7 default).term) ((((b.getD i2 default).rules).getD i7 default).term) 200).c)))))))))) fun x8 =>
 .br ((((((a.getD i2 default).rules).getD i7 default).ask) != ((((b.getD i2 default).rules).getD i7 default).ask))||(!x8))
 (.fin (.inl (.inl (.inl (.inl (.inl false))))))
 (.r 15 .z fun _ =>
 .wi 7 (w64 ((i7:Int)+1)) ((i7+1:Nat):Int) <|
 .fin (.inr (i7+1))))
 (.fin (.inl (.inr ((i7:Int),(i7:Int),a,(i2:Int),(a.getD i2 default).rules,((((a.getD i2 default).rules).length:Nat):Int),decide ((i7:Int) < ((((a.getD i2 default).rules).length:Nat):Int)))))))
 (fun (b6:Int × Int × (List Order) × Int × (List Rule) × Int × Bool)=>⟨[(7,iv b6.1),(100,iv b6.2.1),(101,lv Order.cells b6.2.2.1),(102,iv b6.2.2.2.1),(105,lv Rule.cells b6.2.2.2.2.1),(106,iv b6.2.2.2.2.2.1),(107,bv b6.2.2.2.2.2.2)],[]⟩) fun b6 =>
 .fin (.inr (b4.1,b6.1,a,(i2:Int),(a.getD i2 default).name,b,(i2:Int),(b.getD i2 default).name,!(((a.getD i2 default).name).toList == ((b.getD i2 default).name).toList),!(((a.getD i2 default).name).toList == ((b.getD i2 default).name).toList),(!(((a.getD i2 default).name).toList == ((b.getD i2 default).name).toList))||(!(((a.getD i2 default).accepts) == ((b.getD i2 default).accepts))),(!(((a.getD i2 default).name).toList == ((b.getD i2 default).name).toList))||(!(((a.getD i2 default).accepts) == ((b.getD i2 default).accepts))),((!(((a.getD i2 default).name).toList == ((b.getD i2 default).name).toList))||(!(((a.getD i2 default).accepts) == ((b.getD i2 default).accepts))))||(((((a.getD i2 default).choices).length:Nat):Int) != ((((b.getD i2 default).choices).length:Nat):Int)),((!(((a.getD i2 default).name).toList == ((b.getD i2 default).name).toList))||(!(((a.getD i2 default).accepts) == ((b.getD i2 default).accepts))))||(((((a.getD i2 default).choices).length:Nat):Int) != ((((b.getD i2 default).choices).length:Nat):Int)),(((!(((a.getD i2 default).name).toList == ((b.getD i2 default).name).toList))||(!(((a.getD i2 default).accepts) == ((b.getD i2 default).accepts))))||(((((a.getD i2 default).choices).length:Nat):Int) != ((((b.getD i2 default).choices).length:Nat):Int)))||(((((a.getD i2 default).rules).length:Nat):Int) != ((((b.getD i2 default).rules).length:Nat):Int)),b4.2.1,b4.2.2.1,b4.2.2.2.1,b4.2.2.2.2.1,b4.2.2.2.2.2.1,b4.2.2.2.2.2.2,b6.2.1,b6.2.2.1,b6.2.2.2.1,b6.2.2.2.2.1,b6.2.2.2.2.2.1,b6.2.2.2.2.2.2))))
 (fun (b3:Int × Int × (List Order) × Int × ByteArray × (List Order) × Int × ByteArray × Bool × Bool × Bool × Bool × Bool × Bool × Bool × Int × (List Order) × Int × (List Choice) × Int × Bool × Int × (List Order) × Int × (List Rule) × Int × Bool)=>⟨[(6,iv b3.1),(7,iv b3.2.1),(19,lv Order.cells b3.2.2.1),(20,iv b3.2.2.2.1),(23,sv b3.2.2.2.2.1),(24,lv Order.cells b3.2.2.2.2.2.1),(25,iv b3.2.2.2.2.2.2.1),(28,sv b3.2.2.2.2.2.2.2.1),(29,bv b3.2.2.2.2.2.2.2.2.1),(30,bv b3.2.2.2.2.2.2.2.2.2.1),(42,bv b3.2.2.2.2.2.2.2.2.2.2.1),(43,bv b3.2.2.2.2.2.2.2.2.2.2.2.1),(57,bv b3.2.2.2.2.2.2.2.2.2.2.2.2.1),(58,bv b3.2.2.2.2.2.2.2.2.2.2.2.2.2.1),(72,bv b3.2.2.2.2.2.2.2.2.2.2.2.2.2.2.1),(73,iv b3.2.2.2.2.2.2.2.2.2.2.2.2.2.2.2.1),(74,lv Order.cells b3.2.2.2.2.2.2.2.2.2.2.2.2.2.2.2.2.1),(75,iv b3.2.2.2.2.2.2.2.2.2.2.2.2.2.2.2.2.2.1),(78,lv Choice.cells b3.2.2.2.2.2.2.2.2.2.2.2.2.2.2.2.2.2.2.1),(79,iv b3.2.2.2.2.2.2.2.2.2.2.2.2.2.2.2.2.2.2.2.1),(80,bv b3.2.2.2.2.2.2.2.2.2.2.2.2.2.2.2.2.2.2.2.2.1),(100,iv b3.2.2.2.2.2.2.2.2.2.2.2.2.2.2.2.2.2.2.2.2.2.1),(101,lv Order.cells b3.2.2.2.2.2.2.2.2.2.2.2.2.2.2.2.2.2.2.2.2.2.2.1),(102,iv b3.2.2.2.2.2.2.2.2.2.2.2.2.2.2.2.2.2.2.2.2.2.2.2.1),(105,lv Rule.cells b3.2.2.2.2.2.2.2.2.2.2.2.2.2.2.2.2.2.2.2.2.2.2.2.2.1),(106,iv b3.2.2.2.2.2.2.2.2.2.2.2.2.2.2.2.2.2.2.2.2.2.2.2.2.2.1),(107,bv b3.2.2.2.2.2.2.2.2.2.2.2.2.2.2.2.2.2.2.2.2.2.2.2.2.2.2)],[]⟩) fun _ =>
 .r 5 .z fun _ =>
 .wi 5 (w64 ((i2:Int)+1)) ((i2+1:Nat):Int) <|
 .fin (.inr (i2+1)))
 (.fin (.inl (.inr ()))))
 (fun (_:Unit)=>⟨[],[]⟩) fun _ =>
 .fin true)
noncomputable def R16_Same (a:List Order) (b:List Order):Bool:=(R16_Same_sk a b).val
theorem R16_Same_ok (a:List Order) (b:List Order):(R16_Same_sk a b).obs (fun _=>True):=by
 unfold R16_Same_sk
 try simp only [R16_SameTerm_k]
 exact okD
noncomputable def R16_Same_k (a:List Order) (b:List Order):Ctr (Bool):=kk tok mixed Tryz.func14 [lv Order.cells a,lv Order.cells b] (fun x=>bv x) true (R16_Same_sk a b) (R16_Same a b) (fun (_:True)=>R16_Same_ok a b)
noncomputable def L16_sane_sk:Sk (Bool) :=
 .r 1 ((rule_Parse_k (⟨#[111,114,100,101,114,32,103,101,110,101,118,97,32,97,99,99,101,112,116,115,32,123,32,114,117,108,101,32,103,114,97,99,101,32,61,32,51,59,32,99,104,111,111,115,101,32,102,111,114,109,58,32,112,97,121,32,119,104,111,108,101,59,32,114,117,108,101,32,98,105,110,100,115,32,61,32,103,101,110,117,105,110,101,32,97,110,100,32,40,97,100,117,108,116,32,111,114,32,40,110,111,116,32,112,111,119,101,114,41,41,59,32,125]⟩:ByteArray)).c) fun x1 =>
 .r 2 (.dep L16_example_k.c fun x2=>(rule_Print_k x2).c) fun p13 =>
 .r 3 ((rule_Parse_k (⟨#[111,114,100,101,114,32,97,32,123,32,114,117,108,101,32,120,32,61,32,51,59,32,125]⟩:ByteArray)).c) fun x4 =>
 .r 4 ((rule_Parse_k (⟨#[111,114,100,101,114,32,97,32,123,32,114,117,108,101,32,103,114,97,99,101,32,51,59,32,125]⟩:ByteArray)).c) fun x5 =>
 .r 5 ((rule_Parse_k (⟨#[111,114,100,101,114,32,97,32,123,32,125,32,111,114,100,101,114,32,97,32,123,32,125]⟩:ByteArray)).c) fun x6 =>
 .br ((((((((x1.2.2 != 0)||(!p13.2.2))||(x4.2.1 != 15))||(x4.2.2 != 10))||(x5.2.1 != 21))||(x5.2.2 != 9))||(x6.2.1 != 18))||(x6.2.2 != 5))
 (.fin false)
 (.r 8 (.dep L16_example_k.c fun x7=>.dep ((R16_Same_k x1.1 x7).c) fun x8=>.dep (.wh (x8&&(p13.2.1.toList == (⟨#[111,114,100,101,114,32,103,101,110,101,118,97,32,97,99,99,101,112,116,115,32,123,32,99,104,111,111,115,101,32,102,111,114,109,32,58,32,112,97,121,32,119,104,111,108,101,32,59,32,114,117,108,101,32,98,105,110,100,115,32,61,32,103,101,110,117,105,110,101,32,97,110,100,32,40,32,97,100,117,108,116,32,111,114,32,40,32,110,111,116,32,112,111,119,101,114,32,41,32,41,32,59,32,114,117,108,101,32,103,114,97,99,101,32,61,32,51,32,59,32,125]⟩:ByteArray).toList)) true rule_Questions_k.c) fun x9=>.dep (.wh ((x8&&(p13.2.1.toList == (⟨#[111,114,100,101,114,32,103,101,110,101,118,97,32,97,99,99,101,112,116,115,32,123,32,99,104,111,111,115,101,32,102,111,114,109,32,58,32,112,97,121,32,119,104,111,108,101,32,59,32,114,117,108,101,32,98,105,110,100,115,32,61,32,103,101,110,117,105,110,101,32,97,110,100,32,40,32,97,100,117,108,116,32,111,114,32,40,32,110,111,116,32,112,111,119,101,114,32,41,32,41,32,59,32,114,117,108,101,32,103,114,97,99,101,32,61,32,51,32,59,32,125]⟩:ByteArray).toList))&&(((x9.length:Nat):Int) == 22)) true rule_Variables_k.c) fun x10=>.wh (((x8&&(p13.2.1.toList == (⟨#[111,114,100,101,114,32,103,101,110,101,118,97,32,97,99,99,101,112,116,115,32,123,32,99,104,111,111,115,101,32,102,111,114,109,32,58,32,112,97,121,32,119,104,111,108,101,32,59,32,114,117,108,101,32,98,105,110,100,115,32,61,32,103,101,110,117,105,110,101,32,97,110,100,32,40,32,97,100,117,108,116,32,111,114,32,40,32,110,111,116,32,112,111,119,101,114,32,41,32,41,32,59,32,114,117,108,101,32,103,114,97,99,101,32,61,32,51,32,59,32,125]⟩:ByteArray).toList))&&(((x9.length:Nat):Int) == 22))&&(((x10.length:Nat):Int) == 20)) true rule_Factors_k.c) fun p12 =>
 .fin ((((p12.2.1&&(p13.2.1.toList == (⟨#[111,114,100,101,114,32,103,101,110,101,118,97,32,97,99,99,101,112,116,115,32,123,32,99,104,111,111,115,101,32,102,111,114,109,32,58,32,112,97,121,32,119,104,111,108,101,32,59,32,114,117,108,101,32,98,105,110,100,115,32,61,32,103,101,110,117,105,110,101,32,97,110,100,32,40,32,97,100,117,108,116,32,111,114,32,40,32,110,111,116,32,112,111,119,101,114,32,41,32,41,32,59,32,114,117,108,101,32,103,114,97,99,101,32,61,32,51,32,59,32,125]⟩:ByteArray).toList))&&(((p12.2.2.1.length:Nat):Int) == 22))&&(((p12.2.2.2.1.length:Nat):Int) == 20))&&(((p12.2.2.2.2.length:Nat):Int) == 5)))
noncomputable def L16_sane:Bool:=(L16_sane_sk).val
theorem L16_sane_ok:(L16_sane_sk).obs (fun _=>True):=by
 unfold L16_sane_sk
 try simp only [L16_example_k,R16_Same_k,rule_Factors_k,rule_Parse_k,rule_Print_k,rule_Questions_k,rule_Variables_k]
 exact okD
noncomputable def L16_sane_k:Ctr (Bool):=kk tok mixed Tryz.func8 [] (fun x=>bv x) true (L16_sane_sk) (L16_sane) (fun (_:True)=>L16_sane_ok)
end Go.Proofs.YtgibnoahjhfmcaaGreatDoor
