/- Functions, as sketches. -/
import Derived.Test.YtgibnoahjhfmcaaGreatDoorRa8
namespace Go.Proofs.YtgibnoahjhfmcaaGreatDoor
open Go Go.Av
set_option linter.unusedSimpArgs false
set_option linter.unusedVariables false
set_option maxHeartbeats 1000000
set_option maxRecDepth 100000
noncomputable def L16_example_sk:Sk ((List Order)) :=
 .r 1 (.andl (.andl (.o [.pur 5]) (.o [.nrm (litP Term.E [({ op:=2,n:=17,args:=[] }:Term)] ([dI 2,dI 17,.v (.slice none 0 0)]++([])) ((show CsLe [dI 2,dI 17,.v (.slice none 0 0)] (Term.cellsR (({ op:=2,n:=17,args:=[] }:Term):Term)) from .cons .rfl' (.cons .rfl' (.cons (DLe.nil _) (.nil)))).append (.nil)))])) (.andl (.o [.pur 7]) (.o [.nrm (litP Term.E [({ op:=2,n:=16,args:=[] }:Term),({ op:=3,n:=0,args:=[({ op:=2,n:=17,args:=[] }:Term)] }:Term)] ([dI 2,dI 16,.v (.slice none 0 0)]++([dI 3,dI 0,slD Term.cellsR [({ op:=2,n:=17,args:=[] }:Term)]]++([]))) ((show CsLe [dI 2,dI 16,.v (.slice none 0 0)] (Term.cellsR (({ op:=2,n:=16,args:=[] }:Term):Term)) from .cons .rfl' (.cons .rfl' (.cons (DLe.nil _) (.nil)))).append ((show CsLe [dI 3,dI 0,slD Term.cellsR [({ op:=2,n:=17,args:=[] }:Term)]] (Term.cellsR (({ op:=3,n:=0,args:=[({ op:=2,n:=17,args:=[] }:Term)] }:Term):Term)) from .cons .rfl' (.cons .rfl' (.cons ((Term.argsR_le (({ op:=3,n:=0,args:=[({ op:=2,n:=17,args:=[] }:Term)] }:Term):Term)).2) (.nil)))).append (.nil))))]))) fun _ =>
 .r 2 (.andl (.o [.pur 11]) (.o [.nrm (litP Term.E [({ op:=2,n:=15,args:=[] }:Term),({ op:=5,n:=0,args:=[({ op:=2,n:=16,args:=[] }:Term),({ op:=3,n:=0,args:=[({ op:=2,n:=17,args:=[] }:Term)] }:Term)] }:Term)] ([dI 2,dI 15,.v (.slice none 0 0)]++([dI 5,dI 0,slD Term.cellsR [({ op:=2,n:=16,args:=[] }:Term),({ op:=3,n:=0,args:=[({ op:=2,n:=17,args:=[] }:Term)] }:Term)]]++([]))) ((show CsLe [dI 2,dI 15,.v (.slice none 0 0)] (Term.cellsR (({ op:=2,n:=15,args:=[] }:Term):Term)) from .cons .rfl' (.cons .rfl' (.cons (DLe.nil _) (.nil)))).append ((show CsLe [dI 5,dI 0,slD Term.cellsR [({ op:=2,n:=16,args:=[] }:Term),({ op:=3,n:=0,args:=[({ op:=2,n:=17,args:=[] }:Term)] }:Term)]] (Term.cellsR (({ op:=5,n:=0,args:=[({ op:=2,n:=16,args:=[] }:Term),({ op:=3,n:=0,args:=[({ op:=2,n:=17,args:=[] }:Term)] }:Term)] }:Term):Term)) from .cons .rfl' (.cons .rfl' (.cons ((Term.argsR_le (({ op:=5,n:=0,args:=[({ op:=2,n:=16,args:=[] }:Term),({ op:=3,n:=0,args:=[({ op:=2,n:=17,args:=[] }:Term)] }:Term)] }:Term):Term)).2) (.nil)))).append (.nil))))])) fun _ =>
 .r 3 (.andl (.andl (.o [.pur 14]) (.o [.nrm (litC Choice.E [({ ask:=0,by_:=2,whole:=true }:Choice)])])) (.andl (.andl (.o [.pur 19]) (.o [.nrm (litN Rule.E [({ ask:=2,term:=({ op:=4,n:=0,args:=[({ op:=2,n:=15,args:=[] }:Term),({ op:=5,n:=0,args:=[({ op:=2,n:=16,args:=[] }:Term),({ op:=3,n:=0,args:=[({ op:=2,n:=17,args:=[] }:Term)] }:Term)] }:Term)] }:Term) }:Rule),({ ask:=6,term:=({ op:=0,n:=3,args:=[] }:Term) }:Rule)] [dI 2,dI 4,dI 0,slD Term.cellsR [({ op:=2,n:=15,args:=[] }:Term),({ op:=5,n:=0,args:=[({ op:=2,n:=16,args:=[] }:Term),({ op:=3,n:=0,args:=[({ op:=2,n:=17,args:=[] }:Term)] }:Term)] }:Term)],dI 6,dI 0,dI 3,.v (.slice none 0 0)] (by kernel_rfl))])) (.o [.nrm (litC Order.E [({ name:=(⟨#[103,101,110,101,118,97]⟩:ByteArray),accepts:=true,choices:=[({ ask:=0,by_:=2,whole:=true }:Choice)],rules:=[({ ask:=2,term:=({ op:=4,n:=0,args:=[({ op:=2,n:=15,args:=[] }:Term),({ op:=5,n:=0,args:=[({ op:=2,n:=16,args:=[] }:Term),({ op:=3,n:=0,args:=[({ op:=2,n:=17,args:=[] }:Term)] }:Term)] }:Term)] }:Term) }:Rule),({ ask:=6,term:=({ op:=0,n:=3,args:=[] }:Term) }:Rule)] }:Order)])]))) fun _ =>
 .fin [({ name:=(⟨#[103,101,110,101,118,97]⟩:ByteArray),accepts:=true,choices:=[({ ask:=0,by_:=2,whole:=true }:Choice)],rules:=[({ ask:=2,term:=({ op:=4,n:=0,args:=[({ op:=2,n:=15,args:=[] }:Term),({ op:=5,n:=0,args:=[({ op:=2,n:=16,args:=[] }:Term),({ op:=3,n:=0,args:=[({ op:=2,n:=17,args:=[] }:Term)] }:Term)] }:Term)] }:Term) }:Rule),({ ask:=6,term:=({ op:=0,n:=3,args:=[] }:Term) }:Rule)] }:Order)]
noncomputable def L16_example:(List Order):=(L16_example_sk).val
theorem L16_example_pst:(L16_example_sk).pst (fun (x:(List Order))=>∀ o_,o_∈x→o_.name.size≤20000):=by
 unfold L16_example_sk
 intro _ _ _ _ _ _ _ _ _ o_ h
 cases h with
 | head=>decide
 | tail _ h=>cases h
theorem L16_example_post:(fun (x:(List Order))=>∀ o_,o_∈x→o_.name.size≤20000) (L16_example):=have h:=Sk.pval _ (L16_example_pst); h
theorem L16_example_ok:(L16_example_sk).obs (fun _=>True):=by
 unfold L16_example_sk
 exact okE
noncomputable def L16_example_k:Ctr ((List Order)):=kk tok mixed Tryz.func22 [] (fun x=>lv Order.cells x) false (L16_example_sk) (L16_example) (fun (_:True)=>L16_example_ok) (fun (x:(List Order))=>∀ o_,o_∈x→o_.name.size≤20000) (L16_example_post)
noncomputable def rule_shaped_kr (rv:Term→Bool) (rp:Term→Prop) (rf:∀ (t:Term),rp t→FnA Tryz.prog 64 [av t.cells] [] (bv (rv t)) []) (t:Term):Ctr Bool:=⟨Tryz.prog,64,[av t.cells],fun x=>bv x,true,rv t,rp t,rf t,fun _=>True,trivial⟩
theorem depth_mem {t a:Term} (h:a∈t.args):a.depth < t.depth:=by
 obtain ⟨q,hq,rfl⟩:=List.mem_iff_getElem.1 h
 have:=t.depth_args q hq
 simpa [List.getD,hq] using this
noncomputable def rule_shaped_c1_w_sk (rv:Term→Bool) (rp:Term→Prop) (rf:∀ (t:Term),rp t→FnA Tryz.prog 64 [av t.cells] [] (bv (rv t)) []) (a:Term):Sk (Bool) :=
 .r 1 ((rule_shaped_kr rv rp rf a).c) fun x1 =>
 .fin (!x1)
noncomputable def rule_shaped_c1_w (rv:Term→Bool) (rp:Term→Prop) (rf:∀ (t:Term),rp t→FnA Tryz.prog 64 [av t.cells] [] (bv (rv t)) []) (a:Term):Bool:=(rule_shaped_c1_w_sk rv rp rf a).val
theorem rule_shaped_c1_w_pst (rv:Term→Bool) (rp:Term→Prop) (rf:∀ (t:Term),rp t→FnA Tryz.prog 64 [av t.cells] [] (bv (rv t)) []) (a:Term):(rule_shaped_c1_w_sk rv rp rf a).pst (fun (x:Bool)=>x = !rv a):=by
 refine Sk.pst_of _ ?_
 unfold rule_shaped_c1_w_sk
 simp only [Sk.pstq,Sk.isLoop,reduceCtorEq,ON,kk,rule_shaped_kr,maxLen]
 all_goals (repeat' first | assumption | (refine r_ob1 ?_ ?_ ?_) | (refine r_ob ?_ ?_) | (refine r_ps ?_ ?_) | (apply And.intro) | (intro h))
 all_goals (try simp only [LN,bnilE,Bool.and_eq_true,Bool.and_eq_false_imp,decide_eq_true_eq,bne_iff_ne,beq_iff_eq,ne_eq,bne_eq_false_iff_eq,ByteArray.size_extract] at *)
 all_goals first | trivial | assumption | (exact hr _ (lget_mem (by omega) _)) | (refine Nat.le_of_lt_succ (Nat.lt_of_lt_of_le (depth_mem ‹_›) hm)) | omega | grind [w64_id] | (simp (disch:=omega) only [w64_id] at *; omega) | (simp (disch:=omega) only [w64_id,szP,maxLen] at *; omega) | grind | (simp_all; done) | (simp_all; omega)
theorem rule_shaped_c1_w_post (rv:Term→Bool) (rp:Term→Prop) (rf:∀ (t:Term),rp t→FnA Tryz.prog 64 [av t.cells] [] (bv (rv t)) []) (a:Term):(fun (x:Bool)=>x = !rv a) (rule_shaped_c1_w rv rp rf a):=have h:=Sk.pval _ (rule_shaped_c1_w_pst rv rp rf a); h
theorem rule_shaped_c1_w_ok (rv:Term→Bool) (rp:Term→Prop) (rf:∀ (t:Term),rp t→FnA Tryz.prog 64 [av t.cells] [] (bv (rv t)) []) (a:Term) (hr:rp a):(rule_shaped_c1_w_sk rv rp rf a).obs (fun _=>True):=by
 refine Sk.obs_of _ ?_
 unfold rule_shaped_c1_w_sk
 simp only [Sk.obq,Sk.isLoop,reduceCtorEq,ON,kk,rule_shaped_kr,maxLen]
 all_goals (repeat' first | assumption | (refine r_ob1 ?_ ?_ ?_) | (refine r_ob ?_ ?_) | (refine r_ps ?_ ?_) | (apply And.intro) | (intro h))
 all_goals (try simp only [LN,bnilE,Bool.and_eq_true,Bool.and_eq_false_imp,decide_eq_true_eq,bne_iff_ne,beq_iff_eq,ne_eq,bne_eq_false_iff_eq,ByteArray.size_extract] at *)
 all_goals first | trivial | assumption | (exact hr _ (lget_mem (by omega) _)) | (refine Nat.le_of_lt_succ (Nat.lt_of_lt_of_le (depth_mem ‹_›) hm)) | omega | grind [w64_id] | (simp (disch:=omega) only [w64_id] at *; omega) | (simp (disch:=omega) only [w64_id,szP,maxLen] at *; omega) | grind | (simp_all; done) | (simp_all; omega)
theorem rule_shaped_c1_w_fnX (rv:Term→Bool) (rp:Term→Prop) (rf:∀ (t:Term),rp t→FnA Tryz.prog 64 [av t.cells] [] (bv (rv t)) []) (a:Term) (hr:rp a):FnA Tryz.prog 105 [av a.cells] [] (bv (rule_shaped_c1_w rv rp rf a)) [] :=
 FnA.sk tok mixed (fun x=>bv x) (fun _=>[]) Tryz.func105 rfl (by kernel_rfl) 3000 (rule_shaped_c1_w_sk rv rp rf a) (by kernel_rfl) (rule_shaped_c1_w_ok rv rp rf a hr)
noncomputable def rule_shaped_c1_w_kw (rv:Term→Bool) (rp:Term→Prop) (rf:∀ (t:Term),rp t→FnA Tryz.prog 64 [av t.cells] [] (bv (rv t)) []) (a:Term):Ctr Bool:=⟨Tryz.prog,105,[av a.cells],fun x=>bv x,true,rule_shaped_c1_w rv rp rf a,(rp a),fun h=>rule_shaped_c1_w_fnX rv rp rf a h,fun (x:Bool)=>x = !rv a,rule_shaped_c1_w_post rv rp rf a⟩
noncomputable def slices_IndexFunc_105_w_sk (rv:Term→Bool) (rp:Term→Prop) (rf:∀ (t:Term),rp t→FnA Tryz.prog 64 [av t.cells] [] (bv (rv t)) []) (s:List Term):Sk (Int) :=
 .bind true (fun b1=>∀ q,q < s.length→rv (s.getD q default)=true)
 (.loop (default:Sum (Int) (Unit)) (fun i2=>i2≤s.length∧∀ q,q < i2→rv (s.getD q default)=true) (fun i2=>s.length - i2) (0:Nat)
 (fun (i2:Nat)=>⟨[(8,iv (i2:Int))],[]⟩) fun i2 =>
 .bnd 0 0 s.length <|
 .br (decide ((i2:Int) < ((s.length:Nat):Int)))
 (.r 4 (.andl (.andl (.p (ixP (i2:Int) s.length)) (.o [.cast 14 (refC (Term.unroll (s.getD i2 default)))])) ((rule_shaped_c1_w_kw rv rp rf (s.getD i2 default)).c)) fun x3 =>
 .br x3
 (.fin (.inl (.inl (i2:Int))))
 (.r 6 .z fun _ =>
 .wi 8 (w64 ((i2:Int)+1)) ((i2+1:Nat):Int) <|
 .fin (.inr (i2+1))))
 (.fin (.inl (.inr ()))))
 (fun (_:Unit)=>⟨[],[]⟩) fun _ =>
 .fin (-1)
noncomputable def slices_IndexFunc_105_w (rv:Term→Bool) (rp:Term→Prop) (rf:∀ (t:Term),rp t→FnA Tryz.prog 64 [av t.cells] [] (bv (rv t)) []) (s:List Term):Int:=(slices_IndexFunc_105_w_sk rv rp rf s).val
theorem slices_IndexFunc_105_w_pst (rv:Term→Bool) (rp:Term→Prop) (rf:∀ (t:Term),rp t→FnA Tryz.prog 64 [av t.cells] [] (bv (rv t)) []) (s:List Term):(slices_IndexFunc_105_w_sk rv rp rf s).pst (fun (x:Int)=>(x = -1∧∀ q,q < s.length→rv (s.getD q default)=true)∨(0≤x∧x < s.length∧rv (s.getD x.toNat default)=false)):=by
 refine Sk.pst_of _ ?_
 unfold slices_IndexFunc_105_w_sk
 simp only [Sk.pstq,Sk.isLoop,reduceCtorEq,ON,kk,rule_shaped_c1_w_kw,maxLen]
 all_goals (repeat' first | assumption | (refine r_ob1 ?_ ?_ ?_) | (refine r_ob ?_ ?_) | (refine r_ps ?_ ?_) | (apply And.intro) | (intro h))
 all_goals (try simp only [LN,bnilE,Bool.and_eq_true,Bool.and_eq_false_imp,decide_eq_true_eq,bne_iff_ne,beq_iff_eq,ne_eq,bne_eq_false_iff_eq,ByteArray.size_extract] at *)
 all_goals first | trivial | assumption | (exact hr _ (lget_mem (by omega) _)) | (refine Nat.le_of_lt_succ (Nat.lt_of_lt_of_le (depth_mem ‹_›) hm)) | omega | grind [w64_id] | (simp (disch:=omega) only [w64_id] at *; omega) | (simp (disch:=omega) only [w64_id,szP,maxLen] at *; omega) | grind | (simp_all; done) | (simp_all; omega)
theorem slices_IndexFunc_105_w_post (rv:Term→Bool) (rp:Term→Prop) (rf:∀ (t:Term),rp t→FnA Tryz.prog 64 [av t.cells] [] (bv (rv t)) []) (s:List Term):(fun (x:Int)=>(x = -1∧∀ q,q < s.length→rv (s.getD q default)=true)∨(0≤x∧x < s.length∧rv (s.getD x.toNat default)=false)) (slices_IndexFunc_105_w rv rp rf s):=have h:=Sk.pval _ (slices_IndexFunc_105_w_pst rv rp rf s); h
theorem slices_IndexFunc_105_w_ok (rv:Term→Bool) (rp:Term→Prop) (rf:∀ (t:Term),rp t→FnA Tryz.prog 64 [av t.cells] [] (bv (rv t)) []) (s:List Term) (hr:∀ a_,a_∈s→rp a_):(slices_IndexFunc_105_w_sk rv rp rf s).obs (fun _=>True):=by
 refine Sk.obs_of _ ?_
 unfold slices_IndexFunc_105_w_sk
 simp only [Sk.obq,Sk.isLoop,reduceCtorEq,ON,kk,rule_shaped_c1_w_kw,maxLen]
 all_goals (repeat' first | assumption | (refine r_ob1 ?_ ?_ ?_) | (refine r_ob ?_ ?_) | (refine r_ps ?_ ?_) | (apply And.intro) | (intro h))
 all_goals (try simp only [LN,bnilE,Bool.and_eq_true,Bool.and_eq_false_imp,decide_eq_true_eq,bne_iff_ne,beq_iff_eq,ne_eq,bne_eq_false_iff_eq,ByteArray.size_extract] at *)
 all_goals first | trivial | assumption | (exact hr _ (lget_mem (by omega) _)) | (refine Nat.le_of_lt_succ (Nat.lt_of_lt_of_le (depth_mem ‹_›) hm)) | omega | grind [w64_id] | (simp (disch:=omega) only [w64_id] at *; omega) | (simp (disch:=omega) only [w64_id,szP,maxLen] at *; omega) | grind | (simp_all; done) | (simp_all; omega)
theorem slices_IndexFunc_105_w_fnX (rv:Term→Bool) (rp:Term→Prop) (rf:∀ (t:Term),rp t→FnA Tryz.prog 64 [av t.cells] [] (bv (rv t)) []) (s:List Term) (hr:∀ a_,a_∈s→rp a_):FnA Tryz.prog 144 [lv Term.cellsR s,.fn 105 []] [] (iv (slices_IndexFunc_105_w rv rp rf s)) [] :=
 FnA.sk tok mixed (fun x=>iv x) (fun _=>[]) Tryz.func144 rfl (by kernel_rfl) 3000 (slices_IndexFunc_105_w_sk rv rp rf s) (by kernel_rfl) (slices_IndexFunc_105_w_ok rv rp rf s hr)
noncomputable def slices_IndexFunc_105_w_kw (rv:Term→Bool) (rp:Term→Prop) (rf:∀ (t:Term),rp t→FnA Tryz.prog 64 [av t.cells] [] (bv (rv t)) []) (s:List Term):Ctr Int:=⟨Tryz.prog,144,[lv Term.cellsR s,.fn 105 []],fun x=>iv x,true,slices_IndexFunc_105_w rv rp rf s,(∀ a_,a_∈s→rp a_),fun h=>slices_IndexFunc_105_w_fnX rv rp rf s h,fun (x:Int)=>(x = -1∧∀ q,q < s.length→rv (s.getD q default)=true)∨(0≤x∧x < s.length∧rv (s.getD x.toNat default)=false),slices_IndexFunc_105_w_post rv rp rf s⟩
noncomputable def slices_ContainsFunc_105_w_sk (rv:Term→Bool) (rp:Term→Prop) (rf:∀ (t:Term),rp t→FnA Tryz.prog 64 [av t.cells] [] (bv (rv t)) []) (s:List Term):Sk (Bool) :=
 .r 1 ((slices_IndexFunc_105_w_kw rv rp rf s).c) fun x1 =>
 .fin (decide (x1≥0))
noncomputable def slices_ContainsFunc_105_w (rv:Term→Bool) (rp:Term→Prop) (rf:∀ (t:Term),rp t→FnA Tryz.prog 64 [av t.cells] [] (bv (rv t)) []) (s:List Term):Bool:=(slices_ContainsFunc_105_w_sk rv rp rf s).val
theorem slices_ContainsFunc_105_w_pst (rv:Term→Bool) (rp:Term→Prop) (rf:∀ (t:Term),rp t→FnA Tryz.prog 64 [av t.cells] [] (bv (rv t)) []) (s:List Term):(slices_ContainsFunc_105_w_sk rv rp rf s).pst (fun (x:Bool)=>x = !(s.all rv)):=by
 refine Sk.pst_of _ ?_
 unfold slices_ContainsFunc_105_w_sk
 simp only [Sk.pstq,Sk.isLoop,reduceCtorEq,ON,kk,slices_IndexFunc_105_w_kw]
 intro x _ h
 rcases h with ⟨rfl,h⟩ | ⟨h1,h2,h3⟩
 ·have:s.all rv=true:=List.all_eq_true.2 fun a ha=>by
   obtain ⟨q,hq,rfl⟩:=List.mem_iff_getElem.1 ha
   have:=h q hq
   simpa [List.getD,hq] using this
  rw [this]; rfl
 ·have:s.all rv=false:=by
   rw [← Bool.not_eq_true,List.all_eq_true]
   intro hc
   have:=hc _ (lget_mem (by omega:x.toNat < s.length) default)
   rw [h3] at this; cases this
  rw [this]
  exact decide_eq_true h1
theorem slices_ContainsFunc_105_w_post (rv:Term→Bool) (rp:Term→Prop) (rf:∀ (t:Term),rp t→FnA Tryz.prog 64 [av t.cells] [] (bv (rv t)) []) (s:List Term):(fun (x:Bool)=>x = !(s.all rv)) (slices_ContainsFunc_105_w rv rp rf s):=have h:=Sk.pval _ (slices_ContainsFunc_105_w_pst rv rp rf s); h
theorem slices_ContainsFunc_105_w_ok (rv:Term→Bool) (rp:Term→Prop) (rf:∀ (t:Term),rp t→FnA Tryz.prog 64 [av t.cells] [] (bv (rv t)) []) (s:List Term) (hr:∀ a_,a_∈s→rp a_):(slices_ContainsFunc_105_w_sk rv rp rf s).obs (fun _=>True):=by
 refine Sk.obs_of _ ?_
 unfold slices_ContainsFunc_105_w_sk
 simp only [Sk.obq,Sk.isLoop,reduceCtorEq,ON,kk,slices_IndexFunc_105_w_kw,maxLen]
 all_goals (repeat' first | assumption | (refine r_ob1 ?_ ?_ ?_) | (refine r_ob ?_ ?_) | (refine r_ps ?_ ?_) | (apply And.intro) | (intro h))
 all_goals (try simp only [LN,bnilE,Bool.and_eq_true,Bool.and_eq_false_imp,decide_eq_true_eq,bne_iff_ne,beq_iff_eq,ne_eq,bne_eq_false_iff_eq,ByteArray.size_extract] at *)
 all_goals first | trivial | assumption | (exact hr _ (lget_mem (by omega) _)) | (refine Nat.le_of_lt_succ (Nat.lt_of_lt_of_le (depth_mem ‹_›) hm)) | omega | grind [w64_id] | (simp (disch:=omega) only [w64_id] at *; omega) | (simp (disch:=omega) only [w64_id,szP,maxLen] at *; omega) | grind | (simp_all; done) | (simp_all; omega)
theorem slices_ContainsFunc_105_w_fnX (rv:Term→Bool) (rp:Term→Prop) (rf:∀ (t:Term),rp t→FnA Tryz.prog 64 [av t.cells] [] (bv (rv t)) []) (s:List Term) (hr:∀ a_,a_∈s→rp a_):FnA Tryz.prog 104 [lv Term.cellsR s,.fn 105 []] [] (bv (slices_ContainsFunc_105_w rv rp rf s)) [] :=
 FnA.sk tok mixed (fun x=>bv x) (fun _=>[]) Tryz.func104 rfl (by kernel_rfl) 3000 (slices_ContainsFunc_105_w_sk rv rp rf s) (by kernel_rfl) (slices_ContainsFunc_105_w_ok rv rp rf s hr)
noncomputable def slices_ContainsFunc_105_w_kw (rv:Term→Bool) (rp:Term→Prop) (rf:∀ (t:Term),rp t→FnA Tryz.prog 64 [av t.cells] [] (bv (rv t)) []) (s:List Term):Ctr Bool:=⟨Tryz.prog,104,[lv Term.cellsR s,.fn 105 []],fun x=>bv x,true,slices_ContainsFunc_105_w rv rp rf s,(∀ a_,a_∈s→rp a_),fun h=>slices_ContainsFunc_105_w_fnX rv rp rf s h,fun (x:Bool)=>x = !(s.all rv),slices_ContainsFunc_105_w_post rv rp rf s⟩
def nargs (op:Int):Int:=bif op == 0||op == 1||op == 2 then 0 else bif op == 3 then 1 else bif op == 6 then 3 else 2
def wtop (t:Term):Bool:=decide (0≤t.op∧t.op < 14∧((t.args.length:Nat):Int)=nargs t.op∧(0 < nargs t.op→t.n=0)∧(t.op=0→-1099511627776≤t.n∧t.n≤1099511627776)∧(t.op=1→t.n=0∨t.n=1)∧(t.op=2→0≤t.n∧t.n < 20))
inductive Term.Wr:Term→Prop
 | mk {t:Term} (h:wtop t=true) (ha:∀ a,a∈t.args→Term.Wr a):Term.Wr t
theorem nargs_cases (op:Int) (h0:0≤op) (h1:op < 14):(op=0∧nargs op=0)∨(op=1∧nargs op=0)∨(op=2∧nargs op=0)∨(op=3∧nargs op=1)∨(op=6∧nargs op=3)∨((op=4∨op=5∨7≤op)∧op≠0∧op≠1∧op≠2∧op≠3∧op≠6∧nargs op=2):=by
 have:op=0∨op=1∨op=2∨op=3∨op=4∨op=5∨op=6∨op=7∨op=8∨op=9∨op=10∨op=11∨op=12∨op=13:=by omega
 rcases this with rfl | rfl | rfl | rfl | rfl | rfl | rfl | rfl | rfl | rfl | rfl | rfl | rfl | rfl <;> decide
noncomputable def rule_shaped_sk (rv:Term→Bool) (rp:Term→Prop) (rf:∀ (t:Term),rp t→FnA Tryz.prog 64 [av t.cells] [] (bv (rv t)) []) (t:Term):Sk (Bool) :=
 .bind true (fun b1=>b1=nargs t.op)
 (.bind false (fun b2=>b2=(t.op == 0||t.op == 1||t.op == 2))
 (.br (t.op == 0)
 (.fin (.inr (t.op == 0)))
 (.br (t.op == 1)
 (.fin (.inr (t.op == 1)))
 (.fin (.inr (t.op == 2)))))
 (fun (b2:Bool)=>⟨[(6,bv b2)],[]⟩) fun b2 =>
 .br b2
 (.fin (.inr 0))
 (.br (t.op == 3)
 (.fin (.inr 1))
 (.br (t.op == 6)
 (.fin (.inr 3))
 (.fin (.inr 2)))))
 (fun (b1:Int)=>⟨[(3,iv b1)],[]⟩) fun b1 =>
 .br ((((decide (t.op < 0))||(decide (t.op≥14)))||(((t.args.length:Nat):Int) != b1))||((decide (b1 > 0))&&(t.n != 0)))
 (.fin false)
 (.br (t.op == 0)
 (.fin ((decide (t.n≥(-1099511627776)))&&(decide (t.n≤1099511627776))))
 (.br (t.op == 1)
 (.fin ((t.n == 0)||(t.n == 1)))
 (.br (t.op == 2)
 (.fin ((decide (t.n≥0))&&(decide (t.n < 20))))
 (.r 20 ((slices_ContainsFunc_105_w_kw rv rp rf t.args).c) fun x3 =>
 .fin (!x3)))))
noncomputable def rule_shaped_n:Nat→Term→Bool
 | 0,_=>default
 | fu+1,t=>(rule_shaped_sk (rule_shaped_n fu) (fun _=>False) (fun _=>fun h=>h.elim) t).val
theorem shaped_step (rv:Term→Bool) (rp:Term→Prop) (rf:∀ (t:Term),rp t→FnA Tryz.prog 64 [av t.cells] [] (bv (rv t)) []) (t:Term):(rule_shaped_sk rv rp rf t).val=(wtop t&&t.args.all rv):=by
 refine Sk.pval (rule_shaped_sk rv rp rf t) (L:=fun x=>x=(wtop t&&t.args.all rv)) (Sk.pst_of _ ?_)
 unfold rule_shaped_sk
 simp only [Sk.pstq,Sk.isLoop,reduceCtorEq,ON,kk,slices_ContainsFunc_105_w_kw]
 refine ⟨⟨⟨fun h=>by simp [h],fun h=>⟨fun h1=>by simp [h1],fun h1=>by simp [h,h1]⟩⟩,fun b _ hb=>?_⟩,fun b _ hb=>?_⟩
 ·subst hb
  unfold nargs
  cases h0:t.op == 0 <;> cases h1:t.op == 1 <;> cases h2:t.op == 2 <;> cases h3:t.op == 3 <;> cases h6:t.op == 6 <;> simp
 ·subst hb
  refine ⟨fun hc=>?_,fun hc=>?_⟩
  ·have:wtop t=false:=by
    unfold wtop
    rw [decide_eq_false_iff_not]
    intro hw
    simp only [Bool.or_eq_true,Bool.and_eq_true,decide_eq_true_eq,bne_iff_ne] at hc
    rcases hc with ((h | h) | h) | h
    ·omega
    ·omega
    ·exact h hw.2.2.1
    ·exact h.2 (hw.2.2.2.1 h.1)
   rw [this]; rfl
  ·simp only [Bool.or_eq_false_iff,Bool.and_eq_false_imp,decide_eq_false_iff_not,bne_eq_false_iff_eq,decide_eq_true_eq] at hc
   obtain ⟨⟨⟨c1,c2⟩,c3⟩,c4⟩:=hc
   have e:wtop t=true↔(t.op=0→-1099511627776≤t.n∧t.n≤1099511627776)∧(t.op=1→t.n=0∨t.n=1)∧(t.op=2→0≤t.n∧t.n < 20):=by
    unfold wtop
    rw [decide_eq_true_eq]
    exact ⟨fun h=>h.2.2.2.2,fun h=>⟨by omega,by omega,c3,fun h=>c4 h,h⟩⟩
   have hnil:t.op=0∨t.op=1∨t.op=2→t.args.all rv=true:=fun h=>by
    have:nargs t.op=0:=by rcases h with h | h | h <;> rw [h] <;> rfl
    have:t.args=[]:=List.eq_nil_of_length_eq_zero (by omega)
    rw [this]; rfl
   refine ⟨fun h=>?_,fun h=>⟨fun h1=>?_,fun h1=>⟨fun h2=>?_,fun h2 x _ hx=>?_⟩⟩⟩
   ·have h:=eq_of_beq h
    rw [hnil (.inl h),Bool.and_true,Bool.eq_iff_iff,e,Bool.and_eq_true,decide_eq_true_eq,decide_eq_true_eq]
    exact ⟨fun q=>⟨fun _=>by omega,fun q=>by omega,fun q=>by omega⟩,fun q=>by have:=q.1 h; omega⟩
   ·have h1:=eq_of_beq h1
    rw [hnil (.inr (.inl h1)),Bool.and_true,Bool.eq_iff_iff,e,Bool.or_eq_true,beq_iff_eq,beq_iff_eq]
    exact ⟨fun q=>⟨fun _=>by omega,fun _=>q,fun q=>by omega⟩,fun q=>q.2.1 h1⟩
   ·have h2:=eq_of_beq h2
    rw [hnil (.inr (.inr h2)),Bool.and_true,Bool.eq_iff_iff,e,Bool.and_eq_true,decide_eq_true_eq,decide_eq_true_eq]
    exact ⟨fun q=>⟨fun _=>by omega,fun q=>by omega,fun _=>q⟩,fun q=>q.2.2 h2⟩
   ·have g0:=ne_of_beq_false h
    have g1:=ne_of_beq_false h1
    have g2:=ne_of_beq_false h2
    rw [hx,Bool.not_not,e.2 ⟨fun h=>absurd h g0,fun h=>absurd h g1,fun h=>absurd h g2⟩,Bool.true_and]
theorem shaped_succ (fu:Nat) (t:Term):rule_shaped_n (fu+1) t=(wtop t&&t.args.all (rule_shaped_n fu)):=shaped_step _ (fun _=>False) (fun _ h=>h.elim) t
theorem shaped_wr:∀ (fu:Nat) (t:Term),t.depth≤fu→(rule_shaped_n fu t=true↔t.Wr)
 | 0,t,h=>absurd h (by have:=t.depth_pos; omega)
 | fu+1,t,h=>by
  rw [shaped_succ,Bool.and_eq_true,List.all_eq_true]
  refine ⟨fun ⟨h1,h2⟩=>.mk h1 fun a ha=>(shaped_wr fu a (by have:=depth_mem ha; omega)).1 (h2 a ha),fun hw=>?_⟩
  cases hw with
  | mk h1 h2=>exact ⟨h1,fun a ha=>(shaped_wr fu a (by have:=depth_mem ha; omega)).2 (h2 a ha)⟩
theorem rule_shaped_ok (fu:Nat) (rf:∀ (t:Term),t.depth≤fu∧True→FnA Tryz.prog 64 [av t.cells] [] (bv (rule_shaped_n fu t)) []) (t:Term) (hm:t.depth≤fu+1):(rule_shaped_sk (rule_shaped_n fu) (fun t=>t.depth≤fu∧True) rf t).obs (fun _=>True):=by
 refine Sk.obs_of _ ?_
 unfold rule_shaped_sk
 simp only [Sk.obq,Sk.isLoop,reduceCtorEq,ON,kk,slices_ContainsFunc_105_w_kw]
 refine ⟨⟨⟨fun h=>by simp [h],fun h=>⟨fun h1=>by simp [h1],fun h1=>by simp [h,h1]⟩⟩,fun b _ hb=>?_⟩,fun b _ hb=>?_⟩
 ·subst hb
  unfold nargs
  cases h0:t.op == 0 <;> cases h1:t.op == 1 <;> cases h2:t.op == 2 <;> cases h3:t.op == 3 <;> cases h6:t.op == 6 <;> simp
 ·clear hb
  repeat' first | trivial | (apply And.intro) | (intro h)
  all_goals first | trivial | exact Nat.le_of_lt_succ (Nat.lt_of_lt_of_le (depth_mem ‹_›) hm)
theorem rule_shaped_val (fu:Nat) (rp:Term→Prop) (rf:∀ (t:Term),rp t→FnA Tryz.prog 64 [av t.cells] [] (bv (rule_shaped_n fu t)) []) (t:Term):(rule_shaped_sk (rule_shaped_n fu) rp rf t).val=rule_shaped_n (fu+1) t:=by kernel_rfl
theorem rule_shaped_fnN (fu:Nat):∀ (t:Term),t.depth≤fu→FnA Tryz.prog 64 [av t.cells] [] (bv (rule_shaped_n fu t)) []:=by
 induction fu with
 | zero=>intro t hm; exact absurd hm (by have:=Term.depth_pos t; omega)
 | succ fu ih =>
  intro t hm
  have h:FnA Tryz.prog 64 [av t.cells] [] (bv ((rule_shaped_sk (rule_shaped_n fu) (fun t=>t.depth≤fu∧True) (fun t h=>ih t h.1) t).val)) []:=FnA.sk tok mixed (fun x=>bv x) (fun _=>[]) Tryz.func64 rfl (by kernel_rfl) 3000 (rule_shaped_sk (rule_shaped_n fu) (fun t=>t.depth≤fu∧True) (fun t h=>ih t h.1) t) (by kernel_rfl) (rule_shaped_ok fu _ t hm)
  rw [rule_shaped_val] at h
  exact h
noncomputable def rule_shaped (t:Term):Bool:=rule_shaped_n (t.depth) t
theorem rule_shaped_fn (t:Term):FnA Tryz.prog 64 [av t.cells] [] (bv (rule_shaped t)) []:=rule_shaped_fnN _ t (Nat.le_refl _)
theorem rule_shaped_post (t:Term):(fun (x:Bool)=>x=true→t.Wr) (rule_shaped t):=by
 exact fun h=>(shaped_wr _ t (Nat.le_refl _)).1 h
noncomputable def rule_shaped_k (t:Term):Ctr (Bool):=⟨Tryz.prog,64,[av t.cells],fun x=>bv x,true,rule_shaped t,True,fun _=>rule_shaped_fn t,fun (x:Bool)=>x=true→t.Wr,rule_shaped_post t⟩
theorem rule_shaped_wr (t:Term):rule_shaped t=true↔t.Wr:=shaped_wr _ t (Nat.le_refl _)
end Go.Proofs.YtgibnoahjhfmcaaGreatDoor
