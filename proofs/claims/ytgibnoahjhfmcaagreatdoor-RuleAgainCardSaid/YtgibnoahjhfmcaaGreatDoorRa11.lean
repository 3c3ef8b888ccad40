/- Functions, as sketches. -/
import Derived.Test.YtgibnoahjhfmcaaGreatDoorRa10
namespace Go.Proofs.YtgibnoahjhfmcaaGreatDoor
open Go Go.Av
set_option linter.unusedSimpArgs false
set_option linter.unusedVariables false
set_option maxHeartbeats 1000000
set_option maxRecDepth 100000
noncomputable def strconv_FormatBool_2_sk (b:Bool):Sk (ByteArray) :=
 .br b
 (.fin (⟨#[116,114,117,101]⟩:ByteArray))
 (.fin (⟨#[102,97,108,115,101]⟩:ByteArray))
noncomputable def strconv_FormatBool_2 (b:Bool):ByteArray:=(strconv_FormatBool_2_sk b).val
theorem strconv_FormatBool_2_ok (b:Bool):(strconv_FormatBool_2_sk b).obs (fun _=>True):=by
 unfold strconv_FormatBool_2_sk
 exact okE
noncomputable def strconv_FormatBool_2_k (b:Bool):Ctr (ByteArray):=kk tok mixed Tryz.func146 [bv b] (fun x=>sv x) true (strconv_FormatBool_2_sk b) (strconv_FormatBool_2 b) (fun (_:True)=>strconv_FormatBool_2_ok b)
noncomputable def strconv_FormatBool_sk (b:Bool):Sk (ByteArray) :=
 .r 1 ((strconv_FormatBool_2_k b).c) fun x1 =>
 .fin x1
noncomputable def strconv_FormatBool (b:Bool):ByteArray:=(strconv_FormatBool_sk b).val
theorem strconv_FormatBool_ok (b:Bool):(strconv_FormatBool_sk b).obs (fun _=>True):=by
 unfold strconv_FormatBool_sk
 try simp only [strconv_FormatBool_2_k]
 exact okE
noncomputable def strconv_FormatBool_k (b:Bool):Ctr (ByteArray):=kk tok mixed Tryz.func107 [bv b] (fun x=>sv x) true (strconv_FormatBool_sk b) (strconv_FormatBool b) (fun (_:True)=>strconv_FormatBool_ok b)
def wpart (rv:Term→ByteArray) (a:Term):ByteArray:=bif decide (((a.args.length:Nat):Int) > 0) then ((⟨#[40,32]⟩:ByteArray)++rv a)++(⟨#[32,41]⟩:ByteArray) else rv a
noncomputable def wjoin (t:Term) (l:List ByteArray):ByteArray :=
 bif t.op == 0 then (bif decide (t.n < 0) then (⟨#[45,32]⟩:ByteArray)++itoaS (w64 (0 - t.n)) else itoaS t.n)
 else bif t.op == 1 then (bif t.n == 1 then (⟨#[116,114,117,101]⟩:ByteArray) else (⟨#[102,97,108,115,101]⟩:ByteArray))
 else bif t.op == 2 then rule_Variables.getD t.n.toNat default
 else bif t.op == 3 then (⟨#[110,111,116,32]⟩:ByteArray)++(l.getD 0 default)
 else bif t.op == 6 then (((((⟨#[105,102,32]⟩:ByteArray)++(l.getD 0 default))++(⟨#[32,116,104,101,110,32]⟩:ByteArray))++(l.getD 1 default))++(⟨#[32,101,108,115,101,32]⟩:ByteArray))++(l.getD 2 default)
 else ((((l.getD 0 default)++(⟨#[32]⟩:ByteArray))++(mget rule_operators t.op (⟨#[]⟩:ByteArray)))++(⟨#[32]⟩:ByteArray))++(l.getD 1 default)
def szW:Nat→Nat
 | 0=>0
 | n+1=>3 * (szW n+4)+60
theorem szW_mono {a b:Nat} (h:a≤b):szW a≤szW b:=by
 induction h with
 | refl=>exact Nat.le_refl _
 | step _ ih=>simp only [szW]; omega
theorem vars_size (i:Nat):(rule_Variables.getD i default).size≤20:=by
 have h:rule_Variables.all (fun x=>decide (x.size≤20))=true:=by kernel_rfl
 by_cases hi:i < rule_Variables.length
 ·exact of_decide_eq_true (List.all_eq_true.1 h _ (lget_mem hi default))
 ·have:rule_Variables.getD i default=default:=by simp [List.getD,hi]
  rw [this]; decide
theorem vars_len:rule_Variables.length=20:=by kernel_rfl
theorem ops_size (op:Int):(mget rule_operators op (⟨#[]⟩:ByteArray)).size≤3:=by
 have e:rule_operators=[(4,(⟨#[97,110,100]⟩:ByteArray)),(5,(⟨#[111,114]⟩:ByteArray)),(7,(⟨#[60]⟩:ByteArray)),(8,(⟨#[61]⟩:ByteArray)),(9,(⟨#[43]⟩:ByteArray)),(10,(⟨#[45]⟩:ByteArray)),(11,(⟨#[42]⟩:ByteArray)),(12,(⟨#[109,105,110]⟩:ByteArray)),(13,(⟨#[109,97,120]⟩:ByteArray))]:=rfl
 rw [e]
 unfold mget
 cases h:mfind _ op with
 | none=>decide
 | some x =>
  have:∀ (m:List (Int × ByteArray)),m.all (fun y=>decide (y.2.size≤3))=true→∀ x,mfind m op=some x→x.size≤3:=by
   intro m
   induction m with
   | nil=>intro _ x h; cases h
   | cons y r ih =>
    intro ha x hx
    simp only [List.all_cons,Bool.and_eq_true,decide_eq_true_eq] at ha
    unfold mfind at hx
    cases hb:op == y.1 with
    | true=>rw [hb] at hx; cases hx; exact ha.1
    | false=>rw [hb] at hx; exact ih ha.2 x hx
  exact this _ (by decide) x h
theorem itoaS_size {n:Int} (h0 : -9223372036854775808≤n) (h1:n≤9223372036854775807):(itoaS n).size≤21:=by
 have:=Go.Lib.itoa_length_le n h0 h1
 simpa [itoaS,ByteArray.size] using this
theorem wjoin_size {t:Term} (h:wtop t=true) {l:List ByteArray} {B:Nat} (hl:∀ q,q < t.args.length→(l.getD q default).size≤B):(wjoin t l).size≤3 * B+60:=by
 unfold wtop at h
 have h:=of_decide_eq_true h
 have v0:=vars_size t.n.toNat
 have o0:=ops_size t.op
 have hc:=nargs_cases t.op h.1 h.2.1
 unfold wjoin
 rcases hc with ⟨e,hn⟩ | ⟨e,hn⟩ | ⟨e,hn⟩ | ⟨e,hn⟩ | ⟨e,hn⟩ | ⟨_,e0,e1,e2,e3,e6,hn⟩
 ·have hb:=h.2.2.2.2.1 e
  rw [e]
  simp only [beq_self_eq_true,cond_true]
  cases decide (t.n < 0)
  ·have:=itoaS_size (n:=t.n) (by omega) (by omega)
   simp only [cond_false]; omega
  ·have hw:w64 (0 - t.n)=0 - t.n:=w64_id (by omega) (by omega)
   have:=itoaS_size (n:=0 - t.n) (by omega) (by omega)
   simp only [cond_true,hw,ByteArray.size_append]
   have:(⟨#[45,32]⟩:ByteArray).size=2:=rfl
   omega
 ·rw [e]
  have g:((1:Int) == 0)=false:=rfl
  simp only [g,beq_self_eq_true,cond_true,cond_false]
  cases t.n == 1
  ·have:(⟨#[102,97,108,115,101]⟩:ByteArray).size=5:=rfl
   simp only [cond_false]; omega
  ·have:(⟨#[116,114,117,101]⟩:ByteArray).size=4:=rfl
   simp only [cond_true]; omega
 ·rw [e]
  have g:((2:Int) == 0)=false:=rfl
  have g1:((2:Int) == 1)=false:=rfl
  simp only [g,g1,beq_self_eq_true,cond_true,cond_false]
  omega
 ·have q0:=hl 0 (by omega)
  rw [e]
  have g:((3:Int) == 0)=false:=rfl
  have g1:((3:Int) == 1)=false:=rfl
  have g2:((3:Int) == 2)=false:=rfl
  have:(⟨#[110,111,116,32]⟩:ByteArray).size=4:=rfl
  simp only [g,g1,g2,beq_self_eq_true,cond_true,cond_false,ByteArray.size_append]
  omega
 ·have q0:=hl 0 (by omega)
  have q1:=hl 1 (by omega)
  have q2:=hl 2 (by omega)
  rw [e]
  have g:((6:Int) == 0)=false:=rfl
  have g1:((6:Int) == 1)=false:=rfl
  have g2:((6:Int) == 2)=false:=rfl
  have g3:((6:Int) == 3)=false:=rfl
  have s1:(⟨#[105,102,32]⟩:ByteArray).size=3:=rfl
  have s2:(⟨#[32,116,104,101,110,32]⟩:ByteArray).size=6:=rfl
  have s3:(⟨#[32,101,108,115,101,32]⟩:ByteArray).size=6:=rfl
  simp only [g,g1,g2,g3,beq_self_eq_true,cond_true,cond_false,ByteArray.size_append]
  omega
 ·have q0:=hl 0 (by omega)
  have q1:=hl 1 (by omega)
  have g:(t.op == 0)=false:=beq_false_of_ne e0
  have g1:(t.op == 1)=false:=beq_false_of_ne e1
  have g2:(t.op == 2)=false:=beq_false_of_ne e2
  have g3:(t.op == 3)=false:=beq_false_of_ne e3
  have g6:(t.op == 6)=false:=beq_false_of_ne e6
  have s1:(⟨#[32]⟩:ByteArray).size=1:=rfl
  simp only [g,g1,g2,g3,g6,beq_self_eq_true,cond_true,cond_false,ByteArray.size_append]
  omega
theorem wpart_size (rv:Term→ByteArray) (a:Term):(wpart rv a).size≤(rv a).size+4:=by
 unfold wpart
 have s1:(⟨#[40,32]⟩:ByteArray).size=2:=rfl
 have s2:(⟨#[32,41]⟩:ByteArray).size=2:=rfl
 cases decide (((a.args.length:Nat):Int) > 0)
 ·simp only [cond_false]; omega
 ·simp only [cond_true,ByteArray.size_append]; omega
noncomputable def rule_written_kr (rv:Term→ByteArray) (rp:Term→Prop) (rf:∀ (t:Term),rp t→FnA Tryz.prog 65 [av t.cells] [] (sv (rv t)) []) (t:Term):Ctr (ByteArray):=⟨Tryz.prog,65,[av t.cells],fun x=>sv x,true,rv t,rp t,rf t,fun _=>True,trivial⟩
noncomputable def rule_written_sk (rv:Term→ByteArray) (rp:Term→Prop) (rf:∀ (t:Term),rp t→FnA Tryz.prog 65 [av t.cells] [] (sv (rv t)) []) (t:Term):Sk (ByteArray) :=
 .bind true (fun b1=>b1=t.args.map (wpart rv))
 (.loop (default:Sum (ByteArray) ((List ByteArray))) (fun i2=>i2.2≤t.args.length∧i2.1=(t.args.take i2.2).map (wpart rv)) (fun i2=>t.args.length - i2.2) (([],0):(List ByteArray) × Nat)
 (fun (i2:(List ByteArray) × Nat)=>⟨[(3,ow 100002 i2.1),(10,iv (i2.2:Int))],[(100002,rowB 9 1 strC i2.1)]⟩) fun i2 =>
 .bnd 8 0 t.args.length <|
 .br (decide ((i2.2:Int) < ((t.args.length:Nat):Int)))
 (.r 4 (.andl (.p (ixP (i2.2:Int) t.args.length)) (.o [.cast 12 (refC (Term.unroll (t.args.getD i2.2 default)))])) fun _ =>
 .r 5 ((rule_written_kr rv rp rf (t.args.getD i2.2 default)).c) fun x3 =>
 .br (decide (((((t.args.getD i2.2 default).args).length:Nat):Int) > 0))
 (.r 7 (.andl (.p ((((⟨#[40,32]⟩:ByteArray).size+x3.size:Nat):Int)≤IntKind.i64.max)) (.p (((((⟨#[40,32]⟩:ByteArray)++x3).size+(⟨#[32,41]⟩:ByteArray).size:Nat):Int)≤IntKind.i64.max))) fun _ =>
 .r 8 (.andl (.o [.nrm (litC strE [((⟨#[40,32]⟩:ByteArray)++x3)++(⟨#[32,41]⟩:ByteArray)])]) (.andl (.o [.nrm (catC strE i2.1 [((⟨#[40,32]⟩:ByteArray)++x3)++(⟨#[32,41]⟩:ByteArray)])]) (.andl (.t (strE.ones [((⟨#[40,32]⟩:ByteArray)++x3)++(⟨#[32,41]⟩:ByteArray)])) (.p (szP i2.1.length [((⟨#[40,32]⟩:ByteArray)++x3)++(⟨#[32,41]⟩:ByteArray)].length 16))))) fun _ =>
 .r 9 .z fun _ =>
 .wi 10 (w64 ((i2.2:Int)+1)) ((i2.2+1:Nat):Int) <|
 .fin (.inr (i2.1++[((⟨#[40,32]⟩:ByteArray)++x3)++(⟨#[32,41]⟩:ByteArray)],i2.2+1)))
 (.r 8 (.andl (.o [.nrm (litC strE [x3])]) (.andl (.o [.nrm (catC strE i2.1 [x3])]) (.andl (.t (strE.ones [x3])) (.p (szP i2.1.length [x3].length 16))))) fun _ =>
 .r 9 .z fun _ =>
 .wi 10 (w64 ((i2.2:Int)+1)) ((i2.2+1:Nat):Int) <|
 .fin (.inr (i2.1++[x3],i2.2+1))))
 (.fin (.inl (.inr i2.1))))
 (fun (b1:(List ByteArray))=>⟨[(3,ow 100001 b1)],[(100001,rowB 9 1 strC b1)]⟩) fun b1 =>
 .br (t.op == 0)
 (.br (decide (t.n < 0))
 (.r 13 (.depr ((strconv_Itoa_k (w64 (0 - t.n))).c) fun x4=>.p ((((⟨#[45,32]⟩:ByteArray).size+x4.size:Nat):Int)≤IntKind.i64.max)) fun x4 =>
 .fin ((⟨#[45,32]⟩:ByteArray)++x4))
 (.r 14 ((strconv_Itoa_k t.n).c) fun x5 =>
 .fin x5))
 (.br (t.op == 1)
 (.r 16 ((strconv_FormatBool_k (t.n == 1)).c) fun x6 =>
 .fin x6)
 (.br (t.op == 2)
 (.r 18 (.depr rule_Variables_k.c fun x7=>.p (ixP t.n x7.length)) fun x7 =>
 .fin (x7.getD t.n.toNat default))
 (.br (t.op == 3)
 (.r 20 (.andl (.p (ixP (0:Int) b1.length)) (.andl (.p (0 < b1.length)) (.p ((((⟨#[110,111,116,32]⟩:ByteArray).size+(b1.getD 0 default).size:Nat):Int)≤IntKind.i64.max)))) fun _ =>
 .fin ((⟨#[110,111,116,32]⟩:ByteArray)++(b1.getD 0 default)))
 (.br (t.op == 6)
 (.r 22 (.andl (.p (ixP (0:Int) b1.length)) (.andl (.p (0 < b1.length)) (.andl (.p ((((⟨#[105,102,32]⟩:ByteArray).size+(b1.getD 0 default).size:Nat):Int)≤IntKind.i64.max)) (.andl (.p (((((⟨#[105,102,32]⟩:ByteArray)++(b1.getD 0 default)).size+(⟨#[32,116,104,101,110,32]⟩:ByteArray).size:Nat):Int)≤IntKind.i64.max)) (.andl (.p (ixP (1:Int) b1.length)) (.andl (.p (1 < b1.length)) (.andl (.p ((((((⟨#[105,102,32]⟩:ByteArray)++(b1.getD 0 default))++(⟨#[32,116,104,101,110,32]⟩:ByteArray)).size+(b1.getD 1 default).size:Nat):Int)≤IntKind.i64.max)) (.andl (.p (((((((⟨#[105,102,32]⟩:ByteArray)++(b1.getD 0 default))++(⟨#[32,116,104,101,110,32]⟩:ByteArray))++(b1.getD 1 default)).size+(⟨#[32,101,108,115,101,32]⟩:ByteArray).size:Nat):Int)≤IntKind.i64.max)) (.andl (.p (ixP (2:Int) b1.length)) (.andl (.p (2 < b1.length)) (.p ((((((((⟨#[105,102,32]⟩:ByteArray)++(b1.getD 0 default))++(⟨#[32,116,104,101,110,32]⟩:ByteArray))++(b1.getD 1 default))++(⟨#[32,101,108,115,101,32]⟩:ByteArray)).size+(b1.getD 2 default).size:Nat):Int)≤IntKind.i64.max)))))))))))) fun _ =>
 .fin ((((((⟨#[105,102,32]⟩:ByteArray)++(b1.getD 0 default))++(⟨#[32,116,104,101,110,32]⟩:ByteArray))++(b1.getD 1 default))++(⟨#[32,101,108,115,101,32]⟩:ByteArray))++(b1.getD 2 default)))
 (.r 23 (.andl (.p (ixP (0:Int) b1.length)) (.andl (.p (0 < b1.length)) (.andl (.p ((((b1.getD 0 default).size+(⟨#[32]⟩:ByteArray).size:Nat):Int)≤IntKind.i64.max)) (.depr ((rule_operators_km).c) fun x8=>.andl (.andl (.t (keysM dS x8)) (.o [.cast 85 (getM dS x8 t.op (⟨#[]⟩:ByteArray))])) (.andl (.p (((((b1.getD 0 default)++(⟨#[32]⟩:ByteArray)).size+(mget x8 t.op (⟨#[]⟩:ByteArray)).size:Nat):Int)≤IntKind.i64.max)) (.andl (.p ((((((b1.getD 0 default)++(⟨#[32]⟩:ByteArray))++(mget x8 t.op (⟨#[]⟩:ByteArray))).size+(⟨#[32]⟩:ByteArray).size:Nat):Int)≤IntKind.i64.max)) (.andl (.p (ixP (1:Int) b1.length)) (.andl (.p (1 < b1.length)) (.p (((((((b1.getD 0 default)++(⟨#[32]⟩:ByteArray))++(mget x8 t.op (⟨#[]⟩:ByteArray)))++(⟨#[32]⟩:ByteArray)).size+(b1.getD 1 default).size:Nat):Int)≤IntKind.i64.max)))))))))) fun x8 =>
 .fin (((((b1.getD 0 default)++(⟨#[32]⟩:ByteArray))++(mget x8 t.op (⟨#[]⟩:ByteArray)))++(⟨#[32]⟩:ByteArray))++(b1.getD 1 default)))))))
noncomputable def rule_written_n:Nat→Term→ByteArray
 | 0,_=>default
 | fu+1,t=>(rule_written_sk (rule_written_n fu) (fun _=>False) (fun _=>fun h=>h.elim) t).val
theorem written_step (rv:Term→ByteArray) (rp:Term→Prop) (rf:∀ (t:Term),rp t→FnA Tryz.prog 65 [av t.cells] [] (sv (rv t)) []) (t:Term):(rule_written_sk rv rp rf t).val=wjoin t (t.args.map (wpart rv)):=by
 refine Sk.pval (rule_written_sk rv rp rf t) (L:=fun x=>x=wjoin t (t.args.map (wpart rv))) (Sk.pst_of _ ?_)
 unfold rule_written_sk
 simp only [Sk.pstq,Sk.isLoop,reduceCtorEq,ON,kk,rule_Variables_k,rule_operators_km,strconv_FormatBool_k,strconv_Itoa_k,rule_written_kr,maxLen]
 refine ⟨⟨⟨Nat.zero_le _,rfl⟩,fun i hi=>⟨fun hc x y hy=>?_,fun hc=>?_⟩⟩,fun b hb=>?_⟩
 ·have hc:=of_decide_eq_true hc
  have hlt:i.2 < t.args.length:=by omega
  have e:List.map (wpart rv) (List.take (i.2+1) t.args)=i.1++[wpart rv (t.args.getD i.2 default)]:=by
   rw [hi.2,List.take_add_one,List.getElem?_eq_getElem hlt,List.map_append]
   simp [List.getD,hlt]
  rw [e]
  subst hy
  refine ⟨fun h _ _ _=>⟨⟨hlt,?_⟩,by omega⟩,fun h _ _=>⟨⟨hlt,?_⟩,by omega⟩⟩
  ·unfold wpart; rw [h]; rfl
  ·unfold wpart; rw [h]; rfl
 ·have hc:=of_decide_eq_false hc
  rw [hi.2,List.take_of_length_le (by omega)]
 ·subst hb
  unfold wjoin
  refine ⟨fun h0=>⟨fun hn x hx=>?_,fun hn x hx=>?_⟩,fun h0=>⟨fun h1 x hx=>?_,fun h1=>⟨fun h2 x hx=>?_,fun h2=>⟨fun h3 _=>?_,fun h3=>⟨fun h6 _=>?_,fun h6 x hx=>?_⟩⟩⟩⟩⟩
  ·rw [h0,hn,hx]; rfl
  ·rw [h0,hn,hx]; rfl
  ·rw [h0,h1,hx]
   show strconv_FormatBool (t.n == 1)=_
   have e:strconv_FormatBool (t.n == 1)=bif t.n == 1 then (⟨#[116,114,117,101]⟩:ByteArray) else (⟨#[102,97,108,115,101]⟩:ByteArray):=rfl
   rw [e]; rfl
  ·rw [h0,h1,h2,hx]; rfl
  ·rw [h0,h1,h2,h3]; rfl
  ·rw [h0,h1,h2,h3,h6]; rfl
  ·rw [h0,h1,h2,h3,h6,hx]; rfl
theorem written_succ (fu:Nat) (t:Term):rule_written_n (fu+1) t=wjoin t (t.args.map (wpart (rule_written_n fu))):=written_step _ (fun _=>False) (fun _ h=>h.elim) t
theorem written_size:∀ (fu:Nat) (t:Term),t.depth≤fu→t.Wr→(rule_written_n fu t).size≤szW t.depth
 | 0,t,h,_=>absurd h (by have:=t.depth_pos; omega)
 | fu+1,t,h,hw=>by
  cases hw with
  | mk h1 h2 =>
   rw [written_succ]
   obtain ⟨d,hd⟩:∃ d,t.depth=d+1:=⟨t.depth - 1,by have:=t.depth_pos; omega⟩
   have:=wjoin_size h1 (l:=t.args.map (wpart (rule_written_n fu))) (B:=szW d+4) (fun q hq=>by
    have e:(t.args.map (wpart (rule_written_n fu))).getD q default=wpart (rule_written_n fu) (t.args.getD q default):=by simp [List.getD,hq]
    rw [e]
    have hm:=lget_mem hq default
    have hq:=depth_mem hm
    have g1:=wpart_size (rule_written_n fu) (t.args.getD q default)
    have g2:=written_size fu _ (by omega) (h2 _ hm)
    have g3:=szW_mono (show (t.args.getD q default).depth≤d by omega)
    omega)
   rw [hd]
   simp only [szW]
   omega
theorem rule_written_ok (fu:Nat) (rf:∀ (t:Term),t.depth≤fu∧(t.Wr)∧(t.depth≤9)→FnA Tryz.prog 65 [av t.cells] [] (sv (rule_written_n fu t)) []) (t:Term) (hm:t.depth≤fu+1) (hw:t.Wr) (hd:t.depth≤9):(rule_written_sk (rule_written_n fu) (fun t=>t.depth≤fu∧(t.Wr)∧(t.depth≤9)) rf t).obs (fun _=>True):=by
 refine Sk.obs_of _ ?_
 unfold rule_written_sk
 simp only [Sk.obq,Sk.isLoop,reduceCtorEq,ON,kk,rule_Variables_k,rule_operators_km,strconv_FormatBool_k,strconv_Itoa_k,rule_written_kr,maxLen]
 cases hw with
 | mk h1 h2 =>
 have hB:szW 8≤1000000:=by decide
 have hsz:∀ a,a∈t.args→(rule_written_n fu a).size≤1000000:=fun a ha=>by
  have:=depth_mem ha
  have g1:=written_size fu a (by omega) (h2 a ha)
  have g2:=szW_mono (show a.depth≤8 by omega)
  omega
 have hps:∀ q,q < t.args.length→((t.args.map (wpart (rule_written_n fu))).getD q default).size≤1000004:=fun q hq=>by
  have e:(t.args.map (wpart (rule_written_n fu))).getD q default=wpart (rule_written_n fu) (t.args.getD q default):=by simp [List.getD,hq]
  rw [e]
  have g1:=wpart_size (rule_written_n fu) (t.args.getD q default)
  have g2:=hsz _ (lget_mem hq default)
  omega
 have hwt:wtop t=true:=h1
 unfold wtop at h1
 have h1:=of_decide_eq_true h1
 have hc:=nargs_cases t.op h1.1 h1.2.1
 have hl:t.args.length≤3:=by omega
 refine ⟨⟨⟨Nat.zero_le _,rfl⟩,fun i hi=>?_⟩,fun b hb=>?_⟩
 ·intro hbnd
  refine ⟨fun hc=>?_,fun hc=>?_⟩
  ·have hc:=of_decide_eq_true hc
   have hlt:i.2 < t.args.length:=by omega
   have hm:=lget_mem hlt default
   have hs:=hsz _ hm
   have hd':=depth_mem hm
   have hil:i.1.length=i.2:=by rw [hi.2,List.length_map,List.length_take]; omega
   have e:List.map (wpart (rule_written_n fu)) (List.take (i.2+1) t.args)=i.1++[wpart (rule_written_n fu) (t.args.getD i.2 default)]:=by
    rw [hi.2,List.take_add_one,List.getElem?_eq_getElem hlt,List.map_append]
    simp [List.getD,hlt]
   rw [e]
   have w2:(⟨#[40,32]⟩:ByteArray).size=2:=rfl
   have w3:(⟨#[32,41]⟩:ByteArray).size=2:=rfl
   have hmax:IntKind.i64.max=9223372036854775807:=by decide
   have hw64:w64 (((i.2:Nat):Int)+1)=((i.2+1:Nat):Int):=by rw [w64_id (by omega) (by omega)]; omega
   rw [hmax]
   refine ⟨⟨by omega,by omega⟩,fun _=>⟨⟨by omega,h2 _ hm,by omega⟩,fun x hx=>?_⟩⟩
   have hxs:x.size≤1000000:=by rw [hx]; exact hs
   refine ⟨fun h=>⟨⟨by omega,by rw [ByteArray.size_append]; omega⟩,fun _=>⟨⟨by simp only [LN]; omega,by simp only [LN]; omega⟩,fun _ _=>⟨hw64,⟨by omega,?_⟩,by omega⟩⟩⟩,fun h=>⟨⟨by simp only [LN]; omega,by simp only [LN]; omega⟩,fun _ _=>⟨hw64,⟨by omega,?_⟩,by omega⟩⟩⟩
   ·rw [hx]; unfold wpart; rw [h]; rfl
   ·rw [hx]; unfold wpart; rw [h]; rfl
  ·have hc:=of_decide_eq_false hc
   rw [hi.2,List.take_of_length_le (by omega)]
 ·subst hb
  have hmax:IntKind.i64.max=9223372036854775807:=by decide
  have hbl:(t.args.map (wpart (rule_written_n fu))).length=t.args.length:=List.length_map _
  have s1:(⟨#[45,32]⟩:ByteArray).size=2:=rfl
  have s2:(⟨#[110,111,116,32]⟩:ByteArray).size=4:=rfl
  have s3:(⟨#[105,102,32]⟩:ByteArray).size=3:=rfl
  have s4:(⟨#[32,116,104,101,110,32]⟩:ByteArray).size=6:=rfl
  have s5:(⟨#[32,101,108,115,101,32]⟩:ByteArray).size=6:=rfl
  have s6:(⟨#[32]⟩:ByteArray).size=1:=rfl
  have o0:=ops_size t.op
  have v0:=vars_len
  rw [hmax,hbl]
  refine ⟨fun h0=>⟨fun hn=>?_,fun hn=>?_⟩,fun h0 h1'=>⟨fun h2' x hx=>?_,fun h2'=>⟨fun h3=>?_,fun h3=>⟨fun h6=>?_,fun h6=>?_⟩⟩⟩⟩
  ·have h0:=eq_of_beq h0
   have hb:=h1.2.2.2.2.1 h0
   have hw:w64 (0 - t.n)=0 - t.n:=w64_id (by omega) (by omega)
   rw [hw]
   refine ⟨⟨by omega,by omega⟩,fun x hx=>?_⟩
   have:=itoaS_size (n:=0 - t.n) (by omega) (by omega)
   rw [hx]; omega
  ·have hb:=h1.2.2.2.2.1 (eq_of_beq h0)
   exact ⟨by omega,by omega⟩
  ·have hb:=h1.2.2.2.2.2.2 (eq_of_beq h2')
   rw [hx,v0]
   exact ⟨by omega,by omega⟩
  ·have h3:=eq_of_beq h3
   have q0:=hps 0 (by omega)
   exact ⟨⟨by omega,by omega⟩,by omega,by omega⟩
  ·have h6:=eq_of_beq h6
   have q0:=hps 0 (by omega)
   have q1:=hps 1 (by omega)
   have q2:=hps 2 (by omega)
   simp only [ByteArray.size_append]
   refine ⟨⟨?_,?_⟩,?_,?_,?_,⟨?_,?_⟩,?_,?_,?_,⟨?_,?_⟩,?_,?_⟩ <;> omega
  ·have g0:=ne_of_beq_false h0
   have g1:=ne_of_beq_false h1'
   have g2:=ne_of_beq_false h2'
   have g3:=ne_of_beq_false h3
   have g6:=ne_of_beq_false h6
   have q0:=hps 0 (by omega)
   have q1:=hps 1 (by omega)
   refine ⟨⟨by omega,by omega⟩,by omega,by omega,fun x hx=>?_⟩
   rw [hx]
   simp only [ByteArray.size_append]
   refine ⟨?_,?_,⟨?_,?_⟩,?_,?_⟩ <;> omega
theorem rule_written_val (fu:Nat) (rp:Term→Prop) (rf:∀ (t:Term),rp t→FnA Tryz.prog 65 [av t.cells] [] (sv (rule_written_n fu t)) []) (t:Term):(rule_written_sk (rule_written_n fu) rp rf t).val=rule_written_n (fu+1) t:=by kernel_rfl
theorem rule_written_fnN (fu:Nat):∀ (t:Term),t.depth≤fu→t.Wr→(t.depth≤9)→FnA Tryz.prog 65 [av t.cells] [] (sv (rule_written_n fu t)) []:=by
 induction fu with
 | zero=>intro t hm h0 h1; exact absurd hm (by have:=Term.depth_pos t; omega)
 | succ fu ih =>
  intro t hm h0 h1
  have h:FnA Tryz.prog 65 [av t.cells] [] (sv ((rule_written_sk (rule_written_n fu) (fun t=>t.depth≤fu∧(t.Wr)∧(t.depth≤9)) (fun t h=>ih t h.1 h.2.1 h.2.2) t).val)) []:=FnA.sk tok mixed (fun x=>sv x) (fun _=>[]) Tryz.func65 rfl (by kernel_rfl) 3000 (rule_written_sk (rule_written_n fu) (fun t=>t.depth≤fu∧(t.Wr)∧(t.depth≤9)) (fun t h=>ih t h.1 h.2.1 h.2.2) t) (by kernel_rfl) (rule_written_ok fu _ t hm h0 h1)
  rw [rule_written_val] at h
  exact h
noncomputable def rule_written (t:Term):ByteArray:=rule_written_n (t.depth) t
theorem rule_written_fn (t:Term) (hw:t.Wr) (hd:t.depth≤9):FnA Tryz.prog 65 [av t.cells] [] (sv (rule_written t)) []:=rule_written_fnN _ t (Nat.le_refl _) hw hd
theorem rule_written_post (t:Term):(fun (x:ByteArray)=>t.Wr∧t.depth≤8→x.size≤300000) (rule_written t):=by
 exact fun h=>Nat.le_trans (written_size _ t (Nat.le_refl _) h.1) (Nat.le_trans (szW_mono h.2) (by decide))
noncomputable def rule_written_k (t:Term):Ctr (ByteArray):=⟨Tryz.prog,65,[av t.cells],fun x=>sv x,true,rule_written t,(t.Wr)∧(t.depth≤9),fun h=>rule_written_fn t h.1 h.2,fun (x:ByteArray)=>t.Wr∧t.depth≤8→x.size≤300000,rule_written_post t⟩
theorem quest_len:rule_Questions.length=22:=by kernel_rfl
theorem fact_len:rule_Factors.length=5:=by kernel_rfl
theorem small_size {l:List ByteArray} {B:Nat} (h:l.all (fun x=>decide (x.size≤B))=true) (i:Nat):(l.getD i default).size≤B:=by
 by_cases hi:i < l.length
 ·exact of_decide_eq_true (List.all_eq_true.1 h _ (lget_mem hi default))
 ·have:l.getD i default=default:=by simp [List.getD,hi]
  rw [this]; exact Nat.zero_le _
theorem quest_size (i:Nat):(rule_Questions.getD i default).size≤20:=small_size (by kernel_rfl) i
theorem fact_size (i:Nat):(rule_Factors.getD i default).size≤20:=small_size (by kernel_rfl) i
noncomputable def rule_text_sk (o:Order):Sk (ByteArray × Bool) :=
 .r 1 (.p ((((⟨#[111,114,100,101,114,32]⟩:ByteArray).size+o.name.size:Nat):Int)≤IntKind.i64.max)) fun _ =>
 .bind false (fun b1=>b1.size≤30000)
 (.br o.accepts
 (.r 3 (.p (((((⟨#[111,114,100,101,114,32]⟩:ByteArray)++o.name).size+(⟨#[32,97,99,99,101,112,116,115]⟩:ByteArray).size:Nat):Int)≤IntKind.i64.max)) fun _ =>
 .fin (.inr (((⟨#[111,114,100,101,114,32]⟩:ByteArray)++o.name)++(⟨#[32,97,99,99,101,112,116,115]⟩:ByteArray))))
 (.fin (.inr ((⟨#[111,114,100,101,114,32]⟩:ByteArray)++o.name))))
 (fun (b1:ByteArray)=>⟨[(4,sv b1)],[]⟩) fun b1 =>
 .r 4 (.p (((b1.size+(⟨#[32,123]⟩:ByteArray).size:Nat):Int)≤IntKind.i64.max)) fun _ =>
 .bind true (fun b2=>b2.1.size≤50000)
 (.loop (default:Sum (ByteArray × Bool) (ByteArray × Int)) (fun i3=>i3.2.2≤o.choices.length∧-1≤(i3.2.1:Int)∧(i3.2.1:Int) < 22∧((i3.1.size:Nat):Int)≤40000+200 * (i3.2.1+1)) (fun i3=>o.choices.length - i3.2.2) ((b1++(⟨#[32,123]⟩:ByteArray),(-1),0):ByteArray × Int × Nat)
 (fun (i3:ByteArray × Int × Nat)=>⟨[(4,sv i3.1),(5,iv i3.2.1),(24,iv (i3.2.2:Int))],[]⟩) fun i3 =>
 .bnd 22 0 o.choices.length <|
 .br (decide ((i3.2.2:Int) < ((o.choices.length:Nat):Int)))
 (.r 8 (.p (ixP (i3.2.2:Int) o.choices.length)) fun _ =>
 .br ((((decide (((o.choices.getD i3.2.2 default).ask)≤i3.2.1))||(decide (((o.choices.getD i3.2.2 default).ask)≥22)))||(decide (((o.choices.getD i3.2.2 default).by_) < 0)))||(decide (((o.choices.getD i3.2.2 default).by_)≥5)))
 (.fin (.inl (.inl ((⟨#[]⟩:ByteArray),false))))
 (.r 12 (.dep rule_Questions_k.c fun x4=>.andl (.p (ixP ((o.choices.getD i3.2.2 default).ask) x4.length)) (.andl (.p ((((⟨#[32,99,104,111,111,115,101,32]⟩:ByteArray).size+(x4.getD (((o.choices.getD i3.2.2 default).ask).toNat) default).size:Nat):Int)≤IntKind.i64.max)) (.andl (.p (((((⟨#[32,99,104,111,111,115,101,32]⟩:ByteArray)++(x4.getD (((o.choices.getD i3.2.2 default).ask).toNat) default)).size+(⟨#[32,58,32]⟩:ByteArray).size:Nat):Int)≤IntKind.i64.max)) (.depr rule_Factors_k.c fun x5=>.andl (.p (ixP ((o.choices.getD i3.2.2 default).by_) x5.length)) (.andl (.p ((((((⟨#[32,99,104,111,111,115,101,32]⟩:ByteArray)++(x4.getD (((o.choices.getD i3.2.2 default).ask).toNat) default))++(⟨#[32,58,32]⟩:ByteArray)).size+(x5.getD (((o.choices.getD i3.2.2 default).by_).toNat) default).size:Nat):Int)≤IntKind.i64.max)) (.p (((i3.1.size+((((⟨#[32,99,104,111,111,115,101,32]⟩:ByteArray)++(x4.getD (((o.choices.getD i3.2.2 default).ask).toNat) default))++(⟨#[32,58,32]⟩:ByteArray))++(x5.getD (((o.choices.getD i3.2.2 default).by_).toNat) default)).size:Nat):Int)≤IntKind.i64.max))))))) fun p6 =>
 .br ((o.choices.getD i3.2.2 default).whole)
 (.r 14 (.p ((((i3.1++((((⟨#[32,99,104,111,111,115,101,32]⟩:ByteArray)++(p6.1.getD (((o.choices.getD i3.2.2 default).ask).toNat) default))++(⟨#[32,58,32]⟩:ByteArray))++(p6.2.getD (((o.choices.getD i3.2.2 default).by_).toNat) default))).size+(⟨#[32,119,104,111,108,101]⟩:ByteArray).size:Nat):Int)≤IntKind.i64.max)) fun _ =>
 .r 15 (.p (((((i3.1++((((⟨#[32,99,104,111,111,115,101,32]⟩:ByteArray)++(p6.1.getD (((o.choices.getD i3.2.2 default).ask).toNat) default))++(⟨#[32,58,32]⟩:ByteArray))++(p6.2.getD (((o.choices.getD i3.2.2 default).by_).toNat) default)))++(⟨#[32,119,104,111,108,101]⟩:ByteArray)).size+(⟨#[32,59]⟩:ByteArray).size:Nat):Int)≤IntKind.i64.max)) fun _ =>
 .r 16 .z fun _ =>
 .wi 24 (w64 ((i3.2.2:Int)+1)) ((i3.2.2+1:Nat):Int) <|
 .fin (.inr (((i3.1++((((⟨#[32,99,104,111,111,115,101,32]⟩:ByteArray)++(p6.1.getD (((o.choices.getD i3.2.2 default).ask).toNat) default))++(⟨#[32,58,32]⟩:ByteArray))++(p6.2.getD (((o.choices.getD i3.2.2 default).by_).toNat) default)))++(⟨#[32,119,104,111,108,101]⟩:ByteArray))++(⟨#[32,59]⟩:ByteArray),(o.choices.getD i3.2.2 default).ask,i3.2.2+1)))
 (.r 15 (.p ((((i3.1++((((⟨#[32,99,104,111,111,115,101,32]⟩:ByteArray)++(p6.1.getD (((o.choices.getD i3.2.2 default).ask).toNat) default))++(⟨#[32,58,32]⟩:ByteArray))++(p6.2.getD (((o.choices.getD i3.2.2 default).by_).toNat) default))).size+(⟨#[32,59]⟩:ByteArray).size:Nat):Int)≤IntKind.i64.max)) fun _ =>
 .r 16 .z fun _ =>
 .wi 24 (w64 ((i3.2.2:Int)+1)) ((i3.2.2+1:Nat):Int) <|
 .fin (.inr ((i3.1++((((⟨#[32,99,104,111,111,115,101,32]⟩:ByteArray)++(p6.1.getD (((o.choices.getD i3.2.2 default).ask).toNat) default))++(⟨#[32,58,32]⟩:ByteArray))++(p6.2.getD (((o.choices.getD i3.2.2 default).by_).toNat) default)))++(⟨#[32,59]⟩:ByteArray),(o.choices.getD i3.2.2 default).ask,i3.2.2+1)))))
 (.fin (.inl (.inr (i3.1,i3.2.1)))))
 (fun (b2:ByteArray × Int)=>⟨[(4,sv b2.1),(5,iv b2.2)],[]⟩) fun b2 =>
 .bind true (fun b7=>b7.size≤10000000)
 (.loop (default:Sum (ByteArray × Bool) (ByteArray)) (fun i8=>i8.2.2≤o.rules.length∧-1≤(i8.2.1:Int)∧(i8.2.1:Int) < 22∧((i8.1.size:Nat):Int)≤50000+400000 * (i8.2.1+1)) (fun i8=>o.rules.length - i8.2.2) ((b2.1,(-1),0):ByteArray × Int × Nat)
 (fun (i8:ByteArray × Int × Nat)=>⟨[(4,sv i8.1),(5,iv i8.2.1),(74,iv (i8.2.2:Int))],[]⟩) fun i8 =>
 .bnd 72 0 o.rules.length <|
 .br (decide ((i8.2.2:Int) < ((o.rules.length:Nat):Int)))
 (.r 20 (.p (ixP (i8.2.2:Int) o.rules.length)) fun _ =>
 .r 21 ((term_Check_k ((o.rules.getD i8.2.2 default).term)).c) fun x9 =>
 .r 22 (.wh (((decide (((o.rules.getD i8.2.2 default).ask)≤i8.2.1))||(decide (((o.rules.getD i8.2.2 default).ask)≥22)))||(x9.2 == 6)) false ((rule_shaped_k ((o.rules.getD i8.2.2 default).term)).c)) fun x10 =>
 .br ((((decide (((o.rules.getD i8.2.2 default).ask)≤i8.2.1))||(decide (((o.rules.getD i8.2.2 default).ask)≥22)))||(x9.2 == 6))||(!x10))
 (.fin (.inl (.inl ((⟨#[]⟩:ByteArray),false))))
 (.r 25 (.dep rule_Questions_k.c fun x11=>.andl (.p (ixP ((o.rules.getD i8.2.2 default).ask) x11.length)) (.andl (.p ((((⟨#[32,114,117,108,101,32]⟩:ByteArray).size+(x11.getD (((o.rules.getD i8.2.2 default).ask).toNat) default).size:Nat):Int)≤IntKind.i64.max)) (.andl (.p (((((⟨#[32,114,117,108,101,32]⟩:ByteArray)++(x11.getD (((o.rules.getD i8.2.2 default).ask).toNat) default)).size+(⟨#[32,61,32]⟩:ByteArray).size:Nat):Int)≤IntKind.i64.max)) (.depr ((rule_written_k ((o.rules.getD i8.2.2 default).term)).c) fun x12=>.andl (.p ((((((⟨#[32,114,117,108,101,32]⟩:ByteArray)++(x11.getD (((o.rules.getD i8.2.2 default).ask).toNat) default))++(⟨#[32,61,32]⟩:ByteArray)).size+x12.size:Nat):Int)≤IntKind.i64.max)) (.andl (.p (((((((⟨#[32,114,117,108,101,32]⟩:ByteArray)++(x11.getD (((o.rules.getD i8.2.2 default).ask).toNat) default))++(⟨#[32,61,32]⟩:ByteArray))++x12).size+(⟨#[32,59]⟩:ByteArray).size:Nat):Int)≤IntKind.i64.max)) (.p (((i8.1.size+(((((⟨#[32,114,117,108,101,32]⟩:ByteArray)++(x11.getD (((o.rules.getD i8.2.2 default).ask).toNat) default))++(⟨#[32,61,32]⟩:ByteArray))++x12)++(⟨#[32,59]⟩:ByteArray)).size:Nat):Int)≤IntKind.i64.max))))))) fun p13 =>
 .r 26 .z fun _ =>
 .wi 74 (w64 ((i8.2.2:Int)+1)) ((i8.2.2+1:Nat):Int) <|
 .fin (.inr (i8.1++(((((⟨#[32,114,117,108,101,32]⟩:ByteArray)++(p13.1.getD (((o.rules.getD i8.2.2 default).ask).toNat) default))++(⟨#[32,61,32]⟩:ByteArray))++p13.2)++(⟨#[32,59]⟩:ByteArray)),(o.rules.getD i8.2.2 default).ask,i8.2.2+1))))
 (.fin (.inl (.inr i8.1))))
 (fun (b7:ByteArray)=>⟨[(4,sv b7)],[]⟩) fun b7 =>
 .r 27 (.p (((b7.size+(⟨#[32,125]⟩:ByteArray).size:Nat):Int)≤IntKind.i64.max)) fun _ =>
 .fin (b7++(⟨#[32,125]⟩:ByteArray),true)
noncomputable def rule_text (o:Order):ByteArray × Bool:=(rule_text_sk o).val
theorem rule_text_pst (o:Order) (hP:o.name.size≤20000):(rule_text_sk o).pst (fun (x:ByteArray × Bool)=>x.1.size≤10000010):=by
 refine Sk.pst_of _ ?_
 unfold rule_text_sk
 simp only [Sk.pstq,Sk.isLoop,reduceCtorEq,ON,kk,rule_Questions_k,rule_Factors_k,term_Check_k,rule_shaped_k,rule_written_k,maxLen]
 have hmax:IntKind.i64.max=9223372036854775807:=by decide
 have s1:(⟨#[111,114,100,101,114,32]⟩:ByteArray).size=6:=rfl
 have s2:(⟨#[32,97,99,99,101,112,116,115]⟩:ByteArray).size=8:=rfl
 have s3:(⟨#[32,123]⟩:ByteArray).size=2:=rfl
 have s4:(⟨#[32,99,104,111,111,115,101,32]⟩:ByteArray).size=8:=rfl
 have s5:(⟨#[32,58,32]⟩:ByteArray).size=3:=rfl
 have s6:(⟨#[32,119,104,111,108,101]⟩:ByteArray).size=6:=rfl
 have s7:(⟨#[32,59]⟩:ByteArray).size=2:=rfl
 have s8:(⟨#[32,114,117,108,101,32]⟩:ByteArray).size=6:=rfl
 have s9:(⟨#[32,61,32]⟩:ByteArray).size=3:=rfl
 have s10:(⟨#[32,125]⟩:ByteArray).size=2:=rfl
 have vq:=quest_len
 have vf:=fact_len
 have s0:(⟨#[]⟩:ByteArray).size=0:=rfl
 refine fun _=>⟨⟨fun _ _=>?_,fun _=>?_⟩,fun b _ hb _=>⟨⟨⟨by omega,by omega,by omega,?_⟩,fun i hi=>⟨fun hc _=>?_,fun hc=>?_⟩⟩,fun b2 hb2=>⟨⟨⟨by omega,by omega,by omega,?_⟩,fun i hi=>⟨fun hc=>?_,fun hc=>?_⟩⟩,fun b7 hb7 _=>?_⟩⟩⟩
 ·simp only [ByteArray.size_append]; omega
 ·simp only [ByteArray.size_append]; omega
 ·simp only [ByteArray.size_append]; omega
 ·have hc:=of_decide_eq_true hc
  have q:=quest_size (o.choices.getD i.2.2 default).ask.toNat
  have f:=fact_size (o.choices.getD i.2.2 default).by_.toNat
  refine ⟨fun _=>by omega,fun hcond x hx=>?_⟩
  simp only [LN] at hcond
  subst hx
  simp only [ByteArray.size_append]
  exact ⟨fun _ _ _ _=>⟨⟨by omega,by omega,by omega,by omega⟩,by omega⟩,fun _ _ _=>⟨⟨by omega,by omega,by omega,by omega⟩,by omega⟩⟩
 ·omega
 ·omega
 ·have hc:=of_decide_eq_true hc
  have q:=quest_size (o.rules.getD i.2.2 default).ask.toNat
  intro _ x hx hp b hb hbp
  refine ⟨fun _=>by omega,fun hcond y hy hw _=>?_⟩
  simp only [LN] at hcond
  have hwr:(o.rules.getD i.2.2 default).term.Wr:=hbp (by grind)
  have hdp:(o.rules.getD i.2.2 default).term.depth≤8:=hp.2 (by grind)
  have hw:=hw ⟨hwr,hdp⟩
  subst hy
  simp only [ByteArray.size_append] at hw ⊢
  exact ⟨⟨by omega,by omega,by omega,by omega⟩,by omega⟩
 ·omega
 ·simp only [ByteArray.size_append]; omega
theorem rule_text_post (o:Order):(fun (x:ByteArray × Bool)=>(o.name.size≤20000)→(x.1.size≤10000010)) (rule_text o):=fun hP=>have h:=Sk.pval _ (rule_text_pst o hP); h
theorem rule_text_ok (o:Order) (hn:o.name.size≤20000):(rule_text_sk o).obs (fun _=>True):=by
 refine Sk.obs_of _ ?_
 unfold rule_text_sk
 simp only [Sk.obq,Sk.isLoop,reduceCtorEq,ON,kk,rule_Questions_k,rule_Factors_k,term_Check_k,rule_shaped_k,rule_written_k,maxLen]
 have hmax:IntKind.i64.max=9223372036854775807:=by decide
 have s1:(⟨#[111,114,100,101,114,32]⟩:ByteArray).size=6:=rfl
 have s2:(⟨#[32,97,99,99,101,112,116,115]⟩:ByteArray).size=8:=rfl
 have s3:(⟨#[32,123]⟩:ByteArray).size=2:=rfl
 have s4:(⟨#[32,99,104,111,111,115,101,32]⟩:ByteArray).size=8:=rfl
 have s5:(⟨#[32,58,32]⟩:ByteArray).size=3:=rfl
 have s6:(⟨#[32,119,104,111,108,101]⟩:ByteArray).size=6:=rfl
 have s7:(⟨#[32,59]⟩:ByteArray).size=2:=rfl
 have s8:(⟨#[32,114,117,108,101,32]⟩:ByteArray).size=6:=rfl
 have s9:(⟨#[32,61,32]⟩:ByteArray).size=3:=rfl
 have s10:(⟨#[32,125]⟩:ByteArray).size=2:=rfl
 have vq:=quest_len
 have vf:=fact_len
 refine ⟨by omega,fun _=>⟨⟨fun _=>⟨?_,fun _=>?_⟩,fun _=>?_⟩,fun b _ hb=>⟨by omega,fun _=>⟨⟨⟨by omega,by omega,by omega,?_⟩,fun i hi hbnd=>⟨fun hc=>?_,fun hc=>?_⟩⟩,fun b2 hb2=>⟨⟨⟨by omega,by omega,by omega,?_⟩,fun i hi hbnd=>⟨fun hc=>?_,fun hc=>?_⟩⟩,fun b7 hb7=>?_⟩⟩⟩⟩⟩
 ·simp only [ByteArray.size_append]; omega
 ·simp only [ByteArray.size_append]; omega
 ·simp only [ByteArray.size_append]; omega
 ·simp only [ByteArray.size_append]; omega
 ·have hc:=of_decide_eq_true hc
  have q:=quest_size (o.choices.getD i.2.2 default).ask.toNat
  have f:=fact_size (o.choices.getD i.2.2 default).by_.toNat
  have hw64:w64 (((i.2.2:Nat):Int)+1)=((i.2.2+1:Nat):Int):=by rw [w64_id (by omega) (by omega)]; omega
  refine ⟨⟨by omega,by omega⟩,fun _ hcond=>?_⟩
  simp only [LN] at hcond
  refine ⟨fun x hx=>?_,fun x hx=>?_⟩
  ·subst hx
   simp only [ByteArray.size_append]
   refine ⟨⟨by omega,by omega⟩,by omega,by omega,fun x hx=>?_⟩
   subst hx
   exact ⟨⟨by omega,by omega⟩,by omega,by omega⟩
  ·subst hx
   simp only [ByteArray.size_append]
   refine ⟨fun _=>⟨by omega,fun _=>⟨by omega,fun _ _=>⟨hw64,⟨by omega,by omega,by omega,by omega⟩,by omega⟩⟩⟩,fun _=>⟨by omega,fun _ _=>⟨hw64,⟨by omega,by omega,by omega,by omega⟩,by omega⟩⟩⟩
 ·omega
 ·omega
 ·have hc:=of_decide_eq_true hc
  have q:=quest_size (o.rules.getD i.2.2 default).ask.toNat
  have hw64:w64 (((i.2.2:Nat):Int)+1)=((i.2.2+1:Nat):Int):=by rw [w64_id (by omega) (by omega)]; omega
  refine ⟨⟨by omega,by omega⟩,fun _ x hx hp b hb hbp hcond=>?_⟩
  simp only [LN] at hcond
  have hwr:(o.rules.getD i.2.2 default).term.Wr:=hbp (by grind)
  have hdp:(o.rules.getD i.2.2 default).term.depth≤8:=hp.2 (by grind)
  refine ⟨fun y hy=>?_,fun y hy hw _=>?_⟩
  ·subst hy
   simp only [ByteArray.size_append]
   refine ⟨⟨by omega,by omega⟩,by omega,by omega,⟨hwr,by omega⟩,fun z hz hw=>?_⟩
   have hw:=hw ⟨hwr,hdp⟩
   exact ⟨by omega,by omega,by omega⟩
  ·have hw:=hw ⟨hwr,hdp⟩
   subst hy
   simp only [ByteArray.size_append] at hw ⊢
   exact ⟨hw64,⟨by omega,by omega,by omega,by omega⟩,by omega⟩
 ·omega
 ·omega
noncomputable def rule_text_k (o:Order):Ctr (ByteArray × Bool):=kk tok mixed Tryz.func29 [av o.cells] (fun x=>.tup [sv x.1,bv x.2]) true (rule_text_sk o) (rule_text o) (fun (h:(o.name.size≤20000))=>rule_text_ok o h) (fun (x:ByteArray × Bool)=>(o.name.size≤20000)→(x.1.size≤10000010)) (rule_text_post o)
noncomputable def rule_Print_c1_sk (x_:Order) (v:Order):Sk (Bool) :=
 .fin (x_.name.toList == v.name.toList)
noncomputable def rule_Print_c1 (x_:Order) (v:Order):Bool:=(rule_Print_c1_sk x_ v).val
theorem rule_Print_c1_eq (x_:Order) (v:Order):rule_Print_c1 x_ v=(x_.name.toList == v.name.toList):=rfl
theorem rule_Print_c1_ok (x_:Order) (v:Order):(rule_Print_c1_sk x_ v).obs (fun _=>True):=by
 unfold rule_Print_c1_sk
 exact okE
noncomputable def rule_Print_c1_k (x_:Order) (v:Order):Ctr (Bool):=kk tok mixed Tryz.func32 [av x_.cells,.ref v.cells] (fun x=>bv x) true (rule_Print_c1_sk x_ v) (rule_Print_c1 x_ v) (fun (_:True)=>rule_Print_c1_ok x_ v)
noncomputable def slices_IndexFunc_32_sk (s:List Order) (v:Order):Sk (Int) :=
 .bind true (fun b1=>∀ q,q < s.length→rule_Print_c1 (s.getD q default) v=false)
 (.loop (default:Sum (Int) (Unit)) (fun i2=>∀ q,q < i2→rule_Print_c1 (s.getD q default) v=false) (fun i2=>s.length - i2) (0:Nat)
 (fun (i2:Nat)=>⟨[(8,iv (i2:Int))],[]⟩) fun i2 =>
 .bnd 0 0 s.length <|
 .br (decide ((i2:Int) < ((s.length:Nat):Int)))
 (.r 4 (.andl (.p (ixP (i2:Int) s.length)) ((rule_Print_c1_k (s.getD i2 default) v).c)) fun x3 =>
 .br x3
 (.fin (.inl (.inl (i2:Int))))
 (.r 6 .z fun _ =>
 .wi 8 (w64 ((i2:Int)+1)) ((i2+1:Nat):Int) <|
 .fin (.inr (i2+1))))
 (.fin (.inl (.inr ()))))
 (fun (_:Unit)=>⟨[],[]⟩) fun _ =>
 .fin (-1)
noncomputable def slices_IndexFunc_32 (s:List Order) (v:Order):Int:=(slices_IndexFunc_32_sk s v).val
theorem slices_IndexFunc_32_pst (s:List Order) (v:Order):(slices_IndexFunc_32_sk s v).pst (fun (x:Int)=>(x = -1∧∀ q,q < s.length→rule_Print_c1 (s.getD q default) v=false)∨(0≤x∧x < s.length∧rule_Print_c1 (s.getD x.toNat default) v=true∧∀ q,(q:Nat) < x.toNat→rule_Print_c1 (s.getD q default) v=false)):=by
 unfold slices_IndexFunc_32_sk
 try simp only [rule_Print_c1_k,rule_Print_c1_eq]
 exact okQ
theorem slices_IndexFunc_32_post (s:List Order) (v:Order):(fun (x:Int)=>(x = -1∧∀ q,q < s.length→rule_Print_c1 (s.getD q default) v=false)∨(0≤x∧x < s.length∧rule_Print_c1 (s.getD x.toNat default) v=true∧∀ q,(q:Nat) < x.toNat→rule_Print_c1 (s.getD q default) v=false)) (slices_IndexFunc_32 s v):=have h:=Sk.pval _ (slices_IndexFunc_32_pst s v); h
theorem slices_IndexFunc_32_ok (s:List Order) (v:Order):(slices_IndexFunc_32_sk s v).obs (fun _=>True):=by
 unfold slices_IndexFunc_32_sk
 try simp only [rule_Print_c1_k,rule_Print_c1_eq]
 exact okG
noncomputable def slices_IndexFunc_32_k (s:List Order) (v:Order):Ctr (Int):=kk tok mixed Tryz.func69 [lv Order.cells s,.fn 32 [.ref v.cells]] (fun x=>iv x) true (slices_IndexFunc_32_sk s v) (slices_IndexFunc_32 s v) (fun (_:True)=>slices_IndexFunc_32_ok s v) (fun (x:Int)=>(x = -1∧∀ q,q < s.length→rule_Print_c1 (s.getD q default) v=false)∨(0≤x∧x < s.length∧rule_Print_c1 (s.getD x.toNat default) v=true∧∀ q,(q:Nat) < x.toNat→rule_Print_c1 (s.getD q default) v=false)) (slices_IndexFunc_32_post s v)
noncomputable def slices_ContainsFunc_32_sk (s:List Order) (v:Order):Sk (Bool) :=
 .r 1 ((slices_IndexFunc_32_k s v).c) fun x1 =>
 .fin (decide (x1≥0))
noncomputable def slices_ContainsFunc_32 (s:List Order) (v:Order):Bool:=(slices_ContainsFunc_32_sk s v).val
theorem slices_ContainsFunc_32_pst (s:List Order) (v:Order):(slices_ContainsFunc_32_sk s v).pst (fun (x:Bool)=>(x=true↔∃ q,q < s.length∧rule_Print_c1 (s.getD q default) v=true)):=by
 unfold slices_ContainsFunc_32_sk
 try simp only [slices_IndexFunc_32_k]
 exact okP
theorem slices_ContainsFunc_32_post (s:List Order) (v:Order):(fun (x:Bool)=>(x=true↔∃ q,q < s.length∧rule_Print_c1 (s.getD q default) v=true)) (slices_ContainsFunc_32 s v):=have h:=Sk.pval _ (slices_ContainsFunc_32_pst s v); h
theorem slices_ContainsFunc_32_ok (s:List Order) (v:Order):(slices_ContainsFunc_32_sk s v).obs (fun _=>True):=by
 unfold slices_ContainsFunc_32_sk
 try simp only [slices_IndexFunc_32_k]
 exact okE
noncomputable def slices_ContainsFunc_32_k (s:List Order) (v:Order):Ctr (Bool):=kk tok mixed Tryz.func31 [lv Order.cells s,.fn 32 [.ref v.cells]] (fun x=>bv x) true (slices_ContainsFunc_32_sk s v) (slices_ContainsFunc_32 s v) (fun (_:True)=>slices_ContainsFunc_32_ok s v) (fun (x:Bool)=>(x=true↔∃ q,q < s.length∧rule_Print_c1 (s.getD q default) v=true)) (slices_ContainsFunc_32_post s v)
end Go.Proofs.YtgibnoahjhfmcaaGreatDoor
