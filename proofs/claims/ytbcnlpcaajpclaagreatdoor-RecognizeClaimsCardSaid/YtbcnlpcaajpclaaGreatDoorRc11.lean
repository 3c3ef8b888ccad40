/- A function by hand. -/
import Derived.Test.YtbcnlpcaajpclaaGreatDoorRc10
import Derived.Test.YtbcnlpcaajpclaaGreatDoorAvYl
namespace Go.Proofs.YtbcnlpcaajpclaaGreatDoor
open Go Go.Av
set_option linter.unusedSimpArgs false
set_option linter.unusedVariables false
set_option maxHeartbeats 1000000
set_option maxRecDepth 100000
/-- may the signature i be an endorsement of a part,on a day? -/
noncomputable def endOk (f:File) (day part:Int) (i:Nat):Bool :=
  ((((f.signs.getD i default).kind == 2)&&((f.signs.getD i default).part == part))&&decide ((f.signs.getD i default).day≤day))&&!(mget (title_struck f day) ((i:Nat):Int) false)
noncomputable def title_endorsements_c1 (f:File) (day part:Int):List (Int × Sign):=((List.range f.signs.length).filter (endOk f day part)).map fun i=>(((i:Nat):Int),f.signs.getD i default)
def endEnc (y:Int × Sign):List AV:=[iv y.1,av y.2.cells]
noncomputable def endB:Code:=Tryz.f210.body.getD .skip
noncomputable def endL:Code:=cA (cA (cB (cB endB)))
noncomputable def endB1:Code:=cA (cB (cB endL))
noncomputable def endOps:Array Oper:=opsOf (cA (cB (cA endB1)))
noncomputable def endI (f:File) (day part:Int) (m:List (Int × Bool)) (i:Nat):List (Nat × AV):=[(2,.ref [dI day]),(3,.ref [dI part]),(5,pmM dB m),(12,lv Sign.cells f.signs),(13,iv ((f.signs.length:Nat):Int)),(14,iv ((i:Nat):Int))]
noncomputable def endCnt (f:File) (day part:Int) (i:Nat):Nat:=((List.range i).filter (endOk f day part)).length
noncomputable def endK:List Item:=[.code (cB (cB (cA endB1))),.inBlock 1,.code (cB (cB (cB endL))),.inLoop endL,.inBlock 0]

theorem endCnt_get (f:File) (day part:Int) {i:Nat} (hi:i < f.signs.length) (h:endOk f day part i=true):((title_endorsements_c1 f day part).map endEnc)[endCnt f day part i]? = some (endEnc (((i:Nat):Int),f.signs.getD i default)):=by
  have e:List.range f.signs.length=List.range i++i :: (List.range' (i+1) (f.signs.length - i - 1)):=by
    rw [List.range_eq_range',List.range_eq_range']
    have h1:=List.range'_append (s:=0) (m:=i) (n:=f.signs.length - i) (step:=1)
    have h2:f.signs.length - i=(f.signs.length - i - 1)+1:=by omega
    rw [show f.signs.length=i+(f.signs.length - i) by omega,← h1,h2,List.range'_succ]
    simp
  unfold title_endorsements_c1 endCnt
  rw [e,List.filter_append,List.filter_cons_of_pos h]
  simp

theorem endCnt_succ (f:File) (day part:Int) (i:Nat):endCnt f day part (i+1)=bif endOk f day part i then endCnt f day part i+1 else endCnt f day part i:=by
  unfold endCnt
  rw [List.range_succ,List.filter_append]
  cases h:endOk f day part i <;> simp [h]

noncomputable def endO (q:Nat):Oper:=endOps.getD q default
noncomputable def endJ (f:File) (day part:Int) (i:Nat) (sl:List (Nat × AV)):St:=⟨sl++[(6,iv ((i:Nat):Int)),(7,.ptr 7 0)]++endI f day part (title_struck f day) i,[(7,.box ((f.signs.getD i default).cells.map .d))]⟩
noncomputable def endS1 (f:File) (i:Nat):Sk Bool :=
  .bnd 12 0 f.signs.length <| .br (decide (((i:Nat):Int) < ((f.signs.length:Nat):Int))) (.r 3 (.p (ixP ((i:Nat):Int) f.signs.length)) fun _=>.fin true) (.fin false)
noncomputable def endS2 (f:File) (i:Nat):Sk Unit :=
  .bnd 12 0 f.signs.length <| .brf <| .r 5 .z fun _=>.wi 14 (w64 (((i:Nat):Int)+1)) ((i+1:Nat):Int) <| .fin ()
noncomputable def endCal (f:File) (day part:Int) (i:Nat):Cal Unit :=
  .wh ((((f.signs.getD i default).kind == 2)&&((f.signs.getD i default).part == part))&&decide ((f.signs.getD i default).day≤day)) true (.andl (.t (keysM dB (title_struck f day))) (.o [.cast 37 (getM dB (title_struck f day) ((i:Nat):Int) false)]))

theorem title_endorsements_c1_itA (f:File) (day part:Int):ItA Tryz.prog 210 [.ref f.cells,.ref [dI day],.ref [dI part]] ((title_endorsements_c1 f day part).map endEnc):=by
  refine ItA.intro (T:=TT) Tryz.func210 rfl (by kernel_rfl) (Nat.le_of_ble_eq_true (by kernel_rfl)) (fun X=>?_)
  have hr4:cA (cB (cA endB1))=.region 4 endOps false:=by kernel_rfl
  have hrg:List.range' 22 (endOps.size - 22)=[22,23,24,25,26,27]:=by kernel_rfl
  have key:∀ d i,i+d=f.signs.length→G (X.g TT Tryz.f210 (X.H (endCnt f day part i))) [.code endL,.inLoop endL,.inBlock 0] ⟨endI f day part (title_struck f day) i,[]⟩:=by
    intro d
    induction d with
    | zero =>
      intro i hi
      refine ItX.sk tok mixed Tryz.func210 _ (endS1 f i) (fun b=>bif b then .go (.code (cA (cB (cA endB1))) :: endK) (endJ f day part i []) else .go [] ⟨[],[]⟩) 100 (by kernel_rfl) ?_ ?_
      · refine Sk.obs_of _ ?_
        simp only [endS1,Sk.obq,Cal.p,ixP,implies_true,and_true]
        intro h hd
        simp at hd
        omega
      · intro a ha
        have:(endS1 f i).val=false:=by simp only [endS1,Sk.val]; simp; omega
        rw [this] at ha
        subst ha
        refine (ItX.ret Tryz.func210 (by kernel_rfl) (fun C h=>.inl ?_)).1
        have e:endCnt f day part i=((title_endorsements_c1 f day part).map endEnc).length:=by
          have:i=f.signs.length:=by omega
          subst this
          simp [endCnt,title_endorsements_c1]
        rw [← e]
        exact h
    | succ d ih =>
      intro i hi
      have hlt:i < f.signs.length:=by omega
      refine ItX.sk tok mixed Tryz.func210 _ (endS1 f i) (fun b=>bif b then .go (.code (cA (cB (cA endB1))) :: endK) (endJ f day part i []) else .go [] ⟨[],[]⟩) 100 (by kernel_rfl) ?_ ?_
      · refine Sk.obs_of _ ?_
        simp only [endS1,Sk.obq,Cal.p,ixP,implies_true,and_true]
        intro _ _
        omega
      · intro a ha
        have:(endS1 f i).val=true:=by simp only [endS1,Sk.val]; simp; omega
        rw [this] at ha
        subst ha
        show G _ _ _
        rw [hr4]
        -- behind the yield
        have next:∀ st,LeS st ⟨(46,bv false) :: endI f day part (title_struck f day) i,[]⟩→G (X.g TT Tryz.f210 (X.H (endCnt f day part (i+1)))) endK st:=by
          intro st hst
          refine .le hst ?_
          refine ItX.sk tok mixed Tryz.func210 _ (endS2 f i) (fun _=>.go [.inLoop endL,.inBlock 0] ⟨endI f day part (title_struck f day) (i+1),[]⟩) 100 (by kernel_rfl) ?_ (fun _ _=>.inLoop (ih (i+1) (by omega)))
          refine Sk.obs_of _ ?_
          simp only [endS2,Sk.obq,Cal.z,maxLen,implies_true,and_true]
          intro h
          refine ⟨trivial,fun _ _ _=>?_⟩
          refine (w64_id ?_ ?_).trans ?_ <;> omega
        refine G.yr ?_
        refine YW.preC tok mixed (endCal f day part i) 22 (fun _=>endJ f day part i [(40,bv (endOk f day part i))]) (by kernel_rfl) (Nat.le_of_ble_eq_true (by kernel_rfl)) (fun _=>by kernel_rfl) ?_ ?_
        · simp [endCal,Cal.wh,Cal.andl,Cal.t,Cal.o]
        rw [hrg]
        refine YW.know (s:=40) (b:=endOk f day part i) rfl (Nat.le_of_ble_eq_true (by kernel_rfl)) ?_
        have hcs:=endCnt_succ f day part i
        cases he:endOk f day part i with
        | true =>
          rw [he,cond_true] at hcs
          refine YW.mvC (o:=endO 22) (d:=41) (u:=0) (by kernel_rfl) (by kernel_rfl) (by kernel_rfl) (by simp) (by kernel_rfl) ?_
          refine YW.opC tok mixed (o:=endO 23) (endJ f day part i [(42,iv ((i:Nat):Int))]) (by kernel_rfl) (by kernel_rfl) (by kernel_rfl) ?_
          refine YW.opC tok mixed (o:=endO 24) (endJ f day part i [(43,av (f.signs.getD i default).cells),(42,iv ((i:Nat):Int))]) (by kernel_rfl) (by kernel_rfl) (by kernel_rfl) ?_
          refine YW.ylC (o:=endO 25) (d:=44) (u:=41) (n:=endCnt f day part i) (ts:=[42,43]) (c:={ callee:=.value (.tmp 41),args:=#[.tmp 42,.tmp 43],argTypes:=#[3,91] }) (by kernel_rfl) (by kernel_rfl) (by kernel_rfl) rfl (by simp) (by kernel_rfl) (endCnt_get f day part hlt he) rfl (by kernel_rfl) (by kernel_rfl) ?_ ?_
          · refine YW.opC tok mixed (o:=endO 26) (endJ f day part i [(45,bv false)]) (by kernel_rfl) (by kernel_rfl) (by kernel_rfl) ?_
            refine YW.pickC (o:=endO 27) (d:=46) (x:=.tmp 45) (y:=.const (.bool false)) false (by kernel_rfl) (by kernel_rfl) (by kernel_rfl) (by kernel_rfl) (by kernel_rfl) ?_
            refine YW.nil (T:=TT) (fn:=Tryz.f210) (by simp) ?_
            rw [← hcs]
            exact next _ (leSt_of (by kernel_rfl))
          · refine YW.opC tok mixed (o:=endO 26) (endJ f day part i [(45,bv true)]) (by kernel_rfl) (by kernel_rfl) (by kernel_rfl) ?_
            refine YW.pickC (o:=endO 27) (d:=46) (x:=.tmp 45) (y:=.const (.bool false)) true (by kernel_rfl) (by kernel_rfl) (by kernel_rfl) (by kernel_rfl) (by kernel_rfl) ?_
            refine YW.nil (T:=TT) (fn:=Tryz.f210) (by simp) ?_
            refine ItX.sk tok mixed Tryz.func210 _ (.brt (.fin ()):Sk Unit) (fun _=>.go (.code .ret :: endK.tail) ⟨[],[]⟩) 100 (by kernel_rfl) trivial (fun _ _=>(ItX.ret Tryz.func210 (by kernel_rfl) (fun C h=>.inr h)).2 _)
        | false =>
          rw [he,cond_false] at hcs
          refine YW.skipC (o:=endO 22) (d:=41) (by kernel_rfl) (by kernel_rfl) (by kernel_rfl) ?_
          refine YW.skipC (o:=endO 23) (d:=42) (by kernel_rfl) (by kernel_rfl) (by kernel_rfl) ?_
          refine YW.skipC (o:=endO 24) (d:=43) (by kernel_rfl) (by kernel_rfl) (by kernel_rfl) ?_
          refine YW.skipC (o:=endO 25) (d:=44) (by kernel_rfl) (by kernel_rfl) (by kernel_rfl) ?_
          refine YW.skipC (o:=endO 26) (d:=45) (by kernel_rfl) (by kernel_rfl) (by kernel_rfl) ?_
          refine YW.pickC (o:=endO 27) (d:=46) (x:=.tmp 45) (y:=.const (.bool false)) false (by kernel_rfl) (by kernel_rfl) (by kernel_rfl) (by kernel_rfl) (by kernel_rfl) ?_
          refine YW.nil (T:=TT) (fn:=Tryz.f210) (by simp) ?_
          rw [← hcs]
          exact next _ (leSt_of (by kernel_rfl))
  refine ItX.sk tok mixed Tryz.func210 _ (.r 0 ((title_struck_k f day).c) fun m=>.r 1 .z fun _=>.fin m:Sk (List (Int × Bool))) (fun m=>.go [.code (.loop endL),.inBlock 0] ⟨endI f day part m 0,[]⟩) 100 (by kernel_rfl) ?_ (fun m hm=>?_)
  · refine Sk.obs_of _ ?_
    simp [Sk.obq,Cal.z,Ctr.c,kk,title_struck_k]
  · have hm:m=title_struck f day:=hm
    subst hm
    exact .loopIn (key f.signs.length 0 (by omega))
noncomputable def title_endorsements_c1_it (f:File) (day part:Int):ItC (Int × Sign):=⟨Tryz.prog,210,[.ref f.cells,.ref [dI day],.ref [dI part]],title_endorsements_c1 f day part,endEnc,True,fun _=>title_endorsements_c1_itA f day part⟩
end Go.Proofs.YtbcnlpcaajpclaaGreatDoor
namespace Go.Proofs.YtbcnlpcaajpclaaGreatDoor
open Go Go.Av
set_option linter.unusedSimpArgs false
set_option linter.unusedVariables false
set_option maxHeartbeats 1000000
set_option maxRecDepth 100000
noncomputable def title_right_sk (before:Int) (flags:Int):Sk (Int) :=
 .br (((andK .i64 flags 2) != 0)||(before != 0))
 (.fin 1)
 (.br ((andK .i64 flags 4) != 0)
 (.fin 2)
 (.fin 0))
noncomputable def title_right (before:Int) (flags:Int):Int:=(title_right_sk before flags).val
theorem title_right_ok (before:Int) (flags:Int):(title_right_sk before flags).obs (fun _=>True):=by
  unfold title_right_sk
  exact okE

noncomputable def title_right_k (before:Int) (flags:Int):Ctr (Int):=kk tok mixed Tryz.func156 [iv before,iv flags] (fun x=>iv x) true (title_right_sk before flags) (title_right before flags) (fun (_:True)=>title_right_ok before flags)
theorem ends_len (f:File) (day part:Int):(title_endorsements_c1 f day part).length≤f.signs.length:=by
  unfold title_endorsements_c1
  rw [List.length_map]
  exact Nat.le_trans (List.length_filter_le _ _) (by simp)
theorem ends_mem {f:File} {day part:Int} {i:Nat} {y:Int × Sign} (h:(title_endorsements_c1 f day part)[i]? = some y):i < f.signs.length∧0≤y.1∧y.1 < f.signs.length∧y.2=f.signs.getD y.1.toNat default∧y.2.kind=2∧y.2.part=part∧y.2.day≤day∧mget (title_struck f day) y.1 false=false:=by
  have h1:=(List.getElem?_eq_some_iff.1 h).1
  have h2:=List.mem_of_getElem? h
  have h3:=ends_len f day part
  unfold title_endorsements_c1 at h2
  obtain ⟨q,hq,rfl⟩:=List.mem_map.1 h2
  rw [List.mem_filter,List.mem_range] at hq
  obtain ⟨hq1,hq2⟩:=hq
  unfold endOk at hq2
  simp only [Bool.and_eq_true,beq_iff_eq,decide_eq_true_eq,Bool.not_eq_true'] at hq2
  exact ⟨by omega,by omega,by omega,rfl,hq2.1.1.1,hq2.1.1.2,hq2.1.2,hq2.2⟩
noncomputable def title_Chain_sk (f:File) (part:Int) (day:Int):Sk (Chain) :=
 .r 2 ((title_dishonoured_k f day).c) fun x1 =>
 .r 3 ((title_endorsements_k f part day).c) fun _ =>
 .rf (title_endorsements_c1_it f day part) (fun ki3 i3=>i3.1.length≤ki3∧i3.2.2.2.2.length≤ki3∧∀ y,y∈i3.1→0≤y∧y < (f.signs.length:Int)∧(f.signs.getD y.toNat default).day≤day) (fun e5=>e5.1.length≤f.signs.length∧∀ y,y∈e5.1→0≤y∧y < (f.signs.length:Int)∧(f.signs.getD y.toNat default).day≤day) 0 (([],f.bill.payee,f.bill.payee == (-1),0,[]):(List Int) × Int × Bool × Int × (List Int))
 (fun (i3:(List Int) × Int × Bool × Int × (List Int))=>[(100000,rowB 3 1 intC i3.1),(100001,rowB 3 1 intC i3.2.2.2.2),(7,.box ([ow 100000 i3.1]++[iv i3.2.1,iv (-1),bv i3.2.2.1,iv i3.2.2.2.1,ow 100001 i3.2.2.2.2]))]) (fun (e5:(List Int) × Int × Int × Bool × Int × (List Int))=>[(100002,rowB 3 1 intC e5.1),(100003,rowB 3 1 intC e5.2.2.2.2.2),(7,.box ([ow 100002 e5.1]++[iv e5.2.1,iv e5.2.2.1,bv e5.2.2.2.1,iv e5.2.2.2.2.1,ow 100003 e5.2.2.2.2.2]))])
 (fun i3 y4 =>
 .br ((!i3.2.2.1)&&(y4.2.who != i3.2.1))
 (.fin (.inl (i3.1,i3.2.1,y4.1,i3.2.2.1,i3.2.2.2.1,i3.2.2.2.2)))
 (.r 8 (.andl (.o [.nrm (litC intE [y4.1])]) (.andl (.o [.nrm (catC intE i3.1 [y4.1])]) (.andl (.t (intE.ones [y4.1])) (.p (szP i3.1.length [y4.1].length 8))))) fun _ =>
 .r 9 ((title_right_k i3.2.2.2.1 y4.2.flags).c) fun x6 =>
 .br (x1.2&&(decide (y4.2.day > x1.1)))
 (.r 11 (.andl (.o [.nrm (litC intE [y4.1])]) (.andl (.o [.nrm (catC intE i3.2.2.2.2 [y4.1])]) (.andl (.t (intE.ones [y4.1])) (.p (szP i3.2.2.2.2.length [y4.1].length 8))))) fun _ =>
 .fin (.inr (i3.1++[y4.1],y4.2.to_,y4.2.to_ == (-1),x6,i3.2.2.2.2++[y4.1])))
 (.fin (.inr (i3.1++[y4.1],y4.2.to_,y4.2.to_ == (-1),x6,i3.2.2.2.2))))) fun r=>match r with
 | .inl e5=>(.fin ({ signs:=e5.1,holder:=e5.2.1,broken:=e5.2.2.1,bearer:=e5.2.2.2.1,agent:=e5.2.2.2.2.1,late:=e5.2.2.2.2.2 }:Chain))
 | .inr j7=>(.fin ({ signs:=j7.1,holder:=j7.2.1,broken:=(-1),bearer:=j7.2.2.1,agent:=j7.2.2.2.1,late:=j7.2.2.2.2 }:Chain))
noncomputable def title_Chain (f:File) (part:Int) (day:Int):Chain:=(title_Chain_sk f part day).val
theorem title_Chain_pst (f:File) (part:Int) (day:Int):(title_Chain_sk f part day).pst (fun (x:Chain)=>x.signs.length≤f.signs.length∧∀ y,y∈x.signs→0≤y∧y < (f.signs.length:Int)∧(f.signs.getD y.toNat default).day≤day):=by
  refine Sk.pst_of _ ?_
  unfold title_Chain_sk
  simp only [Sk.pstq,Sk.isLoop,reduceCtorEq,ON,kk,title_dishonoured_k,title_endorsements_k,title_right_k,title_endorsements_c1_it,Sum.forall,title_endorsements_eq,forall_eq,maxLen]
  refine fun _=>⟨⟨by simp,by simp,fun y h=>by cases h⟩,fun i s y hs hy=>?_,fun a ha=>ha,fun b hb=>⟨Nat.le_trans hb.1 (ends_len _ _ _),hb.2.2⟩⟩
  have hm:=ends_mem hy
  have hnew:∀ z,z∈s.1++[y.1]→0≤z∧z < (f.signs.length:Int)∧(f.signs.getD z.toNat default).day≤day:=fun z hz=>by
    rcases List.mem_append.1 hz with h | h
    · exact hs.2.2 z h
    · simp only [List.mem_singleton] at h
      subst h
      exact ⟨hm.2.1,hm.2.2.1,by rw [← hm.2.2.2.1]; exact hm.2.2.2.2.2.2.1⟩
  have hl1:(s.1++[y.1]).length=s.1.length+1:=by simp
  have hl2:(s.2.2.2.2++[y.1]).length=s.2.2.2.2.length+1:=by simp
  have hl3:[y.1].length=1:=rfl
  rw [hl1,hl2]
  exact ⟨fun _=>⟨by omega,hs.2.2⟩,fun _ _=>⟨fun _ _=>⟨by omega,by omega,hnew⟩,fun _=>⟨by omega,by omega,hnew⟩⟩⟩

theorem title_Chain_post (f:File) (part:Int) (day:Int):(fun (x:Chain)=>x.signs.length≤f.signs.length∧∀ y,y∈x.signs→0≤y∧y < (f.signs.length:Int)∧(f.signs.getD y.toNat default).day≤day) (title_Chain f part day):=have h:=Sk.pval _ (title_Chain_pst f part day); h
theorem title_Chain_ok (f:File) (part:Int) (day:Int) (hf:f.Small):(title_Chain_sk f part day).obs (fun _=>True):=by
  refine Sk.obs_of _ ?_
  unfold title_Chain_sk
  simp only [Sk.obq,Sk.isLoop,reduceCtorEq,ON,kk,Sk.pstq,title_dishonoured_k,title_endorsements_k,title_right_k,title_endorsements_c1_it,Sum.forall,title_endorsements_eq,forall_eq,maxLen]
  refine fun _=>⟨⟨by simp,by simp,fun y h=>by cases h⟩,fun i s y hs hy=>?_⟩
  have hm:=ends_mem hy
  have hnew:∀ z,z∈s.1++[y.1]→0≤z∧z < (f.signs.length:Int)∧(f.signs.getD z.toNat default).day≤day:=fun z hz=>by
    rcases List.mem_append.1 hz with h | h
    · exact hs.2.2 z h
    · simp only [List.mem_singleton] at h
      subst h
      exact ⟨hm.2.1,hm.2.2.1,by rw [← hm.2.2.2.1]; exact hm.2.2.2.2.2.2.1⟩
  have hl1:(s.1++[y.1]).length=s.1.length+1:=by simp
  have hl2:(s.2.2.2.2++[y.1]).length=s.2.2.2.2.length+1:=by simp
  have hl3:[y.1].length=1:=rfl
  rw [hl1,hl2,hl3]
  have hf1:=hf.1
  exact ⟨⟨fun _=>⟨by omega,hs.2.2⟩,fun _ _=>⟨fun _ _=>⟨by omega,by omega,hnew⟩,fun _=>⟨by omega,by omega,hnew⟩⟩⟩,fun _=>⟨by omega,hs.2.2⟩,fun _=>⟨⟨by omega,by omega⟩,fun _=>⟨fun _=>⟨⟨by omega,by omega⟩,fun _=>⟨by omega,by omega,hnew⟩⟩,fun _=>⟨by omega,by omega,hnew⟩⟩⟩⟩

noncomputable def title_Chain_k (f:File) (part:Int) (day:Int):Ctr (Chain):=kk tok mixed Tryz.func84 [av f.cells,iv part,iv day] (fun x=>av x.cells) false (title_Chain_sk f part day) (title_Chain f part day) (fun (h:(f.Small))=>title_Chain_ok f part day h) (fun (x:Chain)=>x.signs.length≤f.signs.length∧∀ y,y∈x.signs→0≤y∧y < (f.signs.length:Int)∧(f.signs.getD y.toNat default).day≤day) (title_Chain_post f part day)
noncomputable def owe_view_links_sk (v:View) (part:Int):Sk ((List Int)) :=
 .r 1 ((title_Chain_k v.all part v.day).c) fun x1 =>
 .fin x1.signs
noncomputable def owe_view_links (v:View) (part:Int):(List Int):=(owe_view_links_sk v part).val
theorem owe_view_links_pst (v:View) (part:Int):(owe_view_links_sk v part).pst (fun (x:(List Int))=>x.length≤v.all.signs.length∧∀ y,y∈x→0≤y∧y < (v.all.signs.length:Int)∧(v.all.signs.getD y.toNat default).day≤v.day):=by
  unfold owe_view_links_sk
  try simp only [title_Chain_k]
  exact okP

theorem owe_view_links_post (v:View) (part:Int):(fun (x:(List Int))=>x.length≤v.all.signs.length∧∀ y,y∈x→0≤y∧y < (v.all.signs.length:Int)∧(v.all.signs.getD y.toNat default).day≤v.day) (owe_view_links v part):=have h:=Sk.pval _ (owe_view_links_pst v part); h
theorem owe_view_links_ok (v:View) (part:Int) (h_v_all_Small:v.all.Small):(owe_view_links_sk v part).obs (fun _=>True):=by
  unfold owe_view_links_sk
  try simp only [title_Chain_k]
  exact okD

noncomputable def owe_view_links_k (v:View) (part:Int):Ctr ((List Int)):=kk tok mixed Tryz.func37 [av v.cells,iv part] (fun x=>lv intC x) false (owe_view_links_sk v part) (owe_view_links v part) (fun (h:(v.all.Small))=>owe_view_links_ok v part h) (fun (x:(List Int))=>x.length≤v.all.signs.length∧∀ y,y∈x→0≤y∧y < (v.all.signs.length:Int)∧(v.all.signs.getD y.toNat default).day≤v.day) (owe_view_links_post v part)
noncomputable def owe_court_owners_sk (c_:Court) (links:List Int):Sk (Unit) :=
 .fin ()
noncomputable def owe_court_owners (c_:Court) (links:List Int):Unit:=(owe_court_owners_sk c_ links).val
theorem owe_court_owners_eq (c_:Court) (links:List Int):owe_court_owners c_ links=():=rfl
theorem owe_court_owners_ok (c_:Court) (links:List Int):(owe_court_owners_sk c_ links).obs (fun _=>True):=by
  unfold owe_court_owners_sk
  exact okE

noncomputable def owe_court_owners_k (c_:Court) (links:List Int):Ctr (Unit):=kk tok mixed Tryz.func38 [av c_.cells,lv intC links] (fun x=>.fn 85 [.ref c_.cells,.ref [slD intC links]]) false (owe_court_owners_sk c_ links) (owe_court_owners c_ links) (fun (_:True)=>owe_court_owners_ok c_ links)
structure Owner where
  firm:Int
  sign:Int
  state:Int
  deriving Inhabited
def Owner.cells (c:Owner):List D:=[dI c.firm,dI c.sign,dI c.state]
def Owner.E:Enc Owner:=⟨Owner.cells,3,fun _=>rfl,fun _=>rfl⟩
noncomputable def owe_view_says_c1_sk (x_:Fact) (v:Int) (v':Int):Sk (Bool) :=
 .fin ((x_.kind == v)&&(x_.at_ == v'))
noncomputable def owe_view_says_c1 (x_:Fact) (v:Int) (v':Int):Bool:=(owe_view_says_c1_sk x_ v v').val
theorem owe_view_says_c1_eq (x_:Fact) (v:Int) (v':Int):owe_view_says_c1 x_ v v'=((x_.kind == v)&&(x_.at_ == v')):=rfl
theorem owe_view_says_c1_ok (x_:Fact) (v:Int) (v':Int):(owe_view_says_c1_sk x_ v v').obs (fun _=>True):=by
  unfold owe_view_says_c1_sk
  exact okE

noncomputable def owe_view_says_c1_k (x_:Fact) (v:Int) (v':Int):Ctr (Bool):=kk tok mixed Tryz.func211 [av x_.cells,.ref [dI v],.ref [dI v']] (fun x=>bv x) true (owe_view_says_c1_sk x_ v v') (owe_view_says_c1 x_ v v') (fun (_:True)=>owe_view_says_c1_ok x_ v v')
noncomputable def slices_IndexFunc_211_sk (s:List Fact) (v:Int) (v':Int):Sk (Int) :=
 .bind true (fun b1=>∀ q,q < s.length→owe_view_says_c1 (s.getD q default) v v'=false)
 (.loop (default:Sum (Int) (Unit)) (fun i2=>∀ q,q < i2→owe_view_says_c1 (s.getD q default) v v'=false) (fun i2=>s.length - i2) (0:Nat)
 (fun (i2:Nat)=>⟨[(8,iv ((i2:Nat):Int))],[]⟩) fun i2 =>
 .bnd 0 0 s.length <|
 .br (decide (((i2:Nat):Int) < ((s.length:Nat):Int)))
 (.r 4 (.andl (.p (ixP ((i2:Nat):Int) s.length)) ((owe_view_says_c1_k (s.getD i2 default) v v').c)) fun x3 =>
 .br x3
 (.fin (.inl (.inl ((i2:Nat):Int))))
 (.r 6 .z fun _ =>
 .wi 8 (w64 (((i2:Nat):Int)+1)) ((i2+1:Nat):Int) <|
 .fin (.inr (i2+1))))
 (.fin (.inl (.inr ()))))
 (fun (_:Unit)=>⟨[],[]⟩) fun _ =>
 .fin (-1)
noncomputable def slices_IndexFunc_211 (s:List Fact) (v:Int) (v':Int):Int:=(slices_IndexFunc_211_sk s v v').val
theorem slices_IndexFunc_211_pst (s:List Fact) (v:Int) (v':Int):(slices_IndexFunc_211_sk s v v').pst (fun (x:Int)=>(x = -1∧∀ q,q < s.length→owe_view_says_c1 (s.getD q default) v v'=false)∨(0≤x∧x < s.length∧owe_view_says_c1 (s.getD x.toNat default) v v'=true∧∀ q,(q:Nat) < x.toNat→owe_view_says_c1 (s.getD q default) v v'=false)):=by
  unfold slices_IndexFunc_211_sk
  try simp only [owe_view_says_c1_k,owe_view_says_c1_eq]
  exact okQ

theorem slices_IndexFunc_211_post (s:List Fact) (v:Int) (v':Int):(fun (x:Int)=>(x = -1∧∀ q,q < s.length→owe_view_says_c1 (s.getD q default) v v'=false)∨(0≤x∧x < s.length∧owe_view_says_c1 (s.getD x.toNat default) v v'=true∧∀ q,(q:Nat) < x.toNat→owe_view_says_c1 (s.getD q default) v v'=false)) (slices_IndexFunc_211 s v v'):=have h:=Sk.pval _ (slices_IndexFunc_211_pst s v v'); h
theorem slices_IndexFunc_211_ok (s:List Fact) (v:Int) (v':Int):(slices_IndexFunc_211_sk s v v').obs (fun _=>True):=by
  unfold slices_IndexFunc_211_sk
  try simp only [owe_view_says_c1_k,owe_view_says_c1_eq]
  exact okG

noncomputable def slices_IndexFunc_211_k (s:List Fact) (v:Int) (v':Int):Ctr (Int):=kk tok mixed Tryz.func190 [lv Fact.cells s,.fn 211 [.ref [dI v],.ref [dI v']]] (fun x=>iv x) true (slices_IndexFunc_211_sk s v v') (slices_IndexFunc_211 s v v') (fun (_:True)=>slices_IndexFunc_211_ok s v v') (fun (x:Int)=>(x = -1∧∀ q,q < s.length→owe_view_says_c1 (s.getD q default) v v'=false)∨(0≤x∧x < s.length∧owe_view_says_c1 (s.getD x.toNat default) v v'=true∧∀ q,(q:Nat) < x.toNat→owe_view_says_c1 (s.getD q default) v v'=false)) (slices_IndexFunc_211_post s v v')
noncomputable def owe_view_says_sk (v:View) (kind:Int) (sign:Int):Sk (Int) :=
 .r 1 ((slices_IndexFunc_211_k v.now.facts kind sign).c) fun x1 =>
 .br (decide (x1 < 0))
 (.fin 2)
 (.r 4 (.p (ixP x1 v.now.facts.length)) fun _ =>
 .br (((v.now.facts.getD x1.toNat default).n) == 0)
 (.fin 0)
 (.fin 1))
noncomputable def owe_view_says (v:View) (kind:Int) (sign:Int):Int:=(owe_view_says_sk v kind sign).val
theorem owe_view_says_ok (v:View) (kind:Int) (sign:Int):(owe_view_says_sk v kind sign).obs (fun _=>True):=by
  unfold owe_view_says_sk
  try simp only [slices_IndexFunc_211_k]
  exact okD

noncomputable def owe_view_says_k (v:View) (kind:Int) (sign:Int):Ctr (Int):=kk tok mixed Tryz.func157 [av v.cells,iv kind,iv sign] (fun x=>iv x) true (owe_view_says_sk v kind sign) (owe_view_says v kind sign) (fun (_:True)=>owe_view_says_ok v kind sign)
noncomputable def owe_both_sk (a:Int) (b:Int):Sk (Int) :=
 .br ((a == 0)||(b == 0))
 (.fin 0)
 (.br ((a == 2)||(b == 2))
 (.fin 2)
 (.fin 1))
noncomputable def owe_both (a:Int) (b:Int):Int:=(owe_both_sk a b).val
theorem owe_both_ok (a:Int) (b:Int):(owe_both_sk a b).obs (fun _=>True):=by
  unfold owe_both_sk
  exact okE

noncomputable def owe_both_k (a:Int) (b:Int):Ctr (Int):=kk tok mixed Tryz.func90 [iv a,iv b] (fun x=>iv x) true (owe_both_sk a b) (owe_both a b) (fun (_:True)=>owe_both_ok a b)
noncomputable def owe_either_sk (a:Int) (b:Int):Sk (Int) :=
 .br ((a == 1)||(b == 1))
 (.fin 1)
 (.br ((a == 2)||(b == 2))
 (.fin 2)
 (.fin 0))
noncomputable def owe_either (a:Int) (b:Int):Int:=(owe_either_sk a b).val
theorem owe_either_ok (a:Int) (b:Int):(owe_either_sk a b).obs (fun _=>True):=by
  unfold owe_either_sk
  exact okE

noncomputable def owe_either_k (a:Int) (b:Int):Ctr (Int):=kk tok mixed Tryz.func158 [iv a,iv b] (fun x=>iv x) true (owe_either_sk a b) (owe_either a b) (fun (_:True)=>owe_either_ok a b)
noncomputable def owe_court_passes_sk (c_:Court) (link:Int) (last:Int):Sk (Int) :=
 .r 2 (.dep ((owe_view_says_k c_.view 0 link).c) fun x1=>.dep ((owe_view_says_k c_.view 2 link).c) fun x2=>(owe_both_k x1 x2).c) fun p8 =>
 .r 3 (.dep ((ask_Ask_k c_.r c_.forum 3 ({ file:=c_.view.now,sign:=link,holder:=last,defence:=(-1),due:=c_.due,day:=c_.view.day }:CaseX)).c) fun x4=>.dep ((ask_Tri_k x4).c) fun x5=>(owe_either_k p8.2.2 x5).c) fun p7 =>
 .fin p7.2.2
noncomputable def owe_court_passes (c_:Court) (link:Int) (last:Int):Int:=(owe_court_passes_sk c_ link last).val
theorem owe_court_passes_ok (c_:Court) (link:Int) (last:Int) (h_c__view_now_Small:c_.view.now.Small) (h_c__r_ByOK:c_.r.ByOK) (h_c__r_Small:c_.r.Small):(owe_court_passes_sk c_ link last).obs (fun _=>True):=by
  unfold owe_court_passes_sk
  try simp only [ask_Ask_k,ask_Tri_k,owe_both_k,owe_either_k,owe_view_says_k]
  exact okD

noncomputable def owe_court_passes_k (c_:Court) (link:Int) (last:Int):Ctr (Int):=kk tok mixed Tryz.func86 [av c_.cells,iv link,iv last] (fun x=>iv x) true (owe_court_passes_sk c_ link last) (owe_court_passes c_ link last) (fun (h:(c_.view.now.Small)∧(c_.r.ByOK)∧(c_.r.Small))=>owe_court_passes_ok c_ link last h.1 h.2.1 h.2.2)
end Go.Proofs.YtbcnlpcaajpclaaGreatDoor

