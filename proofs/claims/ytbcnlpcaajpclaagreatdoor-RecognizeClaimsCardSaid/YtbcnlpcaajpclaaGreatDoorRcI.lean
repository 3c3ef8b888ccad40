/- The given statement recognizeClaims, proved. -/
import Derived.Test.YtbcnlpcaajpclaaGreatDoorRcO
import Derived.Test.YtbcnlpcaajpclaaGreatDoorRcP
import Derived.Test.YtbcnlpcaajpclaaGreatDoorAvY
import Derived.Test.YtbcnlpcaajpclaaGreatDoorRows
import Derived.Test.YtbcnlpcaajpclaaGreatDoorTie
import Derived.Test.YtbcnlpcaajpclaaGreatDoorCards
import Derived.ProofKit
import Derived.LaidMore
import Derived.OpenShut
import Derived.SevenTiedAt
set_option linter.unusedSimpArgs false
set_option linter.unusedVariables false
set_option maxRecDepth 100000
namespace Go.Proofs.YtbcnlpcaajpclaaGreatDoor
open Go Go.Av Go.ChangeShapes Go.WideShapes Go.ChangeAt Go.RowKit
def laid1:List (String × DataW Unit):=[("allonge/order.numbers",Rows.laid_allonge_order_numbers)]
theorem gNums:Tryz.prog.globalNamed "allonge/order.numbers" = some 2:=by kernel_rfl
theorem tNums:(Tryz.prog.globals[2]?).map (·.type)=some 322:=by kernel_rfl
theorem glob_ok {W:World} (h:laidMetH Tryz.prog laid1 W):GlobOK W fun b=>b < W.heap.size:=by
  rw [MakeChecks.laidMetH_plain _ _ _ (by kernel_rfl)] at h
  obtain ⟨ps,⟨g1,t1,cs1,f1,p1,q1,hg1,ht1,hv1,hd1,_,_⟩,_,_⟩:=h
  obtain rfl:=Option.some.inj (gNums.symm.trans hg1)
  obtain rfl:=Option.some.inj (tNums.symm.trans ht1)
  have hu206:Tryz.prog.underlying 322=some (.array 10 3):=by kernel_rfl
  have hu3:Tryz.prog.underlying 3=some (.int .i64):=by kernel_rfl
  obtain ⟨xs,m1,rfl,hx1,hlen,hn3,hel⟩:=DataW.trod_array hu206 hd1
  have c3:Tryz.prog.cellsOf 3=1:=by kernel_rfl
  have c206:Tryz.prog.cellsOf 322=10:=by kernel_rfl
  simp only [Rows.laid_allonge_order_numbers,Prod.mk.injEq,DataW.agg.injEq] at hx1
  have hl:cs1.toList.length=10:=hlen.trans c206
  have each:∀ j n,j < 10→xs[j]?.map (·.1)=some (.lit (.int .i64 n))→W.cell? ⟨2,j,none⟩=some (.int .i64 n):=by
    intro j n hj hx
    have h0:=hel j (by omega)
    rw [c3] at h0
    cases hxj:xs[j]? with
    | none=>rw [hxj] at hx; cases hx
    | some y =>
      rw [hxj] at hx h0
      simp only [Option.map_some,Option.some.injEq] at hx
      obtain ⟨k,e1,e2,_⟩:=DataW.trod_int hu3 h0
      rw [e2] at hx
      simp only [DataW.lit.injEq,Lit.int.injEq,true_and] at hx
      subst hx
      have hj2:j < cs1.toList.length:=by omega
      have:=World.var?_cell hg1 hv1 j
      have e3:(cs1.toList.drop (j * 1)).take 1=[cs1.toList[j]]:=by
        rw [Nat.mul_one,List.drop_eq_getElem_cons hj2]
        rfl
      rw [e3] at e1
      simp only [List.cons.injEq,and_true] at e1
      rw [this]
      simp only [Array.length_toList] at hj2
      rw [Array.getElem?_eq_getElem hj2]
      simpa using e1
  have blk:∀ j v,W.cell? ⟨2,j,none⟩=some v→2 < W.heap.size:=by
    intro j v hv
    unfold World.cell? at hv
    split at hv
    · rename_i hh
      exact (Array.getElem?_eq_some_iff.1 hh).1
    · cases hv
  intro p hp
  obtain rfl:p=(2,[dI 6,dI 7,dI 10,dI 12,dI 13,dI 14,dI 15,dI 16,dI 20,dI 21]):=by simpa [Globs.gl] using hp
  have hx:∀ j,j < 10→xs[j]?.map (·.1)=some (.lit (.int .i64 (([6,7,10,12,13,14,15,16,20,21]:List Int).getD j 0))):=by
    intro j hj
    have e:=hx1.1
    have:xs.map (·.1)=([6,7,10,12,13,14,15,16,20,21]:List Int).map fun n=>DataW.lit (.int .i64 n):=e.symm
    rw [← List.getElem?_map,this]
    have:j=0∨j=1∨j=2∨j=3∨j=4∨j=5∨j=6∨j=7∨j=8∨j=9:=by omega
    rcases this with rfl | rfl | rfl | rfl | rfl | rfl | rfl | rfl | rfl | rfl <;> rfl
  refine ⟨fun j=>.int .i64 (([6,7,10,12,13,14,15,16,20,21]:List Int).getD j 0),fun j hj=>?_,fun j hj=>?_⟩
  · have hj:j < 10:=hj
    rw [Nat.zero_add]
    exact ⟨blk j _ (each j _ hj (hx j hj)),each j _ hj (hx j hj)⟩
  · have hj:j < 10:=hj
    have:j=0∨j=1∨j=2∨j=3∨j=4∨j=5∨j=6∨j=7∨j=8∨j=9:=by omega
    rcases this with rfl | rfl | rfl | rfl | rfl | rfl | rfl | rfl | rfl | rfl <;> exact .v _ rfl

theorem Top.own:ownKnob Tryz.prog.godebug=none:=by kernel_rfl
theorem Top.laidOut:laidOutB Tryz.prog=true:=by kernel_rfl
theorem door_met (os:Os) (args:Array Value):laidMetH Tryz.prog laid1 ((World.doorLaid Tryz.prog 400 os).forCall (fun _ _=>0) ⟨#[],args,[]⟩).memory :=
  laidMetH_of_parts3 (fuel:=8) (laidMet_of_run' 8 (by kernel_rfl) (by kernel_rfl)) (by kernel_rfl) (by kernel_rfl)

def CL:List Nat:=[31,3,41,22,23,24,25,26,27,28,29,35,36,37,38,39,9,186,188,190,144,222,194,224,33,91,93,50,56,85,4,141,142,270,192,184,182]
theorem trodAll_len {H:Type} {enc:TypeId × Value→H} {P:Program} {w:World} {base:Nat} {sp:Nat→Bool} {held:Bool}:∀ {ts:List TypeId} {vs:List Value} {ds:List (DataW H)} {ps:List MemPlace},DataW.TrodAll enc P w base sp held ts vs ds ps→ds.length=ts.length
  | [],[],[],_,_=>rfl
  | _ :: _,_ :: _,_ :: _,_,h=>by
    obtain ⟨p,q,_,h2,_⟩:=h
    simp [trodAll_len h2]
  | [],_ :: _,_,_,h=>by cases h
  | [],[],_ :: _,_,h=>by cases h
  | _ :: _,[],_,_,h=>by cases h
  | _ :: _,_ :: _,[],_,h=>by cases h
set_option maxRecDepth 100000 in
theorem recognizeClaims_lifted (os:Os) (started:os.Started) (H:Type) (enc:TypeId × Value→H) :
    ReturnsInHanded {} Tryz.checked os 5 .any (fun w args=>(Rows.recognizeClaimsSpec.pre enc Tryz.prog Tryz.f5 [] false w args∧laidMetH Tryz.prog laid1 w)∧sizedMet enc Tryz.prog Tryz.f5 (OpenSpec.ofChange Rows.recognizeClaimsSpec) false w args)
      (Rows.recognizeClaimsSpec.post enc Tryz.prog Tryz.f5 false true false false):=by
  refine returnsInHanded_of_change_and (C:=Tryz.checked) (X:=fun w _=>laidMetH Tryz.prog laid1 w) (fun _ _ _ hh h=>h.of_heap hh) Top.own started (by kernel_rfl) Tryz.func5
    (ChangeSpec.witness_shaped (enc:=enc) (C:=Tryz.checked) (os:=os) (X:=fun w _=>laidMetH Tryz.prog laid1 w) false (World.doorLaid Tryz.prog 400 os) #[.agg #[.slice none 0 0,.slice none 0 0,.slice none 0 0,.slice none 0 0,.slice none 0 0,.slice none 0 0,.slice none 0 0,.slice none 0 0],.int .i64 0,.agg #[.int .i64 0,.int .i64 0,.int .i64 0,.int .i64 0,.int .i64 0,.int .i64 0,.int .i64 0,.int .i64 0,.int .i64 0,.int .i64 0,.int .i64 0,.int .i64 0,.int .i64 0,.int .i64 0,.int .i64 0,.slice none 0 0,.slice none 0 0,.slice none 0 0,.slice none 0 0],.int .i64 0,.int .i64 0] 12 rfl (World.shaped_of_RefB (by kernel_rfl) (by kernel_rfl)) (by kernel_rfl) (by kernel_rfl) (by kernel_rfl) (door_met os _)) ?_
  intro W base args ds gs before hval hW _ _ hL _
  refine law_calls (P:=Tryz.prog) (T:=TT) (cl:=CL) (tb:=4) (base:=base) (fn:=Tryz.f5) tok Top.laidOut (by kernel_rfl) (by kernel_rfl) (by kernel_rfl) (by kernel_rfl) (by kernel_rfl) rfl hval hW (glob_ok hL) ?_ (fun dss h=>L47_RecognizeClaims_law_fn L47_RecognizeClaims_law dss h)
  obtain ⟨p,q,hA,hV,-⟩:=hW
  obtain ⟨rfl,rfl⟩:=trodVars_none hV
  have hlen:ds.length=5:=trodAll_len hA
  match ds,hlen with
  | [_,_,_,_,_],_=>exact ⟨rfl,rfl,rfl⟩
theorem recognizeClaims_l0:(Rows.recognizeClaimsRow.wf (OpenSpec.ofChange Rows.recognizeClaimsSpec))=true:=by kernel_rfl
theorem recognizeClaims_l1:(laidOutB Tryz.checked.prog)=true:=by kernel_rfl
theorem recognizeClaims_l2:(mapsRowed Tryz.checked.prog)=true:=by kernel_rfl
theorem recognizeClaims_l3:(Tryz.f5.params.all (Tryz.checked.prog.readableRec ·))=true:=by kernel_rfl
theorem recognizeClaims_l4:(namedTie Tryz.checked.prog Rows.recognizeClaimsRow.named Rows.recognizeClaimsSpec.vars)=true:=by kernel_rfl
theorem recognizeClaims_l5:((Rows.recognizeClaimsRow.stops == []))=true:=by kernel_rfl
theorem recognizeClaims_l6:((Tryz.checked.prog.stops == []))=true:=by kernel_rfl
theorem recognizeClaims_l7:((Rows.recognizeClaimsRow.knobs == []))=true:=by kernel_rfl
theorem recognizeClaims_l8:((Tryz.checked.prog.stopKnobs == []))=true:=by kernel_rfl
theorem recognizeClaims_l9:((Rows.recognizeClaimsRow.inPlace == Tryz.checked.prog.inPlace 5))=true:=by kernel_rfl
theorem recognizeClaims_l10:((Rows.recognizeClaimsRow.unfollowed == Tryz.checked.prog.unfollowed 5))=true:=by kernel_rfl
theorem recognizeClaims_l11:((Rows.recognizeClaimsRow.recurses == Tryz.checked.prog.recurses 5))=true:=by kernel_rfl
theorem recognizeClaims_l12:((Rows.recognizeClaimsRow.named == Tryz.checked.prog.varsNamed 5))=true:=by kernel_rfl
theorem recognizeClaims_l13:((Rows.recognizeClaimsRow.maps == (Tryz.f5.params.toList++Rows.recognizeClaimsSpec.plain.varTypes Tryz.checked.prog).any (Tryz.checked.prog.mapsRec ·)))=true:=by kernel_rfl
theorem recognizeClaims_l14:((Rows.recognizeClaimsRow.ifaces == (Tryz.f5.params.toList++Rows.recognizeClaimsSpec.plain.varTypes Tryz.checked.prog).any (Tryz.checked.prog.ifacesRec ·)))=true:=by kernel_rfl
theorem recognizeClaims_l15:((Rows.recognizeClaimsRow.mapsOut == Tryz.checked.prog.mapsAmong Tryz.f5.resultTypes.toList))=true:=by kernel_rfl
theorem recognizeClaims_l16:((Rows.recognizeClaimsRow.loops == (Tryz.f5.params.toList++Rows.recognizeClaimsSpec.plain.varTypes Tryz.checked.prog).any (Tryz.checked.prog.loopsFrom ·)))=true:=by kernel_rfl
theorem recognizeClaims_l17:((Rows.recognizeClaimsRow.wideKeys == (Tryz.f5.params.toList++Rows.recognizeClaimsSpec.plain.varTypes Tryz.checked.prog++Tryz.f5.resultTypes.toList).any (Tryz.checked.prog.wideKeysFrom ·)))=true:=by kernel_rfl
theorem recognizeClaims_l18:(Rows.recognizeClaimsSpec.vars.all (Tryz.checked.prog.varReadable ·))=true:=by kernel_rfl
theorem recognizeClaims_l19:(Tryz.f5.resultTypes.all (fun t=>Tryz.checked.prog.readableRec t&&decide (t < Tryz.checked.prog.types.size)))=true:=by kernel_rfl
theorem recognizeClaims_l20:((Rows.recognizeClaimsRow.ifacesOut == Tryz.f5.resultTypes.toList.any (Tryz.checked.prog.ifacesRec ·)))=true:=by kernel_rfl
theorem recognizeClaims_l21:((Rows.recognizeClaimsRow.loopsOut == Tryz.f5.resultTypes.toList.any (Tryz.checked.prog.loopsFrom ·)))=true:=by kernel_rfl
theorem recognizeClaims_l22:((Rows.recognizeClaimsRow.plainKeys == Tryz.checked.prog.plainKeys))=true:=by kernel_rfl
theorem recognizeClaims_l23:(Rows.recognizeClaimsRow.shortTexts.isNone)=true:=by kernel_rfl
theorem recognizeClaims_l24:(Tryz.checked.prog.stopsHeard)=true:=by kernel_rfl
theorem recognizeClaims_l25:(Tryz.checked.prog.mayEnter)=true:=by kernel_rfl
theorem recognizeClaims_l26:((Rows.recognizeClaimsRow.lifted == Tryz.checked.prog.liftsFinal))=true:=by kernel_rfl
theorem recognizeClaims_l27:((Tryz.checked.prog.make == some Rows.recognizeClaimsRow.make))=true:=by kernel_rfl
theorem recognizeClaims_l28:((Rows.recognizeClaimsRow.kinds == (if Rows.recognizeClaimsRow.domain.isEmpty then [] else Tryz.f5.params.toList.map fun t=>match Tryz.checked.prog.underlying t with | some (.int k)=>some k | _=>none)))=true:=by kernel_rfl
theorem recognizeClaims_l29:((Rows.recognizeClaimsRow.pinned == Rows.recognizeClaimsRow.pinnedBy))=true:=by kernel_rfl
theorem recognizeClaims_l30:((Rows.recognizeClaimsRow.veiled == (Tryz.f5.params.toList++Rows.recognizeClaimsSpec.plain.varTypes Tryz.checked.prog++Tryz.f5.resultTypes.toList).any (Tryz.checked.prog.veiledRec ·)))=true:=by kernel_rfl
theorem recognizeClaims_l31:(Rows.recognizeClaimsRow.veiledFits Tryz.checked.prog Tryz.f5.params.toList (Tryz.f5.params.toList++Rows.recognizeClaimsSpec.plain.varTypes Tryz.checked.prog++Tryz.f5.resultTypes.toList))=true:=by kernel_rfl
theorem and2 {a b:Bool} (h:a=true) (k:b=true):(a&&b)=true:=by rw [h,k]; rfl
theorem recognizeClaims_closed:joinedFacts Tryz.checked.prog 5 Tryz.f5 Rows.recognizeClaimsSpec Rows.recognizeClaimsRow=true:=by
  unfold joinedFacts
  exact and2 (and2 (and2 (and2 (and2 (and2 (and2 (and2 (and2 (and2 (and2 (and2 (and2 (and2 (and2 (and2 (and2 (and2 (and2 (and2 (and2 (and2 (and2 (and2 (and2 (and2 (and2 (and2 (and2 (and2 (and2 recognizeClaims_l0 recognizeClaims_l1) recognizeClaims_l2) recognizeClaims_l3) recognizeClaims_l4) recognizeClaims_l5) recognizeClaims_l6) recognizeClaims_l7) recognizeClaims_l8) recognizeClaims_l9) recognizeClaims_l10) recognizeClaims_l11) recognizeClaims_l12) recognizeClaims_l13) recognizeClaims_l14) recognizeClaims_l15) recognizeClaims_l16) recognizeClaims_l17) recognizeClaims_l18) recognizeClaims_l19) recognizeClaims_l20) recognizeClaims_l21) recognizeClaims_l22) recognizeClaims_l23) recognizeClaims_l24) recognizeClaims_l25) recognizeClaims_l26) recognizeClaims_l27) recognizeClaims_l28) recognizeClaims_l29) recognizeClaims_l30) recognizeClaims_l31
theorem recognizeClaims_said:Rows.RecognizeClaimsSaid :=
  OpenClaim.holds_of_wide 5 Tryz.f5 rfl rfl rfl rfl rfl rfl rfl ⟨rfl,rfl,rfl,rfl,rfl⟩ rfl rfl rfl rfl rfl (by kernel_rfl) Tryz.func5 recognizeClaims_closed
    (of_decide_eq_true (by kernel_rfl)) (by unfold Func.isWrapper; first | (rw [if_pos (by decide +kernel)]; kernel_rfl) | (rw [if_neg (by decide +kernel)]; exact ⟨rfl,rfl⟩))
    (fun os started H enc _=>recognizeClaims_lifted os started H enc)
theorem recognizeClaims_holds:Rows.RecognizeClaimsCardSaid :=
  Claim7.holds_tied_plain_at .later [] [.widerDeep] true Rows.recognizeClaimsCard.stood.harness Rows.recognizeClaimsCard.stood.looks
    recognizeClaims_said (fun _ h=>by cases h) (by kernel_rfl) (fun _ h=>by cases h) recognizeClaims_row_tie rfl ⟨rfl,rfl⟩ (by kernel_rfl) rfl
    (fun f fn hf hfn=>by
      obtain rfl:f=5:=Option.some.inj ((show Tryz.prog.funcNamed "allonge/allongelaw47.RecognizeClaims" = some 5 by kernel_rfl).symm.trans hf) |>.symm
      obtain rfl:fn=Tryz.f5:=(Option.some.inj (Tryz.func5.symm.trans hfn)).symm
      exact ⟨by kernel_rfl,fun j t ht=>by
        have hm:t∈Tryz.f5.params.toList:=by simpa using Array.mem_of_getElem? ht
        have hall:(Tryz.f5.params.toList.all fun u=>!Tryz.prog.wantsStandIn u)=true:=by kernel_rfl
        exact (show Tryz.prog.wantsStandIn t=false by simpa using List.all_eq_true.1 hall t hm)⟩)
    (by kernel_rfl)


end Go.Proofs.YtbcnlpcaajpclaaGreatDoor

