/- The given statement payGrows, proved. -/
import Derived.Test.YtgmnlkccjlnnbaaGreatDoorLi
import Derived.Test.YtgmnlkccjlnnbaaGreatDoorLc
import Derived.Test.YtgmnlkccjlnnbaaGreatDoorRows
import Derived.Test.YtgmnlkccjlnnbaaGreatDoorTie
import Derived.Test.YtgmnlkccjlnnbaaGreatDoorCards
import Derived.ProofKit
import Derived.LaidMore
import Derived.OpenShut
import Derived.SevenTiedAt
set_option linter.unusedSimpArgs false
set_option linter.unusedVariables false
set_option maxRecDepth 100000
namespace Go.Proofs.YtgmnlkccjlnnbaaGreatDoor
open Go Go.Av Go.ChangeShapes Go.WideShapes Go.ChangeAt Go.RowKit
def QU:List (String × DataW Unit):=[("allonge/order.numbers",Rows.laid_allonge_order_numbers)]
theorem acN:Tryz.prog.globalNamed "allonge/order.numbers" = some 0:=by kernel_rfl
theorem acO:(Tryz.prog.globals[0]?).map (·.type)=some 290:=by kernel_rfl
theorem Zr {W:World} (h:laidMetH Tryz.prog QU W):jz W fun b=>b < W.heap.size:=by
  rw [MakeChecks.laidMetH_plain _ _ _ (by kernel_rfl)] at h
  obtain ⟨ps,⟨g1,t1,J6,f1,p1,q1,hg1,ht1,hv1,Vy,_,_⟩,_,_⟩:=h
  obtain rfl:=Option.some.inj (acN.symm.trans hg1)
  obtain rfl:=Option.some.inj (acO.symm.trans ht1)
  have acP:Tryz.prog.underlying 290=some (.array 10 3):=by kernel_rfl
  have hu3:Tryz.prog.underlying 3=some (.int .i64):=by kernel_rfl
  obtain ⟨xs,m1,rfl,JT,hlen,hn3,hel⟩:=DataW.trod_array acP Vy
  have c3:Tryz.prog.cellsOf 3=1:=by kernel_rfl
  have aez:Tryz.prog.cellsOf 290=10:=by kernel_rfl
  simp only [Rows.laid_allonge_order_numbers,Prod.mk.injEq,DataW.agg.injEq] at JT
  have hl:J6.toList.length=10:=hlen.trans aez
  have each:∀ j n,j < 10→xs[j]?.map (·.1)=some (.lit (.int .i64 n))→W.cell? ⟨0,j,none⟩=some (.int .i64 n):=by
    intro j n hj hx
    have h0:=hel j (by omega)
    rw [c3] at h0
    cases hxj:xs[j]? with
    | none=>rw [hxj] at hx; cases hx
    | some y =>
      rw [hxj] at hx h0
      simp only [Option.map_some,Option.some.injEq] at hx
      obtain ⟨k,e1,e2,_⟩:=DataW.trod_int hu3 h0
      rw [e2] at hx
      simp only [DataW.lit.injEq,Lit.int.injEq,true_and] at hx
      subst hx
      have SZ:j < J6.toList.length:=by omega
      have:=World.var?_cell hg1 hv1 j
      have e3:(J6.toList.drop (j * 1)).take 1=[J6.toList[j]]:=by
        rw [Nat.mul_one,List.drop_eq_getElem_cons SZ]
        rfl
      rw [e3] at e1
      simp only [List.cons.injEq,and_true] at e1
      rw [this]
      simp only [Array.length_toList] at SZ
      rw [Array.getElem?_eq_getElem SZ]
      simpa using e1
  have blk:∀ j v,W.cell? ⟨0,j,none⟩=some v→0 < W.heap.size:=by
    intro j v hv
    unfold World.cell? at hv
    split at hv
    · rename_i hh
      exact (Array.getElem?_eq_some_iff.1 hh).1
    · cases hv
  intro p hp
  obtain rfl:p=(0,[dI 6,dI 7,dI 10,dI 12,dI 13,dI 14,dI 15,dI 16,dI 20,dI 21]):=by simpa [yp.gl] using hp
  have hx:∀ j,j < 10→xs[j]?.map (·.1)=some (.lit (.int .i64 (([6,7,10,12,13,14,15,16,20,21]:List Int).getD j 0))):=by
    intro j hj
    have e:=JT.1
    have:xs.map (·.1)=([6,7,10,12,13,14,15,16,20,21]:List Int).map fun n=>DataW.lit (.int .i64 n):=e.symm
    rw [← List.getElem?_map,this]
    have:j=0∨j=1∨j=2∨j=3∨j=4∨j=5∨j=6∨j=7∨j=8∨j=9:=by omega
    rcases this with rfl | rfl | rfl | rfl | rfl | rfl | rfl | rfl | rfl | rfl <;> rfl
  refine ⟨fun j=>.int .i64 (([6,7,10,12,13,14,15,16,20,21]:List Int).getD j 0),fun j hj=>?_,fun j hj=>?_⟩
  · have hj:j < 10:=hj
    rw [Nat.zero_add]
    exact ⟨blk j _ (each j _ hj (hx j hj)),each j _ hj (hx j hj)⟩
  · have hj:j < 10:=hj
    have:j=0∨j=1∨j=2∨j=3∨j=4∨j=5∨j=6∨j=7∨j=8∨j=9:=by omega
    rcases this with rfl | rfl | rfl | rfl | rfl | rfl | rfl | rfl | rfl | rfl <;> exact .v _ rfl

theorem Top.own:ownKnob Tryz.prog.godebug=none:=by kernel_rfl
theorem Top.laidOut:laidOutB Tryz.prog=true:=by kernel_rfl
theorem XT (os:Os) (args:Array Value):laidMetH Tryz.prog QU ((World.doorLaid Tryz.prog 400 os).forCall (fun _ _=>0) ⟨#[],args,[]⟩).memory :=
  laidMetH_of_parts3 (fuel:=8) (laidMet_of_run' 8 (by kernel_rfl) (by kernel_rfl)) (by kernel_rfl) (by kernel_rfl)

def CL:List Nat:=[31,3,41,39,22,23,24,25,26,27,28,29,35,36,37,38,45,9,159,169,171,111,173,175,177,33,96,115,62,64,4,108,109,234,165,163,161]
theorem Ft {H:Type} {enc:TypeId × Value→H} {P:Program} {w:World} {base:Nat} {sp:Nat→Bool} {held:Bool}:∀ {ts:List TypeId} {vs:List Value} {ds:List (DataW H)} {ps:List MemPlace},DataW.TrodAll enc P w base sp held ts vs ds ps→ds.length=ts.length
  | [],[],[],_,_=>rfl
  | _ :: _,_ :: _,_ :: _,_,h=>by
    obtain ⟨p,q,_,h2,_⟩:=h
    simp [Ft h2]
  | [],_ :: _,_,_,h=>by cases h
  | [],[],_ :: _,_,h=>by cases h
  | _ :: _,[],_,_,h=>by cases h
  | _ :: _,_ :: _,[],_,h=>by cases h
set_option maxRecDepth 100000 in
theorem Gv (os:Os) (started:os.Started) (H:Type) (enc:TypeId × Value→H) :
    ReturnsInHanded {} Tryz.checked os 3 .any (fun w args=>(Rows.payGrowsSpec.pre enc Tryz.prog Tryz.f3 [] false w args∧laidMetH Tryz.prog QU w)∧sizedMet enc Tryz.prog Tryz.f3 (OpenSpec.ofChange Rows.payGrowsSpec) false w args)
      (Rows.payGrowsSpec.post enc Tryz.prog Tryz.f3 false true false false):=by
  refine returnsInHanded_of_change_and (C:=Tryz.checked) (X:=fun w _=>laidMetH Tryz.prog QU w) (fun _ _ _ hh h=>h.of_heap hh) Top.own started (by kernel_rfl) Tryz.func3
    (ChangeSpec.witness_shaped (enc:=enc) (C:=Tryz.checked) (os:=os) (X:=fun w _=>laidMetH Tryz.prog QU w) false (World.doorLaid Tryz.prog 400 os) #[.agg #[.slice none 0 0,.slice none 0 0,.slice none 0 0,.slice none 0 0,.slice none 0 0,.slice none 0 0,.slice none 0 0,.slice none 0 0],.int .i64 0,.agg #[.int .i64 0,.int .i64 0,.int .i64 0,.int .i64 0,.int .i64 0,.int .i64 0,.int .i64 0,.int .i64 0,.int .i64 0,.int .i64 0,.int .i64 0,.int .i64 0,.int .i64 0,.int .i64 0,.int .i64 0,.slice none 0 0,.slice none 0 0,.slice none 0 0,.slice none 0 0],.int .i64 0,.slice none 0 0] 12 rfl (World.shaped_of_RefB (by kernel_rfl) (by kernel_rfl)) (by kernel_rfl) (by kernel_rfl) (by kernel_rfl) (XT os _)) ?_
  intro W base args ds gs before Wv hW _ _ hL _
  refine UH (P:=Tryz.prog) (T:=TT) (cl:=CL) (tb:=4) (base:=base) (fn:=Tryz.f3) tok Top.laidOut (by kernel_rfl) (by kernel_rfl) (by kernel_rfl) (by kernel_rfl) (by kernel_rfl) rfl Wv hW (Zr hL) ?_ (fun Q9 h=>AX EV Q9 h)
  obtain ⟨p,q,hA,hV,-⟩:=hW
  obtain ⟨rfl,rfl⟩:=trodVars_none hV
  have hlen:ds.length=5:=Ft hA
  match ds,hlen with
  | [_,_,_,_,_],_=>exact ⟨rfl,rfl,rfl⟩
theorem QV:(Rows.payGrowsRow.wf (OpenSpec.ofChange Rows.payGrowsSpec))=true:=by kernel_rfl
theorem QW:(laidOutB Tryz.checked.prog)=true:=by kernel_rfl
theorem QX:(mapsRowed Tryz.checked.prog)=true:=by kernel_rfl
theorem QY:(Tryz.f3.params.all (Tryz.checked.prog.readableRec ·))=true:=by kernel_rfl
theorem QZ:(namedTie Tryz.checked.prog Rows.payGrowsRow.named Rows.payGrowsSpec.vars)=true:=by kernel_rfl
theorem Q0:((Rows.payGrowsRow.stops == []))=true:=by kernel_rfl
theorem Q1:((Tryz.checked.prog.stops == []))=true:=by kernel_rfl
theorem Q2:((Rows.payGrowsRow.knobs == []))=true:=by kernel_rfl
theorem Q3:((Tryz.checked.prog.stopKnobs == []))=true:=by kernel_rfl
theorem Q4:((Rows.payGrowsRow.inPlace == Tryz.checked.prog.inPlace 3))=true:=by kernel_rfl
theorem NK:((Rows.payGrowsRow.unfollowed == Tryz.checked.prog.unfollowed 3))=true:=by kernel_rfl
theorem NL:((Rows.payGrowsRow.recurses == Tryz.checked.prog.recurses 3))=true:=by kernel_rfl
theorem NM:((Rows.payGrowsRow.named == Tryz.checked.prog.varsNamed 3))=true:=by kernel_rfl
theorem NN:((Rows.payGrowsRow.maps == (Tryz.f3.params.toList++Rows.payGrowsSpec.plain.varTypes Tryz.checked.prog).any (Tryz.checked.prog.mapsRec ·)))=true:=by kernel_rfl
theorem NP:((Rows.payGrowsRow.ifaces == (Tryz.f3.params.toList++Rows.payGrowsSpec.plain.varTypes Tryz.checked.prog).any (Tryz.checked.prog.ifacesRec ·)))=true:=by kernel_rfl
theorem NQ:((Rows.payGrowsRow.mapsOut == Tryz.checked.prog.mapsAmong Tryz.f3.resultTypes.toList))=true:=by kernel_rfl
theorem NR:((Rows.payGrowsRow.loops == (Tryz.f3.params.toList++Rows.payGrowsSpec.plain.varTypes Tryz.checked.prog).any (Tryz.checked.prog.loopsFrom ·)))=true:=by kernel_rfl
theorem NS:((Rows.payGrowsRow.wideKeys == (Tryz.f3.params.toList++Rows.payGrowsSpec.plain.varTypes Tryz.checked.prog++Tryz.f3.resultTypes.toList).any (Tryz.checked.prog.wideKeysFrom ·)))=true:=by kernel_rfl
theorem NT:(Rows.payGrowsSpec.vars.all (Tryz.checked.prog.varReadable ·))=true:=by kernel_rfl
theorem NU:(Tryz.f3.resultTypes.all (fun t=>Tryz.checked.prog.readableRec t&&decide (t < Tryz.checked.prog.types.size)))=true:=by kernel_rfl
theorem NV:((Rows.payGrowsRow.ifacesOut == Tryz.f3.resultTypes.toList.any (Tryz.checked.prog.ifacesRec ·)))=true:=by kernel_rfl
theorem NW:((Rows.payGrowsRow.loopsOut == Tryz.f3.resultTypes.toList.any (Tryz.checked.prog.loopsFrom ·)))=true:=by kernel_rfl
theorem NX:((Rows.payGrowsRow.plainKeys == Tryz.checked.prog.plainKeys))=true:=by kernel_rfl
theorem NY:(Rows.payGrowsRow.shortTexts.isNone)=true:=by kernel_rfl
theorem NZ:(Tryz.checked.prog.stopsHeard)=true:=by kernel_rfl
theorem N0:(Tryz.checked.prog.mayEnter)=true:=by kernel_rfl
theorem N1:((Rows.payGrowsRow.lifted == Tryz.checked.prog.liftsFinal))=true:=by kernel_rfl
theorem N2:((Tryz.checked.prog.make == some Rows.payGrowsRow.make))=true:=by kernel_rfl
theorem N3:((Rows.payGrowsRow.kinds == (if Rows.payGrowsRow.domain.isEmpty then [] else Tryz.f3.params.toList.map fun t=>match Tryz.checked.prog.underlying t with | some (.int k)=>some k | _=>none)))=true:=by kernel_rfl
theorem N4:((Rows.payGrowsRow.pinned == Rows.payGrowsRow.pinnedBy))=true:=by kernel_rfl
theorem N5:((Rows.payGrowsRow.veiled == (Tryz.f3.params.toList++Rows.payGrowsSpec.plain.varTypes Tryz.checked.prog++Tryz.f3.resultTypes.toList).any (Tryz.checked.prog.veiledRec ·)))=true:=by kernel_rfl
theorem N6:(Rows.payGrowsRow.veiledFits Tryz.checked.prog Tryz.f3.params.toList (Tryz.f3.params.toList++Rows.payGrowsSpec.plain.varTypes Tryz.checked.prog++Tryz.f3.resultTypes.toList))=true:=by kernel_rfl
theorem oC {a b:Bool} (h:a=true) (k:b=true):(a&&b)=true:=by rw [h,k]; rfl
theorem Gw:joinedFacts Tryz.checked.prog 3 Tryz.f3 Rows.payGrowsSpec Rows.payGrowsRow=true:=by
  unfold joinedFacts
  exact oC (oC (oC (oC (oC (oC (oC (oC (oC (oC (oC (oC (oC (oC (oC (oC (oC (oC (oC (oC (oC (oC (oC (oC (oC (oC (oC (oC (oC (oC (oC QV QW) QX) QY) QZ) Q0) Q1) Q2) Q3) Q4) NK) NL) NM) NN) NP) NQ) NR) NS) NT) NU) NV) NW) NX) NY) NZ) N0) N1) N2) N3) N4) N5) N6
theorem K3:Rows.PayGrowsSaid :=
  OpenClaim.holds_of_wide 3 Tryz.f3 rfl rfl rfl rfl rfl rfl rfl ⟨rfl,rfl,rfl,rfl,rfl⟩ rfl rfl rfl rfl rfl (by kernel_rfl) Tryz.func3 Gw
    (of_decide_eq_true (by kernel_rfl)) (by unfold Func.isWrapper; first | (rw [if_pos (by decide +kernel)]; kernel_rfl) | (rw [if_neg (by decide +kernel)]; exact ⟨rfl,rfl⟩))
    (fun os started H enc _=>Gv os started H enc)
theorem payGrows_holds:Rows.PayGrowsCardSaid :=
  Claim7.holds_tied_plain_at .later [] [.widerDeep] true Rows.payGrowsCard.stood.harness Rows.payGrowsCard.stood.looks
    K3 (fun _ h=>by cases h) (by kernel_rfl) (fun _ h=>by cases h) payGrows_row_tie rfl ⟨rfl,rfl⟩ (by kernel_rfl) rfl
    (fun f fn hf Un=>by
      obtain rfl:f=3:=Option.some.inj ((show Tryz.prog.funcNamed "allonge/allongelaw27.PayGrows" = some 3 by kernel_rfl).symm.trans hf) |>.symm
      obtain rfl:fn=Tryz.f3:=(Option.some.inj (Tryz.func3.symm.trans Un)).symm
      exact ⟨by kernel_rfl,fun j t ht=>by
        have hm:t∈Tryz.f3.params.toList:=by simpa using Array.mem_of_getElem? ht
        have pa:(Tryz.f3.params.toList.all fun u=>!Tryz.prog.wantsStandIn u)=true:=by kernel_rfl
        exact (show Tryz.prog.wantsStandIn t=false by simpa using List.all_eq_true.1 pa t hm)⟩)
    (by kernel_rfl)


end Go.Proofs.YtgmnlkccjlnnbaaGreatDoor

