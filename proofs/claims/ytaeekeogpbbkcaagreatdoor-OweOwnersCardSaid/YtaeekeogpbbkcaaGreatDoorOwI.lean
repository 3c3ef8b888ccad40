/- The given statement oweOwners, proved. -/
import Derived.Test.YtaeekeogpbbkcaaGreatDoorLi
import Derived.Test.YtaeekeogpbbkcaaGreatDoorLc
import Derived.Test.YtaeekeogpbbkcaaGreatDoorRows
import Derived.Test.YtaeekeogpbbkcaaGreatDoorTie
import Derived.Test.YtaeekeogpbbkcaaGreatDoorCards
import Derived.ProofKit
import Derived.LaidMore
import Derived.OpenShut
import Derived.SevenTiedAt
set_option linter.unusedSimpArgs false
set_option linter.unusedVariables false
set_option maxRecDepth 100000
namespace Go.Proofs.YtaeekeogpbbkcaaGreatDoor
open Go Go.Av Go.ChangeShapes Go.WideShapes Go.ChangeAt Go.RowKit
def VR:List (String × DataW Unit):=[("allonge/order.numbers",Rows.laid_allonge_order_numbers)]
theorem ag2:Tryz.prog.globalNamed "allonge/order.numbers" = some 0:=by kernel_rfl
theorem ag3:(Tryz.prog.globals[0]?).map (·.type)=some 277:=by kernel_rfl
theorem adu {W:World} (h:laidMetH Tryz.prog VR W):jU W fun b=>b < W.heap.size:=by
  rw [MakeChecks.laidMetH_plain _ _ _ (by kernel_rfl)] at h
  obtain ⟨ps,⟨g1,t1,NA,f1,p1,q1,hg1,ht1,hv1,hd1,_,_⟩,_,_⟩:=h
  obtain rfl:=Option.some.inj (ag2.symm.trans hg1)
  obtain rfl:=Option.some.inj (ag3.symm.trans ht1)
  have ag4:Tryz.prog.underlying 277=some (.array 10 3):=by kernel_rfl
  have hu3:Tryz.prog.underlying 3=some (.int .i64):=by kernel_rfl
  obtain ⟨xs,m1,rfl,VU,hlen,hn3,hel⟩:=DataW.trod_array ag4 hd1
  have c3:Tryz.prog.cellsOf 3=1:=by kernel_rfl
  have aiU:Tryz.prog.cellsOf 277=10:=by kernel_rfl
  simp only [Rows.laid_allonge_order_numbers,Prod.mk.injEq,DataW.agg.injEq] at VU
  have hl:NA.toList.length=10:=hlen.trans aiU
  have each:∀ j n,j < 10→xs[j]?.map (·.1)=some (.lit (.int .i64 n))→W.cell? ⟨0,j,none⟩=some (.int .i64 n):=by
    intro j n hj hx
    have h0:=hel j (by omega)
    rw [c3] at h0
    cases hxj:xs[j]? with
    | none=>rw [hxj] at hx; cases hx
    | some y =>
      rw [hxj] at hx h0
      simp only [Option.map_some,Option.some.injEq] at hx
      obtain ⟨k,e1,e2,_⟩:=DataW.trod_int hu3 h0
      rw [e2] at hx
      simp only [DataW.lit.injEq,Lit.int.injEq,true_and] at hx
      subst hx
      have hj2:j < NA.toList.length:=by omega
      have:=World.var?_cell hg1 hv1 j
      have e3:(NA.toList.drop (j * 1)).take 1=[NA.toList[j]]:=by
        rw [Nat.mul_one,List.drop_eq_getElem_cons hj2]
        rfl
      rw [e3] at e1
      simp only [List.cons.injEq,and_true] at e1
      rw [this]
      simp only [Array.length_toList] at hj2
      rw [Array.getElem?_eq_getElem hj2]
      simpa using e1
  have blk:∀ j v,W.cell? ⟨0,j,none⟩=some v→0 < W.heap.size:=by
    intro j v hv
    unfold World.cell? at hv
    split at hv
    · rename_i hh
      exact (Array.getElem?_eq_some_iff.1 hh).1
    · cases hv
  intro p hp
  obtain rfl:p=(0,[dI 6,dI 7,dI 10,dI 12,dI 13,dI 14,dI 15,dI 16,dI 20,dI 21]):=by simpa [Ea.gl] using hp
  have hx:∀ j,j < 10→xs[j]?.map (·.1)=some (.lit (.int .i64 (([6,7,10,12,13,14,15,16,20,21]:List Int).getD j 0))):=by
    intro j hj
    have e:=VU.1
    have:xs.map (·.1)=([6,7,10,12,13,14,15,16,20,21]:List Int).map fun n=>DataW.lit (.int .i64 n):=e.symm
    rw [← List.getElem?_map,this]
    have:j=0∨j=1∨j=2∨j=3∨j=4∨j=5∨j=6∨j=7∨j=8∨j=9:=by omega
    rcases this with rfl | rfl | rfl | rfl | rfl | rfl | rfl | rfl | rfl | rfl <;> rfl
  refine ⟨fun j=>.int .i64 (([6,7,10,12,13,14,15,16,20,21]:List Int).getD j 0),fun j hj=>?_,fun j hj=>?_⟩
  · have hj:j < 10:=hj
    rw [Nat.zero_add]
    exact ⟨blk j _ (each j _ hj (hx j hj)),each j _ hj (hx j hj)⟩
  · have hj:j < 10:=hj
    have:j=0∨j=1∨j=2∨j=3∨j=4∨j=5∨j=6∨j=7∨j=8∨j=9:=by omega
    rcases this with rfl | rfl | rfl | rfl | rfl | rfl | rfl | rfl | rfl | rfl <;> exact .v _ rfl

theorem Top.own:ownKnob Tryz.prog.godebug=none:=by kernel_rfl
theorem Top.laidOut:laidOutB Tryz.prog=true:=by kernel_rfl
theorem acq (os:Os) (args:Array Value):laidMetH Tryz.prog VR ((World.doorLaid Tryz.prog 400 os).forCall (fun _ _=>0) ⟨#[],args,[]⟩).memory :=
  laidMetH_of_parts3 (fuel:=8) (laidMet_of_run' 8 (by kernel_rfl) (by kernel_rfl)) (by kernel_rfl) (by kernel_rfl)

def CL:List Nat:=[31,3,41,22,23,24,25,26,27,28,29,35,36,37,38,39,9,105,107,109,65,165,167,169,33,94,117,126,111,55,4,62,63,215,71,69,67]
theorem Jg {H:Type} {enc:TypeId × Value→H} {P:Program} {w:World} {base:Nat} {sp:Nat→Bool} {held:Bool}:∀ {ts:List TypeId} {vs:List Value} {ds:List (DataW H)} {ps:List MemPlace},DataW.TrodAll enc P w base sp held ts vs ds ps→ds.length=ts.length
  | [],[],[],_,_=>rfl
  | _ :: _,_ :: _,_ :: _,_,h=>by
    obtain ⟨p,q,_,h2,_⟩:=h
    simp [Jg h2]
  | [],_ :: _,_,_,h=>by cases h
  | [],[],_ :: _,_,h=>by cases h
  | _ :: _,[],_,_,h=>by cases h
  | _ :: _,_ :: _,[],_,h=>by cases h
set_option maxRecDepth 100000 in
theorem Ix (os:Os) (started:os.Started) (H:Type) (enc:TypeId × Value→H) :
    ReturnsInHanded {} Tryz.checked os 3 .any (fun w args=>(Rows.oweOwnersSpec.pre enc Tryz.prog Tryz.f3 [] false w args∧laidMetH Tryz.prog VR w)∧sizedMet enc Tryz.prog Tryz.f3 (OpenSpec.ofChange Rows.oweOwnersSpec) false w args)
      (Rows.oweOwnersSpec.post enc Tryz.prog Tryz.f3 false true false false):=by
  refine returnsInHanded_of_change_and (C:=Tryz.checked) (X:=fun w _=>laidMetH Tryz.prog VR w) (fun _ _ _ hh h=>h.of_heap hh) Top.own started (by kernel_rfl) Tryz.func3
    (ChangeSpec.witness_shaped (enc:=enc) (C:=Tryz.checked) (os:=os) (X:=fun w _=>laidMetH Tryz.prog VR w) false (World.doorLaid Tryz.prog 400 os) #[.agg #[.slice none 0 0,.slice none 0 0,.slice none 0 0,.slice none 0 0,.slice none 0 0,.slice none 0 0,.slice none 0 0,.slice none 0 0],.int .i64 0,.agg #[.int .i64 0,.int .i64 0,.int .i64 0,.int .i64 0,.int .i64 0,.int .i64 0,.int .i64 0,.int .i64 0,.int .i64 0,.int .i64 0,.int .i64 0,.int .i64 0,.int .i64 0,.int .i64 0,.int .i64 0,.slice none 0 0,.slice none 0 0,.slice none 0 0,.slice none 0 0],.int .i64 0,.int .i64 0] 12 rfl (World.shaped_of_RefB (by kernel_rfl) (by kernel_rfl)) (by kernel_rfl) (by kernel_rfl) (by kernel_rfl) (acq os _)) ?_
  intro W base args ds gs before aa2 hW _ _ hL _
  refine Zt (P:=Tryz.prog) (T:=TT) (cl:=CL) (tb:=4) (base:=base) (fn:=Tryz.f3) tok Top.laidOut (by kernel_rfl) (by kernel_rfl) (by kernel_rfl) (by kernel_rfl) (by kernel_rfl) rfl aa2 hW (adu hL) ?_ (fun VV h=>C7 Ha VV h)
  obtain ⟨p,q,hA,hV,-⟩:=hW
  obtain ⟨rfl,rfl⟩:=trodVars_none hV
  have hlen:ds.length=5:=Jg hA
  match ds,hlen with
  | [_,_,_,_,_],_=>exact ⟨rfl,rfl,rfl⟩
theorem SB:(Rows.oweOwnersRow.wf (OpenSpec.ofChange Rows.oweOwnersSpec))=true:=by kernel_rfl
theorem SC:(laidOutB Tryz.checked.prog)=true:=by kernel_rfl
theorem SD:(mapsRowed Tryz.checked.prog)=true:=by kernel_rfl
theorem SE:(Tryz.f3.params.all (Tryz.checked.prog.readableRec ·))=true:=by kernel_rfl
theorem SF:(namedTie Tryz.checked.prog Rows.oweOwnersRow.named Rows.oweOwnersSpec.vars)=true:=by kernel_rfl
theorem SG:((Rows.oweOwnersRow.stops == []))=true:=by kernel_rfl
theorem SH:((Tryz.checked.prog.stops == []))=true:=by kernel_rfl
theorem SI:((Rows.oweOwnersRow.knobs == []))=true:=by kernel_rfl
theorem SJ:((Tryz.checked.prog.stopKnobs == []))=true:=by kernel_rfl
theorem SK:((Rows.oweOwnersRow.inPlace == Tryz.checked.prog.inPlace 3))=true:=by kernel_rfl
theorem O5:((Rows.oweOwnersRow.unfollowed == Tryz.checked.prog.unfollowed 3))=true:=by kernel_rfl
theorem O6:((Rows.oweOwnersRow.recurses == Tryz.checked.prog.recurses 3))=true:=by kernel_rfl
theorem O7:((Rows.oweOwnersRow.named == Tryz.checked.prog.varsNamed 3))=true:=by kernel_rfl
theorem O8:((Rows.oweOwnersRow.maps == (Tryz.f3.params.toList++Rows.oweOwnersSpec.plain.varTypes Tryz.checked.prog).any (Tryz.checked.prog.mapsRec ·)))=true:=by kernel_rfl
theorem O9:((Rows.oweOwnersRow.ifaces == (Tryz.f3.params.toList++Rows.oweOwnersSpec.plain.varTypes Tryz.checked.prog).any (Tryz.checked.prog.ifacesRec ·)))=true:=by kernel_rfl
theorem Pa:((Rows.oweOwnersRow.mapsOut == Tryz.checked.prog.mapsAmong Tryz.f3.resultTypes.toList))=true:=by kernel_rfl
theorem Pb:((Rows.oweOwnersRow.loops == (Tryz.f3.params.toList++Rows.oweOwnersSpec.plain.varTypes Tryz.checked.prog).any (Tryz.checked.prog.loopsFrom ·)))=true:=by kernel_rfl
theorem Pc:((Rows.oweOwnersRow.wideKeys == (Tryz.f3.params.toList++Rows.oweOwnersSpec.plain.varTypes Tryz.checked.prog++Tryz.f3.resultTypes.toList).any (Tryz.checked.prog.wideKeysFrom ·)))=true:=by kernel_rfl
theorem Pd:(Rows.oweOwnersSpec.vars.all (Tryz.checked.prog.varReadable ·))=true:=by kernel_rfl
theorem Pe:(Tryz.f3.resultTypes.all (fun t=>Tryz.checked.prog.readableRec t&&decide (t < Tryz.checked.prog.types.size)))=true:=by kernel_rfl
theorem Pf:((Rows.oweOwnersRow.ifacesOut == Tryz.f3.resultTypes.toList.any (Tryz.checked.prog.ifacesRec ·)))=true:=by kernel_rfl
theorem Pg:((Rows.oweOwnersRow.loopsOut == Tryz.f3.resultTypes.toList.any (Tryz.checked.prog.loopsFrom ·)))=true:=by kernel_rfl
theorem Ph:((Rows.oweOwnersRow.plainKeys == Tryz.checked.prog.plainKeys))=true:=by kernel_rfl
theorem Pj:(Rows.oweOwnersRow.shortTexts.isNone)=true:=by kernel_rfl
theorem Pk:(Tryz.checked.prog.stopsHeard)=true:=by kernel_rfl
theorem Pl:(Tryz.checked.prog.mayEnter)=true:=by kernel_rfl
theorem Pm:((Rows.oweOwnersRow.lifted == Tryz.checked.prog.liftsFinal))=true:=by kernel_rfl
theorem Pn:((Tryz.checked.prog.make == some Rows.oweOwnersRow.make))=true:=by kernel_rfl
theorem Po:((Rows.oweOwnersRow.kinds == (if Rows.oweOwnersRow.domain.isEmpty then [] else Tryz.f3.params.toList.map fun t=>match Tryz.checked.prog.underlying t with | some (.int k)=>some k | _=>none)))=true:=by kernel_rfl
theorem Pp:((Rows.oweOwnersRow.pinned == Rows.oweOwnersRow.pinnedBy))=true:=by kernel_rfl
theorem Pq:((Rows.oweOwnersRow.veiled == (Tryz.f3.params.toList++Rows.oweOwnersSpec.plain.varTypes Tryz.checked.prog++Tryz.f3.resultTypes.toList).any (Tryz.checked.prog.veiledRec ·)))=true:=by kernel_rfl
theorem Pr:(Rows.oweOwnersRow.veiledFits Tryz.checked.prog Tryz.f3.params.toList (Tryz.f3.params.toList++Rows.oweOwnersSpec.plain.varTypes Tryz.checked.prog++Tryz.f3.resultTypes.toList))=true:=by kernel_rfl
theorem pS {a b:Bool} (h:a=true) (k:b=true):(a&&b)=true:=by rw [h,k]; rfl
theorem Iy:joinedFacts Tryz.checked.prog 3 Tryz.f3 Rows.oweOwnersSpec Rows.oweOwnersRow=true:=by
  unfold joinedFacts
  exact pS (pS (pS (pS (pS (pS (pS (pS (pS (pS (pS (pS (pS (pS (pS (pS (pS (pS (pS (pS (pS (pS (pS (pS (pS (pS (pS (pS (pS (pS (pS SB SC) SD) SE) SF) SG) SH) SI) SJ) SK) O5) O6) O7) O8) O9) Pa) Pb) Pc) Pd) Pe) Pf) Pg) Ph) Pj) Pk) Pl) Pm) Pn) Po) Pp) Pq) Pr
theorem Nq:Rows.OweOwnersSaid :=
  OpenClaim.holds_of_wide 3 Tryz.f3 rfl rfl rfl rfl rfl rfl rfl ⟨rfl,rfl,rfl,rfl,rfl⟩ rfl rfl rfl rfl rfl (by kernel_rfl) Tryz.func3 Iy
    (of_decide_eq_true (by kernel_rfl)) (by unfold Func.isWrapper; first | (rw [if_pos (by decide +kernel)]; kernel_rfl) | (rw [if_neg (by decide +kernel)]; exact ⟨rfl,rfl⟩))
    (fun os started H enc _=>Ix os started H enc)
theorem oweOwners_holds:Rows.OweOwnersCardSaid :=
  Claim7.holds_tied_plain_at .later [] [.widerDeep] true Rows.oweOwnersCard.stood.harness Rows.oweOwnersCard.stood.looks
    Nq (fun _ h=>by cases h) (by kernel_rfl) (fun _ h=>by cases h) oweOwners_row_tie rfl ⟨rfl,rfl⟩ (by kernel_rfl) rfl
    (fun f fn hf Y9=>by
      obtain rfl:f=3:=Option.some.inj ((show Tryz.prog.funcNamed "allonge/allongelaw26.OweOwners" = some 3 by kernel_rfl).symm.trans hf) |>.symm
      obtain rfl:fn=Tryz.f3:=(Option.some.inj (Tryz.func3.symm.trans Y9)).symm
      exact ⟨by kernel_rfl,fun j t ht=>by
        have hm:t∈Tryz.f3.params.toList:=by simpa using Array.mem_of_getElem? ht
        have pF:(Tryz.f3.params.toList.all fun u=>!Tryz.prog.wantsStandIn u)=true:=by kernel_rfl
        exact (show Tryz.prog.wantsStandIn t=false by simpa using List.all_eq_true.1 pF t hm)⟩)
    (by kernel_rfl)


end Go.Proofs.YtaeekeogpbbkcaaGreatDoor

