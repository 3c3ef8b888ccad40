/- The given statement suitKnows, proved. -/
import Derived.Test.YtonkchddcgcopaaGreatDoorSj
import Derived.Test.YtonkchddcgcopaaGreatDoorLd
import Derived.Test.YtonkchddcgcopaaGreatDoorRows
import Derived.Test.YtonkchddcgcopaaGreatDoorTie
import Derived.Test.YtonkchddcgcopaaGreatDoorCards
import Derived.ProofKit
import Derived.LaidMore
import Derived.OpenShut
import Derived.SevenTiedAt
set_option linter.unusedSimpArgs false
set_option linter.unusedVariables false
set_option maxRecDepth 100000
namespace Go.Proofs.YtonkchddcgcopaaGreatDoor
open Go Go.Av Go.ChangeShapes Go.WideShapes Go.ChangeAt Go.RowKit
def Ub:List (String × DataW Unit):=[("allonge/order.numbers",Rows.laid_allonge_order_numbers)]
theorem agc:Tryz.prog.globalNamed "allonge/order.numbers" = some 0:=by kernel_rfl
theorem agd:(Tryz.prog.globals[0]?).map (·.type)=some 227:=by kernel_rfl
theorem acI {W:World} (h:laidMetH Tryz.prog Ub W):kO W fun b=>b < W.heap.size:=by
  rw [MakeChecks.laidMetH_plain _ _ _ (by kernel_rfl)] at h
  obtain ⟨ps,⟨g1,t1,N6,f1,p1,q1,hg1,ht1,hv1,Z3,_,_⟩,_,_⟩:=h
  obtain rfl:=Option.some.inj (agc.symm.trans hg1)
  obtain rfl:=Option.some.inj (agd.symm.trans ht1)
  have age:Tryz.prog.underlying 227=some (.array 10 3):=by kernel_rfl
  have hu3:Tryz.prog.underlying 3=some (.int .i64):=by kernel_rfl
  obtain ⟨xs,m1,rfl,KD,hlen,hn3,hel⟩:=DataW.trod_array age Z3
  have c3:Tryz.prog.cellsOf 3=1:=by kernel_rfl
  have ah2:Tryz.prog.cellsOf 227=10:=by kernel_rfl
  simp only [Rows.laid_allonge_order_numbers,Prod.mk.injEq,DataW.agg.injEq] at KD
  have hl:N6.toList.length=10:=hlen.trans ah2
  have each:∀ j n,j < 10→xs[j]?.map (·.1)=some (.lit (.int .i64 n))→W.cell? ⟨0,j,none⟩=some (.int .i64 n):=by
    intro j n hj hx
    have h0:=hel j (by omega)
    rw [c3] at h0
    cases hxj:xs[j]? with
    | none=>rw [hxj] at hx; cases hx
    | some y =>
      rw [hxj] at hx h0
      simp only [Option.map_some,Option.some.injEq] at hx
      obtain ⟨k,e1,e2,_⟩:=DataW.trod_int hu3 h0
      rw [e2] at hx
      simp only [DataW.lit.injEq,Lit.int.injEq,true_and] at hx
      subst hx
      have VH:j < N6.toList.length:=by omega
      have:=World.var?_cell hg1 hv1 j
      have e3:(N6.toList.drop (j * 1)).take 1=[N6.toList[j]]:=by
        rw [Nat.mul_one,List.drop_eq_getElem_cons VH]
        rfl
      rw [e3] at e1
      simp only [List.cons.injEq,and_true] at e1
      rw [this]
      simp only [Array.length_toList] at VH
      rw [Array.getElem?_eq_getElem VH]
      simpa using e1
  have blk:∀ j v,W.cell? ⟨0,j,none⟩=some v→0 < W.heap.size:=by
    intro j v hv
    unfold World.cell? at hv
    split at hv
    · rename_i hh
      exact (Array.getElem?_eq_some_iff.1 hh).1
    · cases hv
  intro p hp
  obtain rfl:p=(0,[dI 6,dI 7,dI 10,dI 12,dI 13,dI 14,dI 15,dI 16,dI 20,dI 21]):=by simpa [E5.gl] using hp
  have hx:∀ j,j < 10→xs[j]?.map (·.1)=some (.lit (.int .i64 (([6,7,10,12,13,14,15,16,20,21]:List Int).getD j 0))):=by
    intro j hj
    have e:=KD.1
    have:xs.map (·.1)=([6,7,10,12,13,14,15,16,20,21]:List Int).map fun n=>DataW.lit (.int .i64 n):=e.symm
    rw [← List.getElem?_map,this]
    have:j=0∨j=1∨j=2∨j=3∨j=4∨j=5∨j=6∨j=7∨j=8∨j=9:=by omega
    rcases this with rfl | rfl | rfl | rfl | rfl | rfl | rfl | rfl | rfl | rfl <;> rfl
  refine ⟨fun j=>.int .i64 (([6,7,10,12,13,14,15,16,20,21]:List Int).getD j 0),fun j hj=>?_,fun j hj=>?_⟩
  · have hj:j < 10:=hj
    rw [Nat.zero_add]
    exact ⟨blk j _ (each j _ hj (hx j hj)),each j _ hj (hx j hj)⟩
  · have hj:j < 10:=hj
    have:j=0∨j=1∨j=2∨j=3∨j=4∨j=5∨j=6∨j=7∨j=8∨j=9:=by omega
    rcases this with rfl | rfl | rfl | rfl | rfl | rfl | rfl | rfl | rfl | rfl <;> exact .v _ rfl

theorem Top.own:ownKnob Tryz.prog.godebug=none:=by kernel_rfl
theorem Top.laidOut:laidOutB Tryz.prog=true:=by kernel_rfl
theorem aa7 (os:Os) (args:Array Value):laidMetH Tryz.prog Ub ((World.doorLaid Tryz.prog 400 os).forCall (fun _ _=>0) ⟨#[],args,[]⟩).memory :=
  laidMetH_of_parts3 (fuel:=8) (laidMet_of_run' 8 (by kernel_rfl) (by kernel_rfl)) (by kernel_rfl) (by kernel_rfl)

def CL:List Nat:=[31,32,34,35,3,36,22,23,24,25,26,27,28,29,50,53,9,124,127,129,121,131,133,135,45,46,47,48,4,118,119,43,140,95,104,166,161,159,157]
theorem IH {H:Type} {enc:TypeId × Value→H} {P:Program} {w:World} {base:Nat} {sp:Nat→Bool} {held:Bool}:∀ {ts:List TypeId} {vs:List Value} {ds:List (DataW H)} {ps:List MemPlace},DataW.TrodAll enc P w base sp held ts vs ds ps→ds.length=ts.length
  | [],[],[],_,_=>rfl
  | _ :: _,_ :: _,_ :: _,_,h=>by
    obtain ⟨p,q,_,h2,_⟩:=h
    simp [IH h2]
  | [],_ :: _,_,_,h=>by cases h
  | [],[],_ :: _,_,h=>by cases h
  | _ :: _,[],_,_,h=>by cases h
  | _ :: _,_ :: _,[],_,h=>by cases h
set_option maxRecDepth 100000 in
theorem Ha (os:Os) (started:os.Started) (H:Type) (enc:TypeId × Value→H) :
    ReturnsInHanded {} Tryz.checked os 3 .any (fun w args=>(Rows.suitKnowsSpec.pre enc Tryz.prog Tryz.f3 [] false w args∧laidMetH Tryz.prog Ub w)∧sizedMet enc Tryz.prog Tryz.f3 (OpenSpec.ofChange Rows.suitKnowsSpec) false w args)
      (Rows.suitKnowsSpec.post enc Tryz.prog Tryz.f3 false true false false):=by
  refine returnsInHanded_of_change_and (C:=Tryz.checked) (X:=fun w _=>laidMetH Tryz.prog Ub w) (fun _ _ _ hh h=>h.of_heap hh) Top.own started (by kernel_rfl) Tryz.func3
    (ChangeSpec.witness_shaped (enc:=enc) (C:=Tryz.checked) (os:=os) (X:=fun w _=>laidMetH Tryz.prog Ub w) false (World.doorLaid Tryz.prog 400 os) #[.agg #[.slice none 0 0,.slice none 0 0,.slice none 0 0,.slice none 0 0,.slice none 0 0,.slice none 0 0,.slice none 0 0,.slice none 0 0],.slice none 0 0,.agg #[.int .i64 0,.int .i64 0,.int .i64 0,.int .i64 0,.int .i64 0,.int .i64 0,.int .i64 0],.slice none 0 0,.int .i64 0,.slice none 0 0] 12 rfl (World.shaped_of_RefB (by kernel_rfl) (by kernel_rfl)) (by kernel_rfl) (by kernel_rfl) (by kernel_rfl) (aa7 os _)) ?_
  intro W base args ds gs before aaN hW _ _ hL _
  refine Zd (P:=Tryz.prog) (T:=TT) (cl:=CL) (tb:=4) (base:=base) (fn:=Tryz.f3) tok Top.laidOut (by kernel_rfl) (by kernel_rfl) (by kernel_rfl) (by kernel_rfl) (by kernel_rfl) rfl aaN hW (acI hL) ?_ (fun VL h=>BU FB VL h)
  obtain ⟨p,q,hA,hV,-⟩:=hW
  obtain ⟨rfl,rfl⟩:=trodVars_none hV
  have hlen:ds.length=6:=IH hA
  match ds,hlen with
  | [_,_,_,_,_,_],_=>exact ⟨rfl,rfl,rfl⟩
theorem Rh:(Rows.suitKnowsRow.wf (OpenSpec.ofChange Rows.suitKnowsSpec))=true:=by kernel_rfl
theorem Ri:(laidOutB Tryz.checked.prog)=true:=by kernel_rfl
theorem Rj:(mapsRowed Tryz.checked.prog)=true:=by kernel_rfl
theorem Rk:(Tryz.f3.params.all (Tryz.checked.prog.readableRec ·))=true:=by kernel_rfl
theorem Rl:(namedTie Tryz.checked.prog Rows.suitKnowsRow.named Rows.suitKnowsSpec.vars)=true:=by kernel_rfl
theorem Rm:((Rows.suitKnowsRow.stops == []))=true:=by kernel_rfl
theorem Rn:((Tryz.checked.prog.stops == []))=true:=by kernel_rfl
theorem Ro:((Rows.suitKnowsRow.knobs == []))=true:=by kernel_rfl
theorem Rp:((Tryz.checked.prog.stopKnobs == []))=true:=by kernel_rfl
theorem Rq:((Rows.suitKnowsRow.inPlace == Tryz.checked.prog.inPlace 3))=true:=by kernel_rfl
theorem Oc:((Rows.suitKnowsRow.unfollowed == Tryz.checked.prog.unfollowed 3))=true:=by kernel_rfl
theorem Od:((Rows.suitKnowsRow.recurses == Tryz.checked.prog.recurses 3))=true:=by kernel_rfl
theorem Oe:((Rows.suitKnowsRow.named == Tryz.checked.prog.varsNamed 3))=true:=by kernel_rfl
theorem Og:((Rows.suitKnowsRow.maps == (Tryz.f3.params.toList++Rows.suitKnowsSpec.plain.varTypes Tryz.checked.prog).any (Tryz.checked.prog.mapsRec ·)))=true:=by kernel_rfl
theorem Oh:((Rows.suitKnowsRow.ifaces == (Tryz.f3.params.toList++Rows.suitKnowsSpec.plain.varTypes Tryz.checked.prog).any (Tryz.checked.prog.ifacesRec ·)))=true:=by kernel_rfl
theorem Oi:((Rows.suitKnowsRow.mapsOut == Tryz.checked.prog.mapsAmong Tryz.f3.resultTypes.toList))=true:=by kernel_rfl
theorem Oj:((Rows.suitKnowsRow.loops == (Tryz.f3.params.toList++Rows.suitKnowsSpec.plain.varTypes Tryz.checked.prog).any (Tryz.checked.prog.loopsFrom ·)))=true:=by kernel_rfl
theorem Ol:((Rows.suitKnowsRow.wideKeys == (Tryz.f3.params.toList++Rows.suitKnowsSpec.plain.varTypes Tryz.checked.prog++Tryz.f3.resultTypes.toList).any (Tryz.checked.prog.wideKeysFrom ·)))=true:=by kernel_rfl
theorem Om:(Rows.suitKnowsSpec.vars.all (Tryz.checked.prog.varReadable ·))=true:=by kernel_rfl
theorem Oo:(Tryz.f3.resultTypes.all (fun t=>Tryz.checked.prog.readableRec t&&decide (t < Tryz.checked.prog.types.size)))=true:=by kernel_rfl
theorem Oq:((Rows.suitKnowsRow.ifacesOut == Tryz.f3.resultTypes.toList.any (Tryz.checked.prog.ifacesRec ·)))=true:=by kernel_rfl
theorem Ot:((Rows.suitKnowsRow.loopsOut == Tryz.f3.resultTypes.toList.any (Tryz.checked.prog.loopsFrom ·)))=true:=by kernel_rfl
theorem Ou:((Rows.suitKnowsRow.plainKeys == Tryz.checked.prog.plainKeys))=true:=by kernel_rfl
theorem Ov:(Rows.suitKnowsRow.shortTexts.isNone)=true:=by kernel_rfl
theorem Ow:(Tryz.checked.prog.stopsHeard)=true:=by kernel_rfl
theorem Ox:(Tryz.checked.prog.mayEnter)=true:=by kernel_rfl
theorem Oy:((Rows.suitKnowsRow.lifted == Tryz.checked.prog.liftsFinal))=true:=by kernel_rfl
theorem Oz:((Tryz.checked.prog.make == some Rows.suitKnowsRow.make))=true:=by kernel_rfl
theorem OA:((Rows.suitKnowsRow.kinds == (if Rows.suitKnowsRow.domain.isEmpty then [] else Tryz.f3.params.toList.map fun t=>match Tryz.checked.prog.underlying t with | some (.int k)=>some k | _=>none)))=true:=by kernel_rfl
theorem OB:((Rows.suitKnowsRow.pinned == Rows.suitKnowsRow.pinnedBy))=true:=by kernel_rfl
theorem OC:((Rows.suitKnowsRow.veiled == (Tryz.f3.params.toList++Rows.suitKnowsSpec.plain.varTypes Tryz.checked.prog++Tryz.f3.resultTypes.toList).any (Tryz.checked.prog.veiledRec ·)))=true:=by kernel_rfl
theorem OD:(Rows.suitKnowsRow.veiledFits Tryz.checked.prog Tryz.f3.params.toList (Tryz.f3.params.toList++Rows.suitKnowsSpec.plain.varTypes Tryz.checked.prog++Tryz.f3.resultTypes.toList))=true:=by kernel_rfl
theorem qF {a b:Bool} (h:a=true) (k:b=true):(a&&b)=true:=by rw [h,k]; rfl
theorem Hb:joinedFacts Tryz.checked.prog 3 Tryz.f3 Rows.suitKnowsSpec Rows.suitKnowsRow=true:=by
  unfold joinedFacts
  exact qF (qF (qF (qF (qF (qF (qF (qF (qF (qF (qF (qF (qF (qF (qF (qF (qF (qF (qF (qF (qF (qF (qF (qF (qF (qF (qF (qF (qF (qF (qF Rh Ri) Rj) Rk) Rl) Rm) Rn) Ro) Rp) Rq) Oc) Od) Oe) Og) Oh) Oi) Oj) Ol) Om) Oo) Oq) Ot) Ou) Ov) Ow) Ox) Oy) Oz) OA) OB) OC) OD
theorem LO:Rows.SuitKnowsSaid :=
  OpenClaim.holds_of_wide 3 Tryz.f3 rfl rfl rfl rfl rfl rfl rfl ⟨rfl,rfl,rfl,rfl,rfl⟩ rfl rfl rfl rfl rfl (by kernel_rfl) Tryz.func3 Hb
    (of_decide_eq_true (by kernel_rfl)) (by unfold Func.isWrapper; first | (rw [if_pos (by decide +kernel)]; kernel_rfl) | (rw [if_neg (by decide +kernel)]; exact ⟨rfl,rfl⟩))
    (fun os started H enc _=>Ha os started H enc)
theorem suitKnows_holds:Rows.SuitKnowsCardSaid :=
  Claim7.holds_tied_plain_at .later [] [.widerDeep] true Rows.suitKnowsCard.stood.harness Rows.suitKnowsCard.stood.looks
    LO (fun _ h=>by cases h) (by kernel_rfl) (fun _ h=>by cases h) suitKnows_row_tie rfl ⟨rfl,rfl⟩ (by kernel_rfl) rfl
    (fun f fn hf YQ=>by
      obtain rfl:f=3:=Option.some.inj ((show Tryz.prog.funcNamed "allonge/allongelaw46.SuitKnows" = some 3 by kernel_rfl).symm.trans hf) |>.symm
      obtain rfl:fn=Tryz.f3:=(Option.some.inj (Tryz.func3.symm.trans YQ)).symm
      exact ⟨by kernel_rfl,fun j t ht=>by
        have hm:t∈Tryz.f3.params.toList:=by simpa using Array.mem_of_getElem? ht
        have rq:(Tryz.f3.params.toList.all fun u=>!Tryz.prog.wantsStandIn u)=true:=by kernel_rfl
        exact (show Tryz.prog.wantsStandIn t=false by simpa using List.all_eq_true.1 rq t hm)⟩)
    (by kernel_rfl)


end Go.Proofs.YtonkchddcgcopaaGreatDoor

