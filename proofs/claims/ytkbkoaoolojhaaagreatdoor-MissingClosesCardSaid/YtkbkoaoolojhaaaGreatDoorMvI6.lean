/- The given statement missingCloses, proved. -/
import Derived.Test.YtkbkoaoolojhaaaGreatDoorM6
import Derived.Test.YtkbkoaoolojhaaaGreatDoorLc
import Derived.Test.YtkbkoaoolojhaaaGreatDoorRows
import Derived.Test.YtkbkoaoolojhaaaGreatDoorTie
import Derived.Test.YtkbkoaoolojhaaaGreatDoorCards
import Derived.ProofKit
import Derived.LaidMore
import Derived.OpenShut
import Derived.SevenTiedAt
set_option linter.unusedSimpArgs false
set_option linter.unusedVariables false
set_option maxRecDepth 100000
namespace Go.Proofs.YtkbkoaoolojhaaaGreatDoor
open Go Go.Av Go.ChangeShapes Go.WideShapes Go.ChangeAt Go.RowKit
def mN:List (String × DataW Unit):=[("allonge/order.numbers",Rows.laid_allonge_order_numbers)]
theorem OE:Tryz.prog.globalNamed "allonge/order.numbers" = some 0:=by kernel_rfl
theorem OG:(Tryz.prog.globals[0]?).map (·.type)=some 274:=by kernel_rfl
theorem zl {W:World} (h:laidMetH Tryz.prog mN W):gM W fun b=>b < W.heap.size:=by
  rw [MakeChecks.laidMetH_plain _ _ _ (by kernel_rfl)] at h
  obtain ⟨ps,⟨g1,t1,zT,f1,p1,q1,ZU,ht1,hv1,LB,_,_⟩,_,_⟩:=h
  obtain rfl:=Option.some.inj (OE.symm.trans ZU)
  obtain rfl:=Option.some.inj (OG.symm.trans ht1)
  have OH:Tryz.prog.underlying 274=some (.array 10 3):=by kernel_rfl
  have hu3:Tryz.prog.underlying 3=some (.int .i64):=by kernel_rfl
  obtain ⟨xs,m1,rfl,Bu,hlen,hn3,hel⟩:=DataW.trod_array OH LB
  have c3:Tryz.prog.cellsOf 3=1:=by kernel_rfl
  have XA:Tryz.prog.cellsOf 274=10:=by kernel_rfl
  simp only [Rows.laid_allonge_order_numbers,Prod.mk.injEq,DataW.agg.injEq] at Bu
  have hl:zT.toList.length=10:=hlen.trans XA
  have each:∀ j n,j < 10→xs[j]?.map (·.1)=some (.lit (.int .i64 n))→W.cell? ⟨0,j,none⟩=some (.int .i64 n):=by
    intro j n hj hx
    have h0:=hel j (by omega)
    rw [c3] at h0
    cases hxj:xs[j]? with
    | none=>rw [hxj] at hx; cases hx
    | some y =>
      rw [hxj] at hx h0
      simp only [Option.map_some,Option.some.injEq] at hx
      obtain ⟨k,e1,e2,_⟩:=DataW.trod_int hu3 h0
      rw [e2] at hx
      simp only [DataW.lit.injEq,Lit.int.injEq,true_and] at hx
      subst hx
      have GC:j < zT.toList.length:=by omega
      have:=World.var?_cell ZU hv1 j
      have e3:(zT.toList.drop (j * 1)).take 1=[zT.toList[j]]:=by
        rw [Nat.mul_one,List.drop_eq_getElem_cons GC]
        rfl
      rw [e3] at e1
      simp only [List.cons.injEq,and_true] at e1
      rw [this]
      simp only [Array.length_toList] at GC
      rw [Array.getElem?_eq_getElem GC]
      simpa using e1
  have blk:∀ j v,W.cell? ⟨0,j,none⟩=some v→0 < W.heap.size:=by
    intro j v hv
    unfold World.cell? at hv
    split at hv
    · rename_i hh
      exact (Array.getElem?_eq_some_iff.1 hh).1
    · cases hv
  intro p hp
  obtain rfl:p=(0,[dI 6,dI 7,dI 10,dI 12,dI 13,dI 14,dI 15,dI 16,dI 20,dI 21]):=by simpa [vr.gl] using hp
  have hx:∀ j,j < 10→xs[j]?.map (·.1)=some (.lit (.int .i64 (([6,7,10,12,13,14,15,16,20,21]:List Int).getD j 0))):=by
    intro j hj
    have e:=Bu.1
    have:xs.map (·.1)=([6,7,10,12,13,14,15,16,20,21]:List Int).map fun n=>DataW.lit (.int .i64 n):=e.symm
    rw [← List.getElem?_map,this]
    have:j=0∨j=1∨j=2∨j=3∨j=4∨j=5∨j=6∨j=7∨j=8∨j=9:=by omega
    rcases this with rfl | rfl | rfl | rfl | rfl | rfl | rfl | rfl | rfl | rfl <;> rfl
  refine ⟨fun j=>.int .i64 (([6,7,10,12,13,14,15,16,20,21]:List Int).getD j 0),fun j hj=>?_,fun j hj=>?_⟩
  · have hj:j < 10:=hj
    rw [Nat.zero_add]
    exact ⟨blk j _ (each j _ hj (hx j hj)),each j _ hj (hx j hj)⟩
  · have hj:j < 10:=hj
    have:j=0∨j=1∨j=2∨j=3∨j=4∨j=5∨j=6∨j=7∨j=8∨j=9:=by omega
    rcases this with rfl | rfl | rfl | rfl | rfl | rfl | rfl | rfl | rfl | rfl <;> exact .v _ rfl

theorem XB.own:ownKnob Tryz.prog.godebug=none:=by kernel_rfl
theorem XB.laidOut:laidOutB Tryz.prog=true:=by kernel_rfl
theorem vg (os:Os) (args:Array Value):laidMetH Tryz.prog mN ((World.doorLaid Tryz.prog 400 os).forCall (fun _ _=>0) ⟨#[],args,[]⟩).memory :=
  laidMetH_of_parts3 (fuel:=8) (laidMet_of_run' 8 (by kernel_rfl) (by kernel_rfl)) (by kernel_rfl) (by kernel_rfl)

def CL:List Nat:=[51,3,31,53,42,43,44,45,46,47,48,49,25,26,27,28,29,9,107,109,111,117,147,149,151,23,74,78,76,37,105,4,115,114,145,113,104,102]
theorem gn {H:Type} {enc:TypeId × Value→H} {P:Program} {w:World} {base:Nat} {sp:Nat→Bool} {held:Bool}:∀ {ts:List TypeId} {vs:List Value} {ds:List (DataW H)} {ps:List MemPlace},DataW.TrodAll enc P w base sp held ts vs ds ps→ds.length=ts.length
  | [],[],[],_,_=>rfl
  | _ :: _,_ :: _,_ :: _,_,h=>by
    obtain ⟨p,q,_,h2,_⟩:=h
    simp [gn h2]
  | [],_ :: _,_,_,h=>by cases h
  | [],[],_ :: _,_,h=>by cases h
  | _ :: _,[],_,_,h=>by cases h
  | _ :: _,_ :: _,[],_,h=>by cases h
set_option maxRecDepth 100000 in
theorem Bh (os:Os) (started:os.Started) (H:Type) (enc:TypeId × Value→H) :
    ReturnsInHanded {} Tryz.checked os 6 .any (fun w args=>(Rows.missingClosesSpec.pre enc Tryz.prog Tryz.f6 [] false w args∧laidMetH Tryz.prog mN w)∧sizedMet enc Tryz.prog Tryz.f6 (OpenSpec.ofChange Rows.missingClosesSpec) false w args)
      (Rows.missingClosesSpec.post enc Tryz.prog Tryz.f6 false true false false):=by
  refine returnsInHanded_of_change_and (C:=Tryz.checked) (X:=fun w _=>laidMetH Tryz.prog mN w) (fun _ _ _ hh h=>h.of_heap hh) XB.own started (by kernel_rfl) Tryz.func6
    (ChangeSpec.witness_shaped (enc:=enc) (C:=Tryz.checked) (os:=os) (X:=fun w _=>laidMetH Tryz.prog mN w) false (World.doorLaid Tryz.prog 400 os) #[.agg #[.slice none 0 0,.slice none 0 0,.slice none 0 0,.slice none 0 0,.slice none 0 0,.slice none 0 0,.slice none 0 0,.slice none 0 0],.int .i64 0,.agg #[.int .i64 0,.int .i64 0,.int .i64 0,.int .i64 0,.int .i64 0,.int .i64 0,.int .i64 0,.int .i64 0,.int .i64 0,.int .i64 0,.int .i64 0,.int .i64 0,.int .i64 0,.int .i64 0,.int .i64 0,.slice none 0 0,.slice none 0 0,.slice none 0 0,.slice none 0 0],.int .i64 0,.agg #[.int .i64 0,.int .i64 0,.int .i64 0,.int .i64 0,.int .i64 0,.int .i64 0,.int .i64 0,.int .i64 0,.int .i64 0],.int .i64 0] 12 rfl (World.shaped_of_RefB (by kernel_rfl) (by kernel_rfl)) (by kernel_rfl) (by kernel_rfl) (by kernel_rfl) (vg os _)) ?_
  intro W base args ds gs before MC hW _ _ hL _
  refine Bv (P:=Tryz.prog) (T:=TT) (cl:=CL) (tb:=4) (base:=base) (fn:=Tryz.f6) tok XB.laidOut (by kernel_rfl) (by kernel_rfl) (by kernel_rfl) (by kernel_rfl) (by kernel_rfl) rfl MC hW (zl hL) ?_ (fun zG h=>wW zQ zG h)
  obtain ⟨p,q,hA,hV,-⟩:=hW
  obtain ⟨rfl,rfl⟩:=trodVars_none hV
  have hlen:ds.length=6:=gn hA
  match ds,hlen with
  | [_,_,_,_,_,_],_=>exact ⟨rfl,rfl,rfl⟩
theorem IE:(Rows.missingClosesRow.wf (OpenSpec.ofChange Rows.missingClosesSpec))=true:=by kernel_rfl
theorem IG:(laidOutB Tryz.checked.prog)=true:=by kernel_rfl
theorem IH:(mapsRowed Tryz.checked.prog)=true:=by kernel_rfl
theorem II:(Tryz.f6.params.all (Tryz.checked.prog.readableRec ·))=true:=by kernel_rfl
theorem IJ:(namedTie Tryz.checked.prog Rows.missingClosesRow.named Rows.missingClosesSpec.vars)=true:=by kernel_rfl
theorem IK:((Rows.missingClosesRow.stops == []))=true:=by kernel_rfl
theorem IL:((Tryz.checked.prog.stops == []))=true:=by kernel_rfl
theorem IM:((Rows.missingClosesRow.knobs == []))=true:=by kernel_rfl
theorem IP:((Tryz.checked.prog.stopKnobs == []))=true:=by kernel_rfl
theorem IQ:((Rows.missingClosesRow.inPlace == Tryz.checked.prog.inPlace 6))=true:=by kernel_rfl
theorem Gc:((Rows.missingClosesRow.unfollowed == Tryz.checked.prog.unfollowed 6))=true:=by kernel_rfl
theorem Gd:((Rows.missingClosesRow.recurses == Tryz.checked.prog.recurses 6))=true:=by kernel_rfl
theorem Ge:((Rows.missingClosesRow.named == Tryz.checked.prog.varsNamed 6))=true:=by kernel_rfl
theorem Gf:((Rows.missingClosesRow.maps == (Tryz.f6.params.toList++Rows.missingClosesSpec.plain.varTypes Tryz.checked.prog).any (Tryz.checked.prog.mapsRec ·)))=true:=by kernel_rfl
theorem Gg:((Rows.missingClosesRow.ifaces == (Tryz.f6.params.toList++Rows.missingClosesSpec.plain.varTypes Tryz.checked.prog).any (Tryz.checked.prog.ifacesRec ·)))=true:=by kernel_rfl
theorem Gh:((Rows.missingClosesRow.mapsOut == Tryz.checked.prog.mapsAmong Tryz.f6.resultTypes.toList))=true:=by kernel_rfl
theorem Gi:((Rows.missingClosesRow.loops == (Tryz.f6.params.toList++Rows.missingClosesSpec.plain.varTypes Tryz.checked.prog).any (Tryz.checked.prog.loopsFrom ·)))=true:=by kernel_rfl
theorem Gj:((Rows.missingClosesRow.wideKeys == (Tryz.f6.params.toList++Rows.missingClosesSpec.plain.varTypes Tryz.checked.prog++Tryz.f6.resultTypes.toList).any (Tryz.checked.prog.wideKeysFrom ·)))=true:=by kernel_rfl
theorem Gk:(Rows.missingClosesSpec.vars.all (Tryz.checked.prog.varReadable ·))=true:=by kernel_rfl
theorem Gl:(Tryz.f6.resultTypes.all (fun t=>Tryz.checked.prog.readableRec t&&decide (t < Tryz.checked.prog.types.size)))=true:=by kernel_rfl
theorem Gm:((Rows.missingClosesRow.ifacesOut == Tryz.f6.resultTypes.toList.any (Tryz.checked.prog.ifacesRec ·)))=true:=by kernel_rfl
theorem Gn:((Rows.missingClosesRow.loopsOut == Tryz.f6.resultTypes.toList.any (Tryz.checked.prog.loopsFrom ·)))=true:=by kernel_rfl
theorem Gp:((Rows.missingClosesRow.plainKeys == Tryz.checked.prog.plainKeys))=true:=by kernel_rfl
theorem Gq:(Rows.missingClosesRow.shortTexts.isNone)=true:=by kernel_rfl
theorem Gs:(Tryz.checked.prog.stopsHeard)=true:=by kernel_rfl
theorem Gt:(Tryz.checked.prog.mayEnter)=true:=by kernel_rfl
theorem Gu:((Rows.missingClosesRow.lifted == Tryz.checked.prog.liftsFinal))=true:=by kernel_rfl
theorem Gv:((Tryz.checked.prog.make == some Rows.missingClosesRow.make))=true:=by kernel_rfl
theorem Gw:((Rows.missingClosesRow.kinds == (if Rows.missingClosesRow.domain.isEmpty then [] else Tryz.f6.params.toList.map fun t=>match Tryz.checked.prog.underlying t with | some (.int k)=>some k | _=>none)))=true:=by kernel_rfl
theorem Gx:((Rows.missingClosesRow.pinned == Rows.missingClosesRow.pinnedBy))=true:=by kernel_rfl
theorem Gy:((Rows.missingClosesRow.veiled == (Tryz.f6.params.toList++Rows.missingClosesSpec.plain.varTypes Tryz.checked.prog++Tryz.f6.resultTypes.toList).any (Tryz.checked.prog.veiledRec ·)))=true:=by kernel_rfl
theorem Gz:(Rows.missingClosesRow.veiledFits Tryz.checked.prog Tryz.f6.params.toList (Tryz.f6.params.toList++Rows.missingClosesSpec.plain.varTypes Tryz.checked.prog++Tryz.f6.resultTypes.toList))=true:=by kernel_rfl
theorem bF {a b:Bool} (h:a=true) (k:b=true):(a&&b)=true:=by rw [h,k]; rfl
theorem Bi:joinedFacts Tryz.checked.prog 6 Tryz.f6 Rows.missingClosesSpec Rows.missingClosesRow=true:=by
  unfold joinedFacts
  exact bF (bF (bF (bF (bF (bF (bF (bF (bF (bF (bF (bF (bF (bF (bF (bF (bF (bF (bF (bF (bF (bF (bF (bF (bF (bF (bF (bF (bF (bF (bF IE IG) IH) II) IJ) IK) IL) IM) IP) IQ) Gc) Gd) Ge) Gf) Gg) Gh) Gi) Gj) Gk) Gl) Gm) Gn) Gp) Gq) Gs) Gt) Gu) Gv) Gw) Gx) Gy) Gz
theorem Ej:Rows.MissingClosesSaid :=
  OpenClaim.holds_of_wide 6 Tryz.f6 rfl rfl rfl rfl rfl rfl rfl ⟨rfl,rfl,rfl,rfl,rfl⟩ rfl rfl rfl rfl rfl (by kernel_rfl) Tryz.func6 Bi
    (of_decide_eq_true (by kernel_rfl)) (by unfold Func.isWrapper; first | (rw [if_pos (by decide +kernel)]; kernel_rfl) | (rw [if_neg (by decide +kernel)]; exact ⟨rfl,rfl⟩))
    (fun os started H enc _=>Bh os started H enc)
theorem missingCloses_holds:Rows.MissingClosesCardSaid :=
  Claim7.holds_tied_plain_at .later [] [.widerDeep] true Rows.missingClosesCard.stood.harness Rows.missingClosesCard.stood.looks
    Ej (fun _ h=>by cases h) (by kernel_rfl) (fun _ h=>by cases h) missingCloses_row_tie rfl ⟨rfl,rfl⟩ (by kernel_rfl) rfl
    (fun f fn hf Rz=>by
      obtain rfl:f=6:=Option.some.inj ((show Tryz.prog.funcNamed "allonge/allongelaw29.MissingCloses" = some 6 by kernel_rfl).symm.trans hf) |>.symm
      obtain rfl:fn=Tryz.f6:=(Option.some.inj (Tryz.func6.symm.trans Rz)).symm
      exact ⟨by kernel_rfl,fun j t ht=>by
        have hm:t∈Tryz.f6.params.toList:=by simpa using Array.mem_of_getElem? ht
        have mf:(Tryz.f6.params.toList.all fun u=>!Tryz.prog.wantsStandIn u)=true:=by kernel_rfl
        exact (show Tryz.prog.wantsStandIn t=false by simpa using List.all_eq_true.1 mf t hm)⟩)
    (by kernel_rfl)


end Go.Proofs.YtkbkoaoolojhaaaGreatDoor

