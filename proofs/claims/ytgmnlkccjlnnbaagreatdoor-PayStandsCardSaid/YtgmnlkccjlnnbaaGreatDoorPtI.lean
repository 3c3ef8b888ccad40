/- The given statement payStands, proved. -/
import Derived.Test.YtgmnlkccjlnnbaaGreatDoorLi
import Derived.Test.YtgmnlkccjlnnbaaGreatDoorLc
import Derived.Test.YtgmnlkccjlnnbaaGreatDoorRows
import Derived.Test.YtgmnlkccjlnnbaaGreatDoorTie
import Derived.Test.YtgmnlkccjlnnbaaGreatDoorCards
import Derived.ProofKit
import Derived.LaidMore
import Derived.OpenShut
import Derived.SevenTiedAt
set_option linter.unusedSimpArgs false
set_option linter.unusedVariables false
set_option maxRecDepth 100000
namespace Go.Proofs.YtgmnlkccjlnnbaaGreatDoor
open Go Go.Av Go.ChangeShapes Go.WideShapes Go.ChangeAt Go.RowKit
def OY:List (String × DataW Unit):=[("allonge/order.numbers",Rows.laid_allonge_order_numbers)]
theorem abq:Tryz.prog.globalNamed "allonge/order.numbers" = some 0:=by kernel_rfl
theorem abr:(Tryz.prog.globals[0]?).map (·.type)=some 290:=by kernel_rfl
theorem Xb {W:World} (h:laidMetH Tryz.prog OY W):gT W fun b=>b < W.heap.size:=by
  rw [MakeChecks.laidMetH_plain _ _ _ (by kernel_rfl)] at h
  obtain ⟨ps,⟨g1,t1,Ie,f1,p1,q1,hg1,ht1,hv1,Te,_,_⟩,_,_⟩:=h
  obtain rfl:=Option.some.inj (abq.symm.trans hg1)
  obtain rfl:=Option.some.inj (abr.symm.trans ht1)
  have abt:Tryz.prog.underlying 290=some (.array 10 3):=by kernel_rfl
  have hu3:Tryz.prog.underlying 3=some (.int .i64):=by kernel_rfl
  obtain ⟨xs,m1,rfl,Ea,hlen,hn3,hel⟩:=DataW.trod_array abt Te
  have c3:Tryz.prog.cellsOf 3=1:=by kernel_rfl
  have adm:Tryz.prog.cellsOf 290=10:=by kernel_rfl
  simp only [Rows.laid_allonge_order_numbers,Prod.mk.injEq,DataW.agg.injEq] at Ea
  have hl:Ie.toList.length=10:=hlen.trans adm
  have each:∀ j n,j < 10→xs[j]?.map (·.1)=some (.lit (.int .i64 n))→W.cell? ⟨0,j,none⟩=some (.int .i64 n):=by
    intro j n hj hx
    have h0:=hel j (by omega)
    rw [c3] at h0
    cases hxj:xs[j]? with
    | none=>rw [hxj] at hx; cases hx
    | some y =>
      rw [hxj] at hx h0
      simp only [Option.map_some,Option.some.injEq] at hx
      obtain ⟨k,e1,e2,_⟩:=DataW.trod_int hu3 h0
      rw [e2] at hx
      simp only [DataW.lit.injEq,Lit.int.injEq,true_and] at hx
      subst hx
      have QO:j < Ie.toList.length:=by omega
      have:=World.var?_cell hg1 hv1 j
      have e3:(Ie.toList.drop (j * 1)).take 1=[Ie.toList[j]]:=by
        rw [Nat.mul_one,List.drop_eq_getElem_cons QO]
        rfl
      rw [e3] at e1
      simp only [List.cons.injEq,and_true] at e1
      rw [this]
      simp only [Array.length_toList] at QO
      rw [Array.getElem?_eq_getElem QO]
      simpa using e1
  have blk:∀ j v,W.cell? ⟨0,j,none⟩=some v→0 < W.heap.size:=by
    intro j v hv
    unfold World.cell? at hv
    split at hv
    · rename_i hh
      exact (Array.getElem?_eq_some_iff.1 hh).1
    · cases hv
  intro p hp
  obtain rfl:p=(0,[dI 6,dI 7,dI 10,dI 12,dI 13,dI 14,dI 15,dI 16,dI 20,dI 21]):=by simpa [zl.gl] using hp
  have hx:∀ j,j < 10→xs[j]?.map (·.1)=some (.lit (.int .i64 (([6,7,10,12,13,14,15,16,20,21]:List Int).getD j 0))):=by
    intro j hj
    have e:=Ea.1
    have:xs.map (·.1)=([6,7,10,12,13,14,15,16,20,21]:List Int).map fun n=>DataW.lit (.int .i64 n):=e.symm
    rw [← List.getElem?_map,this]
    have:j=0∨j=1∨j=2∨j=3∨j=4∨j=5∨j=6∨j=7∨j=8∨j=9:=by omega
    rcases this with rfl | rfl | rfl | rfl | rfl | rfl | rfl | rfl | rfl | rfl <;> rfl
  refine ⟨fun j=>.int .i64 (([6,7,10,12,13,14,15,16,20,21]:List Int).getD j 0),fun j hj=>?_,fun j hj=>?_⟩
  · have hj:j < 10:=hj
    rw [Nat.zero_add]
    exact ⟨blk j _ (each j _ hj (hx j hj)),each j _ hj (hx j hj)⟩
  · have hj:j < 10:=hj
    have:j=0∨j=1∨j=2∨j=3∨j=4∨j=5∨j=6∨j=7∨j=8∨j=9:=by omega
    rcases this with rfl | rfl | rfl | rfl | rfl | rfl | rfl | rfl | rfl | rfl <;> exact .v _ rfl

theorem Top.own:ownKnob Tryz.prog.godebug=none:=by kernel_rfl
theorem Top.laidOut:laidOutB Tryz.prog=true:=by kernel_rfl
theorem Vp (os:Os) (args:Array Value):laidMetH Tryz.prog OY ((World.doorLaid Tryz.prog 400 os).forCall (fun _ _=>0) ⟨#[],args,[]⟩).memory :=
  laidMetH_of_parts3 (fuel:=8) (laidMet_of_run' 8 (by kernel_rfl) (by kernel_rfl)) (by kernel_rfl) (by kernel_rfl)

def CL:List Nat:=[31,3,41,22,23,24,25,26,27,28,29,35,36,37,38,39,9,159,169,171,111,173,175,177,33,96,115,62,45,64,4,108,109,234,165,163,161]
theorem D1 {H:Type} {enc:TypeId × Value→H} {P:Program} {w:World} {base:Nat} {sp:Nat→Bool} {held:Bool}:∀ {ts:List TypeId} {vs:List Value} {ds:List (DataW H)} {ps:List MemPlace},DataW.TrodAll enc P w base sp held ts vs ds ps→ds.length=ts.length
  | [],[],[],_,_=>rfl
  | _ :: _,_ :: _,_ :: _,_,h=>by
    obtain ⟨p,q,_,h2,_⟩:=h
    simp [D1 h2]
  | [],_ :: _,_,_,h=>by cases h
  | [],[],_ :: _,_,h=>by cases h
  | _ :: _,[],_,_,h=>by cases h
  | _ :: _,_ :: _,[],_,h=>by cases h
set_option maxRecDepth 100000 in
theorem Dv (os:Os) (started:os.Started) (H:Type) (enc:TypeId × Value→H) :
    ReturnsInHanded {} Tryz.checked os 4 .any (fun w args=>(Rows.payStandsSpec.pre enc Tryz.prog Tryz.f4 [] false w args∧laidMetH Tryz.prog OY w)∧sizedMet enc Tryz.prog Tryz.f4 (OpenSpec.ofChange Rows.payStandsSpec) false w args)
      (Rows.payStandsSpec.post enc Tryz.prog Tryz.f4 false true false false):=by
  refine returnsInHanded_of_change_and (C:=Tryz.checked) (X:=fun w _=>laidMetH Tryz.prog OY w) (fun _ _ _ hh h=>h.of_heap hh) Top.own started (by kernel_rfl) Tryz.func4
    (ChangeSpec.witness_shaped (enc:=enc) (C:=Tryz.checked) (os:=os) (X:=fun w _=>laidMetH Tryz.prog OY w) false (World.doorLaid Tryz.prog 400 os) #[.agg #[.slice none 0 0,.slice none 0 0,.slice none 0 0,.slice none 0 0,.slice none 0 0,.slice none 0 0,.slice none 0 0,.slice none 0 0],.int .i64 0,.agg #[.int .i64 0,.int .i64 0,.int .i64 0,.int .i64 0,.int .i64 0,.int .i64 0,.int .i64 0,.int .i64 0,.int .i64 0,.int .i64 0,.int .i64 0,.int .i64 0,.int .i64 0,.int .i64 0,.int .i64 0,.slice none 0 0,.slice none 0 0,.slice none 0 0,.slice none 0 0],.int .i64 0] 12 rfl (World.shaped_of_RefB (by kernel_rfl) (by kernel_rfl)) (by kernel_rfl) (by kernel_rfl) (by kernel_rfl) (Vp os _)) ?_
  intro W base args ds gs before Uj hW _ _ hL _
  refine Sl (P:=Tryz.prog) (T:=TT) (cl:=CL) (tb:=4) (base:=base) (fn:=Tryz.f4) tok Top.laidOut (by kernel_rfl) (by kernel_rfl) (by kernel_rfl) (by kernel_rfl) (by kernel_rfl) rfl Uj hW (Xb hL) ?_ (fun O1 h=>yf B4 O1 h)
  obtain ⟨p,q,hA,hV,-⟩:=hW
  obtain ⟨rfl,rfl⟩:=trodVars_none hV
  have hlen:ds.length=4:=D1 hA
  match ds,hlen with
  | [_,_,_,_],_=>exact ⟨rfl,rfl,rfl⟩
theorem L5:(Rows.payStandsRow.wf (OpenSpec.ofChange Rows.payStandsSpec))=true:=by kernel_rfl
theorem L6:(laidOutB Tryz.checked.prog)=true:=by kernel_rfl
theorem L7:(mapsRowed Tryz.checked.prog)=true:=by kernel_rfl
theorem L8:(Tryz.f4.params.all (Tryz.checked.prog.readableRec ·))=true:=by kernel_rfl
theorem L9:(namedTie Tryz.checked.prog Rows.payStandsRow.named Rows.payStandsSpec.vars)=true:=by kernel_rfl
theorem Ma:((Rows.payStandsRow.stops == []))=true:=by kernel_rfl
theorem Mb:((Tryz.checked.prog.stops == []))=true:=by kernel_rfl
theorem Mc:((Rows.payStandsRow.knobs == []))=true:=by kernel_rfl
theorem Md:((Tryz.checked.prog.stopKnobs == []))=true:=by kernel_rfl
theorem Me:((Rows.payStandsRow.inPlace == Tryz.checked.prog.inPlace 4))=true:=by kernel_rfl
theorem Jr:((Rows.payStandsRow.unfollowed == Tryz.checked.prog.unfollowed 4))=true:=by kernel_rfl
theorem Jt:((Rows.payStandsRow.recurses == Tryz.checked.prog.recurses 4))=true:=by kernel_rfl
theorem Ju:((Rows.payStandsRow.named == Tryz.checked.prog.varsNamed 4))=true:=by kernel_rfl
theorem Jv:((Rows.payStandsRow.maps == (Tryz.f4.params.toList++Rows.payStandsSpec.plain.varTypes Tryz.checked.prog).any (Tryz.checked.prog.mapsRec ·)))=true:=by kernel_rfl
theorem Jw:((Rows.payStandsRow.ifaces == (Tryz.f4.params.toList++Rows.payStandsSpec.plain.varTypes Tryz.checked.prog).any (Tryz.checked.prog.ifacesRec ·)))=true:=by kernel_rfl
theorem Jy:((Rows.payStandsRow.mapsOut == Tryz.checked.prog.mapsAmong Tryz.f4.resultTypes.toList))=true:=by kernel_rfl
theorem Jz:((Rows.payStandsRow.loops == (Tryz.f4.params.toList++Rows.payStandsSpec.plain.varTypes Tryz.checked.prog).any (Tryz.checked.prog.loopsFrom ·)))=true:=by kernel_rfl
theorem JA:((Rows.payStandsRow.wideKeys == (Tryz.f4.params.toList++Rows.payStandsSpec.plain.varTypes Tryz.checked.prog++Tryz.f4.resultTypes.toList).any (Tryz.checked.prog.wideKeysFrom ·)))=true:=by kernel_rfl
theorem JB:(Rows.payStandsSpec.vars.all (Tryz.checked.prog.varReadable ·))=true:=by kernel_rfl
theorem JC:(Tryz.f4.resultTypes.all (fun t=>Tryz.checked.prog.readableRec t&&decide (t < Tryz.checked.prog.types.size)))=true:=by kernel_rfl
theorem JD:((Rows.payStandsRow.ifacesOut == Tryz.f4.resultTypes.toList.any (Tryz.checked.prog.ifacesRec ·)))=true:=by kernel_rfl
theorem JE:((Rows.payStandsRow.loopsOut == Tryz.f4.resultTypes.toList.any (Tryz.checked.prog.loopsFrom ·)))=true:=by kernel_rfl
theorem JF:((Rows.payStandsRow.plainKeys == Tryz.checked.prog.plainKeys))=true:=by kernel_rfl
theorem JG:(Rows.payStandsRow.shortTexts.isNone)=true:=by kernel_rfl
theorem JH:(Tryz.checked.prog.stopsHeard)=true:=by kernel_rfl
theorem JI:(Tryz.checked.prog.mayEnter)=true:=by kernel_rfl
theorem JJ:((Rows.payStandsRow.lifted == Tryz.checked.prog.liftsFinal))=true:=by kernel_rfl
theorem JK:((Tryz.checked.prog.make == some Rows.payStandsRow.make))=true:=by kernel_rfl
theorem JL:((Rows.payStandsRow.kinds == (if Rows.payStandsRow.domain.isEmpty then [] else Tryz.f4.params.toList.map fun t=>match Tryz.checked.prog.underlying t with | some (.int k)=>some k | _=>none)))=true:=by kernel_rfl
theorem JM:((Rows.payStandsRow.pinned == Rows.payStandsRow.pinnedBy))=true:=by kernel_rfl
theorem JN:((Rows.payStandsRow.veiled == (Tryz.f4.params.toList++Rows.payStandsSpec.plain.varTypes Tryz.checked.prog++Tryz.f4.resultTypes.toList).any (Tryz.checked.prog.veiledRec ·)))=true:=by kernel_rfl
theorem JO:(Rows.payStandsRow.veiledFits Tryz.checked.prog Tryz.f4.params.toList (Tryz.f4.params.toList++Rows.payStandsSpec.plain.varTypes Tryz.checked.prog++Tryz.f4.resultTypes.toList))=true:=by kernel_rfl
theorem ml {a b:Bool} (h:a=true) (k:b=true):(a&&b)=true:=by rw [h,k]; rfl
theorem Dw:joinedFacts Tryz.checked.prog 4 Tryz.f4 Rows.payStandsSpec Rows.payStandsRow=true:=by
  unfold joinedFacts
  exact ml (ml (ml (ml (ml (ml (ml (ml (ml (ml (ml (ml (ml (ml (ml (ml (ml (ml (ml (ml (ml (ml (ml (ml (ml (ml (ml (ml (ml (ml (ml L5 L6) L7) L8) L9) Ma) Mb) Mc) Md) Me) Jr) Jt) Ju) Jv) Jw) Jy) Jz) JA) JB) JC) JD) JE) JF) JG) JH) JI) JJ) JK) JL) JM) JN) JO
theorem HV:Rows.PayStandsSaid :=
  OpenClaim.holds_of_wide 4 Tryz.f4 rfl rfl rfl rfl rfl rfl rfl ⟨rfl,rfl,rfl,rfl,rfl⟩ rfl rfl rfl rfl rfl (by kernel_rfl) Tryz.func4 Dw
    (of_decide_eq_true (by kernel_rfl)) (by unfold Func.isWrapper; first | (rw [if_pos (by decide +kernel)]; kernel_rfl) | (rw [if_neg (by decide +kernel)]; exact ⟨rfl,rfl⟩))
    (fun os started H enc _=>Dv os started H enc)
theorem payStands_holds:Rows.PayStandsCardSaid :=
  Claim7.holds_tied_plain_at .later [] [.widerDeep] true Rows.payStandsCard.stood.harness Rows.payStandsCard.stood.looks
    HV (fun _ h=>by cases h) (by kernel_rfl) (fun _ h=>by cases h) payStands_row_tie rfl ⟨rfl,rfl⟩ (by kernel_rfl) rfl
    (fun f fn hf RZ=>by
      obtain rfl:f=4:=Option.some.inj ((show Tryz.prog.funcNamed "allonge/allongelaw27.PayStands" = some 4 by kernel_rfl).symm.trans hf) |>.symm
      obtain rfl:fn=Tryz.f4:=(Option.some.inj (Tryz.func4.symm.trans RZ)).symm
      exact ⟨by kernel_rfl,fun j t ht=>by
        have hm:t∈Tryz.f4.params.toList:=by simpa using Array.mem_of_getElem? ht
        have pn:(Tryz.f4.params.toList.all fun u=>!Tryz.prog.wantsStandIn u)=true:=by kernel_rfl
        exact (show Tryz.prog.wantsStandIn t=false by simpa using List.all_eq_true.1 pn t hm)⟩)
    (by kernel_rfl)


end Go.Proofs.YtgmnlkccjlnnbaaGreatDoor

