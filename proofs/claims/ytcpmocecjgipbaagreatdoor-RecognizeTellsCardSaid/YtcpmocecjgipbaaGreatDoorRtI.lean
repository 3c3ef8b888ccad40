/- The given statement recognizeTells, proved. -/
import Derived.Test.YtcpmocecjgipbaaGreatDoorLj
import Derived.Test.YtcpmocecjgipbaaGreatDoorLc
import Derived.Test.YtcpmocecjgipbaaGreatDoorRows
import Derived.Test.YtcpmocecjgipbaaGreatDoorTie
import Derived.Test.YtcpmocecjgipbaaGreatDoorCards
import Derived.ProofKit
import Derived.LaidMore
import Derived.OpenShut
import Derived.SevenTiedAt
set_option linter.unusedSimpArgs false
set_option linter.unusedVariables false
set_option maxRecDepth 100000
namespace Go.Proofs.YtcpmocecjgipbaaGreatDoor
open Go Go.Av Go.ChangeShapes Go.WideShapes Go.ChangeAt Go.RowKit
def OX:List (String × DataW Unit):=[("allonge/order.numbers",Rows.laid_allonge_order_numbers)]
theorem abe:Tryz.prog.globalNamed "allonge/order.numbers" = some 2:=by kernel_rfl
theorem abf:(Tryz.prog.globals[2]?).map (·.type)=some 184:=by kernel_rfl
theorem WV {W:World} (h:laidMetH Tryz.prog OX W):iZ W fun b=>b < W.heap.size:=by
  rw [MakeChecks.laidMetH_plain _ _ _ (by kernel_rfl)] at h
  obtain ⟨ps,⟨g1,t1,Iz,f1,p1,q1,hg1,ZI,hv1,Te,_,_⟩,_,_⟩:=h
  obtain rfl:=Option.some.inj (abe.symm.trans hg1)
  obtain rfl:=Option.some.inj (abf.symm.trans ZI)
  have abg:Tryz.prog.underlying 184=some (.array 10 3):=by kernel_rfl
  have hu3:Tryz.prog.underlying 3=some (.int .i64):=by kernel_rfl
  obtain ⟨xs,m1,rfl,Q1,hlen,hn3,hel⟩:=DataW.trod_array abg Te
  have c3:Tryz.prog.cellsOf 3=1:=by kernel_rfl
  have ac2:Tryz.prog.cellsOf 184=10:=by kernel_rfl
  simp only [Rows.laid_allonge_order_numbers,Prod.mk.injEq,DataW.agg.injEq] at Q1
  have hl:Iz.toList.length=10:=hlen.trans ac2
  have each:∀ j n,j < 10→xs[j]?.map (·.1)=some (.lit (.int .i64 n))→W.cell? ⟨2,j,none⟩=some (.int .i64 n):=by
    intro j n hj hx
    have h0:=hel j (by omega)
    rw [c3] at h0
    cases hxj:xs[j]? with
    | none=>rw [hxj] at hx; cases hx
    | some y =>
      rw [hxj] at hx h0
      simp only [Option.map_some,Option.some.injEq] at hx
      obtain ⟨k,e1,e2,_⟩:=DataW.trod_int hu3 h0
      rw [e2] at hx
      simp only [DataW.lit.injEq,Lit.int.injEq,true_and] at hx
      subst hx
      have XV:j < Iz.toList.length:=by omega
      have:=World.var?_cell hg1 hv1 j
      have e3:(Iz.toList.drop (j * 1)).take 1=[Iz.toList[j]]:=by
        rw [Nat.mul_one,List.drop_eq_getElem_cons XV]
        rfl
      rw [e3] at e1
      simp only [List.cons.injEq,and_true] at e1
      rw [this]
      simp only [Array.length_toList] at XV
      rw [Array.getElem?_eq_getElem XV]
      simpa using e1
  have blk:∀ j v,W.cell? ⟨2,j,none⟩=some v→2 < W.heap.size:=by
    intro j v hv
    unfold World.cell? at hv
    split at hv
    · rename_i hh
      exact (Array.getElem?_eq_some_iff.1 hh).1
    · cases hv
  intro p hp
  obtain rfl:p=(2,[dI 6,dI 7,dI 10,dI 12,dI 13,dI 14,dI 15,dI 16,dI 20,dI 21]):=by simpa [zr.gl] using hp
  have hx:∀ j,j < 10→xs[j]?.map (·.1)=some (.lit (.int .i64 (([6,7,10,12,13,14,15,16,20,21]:List Int).getD j 0))):=by
    intro j hj
    have e:=Q1.1
    have:xs.map (·.1)=([6,7,10,12,13,14,15,16,20,21]:List Int).map fun n=>DataW.lit (.int .i64 n):=e.symm
    rw [← List.getElem?_map,this]
    have:j=0∨j=1∨j=2∨j=3∨j=4∨j=5∨j=6∨j=7∨j=8∨j=9:=by omega
    rcases this with rfl | rfl | rfl | rfl | rfl | rfl | rfl | rfl | rfl | rfl <;> rfl
  refine ⟨fun j=>.int .i64 (([6,7,10,12,13,14,15,16,20,21]:List Int).getD j 0),fun j hj=>?_,fun j hj=>?_⟩
  · have hj:j < 10:=hj
    rw [Nat.zero_add]
    exact ⟨blk j _ (each j _ hj (hx j hj)),each j _ hj (hx j hj)⟩
  · have hj:j < 10:=hj
    have:j=0∨j=1∨j=2∨j=3∨j=4∨j=5∨j=6∨j=7∨j=8∨j=9:=by omega
    rcases this with rfl | rfl | rfl | rfl | rfl | rfl | rfl | rfl | rfl | rfl <;> exact .v _ rfl

theorem Top.own:ownKnob Tryz.prog.godebug=none:=by kernel_rfl
theorem Top.laidOut:laidOutB Tryz.prog=true:=by kernel_rfl
theorem Vv (os:Os) (args:Array Value):laidMetH Tryz.prog OX ((World.doorLaid Tryz.prog 400 os).forCall (fun _ _=>0) ⟨#[],args,[]⟩).memory :=
  laidMetH_of_parts3 (fuel:=8) (laidMet_of_run' 8 (by kernel_rfl) (by kernel_rfl)) (by kernel_rfl) (by kernel_rfl)

def CL:List Nat:=[31,3,41,43,44,22,23,24,25,26,27,28,29,35,36,37,38,39,63,9,96,98,100,89,136,102,138,33,74,111,123,104,79,4,86,87,169,94,92,90]
theorem Eg {H:Type} {enc:TypeId × Value→H} {P:Program} {w:World} {base:Nat} {sp:Nat→Bool} {held:Bool}:∀ {ts:List TypeId} {vs:List Value} {ds:List (DataW H)} {ps:List MemPlace},DataW.TrodAll enc P w base sp held ts vs ds ps→ds.length=ts.length
  | [],[],[],_,_=>rfl
  | _ :: _,_ :: _,_ :: _,_,h=>by
    obtain ⟨p,q,_,h2,_⟩:=h
    simp [Eg h2]
  | [],_ :: _,_,_,h=>by cases h
  | [],[],_ :: _,_,h=>by cases h
  | _ :: _,[],_,_,h=>by cases h
  | _ :: _,_ :: _,[],_,h=>by cases h
set_option maxRecDepth 100000 in
theorem wV (os:Os) (started:os.Started) (H:Type) (enc:TypeId × Value→H) :
    ReturnsInHanded {} Tryz.checked os 3 .any (fun w args=>(Rows.recognizeTellsSpec.pre enc Tryz.prog Tryz.f3 [] false w args∧laidMetH Tryz.prog OX w)∧sizedMet enc Tryz.prog Tryz.f3 (OpenSpec.ofChange Rows.recognizeTellsSpec) false w args)
      (Rows.recognizeTellsSpec.post enc Tryz.prog Tryz.f3 false true false false):=by
  refine returnsInHanded_of_change_and (C:=Tryz.checked) (X:=fun w _=>laidMetH Tryz.prog OX w) (fun _ _ _ hh h=>h.of_heap hh) Top.own started (by kernel_rfl) Tryz.func3
    (ChangeSpec.witness_shaped (enc:=enc) (C:=Tryz.checked) (os:=os) (X:=fun w _=>laidMetH Tryz.prog OX w) false (World.doorLaid Tryz.prog 400 os) #[.agg #[.slice none 0 0,.slice none 0 0,.slice none 0 0,.slice none 0 0,.slice none 0 0,.slice none 0 0,.slice none 0 0,.slice none 0 0],.int .i64 0,.agg #[.int .i64 0,.int .i64 0,.int .i64 0,.int .i64 0,.int .i64 0,.int .i64 0,.int .i64 0,.int .i64 0,.int .i64 0,.int .i64 0,.int .i64 0,.int .i64 0,.int .i64 0,.int .i64 0,.int .i64 0,.slice none 0 0,.slice none 0 0,.slice none 0 0,.slice none 0 0],.agg #[.int .i64 0,.int .i64 0,.int .i64 0,.int .i64 0,.int .i64 0,.int .i64 0,.int .i64 0,.int .i64 0],.slice none 0 0,.int .i64 0,.int .i64 0] 12 rfl (World.shaped_of_RefB (by kernel_rfl) (by kernel_rfl)) (by kernel_rfl) (by kernel_rfl) (by kernel_rfl) (Vv os _)) ?_
  intro W base args ds gs before Ui hW _ _ hL _
  refine Sq (P:=Tryz.prog) (T:=TT) (cl:=CL) (tb:=4) (base:=base) (fn:=Tryz.f3) tok Top.laidOut (by kernel_rfl) (by kernel_rfl) (by kernel_rfl) (by kernel_rfl) (by kernel_rfl) rfl Ui hW (WV hL) ?_ (fun O1 h=>sH wq O1 h)
  obtain ⟨p,q,hA,hV,-⟩:=hW
  obtain ⟨rfl,rfl⟩:=trodVars_none hV
  have hlen:ds.length=7:=Eg hA
  match ds,hlen with
  | [_,_,_,_,_,_,_],_=>exact ⟨rfl,rfl,rfl⟩
theorem Cl:(Rows.recognizeTellsRow.wf (OpenSpec.ofChange Rows.recognizeTellsSpec))=true:=by kernel_rfl
theorem Cm:(laidOutB Tryz.checked.prog)=true:=by kernel_rfl
theorem Cn:(mapsRowed Tryz.checked.prog)=true:=by kernel_rfl
theorem Co:(Tryz.f3.params.all (Tryz.checked.prog.readableRec ·))=true:=by kernel_rfl
theorem Cp:(namedTie Tryz.checked.prog Rows.recognizeTellsRow.named Rows.recognizeTellsSpec.vars)=true:=by kernel_rfl
theorem Cq:((Rows.recognizeTellsRow.stops == []))=true:=by kernel_rfl
theorem Cr:((Tryz.checked.prog.stops == []))=true:=by kernel_rfl
theorem Cs:((Rows.recognizeTellsRow.knobs == []))=true:=by kernel_rfl
theorem Ct:((Tryz.checked.prog.stopKnobs == []))=true:=by kernel_rfl
theorem Cu:((Rows.recognizeTellsRow.inPlace == Tryz.checked.prog.inPlace 3))=true:=by kernel_rfl
theorem Au:((Rows.recognizeTellsRow.unfollowed == Tryz.checked.prog.unfollowed 3))=true:=by kernel_rfl
theorem Aw:((Rows.recognizeTellsRow.recurses == Tryz.checked.prog.recurses 3))=true:=by kernel_rfl
theorem Ax:((Rows.recognizeTellsRow.named == Tryz.checked.prog.varsNamed 3))=true:=by kernel_rfl
theorem Ay:((Rows.recognizeTellsRow.maps == (Tryz.f3.params.toList++Rows.recognizeTellsSpec.plain.varTypes Tryz.checked.prog).any (Tryz.checked.prog.mapsRec ·)))=true:=by kernel_rfl
theorem Az:((Rows.recognizeTellsRow.ifaces == (Tryz.f3.params.toList++Rows.recognizeTellsSpec.plain.varTypes Tryz.checked.prog).any (Tryz.checked.prog.ifacesRec ·)))=true:=by kernel_rfl
theorem AA:((Rows.recognizeTellsRow.mapsOut == Tryz.checked.prog.mapsAmong Tryz.f3.resultTypes.toList))=true:=by kernel_rfl
theorem AB:((Rows.recognizeTellsRow.loops == (Tryz.f3.params.toList++Rows.recognizeTellsSpec.plain.varTypes Tryz.checked.prog).any (Tryz.checked.prog.loopsFrom ·)))=true:=by kernel_rfl
theorem AD:((Rows.recognizeTellsRow.wideKeys == (Tryz.f3.params.toList++Rows.recognizeTellsSpec.plain.varTypes Tryz.checked.prog++Tryz.f3.resultTypes.toList).any (Tryz.checked.prog.wideKeysFrom ·)))=true:=by kernel_rfl
theorem AE:(Rows.recognizeTellsSpec.vars.all (Tryz.checked.prog.varReadable ·))=true:=by kernel_rfl
theorem AF:(Tryz.f3.resultTypes.all (fun t=>Tryz.checked.prog.readableRec t&&decide (t < Tryz.checked.prog.types.size)))=true:=by kernel_rfl
theorem AG:((Rows.recognizeTellsRow.ifacesOut == Tryz.f3.resultTypes.toList.any (Tryz.checked.prog.ifacesRec ·)))=true:=by kernel_rfl
theorem AH:((Rows.recognizeTellsRow.loopsOut == Tryz.f3.resultTypes.toList.any (Tryz.checked.prog.loopsFrom ·)))=true:=by kernel_rfl
theorem AI:((Rows.recognizeTellsRow.plainKeys == Tryz.checked.prog.plainKeys))=true:=by kernel_rfl
theorem AJ:(Rows.recognizeTellsRow.shortTexts.isNone)=true:=by kernel_rfl
theorem AK:(Tryz.checked.prog.stopsHeard)=true:=by kernel_rfl
theorem AL:(Tryz.checked.prog.mayEnter)=true:=by kernel_rfl
theorem AM:((Rows.recognizeTellsRow.lifted == Tryz.checked.prog.liftsFinal))=true:=by kernel_rfl
theorem AN:((Tryz.checked.prog.make == some Rows.recognizeTellsRow.make))=true:=by kernel_rfl
theorem AO:((Rows.recognizeTellsRow.kinds == (if Rows.recognizeTellsRow.domain.isEmpty then [] else Tryz.f3.params.toList.map fun t=>match Tryz.checked.prog.underlying t with | some (.int k)=>some k | _=>none)))=true:=by kernel_rfl
theorem AP:((Rows.recognizeTellsRow.pinned == Rows.recognizeTellsRow.pinnedBy))=true:=by kernel_rfl
theorem AQ:((Rows.recognizeTellsRow.veiled == (Tryz.f3.params.toList++Rows.recognizeTellsSpec.plain.varTypes Tryz.checked.prog++Tryz.f3.resultTypes.toList).any (Tryz.checked.prog.veiledRec ·)))=true:=by kernel_rfl
theorem AR:(Rows.recognizeTellsRow.veiledFits Tryz.checked.prog Tryz.f3.params.toList (Tryz.f3.params.toList++Rows.recognizeTellsSpec.plain.varTypes Tryz.checked.prog++Tryz.f3.resultTypes.toList))=true:=by kernel_rfl
theorem mO {a b:Bool} (h:a=true) (k:b=true):(a&&b)=true:=by rw [h,k]; rfl
theorem wW:joinedFacts Tryz.checked.prog 3 Tryz.f3 Rows.recognizeTellsSpec Rows.recognizeTellsRow=true:=by
  unfold joinedFacts
  exact mO (mO (mO (mO (mO (mO (mO (mO (mO (mO (mO (mO (mO (mO (mO (mO (mO (mO (mO (mO (mO (mO (mO (mO (mO (mO (mO (mO (mO (mO (mO Cl Cm) Cn) Co) Cp) Cq) Cr) Cs) Ct) Cu) Au) Aw) Ax) Ay) Az) AA) AB) AD) AE) AF) AG) AH) AI) AJ) AK) AL) AM) AN) AO) AP) AQ) AR
theorem zq:Rows.RecognizeTellsSaid :=
  OpenClaim.holds_of_wide 3 Tryz.f3 rfl rfl rfl rfl rfl rfl rfl ⟨rfl,rfl,rfl,rfl,rfl⟩ rfl rfl rfl rfl rfl (by kernel_rfl) Tryz.func3 wW
    (of_decide_eq_true (by kernel_rfl)) (by unfold Func.isWrapper; first | (rw [if_pos (by decide +kernel)]; kernel_rfl) | (rw [if_neg (by decide +kernel)]; exact ⟨rfl,rfl⟩))
    (fun os started H enc _=>wV os started H enc)
theorem recognizeTells_holds:Rows.RecognizeTellsCardSaid :=
  Claim7.holds_tied_plain_at .later [] [.widerDeep] true Rows.recognizeTellsCard.stood.harness Rows.recognizeTellsCard.stood.looks
    zq (fun _ h=>by cases h) (by kernel_rfl) (fun _ h=>by cases h) recognizeTells_row_tie rfl ⟨rfl,rfl⟩ (by kernel_rfl) rfl
    (fun f fn hf R4=>by
      obtain rfl:f=3:=Option.some.inj ((show Tryz.prog.funcNamed "allonge/allongelaw47.RecognizeTells" = some 3 by kernel_rfl).symm.trans hf) |>.symm
      obtain rfl:fn=Tryz.f3:=(Option.some.inj (Tryz.func3.symm.trans R4)).symm
      exact ⟨by kernel_rfl,fun j t ht=>by
        have hm:t∈Tryz.f3.params.toList:=by simpa using Array.mem_of_getElem? ht
        have uo:(Tryz.f3.params.toList.all fun u=>!Tryz.prog.wantsStandIn u)=true:=by kernel_rfl
        exact (show Tryz.prog.wantsStandIn t=false by simpa using List.all_eq_true.1 uo t hm)⟩)
    (by kernel_rfl)


end Go.Proofs.YtcpmocecjgipbaaGreatDoor

