/- The given statement suitPaper, proved. -/
import Derived.Test.YtilbddpghnnmhaaGreatDoorSaO
import Derived.Test.YtilbddpghnnmhaaGreatDoorSaP
import Derived.Test.YtilbddpghnnmhaaGreatDoorAvY
import Derived.Test.YtilbddpghnnmhaaGreatDoorRows
import Derived.Test.YtilbddpghnnmhaaGreatDoorTie
import Derived.Test.YtilbddpghnnmhaaGreatDoorCards
import Derived.ProofKit
import Derived.LaidMore
import Derived.OpenShut
import Derived.SevenTiedAt
set_option linter.unusedSimpArgs false
set_option linter.unusedVariables false
set_option maxRecDepth 100000
namespace Go.Proofs.YtilbddpghnnmhaaGreatDoor
open Go Go.Av Go.ChangeShapes Go.WideShapes Go.ChangeAt Go.RowKit
def zmo:List (String × DataW Unit):=[("allonge/order.numbers",Rows.laid_allonge_order_numbers)]
theorem zsV:Tryz.prog.globalNamed "allonge/order.numbers" = some 0:=by kernel_rfl
theorem zsG:(Tryz.prog.globals[0]?).map (·.type)=some 229:=by kernel_rfl
theorem zrz {W:World} (h:laidMetH Tryz.prog zmo W):ud W fun b=>b < W.heap.size:=by
  rw [MakeChecks.laidMetH_plain _ _ _ (by kernel_rfl)] at h
  obtain ⟨ps,⟨g1,t1,cs1,f1,p1,q1,hg1,ht1,hv1,hd1,_,_⟩,_,_⟩:=h
  obtain rfl:=Option.some.inj (zsV.symm.trans hg1)
  obtain rfl:=Option.some.inj (zsG.symm.trans ht1)
  have hu206:Tryz.prog.underlying 229=some (.array 10 3):=by kernel_rfl
  have hu3:Tryz.prog.underlying 3=some (.int .i64):=by kernel_rfl
  obtain ⟨xs,m1,rfl,hx1,hlen,hn3,hel⟩:=DataW.trod_array hu206 hd1
  have c3:Tryz.prog.cellsOf 3=1:=by kernel_rfl
  have c206:Tryz.prog.cellsOf 229=10:=by kernel_rfl
  simp only [Rows.laid_allonge_order_numbers,Prod.mk.injEq,DataW.agg.injEq] at hx1
  have hl:cs1.toList.length=10:=hlen.trans c206
  have each:∀ j n,j < 10→xs[j]?.map (·.1)=some (.lit (.int .i64 n))→W.cell? ⟨0,j,none⟩=some (.int .i64 n):=by
    intro j n hj hx
    have h0:=hel j (by omega)
    rw [c3] at h0
    cases hxj:xs[j]? with
    | none=>rw [hxj] at hx; cases hx
    | some y =>
      rw [hxj] at hx h0
      simp only [Option.map_some,Option.some.injEq] at hx
      obtain ⟨k,e1,e2,_⟩:=DataW.trod_int hu3 h0
      rw [e2] at hx
      simp only [DataW.lit.injEq,Lit.int.injEq,true_and] at hx
      subst hx
      have hj2:j < cs1.toList.length:=by omega
      have:=World.var?_cell hg1 hv1 j
      have e3:(cs1.toList.drop (j * 1)).take 1=[cs1.toList[j]]:=by
        rw [Nat.mul_one,List.drop_eq_getElem_cons hj2]
        rfl
      rw [e3] at e1
      simp only [List.cons.injEq,and_true] at e1
      rw [this]
      simp only [Array.length_toList] at hj2
      rw [Array.getElem?_eq_getElem hj2]
      simpa using e1
  have blk:∀ j v,W.cell? ⟨0,j,none⟩=some v→0 < W.heap.size:=by
    intro j v hv
    unfold World.cell? at hv
    split at hv
    · rename_i hh
      exact (Array.getElem?_eq_some_iff.1 hh).1
    · cases hv
  intro p hp
  obtain rfl:p=(0,[dI 6,dI 7,dI 10,dI 12,dI 13,dI 14,dI 15,dI 16,dI 20,dI 21]):=by simpa [qz.gl] using hp
  have hx:∀ j,j < 10→xs[j]?.map (·.1)=some (.lit (.int .i64 (([6,7,10,12,13,14,15,16,20,21]:List Int).getD j 0))):=by
    intro j hj
    have e:=hx1.1
    have:xs.map (·.1)=([6,7,10,12,13,14,15,16,20,21]:List Int).map fun n=>DataW.lit (.int .i64 n):=e.symm
    rw [← List.getElem?_map,this]
    have:j=0∨j=1∨j=2∨j=3∨j=4∨j=5∨j=6∨j=7∨j=8∨j=9:=by omega
    rcases this with rfl | rfl | rfl | rfl | rfl | rfl | rfl | rfl | rfl | rfl <;> rfl
  refine ⟨fun j=>.int .i64 (([6,7,10,12,13,14,15,16,20,21]:List Int).getD j 0),fun j hj=>?_,fun j hj=>?_⟩
  · have hj:j < 10:=hj
    rw [Nat.zero_add]
    exact ⟨blk j _ (each j _ hj (hx j hj)),each j _ hj (hx j hj)⟩
  · have hj:j < 10:=hj
    have:j=0∨j=1∨j=2∨j=3∨j=4∨j=5∨j=6∨j=7∨j=8∨j=9:=by omega
    rcases this with rfl | rfl | rfl | rfl | rfl | rfl | rfl | rfl | rfl | rfl <;> exact .v _ rfl

theorem Top.own:ownKnob Tryz.prog.godebug=none:=by kernel_rfl
theorem Top.laidOut:laidOutB Tryz.prog=true:=by kernel_rfl
theorem zqj (os:Os) (args:Array Value):laidMetH Tryz.prog zmo ((World.doorLaid Tryz.prog 400 os).forCall (fun _ _=>0) ⟨#[],args,[]⟩).memory :=
  laidMetH_of_parts3 (fuel:=8) (laidMet_of_run' 8 (by kernel_rfl) (by kernel_rfl)) (by kernel_rfl) (by kernel_rfl)

def CL:List Nat:=[43,44,46,25,3,34,35,36,37,38,39,40,41,65,9,132,135,137,129,139,141,143,59,60,61,62,63,4,126,127,57,147,102,108,72,179,174,172,170]
theorem zda {H:Type} {enc:TypeId × Value→H} {P:Program} {w:World} {base:Nat} {sp:Nat→Bool} {held:Bool}:∀ {ts:List TypeId} {vs:List Value} {ds:List (DataW H)} {ps:List MemPlace},DataW.TrodAll enc P w base sp held ts vs ds ps→ds.length=ts.length
  | [],[],[],_,_=>rfl
  | _ :: _,_ :: _,_ :: _,_,h=>by
    obtain ⟨p,q,_,h2,_⟩:=h
    simp [zda h2]
  | [],_ :: _,_,_,h=>by cases h
  | [],[],_ :: _,_,h=>by cases h
  | _ :: _,[],_,_,h=>by cases h
  | _ :: _,_ :: _,[],_,h=>by cases h
set_option maxRecDepth 100000 in
theorem zcl (os:Os) (started:os.Started) (H:Type) (enc:TypeId × Value→H) :
    ReturnsInHanded {} Tryz.checked os 5 .any (fun w args=>(Rows.suitPaperSpec.pre enc Tryz.prog Tryz.f5 [] false w args∧laidMetH Tryz.prog zmo w)∧sizedMet enc Tryz.prog Tryz.f5 (OpenSpec.ofChange Rows.suitPaperSpec) false w args)
      (Rows.suitPaperSpec.post enc Tryz.prog Tryz.f5 false true false false):=by
  refine returnsInHanded_of_change_and (C:=Tryz.checked) (X:=fun w _=>laidMetH Tryz.prog zmo w) (fun _ _ _ hh h=>h.of_heap hh) Top.own started (by kernel_rfl) Tryz.func5
    (ChangeSpec.witness_shaped (enc:=enc) (C:=Tryz.checked) (os:=os) (X:=fun w _=>laidMetH Tryz.prog zmo w) false (World.doorLaid Tryz.prog 400 os) #[.agg #[.slice none 0 0,.slice none 0 0,.slice none 0 0,.slice none 0 0,.slice none 0 0,.slice none 0 0,.slice none 0 0,.slice none 0 0],.slice none 0 0,.agg #[.int .i64 0,.int .i64 0,.int .i64 0,.int .i64 0,.int .i64 0,.int .i64 0,.int .i64 0],.slice none 0 0,.int .i64 0] 12 rfl (World.shaped_of_RefB (by kernel_rfl) (by kernel_rfl)) (by kernel_rfl) (by kernel_rfl) (by kernel_rfl) (zqj os _)) ?_
  intro W base args ds gs before hval hW _ _ hL _
  refine zpp (P:=Tryz.prog) (T:=TT) (cl:=CL) (tb:=4) (base:=base) (fn:=Tryz.f5) tok Top.laidOut (by kernel_rfl) (by kernel_rfl) (by kernel_rfl) (by kernel_rfl) (by kernel_rfl) rfl hval hW (zrz hL) ?_ (fun dss h=>Hm zad dss h)
  obtain ⟨p,q,hA,hV,-⟩:=hW
  obtain ⟨rfl,rfl⟩:=trodVars_none hV
  have hlen:ds.length=5:=zda hA
  match ds,hlen with
  | [_,_,_,_,_],_=>exact ⟨rfl,rfl,rfl⟩
theorem zjU:(Rows.suitPaperRow.wf (OpenSpec.ofChange Rows.suitPaperSpec))=true:=by kernel_rfl
theorem zlf:(laidOutB Tryz.checked.prog)=true:=by kernel_rfl
theorem zkK:(mapsRowed Tryz.checked.prog)=true:=by kernel_rfl
theorem zka:(Tryz.f5.params.all (Tryz.checked.prog.readableRec ·))=true:=by kernel_rfl
theorem zjX:(namedTie Tryz.checked.prog Rows.suitPaperRow.named Rows.suitPaperSpec.vars)=true:=by kernel_rfl
theorem zkk:((Rows.suitPaperRow.stops == []))=true:=by kernel_rfl
theorem zj0:((Tryz.checked.prog.stops == []))=true:=by kernel_rfl
theorem zkH:((Rows.suitPaperRow.knobs == []))=true:=by kernel_rfl
theorem zkc:((Tryz.checked.prog.stopKnobs == []))=true:=by kernel_rfl
theorem zk0:((Rows.suitPaperRow.inPlace == Tryz.checked.prog.inPlace 5))=true:=by kernel_rfl
theorem zix:((Rows.suitPaperRow.unfollowed == Tryz.checked.prog.unfollowed 5))=true:=by kernel_rfl
theorem ziY:((Rows.suitPaperRow.recurses == Tryz.checked.prog.recurses 5))=true:=by kernel_rfl
theorem ziZ:((Rows.suitPaperRow.named == Tryz.checked.prog.varsNamed 5))=true:=by kernel_rfl
theorem ziT:((Rows.suitPaperRow.maps == (Tryz.f5.params.toList++Rows.suitPaperSpec.plain.varTypes Tryz.checked.prog).any (Tryz.checked.prog.mapsRec ·)))=true:=by kernel_rfl
theorem zhQ:((Rows.suitPaperRow.ifaces == (Tryz.f5.params.toList++Rows.suitPaperSpec.plain.varTypes Tryz.checked.prog).any (Tryz.checked.prog.ifacesRec ·)))=true:=by kernel_rfl
theorem zh0:((Rows.suitPaperRow.mapsOut == Tryz.checked.prog.mapsAmong Tryz.f5.resultTypes.toList))=true:=by kernel_rfl
theorem ziH:((Rows.suitPaperRow.loops == (Tryz.f5.params.toList++Rows.suitPaperSpec.plain.varTypes Tryz.checked.prog).any (Tryz.checked.prog.loopsFrom ·)))=true:=by kernel_rfl
theorem zic:((Rows.suitPaperRow.wideKeys == (Tryz.f5.params.toList++Rows.suitPaperSpec.plain.varTypes Tryz.checked.prog++Tryz.f5.resultTypes.toList).any (Tryz.checked.prog.wideKeysFrom ·)))=true:=by kernel_rfl
theorem zhK:(Rows.suitPaperSpec.vars.all (Tryz.checked.prog.varReadable ·))=true:=by kernel_rfl
theorem ziP:(Tryz.f5.resultTypes.all (fun t=>Tryz.checked.prog.readableRec t&&decide (t < Tryz.checked.prog.types.size)))=true:=by kernel_rfl
theorem zir:((Rows.suitPaperRow.ifacesOut == Tryz.f5.resultTypes.toList.any (Tryz.checked.prog.ifacesRec ·)))=true:=by kernel_rfl
theorem zie:((Rows.suitPaperRow.loopsOut == Tryz.f5.resultTypes.toList.any (Tryz.checked.prog.loopsFrom ·)))=true:=by kernel_rfl
theorem ziw:((Rows.suitPaperRow.plainKeys == Tryz.checked.prog.plainKeys))=true:=by kernel_rfl
theorem zio:(Rows.suitPaperRow.shortTexts.isNone)=true:=by kernel_rfl
theorem zhG:(Tryz.checked.prog.stopsHeard)=true:=by kernel_rfl
theorem zil:(Tryz.checked.prog.mayEnter)=true:=by kernel_rfl
theorem zhJ:((Rows.suitPaperRow.lifted == Tryz.checked.prog.liftsFinal))=true:=by kernel_rfl
theorem ziD:((Tryz.checked.prog.make == some Rows.suitPaperRow.make))=true:=by kernel_rfl
theorem zhM:((Rows.suitPaperRow.kinds == (if Rows.suitPaperRow.domain.isEmpty then [] else Tryz.f5.params.toList.map fun t=>match Tryz.checked.prog.underlying t with | some (.int k)=>some k | _=>none)))=true:=by kernel_rfl
theorem zh9:((Rows.suitPaperRow.pinned == Rows.suitPaperRow.pinnedBy))=true:=by kernel_rfl
theorem ziK:((Rows.suitPaperRow.veiled == (Tryz.f5.params.toList++Rows.suitPaperSpec.plain.varTypes Tryz.checked.prog++Tryz.f5.resultTypes.toList).any (Tryz.checked.prog.veiledRec ·)))=true:=by kernel_rfl
theorem ziI:(Rows.suitPaperRow.veiledFits Tryz.checked.prog Tryz.f5.params.toList (Tryz.f5.params.toList++Rows.suitPaperSpec.plain.varTypes Tryz.checked.prog++Tryz.f5.resultTypes.toList))=true:=by kernel_rfl
theorem Ks {a b:Bool} (h:a=true) (k:b=true):(a&&b)=true:=by rw [h,k]; rfl
theorem zbR:joinedFacts Tryz.checked.prog 5 Tryz.f5 Rows.suitPaperSpec Rows.suitPaperRow=true:=by
  unfold joinedFacts
  exact Ks (Ks (Ks (Ks (Ks (Ks (Ks (Ks (Ks (Ks (Ks (Ks (Ks (Ks (Ks (Ks (Ks (Ks (Ks (Ks (Ks (Ks (Ks (Ks (Ks (Ks (Ks (Ks (Ks (Ks (Ks zjU zlf) zkK) zka) zjX) zkk) zj0) zkH) zkc) zk0) zix) ziY) ziZ) ziT) zhQ) zh0) ziH) zic) zhK) ziP) zir) zie) ziw) zio) zhG) zil) zhJ) ziD) zhM) zh9) ziK) ziI
theorem zgc:Rows.SuitPaperSaid :=
  OpenClaim.holds_of_wide 5 Tryz.f5 rfl rfl rfl rfl rfl rfl rfl ⟨rfl,rfl,rfl,rfl,rfl⟩ rfl rfl rfl rfl rfl (by kernel_rfl) Tryz.func5 zbR
    (of_decide_eq_true (by kernel_rfl)) (by unfold Func.isWrapper; first | (rw [if_pos (by decide +kernel)]; kernel_rfl) | (rw [if_neg (by decide +kernel)]; exact ⟨rfl,rfl⟩))
    (fun os started H enc _=>zcl os started H enc)
theorem suitPaper_holds:Rows.SuitPaperCardSaid :=
  Claim7.holds_tied_plain_at .later [] [.widerDeep] true Rows.suitPaperCard.stood.harness Rows.suitPaperCard.stood.looks
    zgc (fun _ h=>by cases h) (by kernel_rfl) (fun _ h=>by cases h) suitPaper_row_tie rfl ⟨rfl,rfl⟩ (by kernel_rfl) rfl
    (fun f fn hf hfn=>by
      obtain rfl:f=5:=Option.some.inj ((show Tryz.prog.funcNamed "allonge/allongelaw46.SuitPaper" = some 5 by kernel_rfl).symm.trans hf) |>.symm
      obtain rfl:fn=Tryz.f5:=(Option.some.inj (Tryz.func5.symm.trans hfn)).symm
      exact ⟨by kernel_rfl,fun j t ht=>by
        have hm:t∈Tryz.f5.params.toList:=by simpa using Array.mem_of_getElem? ht
        have hall:(Tryz.f5.params.toList.all fun u=>!Tryz.prog.wantsStandIn u)=true:=by kernel_rfl
        exact (show Tryz.prog.wantsStandIn t=false by simpa using List.all_eq_true.1 hall t hm)⟩)
    (by kernel_rfl)


end Go.Proofs.YtilbddpghnnmhaaGreatDoor

