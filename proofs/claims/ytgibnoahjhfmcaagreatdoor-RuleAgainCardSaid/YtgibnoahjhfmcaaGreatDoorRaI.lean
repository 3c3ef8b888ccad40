/- Proved: for all texts of at most 2000 bytes, what Parse returns can be written, and is read again as the same; with an error nothing is returned, and the offset lies in the text. Conditions: none beside those in the statement. -/
import Derived.Test.YtgibnoahjhfmcaaGreatDoorRaO
import Derived.Test.YtgibnoahjhfmcaaGreatDoorRaP
import Derived.Test.YtgibnoahjhfmcaaGreatDoorLc
import Derived.Test.YtgibnoahjhfmcaaGreatDoorRows
import Derived.Test.YtgibnoahjhfmcaaGreatDoorTie
import Derived.Test.YtgibnoahjhfmcaaGreatDoorCards
import Derived.ProofKit
import Derived.HandedShaped
import Derived.LaidMore
import Derived.OpenShut
import Derived.SevenTiedAt
set_option linter.unusedSimpArgs false
set_option linter.unusedVariables false
set_option maxRecDepth 100000
namespace Go.Proofs.YtgibnoahjhfmcaaGreatDoor
open Go Go.Av Go.ChangeShapes Go.WideShapes Go.ChangeAt Go.RowKit
def laid1:List (String × DataW Unit):=Rows.ruleAgainRow.laid
theorem kgGL0:Tryz.prog.globalNamed "strings.asciiSpace" = some 0:=by kernel_rfl
theorem ktGL0:(Tryz.prog.globals[0]?).map (·.type)=some 111:=by kernel_rfl
def GL0:List Int:=[0,0,0,0,0,0,0,0,0,1,1,1,1,1,0,0,0,0,0,0,0,0,0,0,0,0,0,0,0,0,0,0,1,0,0,0,0,0,0,0,0,0,0,0,0,0,0,0,0,0,0,0,0,0,0,0,0,0,0,0,0,0,0,0,0,0,0,0,0,0,0,0,0,0,0,0,0,0,0,0,0,0,0,0,0,0,0,0,0,0,0,0,0,0,0,0,0,0,0,0,0,0,0,0,0,0,0,0,0,0,0,0,0,0,0,0,0,0,0,0,0,0,0,0,0,0,0,0,0,0,0,0,0,0,0,0,0,0,0,0,0,0,0,0,0,0,0,0,0,0,0,0,0,0,0,0,0,0,0,0,0,0,0,0,0,0,0,0,0,0,0,0,0,0,0,0,0,0,0,0,0,0,0,0,0,0,0,0,0,0,0,0,0,0,0,0,0,0,0,0,0,0,0,0,0,0,0,0,0,0,0,0,0,0,0,0,0,0,0,0,0,0,0,0,0,0,0,0,0,0,0,0,0,0,0,0,0,0,0,0,0,0,0,0,0,0,0,0,0,0,0,0,0,0,0,0]
theorem kgGL1:Tryz.prog.globalNamed "allonge/lex.signs" = some 1:=by kernel_rfl
theorem ktGL1:(Tryz.prog.globals[1]?).map (·.type)=some 118:=by kernel_rfl
def GL1:List Int:=[40,41,44,59,58,61,60,43,45,42,46,123,125]
theorem kgGL4:Tryz.prog.globalNamed "internal/strconv.uint64pow10" = some 4:=by kernel_rfl
theorem ktGL4:(Tryz.prog.globals[4]?).map (·.type)=some 205:=by kernel_rfl
def GL4:List Int:=[1,10,100,1000,10000,100000,1000000,10000000,100000000,1000000000,10000000000,100000000000,1000000000000,10000000000000,100000000000000,1000000000000000,10000000000000000,100000000000000000,1000000000000000000,10000000000000000000]
theorem var_heap {P:Program} {w:World} {n:String} {g:Nat} {cs:Array Value} (hg:P.globalNamed n=some g) (h:w.var? P n=some cs):∃ t fz,w.heap[g]? = some (.cells cs t fz):=by
  simp only [World.var?,hg,Option.bind_some] at h
  split at h
  · rename_i c t fz e
    cases h
    exact ⟨_,_,e⟩
  · cases h
/-- a laid array of numbers,cell by cell -/
theorem laid_cells {H:Type} {enc:TypeId × Value→H} {w:World} {base:Nat} {spare:Nat→Bool} {held:Bool} {fuel:Nat} {x:DataW H × List MemPlace} {nm:String} {g t et n:Nat} {K:IntKind} {L:List Int} {cs:Array Value}
    (hg:Tryz.prog.globalNamed nm=some g) (hv:w.var? Tryz.prog nm=some cs) (hu:Tryz.prog.underlying t=some (.array n et)) (he:Tryz.prog.underlying et=some (.int K)) (ce:Tryz.prog.cellsOf et=1) (ct:Tryz.prog.cellsOf t=n) (hL:L.length=n)
    (hd:DataW.trod enc Tryz.prog w base spare held fuel t cs.toList=some x) (hx:x.1=.agg (L.map fun n=>DataW.lit (.int K n))) :
    cs.size=n∧∀ j,j < n→w.cell? ⟨g,j,none⟩=some (.int K (L.getD j 0)):=by
  obtain ⟨xs,m1,rfl,rfl,hlen,hn3,hel⟩:=DataW.trod_array hu hd
  simp only [DataW.agg.injEq] at hx
  have hl:cs.toList.length=n:=hlen.trans ct
  refine ⟨by simpa using hl,fun j hj=>?_⟩
  have h0:=hel j hj
  rw [ce] at h0
  have hx2:xs[j]?.map (·.1)=some (.lit (.int K (L.getD j 0))):=by
    rw [← List.getElem?_map,hx,List.getElem?_map]
    have hj':j < L.length:=by omega
    simp [List.getD,hj']
  cases hxj:xs[j]? with
  | none=>rw [hxj] at hx2; cases hx2
  | some y =>
    rw [hxj] at hx2 h0
    simp only [Option.map_some,Option.some.injEq] at hx2
    obtain ⟨k,e1,e2,_⟩:=DataW.trod_int he h0
    rw [e2] at hx2
    simp only [DataW.lit.injEq,Lit.int.injEq,true_and] at hx2
    subst hx2
    have hj2:j < cs.toList.length:=by omega
    have:=World.var?_cell hg hv j
    have e3:(cs.toList.drop (j * 1)).take 1=[cs.toList[j]]:=by
      rw [Nat.mul_one,List.drop_eq_getElem_cons hj2]
      rfl
    rw [e3] at e1
    simp only [List.cons.injEq,and_true] at e1
    rw [this]
    simp only [Array.length_toList] at hj2
    rw [Array.getElem?_eq_getElem hj2]
    simpa using e1
theorem vals_of {w:World} {S:Nat→Prop} {g n:Nat} {K:IntKind} {L:List Int} {l:List D} (hs:S g) (hl:l=L.map fun n=>D.v (.int K n)) (hL:L.length=n) (hc:∀ j,j < n→w.cell? ⟨g,j,none⟩=some (.int K (L.getD j 0))) :
    ∃ vals:Nat→Value,(∀ j,j < l.length→S g∧w.cell? ⟨g,0+j,none⟩=some (vals j))∧∀ j,j < l.length→Rd w S (l.getD j default) (vals j):=by
  subst hl
  refine ⟨fun j=>.int K (L.getD j 0),fun j hj=>?_,fun j hj=>?_⟩
  · rw [Nat.zero_add]
    exact ⟨hs,hc j (by rw [List.length_map] at hj; omega)⟩
  · rw [List.length_map] at hj
    have e:(L.map fun n=>D.v (.int K n)).getD j default=.v (.int K (L.getD j 0)):=by simp [List.getD,hj]
    rw [e]
    exact .v _ rfl
theorem glob_ok {W:World} (h:laidMetH Tryz.prog laid1 W) (hsh:W.ShapedOpen Tryz.prog):GlobOK W fun b=>b < W.heap.size:=by
  rw [MakeChecks.laidMetH_plain _ _ _ (by kernel_rfl)] at h
  obtain ⟨ps,hv,-,-⟩:=h
  obtain ⟨_,_,_,_,_,q0,-,-,-,-,hv,-⟩:=hv
  obtain ⟨_,_,_,_,_,q1,-,-,-,-,hv,-⟩:=hv
  obtain ⟨gGL4,tGL4,csGL4,fGL4,pGL4,qGL4,hgGL4,htGL4,hvGL4,hdGL4,hv,-⟩:=hv
  obtain ⟨_,_,_,_,_,q3,-,-,-,-,hv,-⟩:=hv
  obtain ⟨gGL0,tGL0,csGL0,fGL0,pGL0,qGL0,hgGL0,htGL0,hvGL0,hdGL0,hv,-⟩:=hv
  obtain ⟨gGL1,tGL1,csGL1,fGL1,pGL1,qGL1,hgGL1,htGL1,hvGL1,hdGL1,-,-⟩:=hv
  obtain rfl:=Option.some.inj (kgGL0.symm.trans hgGL0)
  obtain rfl:=Option.some.inj (ktGL0.symm.trans htGL0)
  obtain ⟨bGL0,zGL0,wGL0⟩:=var_heap hgGL0 hvGL0
  have hGL0s:0 < W.heap.size:=(Array.getElem?_eq_some_iff.1 wGL0).1
  have cGL0:=laid_cells (n:=256) (et:=5) (K:=.u8) (L:=GL0) hgGL0 hvGL0 (by kernel_rfl) (by kernel_rfl) (by kernel_rfl) (by kernel_rfl) (by kernel_rfl) hdGL0 (by kernel_rfl)
  obtain rfl:=Option.some.inj (kgGL1.symm.trans hgGL1)
  obtain rfl:=Option.some.inj (ktGL1.symm.trans htGL1)
  obtain ⟨bGL1,zGL1,wGL1⟩:=var_heap hgGL1 hvGL1
  have hGL1s:1 < W.heap.size:=(Array.getElem?_eq_some_iff.1 wGL1).1
  have cGL1:=laid_cells (n:=13) (et:=5) (K:=.u8) (L:=GL1) hgGL1 hvGL1 (by kernel_rfl) (by kernel_rfl) (by kernel_rfl) (by kernel_rfl) (by kernel_rfl) hdGL1 (by kernel_rfl)
  obtain rfl:=Option.some.inj (kgGL4.symm.trans hgGL4)
  obtain rfl:=Option.some.inj (ktGL4.symm.trans htGL4)
  obtain ⟨bGL4,zGL4,wGL4⟩:=var_heap hgGL4 hvGL4
  have hGL4s:4 < W.heap.size:=(Array.getElem?_eq_some_iff.1 wGL4).1
  have cGL4:=laid_cells (n:=20) (et:=157) (K:=.u64) (L:=GL4) hgGL4 hvGL4 (by kernel_rfl) (by kernel_rfl) (by kernel_rfl) (by kernel_rfl) (by kernel_rfl) hdGL4 (by kernel_rfl)
  refine ⟨fun p hp=>?_,fun p hp=>?_⟩
  · simp only [Globs.op,List.mem_cons,List.not_mem_nil,or_false] at hp
    rcases hp with rfl | rfl
    · exact ⟨hGL0s,_,wGL0,by show Nat.beq csGL0.size 256=true; rw [cGL0.1]; rfl⟩
    · exact ⟨hGL4s,_,wGL4,by show Nat.beq csGL4.size 20=true; rw [cGL4.1]; rfl⟩
  · have hp2:p∈[(0,GL0.map fun n=>D.v (.int .u8 n)),(1,GL1.map fun n=>D.v (.int .u8 n)),(4,GL4.map fun n=>D.v (.int .u64 n))]:=by
      have e:Globs.gl=[(0,GL0.map fun n=>D.v (.int .u8 n)),(1,GL1.map fun n=>D.v (.int .u8 n)),(4,GL4.map fun n=>D.v (.int .u64 n))]:=by kernel_rfl
      rw [← e]; exact hp
    simp only [List.mem_cons,List.not_mem_nil,or_false] at hp2
    rcases hp2 with rfl | rfl | rfl
    · exact vals_of (S:=fun b=>b < W.heap.size) (g:=0) (n:=256) (K:=.u8) (L:=GL0) hGL0s rfl (by kernel_rfl) cGL0.2
    · exact vals_of (S:=fun b=>b < W.heap.size) (g:=1) (n:=13) (K:=.u8) (L:=GL1) hGL1s rfl (by kernel_rfl) cGL1.2
    · exact vals_of (S:=fun b=>b < W.heap.size) (g:=4) (n:=20) (K:=.u64) (L:=GL4) hGL4s rfl (by kernel_rfl) cGL4.2

theorem Top.own:ownKnob Tryz.prog.godebug=none:=by kernel_rfl
theorem Top.laidOut:laidOutB Tryz.prog=true:=by kernel_rfl
theorem door_met (os:Os) (args:Array Value):laidMetH Tryz.prog laid1 ((World.doorLaid Tryz.prog 400 os).forCall (fun _ _=>0) ⟨#[],args,[]⟩).memory :=
  laidMetH_of_parts3 (fuel:=8) (laidMet_of_run' 8 (by kernel_rfl) (by kernel_rfl)) (by kernel_rfl) (by kernel_rfl)
/-- as the kit's law with one condition more,the world's shape handed on -/
theorem handed_and_shaped {H:Type} {enc:TypeId × Value→H} {a:Assume} {C:Checked} {os:Os} {f:FuncId} {fn:Func} {s:ChangeSpec} {conds:List PathCond} {apart fresh handsOn again:Bool} {X:World→Array Value→Prop}
    (hX:∀ (w w':World) (args:Array Value),w.heap=w'.heap→X w args→X w' args)
    (own:ownKnob C.prog.godebug=none) (started:os.Started) (noInit:C.prog.inits.idxOf? f=none) (hfn:C.prog.funcs[f]? = some fn)
    (witness:∃ (w:World) (tape:Tape) (i:Input),w.os=os∧(w.forCall tape i).Shaped C.prog∧i.vars=[]∧Input.okWide C.prog (w.forCall tape i) .any w.heap.size f i ∧
      ((s.pre enc C.prog fn conds apart (w.forCall tape i).memory i.args∧X (w.forCall tape i).memory i.args)∧sizedMet enc C.prog fn (OpenSpec.ofChange s) apart (w.forCall tape i).memory i.args)∧a.holds C.prog (lone (Frame.enter C.prog f i.args .normal) [] (w.forCall tape i)))
    (contract:∀ (W:World) (base:Nat) (args:Array Value) (ds gs:List (DataW H)) (before:List MemPlace),
      (∀ (j:Nat) t v,fn.params[j]? = some t→args[j]? = some v→Value.okWide C.prog W .any base t v) →
      DataW.Whole enc C.prog fn.params.toList s.vars apart W args.toList ds gs before →
      conds.all (PathCond.test C.prog ⟨fn.params.toList,ds,s.plain.varTypes C.prog,gs⟩)=true →
      (DataW.weightsEach C.prog (fn.params.toList++s.plain.varTypes C.prog) (ds++gs)).all (·≤reachBytes)=true→X W args→W.ShapedOpen C.prog →
      a.holds C.prog (lone (Frame.enter C.prog f args .normal) [] W) →
      Calls C.prog f args W fun e W'=>∃ v,e=.returned v∧s.post enc C.prog fn apart fresh handsOn again W args v W') :
    ReturnsInHanded a C os f .any (fun w args=>(s.pre enc C.prog fn conds apart w args∧X w args)∧sizedMet enc C.prog fn (OpenSpec.ofChange s) apart w args) (s.post enc C.prog fn apart fresh handsOn again):=by
  refine returnsInHanded_of_calls own started noInit witness ?_
  intro w tape i _ hsh _ hok hpre hholds
  obtain ⟨_,_,_,fn',hfn',_,_,_,_,hval⟩:=hok
  have e:fn'=fn:=Option.some.inj (hfn'.symm.trans hfn)
  subst e
  obtain ⟨⟨⟨ds,gs,before,hw,hc⟩,hx⟩,hz⟩:=hpre
  have hw':=DataW.Whole.of_heap (w':=w.forCall tape i) (by rfl) hw
  refine (contract (w.forCall tape i) w.heap.size i.args ds gs before hval hw' hc (hz.weights hw) (hX _ _ _ (by rfl) hx) hsh hholds).mono fun e W' ⟨v,he,hp⟩=>?_
  subst he
  exact ChangeSpec.post_blind hp

def CL:List Nat:=[9]
theorem trodAll_len {H:Type} {enc:TypeId × Value→H} {P:Program} {w:World} {base:Nat} {sp:Nat→Bool} {held:Bool}:∀ {ts:List TypeId} {vs:List Value} {ds:List (DataW H)} {ps:List MemPlace},DataW.TrodAll enc P w base sp held ts vs ds ps→ds.length=ts.length
  | [],[],[],_,_=>rfl
  | _ :: _,_ :: _,_ :: _,_,h=>by
    obtain ⟨p,q,_,h2,_⟩:=h
    simp [trodAll_len h2]
  | [],_ :: _,_,_,h=>by cases h
  | [],[],_ :: _,_,h=>by cases h
  | _ :: _,[],_,_,h=>by cases h
  | _ :: _,_ :: _,[],_,h=>by cases h
set_option maxRecDepth 100000 in
theorem ruleAgain_lifted (os:Os) (started:os.Started) (H:Type) (enc:TypeId × Value→H) :
    ReturnsInHanded {} Tryz.checked os 5 .any (fun w args=>(Rows.ruleAgainSpec.pre enc Tryz.prog Tryz.f5 [] false w args∧laidMetH Tryz.prog laid1 w)∧sizedMet enc Tryz.prog Tryz.f5 (OpenSpec.ofChange Rows.ruleAgainSpec) false w args)
      (Rows.ruleAgainSpec.post enc Tryz.prog Tryz.f5 false true false false):=by
  refine handed_and_shaped (C:=Tryz.checked) (X:=fun w _=>laidMetH Tryz.prog laid1 w) (fun _ _ _ hh h=>h.of_heap hh) Top.own started (by kernel_rfl) Tryz.func5
    (ChangeSpec.witness_shaped (enc:=enc) (C:=Tryz.checked) (os:=os) (X:=fun w _=>laidMetH Tryz.prog laid1 w) false (World.doorLaid Tryz.prog 400 os) #[.string ⟨#[]⟩] 12 rfl (World.shaped_of_RefB (by kernel_rfl) (by kernel_rfl)) (by kernel_rfl) (by kernel_rfl) (by kernel_rfl) (door_met os _)) ?_
  intro W base args ds gs before hval hW _ _ hL hsh _
  refine law_calls (P:=Tryz.prog) (T:=TT) (cl:=CL) (tb:=4) (base:=base) (fn:=Tryz.f5) tok Top.laidOut (by kernel_rfl) (by kernel_rfl) (by kernel_rfl) (by kernel_rfl) (by kernel_rfl) rfl hval hW (glob_ok hL hsh) ?_ (fun dss h=>L16_RuleAgain_law_fn L16_RuleAgain_law dss h)
  obtain ⟨p,q,hA,hV,-⟩:=hW
  obtain ⟨rfl,rfl⟩:=trodVars_none hV
  have hlen:ds.length=1:=trodAll_len hA
  match ds,hlen with
  | [_],_=>exact ⟨rfl,rfl,rfl⟩
theorem ruleAgain_l0:(Rows.ruleAgainRow.wf (OpenSpec.ofChange Rows.ruleAgainSpec))=true:=by kernel_rfl
theorem ruleAgain_l1:(laidOutB Tryz.checked.prog)=true:=by kernel_rfl
theorem ruleAgain_l2:(mapsRowed Tryz.checked.prog)=true:=by kernel_rfl
theorem ruleAgain_l3:(Tryz.f5.params.all (Tryz.checked.prog.readableRec ·))=true:=by kernel_rfl
theorem ruleAgain_l4:(namedTie Tryz.checked.prog Rows.ruleAgainRow.named Rows.ruleAgainSpec.vars)=true:=by kernel_rfl
theorem ruleAgain_l5:((Rows.ruleAgainRow.stops == []))=true:=by kernel_rfl
theorem ruleAgain_l6:((Tryz.checked.prog.stops == []))=true:=by kernel_rfl
theorem ruleAgain_l7:((Rows.ruleAgainRow.knobs == []))=true:=by kernel_rfl
theorem ruleAgain_l8:((Tryz.checked.prog.stopKnobs == []))=true:=by kernel_rfl
theorem ruleAgain_l9:((Rows.ruleAgainRow.inPlace == Tryz.checked.prog.inPlace 5))=true:=by kernel_rfl
theorem ruleAgain_l10:((Rows.ruleAgainRow.unfollowed == Tryz.checked.prog.unfollowed 5))=true:=by kernel_rfl
theorem ruleAgain_l11:((Rows.ruleAgainRow.recurses == Tryz.checked.prog.recurses 5))=true:=by kernel_rfl
theorem ruleAgain_l12:((Rows.ruleAgainRow.named == Tryz.checked.prog.varsNamed 5))=true:=by kernel_rfl
theorem ruleAgain_l13:((Rows.ruleAgainRow.maps == (Tryz.f5.params.toList++Rows.ruleAgainSpec.plain.varTypes Tryz.checked.prog).any (Tryz.checked.prog.mapsRec ·)))=true:=by kernel_rfl
theorem ruleAgain_l14:((Rows.ruleAgainRow.ifaces == (Tryz.f5.params.toList++Rows.ruleAgainSpec.plain.varTypes Tryz.checked.prog).any (Tryz.checked.prog.ifacesRec ·)))=true:=by kernel_rfl
theorem ruleAgain_l15:((Rows.ruleAgainRow.mapsOut == Tryz.checked.prog.mapsAmong Tryz.f5.resultTypes.toList))=true:=by kernel_rfl
theorem ruleAgain_l16:((Rows.ruleAgainRow.loops == (Tryz.f5.params.toList++Rows.ruleAgainSpec.plain.varTypes Tryz.checked.prog).any (Tryz.checked.prog.loopsFrom ·)))=true:=by kernel_rfl
theorem ruleAgain_l17:((Rows.ruleAgainRow.wideKeys == (Tryz.f5.params.toList++Rows.ruleAgainSpec.plain.varTypes Tryz.checked.prog++Tryz.f5.resultTypes.toList).any (Tryz.checked.prog.wideKeysFrom ·)))=true:=by kernel_rfl
theorem ruleAgain_l18:(Rows.ruleAgainSpec.vars.all (Tryz.checked.prog.varReadable ·))=true:=by kernel_rfl
theorem ruleAgain_l19:(Tryz.f5.resultTypes.all (fun t=>Tryz.checked.prog.readableRec t&&decide (t < Tryz.checked.prog.types.size)))=true:=by kernel_rfl
theorem ruleAgain_l20:((Rows.ruleAgainRow.ifacesOut == Tryz.f5.resultTypes.toList.any (Tryz.checked.prog.ifacesRec ·)))=true:=by kernel_rfl
theorem ruleAgain_l21:((Rows.ruleAgainRow.loopsOut == Tryz.f5.resultTypes.toList.any (Tryz.checked.prog.loopsFrom ·)))=true:=by kernel_rfl
theorem ruleAgain_l22:((Rows.ruleAgainRow.plainKeys == Tryz.checked.prog.plainKeys))=true:=by kernel_rfl
theorem ruleAgain_l23:(Rows.ruleAgainRow.shortTexts.isNone)=true:=by kernel_rfl
theorem ruleAgain_l24:(Tryz.checked.prog.stopsHeard)=true:=by kernel_rfl
theorem ruleAgain_l25:(Tryz.checked.prog.mayEnter)=true:=by kernel_rfl
theorem ruleAgain_l26:((Rows.ruleAgainRow.lifted == Tryz.checked.prog.liftsFinal))=true:=by kernel_rfl
theorem ruleAgain_l27:((Tryz.checked.prog.make == some Rows.ruleAgainRow.make))=true:=by kernel_rfl
theorem ruleAgain_l28:((Rows.ruleAgainRow.kinds == (if Rows.ruleAgainRow.domain.isEmpty then [] else Tryz.f5.params.toList.map fun t=>match Tryz.checked.prog.underlying t with | some (.int k)=>some k | _=>none)))=true:=by kernel_rfl
theorem ruleAgain_l29:((Rows.ruleAgainRow.pinned == Rows.ruleAgainRow.pinnedBy))=true:=by kernel_rfl
theorem ruleAgain_l30:((Rows.ruleAgainRow.veiled == (Tryz.f5.params.toList++Rows.ruleAgainSpec.plain.varTypes Tryz.checked.prog++Tryz.f5.resultTypes.toList).any (Tryz.checked.prog.veiledRec ·)))=true:=by kernel_rfl
theorem ruleAgain_l31:(Rows.ruleAgainRow.veiledFits Tryz.checked.prog Tryz.f5.params.toList (Tryz.f5.params.toList++Rows.ruleAgainSpec.plain.varTypes Tryz.checked.prog++Tryz.f5.resultTypes.toList))=true:=by kernel_rfl
theorem and2 {a b:Bool} (h:a=true) (k:b=true):(a&&b)=true:=by rw [h,k]; rfl
theorem ruleAgain_closed:joinedFacts Tryz.checked.prog 5 Tryz.f5 Rows.ruleAgainSpec Rows.ruleAgainRow=true:=by
  unfold joinedFacts
  exact and2 (and2 (and2 (and2 (and2 (and2 (and2 (and2 (and2 (and2 (and2 (and2 (and2 (and2 (and2 (and2 (and2 (and2 (and2 (and2 (and2 (and2 (and2 (and2 (and2 (and2 (and2 (and2 (and2 (and2 (and2 ruleAgain_l0 ruleAgain_l1) ruleAgain_l2) ruleAgain_l3) ruleAgain_l4) ruleAgain_l5) ruleAgain_l6) ruleAgain_l7) ruleAgain_l8) ruleAgain_l9) ruleAgain_l10) ruleAgain_l11) ruleAgain_l12) ruleAgain_l13) ruleAgain_l14) ruleAgain_l15) ruleAgain_l16) ruleAgain_l17) ruleAgain_l18) ruleAgain_l19) ruleAgain_l20) ruleAgain_l21) ruleAgain_l22) ruleAgain_l23) ruleAgain_l24) ruleAgain_l25) ruleAgain_l26) ruleAgain_l27) ruleAgain_l28) ruleAgain_l29) ruleAgain_l30) ruleAgain_l31
theorem ruleAgain_said:Rows.RuleAgainSaid :=
  OpenClaim.holds_of_wide 5 Tryz.f5 rfl rfl rfl rfl rfl rfl rfl ⟨rfl,rfl,rfl,rfl,rfl⟩ rfl rfl rfl rfl rfl (by kernel_rfl) Tryz.func5 ruleAgain_closed
    (of_decide_eq_true (by kernel_rfl)) (by unfold Func.isWrapper; first | (rw [if_pos (by decide +kernel)]; kernel_rfl) | (rw [if_neg (by decide +kernel)]; exact ⟨rfl,rfl⟩))
    (fun os started H enc _=>ruleAgain_lifted os started H enc)
theorem ruleAgain_holds:Rows.RuleAgainCardSaid :=
  Claim7.holds_tied_plain_at .later [] [.data,.data,.data,.listed,.data,.data] true Rows.ruleAgainCard.stood.harness Rows.ruleAgainCard.stood.looks
    ruleAgain_said (fun _ h=>by cases h) (by kernel_rfl) (fun _ h=>by cases h) ruleAgain_row_tie rfl ⟨rfl,rfl⟩ (by kernel_rfl) rfl
    (fun f fn hf hfn=>by
      obtain rfl:f=5:=Option.some.inj ((show Tryz.prog.funcNamed "allonge/allongelaw16.RuleAgain" = some 5 by kernel_rfl).symm.trans hf) |>.symm
      obtain rfl:fn=Tryz.f5:=(Option.some.inj (Tryz.func5.symm.trans hfn)).symm
      exact ⟨by kernel_rfl,fun j t ht=>by
        have hm:t∈Tryz.f5.params.toList:=by simpa using Array.mem_of_getElem? ht
        have hall:(Tryz.f5.params.toList.all fun u=>!Tryz.prog.wantsStandIn u)=true:=by kernel_rfl
        exact (show Tryz.prog.wantsStandIn t=false by simpa using List.all_eq_true.1 hall t hm)⟩)
    (by kernel_rfl)


end Go.Proofs.YtgibnoahjhfmcaaGreatDoor

