/- The given statement ReportTells, proved: every function of the package of reports returns what the reference returns. Conditions: none beside those in the statement. -/
import Derived.Test.YtihmmpaalpghbaaGreatDoorRyO
import Derived.Test.YtihmmpaalpghbaaGreatDoorRyP
import Derived.Test.YtihmmpaalpghbaaGreatDoorLc
import Derived.Test.YtihmmpaalpghbaaGreatDoorRows
import Derived.Test.YtihmmpaalpghbaaGreatDoorTie
import Derived.Test.YtihmmpaalpghbaaGreatDoorCards
import Derived.ProofKit
import Derived.HandedShaped
import Derived.LaidMore
import Derived.OpenShut
import Derived.SevenTiedAt
set_option linter.unusedSimpArgs false
set_option linter.unusedVariables false
set_option maxRecDepth 100000
namespace Go.Proofs.YtihmmpaalpghbaaGreatDoor
open Go Go.Av Go.ChangeShapes Go.WideShapes Go.ChangeAt Go.RowKit
def Nr:List (String × DataW Unit):=Rows.reportTellsRow.laid
theorem adP:Tryz.prog.globalNamed "internal/strconv.uint64pow10" = some 3:=by kernel_rfl
theorem adQ:(Tryz.prog.globals[3]?).map (·.type)=some 263:=by kernel_rfl
theorem Hx {P:Program} {w:World} {g:Nat} {t:TypeId} {zero:Array Value} (h:w.ShapedOpen P) (hg:g < P.globals.size)
    (h0:((begin P (fun _ _=>0) default).world.heap[g]?).bind Obj.row? = some (zero,t)) (hz:zero.size=1)
    (hb:P.buildable t=true) (hc:P.cellTypes P.depth t=some [t]) (hu:P.underlying t=some (.int .i64)):∃ v,w.heap[g]? = some v∧LW v=true:=by
  obtain ⟨cs,hh,hs,hr⟩:=h.1 g zero t hg h0
  obtain ⟨ts,Kz,_,oe⟩:=hr hb
  rw [hc] at Kz
  cases Kz
  have h1:0 < cs.size:=by omega
  obtain ⟨u,Yf,Al⟩:=oe 0 cs[0] (by simp [h1])
  have:u=t:=by simpa using Yf.symm
  subst this
  unfold Cell.ok at Al
  rw [hu] at Al
  refine ⟨_,hh,?_⟩
  have e:cs[0]? = some cs[0]:=by simp [h1]
  show (match (cs[0]?:Option Value) with | some (.int .i64 _)=>true | _=>false)=true
  rw [e]
  cases hv:cs[0] <;> rw [hv] at Al <;> simp at Al
  case int k' n=>obtain ⟨rfl,-⟩:=Al; rfl
theorem ZF:Tryz.prog.globalNamed "strconv.ErrRange" = some 2:=by kernel_rfl
theorem adR:Tryz.prog.globalNamed "strconv.ErrSyntax" = some 1:=by kernel_rfl
theorem ZG:(Tryz.prog.globals[2]?).map (·.type)=some 138:=by kernel_rfl
theorem adS:(Tryz.prog.globals[1]?).map (·.type)=some 138:=by kernel_rfl
theorem Ge {P:Program} {w:World} {n:String} {g:Nat} {cs:Array Value} (hg:P.globalNamed n=some g) (h:w.var? P n=some cs):∃ t fz,w.heap[g]? = some (.cells cs t fz):=by
  simp only [World.var?,hg,Option.bind_some] at h
  split at h
  · rename_i c t fz e
    cases h
    exact ⟨_,_,e⟩
  · cases h
theorem Ca {w:World} {g:Nat} {cs:Array Value} {t:TypeId} {fz:Nat × Nat} {u:TypeId} {v:Value} (h:w.heap[g]? = some (.cells cs t fz)) (hc:cs.toList=[.iface u v]):g < w.heap.size∧∃ o,w.heap[g]? = some o∧ER o=true:=by
  have e:cs = #[.iface u v]:=Array.ext' hc
  subst e
  exact ⟨(Array.getElem?_eq_some_iff.1 h).1,_,h,rfl⟩
def P10:List Int:=[1,10,100,1000,10000,100000,1000000,10000000,100000000,1000000000,10000000000,100000000000,1000000000000,10000000000000,100000000000000,1000000000000000,10000000000000000,100000000000000000,1000000000000000000,10000000000000000000]
theorem WZ {W:World} (h:laidMetH Tryz.prog Nr W) (hsh:W.ShapedOpen Tryz.prog):iA W fun b=>b < W.heap.size:=by
  rw [MakeChecks.laidMetH_plain _ _ _ (by kernel_rfl)] at h
  obtain ⟨ps,hv,-,-⟩:=h
  obtain ⟨_,_,_,_,_,q1,-,-,-,-,hv,-⟩:=hv
  obtain ⟨_,_,_,_,_,q2,-,-,-,-,hv,-⟩:=hv
  obtain ⟨g3,t3,cs3,f3,p3,q3,hg3,ht3,hv3,Yr,hv,-⟩:=hv
  obtain ⟨g2,t2,cs2,f2,p2,q4,hg2,Yy,hv2,Eg,hv,-⟩:=hv
  obtain ⟨g1,t1,LG,f1,p1,q5,hg1,ht1,hv1,NZ,-,-⟩:=hv
  obtain rfl:=Option.some.inj (adP.symm.trans hg3)
  obtain rfl:=Option.some.inj (adQ.symm.trans ht3)
  obtain rfl:=Option.some.inj (ZF.symm.trans hg2)
  obtain rfl:=Option.some.inj (ZG.symm.trans Yy)
  obtain rfl:=Option.some.inj (adR.symm.trans hg1)
  obtain rfl:=Option.some.inj (adS.symm.trans ht1)
  obtain ⟨b3,z3,w3⟩:=Ge hg3 hv3
  obtain ⟨b2,z2,w2⟩:=Ge hg2 hv2
  obtain ⟨b1,z1,w1⟩:=Ge hg1 hv1
  obtain ⟨-,u2,v2,e2,-,-⟩:=iface_of_trod Tryz.underlying138 Eg
  obtain ⟨-,u1,v1,e1,-,-⟩:=iface_of_trod Tryz.underlying138 NZ
  have abG:Tryz.prog.underlying 263=some (.array 20 200):=by kernel_rfl
  have abH:Tryz.prog.underlying 200=some (.int .u64):=by kernel_rfl
  have adT:Tryz.prog.cellsOf 200=1:=by kernel_rfl
  have adU:Tryz.prog.cellsOf 263=20:=by kernel_rfl
  obtain ⟨xs,m1,rfl,wo,hlen,hn3,hel⟩:=DataW.trod_array abG Yr
  simp only [Rows.laid_internal_strconv_uint64pow10,Prod.mk.injEq,DataW.agg.injEq] at wo
  have hl:cs3.toList.length=20:=hlen.trans adU
  have dK:cs3.size=20:=by simpa using hl
  have QB:xs.map (·.1)=P10.map fun n=>DataW.lit (.int .u64 n):=wo.1.symm
  have each:∀ j,j < 20→W.cell? ⟨3,j,none⟩=some (.int .u64 (P10.getD j 0)):=by
    intro j hj
    have h0:=hel j hj
    rw [adT] at h0
    have hx:xs[j]?.map (·.1)=some (.lit (.int .u64 (P10.getD j 0))):=by
      rw [← List.getElem?_map,QB,List.getElem?_map]
      have Ar:j < P10.length:=hj
      simp [List.getD,Ar]
    cases hxj:xs[j]? with
    | none=>rw [hxj] at hx; cases hx
    | some y =>
      rw [hxj] at hx h0
      simp only [Option.map_some,Option.some.injEq] at hx
      obtain ⟨k,e1,e2,_⟩:=DataW.trod_int abH h0
      rw [e2] at hx
      simp only [DataW.lit.injEq,Lit.int.injEq,true_and] at hx
      subst hx
      have U0:j < cs3.toList.length:=by omega
      have:=World.var?_cell hg3 hv3 j
      have e3:(cs3.toList.drop (j * 1)).take 1=[cs3.toList[j]]:=by
        rw [Nat.mul_one,List.drop_eq_getElem_cons U0]
        rfl
      rw [e3] at e1
      simp only [List.cons.injEq,and_true] at e1
      rw [this]
      simp only [Array.length_toList] at U0
      rw [Array.getElem?_eq_getElem U0]
      simpa using e1
  have h3s:3 < W.heap.size:=(Array.getElem?_eq_some_iff.1 w3).1
  refine ⟨fun p hp=>?_,fun p hp=>?_⟩
  · simp only [oa.op,List.mem_cons,List.not_mem_nil,or_false] at hp
    rcases hp with rfl | rfl | rfl | rfl
    · refine ⟨by show 0 < W.heap.size; omega,Hx hsh (by rw [show Tryz.prog.globals.size=6 by kernel_rfl]; decide) (t:=3) (zero:=#[.int .i64 0]) (by kernel_rfl) rfl (by kernel_rfl) (by kernel_rfl) (by kernel_rfl)⟩
    · exact Ca w1 e1
    · exact Ca w2 e2
    · exact ⟨h3s,_,w3,by show Nat.beq cs3.size 20=true; rw [dK]; rfl⟩
  · obtain rfl:=List.mem_singleton.1 hp
    refine ⟨fun j=>.int .u64 (P10.getD j 0),fun j hj=>?_,fun j hj=>?_⟩
    · have hj:j < 20:=hj
      rw [Nat.zero_add]
      exact ⟨h3s,each j hj⟩
    · have hj:j < 20:=hj
      have:j=0∨j=1∨j=2∨j=3∨j=4∨j=5∨j=6∨j=7∨j=8∨j=9∨j=10∨j=11∨j=12∨j=13∨j=14∨j=15∨j=16∨j=17∨j=18∨j=19:=by omega
      rcases this with rfl | rfl | rfl | rfl | rfl | rfl | rfl | rfl | rfl | rfl | rfl | rfl | rfl | rfl | rfl | rfl | rfl | rfl | rfl | rfl <;> exact .v _ rfl

theorem Top.own:ownKnob Tryz.prog.godebug=none:=by kernel_rfl
theorem Top.laidOut:laidOutB Tryz.prog=true:=by kernel_rfl
theorem UW (os:Os) (args:Array Value):laidMetH Tryz.prog Nr ((World.doorLaid Tryz.prog 400 os).forCall (fun _ _=>0) ⟨#[],args,[]⟩).memory :=
  laidMetH_of_parts3 (fuel:=8) (laidMet_of_run' 8 (by kernel_rfl) (by kernel_rfl)) (by kernel_rfl) (by kernel_rfl)
/-- as Hz aeg law with one condition more,Hz acb shape handed on -/
theorem Ak {H:Type} {enc:TypeId × Value→H} {a:Assume} {C:Checked} {os:Os} {f:FuncId} {fn:Func} {s:ChangeSpec} {conds:List PathCond} {apart fresh handsOn again:Bool} {X:World→Array Value→Prop}
    (hX:∀ (w w':World) (args:Array Value),w.heap=w'.heap→X w args→X w' args)
    (own:ownKnob C.prog.godebug=none) (started:os.Started) (ZH:C.prog.inits.idxOf? f=none) (NL:C.prog.funcs[f]? = some fn)
    (witness:∃ (w:World) (tape:Tape) (i:Input),w.os=os∧(w.forCall tape i).Shaped C.prog∧i.vars=[]∧Input.okWide C.prog (w.forCall tape i) .any w.heap.size f i ∧
      ((s.pre enc C.prog fn conds apart (w.forCall tape i).memory i.args∧X (w.forCall tape i).memory i.args)∧sizedMet enc C.prog fn (OpenSpec.ofChange s) apart (w.forCall tape i).memory i.args)∧a.holds C.prog (lone (Frame.enter C.prog f i.args .normal) [] (w.forCall tape i)))
    (UX:∀ (W:World) (base:Nat) (args:Array Value) (ds gs:List (DataW H)) (before:List MemPlace),
      (∀ (j:Nat) t v,fn.params[j]? = some t→args[j]? = some v→Value.okWide C.prog W .any base t v) →
      DataW.Whole enc C.prog fn.params.toList s.vars apart W args.toList ds gs before →
      conds.all (PathCond.test C.prog ⟨fn.params.toList,ds,s.plain.varTypes C.prog,gs⟩)=true →
      (DataW.weightsEach C.prog (fn.params.toList++s.plain.varTypes C.prog) (ds++gs)).all (·≤reachBytes)=true→X W args→W.ShapedOpen C.prog →
      a.holds C.prog (lone (Frame.enter C.prog f args .normal) [] W) →
      Calls C.prog f args W fun e W'=>∃ v,e=.returned v∧s.post enc C.prog fn apart fresh handsOn again W args v W') :
    ReturnsInHanded a C os f .any (fun w args=>(s.pre enc C.prog fn conds apart w args∧X w args)∧sizedMet enc C.prog fn (OpenSpec.ofChange s) apart w args) (s.post enc C.prog fn apart fresh handsOn again):=by
  refine returnsInHanded_of_calls own started ZH witness ?_
  intro w tape i _ hsh _ Al IA ZI
  obtain ⟨_,_,_,fn',adV,_,_,_,_,Tq⟩:=Al
  have e:fn'=fn:=Option.some.inj (adV.symm.trans NL)
  subst e
  obtain ⟨⟨⟨ds,gs,before,hw,hc⟩,hx⟩,hz⟩:=IA
  have hw':=DataW.Whole.of_heap (w':=w.forCall tape i) (by rfl) hw
  refine (UX (w.forCall tape i) w.heap.size i.args ds gs before Tq hw' hc (hz.weights hw) (hX _ _ _ (by rfl) hx) hsh ZI).mono fun e W' ⟨v,he,hp⟩=>?_
  subst he
  exact ChangeSpec.post_blind hp

def CL:List Nat:=[56,68,3,37,9,47,48,49,50,51,52,53,54,70,35,105,163,165,109,168,170,172,25,27,29,31,33,43,4,106,107,23,205,210,208,206]
theorem Cb {H:Type} {enc:TypeId × Value→H} {P:Program} {w:World} {base:Nat} {sp:Nat→Bool} {held:Bool}:∀ {ts:List TypeId} {vs:List Value} {ds:List (DataW H)} {ps:List MemPlace},DataW.TrodAll enc P w base sp held ts vs ds ps→ds.length=ts.length
  | [],[],[],_,_=>rfl
  | _ :: _,_ :: _,_ :: _,_,h=>by
    obtain ⟨p,q,_,h2,_⟩:=h
    simp [Cb h2]
  | [],_ :: _,_,_,h=>by cases h
  | [],[],_ :: _,_,h=>by cases h
  | _ :: _,[],_,_,h=>by cases h
  | _ :: _,_ :: _,[],_,h=>by cases h
set_option maxRecDepth 100000 in
theorem yE (os:Os) (started:os.Started) (H:Type) (enc:TypeId × Value→H) :
    ReturnsInHanded {} Tryz.checked os 5 .any (fun w args=>(Rows.reportTellsSpec.pre enc Tryz.prog Tryz.f5 [] false w args∧laidMetH Tryz.prog Nr w)∧sizedMet enc Tryz.prog Tryz.f5 (OpenSpec.ofChange Rows.reportTellsSpec) false w args)
      (Rows.reportTellsSpec.post enc Tryz.prog Tryz.f5 false true false false):=by
  refine Ak (C:=Tryz.checked) (X:=fun w _=>laidMetH Tryz.prog Nr w) (fun _ _ _ hh h=>h.of_heap hh) Top.own started (by kernel_rfl) Tryz.func5
    (ChangeSpec.witness_shaped (enc:=enc) (C:=Tryz.checked) (os:=os) (X:=fun w _=>laidMetH Tryz.prog Nr w) false (World.doorLaid Tryz.prog 400 os) #[.agg #[.slice none 0 0,.slice none 0 0,.slice none 0 0,.slice none 0 0,.slice none 0 0,.slice none 0 0,.slice none 0 0,.slice none 0 0],.slice none 0 0,.int .i64 0,.int .i64 0,.agg #[.int .i64 0,.int .i64 0,.int .i64 0,.int .i64 0,.int .i64 0,.int .i64 0,.int .i64 0,.int .i64 0,.int .i64 0,.int .i64 0,.int .i64 0,.int .i64 0,.int .i64 0,.int .i64 0,.int .i64 0,.int .i64 0,.int .i64 0,.int .i64 0,.int .i64 0,.int .i64 0,.int .i64 0,.int .i64 0,.int .i64 0,.int .i64 0,.int .i64 0,.int .i64 0,.int .i64 0,.int .i64 0,.int .i64 0,.int .i64 0,.int .i64 0,.int .i64 0,.int .i64 0,.int .i64 0,.int .i64 0,.int .i64 0,.int .i64 0,.int .i64 0,.int .i64 0,.int .i64 0,.int .i64 0,.int .i64 0,.int .i64 0,.int .i64 0],.string ⟨#[]⟩] 12 rfl (World.shaped_of_RefB (by kernel_rfl) (by kernel_rfl)) (by kernel_rfl) (by kernel_rfl) (by kernel_rfl) (UW os _)) ?_
  intro W base args ds gs before Tq hW _ _ hL hsh _
  refine QZ (P:=Tryz.prog) (T:=TT) (cl:=CL) (tb:=4) (base:=base) (fn:=Tryz.f5) tok Top.laidOut (by kernel_rfl) (by kernel_rfl) (by kernel_rfl) (by kernel_rfl) (by kernel_rfl) rfl Tq hW (WZ hL hsh) ?_ (fun Nx h=>uG xh Nx h)
  obtain ⟨p,q,hA,hV,-⟩:=hW
  obtain ⟨rfl,rfl⟩:=trodVars_none hV
  have hlen:ds.length=6:=Cb hA
  match ds,hlen with
  | [_,_,_,_,_,_],_=>exact ⟨rfl,rfl,rfl⟩
theorem Gf:(Rows.reportTellsRow.wf (OpenSpec.ofChange Rows.reportTellsSpec))=true:=by kernel_rfl
theorem Gg:(laidOutB Tryz.checked.prog)=true:=by kernel_rfl
theorem Gh:(mapsRowed Tryz.checked.prog)=true:=by kernel_rfl
theorem Gi:(Tryz.f5.params.all (Tryz.checked.prog.readableRec ·))=true:=by kernel_rfl
theorem Gj:(namedTie Tryz.checked.prog Rows.reportTellsRow.named Rows.reportTellsSpec.vars)=true:=by kernel_rfl
theorem Gk:((Rows.reportTellsRow.stops == []))=true:=by kernel_rfl
theorem Gl:((Tryz.checked.prog.stops == []))=true:=by kernel_rfl
theorem Gm:((Rows.reportTellsRow.knobs == []))=true:=by kernel_rfl
theorem Gn:((Tryz.checked.prog.stopKnobs == []))=true:=by kernel_rfl
theorem Gp:((Rows.reportTellsRow.inPlace == Tryz.checked.prog.inPlace 5))=true:=by kernel_rfl
theorem C3:((Rows.reportTellsRow.unfollowed == Tryz.checked.prog.unfollowed 5))=true:=by kernel_rfl
theorem C4:((Rows.reportTellsRow.recurses == Tryz.checked.prog.recurses 5))=true:=by kernel_rfl
theorem C6:((Rows.reportTellsRow.named == Tryz.checked.prog.varsNamed 5))=true:=by kernel_rfl
theorem C7:((Rows.reportTellsRow.maps == (Tryz.f5.params.toList++Rows.reportTellsSpec.plain.varTypes Tryz.checked.prog).any (Tryz.checked.prog.mapsRec ·)))=true:=by kernel_rfl
theorem C8:((Rows.reportTellsRow.ifaces == (Tryz.f5.params.toList++Rows.reportTellsSpec.plain.varTypes Tryz.checked.prog).any (Tryz.checked.prog.ifacesRec ·)))=true:=by kernel_rfl
theorem C9:((Rows.reportTellsRow.mapsOut == Tryz.checked.prog.mapsAmong Tryz.f5.resultTypes.toList))=true:=by kernel_rfl
theorem Da:((Rows.reportTellsRow.loops == (Tryz.f5.params.toList++Rows.reportTellsSpec.plain.varTypes Tryz.checked.prog).any (Tryz.checked.prog.loopsFrom ·)))=true:=by kernel_rfl
theorem Db:((Rows.reportTellsRow.wideKeys == (Tryz.f5.params.toList++Rows.reportTellsSpec.plain.varTypes Tryz.checked.prog++Tryz.f5.resultTypes.toList).any (Tryz.checked.prog.wideKeysFrom ·)))=true:=by kernel_rfl
theorem Dc:(Rows.reportTellsSpec.vars.all (Tryz.checked.prog.varReadable ·))=true:=by kernel_rfl
theorem Dd:(Tryz.f5.resultTypes.all (fun t=>Tryz.checked.prog.readableRec t&&decide (t < Tryz.checked.prog.types.size)))=true:=by kernel_rfl
theorem De:((Rows.reportTellsRow.ifacesOut == Tryz.f5.resultTypes.toList.any (Tryz.checked.prog.ifacesRec ·)))=true:=by kernel_rfl
theorem Df:((Rows.reportTellsRow.loopsOut == Tryz.f5.resultTypes.toList.any (Tryz.checked.prog.loopsFrom ·)))=true:=by kernel_rfl
theorem Dg:((Rows.reportTellsRow.plainKeys == Tryz.checked.prog.plainKeys))=true:=by kernel_rfl
theorem Dh:(Rows.reportTellsRow.shortTexts.isNone)=true:=by kernel_rfl
theorem Di:(Tryz.checked.prog.stopsHeard)=true:=by kernel_rfl
theorem Dj:(Tryz.checked.prog.mayEnter)=true:=by kernel_rfl
theorem Dk:((Rows.reportTellsRow.lifted == Tryz.checked.prog.liftsFinal))=true:=by kernel_rfl
theorem Dl:((Tryz.checked.prog.make == some Rows.reportTellsRow.make))=true:=by kernel_rfl
theorem Dm:((Rows.reportTellsRow.kinds == (if Rows.reportTellsRow.domain.isEmpty then [] else Tryz.f5.params.toList.map fun t=>match Tryz.checked.prog.underlying t with | some (.int k)=>some k | _=>none)))=true:=by kernel_rfl
theorem Dn:((Rows.reportTellsRow.pinned == Rows.reportTellsRow.pinnedBy))=true:=by kernel_rfl
theorem Dp:((Rows.reportTellsRow.veiled == (Tryz.f5.params.toList++Rows.reportTellsSpec.plain.varTypes Tryz.checked.prog++Tryz.f5.resultTypes.toList).any (Tryz.checked.prog.veiledRec ·)))=true:=by kernel_rfl
theorem Dq:(Rows.reportTellsRow.veiledFits Tryz.checked.prog Tryz.f5.params.toList (Tryz.f5.params.toList++Rows.reportTellsSpec.plain.varTypes Tryz.checked.prog++Tryz.f5.resultTypes.toList))=true:=by kernel_rfl
theorem lN {a b:Bool} (h:a=true) (k:b=true):(a&&b)=true:=by rw [h,k]; rfl
theorem yF:joinedFacts Tryz.checked.prog 5 Tryz.f5 Rows.reportTellsSpec Rows.reportTellsRow=true:=by
  unfold joinedFacts
  exact lN (lN (lN (lN (lN (lN (lN (lN (lN (lN (lN (lN (lN (lN (lN (lN (lN (lN (lN (lN (lN (lN (lN (lN (lN (lN (lN (lN (lN (lN (lN Gf Gg) Gh) Gi) Gj) Gk) Gl) Gm) Gn) Gp) C3) C4) C6) C7) C8) C9) Da) Db) Dc) Dd) De) Df) Dg) Dh) Di) Dj) Dk) Dl) Dm) Dn) Dp) Dq
theorem BG:Rows.ReportTellsSaid :=
  OpenClaim.holds_of_wide 5 Tryz.f5 rfl rfl rfl rfl rfl rfl rfl ⟨rfl,rfl,rfl,rfl,rfl⟩ rfl rfl rfl rfl rfl (by kernel_rfl) Tryz.func5 yF
    (of_decide_eq_true (by kernel_rfl)) (by unfold Func.isWrapper; first | (rw [if_pos (by decide +kernel)]; kernel_rfl) | (rw [if_neg (by decide +kernel)]; exact ⟨rfl,rfl⟩))
    (fun os started H enc _=>yE os started H enc)
theorem reportTells_holds:Rows.ReportTellsCardSaid :=
  Claim7.holds_tied_plain_at .later [] [.data,.data,.data,.sentinel,.sentinel] true Rows.reportTellsCard.stood.harness Rows.reportTellsCard.stood.looks
    BG (fun _ h=>by cases h) (by kernel_rfl) (fun _ h=>by cases h) reportTells_row_tie rfl ⟨rfl,rfl⟩ (by kernel_rfl) rfl
    (fun f fn hf NL=>by
      obtain rfl:f=5:=Option.some.inj ((show Tryz.prog.funcNamed "allonge/allongelaw50.ReportTells" = some 5 by kernel_rfl).symm.trans hf) |>.symm
      obtain rfl:fn=Tryz.f5:=(Option.some.inj (Tryz.func5.symm.trans NL)).symm
      exact ⟨by kernel_rfl,fun j t ht=>by
        have hm:t∈Tryz.f5.params.toList:=by simpa using Array.mem_of_getElem? ht
        have oe:(Tryz.f5.params.toList.all fun u=>!Tryz.prog.wantsStandIn u)=true:=by kernel_rfl
        exact (show Tryz.prog.wantsStandIn t=false by simpa using List.all_eq_true.1 oe t hm)⟩)
    (by kernel_rfl)


end Go.Proofs.YtihmmpaalpghbaaGreatDoor

