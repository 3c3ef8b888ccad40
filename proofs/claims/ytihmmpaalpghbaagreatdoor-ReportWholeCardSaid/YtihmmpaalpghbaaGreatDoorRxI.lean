/- The given statement ReportWhole, proved: if all that a right file says is reported by one reporter and arrives at two registries, the file of the bill is this file. Conditions: none beside those in the statement. -/
import Derived.Test.YtihmmpaalpghbaaGreatDoorRxO
import Derived.Test.YtihmmpaalpghbaaGreatDoorRxP
import Derived.Test.YtihmmpaalpghbaaGreatDoorAvY
import Derived.Test.YtihmmpaalpghbaaGreatDoorRows
import Derived.Test.YtihmmpaalpghbaaGreatDoorTie
import Derived.Test.YtihmmpaalpghbaaGreatDoorCards
import Derived.ProofKit
import Derived.HandedShaped
import Derived.LaidMore
import Derived.OpenShut
import Derived.SevenTiedAt
set_option linter.unusedSimpArgs false
set_option linter.unusedVariables false
set_option maxRecDepth 100000
namespace Go.Proofs.YtihmmpaalpghbaaGreatDoor
open Go Go.Av Go.ChangeShapes Go.WideShapes Go.ChangeAt Go.RowKit
def laid1 : List (String × DataW Unit) := Rows.reportWholeRow.laid
theorem gPow : Tryz.prog.globalNamed "internal/strconv.uint64pow10" = some 3 := by kernel_rfl
theorem tPow : (Tryz.prog.globals[3]?).map (·.type) = some 263 := by kernel_rfl
theorem int_of_shaped {P : Program} {w : World} {g : Nat} {t : TypeId} {zero : Array Value} (h : w.ShapedOpen P) (hg : g < P.globals.size)
    (h0 : ((begin P (fun _ _ => 0) default).world.heap[g]?).bind Obj.row? = some (zero, t)) (hz : zero.size = 1)
    (hb : P.buildable t = true) (hc : P.cellTypes P.depth t = some [t]) (hu : P.underlying t = some (.int .i64)) : ∃ v, w.heap[g]? = some v ∧ isI64 v = true := by
  obtain ⟨cs, hh, hs, hr⟩ := h.1 g zero t hg h0
  obtain ⟨ts, hts, _, hall⟩ := hr hb
  rw [hc] at hts
  cases hts
  have h1 : 0 < cs.size := by omega
  obtain ⟨u, hu', hok⟩ := hall 0 cs[0] (by simp [h1])
  have : u = t := by simpa using hu'.symm
  subst this
  unfold Cell.ok at hok
  rw [hu] at hok
  refine ⟨_, hh, ?_⟩
  have e : cs[0]? = some cs[0] := by simp [h1]
  show (match (cs[0]? : Option Value) with | some (.int .i64 _) => true | _ => false) = true
  rw [e]
  cases hv : cs[0] <;> rw [hv] at hok <;> simp at hok
  case int k' n => obtain ⟨rfl, -⟩ := hok; rfl
theorem gRange : Tryz.prog.globalNamed "strconv.ErrRange" = some 2 := by kernel_rfl
theorem gSyn : Tryz.prog.globalNamed "strconv.ErrSyntax" = some 1 := by kernel_rfl
theorem tRange : (Tryz.prog.globals[2]?).map (·.type) = some 138 := by kernel_rfl
theorem tSyn : (Tryz.prog.globals[1]?).map (·.type) = some 138 := by kernel_rfl
theorem var_heap {P : Program} {w : World} {n : String} {g : Nat} {cs : Array Value} (hg : P.globalNamed n = some g) (h : w.var? P n = some cs) : ∃ t fz, w.heap[g]? = some (.cells cs t fz) := by
  simp only [World.var?, hg, Option.bind_some] at h
  split at h
  · rename_i c t fz e
    cases h
    exact ⟨_, _, e⟩
  · cases h
theorem ifc_of_laid {w : World} {g : Nat} {cs : Array Value} {t : TypeId} {fz : Nat × Nat} {u : TypeId} {v : Value} (h : w.heap[g]? = some (.cells cs t fz)) (hc : cs.toList = [.iface u v]) : g < w.heap.size ∧ ∃ o, w.heap[g]? = some o ∧ isIfc o = true := by
  have e : cs = #[.iface u v] := Array.ext' hc
  subst e
  exact ⟨(Array.getElem?_eq_some_iff.1 h).1, _, h, rfl⟩
def P10 : List Int := [1, 10, 100, 1000, 10000, 100000, 1000000, 10000000, 100000000, 1000000000, 10000000000, 100000000000, 1000000000000, 10000000000000, 100000000000000, 1000000000000000, 10000000000000000, 100000000000000000, 1000000000000000000, 10000000000000000000]
theorem glob_ok {W : World} (h : laidMetH Tryz.prog laid1 W) (hsh : W.ShapedOpen Tryz.prog) : GlobOK W fun b => b < W.heap.size := by
  rw [MakeChecks.laidMetH_plain _ _ _ (by kernel_rfl)] at h
  obtain ⟨ps, hv, -, -⟩ := h
  obtain ⟨_, _, _, _, _, q1, -, -, -, -, hv, -⟩ := hv
  obtain ⟨_, _, _, _, _, q2, -, -, -, -, hv, -⟩ := hv
  obtain ⟨g3, t3, cs3, f3, p3, q3, hg3, ht3, hv3, hd3, hv, -⟩ := hv
  obtain ⟨g2, t2, cs2, f2, p2, q4, hg2, ht2, hv2, hd2, hv, -⟩ := hv
  obtain ⟨g1, t1, cs1, f1, p1, q5, hg1, ht1, hv1, hd1, -, -⟩ := hv
  obtain rfl := Option.some.inj (gPow.symm.trans hg3)
  obtain rfl := Option.some.inj (tPow.symm.trans ht3)
  obtain rfl := Option.some.inj (gRange.symm.trans hg2)
  obtain rfl := Option.some.inj (tRange.symm.trans ht2)
  obtain rfl := Option.some.inj (gSyn.symm.trans hg1)
  obtain rfl := Option.some.inj (tSyn.symm.trans ht1)
  obtain ⟨b3, z3, w3⟩ := var_heap hg3 hv3
  obtain ⟨b2, z2, w2⟩ := var_heap hg2 hv2
  obtain ⟨b1, z1, w1⟩ := var_heap hg1 hv1
  obtain ⟨-, u2, v2, e2, -, -⟩ := iface_of_trod Tryz.underlying138 hd2
  obtain ⟨-, u1, v1, e1, -, -⟩ := iface_of_trod Tryz.underlying138 hd1
  have hu263 : Tryz.prog.underlying 263 = some (.array 20 200) := by kernel_rfl
  have hu200 : Tryz.prog.underlying 200 = some (.int .u64) := by kernel_rfl
  have c200 : Tryz.prog.cellsOf 200 = 1 := by kernel_rfl
  have c263 : Tryz.prog.cellsOf 263 = 20 := by kernel_rfl
  obtain ⟨xs, m1, rfl, hx1, hlen, hn3, hel⟩ := DataW.trod_array hu263 hd3
  simp only [Rows.laid_internal_strconv_uint64pow10, Prod.mk.injEq, DataW.agg.injEq] at hx1
  have hl : cs3.toList.length = 20 := hlen.trans c263
  have hsz : cs3.size = 20 := by simpa using hl
  have hxs : xs.map (·.1) = P10.map fun n => DataW.lit (.int .u64 n) := hx1.1.symm
  have each : ∀ j, j < 20 → W.cell? ⟨3, j, none⟩ = some (.int .u64 (P10.getD j 0)) := by
    intro j hj
    have h0 := hel j hj
    rw [c200] at h0
    have hx : xs[j]?.map (·.1) = some (.lit (.int .u64 (P10.getD j 0))) := by
      rw [← List.getElem?_map, hxs, List.getElem?_map]
      have hj' : j < P10.length := hj
      simp [List.getD, hj']
    cases hxj : xs[j]? with
    | none => rw [hxj] at hx; cases hx
    | some y =>
      rw [hxj] at hx h0
      simp only [Option.map_some, Option.some.injEq] at hx
      obtain ⟨k, e1, e2, _⟩ := DataW.trod_int hu200 h0
      rw [e2] at hx
      simp only [DataW.lit.injEq, Lit.int.injEq, true_and] at hx
      subst hx
      have hj2 : j < cs3.toList.length := by omega
      have := World.var?_cell hg3 hv3 j
      have e3 : (cs3.toList.drop (j * 1)).take 1 = [cs3.toList[j]] := by
        rw [Nat.mul_one, List.drop_eq_getElem_cons hj2]
        rfl
      rw [e3] at e1
      simp only [List.cons.injEq, and_true] at e1
      rw [this]
      simp only [Array.length_toList] at hj2
      rw [Array.getElem?_eq_getElem hj2]
      simpa using e1
  have h3s : 3 < W.heap.size := (Array.getElem?_eq_some_iff.1 w3).1
  refine ⟨fun p hp => ?_, fun p hp => ?_⟩
  · simp only [Globs.op, List.mem_cons, List.not_mem_nil, or_false] at hp
    rcases hp with rfl | rfl | rfl | rfl
    · refine ⟨by show 0 < W.heap.size; omega, int_of_shaped hsh (by rw [show Tryz.prog.globals.size = 6 by kernel_rfl]; decide) (t := 3) (zero := #[.int .i64 0]) (by kernel_rfl) rfl (by kernel_rfl) (by kernel_rfl) (by kernel_rfl)⟩
    · exact ifc_of_laid w1 e1
    · exact ifc_of_laid w2 e2
    · exact ⟨h3s, _, w3, by show Nat.beq cs3.size 20 = true; rw [hsz]; rfl⟩
  · obtain rfl := List.mem_singleton.1 hp
    refine ⟨fun j => .int .u64 (P10.getD j 0), fun j hj => ?_, fun j hj => ?_⟩
    · have hj : j < 20 := hj
      rw [Nat.zero_add]
      exact ⟨h3s, each j hj⟩
    · have hj : j < 20 := hj
      have : j = 0 ∨ j = 1 ∨ j = 2 ∨ j = 3 ∨ j = 4 ∨ j = 5 ∨ j = 6 ∨ j = 7 ∨ j = 8 ∨ j = 9 ∨ j = 10 ∨ j = 11 ∨ j = 12 ∨ j = 13 ∨ j = 14 ∨ j = 15 ∨ j = 16 ∨ j = 17 ∨ j = 18 ∨ j = 19 := by omega
      rcases this with rfl | rfl | rfl | rfl | rfl | rfl | rfl | rfl | rfl | rfl | rfl | rfl | rfl | rfl | rfl | rfl | rfl | rfl | rfl | rfl <;> exact .v _ rfl

theorem Top.own : ownKnob Tryz.prog.godebug = none := by kernel_rfl
theorem Top.laidOut : laidOutB Tryz.prog = true := by kernel_rfl
theorem door_met (os : Os) (args : Array Value) : laidMetH Tryz.prog laid1 ((World.doorLaid Tryz.prog 400 os).forCall (fun _ _ => 0) ⟨#[], args, []⟩).memory :=
  laidMetH_of_parts3 (fuel := 8) (laidMet_of_run' 8 (by kernel_rfl) (by kernel_rfl)) (by kernel_rfl) (by kernel_rfl)
/-- as the kit's law with one condition more, the world's shape handed on -/
theorem handed_and_shaped {H : Type} {enc : TypeId × Value → H} {a : Assume} {C : Checked} {os : Os} {f : FuncId} {fn : Func} {s : ChangeSpec} {conds : List PathCond} {apart fresh handsOn again : Bool} {X : World → Array Value → Prop}
    (hX : ∀ (w w' : World) (args : Array Value), w.heap = w'.heap → X w args → X w' args)
    (own : ownKnob C.prog.godebug = none) (started : os.Started) (noInit : C.prog.inits.idxOf? f = none) (hfn : C.prog.funcs[f]? = some fn)
    (witness : ∃ (w : World) (tape : Tape) (i : Input), w.os = os ∧ (w.forCall tape i).Shaped C.prog ∧ i.vars = [] ∧ Input.okWide C.prog (w.forCall tape i) .any w.heap.size f i ∧
      ((s.pre enc C.prog fn conds apart (w.forCall tape i).memory i.args ∧ X (w.forCall tape i).memory i.args) ∧ sizedMet enc C.prog fn (OpenSpec.ofChange s) apart (w.forCall tape i).memory i.args) ∧ a.holds C.prog (lone (Frame.enter C.prog f i.args .normal) [] (w.forCall tape i)))
    (contract : ∀ (W : World) (base : Nat) (args : Array Value) (ds gs : List (DataW H)) (before : List MemPlace),
      (∀ (j : Nat) t v, fn.params[j]? = some t → args[j]? = some v → Value.okWide C.prog W .any base t v) →
      DataW.Whole enc C.prog fn.params.toList s.vars apart W args.toList ds gs before →
      conds.all (PathCond.test C.prog ⟨fn.params.toList, ds, s.plain.varTypes C.prog, gs⟩) = true →
      (DataW.weightsEach C.prog (fn.params.toList ++ s.plain.varTypes C.prog) (ds ++ gs)).all (· ≤ reachBytes) = true → X W args → W.ShapedOpen C.prog →
      a.holds C.prog (lone (Frame.enter C.prog f args .normal) [] W) →
      Calls C.prog f args W fun e W' => ∃ v, e = .returned v ∧ s.post enc C.prog fn apart fresh handsOn again W args v W') :
    ReturnsInHanded a C os f .any (fun w args => (s.pre enc C.prog fn conds apart w args ∧ X w args) ∧ sizedMet enc C.prog fn (OpenSpec.ofChange s) apart w args) (s.post enc C.prog fn apart fresh handsOn again) := by
  refine returnsInHanded_of_calls own started noInit witness ?_
  intro w tape i _ hsh _ hok hpre hholds
  obtain ⟨_, _, _, fn', hfn', _, _, _, _, hval⟩ := hok
  have e : fn' = fn := Option.some.inj (hfn'.symm.trans hfn)
  subst e
  obtain ⟨⟨⟨ds, gs, before, hw, hc⟩, hx⟩, hz⟩ := hpre
  have hw' := DataW.Whole.of_heap (w' := w.forCall tape i) (by rfl) hw
  refine (contract (w.forCall tape i) w.heap.size i.args ds gs before hval hw' hc (hz.weights hw) (hX _ _ _ (by rfl) hx) hsh hholds).mono fun e W' ⟨v, he, hp⟩ => ?_
  subst he
  exact ChangeSpec.post_blind hp

def CL : List Nat := [56, 62, 3, 47, 48, 49, 50, 51, 52, 53, 54, 25, 57, 58, 59, 60, 9, 105, 163, 165, 109, 168, 170, 172, 23, 27, 31, 29, 33, 43, 4, 106, 107, 205, 210, 208, 206]
theorem trodAll_len {H : Type} {enc : TypeId × Value → H} {P : Program} {w : World} {base : Nat} {sp : Nat → Bool} {held : Bool} : ∀ {ts : List TypeId} {vs : List Value} {ds : List (DataW H)} {ps : List MemPlace}, DataW.TrodAll enc P w base sp held ts vs ds ps → ds.length = ts.length
  | [], [], [], _, _ => rfl
  | _ :: _, _ :: _, _ :: _, _, h => by
    obtain ⟨p, q, _, h2, _⟩ := h
    simp [trodAll_len h2]
  | [], _ :: _, _, _, h => by cases h
  | [], [], _ :: _, _, h => by cases h
  | _ :: _, [], _, _, h => by cases h
  | _ :: _, _ :: _, [], _, h => by cases h
set_option maxRecDepth 100000 in
theorem reportWhole_lifted (os : Os) (started : os.Started) (H : Type) (enc : TypeId × Value → H) :
    ReturnsInHanded {} Tryz.checked os 4 .any (fun w args => (Rows.reportWholeSpec.pre enc Tryz.prog Tryz.f4 [] false w args ∧ laidMetH Tryz.prog laid1 w) ∧ sizedMet enc Tryz.prog Tryz.f4 (OpenSpec.ofChange Rows.reportWholeSpec) false w args)
      (Rows.reportWholeSpec.post enc Tryz.prog Tryz.f4 false true false false) := by
  refine handed_and_shaped (C := Tryz.checked) (X := fun w _ => laidMetH Tryz.prog laid1 w) (fun _ _ _ hh h => h.of_heap hh) Top.own started (by kernel_rfl) Tryz.func4
    (ChangeSpec.witness_shaped (enc := enc) (C := Tryz.checked) (os := os) (X := fun w _ => laidMetH Tryz.prog laid1 w) false (World.doorLaid Tryz.prog 400 os) #[.agg #[.slice none 0 0, .slice none 0 0, .slice none 0 0, .slice none 0 0, .slice none 0 0, .slice none 0 0, .slice none 0 0, .slice none 0 0], .agg #[.int .i64 0, .int .i64 0, .int .i64 0, .int .i64 0, .int .i64 0, .int .i64 0, .int .i64 0, .int .i64 0, .int .i64 0, .int .i64 0, .int .i64 0, .int .i64 0, .int .i64 0, .int .i64 0, .int .i64 0, .slice none 0 0, .slice none 0 0, .slice none 0 0, .slice none 0 0], .int .i64 0, .int .i64 0, .int .i64 0] 12 rfl (World.shaped_of_RefB (by kernel_rfl) (by kernel_rfl)) (by kernel_rfl) (by kernel_rfl) (by kernel_rfl) (door_met os _)) ?_
  intro W base args ds gs before hval hW _ _ hL hsh _
  refine law_calls (P := Tryz.prog) (T := TT) (cl := CL) (tb := 4) (base := base) (fn := Tryz.f4) tok Top.laidOut (by kernel_rfl) (by kernel_rfl) (by kernel_rfl) (by kernel_rfl) (by kernel_rfl) rfl hval hW (glob_ok hL hsh) ?_ (fun dss h => allongelaw50_ReportWhole_law_fn allongelaw50_ReportWhole_law dss h)
  obtain ⟨p, q, hA, hV, -⟩ := hW
  obtain ⟨rfl, rfl⟩ := trodVars_none hV
  have hlen : ds.length = 5 := trodAll_len hA
  match ds, hlen with
  | [_, _, _, _, _], _ => exact ⟨rfl, rfl, rfl⟩
theorem reportWhole_l0 : (Rows.reportWholeRow.wf (OpenSpec.ofChange Rows.reportWholeSpec)) = true := by kernel_rfl
theorem reportWhole_l1 : (laidOutB Tryz.checked.prog) = true := by kernel_rfl
theorem reportWhole_l2 : (mapsRowed Tryz.checked.prog) = true := by kernel_rfl
theorem reportWhole_l3 : (Tryz.f4.params.all (Tryz.checked.prog.readableRec ·)) = true := by kernel_rfl
theorem reportWhole_l4 : (namedTie Tryz.checked.prog Rows.reportWholeRow.named Rows.reportWholeSpec.vars) = true := by kernel_rfl
theorem reportWhole_l5 : ((Rows.reportWholeRow.stops == [])) = true := by kernel_rfl
theorem reportWhole_l6 : ((Tryz.checked.prog.stops == [])) = true := by kernel_rfl
theorem reportWhole_l7 : ((Rows.reportWholeRow.knobs == [])) = true := by kernel_rfl
theorem reportWhole_l8 : ((Tryz.checked.prog.stopKnobs == [])) = true := by kernel_rfl
theorem reportWhole_l9 : ((Rows.reportWholeRow.inPlace == Tryz.checked.prog.inPlace 4)) = true := by kernel_rfl
theorem reportWhole_l10 : ((Rows.reportWholeRow.unfollowed == Tryz.checked.prog.unfollowed 4)) = true := by kernel_rfl
theorem reportWhole_l11 : ((Rows.reportWholeRow.recurses == Tryz.checked.prog.recurses 4)) = true := by kernel_rfl
theorem reportWhole_l12 : ((Rows.reportWholeRow.named == Tryz.checked.prog.varsNamed 4)) = true := by kernel_rfl
theorem reportWhole_l13 : ((Rows.reportWholeRow.maps == (Tryz.f4.params.toList ++ Rows.reportWholeSpec.plain.varTypes Tryz.checked.prog).any (Tryz.checked.prog.mapsRec ·))) = true := by kernel_rfl
theorem reportWhole_l14 : ((Rows.reportWholeRow.ifaces == (Tryz.f4.params.toList ++ Rows.reportWholeSpec.plain.varTypes Tryz.checked.prog).any (Tryz.checked.prog.ifacesRec ·))) = true := by kernel_rfl
theorem reportWhole_l15 : ((Rows.reportWholeRow.mapsOut == Tryz.checked.prog.mapsAmong Tryz.f4.resultTypes.toList)) = true := by kernel_rfl
theorem reportWhole_l16 : ((Rows.reportWholeRow.loops == (Tryz.f4.params.toList ++ Rows.reportWholeSpec.plain.varTypes Tryz.checked.prog).any (Tryz.checked.prog.loopsFrom ·))) = true := by kernel_rfl
theorem reportWhole_l17 : ((Rows.reportWholeRow.wideKeys == (Tryz.f4.params.toList ++ Rows.reportWholeSpec.plain.varTypes Tryz.checked.prog ++ Tryz.f4.resultTypes.toList).any (Tryz.checked.prog.wideKeysFrom ·))) = true := by kernel_rfl
theorem reportWhole_l18 : (Rows.reportWholeSpec.vars.all (Tryz.checked.prog.varReadable ·)) = true := by kernel_rfl
theorem reportWhole_l19 : (Tryz.f4.resultTypes.all (fun t => Tryz.checked.prog.readableRec t && decide (t < Tryz.checked.prog.types.size))) = true := by kernel_rfl
theorem reportWhole_l20 : ((Rows.reportWholeRow.ifacesOut == Tryz.f4.resultTypes.toList.any (Tryz.checked.prog.ifacesRec ·))) = true := by kernel_rfl
theorem reportWhole_l21 : ((Rows.reportWholeRow.loopsOut == Tryz.f4.resultTypes.toList.any (Tryz.checked.prog.loopsFrom ·))) = true := by kernel_rfl
theorem reportWhole_l22 : ((Rows.reportWholeRow.plainKeys == Tryz.checked.prog.plainKeys)) = true := by kernel_rfl
theorem reportWhole_l23 : (Rows.reportWholeRow.shortTexts.isNone) = true := by kernel_rfl
theorem reportWhole_l24 : (Tryz.checked.prog.stopsHeard) = true := by kernel_rfl
theorem reportWhole_l25 : (Tryz.checked.prog.mayEnter) = true := by kernel_rfl
theorem reportWhole_l26 : ((Rows.reportWholeRow.lifted == Tryz.checked.prog.liftsFinal)) = true := by kernel_rfl
theorem reportWhole_l27 : ((Tryz.checked.prog.make == some Rows.reportWholeRow.make)) = true := by kernel_rfl
theorem reportWhole_l28 : ((Rows.reportWholeRow.kinds == (if Rows.reportWholeRow.domain.isEmpty then [] else Tryz.f4.params.toList.map fun t => match Tryz.checked.prog.underlying t with | some (.int k) => some k | _ => none))) = true := by kernel_rfl
theorem reportWhole_l29 : ((Rows.reportWholeRow.pinned == Rows.reportWholeRow.pinnedBy)) = true := by kernel_rfl
theorem reportWhole_l30 : ((Rows.reportWholeRow.veiled == (Tryz.f4.params.toList ++ Rows.reportWholeSpec.plain.varTypes Tryz.checked.prog ++ Tryz.f4.resultTypes.toList).any (Tryz.checked.prog.veiledRec ·))) = true := by kernel_rfl
theorem reportWhole_l31 : (Rows.reportWholeRow.veiledFits Tryz.checked.prog Tryz.f4.params.toList (Tryz.f4.params.toList ++ Rows.reportWholeSpec.plain.varTypes Tryz.checked.prog ++ Tryz.f4.resultTypes.toList)) = true := by kernel_rfl
theorem and2 {a b : Bool} (h : a = true) (k : b = true) : (a && b) = true := by rw [h, k]; rfl
theorem reportWhole_closed : joinedFacts Tryz.checked.prog 4 Tryz.f4 Rows.reportWholeSpec Rows.reportWholeRow = true := by
  unfold joinedFacts
  exact and2 (and2 (and2 (and2 (and2 (and2 (and2 (and2 (and2 (and2 (and2 (and2 (and2 (and2 (and2 (and2 (and2 (and2 (and2 (and2 (and2 (and2 (and2 (and2 (and2 (and2 (and2 (and2 (and2 (and2 (and2 reportWhole_l0 reportWhole_l1) reportWhole_l2) reportWhole_l3) reportWhole_l4) reportWhole_l5) reportWhole_l6) reportWhole_l7) reportWhole_l8) reportWhole_l9) reportWhole_l10) reportWhole_l11) reportWhole_l12) reportWhole_l13) reportWhole_l14) reportWhole_l15) reportWhole_l16) reportWhole_l17) reportWhole_l18) reportWhole_l19) reportWhole_l20) reportWhole_l21) reportWhole_l22) reportWhole_l23) reportWhole_l24) reportWhole_l25) reportWhole_l26) reportWhole_l27) reportWhole_l28) reportWhole_l29) reportWhole_l30) reportWhole_l31
theorem reportWhole_said : Rows.ReportWholeSaid :=
  OpenClaim.holds_of_wide 4 Tryz.f4 rfl rfl rfl rfl rfl rfl rfl ⟨rfl, rfl, rfl, rfl, rfl⟩ rfl rfl rfl rfl rfl (by kernel_rfl) Tryz.func4 reportWhole_closed
    (of_decide_eq_true (by kernel_rfl)) (by unfold Func.isWrapper; first | (rw [if_pos (by decide +kernel)]; kernel_rfl) | (rw [if_neg (by decide +kernel)]; exact ⟨rfl, rfl⟩))
    (fun os started H enc _ => reportWhole_lifted os started H enc)
theorem reportWhole_holds : Rows.ReportWholeCardSaid :=
  Claim7.holds_tied_plain_at .later [] [.data, .data, .data, .sentinel, .sentinel] true Rows.reportWholeCard.stood.harness Rows.reportWholeCard.stood.looks
    reportWhole_said (fun _ h => by cases h) (by kernel_rfl) (fun _ h => by cases h) reportWhole_row_tie rfl ⟨rfl, rfl⟩ (by kernel_rfl) rfl
    (fun f fn hf hfn => by
      obtain rfl : f = 4 := Option.some.inj ((show Tryz.prog.funcNamed "allonge/allongelaw50.ReportWhole" = some 4 by kernel_rfl).symm.trans hf) |>.symm
      obtain rfl : fn = Tryz.f4 := (Option.some.inj (Tryz.func4.symm.trans hfn)).symm
      exact ⟨by kernel_rfl, fun j t ht => by
        have hm : t ∈ Tryz.f4.params.toList := by simpa using Array.mem_of_getElem? ht
        have hall : (Tryz.f4.params.toList.all fun u => !Tryz.prog.wantsStandIn u) = true := by kernel_rfl
        exact (show Tryz.prog.wantsStandIn t = false by simpa using List.all_eq_true.1 hall t hm)⟩)
    (by kernel_rfl)


end Go.Proofs.YtihmmpaalpghbaaGreatDoor

