/- The given statement suitRuns, proved. -/
import Derived.Test.YtilbddpghnnmhaaGreatDoorSrO
import Derived.Test.YtilbddpghnnmhaaGreatDoorSrP
import Derived.Test.YtilbddpghnnmhaaGreatDoorAvY
import Derived.Test.YtilbddpghnnmhaaGreatDoorRows
import Derived.Test.YtilbddpghnnmhaaGreatDoorTie
import Derived.Test.YtilbddpghnnmhaaGreatDoorCards
import Derived.ProofKit
import Derived.LaidMore
import Derived.OpenShut
import Derived.SevenTiedAt
set_option linter.unusedSimpArgs false
set_option linter.unusedVariables false
set_option maxRecDepth 100000
namespace Go.Proofs.YtilbddpghnnmhaaGreatDoor
open Go Go.Av Go.ChangeShapes Go.WideShapes Go.ChangeAt Go.RowKit
def laid1 : List (String × DataW Unit) := [("allonge/order.numbers", Rows.laid_allonge_order_numbers)]
theorem gNums : Tryz.prog.globalNamed "allonge/order.numbers" = some 0 := by kernel_rfl
theorem tNums : (Tryz.prog.globals[0]?).map (·.type) = some 229 := by kernel_rfl
theorem glob_ok {W : World} (h : laidMetH Tryz.prog laid1 W) : GlobOK W fun b => b < W.heap.size := by
  rw [MakeChecks.laidMetH_plain _ _ _ (by kernel_rfl)] at h
  obtain ⟨ps, ⟨g1, t1, cs1, f1, p1, q1, hg1, ht1, hv1, hd1, _, _⟩, _, _⟩ := h
  obtain rfl := Option.some.inj (gNums.symm.trans hg1)
  obtain rfl := Option.some.inj (tNums.symm.trans ht1)
  have hu206 : Tryz.prog.underlying 229 = some (.array 10 3) := by kernel_rfl
  have hu3 : Tryz.prog.underlying 3 = some (.int .i64) := by kernel_rfl
  obtain ⟨xs, m1, rfl, hx1, hlen, hn3, hel⟩ := DataW.trod_array hu206 hd1
  have c3 : Tryz.prog.cellsOf 3 = 1 := by kernel_rfl
  have c206 : Tryz.prog.cellsOf 229 = 10 := by kernel_rfl
  simp only [Rows.laid_allonge_order_numbers, Prod.mk.injEq, DataW.agg.injEq] at hx1
  have hl : cs1.toList.length = 10 := hlen.trans c206
  have each : ∀ j n, j < 10 → xs[j]?.map (·.1) = some (.lit (.int .i64 n)) → W.cell? ⟨0, j, none⟩ = some (.int .i64 n) := by
    intro j n hj hx
    have h0 := hel j (by omega)
    rw [c3] at h0
    cases hxj : xs[j]? with
    | none => rw [hxj] at hx; cases hx
    | some y =>
      rw [hxj] at hx h0
      simp only [Option.map_some, Option.some.injEq] at hx
      obtain ⟨k, e1, e2, _⟩ := DataW.trod_int hu3 h0
      rw [e2] at hx
      simp only [DataW.lit.injEq, Lit.int.injEq, true_and] at hx
      subst hx
      have hj2 : j < cs1.toList.length := by omega
      have := World.var?_cell hg1 hv1 j
      have e3 : (cs1.toList.drop (j * 1)).take 1 = [cs1.toList[j]] := by
        rw [Nat.mul_one, List.drop_eq_getElem_cons hj2]
        rfl
      rw [e3] at e1
      simp only [List.cons.injEq, and_true] at e1
      rw [this]
      simp only [Array.length_toList] at hj2
      rw [Array.getElem?_eq_getElem hj2]
      simpa using e1
  have blk : ∀ j v, W.cell? ⟨0, j, none⟩ = some v → 0 < W.heap.size := by
    intro j v hv
    unfold World.cell? at hv
    split at hv
    · rename_i hh
      exact (Array.getElem?_eq_some_iff.1 hh).1
    · cases hv
  intro p hp
  obtain rfl : p = (0, [dI 6, dI 7, dI 10, dI 12, dI 13, dI 14, dI 15, dI 16, dI 20, dI 21]) := by simpa [Globs.gl] using hp
  have hx : ∀ j, j < 10 → xs[j]?.map (·.1) = some (.lit (.int .i64 (([6, 7, 10, 12, 13, 14, 15, 16, 20, 21] : List Int).getD j 0))) := by
    intro j hj
    have e := hx1.1
    have : xs.map (·.1) = ([6, 7, 10, 12, 13, 14, 15, 16, 20, 21] : List Int).map fun n => DataW.lit (.int .i64 n) := e.symm
    rw [← List.getElem?_map, this]
    have : j = 0 ∨ j = 1 ∨ j = 2 ∨ j = 3 ∨ j = 4 ∨ j = 5 ∨ j = 6 ∨ j = 7 ∨ j = 8 ∨ j = 9 := by omega
    rcases this with rfl | rfl | rfl | rfl | rfl | rfl | rfl | rfl | rfl | rfl <;> rfl
  refine ⟨fun j => .int .i64 (([6, 7, 10, 12, 13, 14, 15, 16, 20, 21] : List Int).getD j 0), fun j hj => ?_, fun j hj => ?_⟩
  · have hj : j < 10 := hj
    rw [Nat.zero_add]
    exact ⟨blk j _ (each j _ hj (hx j hj)), each j _ hj (hx j hj)⟩
  · have hj : j < 10 := hj
    have : j = 0 ∨ j = 1 ∨ j = 2 ∨ j = 3 ∨ j = 4 ∨ j = 5 ∨ j = 6 ∨ j = 7 ∨ j = 8 ∨ j = 9 := by omega
    rcases this with rfl | rfl | rfl | rfl | rfl | rfl | rfl | rfl | rfl | rfl <;> exact .v _ rfl

theorem Top.own : ownKnob Tryz.prog.godebug = none := by kernel_rfl
theorem Top.laidOut : laidOutB Tryz.prog = true := by kernel_rfl
theorem door_met (os : Os) (args : Array Value) : laidMetH Tryz.prog laid1 ((World.doorLaid Tryz.prog 400 os).forCall (fun _ _ => 0) ⟨#[], args, []⟩).memory :=
  laidMetH_of_parts3 (fuel := 8) (laidMet_of_run' 8 (by kernel_rfl) (by kernel_rfl)) (by kernel_rfl) (by kernel_rfl)

def CL : List Nat := [22, 23, 5, 46, 32, 3]
theorem trodAll_len {H : Type} {enc : TypeId × Value → H} {P : Program} {w : World} {base : Nat} {sp : Nat → Bool} {held : Bool} : ∀ {ts : List TypeId} {vs : List Value} {ds : List (DataW H)} {ps : List MemPlace}, DataW.TrodAll enc P w base sp held ts vs ds ps → ds.length = ts.length
  | [], [], [], _, _ => rfl
  | _ :: _, _ :: _, _ :: _, _, h => by
    obtain ⟨p, q, _, h2, _⟩ := h
    simp [trodAll_len h2]
  | [], _ :: _, _, _, h => by cases h
  | [], [], _ :: _, _, h => by cases h
  | _ :: _, [], _, _, h => by cases h
  | _ :: _, _ :: _, [], _, h => by cases h
set_option maxRecDepth 100000 in
theorem suitRuns_lifted (os : Os) (started : os.Started) (H : Type) (enc : TypeId × Value → H) :
    ReturnsInHanded {} Tryz.checked os 3 .any (fun w args => (Rows.suitRunsSpec.pre enc Tryz.prog Tryz.f3 [] false w args ∧ laidMetH Tryz.prog laid1 w) ∧ sizedMet enc Tryz.prog Tryz.f3 (OpenSpec.ofChange Rows.suitRunsSpec) false w args)
      (Rows.suitRunsSpec.post enc Tryz.prog Tryz.f3 false true false false) := by
  refine returnsInHanded_of_change_and (C := Tryz.checked) (X := fun w _ => laidMetH Tryz.prog laid1 w) (fun _ _ _ hh h => h.of_heap hh) Top.own started (by kernel_rfl) Tryz.func3
    (ChangeSpec.witness_shaped (enc := enc) (C := Tryz.checked) (os := os) (X := fun w _ => laidMetH Tryz.prog laid1 w) false (World.doorLaid Tryz.prog 400 os) #[.slice none 0 0, .slice none 0 0, .int .u8 0, .int .u8 0] 12 rfl (World.shaped_of_RefB (by kernel_rfl) (by kernel_rfl)) (by kernel_rfl) (by kernel_rfl) (by kernel_rfl) (door_met os _)) ?_
  intro W base args ds gs before hval hW _ _ hL _
  refine law_calls (P := Tryz.prog) (T := TT) (cl := CL) (tb := 4) (base := base) (fn := Tryz.f3) tok Top.laidOut (by kernel_rfl) (by kernel_rfl) (by kernel_rfl) (by kernel_rfl) (by kernel_rfl) rfl hval hW (glob_ok hL) ?_ (fun dss h => allongelaw46_SuitRuns_law_fn allongelaw46_SuitRuns_law dss h)
  obtain ⟨p, q, hA, hV, -⟩ := hW
  obtain ⟨rfl, rfl⟩ := trodVars_none hV
  have hlen : ds.length = 4 := trodAll_len hA
  match ds, hlen with
  | [_, _, _, _], _ => exact ⟨rfl, rfl, rfl⟩
theorem suitRuns_l0 : (Rows.suitRunsRow.wf (OpenSpec.ofChange Rows.suitRunsSpec)) = true := by kernel_rfl
theorem suitRuns_l1 : (laidOutB Tryz.checked.prog) = true := by kernel_rfl
theorem suitRuns_l2 : (mapsRowed Tryz.checked.prog) = true := by kernel_rfl
theorem suitRuns_l3 : (Tryz.f3.params.all (Tryz.checked.prog.readableRec ·)) = true := by kernel_rfl
theorem suitRuns_l4 : (namedTie Tryz.checked.prog Rows.suitRunsRow.named Rows.suitRunsSpec.vars) = true := by kernel_rfl
theorem suitRuns_l5 : ((Rows.suitRunsRow.stops == [])) = true := by kernel_rfl
theorem suitRuns_l6 : ((Tryz.checked.prog.stops == [])) = true := by kernel_rfl
theorem suitRuns_l7 : ((Rows.suitRunsRow.knobs == [])) = true := by kernel_rfl
theorem suitRuns_l8 : ((Tryz.checked.prog.stopKnobs == [])) = true := by kernel_rfl
theorem suitRuns_l9 : ((Rows.suitRunsRow.inPlace == Tryz.checked.prog.inPlace 3)) = true := by kernel_rfl
theorem suitRuns_l10 : ((Rows.suitRunsRow.unfollowed == Tryz.checked.prog.unfollowed 3)) = true := by kernel_rfl
theorem suitRuns_l11 : ((Rows.suitRunsRow.recurses == Tryz.checked.prog.recurses 3)) = true := by kernel_rfl
theorem suitRuns_l12 : ((Rows.suitRunsRow.named == Tryz.checked.prog.varsNamed 3)) = true := by kernel_rfl
theorem suitRuns_l13 : ((Rows.suitRunsRow.maps == (Tryz.f3.params.toList ++ Rows.suitRunsSpec.plain.varTypes Tryz.checked.prog).any (Tryz.checked.prog.mapsRec ·))) = true := by kernel_rfl
theorem suitRuns_l14 : ((Rows.suitRunsRow.ifaces == (Tryz.f3.params.toList ++ Rows.suitRunsSpec.plain.varTypes Tryz.checked.prog).any (Tryz.checked.prog.ifacesRec ·))) = true := by kernel_rfl
theorem suitRuns_l15 : ((Rows.suitRunsRow.mapsOut == Tryz.checked.prog.mapsAmong Tryz.f3.resultTypes.toList)) = true := by kernel_rfl
theorem suitRuns_l16 : ((Rows.suitRunsRow.loops == (Tryz.f3.params.toList ++ Rows.suitRunsSpec.plain.varTypes Tryz.checked.prog).any (Tryz.checked.prog.loopsFrom ·))) = true := by kernel_rfl
theorem suitRuns_l17 : ((Rows.suitRunsRow.wideKeys == (Tryz.f3.params.toList ++ Rows.suitRunsSpec.plain.varTypes Tryz.checked.prog ++ Tryz.f3.resultTypes.toList).any (Tryz.checked.prog.wideKeysFrom ·))) = true := by kernel_rfl
theorem suitRuns_l18 : (Rows.suitRunsSpec.vars.all (Tryz.checked.prog.varReadable ·)) = true := by kernel_rfl
theorem suitRuns_l19 : (Tryz.f3.resultTypes.all (fun t => Tryz.checked.prog.readableRec t && decide (t < Tryz.checked.prog.types.size))) = true := by kernel_rfl
theorem suitRuns_l20 : ((Rows.suitRunsRow.ifacesOut == Tryz.f3.resultTypes.toList.any (Tryz.checked.prog.ifacesRec ·))) = true := by kernel_rfl
theorem suitRuns_l21 : ((Rows.suitRunsRow.loopsOut == Tryz.f3.resultTypes.toList.any (Tryz.checked.prog.loopsFrom ·))) = true := by kernel_rfl
theorem suitRuns_l22 : ((Rows.suitRunsRow.plainKeys == Tryz.checked.prog.plainKeys)) = true := by kernel_rfl
theorem suitRuns_l23 : (Rows.suitRunsRow.shortTexts.isNone) = true := by kernel_rfl
theorem suitRuns_l24 : (Tryz.checked.prog.stopsHeard) = true := by kernel_rfl
theorem suitRuns_l25 : (Tryz.checked.prog.mayEnter) = true := by kernel_rfl
theorem suitRuns_l26 : ((Rows.suitRunsRow.lifted == Tryz.checked.prog.liftsFinal)) = true := by kernel_rfl
theorem suitRuns_l27 : ((Tryz.checked.prog.make == some Rows.suitRunsRow.make)) = true := by kernel_rfl
theorem suitRuns_l28 : ((Rows.suitRunsRow.kinds == (if Rows.suitRunsRow.domain.isEmpty then [] else Tryz.f3.params.toList.map fun t => match Tryz.checked.prog.underlying t with | some (.int k) => some k | _ => none))) = true := by kernel_rfl
theorem suitRuns_l29 : ((Rows.suitRunsRow.pinned == Rows.suitRunsRow.pinnedBy)) = true := by kernel_rfl
theorem suitRuns_l30 : ((Rows.suitRunsRow.veiled == (Tryz.f3.params.toList ++ Rows.suitRunsSpec.plain.varTypes Tryz.checked.prog ++ Tryz.f3.resultTypes.toList).any (Tryz.checked.prog.veiledRec ·))) = true := by kernel_rfl
theorem suitRuns_l31 : (Rows.suitRunsRow.veiledFits Tryz.checked.prog Tryz.f3.params.toList (Tryz.f3.params.toList ++ Rows.suitRunsSpec.plain.varTypes Tryz.checked.prog ++ Tryz.f3.resultTypes.toList)) = true := by kernel_rfl
theorem and2 {a b : Bool} (h : a = true) (k : b = true) : (a && b) = true := by rw [h, k]; rfl
theorem suitRuns_closed : joinedFacts Tryz.checked.prog 3 Tryz.f3 Rows.suitRunsSpec Rows.suitRunsRow = true := by
  unfold joinedFacts
  exact and2 (and2 (and2 (and2 (and2 (and2 (and2 (and2 (and2 (and2 (and2 (and2 (and2 (and2 (and2 (and2 (and2 (and2 (and2 (and2 (and2 (and2 (and2 (and2 (and2 (and2 (and2 (and2 (and2 (and2 (and2 suitRuns_l0 suitRuns_l1) suitRuns_l2) suitRuns_l3) suitRuns_l4) suitRuns_l5) suitRuns_l6) suitRuns_l7) suitRuns_l8) suitRuns_l9) suitRuns_l10) suitRuns_l11) suitRuns_l12) suitRuns_l13) suitRuns_l14) suitRuns_l15) suitRuns_l16) suitRuns_l17) suitRuns_l18) suitRuns_l19) suitRuns_l20) suitRuns_l21) suitRuns_l22) suitRuns_l23) suitRuns_l24) suitRuns_l25) suitRuns_l26) suitRuns_l27) suitRuns_l28) suitRuns_l29) suitRuns_l30) suitRuns_l31
theorem suitRuns_said : Rows.SuitRunsSaid :=
  OpenClaim.holds_of_wide 3 Tryz.f3 rfl rfl rfl rfl rfl rfl rfl ⟨rfl, rfl, rfl, rfl, rfl⟩ rfl rfl rfl rfl rfl (by kernel_rfl) Tryz.func3 suitRuns_closed
    (of_decide_eq_true (by kernel_rfl)) (by unfold Func.isWrapper; first | (rw [if_pos (by decide +kernel)]; kernel_rfl) | (rw [if_neg (by decide +kernel)]; exact ⟨rfl, rfl⟩))
    (fun os started H enc _ => suitRuns_lifted os started H enc)
theorem suitRuns_holds : Rows.SuitRunsCardSaid :=
  Claim7.holds_tied_plain_at .later [] [.widerDeep] true Rows.suitRunsCard.stood.harness Rows.suitRunsCard.stood.looks
    suitRuns_said (fun _ h => by cases h) (by kernel_rfl) (fun _ h => by cases h) suitRuns_row_tie rfl ⟨rfl, rfl⟩ (by kernel_rfl) rfl
    (fun f fn hf hfn => by
      obtain rfl : f = 3 := Option.some.inj ((show Tryz.prog.funcNamed "allonge/allongelaw46.SuitRuns" = some 3 by kernel_rfl).symm.trans hf) |>.symm
      obtain rfl : fn = Tryz.f3 := (Option.some.inj (Tryz.func3.symm.trans hfn)).symm
      exact ⟨by kernel_rfl, fun j t ht => by
        have hm : t ∈ Tryz.f3.params.toList := by simpa using Array.mem_of_getElem? ht
        have hall : (Tryz.f3.params.toList.all fun u => !Tryz.prog.wantsStandIn u) = true := by kernel_rfl
        exact (show Tryz.prog.wantsStandIn t = false by simpa using List.all_eq_true.1 hall t hm)⟩)
    (by kernel_rfl)


end Go.Proofs.YtilbddpghnnmhaaGreatDoor

