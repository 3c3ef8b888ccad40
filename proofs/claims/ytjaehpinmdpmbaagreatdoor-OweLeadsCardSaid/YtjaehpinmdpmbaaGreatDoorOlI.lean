/- The statement about allongelaw26.OweLeads is proved: for every input the call returns true and each argument reads afterwards as before. Conditions: none of ours; the listed package variable order.numbers is tied to the program's text by the given tie. -/
import Derived.Test.YtjaehpinmdpmbaaGreatDoorOlO
import Derived.Test.YtjaehpinmdpmbaaGreatDoorOlP
import Derived.Test.YtjaehpinmdpmbaaGreatDoorAvY
import Derived.Test.YtjaehpinmdpmbaaGreatDoorRows
import Derived.Test.YtjaehpinmdpmbaaGreatDoorTie
import Derived.Test.YtjaehpinmdpmbaaGreatDoorCards
import Derived.ProofKit
import Derived.LaidMore
import Derived.OpenShut
import Derived.SevenTiedAt
set_option linter.unusedSimpArgs false
set_option linter.unusedVariables false
set_option maxRecDepth 100000
namespace Go.Proofs.YtjaehpinmdpmbaaGreatDoor
open Go Go.Av Go.ChangeShapes Go.WideShapes Go.ChangeAt Go.RowKit
def laid1 : List (String × DataW Unit) := [("allonge/order.numbers", Rows.laid_allonge_order_numbers)]
theorem gNums : Tryz.prog.globalNamed "allonge/order.numbers" = some 0 := by kernel_rfl
theorem tNums : (Tryz.prog.globals[0]?).map (·.type) = some 278 := by kernel_rfl
theorem glob_ok {W : World} (h : laidMetH Tryz.prog laid1 W) : GlobOK W fun b => b < W.heap.size := by
  rw [MakeChecks.laidMetH_plain _ _ _ (by kernel_rfl)] at h
  obtain ⟨ps, ⟨g1, t1, cs1, f1, p1, q1, hg1, ht1, hv1, hd1, _, _⟩, _, _⟩ := h
  obtain rfl := Option.some.inj (gNums.symm.trans hg1)
  obtain rfl := Option.some.inj (tNums.symm.trans ht1)
  have hu206 : Tryz.prog.underlying 278 = some (.array 10 3) := by kernel_rfl
  have hu3 : Tryz.prog.underlying 3 = some (.int .i64) := by kernel_rfl
  obtain ⟨xs, m1, rfl, hx1, hlen, hn3, hel⟩ := DataW.trod_array hu206 hd1
  have c3 : Tryz.prog.cellsOf 3 = 1 := by kernel_rfl
  have c206 : Tryz.prog.cellsOf 278 = 10 := by kernel_rfl
  simp only [Rows.laid_allonge_order_numbers, Prod.mk.injEq, DataW.agg.injEq] at hx1
  have hl : cs1.toList.length = 10 := hlen.trans c206
  have each : ∀ j n, j < 10 → xs[j]?.map (·.1) = some (.lit (.int .i64 n)) → W.cell? ⟨0, j, none⟩ = some (.int .i64 n) := by
    intro j n hj hx
    have h0 := hel j (by omega)
    rw [c3] at h0
    cases hxj : xs[j]? with
    | none => rw [hxj] at hx; cases hx
    | some y =>
      rw [hxj] at hx h0
      simp only [Option.map_some, Option.some.injEq] at hx
      obtain ⟨k, e1, e2, _⟩ := DataW.trod_int hu3 h0
      rw [e2] at hx
      simp only [DataW.lit.injEq, Lit.int.injEq, true_and] at hx
      subst hx
      have hj2 : j < cs1.toList.length := by omega
      have := World.var?_cell hg1 hv1 j
      have e3 : (cs1.toList.drop (j * 1)).take 1 = [cs1.toList[j]] := by
        rw [Nat.mul_one, List.drop_eq_getElem_cons hj2]
        rfl
      rw [e3] at e1
      simp only [List.cons.injEq, and_true] at e1
      rw [this]
      simp only [Array.length_toList] at hj2
      rw [Array.getElem?_eq_getElem hj2]
      simpa using e1
  have blk : ∀ j v, W.cell? ⟨0, j, none⟩ = some v → 0 < W.heap.size := by
    intro j v hv
    unfold World.cell? at hv
    split at hv
    · rename_i hh
      exact (Array.getElem?_eq_some_iff.1 hh).1
    · cases hv
  intro p hp
  obtain rfl : p = (0, [dI 6, dI 7, dI 10, dI 12, dI 13, dI 14, dI 15, dI 16, dI 20, dI 21]) := by simpa [Globs.gl] using hp
  have hx : ∀ j, j < 10 → xs[j]?.map (·.1) = some (.lit (.int .i64 (([6, 7, 10, 12, 13, 14, 15, 16, 20, 21] : List Int).getD j 0))) := by
    intro j hj
    have e := hx1.1
    have : xs.map (·.1) = ([6, 7, 10, 12, 13, 14, 15, 16, 20, 21] : List Int).map fun n => DataW.lit (.int .i64 n) := e.symm
    rw [← List.getElem?_map, this]
    have : j = 0 ∨ j = 1 ∨ j = 2 ∨ j = 3 ∨ j = 4 ∨ j = 5 ∨ j = 6 ∨ j = 7 ∨ j = 8 ∨ j = 9 := by omega
    rcases this with rfl | rfl | rfl | rfl | rfl | rfl | rfl | rfl | rfl | rfl <;> rfl
  refine ⟨fun j => .int .i64 (([6, 7, 10, 12, 13, 14, 15, 16, 20, 21] : List Int).getD j 0), fun j hj => ?_, fun j hj => ?_⟩
  · have hj : j < 10 := hj
    rw [Nat.zero_add]
    exact ⟨blk j _ (each j _ hj (hx j hj)), each j _ hj (hx j hj)⟩
  · have hj : j < 10 := hj
    have : j = 0 ∨ j = 1 ∨ j = 2 ∨ j = 3 ∨ j = 4 ∨ j = 5 ∨ j = 6 ∨ j = 7 ∨ j = 8 ∨ j = 9 := by omega
    rcases this with rfl | rfl | rfl | rfl | rfl | rfl | rfl | rfl | rfl | rfl <;> exact .v _ rfl

theorem Top.own : ownKnob Tryz.prog.godebug = none := by kernel_rfl
theorem Top.laidOut : laidOutB Tryz.prog = true := by kernel_rfl
theorem door_met (os : Os) (args : Array Value) : laidMetH Tryz.prog laid1 ((World.doorLaid Tryz.prog 400 os).forCall (fun _ _ => 0) ⟨#[], args, []⟩).memory :=
  laidMetH_of_parts3 (fuel := 8) (laidMet_of_run' 8 (by kernel_rfl) (by kernel_rfl)) (by kernel_rfl) (by kernel_rfl)

def CL : List Nat := [31, 41, 3, 22, 23, 24, 25, 26, 27, 28, 29, 35, 36, 37, 38, 39, 9, 119, 121, 123, 73, 171, 173, 175, 33, 54, 111, 109, 113, 45, 4, 70, 71, 221, 79, 77, 75]
theorem trodAll_len {H : Type} {enc : TypeId × Value → H} {P : Program} {w : World} {base : Nat} {sp : Nat → Bool} {held : Bool} : ∀ {ts : List TypeId} {vs : List Value} {ds : List (DataW H)} {ps : List MemPlace}, DataW.TrodAll enc P w base sp held ts vs ds ps → ds.length = ts.length
  | [], [], [], _, _ => rfl
  | _ :: _, _ :: _, _ :: _, _, h => by
    obtain ⟨p, q, _, h2, _⟩ := h
    simp [trodAll_len h2]
  | [], _ :: _, _, _, h => by cases h
  | [], [], _ :: _, _, h => by cases h
  | _ :: _, [], _, _, h => by cases h
  | _ :: _, _ :: _, [], _, h => by cases h
set_option maxRecDepth 100000 in
theorem oweLeads_lifted (os : Os) (started : os.Started) (H : Type) (enc : TypeId × Value → H) :
    ReturnsInHanded {} Tryz.checked os 3 .any (fun w args => (Rows.oweLeadsSpec.pre enc Tryz.prog Tryz.f3 [] false w args ∧ laidMetH Tryz.prog laid1 w) ∧ sizedMet enc Tryz.prog Tryz.f3 (OpenSpec.ofChange Rows.oweLeadsSpec) false w args)
      (Rows.oweLeadsSpec.post enc Tryz.prog Tryz.f3 false true false false) := by
  refine returnsInHanded_of_change_and (C := Tryz.checked) (X := fun w _ => laidMetH Tryz.prog laid1 w) (fun _ _ _ hh h => h.of_heap hh) Top.own started (by kernel_rfl) Tryz.func3
    (ChangeSpec.witness_shaped (enc := enc) (C := Tryz.checked) (os := os) (X := fun w _ => laidMetH Tryz.prog laid1 w) false (World.doorLaid Tryz.prog 400 os) #[.agg #[.slice none 0 0, .slice none 0 0, .slice none 0 0, .slice none 0 0, .slice none 0 0, .slice none 0 0, .slice none 0 0, .slice none 0 0], .agg #[.int .i64 0, .int .i64 0, .int .i64 0, .int .i64 0, .int .i64 0, .int .i64 0, .int .i64 0, .int .i64 0, .int .i64 0, .int .i64 0, .int .i64 0, .int .i64 0, .int .i64 0, .int .i64 0, .int .i64 0, .slice none 0 0, .slice none 0 0, .slice none 0 0, .slice none 0 0], .int .i64 0, .int .i64 0, .int .i64 0] 12 rfl (World.shaped_of_RefB (by kernel_rfl) (by kernel_rfl)) (by kernel_rfl) (by kernel_rfl) (by kernel_rfl) (door_met os _)) ?_
  intro W base args ds gs before hval hW _ _ hL _
  refine law_calls (P := Tryz.prog) (T := TT) (cl := CL) (tb := 4) (base := base) (fn := Tryz.f3) tok Top.laidOut (by kernel_rfl) (by kernel_rfl) (by kernel_rfl) (by kernel_rfl) (by kernel_rfl) rfl hval hW (glob_ok hL) ?_ (fun dss h => allongelaw26_OweLeads_law_fn allongelaw26_OweLeads_law dss h)
  obtain ⟨p, q, hA, hV, -⟩ := hW
  obtain ⟨rfl, rfl⟩ := trodVars_none hV
  have hlen : ds.length = 5 := trodAll_len hA
  match ds, hlen with
  | [_, _, _, _, _], _ => exact ⟨rfl, rfl, rfl⟩
theorem oweLeads_l0 : (Rows.oweLeadsRow.wf (OpenSpec.ofChange Rows.oweLeadsSpec)) = true := by kernel_rfl
theorem oweLeads_l1 : (laidOutB Tryz.checked.prog) = true := by kernel_rfl
theorem oweLeads_l2 : (mapsRowed Tryz.checked.prog) = true := by kernel_rfl
theorem oweLeads_l3 : (Tryz.f3.params.all (Tryz.checked.prog.readableRec ·)) = true := by kernel_rfl
theorem oweLeads_l4 : (namedTie Tryz.checked.prog Rows.oweLeadsRow.named Rows.oweLeadsSpec.vars) = true := by kernel_rfl
theorem oweLeads_l5 : ((Rows.oweLeadsRow.stops == [])) = true := by kernel_rfl
theorem oweLeads_l6 : ((Tryz.checked.prog.stops == [])) = true := by kernel_rfl
theorem oweLeads_l7 : ((Rows.oweLeadsRow.knobs == [])) = true := by kernel_rfl
theorem oweLeads_l8 : ((Tryz.checked.prog.stopKnobs == [])) = true := by kernel_rfl
theorem oweLeads_l9 : ((Rows.oweLeadsRow.inPlace == Tryz.checked.prog.inPlace 3)) = true := by kernel_rfl
theorem oweLeads_l10 : ((Rows.oweLeadsRow.unfollowed == Tryz.checked.prog.unfollowed 3)) = true := by kernel_rfl
theorem oweLeads_l11 : ((Rows.oweLeadsRow.recurses == Tryz.checked.prog.recurses 3)) = true := by kernel_rfl
theorem oweLeads_l12 : ((Rows.oweLeadsRow.named == Tryz.checked.prog.varsNamed 3)) = true := by kernel_rfl
theorem oweLeads_l13 : ((Rows.oweLeadsRow.maps == (Tryz.f3.params.toList ++ Rows.oweLeadsSpec.plain.varTypes Tryz.checked.prog).any (Tryz.checked.prog.mapsRec ·))) = true := by kernel_rfl
theorem oweLeads_l14 : ((Rows.oweLeadsRow.ifaces == (Tryz.f3.params.toList ++ Rows.oweLeadsSpec.plain.varTypes Tryz.checked.prog).any (Tryz.checked.prog.ifacesRec ·))) = true := by kernel_rfl
theorem oweLeads_l15 : ((Rows.oweLeadsRow.mapsOut == Tryz.checked.prog.mapsAmong Tryz.f3.resultTypes.toList)) = true := by kernel_rfl
theorem oweLeads_l16 : ((Rows.oweLeadsRow.loops == (Tryz.f3.params.toList ++ Rows.oweLeadsSpec.plain.varTypes Tryz.checked.prog).any (Tryz.checked.prog.loopsFrom ·))) = true := by kernel_rfl
theorem oweLeads_l17 : ((Rows.oweLeadsRow.wideKeys == (Tryz.f3.params.toList ++ Rows.oweLeadsSpec.plain.varTypes Tryz.checked.prog ++ Tryz.f3.resultTypes.toList).any (Tryz.checked.prog.wideKeysFrom ·))) = true := by kernel_rfl
theorem oweLeads_l18 : (Rows.oweLeadsSpec.vars.all (Tryz.checked.prog.varReadable ·)) = true := by kernel_rfl
theorem oweLeads_l19 : (Tryz.f3.resultTypes.all (fun t => Tryz.checked.prog.readableRec t && decide (t < Tryz.checked.prog.types.size))) = true := by kernel_rfl
theorem oweLeads_l20 : ((Rows.oweLeadsRow.ifacesOut == Tryz.f3.resultTypes.toList.any (Tryz.checked.prog.ifacesRec ·))) = true := by kernel_rfl
theorem oweLeads_l21 : ((Rows.oweLeadsRow.loopsOut == Tryz.f3.resultTypes.toList.any (Tryz.checked.prog.loopsFrom ·))) = true := by kernel_rfl
theorem oweLeads_l22 : ((Rows.oweLeadsRow.plainKeys == Tryz.checked.prog.plainKeys)) = true := by kernel_rfl
theorem oweLeads_l23 : (Rows.oweLeadsRow.shortTexts.isNone) = true := by kernel_rfl
theorem oweLeads_l24 : (Tryz.checked.prog.stopsHeard) = true := by kernel_rfl
theorem oweLeads_l25 : (Tryz.checked.prog.mayEnter) = true := by kernel_rfl
theorem oweLeads_l26 : ((Rows.oweLeadsRow.lifted == Tryz.checked.prog.liftsFinal)) = true := by kernel_rfl
theorem oweLeads_l27 : ((Tryz.checked.prog.make == some Rows.oweLeadsRow.make)) = true := by kernel_rfl
theorem oweLeads_l28 : ((Rows.oweLeadsRow.kinds == (if Rows.oweLeadsRow.domain.isEmpty then [] else Tryz.f3.params.toList.map fun t => match Tryz.checked.prog.underlying t with | some (.int k) => some k | _ => none))) = true := by kernel_rfl
theorem oweLeads_l29 : ((Rows.oweLeadsRow.pinned == Rows.oweLeadsRow.pinnedBy)) = true := by kernel_rfl
theorem oweLeads_l30 : ((Rows.oweLeadsRow.veiled == (Tryz.f3.params.toList ++ Rows.oweLeadsSpec.plain.varTypes Tryz.checked.prog ++ Tryz.f3.resultTypes.toList).any (Tryz.checked.prog.veiledRec ·))) = true := by kernel_rfl
theorem oweLeads_l31 : (Rows.oweLeadsRow.veiledFits Tryz.checked.prog Tryz.f3.params.toList (Tryz.f3.params.toList ++ Rows.oweLeadsSpec.plain.varTypes Tryz.checked.prog ++ Tryz.f3.resultTypes.toList)) = true := by kernel_rfl
theorem and2 {a b : Bool} (h : a = true) (k : b = true) : (a && b) = true := by rw [h, k]; rfl
theorem oweLeads_closed : joinedFacts Tryz.checked.prog 3 Tryz.f3 Rows.oweLeadsSpec Rows.oweLeadsRow = true := by
  unfold joinedFacts
  exact and2 (and2 (and2 (and2 (and2 (and2 (and2 (and2 (and2 (and2 (and2 (and2 (and2 (and2 (and2 (and2 (and2 (and2 (and2 (and2 (and2 (and2 (and2 (and2 (and2 (and2 (and2 (and2 (and2 (and2 (and2 oweLeads_l0 oweLeads_l1) oweLeads_l2) oweLeads_l3) oweLeads_l4) oweLeads_l5) oweLeads_l6) oweLeads_l7) oweLeads_l8) oweLeads_l9) oweLeads_l10) oweLeads_l11) oweLeads_l12) oweLeads_l13) oweLeads_l14) oweLeads_l15) oweLeads_l16) oweLeads_l17) oweLeads_l18) oweLeads_l19) oweLeads_l20) oweLeads_l21) oweLeads_l22) oweLeads_l23) oweLeads_l24) oweLeads_l25) oweLeads_l26) oweLeads_l27) oweLeads_l28) oweLeads_l29) oweLeads_l30) oweLeads_l31
theorem oweLeads_said : Rows.OweLeadsSaid :=
  OpenClaim.holds_of_wide 3 Tryz.f3 rfl rfl rfl rfl rfl rfl rfl ⟨rfl, rfl, rfl, rfl, rfl⟩ rfl rfl rfl rfl rfl (by kernel_rfl) Tryz.func3 oweLeads_closed
    (of_decide_eq_true (by kernel_rfl)) (by unfold Func.isWrapper; first | (rw [if_pos (by decide +kernel)]; kernel_rfl) | (rw [if_neg (by decide +kernel)]; exact ⟨rfl, rfl⟩))
    (fun os started H enc _ => oweLeads_lifted os started H enc)
theorem oweLeads_holds : Rows.OweLeadsCardSaid :=
  Claim7.holds_tied_plain_at .later [] [.widerDeep] true Rows.oweLeadsCard.stood.harness Rows.oweLeadsCard.stood.looks
    oweLeads_said (fun _ h => by cases h) (by kernel_rfl) (fun _ h => by cases h) oweLeads_row_tie rfl ⟨rfl, rfl⟩ (by kernel_rfl) rfl
    (fun f fn hf hfn => by
      obtain rfl : f = 3 := Option.some.inj ((show Tryz.prog.funcNamed "allonge/allongelaw26.OweLeads" = some 3 by kernel_rfl).symm.trans hf) |>.symm
      obtain rfl : fn = Tryz.f3 := (Option.some.inj (Tryz.func3.symm.trans hfn)).symm
      exact ⟨by kernel_rfl, fun j t ht => by
        have hm : t ∈ Tryz.f3.params.toList := by simpa using Array.mem_of_getElem? ht
        have hall : (Tryz.f3.params.toList.all fun u => !Tryz.prog.wantsStandIn u) = true := by kernel_rfl
        exact (show Tryz.prog.wantsStandIn t = false by simpa using List.all_eq_true.1 hall t hm)⟩)
    (by kernel_rfl)


end Go.Proofs.YtjaehpinmdpmbaaGreatDoor

