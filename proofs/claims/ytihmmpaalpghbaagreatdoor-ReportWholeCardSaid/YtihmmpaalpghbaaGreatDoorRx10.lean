/- A function by hand. -/
import Derived.Test.YtihmmpaalpghbaaGreatDoorRx9
import Derived.Shelf.SlSortCmp.WholeK
import Derived.Shelf.SlSortCmp.NoneTotal
import Derived.Ground.SlsfProg
import Derived.Test.YtihmmpaalpghbaaGreatDoorAvSg
namespace Go.Proofs.YtihmmpaalpghbaaGreatDoor
open Go Go.Av Go.Shelf Go.Proofs
set_option linter.unusedSimpArgs false
set_option linter.unusedVariables false
set_option maxHeartbeats 1000000
set_option maxRecDepth 100000
def Tryz.sortfLays_ren : Go.Shelf.Ren := ⟨fun | 6 => 55 | 15 => 91 | 14 => 90 | 28 => 136 | 29 => 137 | 20 => 128 | 21 => 129 | 22 => 130 | 23 => 131 | 24 => 132 | 25 => 133 | 26 => 134 | 27 => 135 | 46 => 173 | 47 => 174 | 48 => 175 | 49 => 176 | 50 => 177 | 57 => 199 | n => n, fun | 22 => 75 | 24 => 37 | 25 => 125 | 3 => 3 | 39 => 159 | 0 => 0 | 53 => 198 | 55 => 200 | 4 => 4 | 46 => 191 | 45 => 190 | 50 => 195 | 5 => 5 | 9 => 9 | 66 => 227 | 70 => 231 | 76 => 252 | 77 => 253 | n => n, fun | n => n⟩
theorem Tryz.sortfLays : Go.Proofs.SlLaysF0.n6 Tryz.prog Tryz.sortfLays_ren := {
  mixed := by kernel_rfl
  f6 := ⟨Tryz.f55.name, by decide, Tryz.func55.trans (congrArg some (by kernel_rfl))⟩
  f14 := ⟨Tryz.f90.name, by decide, Tryz.func90.trans (congrArg some (by kernel_rfl))⟩
  f15 := Tryz.func91.trans (congrArg some (by kernel_rfl))
  f20 := ⟨Tryz.f128.name, by decide, Tryz.func128.trans (congrArg some (by kernel_rfl))⟩
  f21 := ⟨Tryz.f129.name, by decide, Tryz.func129.trans (congrArg some (by kernel_rfl))⟩
  f22 := ⟨Tryz.f130.name, by decide, Tryz.func130.trans (congrArg some (by kernel_rfl))⟩
  f23 := ⟨Tryz.f131.name, by decide, Tryz.func131.trans (congrArg some (by kernel_rfl))⟩
  f24 := ⟨Tryz.f132.name, by decide, Tryz.func132.trans (congrArg some (by kernel_rfl))⟩
  f25 := ⟨Tryz.f133.name, by decide, Tryz.func133.trans (congrArg some (by kernel_rfl))⟩
  f26 := ⟨Tryz.f134.name, by decide, Tryz.func134.trans (congrArg some (by kernel_rfl))⟩
  f27 := ⟨Tryz.f135.name, by decide, Tryz.func135.trans (congrArg some (by kernel_rfl))⟩
  f28 := Tryz.func136.trans (congrArg some (by kernel_rfl))
  f29 := Tryz.func137.trans (congrArg some (by kernel_rfl))
  f46 := ⟨Tryz.f173.name, by decide, Tryz.func173.trans (congrArg some (by kernel_rfl))⟩
  f47 := Tryz.func174.trans (congrArg some (by kernel_rfl))
  f48 := Tryz.func175.trans (congrArg some (by kernel_rfl))
  f49 := ⟨Tryz.f176.name, by decide, Tryz.func176.trans (congrArg some (by kernel_rfl))⟩
  f50 := ⟨Tryz.f177.name, by decide, Tryz.func177.trans (congrArg some (by kernel_rfl))⟩
  f57 := ⟨Tryz.f199.name, by decide, Tryz.func199.trans (congrArg some (by kernel_rfl))⟩
  t0 := Tryz.underlying0
  a0 := Tryz.isAgg0
  z0 := Tryz.sizeOf0
  v0 := Tryz.zeroValue0
  t3 := Tryz.underlying3
  a3 := Tryz.isAgg3
  z3 := Tryz.sizeOf3
  v3 := Tryz.zeroValue3
  t4 := Tryz.underlying4
  a4 := Tryz.isAgg4
  z4 := Tryz.sizeOf4
  v4 := Tryz.zeroValue4
  t5 := Tryz.underlying5
  a5 := Tryz.isAgg5
  z5 := Tryz.sizeOf5
  v5 := Tryz.zeroValue5
  t9 := Tryz.underlying9
  a9 := Tryz.isAgg9
  z9 := Tryz.sizeOf9
  v9 := Tryz.zeroValue9
  t22 := Tryz.underlying75
  a22 := Tryz.isAgg75
  z22 := Tryz.sizeOf75
  v22 := Tryz.zeroValue75
  t25 := Tryz.underlying125
  a25 := Tryz.isAgg125
  z25 := Tryz.sizeOf125
  v25 := Tryz.zeroValue125
  t39 := Tryz.underlying159
  a39 := Tryz.isAgg159
  z39 := Tryz.sizeOf159
  v39 := Tryz.zeroValue159
  t45 := Tryz.underlying190
  a45 := Tryz.isAgg190
  z45 := Tryz.sizeOf190
  v45 := Tryz.zeroValue190
  t46 := Tryz.underlying191
  a46 := Tryz.isAgg191
  z46 := Tryz.sizeOf191
  v46 := Tryz.zeroValue191
  t50 := Tryz.underlying195
  a50 := Tryz.isAgg195
  z50 := Tryz.sizeOf195
  v50 := Tryz.zeroValue195
  t53 := Tryz.underlying198
  a53 := Tryz.isAgg198
  z53 := Tryz.sizeOf198
  v53 := Tryz.zeroValue198
  t55 := Tryz.underlying200
  a55 := Tryz.isAgg200
  z55 := Tryz.sizeOf200
  v55 := Tryz.zeroValue200
  t66 := Tryz.underlying227
  a66 := Tryz.isAgg227
  z66 := Tryz.sizeOf227
  v66 := Tryz.zeroValue227
  t70 := Tryz.underlying231
  a70 := Tryz.isAgg231
  z70 := Tryz.sizeOf231
  v70 := Tryz.zeroValue231
  t76 := Tryz.underlying252
  a76 := Tryz.isAgg252
  z76 := Tryz.sizeOf252
  v76 := Tryz.zeroValue252
  t77 := Tryz.underlying253
  a77 := Tryz.isAgg253
  z77 := Tryz.sizeOf253
  v77 := Tryz.zeroValue253 }
theorem rp_ti : ∃ i, Go.Av.look TT 37 = some i ∧ isAggK i.kind = true ∧ i.size = 44 := ⟨_, rfl, rfl, rfl⟩
theorem rp_agg (w : World) : (isAgg 37).run Tryz.prog w = .ok true w := by
  obtain ⟨i, h1, h2, -⟩ := rp_ti
  rw [← h2]
  exact (ti_agg tok h1 w).1
theorem rp_size (w : World) : (Go.sizeOf 37).run Tryz.prog w = .ok 44 w := by
  obtain ⟨i, h1, -, h2⟩ := rp_ti
  rw [← h2]
  exact (ti_agg tok h1 w).2
abbrev RpOK : Type := {x : Report // x.I64}
instance : Inhabited RpOK := ⟨⟨default, by unfold Report.I64; decide⟩⟩
/-- the text of a report, as bytes -/
noncomputable def rpT (x : Report) : List UInt8 := (report_Text x).data.toList
noncomputable def cmpRp (x y : RpOK) : Int := Lib.compareBytes (rpT x.1) (rpT y.1)
theorem cmpRp_swo : Go.Sort.SWO (Go.Proofs.ltOf cmpRp) := cmpB_swo fun x : RpOK => rpT x.1
noncomputable def mkRp (s : Report) : RpOK := open Classical in if h : s.I64 then ⟨s, h⟩ else default
theorem mkRp_map {l : List Report} (h : ∀ s, s ∈ l → s.I64) : (l.map mkRp).map (·.1) = l := by
  rw [List.map_map]
  conv => rhs; rw [← List.map_id l]
  refine List.map_congr_left (fun s hs => ?_)
  show (mkRp s).1 = s
  unfold mkRp
  rw [dif_pos (h s hs)]
noncomputable def sortRp (l : List Report) : List Report := (sortF cmpRp (l.map mkRp)).map (·.1)
theorem sortRp_perm {l : List Report} (h : ∀ s, s ∈ l → s.I64) : (sortRp l).Perm l := by
  have := (sortF_perm cmpRp cmpRp_swo (l.map mkRp)).map (·.1)
  rwa [mkRp_map h] at this
theorem sortRp_sorted (l : List Report) : ∀ i j, i < j → j < (sortRp l).length → ¬ rpT ((sortRp l).getD j default) < rpT ((sortRp l).getD i default) := by
  intro i j hij hj
  have hl : (sortRp l).length = (sortF cmpRp (l.map mkRp)).length := by simp [sortRp]
  have h := sortF_sorted cmpRp cmpRp_swo (l.map mkRp) i j hij (by omega)
  unfold Go.Proofs.ltOf cmpRp at h
  simp only [decide_eq_false_iff_not, cmpB_lt] at h
  have e : ∀ q, q < (sortF cmpRp (l.map mkRp)).length → (sortRp l).getD q default = ((sortF cmpRp (l.map mkRp)).getD q default).1 := fun q hq => by simp [sortRp, List.getD, hq]
  rw [e i (by omega), e j (by omega)]
  exact h
theorem rp_cmp (x y : RpOK) : FnA Tryz.prog 56 [av x.1.cells, av y.1.cells] [] (iv (cmpRp x y)) [] := by
  have h := (report_Known_c2_k x.1 y.1).pf ⟨x.2, y.2⟩
  have e : (report_Known_c2_k x.1 y.1).v = cmpRp x y := rfl
  rw [e] at h
  exact h
/-- slices.SortFunc of an own row of reports -/
noncomputable def slices_SortFunc_s (κ : Nat) (x : List Report) : CtrS (List Report) :=
  ⟨Tryz.prog, 55, [ow κ x, .fn 56 []], κ, rowB 37 44 Report.cells x, fun y => rowB 37 44 Report.cells y, sortRp x, x.length < 4611686018427387904 ∧ ∀ s, s ∈ x → s.I64,
    fun h => by
      have e := mkRp_map h.2
      have hf := sortf_fnS2 (P := Tryz.prog) (f := 55) (gf := 56) (by kernel_rfl) (fun s : RpOK => s.1.cells) 44 (fun _ => rfl) (fun _ => rfl) cmpRp cmpRp_swo
        rp_cmp
        (fun blk off cap d w hcl hH hb hs => AnyQ.slices_SortFunc_eq Tryz.sortfLays 44 rp_agg rp_size (Go.Av.encS fun s : RpOK => s.1.cells) (fun _ => rfl)
          (fun x v hv => by
            have hv : v ∈ (Report.cells x.1).map dvS := hv
            obtain ⟨d, hd, rfl⟩ := List.mem_map.1 hv
            have ho : (Report.cells x.1).all oneS = true := rfl
            have := (List.all_eq_true.1 ho) d hd
            have hi := (List.all_eq_true.1 x.2) d hd
            cases d with
            | v z =>
              cases z with
              | int k n => rfl
              | _ => simp [okI] at hi
            | _ => simp [okI] at hi) cmpRp cmpRp_swo 56 #[] blk off cap d w (fun args w => callable_run (by kernel_rfl) args) hcl hH hb hs)
        (fun p cap w => AnyF.slices_SortFunc_none Tryz.sortfLays p cap _ w) κ 37 (x.map mkRp) (by simpa using h.1)
      have e1 : rowB 37 44 (fun s : RpOK => s.1.cells) (x.map mkRp) = rowB 37 44 Report.cells x := by rw [rowB_map _ _ Report.cells (fun s : RpOK => s.1) rfl, e]
      have e2 : rowB 37 44 (fun s : RpOK => s.1.cells) (sortF cmpRp (x.map mkRp)) = rowB 37 44 Report.cells (sortRp x) := rowB_map _ _ Report.cells (fun s : RpOK => s.1) rfl _
      have e3 : ow κ (x.map mkRp) = ow κ x := by show AV.own κ _ = AV.own κ _; rw [List.length_map]
      rw [e1, e2, e3] at hf
      exact hf,
    fun y => (∀ s, s ∈ x → s.I64) → y.Perm x ∧ ∀ i j, i < j → j < y.length → ¬ rpT (y.getD j default) < rpT (y.getD i default), fun h => ⟨sortRp_perm h, sortRp_sorted x⟩⟩
end Go.Proofs.YtihmmpaalpghbaaGreatDoor

