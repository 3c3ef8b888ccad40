/- The clone. -/
import Derived.Test.YtkdlhmnololndaaPoC
namespace Go.Proofs.Ytkdlhmnololndaa
open Go Go.Av
set_option linter.unusedSimpArgs false
set_option linter.unusedVariables false
set_option maxHeartbeats 4000000

def slices_Clone (s : List Claim) : List Claim := s

set_option maxRecDepth 100000 in
theorem slices_Clone_fn (s : List Claim) (hl : s.length ≤ 1099511627776) : FnA Try.prog 10 [.d (slD Claim.cells s)] [] (.own 2000 (slices_Clone s).length) [(2000, .row 28 9 (slices_Clone s).length (fun i => Claim.cells ((slices_Clone s).getD i default)))] := by
  refine FnA.intro (T := TT) Try.func10 rfl (by kernel_rfl) (Nat.le_of_ble_eq_true rfl) ?_
  refine G.seq ?_
  refine G.region tok mixed (keep := some [0, 2]) (orc := []) (st' := ⟨[(2, .d (.v (.slice none 0 0))), (0, .d (slD Claim.cells s))], []⟩) (ob := .tt) (by kernel_rfl) trivial ?_
  refine G.seq ?_
  refine G.seq ?_
  refine G.isNil tok (t := 0) (s := 3) (d := 4) (e := 28) (n := s.length) (f := fun i => Claim.cells (s.getD i default)) (by kernel_rfl) rfl (Nat.le_of_ble_eq_true rfl) (Nat.le_of_ble_eq_true rfl) (fun b hb => ?_)
  refine G.cond (e := b) rfl (fun h1 => ?_) (fun h1 => ?_)
  · have hz := hb h1
    refine G.seq ?_
    refine G.region tok mixed (keep := some [2]) (orc := []) (st' := ⟨[(2, .d (.v (.slice none 0 0)))], []⟩) (ob := .tt) (by kernel_rfl) trivial ?_
    exact G.retO tok Try.func10 [(2000, none)] rfl trivial rfl rfl hz rfl ⟨hz, trivial⟩
  · refine G.skip ?_
    refine G.seq ?_
    refine G.region tok mixed (keep := some [2]) (orc := []) (st' := ⟨[(2, .own 7 (0 + s.length))], [(7, .row 28 9 (0 + s.length) (fun q => if q < 0 then rowF 9 0 [] q else Claim.cells (s.getD (q - 0) default)))]⟩) (ob := .pr (((∀ i, i < s.length → (Claim.cells (s.getD i default)).length = 9) ∧ ∀ i, i < s.length → (Claim.cells (s.getD i default)).all oneD = true) ∧ (0 = 0 ∧ 0 + s.length ≤ maxLen ∧ (0 + s.length) * 72 ≤ 140737488355328))) (by kernel_rfl) (Ob.pr_den ⟨⟨fun _ _ => rfl, fun _ _ => rfl⟩, rfl, by unfold maxLen; omega, by omega⟩) ?_
    exact G.retO tok Try.func10 [(2000, some 7)] rfl trivial rfl rfl (row_cat0 Claim.cells s 9 []).1 rfl ⟨row_cat0 Claim.cells s 9 [], trivial⟩

end Go.Proofs.Ytkdlhmnololndaa
