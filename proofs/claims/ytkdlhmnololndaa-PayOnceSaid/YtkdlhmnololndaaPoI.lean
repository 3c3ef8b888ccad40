/- The statement, out of the law. -/
import Derived.Test.YtkdlhmnololndaaPoO
namespace Go.Proofs.Ytkdlhmnololndaa
open Go Go.Av Go.ChangeShapes Go.WideShapes Go.ChangeAt Go.RowKit
theorem Top.own : ownKnob Try.prog.godebug = none := by kernel_rfl
theorem Top.laidOut : laidOutB Try.prog = true := by kernel_rfl

theorem law_fn (hlaw : ∀ l a kind stranger, allongelaw27_PayOnce l a kind stranger = true) (dss : List (List D)) (h : HasAll TT [22, 24, 3, 4] dss) : FnA Try.prog 3 (argAVs TT [22, 24, 3, 4] dss) [] (.d (.v (.bool true))) [] := by
  obtain ⟨d0, d1, d2, d3, rfl⟩ : ∃ a b c d, dss = [a, b, c, d] := by
    match dss, h with
    | [a, b, c, d], _ => exact ⟨a, b, c, d, rfl⟩
  obtain ⟨h0, h1, h2, h3, -⟩ := h
  obtain ⟨n, f, rfl, g⟩ := h0.slice_inv rfl rfl
  obtain ⟨l, y0, -, w0⟩ := sl_list Claim.cells Claim.ok (fun ds h => Claim.of h) g
  obtain ⟨a, y1, w1⟩ := Act.of h1
  obtain ⟨kind, rfl, w2⟩ := h2.int_inv rfl rfl
  obtain ⟨b, rfl⟩ := h3.bool_inv rfl rfl
  have hf := allongelaw27_PayOnce_fn l a kind b
  rw [hlaw] at hf
  exact FnA.argLe hf ⟨AvLe.d y0, AvLe.d y1.agg, AvLe.rfl', AvLe.rfl', trivial⟩

set_option maxRecDepth 100000 in
theorem payOnce_lifted (hlaw : ∀ l a kind stranger, allongelaw27_PayOnce l a kind stranger = true) (os : Os) (started : os.Started) (H : Type) (enc : TypeId × Value → H) :
    ReturnsInHanded {} Try.checked os 3 .any (Rows.payOnceSpec.pre6 enc Try.prog Try.f3 Rows.payOnceRow.domain false) (Rows.payOnceSpec.post enc Try.prog Try.f3 false true false false) := by
  refine returnsInHanded_of_change (C := Try.checked) Top.own started (by kernel_rfl) Try.func3
    (ChangeSpec.witness6 (enc := enc) (C := Try.checked) false ⟨#[], #[.slice none 0 0, .agg #[.int .i64 0, .int .i64 0, .int .i64 0, .int .i64 0, .int .i64 0, .int .i64 0, .int .i64 0, .int .i64 0, .int .i64 0], .int .i64 0, .bool false], []⟩ 8 (by kernel_rfl) (by kernel_rfl) (by kernel_rfl) (by kernel_rfl)) ?_
  intro W base args ds gs before hval hW _ _
  refine law_calls (P := Try.prog) (T := TT) (m := 4) (tb := 4) (base := base) (fn := Try.f3) tok Top.laidOut (by kernel_rfl) (by kernel_rfl) (by kernel_rfl) (by kernel_rfl) rfl hval hW ?_ (fun dss h => law_fn hlaw dss h)
  obtain ⟨p, q, hA, hV, -⟩ := hW
  have hA' : DataW.TrodAll enc Try.prog W 0 (fun _ => true) true [22, 24, 3, 4] args.toList ds p := hA
  obtain ⟨v0, v1, v2, v3, d0, d1, d2, d3, p0, p1, p2, p3, rfl, rfl, rfl, h0, h1, h2, h3⟩ := trodAll_four hA'
  obtain ⟨rfl, rfl⟩ := trodVars_none hV
  exact ⟨rfl, rfl, rfl⟩

theorem payOnce_holds_if (hlaw : ∀ l a kind stranger, allongelaw27_PayOnce l a kind stranger = true) : Rows.PayOnceSaid :=
  OpenClaim.holds_of_wide 3 Try.f3 rfl rfl rfl rfl rfl rfl rfl ⟨rfl, rfl, rfl, rfl, rfl⟩ rfl rfl rfl rfl rfl (by kernel_rfl) Try.func3 (by kernel_rfl)
    (of_decide_eq_true (by kernel_rfl)) (by unfold Func.isWrapper; first | (rw [if_pos (by decide +kernel)]; kernel_rfl) | (rw [if_neg (by decide +kernel)]; exact ⟨rfl, rfl⟩))
    (fun os started H enc _ => payOnce_lifted hlaw os started H enc)
end Go.Proofs.Ytkdlhmnololndaa
