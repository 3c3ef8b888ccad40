/- Arguments as typed data. -/
import Derived.Test.YtilbddpghnnmhaaGreatDoorSr1
import Derived.Test.YtilbddpghnnmhaaGreatDoorAvY
namespace Go.Proofs.YtilbddpghnnmhaaGreatDoor
open Go Go.Av
set_option linter.unusedSimpArgs false
set_option linter.unusedVariables false
set_option maxHeartbeats 1000000
set_option maxRecDepth 100000
theorem intOf3 {ds : List D} (h : HasT TT 3 ds) : ∃ c : Int, DsLe ds (intC c) ∧ (fun n => in64 n) c := by
  obtain ⟨x, rfl, w⟩ := h.int_inv rfl rfl
  exact ⟨x, DsLe.refl _, in64_of w⟩

structure Suit.ok (c : Suit) : Prop where
  forum : (fun n => in64 n) c.forum
  plaintiff : (fun n => in64 n) c.plaintiff
  defendant : (fun n => in64 n) c.defendant
  file : (fun n => in64 n) c.file
  sign : (fun n => in64 n) c.sign
  day : (fun n => in64 n) c.day
  kind : (fun n => in64 n) c.kind

theorem Suit.of {ds : List D} (h : HasT TT 46 ds) : ∃ c : Suit, DsLe ds c.cells ∧ c.ok := by
  have q0 := h.struct_inv rfl rfl
  obtain ⟨p0, r0, rfl, h0, q1⟩ := q0.cons_inv
  obtain ⟨x0, y0, w0⟩ := intOf3 h0
  obtain ⟨p1, r1, rfl, h1, q2⟩ := q1.cons_inv
  obtain ⟨x1, y1, w1⟩ := intOf3 h1
  obtain ⟨p2, r2, rfl, h2, q3⟩ := q2.cons_inv
  obtain ⟨x2, y2, w2⟩ := intOf3 h2
  obtain ⟨p3, r3, rfl, h3, q4⟩ := q3.cons_inv
  obtain ⟨x3, y3, w3⟩ := intOf3 h3
  obtain ⟨p4, r4, rfl, h4, q5⟩ := q4.cons_inv
  obtain ⟨x4, y4, w4⟩ := intOf3 h4
  obtain ⟨p5, r5, rfl, h5, q6⟩ := q5.cons_inv
  obtain ⟨x5, y5, w5⟩ := intOf3 h5
  obtain ⟨p6, r6, rfl, h6, q7⟩ := q6.cons_inv
  obtain ⟨x6, y6, w6⟩ := intOf3 h6
  cases q7.nil_inv
  refine ⟨⟨x0, x1, x2, x3, x4, x5, x6⟩, ?_, ⟨w0, w1, w2, w3, w4, w5, w6⟩⟩
  have hh := (DsLe.append y0 (DsLe.append y1 (DsLe.append y2 (DsLe.append y3 (DsLe.append y4 (DsLe.append y5 (DsLe.append y6 DsLe.nil)))))))
  simpa only [Suit.cells, intC, strC, boolC, List.append_assoc, List.cons_append, List.nil_append, List.append_nil] using hh

structure Move.ok (c : Move) : Prop where
  kind : (fun n => in64 n) c.kind
  suit : (fun n => in64 n) c.suit
  day : (fun n => in64 n) c.day
  no : (fun n => in64 n) c.no

theorem Move.of {ds : List D} (h : HasT TT 32 ds) : ∃ c : Move, DsLe ds c.cells ∧ c.ok := by
  have q0 := h.struct_inv rfl rfl
  obtain ⟨p0, r0, rfl, h0, q1⟩ := q0.cons_inv
  obtain ⟨x0, y0, w0⟩ := intOf3 h0
  obtain ⟨p1, r1, rfl, h1, q2⟩ := q1.cons_inv
  obtain ⟨x1, y1, w1⟩ := intOf3 h1
  obtain ⟨p2, r2, rfl, h2, q3⟩ := q2.cons_inv
  obtain ⟨x2, y2, w2⟩ := intOf3 h2
  obtain ⟨p3, r3, rfl, h3, q4⟩ := q3.cons_inv
  obtain ⟨x3, y3, w3⟩ := intOf3 h3
  cases q4.nil_inv
  refine ⟨⟨x0, x1, x2, x3⟩, ?_, ⟨w0, w1, w2, w3⟩⟩
  have hh := (DsLe.append y0 (DsLe.append y1 (DsLe.append y2 (DsLe.append y3 DsLe.nil))))
  simpa only [Move.cells, intC, strC, boolC, List.append_assoc, List.cons_append, List.nil_append, List.append_nil] using hh

theorem allongelaw46_SuitRuns_law_fn (hlaw : ∀ (a0 : List Suit) (a1 : List Move) (a2 : Int) (a3 : Int), (0 ≤ a2 ∧ a2 < 256) → (0 ≤ a3 ∧ a3 < 256) → allongelaw46_SuitRuns a0 a1 a2 a3 = true) (dss : List (List D)) (h : HasAll TT [22, 23, 5, 5] dss) : FnA Tryz.prog 3 (argAVs TT [22, 23, 5, 5] dss) [] (.d (.v (.bool true))) [] := by
  obtain ⟨d0, d1, d2, d3, rfl⟩ : ∃ d0 d1 d2 d3, dss = [d0, d1, d2, d3] := by
    match dss, h with
    | [d0, d1, d2, d3], _ => exact ⟨d0, d1, d2, d3, rfl⟩
  obtain ⟨h0, h1, h2, h3, -⟩ := h
  obtain ⟨n0, f0, rfl, g0⟩ := h0.slice_inv rfl rfl
  obtain ⟨x0, y0, -, w0⟩ := sl_list Suit.cells Suit.ok (fun ds h => Suit.of h) g0
  obtain ⟨n1, f1, rfl, g1⟩ := h1.slice_inv rfl rfl
  obtain ⟨x1, y1, -, w1⟩ := sl_list Move.cells Move.ok (fun ds h => Move.of h) g1
  obtain ⟨x2, rfl, w2⟩ := h2.int_inv rfl rfl
  obtain ⟨x3, rfl, w3⟩ := h3.int_inv rfl rfl
  have hf := allongelaw46_SuitRuns_fn x0 x1 x2 x3 (u8wf w2) (u8wf w3)
  rw [hlaw x0 x1 x2 x3 (u8wf w2) (u8wf w3)] at hf
  exact FnA.argLe hf ⟨AvLe.d y0, AvLe.d y1, AvLe.rfl', AvLe.rfl', trivial⟩
end Go.Proofs.YtilbddpghnnmhaaGreatDoor

