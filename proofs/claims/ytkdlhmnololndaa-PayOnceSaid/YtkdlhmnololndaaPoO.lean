/- Arguments as typed data. -/
import Derived.Test.YtkdlhmnololndaaPoG
import Derived.Test.YtkdlhmnololndaaAvY
namespace Go.Proofs.Ytkdlhmnololndaa
open Go Go.Av
set_option linter.unusedSimpArgs false
set_option linter.unusedVariables false
set_option maxHeartbeats 4000000
structure Claim.ok (c : Claim) : Prop where
  debtor : in64 c.debtor
  creditor : in64 c.creditor
  part : in64 c.part
  sign : in64 c.sign
  by_ : in64 c.by_
  turn : in64 c.turn
  sum : in64 c.sum
  currency : in64 c.currency
  state : in64 c.state

theorem Claim.of {ds : List D} (h : HasT TT 28 ds) : ∃ c : Claim, DsLe ds c.cells ∧ c.ok := by
  have q0 := h.struct_inv rfl rfl
  obtain ⟨p0, r0, rfl, h0, q1⟩ := q0.cons_inv
  obtain ⟨x0, rfl, w0⟩ := h0.int_inv rfl rfl
  obtain ⟨p1, r1, rfl, h1, q2⟩ := q1.cons_inv
  obtain ⟨x1, rfl, w1⟩ := h1.int_inv rfl rfl
  obtain ⟨p2, r2, rfl, h2, q3⟩ := q2.cons_inv
  obtain ⟨x2, rfl, w2⟩ := h2.int_inv rfl rfl
  obtain ⟨p3, r3, rfl, h3, q4⟩ := q3.cons_inv
  obtain ⟨x3, rfl, w3⟩ := h3.int_inv rfl rfl
  obtain ⟨p4, r4, rfl, h4, q5⟩ := q4.cons_inv
  obtain ⟨x4, rfl, w4⟩ := h4.int_inv rfl rfl
  obtain ⟨p5, r5, rfl, h5, q6⟩ := q5.cons_inv
  obtain ⟨x5, rfl, w5⟩ := h5.int_inv rfl rfl
  obtain ⟨p6, r6, rfl, h6, q7⟩ := q6.cons_inv
  obtain ⟨x6, rfl, w6⟩ := h6.int_inv rfl rfl
  obtain ⟨p7, r7, rfl, h7, q8⟩ := q7.cons_inv
  obtain ⟨x7, rfl, w7⟩ := h7.int_inv rfl rfl
  obtain ⟨p8, r8, rfl, h8, q9⟩ := q8.cons_inv
  obtain ⟨x8, rfl, w8⟩ := h8.int_inv rfl rfl
  cases q9.nil_inv
  refine ⟨⟨x0, x1, x2, x3, x4, x5, x6, x7, x8⟩, ?_, ⟨in64_of w0, in64_of w1, in64_of w2, in64_of w3, in64_of w4, in64_of w5, in64_of w6, in64_of w7, in64_of w8⟩⟩
  exact (DsLe.append (DsLe.refl _) (DsLe.append (DsLe.refl _) (DsLe.append (DsLe.refl _) (DsLe.append (DsLe.refl _) (DsLe.append (DsLe.refl _) (DsLe.append (DsLe.refl _) (DsLe.append (DsLe.refl _) (DsLe.append (DsLe.refl _) (DsLe.append (DsLe.refl _) DsLe.nil)))))))))

structure Act.ok (c : Act) : Prop where
  kind : in64 c.kind
  who : in64 c.who
  to_ : in64 c.to_
  part : in64 c.part
  at_ : in64 c.at_
  sum : in64 c.sum
  day : in64 c.day
  city : in64 c.city
  form : in64 c.form

theorem Act.of {ds : List D} (h : HasT TT 24 ds) : ∃ c : Act, DsLe ds c.cells ∧ c.ok := by
  have q0 := h.struct_inv rfl rfl
  obtain ⟨p0, r0, rfl, h0, q1⟩ := q0.cons_inv
  obtain ⟨x0, rfl, w0⟩ := h0.int_inv rfl rfl
  obtain ⟨p1, r1, rfl, h1, q2⟩ := q1.cons_inv
  obtain ⟨x1, rfl, w1⟩ := h1.int_inv rfl rfl
  obtain ⟨p2, r2, rfl, h2, q3⟩ := q2.cons_inv
  obtain ⟨x2, rfl, w2⟩ := h2.int_inv rfl rfl
  obtain ⟨p3, r3, rfl, h3, q4⟩ := q3.cons_inv
  obtain ⟨x3, rfl, w3⟩ := h3.int_inv rfl rfl
  obtain ⟨p4, r4, rfl, h4, q5⟩ := q4.cons_inv
  obtain ⟨x4, rfl, w4⟩ := h4.int_inv rfl rfl
  obtain ⟨p5, r5, rfl, h5, q6⟩ := q5.cons_inv
  obtain ⟨x5, rfl, w5⟩ := h5.int_inv rfl rfl
  obtain ⟨p6, r6, rfl, h6, q7⟩ := q6.cons_inv
  obtain ⟨x6, rfl, w6⟩ := h6.int_inv rfl rfl
  obtain ⟨p7, r7, rfl, h7, q8⟩ := q7.cons_inv
  obtain ⟨x7, rfl, w7⟩ := h7.int_inv rfl rfl
  obtain ⟨p8, r8, rfl, h8, q9⟩ := q8.cons_inv
  obtain ⟨x8, rfl, w8⟩ := h8.int_inv rfl rfl
  cases q9.nil_inv
  refine ⟨⟨x0, x1, x2, x3, x4, x5, x6, x7, x8⟩, ?_, ⟨in64_of w0, in64_of w1, in64_of w2, in64_of w3, in64_of w4, in64_of w5, in64_of w6, in64_of w7, in64_of w8⟩⟩
  exact (DsLe.append (DsLe.refl _) (DsLe.append (DsLe.refl _) (DsLe.append (DsLe.refl _) (DsLe.append (DsLe.refl _) (DsLe.append (DsLe.refl _) (DsLe.append (DsLe.refl _) (DsLe.append (DsLe.refl _) (DsLe.append (DsLe.refl _) (DsLe.append (DsLe.refl _) DsLe.nil)))))))))


end Go.Proofs.Ytkdlhmnololndaa
