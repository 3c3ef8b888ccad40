/- Arguments as typed data. -/
import Derived.Test.YtihmmpaalpghbaaGreatDoorRr14
import Derived.Test.YtihmmpaalpghbaaGreatDoorAvY
namespace Go.Proofs.YtihmmpaalpghbaaGreatDoor
open Go Go.Av
set_option linter.unusedSimpArgs false
set_option linter.unusedVariables false
set_option maxHeartbeats 1000000
set_option maxRecDepth 100000
theorem intOf3 {ds : List D} (h : HasT TT 3 ds) : ∃ c : Int, DsLe ds (intC c) ∧ (fun n => in64 n) c := by
  obtain ⟨x, rfl, w⟩ := h.int_inv rfl rfl
  exact ⟨x, DsLe.refl _, in64_of w⟩

structure Tenor.ok (c : Tenor) : Prop where
  kind : (fun n => in64 n) c.kind
  n : (fun n => in64 n) c.n
  unit : (fun n => in64 n) c.unit

theorem Tenor.of {ds : List D} (h : HasT TT 23 ds) : ∃ c : Tenor, DsLe ds c.cells ∧ c.ok := by
  have q0 := h.struct_inv rfl rfl
  obtain ⟨p0, r0, rfl, h0, q1⟩ := q0.cons_inv
  obtain ⟨x0, y0, w0⟩ := intOf3 h0
  obtain ⟨p1, r1, rfl, h1, q2⟩ := q1.cons_inv
  obtain ⟨x1, y1, w1⟩ := intOf3 h1
  obtain ⟨p2, r2, rfl, h2, q3⟩ := q2.cons_inv
  obtain ⟨x2, y2, w2⟩ := intOf3 h2
  cases q3.nil_inv
  refine ⟨⟨x0, x1, x2⟩, ?_, ⟨w0, w1, w2⟩⟩
  have hh := (DsLe.append y0 (DsLe.append y1 (DsLe.append y2 DsLe.nil)))
  simpa only [Tenor.cells, intC, strC, boolC, List.append_assoc, List.cons_append, List.nil_append, List.append_nil] using hh

structure Bill.ok (c : Bill) : Prop where
  drawer : (fun n => in64 n) c.drawer
  drawee : (fun n => in64 n) c.drawee
  payee : (fun n => in64 n) c.payee
  sum : (fun n => in64 n) c.sum
  currency : (fun n => in64 n) c.currency
  tenor : Tenor.ok c.tenor
  day : (fun n => in64 n) c.day
  city : (fun n => in64 n) c.city
  pay : (fun n => in64 n) c.pay
  need : (fun n => in64 n) c.need
  rate : (fun n => in64 n) c.rate
  flags : (fun n => in64 n) c.flags
  parts : (fun n => in64 n) c.parts

theorem Bill.of {ds : List D} (h : HasT TT 25 ds) : ∃ c : Bill, DsLe ds c.cells ∧ c.ok := by
  have q0 := h.struct_inv rfl rfl
  obtain ⟨p0, r0, rfl, h0, q1⟩ := q0.cons_inv
  obtain ⟨x0, y0, w0⟩ := intOf3 h0
  obtain ⟨p1, r1, rfl, h1, q2⟩ := q1.cons_inv
  obtain ⟨x1, y1, w1⟩ := intOf3 h1
  obtain ⟨p2, r2, rfl, h2, q3⟩ := q2.cons_inv
  obtain ⟨x2, y2, w2⟩ := intOf3 h2
  obtain ⟨p3, r3, rfl, h3, q4⟩ := q3.cons_inv
  obtain ⟨x3, y3, w3⟩ := intOf3 h3
  obtain ⟨p4, r4, rfl, h4, q5⟩ := q4.cons_inv
  obtain ⟨x4, y4, w4⟩ := intOf3 h4
  obtain ⟨p5, r5, rfl, h5, q6⟩ := q5.cons_inv
  obtain ⟨x5, y5, w5⟩ := Tenor.of h5
  obtain ⟨p6, r6, rfl, h6, q7⟩ := q6.cons_inv
  obtain ⟨x6, y6, w6⟩ := intOf3 h6
  obtain ⟨p7, r7, rfl, h7, q8⟩ := q7.cons_inv
  obtain ⟨x7, y7, w7⟩ := intOf3 h7
  obtain ⟨p8, r8, rfl, h8, q9⟩ := q8.cons_inv
  obtain ⟨x8, y8, w8⟩ := intOf3 h8
  obtain ⟨p9, r9, rfl, h9, q10⟩ := q9.cons_inv
  obtain ⟨x9, y9, w9⟩ := intOf3 h9
  obtain ⟨p10, r10, rfl, h10, q11⟩ := q10.cons_inv
  obtain ⟨x10, y10, w10⟩ := intOf3 h10
  obtain ⟨p11, r11, rfl, h11, q12⟩ := q11.cons_inv
  obtain ⟨x11, y11, w11⟩ := intOf3 h11
  obtain ⟨p12, r12, rfl, h12, q13⟩ := q12.cons_inv
  obtain ⟨x12, y12, w12⟩ := intOf3 h12
  cases q13.nil_inv
  refine ⟨⟨x0, x1, x2, x3, x4, x5, x6, x7, x8, x9, x10, x11, x12⟩, ?_, ⟨w0, w1, w2, w3, w4, w5, w6, w7, w8, w9, w10, w11, w12⟩⟩
  have hh := (DsLe.append y0 (DsLe.append y1 (DsLe.append y2 (DsLe.append y3 (DsLe.append y4 (DsLe.append y5 (DsLe.append y6 (DsLe.append y7 (DsLe.append y8 (DsLe.append y9 (DsLe.append y10 (DsLe.append y11 (DsLe.append y12 DsLe.nil)))))))))))))
  simpa only [Bill.cells, intC, strC, boolC, List.append_assoc, List.cons_append, List.nil_append, List.append_nil] using hh

structure Sign.ok (c : Sign) : Prop where
  kind : (fun n => in64 n) c.kind
  part : (fun n => in64 n) c.part
  who : (fun n => in64 n) c.who
  for_ : (fun n => in64 n) c.for_
  to_ : (fun n => in64 n) c.to_
  sum : (fun n => in64 n) c.sum
  day : (fun n => in64 n) c.day
  city : (fun n => in64 n) c.city
  flags : (fun n => in64 n) c.flags

theorem Sign.of {ds : List D} (h : HasT TT 27 ds) : ∃ c : Sign, DsLe ds c.cells ∧ c.ok := by
  have q0 := h.struct_inv rfl rfl
  obtain ⟨p0, r0, rfl, h0, q1⟩ := q0.cons_inv
  obtain ⟨x0, y0, w0⟩ := intOf3 h0
  obtain ⟨p1, r1, rfl, h1, q2⟩ := q1.cons_inv
  obtain ⟨x1, y1, w1⟩ := intOf3 h1
  obtain ⟨p2, r2, rfl, h2, q3⟩ := q2.cons_inv
  obtain ⟨x2, y2, w2⟩ := intOf3 h2
  obtain ⟨p3, r3, rfl, h3, q4⟩ := q3.cons_inv
  obtain ⟨x3, y3, w3⟩ := intOf3 h3
  obtain ⟨p4, r4, rfl, h4, q5⟩ := q4.cons_inv
  obtain ⟨x4, y4, w4⟩ := intOf3 h4
  obtain ⟨p5, r5, rfl, h5, q6⟩ := q5.cons_inv
  obtain ⟨x5, y5, w5⟩ := intOf3 h5
  obtain ⟨p6, r6, rfl, h6, q7⟩ := q6.cons_inv
  obtain ⟨x6, y6, w6⟩ := intOf3 h6
  obtain ⟨p7, r7, rfl, h7, q8⟩ := q7.cons_inv
  obtain ⟨x7, y7, w7⟩ := intOf3 h7
  obtain ⟨p8, r8, rfl, h8, q9⟩ := q8.cons_inv
  obtain ⟨x8, y8, w8⟩ := intOf3 h8
  cases q9.nil_inv
  refine ⟨⟨x0, x1, x2, x3, x4, x5, x6, x7, x8⟩, ?_, ⟨w0, w1, w2, w3, w4, w5, w6, w7, w8⟩⟩
  have hh := (DsLe.append y0 (DsLe.append y1 (DsLe.append y2 (DsLe.append y3 (DsLe.append y4 (DsLe.append y5 (DsLe.append y6 (DsLe.append y7 (DsLe.append y8 DsLe.nil)))))))))
  simpa only [Sign.cells, intC, strC, boolC, List.append_assoc, List.cons_append, List.nil_append, List.append_nil] using hh

structure ActX.ok (c : ActX) : Prop where
  kind : (fun n => in64 n) c.kind
  who : (fun n => in64 n) c.who
  to_ : (fun n => in64 n) c.to_
  part : (fun n => in64 n) c.part
  at_ : (fun n => in64 n) c.at_
  sum : (fun n => in64 n) c.sum
  day : (fun n => in64 n) c.day
  city : (fun n => in64 n) c.city
  form : (fun n => in64 n) c.form

theorem ActX.of {ds : List D} (h : HasT TT 29 ds) : ∃ c : ActX, DsLe ds c.cells ∧ c.ok := by
  have q0 := h.struct_inv rfl rfl
  obtain ⟨p0, r0, rfl, h0, q1⟩ := q0.cons_inv
  obtain ⟨x0, y0, w0⟩ := intOf3 h0
  obtain ⟨p1, r1, rfl, h1, q2⟩ := q1.cons_inv
  obtain ⟨x1, y1, w1⟩ := intOf3 h1
  obtain ⟨p2, r2, rfl, h2, q3⟩ := q2.cons_inv
  obtain ⟨x2, y2, w2⟩ := intOf3 h2
  obtain ⟨p3, r3, rfl, h3, q4⟩ := q3.cons_inv
  obtain ⟨x3, y3, w3⟩ := intOf3 h3
  obtain ⟨p4, r4, rfl, h4, q5⟩ := q4.cons_inv
  obtain ⟨x4, y4, w4⟩ := intOf3 h4
  obtain ⟨p5, r5, rfl, h5, q6⟩ := q5.cons_inv
  obtain ⟨x5, y5, w5⟩ := intOf3 h5
  obtain ⟨p6, r6, rfl, h6, q7⟩ := q6.cons_inv
  obtain ⟨x6, y6, w6⟩ := intOf3 h6
  obtain ⟨p7, r7, rfl, h7, q8⟩ := q7.cons_inv
  obtain ⟨x7, y7, w7⟩ := intOf3 h7
  obtain ⟨p8, r8, rfl, h8, q9⟩ := q8.cons_inv
  obtain ⟨x8, y8, w8⟩ := intOf3 h8
  cases q9.nil_inv
  refine ⟨⟨x0, x1, x2, x3, x4, x5, x6, x7, x8⟩, ?_, ⟨w0, w1, w2, w3, w4, w5, w6, w7, w8⟩⟩
  have hh := (DsLe.append y0 (DsLe.append y1 (DsLe.append y2 (DsLe.append y3 (DsLe.append y4 (DsLe.append y5 (DsLe.append y6 (DsLe.append y7 (DsLe.append y8 DsLe.nil)))))))))
  simpa only [ActX.cells, intC, strC, boolC, List.append_assoc, List.cons_append, List.nil_append, List.append_nil] using hh

structure Alter.ok (c : Alter) : Prop where
  at_ : (fun n => in64 n) c.at_
  sum : (fun n => in64 n) c.sum

theorem Alter.of {ds : List D} (h : HasT TT 31 ds) : ∃ c : Alter, DsLe ds c.cells ∧ c.ok := by
  have q0 := h.struct_inv rfl rfl
  obtain ⟨p0, r0, rfl, h0, q1⟩ := q0.cons_inv
  obtain ⟨x0, y0, w0⟩ := intOf3 h0
  obtain ⟨p1, r1, rfl, h1, q2⟩ := q1.cons_inv
  obtain ⟨x1, y1, w1⟩ := intOf3 h1
  cases q2.nil_inv
  refine ⟨⟨x0, x1⟩, ?_, ⟨w0, w1⟩⟩
  have hh := (DsLe.append y0 (DsLe.append y1 DsLe.nil))
  simpa only [Alter.cells, intC, strC, boolC, List.append_assoc, List.cons_append, List.nil_append, List.append_nil] using hh

structure Fact.ok (c : Fact) : Prop where
  kind : (fun n => in64 n) c.kind
  at_ : (fun n => in64 n) c.at_
  n : (fun n => in64 n) c.n

theorem Fact.of {ds : List D} (h : HasT TT 33 ds) : ∃ c : Fact, DsLe ds c.cells ∧ c.ok := by
  have q0 := h.struct_inv rfl rfl
  obtain ⟨p0, r0, rfl, h0, q1⟩ := q0.cons_inv
  obtain ⟨x0, y0, w0⟩ := intOf3 h0
  obtain ⟨p1, r1, rfl, h1, q2⟩ := q1.cons_inv
  obtain ⟨x1, y1, w1⟩ := intOf3 h1
  obtain ⟨p2, r2, rfl, h2, q3⟩ := q2.cons_inv
  obtain ⟨x2, y2, w2⟩ := intOf3 h2
  cases q3.nil_inv
  refine ⟨⟨x0, x1, x2⟩, ?_, ⟨w0, w1, w2⟩⟩
  have hh := (DsLe.append y0 (DsLe.append y1 (DsLe.append y2 DsLe.nil)))
  simpa only [Fact.cells, intC, strC, boolC, List.append_assoc, List.cons_append, List.nil_append, List.append_nil] using hh

structure Body.ok (c : Body) : Prop where
  kind : (fun n => in64 n) c.kind
  bill : (fun n => in64 n) c.bill
  index : (fun n => in64 n) c.index
  paper : Bill.ok c.paper
  sign : Sign.ok c.sign
  act : ActX.ok c.act
  alter : Alter.ok c.alter
  fact : Fact.ok c.fact

theorem Body.of {ds : List D} (h : HasT TT 35 ds) : ∃ c : Body, DsLe ds c.cells ∧ c.ok := by
  have q0 := h.struct_inv rfl rfl
  obtain ⟨p0, r0, rfl, h0, q1⟩ := q0.cons_inv
  obtain ⟨x0, y0, w0⟩ := intOf3 h0
  obtain ⟨p1, r1, rfl, h1, q2⟩ := q1.cons_inv
  obtain ⟨x1, y1, w1⟩ := intOf3 h1
  obtain ⟨p2, r2, rfl, h2, q3⟩ := q2.cons_inv
  obtain ⟨x2, y2, w2⟩ := intOf3 h2
  obtain ⟨p3, r3, rfl, h3, q4⟩ := q3.cons_inv
  obtain ⟨x3, y3, w3⟩ := Bill.of h3
  obtain ⟨p4, r4, rfl, h4, q5⟩ := q4.cons_inv
  obtain ⟨x4, y4, w4⟩ := Sign.of h4
  obtain ⟨p5, r5, rfl, h5, q6⟩ := q5.cons_inv
  obtain ⟨x5, y5, w5⟩ := ActX.of h5
  obtain ⟨p6, r6, rfl, h6, q7⟩ := q6.cons_inv
  obtain ⟨x6, y6, w6⟩ := Alter.of h6
  obtain ⟨p7, r7, rfl, h7, q8⟩ := q7.cons_inv
  obtain ⟨x7, y7, w7⟩ := Fact.of h7
  cases q8.nil_inv
  refine ⟨⟨x0, x1, x2, x3, x4, x5, x6, x7⟩, ?_, ⟨w0, w1, w2, w3, w4, w5, w6, w7⟩⟩
  have hh := (DsLe.append y0 (DsLe.append y1 (DsLe.append y2 (DsLe.append y3 (DsLe.append y4 (DsLe.append y5 (DsLe.append y6 (DsLe.append y7 DsLe.nil))))))))
  simpa only [Body.cells, intC, strC, boolC, List.append_assoc, List.cons_append, List.nil_append, List.append_nil] using hh

structure Report.ok (c : Report) : Prop where
  reporter : (fun n => in64 n) c.reporter
  no : (fun n => in64 n) c.no
  day : (fun n => in64 n) c.day
  body : Body.ok c.body

theorem Report.of {ds : List D} (h : HasT TT 37 ds) : ∃ c : Report, DsLe ds c.cells ∧ c.ok := by
  have q0 := h.struct_inv rfl rfl
  obtain ⟨p0, r0, rfl, h0, q1⟩ := q0.cons_inv
  obtain ⟨x0, y0, w0⟩ := intOf3 h0
  obtain ⟨p1, r1, rfl, h1, q2⟩ := q1.cons_inv
  obtain ⟨x1, y1, w1⟩ := intOf3 h1
  obtain ⟨p2, r2, rfl, h2, q3⟩ := q2.cons_inv
  obtain ⟨x2, y2, w2⟩ := intOf3 h2
  obtain ⟨p3, r3, rfl, h3, q4⟩ := q3.cons_inv
  obtain ⟨x3, y3, w3⟩ := Body.of h3
  cases q4.nil_inv
  refine ⟨⟨x0, x1, x2, x3⟩, ?_, ⟨w0, w1, w2, w3⟩⟩
  have hh := (DsLe.append y0 (DsLe.append y1 (DsLe.append y2 (DsLe.append y3 DsLe.nil))))
  simpa only [Report.cells, intC, strC, boolC, List.append_assoc, List.cons_append, List.nil_append, List.append_nil] using hh

theorem allongelaw50_ReportReads_law_fn (hlaw : ∀ (a0 : Report) (a1 : ByteArray), (a0.I64) → allongelaw50_ReportReads a0 a1 = true) (dss : List (List D)) (h : HasAll TT [37, 9] dss) : FnA Tryz.prog 3 (argAVs TT [37, 9] dss) [] (.d (.v (.bool true))) [] := by
  obtain ⟨d0, d1, rfl⟩ : ∃ d0 d1, dss = [d0, d1] := by
    match dss, h with
    | [d0, d1], _ => exact ⟨d0, d1, rfl⟩
  obtain ⟨h0, h1, -⟩ := h
  obtain ⟨x0, y0, w0⟩ := Report.of h0
  obtain ⟨x1, rfl, w1⟩ := h1.str_inv rfl rfl
  have hf := allongelaw50_ReportReads_fn x0 x1 (by
    have hI : ∀ n, in64 n → okI (dI n) = true := fun n h => decide_eq_true h
    unfold Report.I64
    simp only [Report.cells, Body.cells, Bill.cells, Tenor.cells, Sign.cells, ActX.cells, Alter.cells, Fact.cells, List.all_append, List.all_cons, List.all_nil, Bool.and_true, hI _ w0.reporter, hI _ w0.no, hI _ w0.day, hI _ w0.body.kind, hI _ w0.body.bill, hI _ w0.body.index, hI _ w0.body.paper.drawer, hI _ w0.body.paper.drawee, hI _ w0.body.paper.payee, hI _ w0.body.paper.sum, hI _ w0.body.paper.currency, hI _ w0.body.paper.tenor.kind, hI _ w0.body.paper.tenor.n, hI _ w0.body.paper.tenor.unit, hI _ w0.body.paper.day, hI _ w0.body.paper.city, hI _ w0.body.paper.pay, hI _ w0.body.paper.need, hI _ w0.body.paper.rate, hI _ w0.body.paper.flags, hI _ w0.body.paper.parts, hI _ w0.body.sign.kind, hI _ w0.body.sign.part, hI _ w0.body.sign.who, hI _ w0.body.sign.for_, hI _ w0.body.sign.to_, hI _ w0.body.sign.sum, hI _ w0.body.sign.day, hI _ w0.body.sign.city, hI _ w0.body.sign.flags, hI _ w0.body.act.kind, hI _ w0.body.act.who, hI _ w0.body.act.to_, hI _ w0.body.act.part, hI _ w0.body.act.at_, hI _ w0.body.act.sum, hI _ w0.body.act.day, hI _ w0.body.act.city, hI _ w0.body.act.form, hI _ w0.body.alter.at_, hI _ w0.body.alter.sum, hI _ w0.body.fact.kind, hI _ w0.body.fact.at_, hI _ w0.body.fact.n])
  rw [hlaw x0 x1 (by
    have hI : ∀ n, in64 n → okI (dI n) = true := fun n h => decide_eq_true h
    unfold Report.I64
    simp only [Report.cells, Body.cells, Bill.cells, Tenor.cells, Sign.cells, ActX.cells, Alter.cells, Fact.cells, List.all_append, List.all_cons, List.all_nil, Bool.and_true, hI _ w0.reporter, hI _ w0.no, hI _ w0.day, hI _ w0.body.kind, hI _ w0.body.bill, hI _ w0.body.index, hI _ w0.body.paper.drawer, hI _ w0.body.paper.drawee, hI _ w0.body.paper.payee, hI _ w0.body.paper.sum, hI _ w0.body.paper.currency, hI _ w0.body.paper.tenor.kind, hI _ w0.body.paper.tenor.n, hI _ w0.body.paper.tenor.unit, hI _ w0.body.paper.day, hI _ w0.body.paper.city, hI _ w0.body.paper.pay, hI _ w0.body.paper.need, hI _ w0.body.paper.rate, hI _ w0.body.paper.flags, hI _ w0.body.paper.parts, hI _ w0.body.sign.kind, hI _ w0.body.sign.part, hI _ w0.body.sign.who, hI _ w0.body.sign.for_, hI _ w0.body.sign.to_, hI _ w0.body.sign.sum, hI _ w0.body.sign.day, hI _ w0.body.sign.city, hI _ w0.body.sign.flags, hI _ w0.body.act.kind, hI _ w0.body.act.who, hI _ w0.body.act.to_, hI _ w0.body.act.part, hI _ w0.body.act.at_, hI _ w0.body.act.sum, hI _ w0.body.act.day, hI _ w0.body.act.city, hI _ w0.body.act.form, hI _ w0.body.alter.at_, hI _ w0.body.alter.sum, hI _ w0.body.fact.kind, hI _ w0.body.fact.at_, hI _ w0.body.fact.n])] at hf
  exact FnA.argLe hf ⟨AvLe.d y0.agg, AvLe.rfl', trivial⟩
end Go.Proofs.YtihmmpaalpghbaaGreatDoor

