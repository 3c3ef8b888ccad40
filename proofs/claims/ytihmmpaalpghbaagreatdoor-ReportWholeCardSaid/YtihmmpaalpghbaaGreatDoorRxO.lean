/- Arguments as typed data. -/
import Derived.Test.YtihmmpaalpghbaaGreatDoorRx16
import Derived.Test.YtihmmpaalpghbaaGreatDoorAvY
namespace Go.Proofs.YtihmmpaalpghbaaGreatDoor
open Go Go.Av
set_option linter.unusedSimpArgs false
set_option linter.unusedVariables false
set_option maxHeartbeats 1000000
set_option maxRecDepth 100000
theorem strOf9 {ds : List D} (h : HasT TT 9 ds) : ∃ c : ByteArray, DsLe ds (strC c) ∧ (fun s : ByteArray => s.size ≤ maxLen) c := by
  obtain ⟨x, rfl, w⟩ := h.str_inv rfl rfl
  exact ⟨x, DsLe.refl _, w⟩

theorem slOf47 {ds : List D} (h : HasT TT 47 ds) : ∃ l : List ByteArray, DsLe ds [slD strC l] ∧ (fun l => ∀ x, x ∈ l → (fun s : ByteArray => s.size ≤ maxLen) x) l := by
  obtain ⟨n, f, rfl, g⟩ := h.slice_inv rfl rfl
  obtain ⟨l, y, -, w⟩ := sl_list strC (fun s : ByteArray => s.size ≤ maxLen) (fun ds h => strOf9 h) g
  exact ⟨l, DsLe.one y, w⟩

theorem intOf3 {ds : List D} (h : HasT TT 3 ds) : ∃ c : Int, DsLe ds (intC c) ∧ (fun n => in64 n) c := by
  obtain ⟨x, rfl, w⟩ := h.int_inv rfl rfl
  exact ⟨x, DsLe.refl _, in64_of w⟩

theorem slOf43 {ds : List D} (h : HasT TT 43 ds) : ∃ l : List Int, DsLe ds [slD intC l] ∧ (fun l => ∀ x, x ∈ l → (fun n => in64 n) x) l := by
  obtain ⟨n, f, rfl, g⟩ := h.slice_inv rfl rfl
  obtain ⟨l, y, -, w⟩ := sl_list intC (fun n => in64 n) (fun ds h => intOf3 h) g
  exact ⟨l, DsLe.one y, w⟩

structure City.ok (c : City) : Prop where
  name : (fun s : ByteArray => s.size ≤ maxLen) c.name
  order : (fun n => in64 n) c.order
  currency : (fun n => in64 n) c.currency
  rest : (fun l => ∀ x, x ∈ l → (fun n => in64 n) x) c.rest
  feasts : (fun l => ∀ x, x ∈ l → (fun n => in64 n) x) c.feasts
  shut : (fun l => ∀ x, x ∈ l → (fun n => in64 n) x) c.shut

theorem City.of {ds : List D} (h : HasT TT 105 ds) : ∃ c : City, DsLe ds c.cells ∧ c.ok := by
  have q0 := h.struct_inv rfl rfl
  obtain ⟨p0, r0, rfl, h0, q1⟩ := q0.cons_inv
  obtain ⟨x0, y0, w0⟩ := strOf9 h0
  obtain ⟨p1, r1, rfl, h1, q2⟩ := q1.cons_inv
  obtain ⟨x1, y1, w1⟩ := intOf3 h1
  obtain ⟨p2, r2, rfl, h2, q3⟩ := q2.cons_inv
  obtain ⟨x2, y2, w2⟩ := intOf3 h2
  obtain ⟨p3, r3, rfl, h3, q4⟩ := q3.cons_inv
  obtain ⟨x3, y3, w3⟩ := slOf43 h3
  obtain ⟨p4, r4, rfl, h4, q5⟩ := q4.cons_inv
  obtain ⟨x4, y4, w4⟩ := slOf43 h4
  obtain ⟨p5, r5, rfl, h5, q6⟩ := q5.cons_inv
  obtain ⟨x5, y5, w5⟩ := slOf43 h5
  cases q6.nil_inv
  refine ⟨⟨x0, x1, x2, x3, x4, x5⟩, ?_, ⟨w0, w1, w2, w3, w4, w5⟩⟩
  have hh := (DsLe.append y0 (DsLe.append y1 (DsLe.append y2 (DsLe.append y3 (DsLe.append y4 (DsLe.append y5 DsLe.nil))))))
  simpa only [City.cells, intC, strC, boolC, List.append_assoc, List.cons_append, List.nil_append, List.append_nil] using hh

theorem slOf48 {ds : List D} (h : HasT TT 48 ds) : ∃ l : List City, DsLe ds [slD City.cells l] ∧ (fun l => ∀ x, x ∈ l → City.ok x) l := by
  obtain ⟨n, f, rfl, g⟩ := h.slice_inv rfl rfl
  obtain ⟨l, y, -, w⟩ := sl_list City.cells City.ok (fun ds h => City.of h) g
  exact ⟨l, DsLe.one y, w⟩

structure GroupX.ok (c : GroupX) : Prop where
  grade : (fun n => in64 n) c.grade

theorem GroupX.of {ds : List D} (h : HasT TT 163 ds) : ∃ c : GroupX, DsLe ds c.cells ∧ c.ok := by
  have q0 := h.struct_inv rfl rfl
  obtain ⟨p0, r0, rfl, h0, q1⟩ := q0.cons_inv
  obtain ⟨x0, y0, w0⟩ := intOf3 h0
  cases q1.nil_inv
  refine ⟨⟨x0⟩, ?_, ⟨w0⟩⟩
  have hh := (DsLe.append y0 DsLe.nil)
  simpa only [GroupX.cells, intC, strC, boolC, List.append_assoc, List.cons_append, List.nil_append, List.append_nil] using hh

theorem slOf49 {ds : List D} (h : HasT TT 49 ds) : ∃ l : List GroupX, DsLe ds [slD GroupX.cells l] ∧ (fun l => ∀ x, x ∈ l → GroupX.ok x) l := by
  obtain ⟨n, f, rfl, g⟩ := h.slice_inv rfl rfl
  obtain ⟨l, y, -, w⟩ := sl_list GroupX.cells GroupX.ok (fun ds h => GroupX.of h) g
  exact ⟨l, DsLe.one y, w⟩

structure Firm.ok (c : Firm) : Prop where
  name : (fun s : ByteArray => s.size ≤ maxLen) c.name
  city : (fun n => in64 n) c.city
  group : (fun n => in64 n) c.group

theorem Firm.of {ds : List D} (h : HasT TT 165 ds) : ∃ c : Firm, DsLe ds c.cells ∧ c.ok := by
  have q0 := h.struct_inv rfl rfl
  obtain ⟨p0, r0, rfl, h0, q1⟩ := q0.cons_inv
  obtain ⟨x0, y0, w0⟩ := strOf9 h0
  obtain ⟨p1, r1, rfl, h1, q2⟩ := q1.cons_inv
  obtain ⟨x1, y1, w1⟩ := intOf3 h1
  obtain ⟨p2, r2, rfl, h2, q3⟩ := q2.cons_inv
  obtain ⟨x2, y2, w2⟩ := intOf3 h2
  cases q3.nil_inv
  refine ⟨⟨x0, x1, x2⟩, ?_, ⟨w0, w1, w2⟩⟩
  have hh := (DsLe.append y0 (DsLe.append y1 (DsLe.append y2 DsLe.nil)))
  simpa only [Firm.cells, intC, strC, boolC, List.append_assoc, List.cons_append, List.nil_append, List.append_nil] using hh

theorem slOf50 {ds : List D} (h : HasT TT 50 ds) : ∃ l : List Firm, DsLe ds [slD Firm.cells l] ∧ (fun l => ∀ x, x ∈ l → Firm.ok x) l := by
  obtain ⟨n, f, rfl, g⟩ := h.slice_inv rfl rfl
  obtain ⟨l, y, -, w⟩ := sl_list Firm.cells Firm.ok (fun ds h => Firm.of h) g
  exact ⟨l, DsLe.one y, w⟩

theorem boolOf4 {ds : List D} (h : HasT TT 4 ds) : ∃ c : Bool, DsLe ds (boolC c) ∧ True := by
  obtain ⟨x, rfl⟩ := h.bool_inv rfl rfl
  exact ⟨x, DsLe.refl _, trivial⟩

structure Choice.ok (c : Choice) : Prop where
  ask : (fun n => in64 n) c.ask
  by_ : (fun n => in64 n) c.by_
  whole : (fun _ => True) c.whole

theorem Choice.of {ds : List D} (h : HasT TT 205 ds) : ∃ c : Choice, DsLe ds c.cells ∧ c.ok := by
  have q0 := h.struct_inv rfl rfl
  obtain ⟨p0, r0, rfl, h0, q1⟩ := q0.cons_inv
  obtain ⟨x0, y0, w0⟩ := intOf3 h0
  obtain ⟨p1, r1, rfl, h1, q2⟩ := q1.cons_inv
  obtain ⟨x1, y1, w1⟩ := intOf3 h1
  obtain ⟨p2, r2, rfl, h2, q3⟩ := q2.cons_inv
  obtain ⟨x2, y2, w2⟩ := boolOf4 h2
  cases q3.nil_inv
  refine ⟨⟨x0, x1, x2⟩, ?_, ⟨w0, w1, w2⟩⟩
  have hh := (DsLe.append y0 (DsLe.append y1 (DsLe.append y2 DsLe.nil)))
  simpa only [Choice.cells, intC, strC, boolC, List.append_assoc, List.cons_append, List.nil_append, List.append_nil] using hh

theorem slOf106 {ds : List D} (h : HasT TT 106 ds) : ∃ l : List Choice, DsLe ds [slD Choice.cells l] ∧ (fun l => ∀ x, x ∈ l → Choice.ok x) l := by
  obtain ⟨n, f, rfl, g⟩ := h.slice_inv rfl rfl
  obtain ⟨l, y, -, w⟩ := sl_list Choice.cells Choice.ok (fun ds h => Choice.of h) g
  exact ⟨l, DsLe.one y, w⟩

theorem Term.ofR_all {t : Nat} {ds : List D} (h : HasT TT t ds) : (t = 208 → ∃ c : Term, DsLe ds c.cellsR) ∧ (t = 206 → ∃ l : List Term, DsLe ds [slD Term.cellsR l]) := by
  refine HasT.rec (motive_1 := fun t ds _ => (t = 208 → ∃ c : Term, DsLe ds c.cellsR) ∧ (t = 206 → ∃ l : List Term, DsLe ds [slD Term.cellsR l]))
    (motive_2 := fun ts ds _ => (ts = [] → ds = []) ∧ (ts = [206] → ∃ l : List Term, DsLe ds [slD Term.cellsR l]) ∧ (ts = [3, 206] → ∃ (n : Int) (l : List Term), DsLe ds [dI n, slD Term.cellsR l]) ∧ (ts = [3, 3, 206] → ∃ (m n : Int) (l : List Term), DsLe ds [dI m, dI n, slD Term.cellsR l])) ?_ ?_ ?_ ?_ ?_ ?_ ?_ h
  · intro t i k hi hk n hw
    exact ⟨fun e => (by subst e; cases hi; cases hk), fun e => (by subst e; cases hi; cases hk)⟩
  · intro t i hi hk b
    exact ⟨fun e => (by subst e; cases hi; cases hk), fun e => (by subst e; cases hi; cases hk)⟩
  · intro t i hi hk s hw
    exact ⟨fun e => (by subst e; cases hi; cases hk), fun e => (by subst e; cases hi; cases hk)⟩
  · intro t e i hi hk n f hh ih
    refine ⟨fun e => (by subst e; cases hi; cases hk), fun e => ?_⟩
    subst e
    cases hi
    cases hk
    classical
    let g : Nat → Term := fun j => if hj : j < n then ((ih j hj).1 rfl).choose else default
    have hg : ∀ j, j < n → DsLe (f j) (g j).cellsR := fun j hj => by
      simp only [g, hj, dif_pos]
      exact ((ih j hj).1 rfl).choose_spec
    refine ⟨(List.range n).map g, DsLe.one ?_⟩
    have e : slD Term.cellsR ((List.range n).map g) = .sl n fun i => Term.cellsR (((List.range n).map g).getD i default) := by simp [slD]
    rw [e]
    refine DLe.slAll fun i hi => ?_
    have : ((List.range n).map g).getD i default = g i := by simp [List.getD, hi]
    rw [this]
    exact hg i hi
  · intro t i fs hi hk ds hs ih
    refine ⟨fun e => ?_, fun e => (by subst e; cases hi; cases hk)⟩
    subst e
    cases hi
    cases hk
    obtain ⟨m, n, l, hl⟩ := ih.2.2.2 rfl
    refine ⟨⟨m, n, l⟩, ?_⟩
    have h2 := (Term.argsR_le ⟨m, n, l⟩).2
    have : DsLe [dI m, dI n, slD Term.cellsR l] (Term.cellsR ⟨m, n, l⟩) := DsLe.cons DLe.rfl' (DsLe.cons DLe.rfl' (DsLe.one h2))
    exact ⟨hl.1.trans this.1, fun j hj => (hl.2 j hj).trans (this.2 j (by rw [← hl.1]; exact hj))⟩
  · exact ⟨fun _ => rfl, fun e => (by cases e), fun e => (by cases e), fun e => (by cases e)⟩
  · intro t ts p ds hp hs ih1 ih2
    refine ⟨fun e => (by cases e), fun e => ?_, fun e => ?_, fun e => ?_⟩
    · cases e
      obtain ⟨l, hl⟩ := ih1.2 rfl
      have := ih2.1 rfl
      subst this
      exact ⟨l, by simpa using hl⟩
    · cases e
      obtain ⟨x, rfl, w⟩ := hp.int_inv rfl rfl
      obtain ⟨l, hl⟩ := ih2.2.1 rfl
      exact ⟨x, l, DsLe.append (DsLe.refl _) hl⟩
    · cases e
      obtain ⟨x, rfl, w⟩ := hp.int_inv rfl rfl
      obtain ⟨n, l, hl⟩ := ih2.2.2.1 rfl
      exact ⟨x, n, l, DsLe.append (DsLe.refl _) hl⟩
theorem Term.ofR {ds : List D} (h : HasT TT 208 ds) : ∃ c : Term, DsLe ds c.cellsR ∧ True := by
  obtain ⟨c, hc⟩ := (Term.ofR_all h).1 rfl
  exact ⟨c, hc, trivial⟩
theorem Term.of {ds : List D} (h : HasT TT 208 ds) : ∃ c : Term, DsLe ds c.cells ∧ True := by
  obtain ⟨c, hc, _⟩ := Term.ofR h
  have hu := c.unroll
  exact ⟨c, ⟨hc.1.trans hu.1, fun j hj => (hc.2 j hj).trans (hu.2 j (by rw [← hc.1]; exact hj))⟩, trivial⟩

structure Rule.ok (c : Rule) : Prop where
  ask : (fun n => in64 n) c.ask
  term : (fun _ => True) c.term

theorem Rule.of {ds : List D} (h : HasT TT 210 ds) : ∃ c : Rule, DsLe ds c.cells ∧ c.ok := by
  have q0 := h.struct_inv rfl rfl
  obtain ⟨p0, r0, rfl, h0, q1⟩ := q0.cons_inv
  obtain ⟨x0, y0, w0⟩ := intOf3 h0
  obtain ⟨p1, r1, rfl, h1, q2⟩ := q1.cons_inv
  obtain ⟨x1, y1, w1⟩ := Term.of h1
  cases q2.nil_inv
  refine ⟨⟨x0, x1⟩, ?_, ⟨w0, w1⟩⟩
  have hh := (DsLe.append y0 (DsLe.append y1 DsLe.nil))
  simpa only [Rule.cells, intC, strC, boolC, List.append_assoc, List.cons_append, List.nil_append, List.append_nil] using hh

theorem slOf107 {ds : List D} (h : HasT TT 107 ds) : ∃ l : List Rule, DsLe ds [slD Rule.cells l] ∧ (fun l => ∀ x, x ∈ l → Rule.ok x) l := by
  obtain ⟨n, f, rfl, g⟩ := h.slice_inv rfl rfl
  obtain ⟨l, y, -, w⟩ := sl_list Rule.cells Rule.ok (fun ds h => Rule.of h) g
  exact ⟨l, DsLe.one y, w⟩

structure Order.ok (c : Order) : Prop where
  name : (fun s : ByteArray => s.size ≤ maxLen) c.name
  accepts : (fun _ => True) c.accepts
  choices : (fun l => ∀ x, x ∈ l → Choice.ok x) c.choices
  rules : (fun l => ∀ x, x ∈ l → Rule.ok x) c.rules

theorem Order.of {ds : List D} (h : HasT TT 109 ds) : ∃ c : Order, DsLe ds c.cells ∧ c.ok := by
  have q0 := h.struct_inv rfl rfl
  obtain ⟨p0, r0, rfl, h0, q1⟩ := q0.cons_inv
  obtain ⟨x0, y0, w0⟩ := strOf9 h0
  obtain ⟨p1, r1, rfl, h1, q2⟩ := q1.cons_inv
  obtain ⟨x1, y1, w1⟩ := boolOf4 h1
  obtain ⟨p2, r2, rfl, h2, q3⟩ := q2.cons_inv
  obtain ⟨x2, y2, w2⟩ := slOf106 h2
  obtain ⟨p3, r3, rfl, h3, q4⟩ := q3.cons_inv
  obtain ⟨x3, y3, w3⟩ := slOf107 h3
  cases q4.nil_inv
  refine ⟨⟨x0, x1, x2, x3⟩, ?_, ⟨w0, w1, w2, w3⟩⟩
  have hh := (DsLe.append y0 (DsLe.append y1 (DsLe.append y2 (DsLe.append y3 DsLe.nil))))
  simpa only [Order.cells, intC, strC, boolC, List.append_assoc, List.cons_append, List.nil_append, List.append_nil] using hh

theorem slOf51 {ds : List D} (h : HasT TT 51 ds) : ∃ l : List Order, DsLe ds [slD Order.cells l] ∧ (fun l => ∀ x, x ∈ l → Order.ok x) l := by
  obtain ⟨n, f, rfl, g⟩ := h.slice_inv rfl rfl
  obtain ⟨l, y, -, w⟩ := sl_list Order.cells Order.ok (fun ds h => Order.of h) g
  exact ⟨l, DsLe.one y, w⟩

structure Usance.ok (c : Usance) : Prop where
  from_ : (fun n => in64 n) c.from_
  to_ : (fun n => in64 n) c.to_
  days : (fun n => in64 n) c.days

theorem Usance.of {ds : List D} (h : HasT TT 168 ds) : ∃ c : Usance, DsLe ds c.cells ∧ c.ok := by
  have q0 := h.struct_inv rfl rfl
  obtain ⟨p0, r0, rfl, h0, q1⟩ := q0.cons_inv
  obtain ⟨x0, y0, w0⟩ := intOf3 h0
  obtain ⟨p1, r1, rfl, h1, q2⟩ := q1.cons_inv
  obtain ⟨x1, y1, w1⟩ := intOf3 h1
  obtain ⟨p2, r2, rfl, h2, q3⟩ := q2.cons_inv
  obtain ⟨x2, y2, w2⟩ := intOf3 h2
  cases q3.nil_inv
  refine ⟨⟨x0, x1, x2⟩, ?_, ⟨w0, w1, w2⟩⟩
  have hh := (DsLe.append y0 (DsLe.append y1 (DsLe.append y2 DsLe.nil)))
  simpa only [Usance.cells, intC, strC, boolC, List.append_assoc, List.cons_append, List.nil_append, List.append_nil] using hh

theorem slOf52 {ds : List D} (h : HasT TT 52 ds) : ∃ l : List Usance, DsLe ds [slD Usance.cells l] ∧ (fun l => ∀ x, x ∈ l → Usance.ok x) l := by
  obtain ⟨n, f, rfl, g⟩ := h.slice_inv rfl rfl
  obtain ⟨l, y, -, w⟩ := sl_list Usance.cells Usance.ok (fun ds h => Usance.of h) g
  exact ⟨l, DsLe.one y, w⟩

structure RateX.ok (c : RateX) : Prop where
  from_ : (fun n => in64 n) c.from_
  to_ : (fun n => in64 n) c.to_
  num : (fun n => in64 n) c.num
  den : (fun n => in64 n) c.den
  since : (fun n => in64 n) c.since

theorem RateX.of {ds : List D} (h : HasT TT 170 ds) : ∃ c : RateX, DsLe ds c.cells ∧ c.ok := by
  have q0 := h.struct_inv rfl rfl
  obtain ⟨p0, r0, rfl, h0, q1⟩ := q0.cons_inv
  obtain ⟨x0, y0, w0⟩ := intOf3 h0
  obtain ⟨p1, r1, rfl, h1, q2⟩ := q1.cons_inv
  obtain ⟨x1, y1, w1⟩ := intOf3 h1
  obtain ⟨p2, r2, rfl, h2, q3⟩ := q2.cons_inv
  obtain ⟨x2, y2, w2⟩ := intOf3 h2
  obtain ⟨p3, r3, rfl, h3, q4⟩ := q3.cons_inv
  obtain ⟨x3, y3, w3⟩ := intOf3 h3
  obtain ⟨p4, r4, rfl, h4, q5⟩ := q4.cons_inv
  obtain ⟨x4, y4, w4⟩ := intOf3 h4
  cases q5.nil_inv
  refine ⟨⟨x0, x1, x2, x3, x4⟩, ?_, ⟨w0, w1, w2, w3, w4⟩⟩
  have hh := (DsLe.append y0 (DsLe.append y1 (DsLe.append y2 (DsLe.append y3 (DsLe.append y4 DsLe.nil)))))
  simpa only [RateX.cells, intC, strC, boolC, List.append_assoc, List.cons_append, List.nil_append, List.append_nil] using hh

theorem slOf53 {ds : List D} (h : HasT TT 53 ds) : ∃ l : List RateX, DsLe ds [slD RateX.cells l] ∧ (fun l => ∀ x, x ∈ l → RateX.ok x) l := by
  obtain ⟨n, f, rfl, g⟩ := h.slice_inv rfl rfl
  obtain ⟨l, y, -, w⟩ := sl_list RateX.cells RateX.ok (fun ds h => RateX.of h) g
  exact ⟨l, DsLe.one y, w⟩

structure Halt.ok (c : Halt) : Prop where
  order : (fun n => in64 n) c.order
  from_ : (fun n => in64 n) c.from_
  to_ : (fun n => in64 n) c.to_

theorem Halt.of {ds : List D} (h : HasT TT 172 ds) : ∃ c : Halt, DsLe ds c.cells ∧ c.ok := by
  have q0 := h.struct_inv rfl rfl
  obtain ⟨p0, r0, rfl, h0, q1⟩ := q0.cons_inv
  obtain ⟨x0, y0, w0⟩ := intOf3 h0
  obtain ⟨p1, r1, rfl, h1, q2⟩ := q1.cons_inv
  obtain ⟨x1, y1, w1⟩ := intOf3 h1
  obtain ⟨p2, r2, rfl, h2, q3⟩ := q2.cons_inv
  obtain ⟨x2, y2, w2⟩ := intOf3 h2
  cases q3.nil_inv
  refine ⟨⟨x0, x1, x2⟩, ?_, ⟨w0, w1, w2⟩⟩
  have hh := (DsLe.append y0 (DsLe.append y1 (DsLe.append y2 DsLe.nil)))
  simpa only [Halt.cells, intC, strC, boolC, List.append_assoc, List.cons_append, List.nil_append, List.append_nil] using hh

theorem slOf54 {ds : List D} (h : HasT TT 54 ds) : ∃ l : List Halt, DsLe ds [slD Halt.cells l] ∧ (fun l => ∀ x, x ∈ l → Halt.ok x) l := by
  obtain ⟨n, f, rfl, g⟩ := h.slice_inv rfl rfl
  obtain ⟨l, y, -, w⟩ := sl_list Halt.cells Halt.ok (fun ds h => Halt.of h) g
  exact ⟨l, DsLe.one y, w⟩

structure Realm.ok (c : Realm) : Prop where
  currencies : (fun l => ∀ x, x ∈ l → (fun s : ByteArray => s.size ≤ maxLen) x) c.currencies
  cities : (fun l => ∀ x, x ∈ l → City.ok x) c.cities
  groups : (fun l => ∀ x, x ∈ l → GroupX.ok x) c.groups
  firms : (fun l => ∀ x, x ∈ l → Firm.ok x) c.firms
  orders : (fun l => ∀ x, x ∈ l → Order.ok x) c.orders
  usances : (fun l => ∀ x, x ∈ l → Usance.ok x) c.usances
  rates : (fun l => ∀ x, x ∈ l → RateX.ok x) c.rates
  halts : (fun l => ∀ x, x ∈ l → Halt.ok x) c.halts

theorem Realm.of {ds : List D} (h : HasT TT 56 ds) : ∃ c : Realm, DsLe ds c.cells ∧ c.ok := by
  have q0 := h.struct_inv rfl rfl
  obtain ⟨p0, r0, rfl, h0, q1⟩ := q0.cons_inv
  obtain ⟨x0, y0, w0⟩ := slOf47 h0
  obtain ⟨p1, r1, rfl, h1, q2⟩ := q1.cons_inv
  obtain ⟨x1, y1, w1⟩ := slOf48 h1
  obtain ⟨p2, r2, rfl, h2, q3⟩ := q2.cons_inv
  obtain ⟨x2, y2, w2⟩ := slOf49 h2
  obtain ⟨p3, r3, rfl, h3, q4⟩ := q3.cons_inv
  obtain ⟨x3, y3, w3⟩ := slOf50 h3
  obtain ⟨p4, r4, rfl, h4, q5⟩ := q4.cons_inv
  obtain ⟨x4, y4, w4⟩ := slOf51 h4
  obtain ⟨p5, r5, rfl, h5, q6⟩ := q5.cons_inv
  obtain ⟨x5, y5, w5⟩ := slOf52 h5
  obtain ⟨p6, r6, rfl, h6, q7⟩ := q6.cons_inv
  obtain ⟨x6, y6, w6⟩ := slOf53 h6
  obtain ⟨p7, r7, rfl, h7, q8⟩ := q7.cons_inv
  obtain ⟨x7, y7, w7⟩ := slOf54 h7
  cases q8.nil_inv
  refine ⟨⟨x0, x1, x2, x3, x4, x5, x6, x7⟩, ?_, ⟨w0, w1, w2, w3, w4, w5, w6, w7⟩⟩
  have hh := (DsLe.append y0 (DsLe.append y1 (DsLe.append y2 (DsLe.append y3 (DsLe.append y4 (DsLe.append y5 (DsLe.append y6 (DsLe.append y7 DsLe.nil))))))))
  simpa only [Realm.cells, intC, strC, boolC, List.append_assoc, List.cons_append, List.nil_append, List.append_nil] using hh

structure Tenor.ok (c : Tenor) : Prop where
  kind : (fun n => in64 n) c.kind
  n : (fun n => in64 n) c.n
  unit : (fun n => in64 n) c.unit

theorem Tenor.of {ds : List D} (h : HasT TT 23 ds) : ∃ c : Tenor, DsLe ds c.cells ∧ c.ok := by
  have q0 := h.struct_inv rfl rfl
  obtain ⟨p0, r0, rfl, h0, q1⟩ := q0.cons_inv
  obtain ⟨x0, y0, w0⟩ := intOf3 h0
  obtain ⟨p1, r1, rfl, h1, q2⟩ := q1.cons_inv
  obtain ⟨x1, y1, w1⟩ := intOf3 h1
  obtain ⟨p2, r2, rfl, h2, q3⟩ := q2.cons_inv
  obtain ⟨x2, y2, w2⟩ := intOf3 h2
  cases q3.nil_inv
  refine ⟨⟨x0, x1, x2⟩, ?_, ⟨w0, w1, w2⟩⟩
  have hh := (DsLe.append y0 (DsLe.append y1 (DsLe.append y2 DsLe.nil)))
  simpa only [Tenor.cells, intC, strC, boolC, List.append_assoc, List.cons_append, List.nil_append, List.append_nil] using hh

structure Bill.ok (c : Bill) : Prop where
  drawer : (fun n => in64 n) c.drawer
  drawee : (fun n => in64 n) c.drawee
  payee : (fun n => in64 n) c.payee
  sum : (fun n => in64 n) c.sum
  currency : (fun n => in64 n) c.currency
  tenor : Tenor.ok c.tenor
  day : (fun n => in64 n) c.day
  city : (fun n => in64 n) c.city
  pay : (fun n => in64 n) c.pay
  need : (fun n => in64 n) c.need
  rate : (fun n => in64 n) c.rate
  flags : (fun n => in64 n) c.flags
  parts : (fun n => in64 n) c.parts

theorem Bill.of {ds : List D} (h : HasT TT 25 ds) : ∃ c : Bill, DsLe ds c.cells ∧ c.ok := by
  have q0 := h.struct_inv rfl rfl
  obtain ⟨p0, r0, rfl, h0, q1⟩ := q0.cons_inv
  obtain ⟨x0, y0, w0⟩ := intOf3 h0
  obtain ⟨p1, r1, rfl, h1, q2⟩ := q1.cons_inv
  obtain ⟨x1, y1, w1⟩ := intOf3 h1
  obtain ⟨p2, r2, rfl, h2, q3⟩ := q2.cons_inv
  obtain ⟨x2, y2, w2⟩ := intOf3 h2
  obtain ⟨p3, r3, rfl, h3, q4⟩ := q3.cons_inv
  obtain ⟨x3, y3, w3⟩ := intOf3 h3
  obtain ⟨p4, r4, rfl, h4, q5⟩ := q4.cons_inv
  obtain ⟨x4, y4, w4⟩ := intOf3 h4
  obtain ⟨p5, r5, rfl, h5, q6⟩ := q5.cons_inv
  obtain ⟨x5, y5, w5⟩ := Tenor.of h5
  obtain ⟨p6, r6, rfl, h6, q7⟩ := q6.cons_inv
  obtain ⟨x6, y6, w6⟩ := intOf3 h6
  obtain ⟨p7, r7, rfl, h7, q8⟩ := q7.cons_inv
  obtain ⟨x7, y7, w7⟩ := intOf3 h7
  obtain ⟨p8, r8, rfl, h8, q9⟩ := q8.cons_inv
  obtain ⟨x8, y8, w8⟩ := intOf3 h8
  obtain ⟨p9, r9, rfl, h9, q10⟩ := q9.cons_inv
  obtain ⟨x9, y9, w9⟩ := intOf3 h9
  obtain ⟨p10, r10, rfl, h10, q11⟩ := q10.cons_inv
  obtain ⟨x10, y10, w10⟩ := intOf3 h10
  obtain ⟨p11, r11, rfl, h11, q12⟩ := q11.cons_inv
  obtain ⟨x11, y11, w11⟩ := intOf3 h11
  obtain ⟨p12, r12, rfl, h12, q13⟩ := q12.cons_inv
  obtain ⟨x12, y12, w12⟩ := intOf3 h12
  cases q13.nil_inv
  refine ⟨⟨x0, x1, x2, x3, x4, x5, x6, x7, x8, x9, x10, x11, x12⟩, ?_, ⟨w0, w1, w2, w3, w4, w5, w6, w7, w8, w9, w10, w11, w12⟩⟩
  have hh := (DsLe.append y0 (DsLe.append y1 (DsLe.append y2 (DsLe.append y3 (DsLe.append y4 (DsLe.append y5 (DsLe.append y6 (DsLe.append y7 (DsLe.append y8 (DsLe.append y9 (DsLe.append y10 (DsLe.append y11 (DsLe.append y12 DsLe.nil)))))))))))))
  simpa only [Bill.cells, intC, strC, boolC, List.append_assoc, List.cons_append, List.nil_append, List.append_nil] using hh

structure Sign.ok (c : Sign) : Prop where
  kind : (fun n => in64 n) c.kind
  part : (fun n => in64 n) c.part
  who : (fun n => in64 n) c.who
  for_ : (fun n => in64 n) c.for_
  to_ : (fun n => in64 n) c.to_
  sum : (fun n => in64 n) c.sum
  day : (fun n => in64 n) c.day
  city : (fun n => in64 n) c.city
  flags : (fun n => in64 n) c.flags

theorem Sign.of {ds : List D} (h : HasT TT 27 ds) : ∃ c : Sign, DsLe ds c.cells ∧ c.ok := by
  have q0 := h.struct_inv rfl rfl
  obtain ⟨p0, r0, rfl, h0, q1⟩ := q0.cons_inv
  obtain ⟨x0, y0, w0⟩ := intOf3 h0
  obtain ⟨p1, r1, rfl, h1, q2⟩ := q1.cons_inv
  obtain ⟨x1, y1, w1⟩ := intOf3 h1
  obtain ⟨p2, r2, rfl, h2, q3⟩ := q2.cons_inv
  obtain ⟨x2, y2, w2⟩ := intOf3 h2
  obtain ⟨p3, r3, rfl, h3, q4⟩ := q3.cons_inv
  obtain ⟨x3, y3, w3⟩ := intOf3 h3
  obtain ⟨p4, r4, rfl, h4, q5⟩ := q4.cons_inv
  obtain ⟨x4, y4, w4⟩ := intOf3 h4
  obtain ⟨p5, r5, rfl, h5, q6⟩ := q5.cons_inv
  obtain ⟨x5, y5, w5⟩ := intOf3 h5
  obtain ⟨p6, r6, rfl, h6, q7⟩ := q6.cons_inv
  obtain ⟨x6, y6, w6⟩ := intOf3 h6
  obtain ⟨p7, r7, rfl, h7, q8⟩ := q7.cons_inv
  obtain ⟨x7, y7, w7⟩ := intOf3 h7
  obtain ⟨p8, r8, rfl, h8, q9⟩ := q8.cons_inv
  obtain ⟨x8, y8, w8⟩ := intOf3 h8
  cases q9.nil_inv
  refine ⟨⟨x0, x1, x2, x3, x4, x5, x6, x7, x8⟩, ?_, ⟨w0, w1, w2, w3, w4, w5, w6, w7, w8⟩⟩
  have hh := (DsLe.append y0 (DsLe.append y1 (DsLe.append y2 (DsLe.append y3 (DsLe.append y4 (DsLe.append y5 (DsLe.append y6 (DsLe.append y7 (DsLe.append y8 DsLe.nil)))))))))
  simpa only [Sign.cells, intC, strC, boolC, List.append_assoc, List.cons_append, List.nil_append, List.append_nil] using hh

theorem slOf57 {ds : List D} (h : HasT TT 57 ds) : ∃ l : List Sign, DsLe ds [slD Sign.cells l] ∧ (fun l => ∀ x, x ∈ l → Sign.ok x) l := by
  obtain ⟨n, f, rfl, g⟩ := h.slice_inv rfl rfl
  obtain ⟨l, y, -, w⟩ := sl_list Sign.cells Sign.ok (fun ds h => Sign.of h) g
  exact ⟨l, DsLe.one y, w⟩

structure Alter.ok (c : Alter) : Prop where
  at_ : (fun n => in64 n) c.at_
  sum : (fun n => in64 n) c.sum

theorem Alter.of {ds : List D} (h : HasT TT 31 ds) : ∃ c : Alter, DsLe ds c.cells ∧ c.ok := by
  have q0 := h.struct_inv rfl rfl
  obtain ⟨p0, r0, rfl, h0, q1⟩ := q0.cons_inv
  obtain ⟨x0, y0, w0⟩ := intOf3 h0
  obtain ⟨p1, r1, rfl, h1, q2⟩ := q1.cons_inv
  obtain ⟨x1, y1, w1⟩ := intOf3 h1
  cases q2.nil_inv
  refine ⟨⟨x0, x1⟩, ?_, ⟨w0, w1⟩⟩
  have hh := (DsLe.append y0 (DsLe.append y1 DsLe.nil))
  simpa only [Alter.cells, intC, strC, boolC, List.append_assoc, List.cons_append, List.nil_append, List.append_nil] using hh

theorem slOf58 {ds : List D} (h : HasT TT 58 ds) : ∃ l : List Alter, DsLe ds [slD Alter.cells l] ∧ (fun l => ∀ x, x ∈ l → Alter.ok x) l := by
  obtain ⟨n, f, rfl, g⟩ := h.slice_inv rfl rfl
  obtain ⟨l, y, -, w⟩ := sl_list Alter.cells Alter.ok (fun ds h => Alter.of h) g
  exact ⟨l, DsLe.one y, w⟩

structure ActX.ok (c : ActX) : Prop where
  kind : (fun n => in64 n) c.kind
  who : (fun n => in64 n) c.who
  to_ : (fun n => in64 n) c.to_
  part : (fun n => in64 n) c.part
  at_ : (fun n => in64 n) c.at_
  sum : (fun n => in64 n) c.sum
  day : (fun n => in64 n) c.day
  city : (fun n => in64 n) c.city
  form : (fun n => in64 n) c.form

theorem ActX.of {ds : List D} (h : HasT TT 29 ds) : ∃ c : ActX, DsLe ds c.cells ∧ c.ok := by
  have q0 := h.struct_inv rfl rfl
  obtain ⟨p0, r0, rfl, h0, q1⟩ := q0.cons_inv
  obtain ⟨x0, y0, w0⟩ := intOf3 h0
  obtain ⟨p1, r1, rfl, h1, q2⟩ := q1.cons_inv
  obtain ⟨x1, y1, w1⟩ := intOf3 h1
  obtain ⟨p2, r2, rfl, h2, q3⟩ := q2.cons_inv
  obtain ⟨x2, y2, w2⟩ := intOf3 h2
  obtain ⟨p3, r3, rfl, h3, q4⟩ := q3.cons_inv
  obtain ⟨x3, y3, w3⟩ := intOf3 h3
  obtain ⟨p4, r4, rfl, h4, q5⟩ := q4.cons_inv
  obtain ⟨x4, y4, w4⟩ := intOf3 h4
  obtain ⟨p5, r5, rfl, h5, q6⟩ := q5.cons_inv
  obtain ⟨x5, y5, w5⟩ := intOf3 h5
  obtain ⟨p6, r6, rfl, h6, q7⟩ := q6.cons_inv
  obtain ⟨x6, y6, w6⟩ := intOf3 h6
  obtain ⟨p7, r7, rfl, h7, q8⟩ := q7.cons_inv
  obtain ⟨x7, y7, w7⟩ := intOf3 h7
  obtain ⟨p8, r8, rfl, h8, q9⟩ := q8.cons_inv
  obtain ⟨x8, y8, w8⟩ := intOf3 h8
  cases q9.nil_inv
  refine ⟨⟨x0, x1, x2, x3, x4, x5, x6, x7, x8⟩, ?_, ⟨w0, w1, w2, w3, w4, w5, w6, w7, w8⟩⟩
  have hh := (DsLe.append y0 (DsLe.append y1 (DsLe.append y2 (DsLe.append y3 (DsLe.append y4 (DsLe.append y5 (DsLe.append y6 (DsLe.append y7 (DsLe.append y8 DsLe.nil)))))))))
  simpa only [ActX.cells, intC, strC, boolC, List.append_assoc, List.cons_append, List.nil_append, List.append_nil] using hh

theorem slOf59 {ds : List D} (h : HasT TT 59 ds) : ∃ l : List ActX, DsLe ds [slD ActX.cells l] ∧ (fun l => ∀ x, x ∈ l → ActX.ok x) l := by
  obtain ⟨n, f, rfl, g⟩ := h.slice_inv rfl rfl
  obtain ⟨l, y, -, w⟩ := sl_list ActX.cells ActX.ok (fun ds h => ActX.of h) g
  exact ⟨l, DsLe.one y, w⟩

structure Fact.ok (c : Fact) : Prop where
  kind : (fun n => in64 n) c.kind
  at_ : (fun n => in64 n) c.at_
  n : (fun n => in64 n) c.n

theorem Fact.of {ds : List D} (h : HasT TT 33 ds) : ∃ c : Fact, DsLe ds c.cells ∧ c.ok := by
  have q0 := h.struct_inv rfl rfl
  obtain ⟨p0, r0, rfl, h0, q1⟩ := q0.cons_inv
  obtain ⟨x0, y0, w0⟩ := intOf3 h0
  obtain ⟨p1, r1, rfl, h1, q2⟩ := q1.cons_inv
  obtain ⟨x1, y1, w1⟩ := intOf3 h1
  obtain ⟨p2, r2, rfl, h2, q3⟩ := q2.cons_inv
  obtain ⟨x2, y2, w2⟩ := intOf3 h2
  cases q3.nil_inv
  refine ⟨⟨x0, x1, x2⟩, ?_, ⟨w0, w1, w2⟩⟩
  have hh := (DsLe.append y0 (DsLe.append y1 (DsLe.append y2 DsLe.nil)))
  simpa only [Fact.cells, intC, strC, boolC, List.append_assoc, List.cons_append, List.nil_append, List.append_nil] using hh

theorem slOf60 {ds : List D} (h : HasT TT 60 ds) : ∃ l : List Fact, DsLe ds [slD Fact.cells l] ∧ (fun l => ∀ x, x ∈ l → Fact.ok x) l := by
  obtain ⟨n, f, rfl, g⟩ := h.slice_inv rfl rfl
  obtain ⟨l, y, -, w⟩ := sl_list Fact.cells Fact.ok (fun ds h => Fact.of h) g
  exact ⟨l, DsLe.one y, w⟩

structure File.ok (c : File) : Prop where
  bill : Bill.ok c.bill
  signs : (fun l => ∀ x, x ∈ l → Sign.ok x) c.signs
  alters : (fun l => ∀ x, x ∈ l → Alter.ok x) c.alters
  acts : (fun l => ∀ x, x ∈ l → ActX.ok x) c.acts
  facts : (fun l => ∀ x, x ∈ l → Fact.ok x) c.facts

theorem File.of {ds : List D} (h : HasT TT 62 ds) : ∃ c : File, DsLe ds c.cells ∧ c.ok := by
  have q0 := h.struct_inv rfl rfl
  obtain ⟨p0, r0, rfl, h0, q1⟩ := q0.cons_inv
  obtain ⟨x0, y0, w0⟩ := Bill.of h0
  obtain ⟨p1, r1, rfl, h1, q2⟩ := q1.cons_inv
  obtain ⟨x1, y1, w1⟩ := slOf57 h1
  obtain ⟨p2, r2, rfl, h2, q3⟩ := q2.cons_inv
  obtain ⟨x2, y2, w2⟩ := slOf58 h2
  obtain ⟨p3, r3, rfl, h3, q4⟩ := q3.cons_inv
  obtain ⟨x3, y3, w3⟩ := slOf59 h3
  obtain ⟨p4, r4, rfl, h4, q5⟩ := q4.cons_inv
  obtain ⟨x4, y4, w4⟩ := slOf60 h4
  cases q5.nil_inv
  refine ⟨⟨x0, x1, x2, x3, x4⟩, ?_, ⟨w0, w1, w2, w3, w4⟩⟩
  have hh := (DsLe.append y0 (DsLe.append y1 (DsLe.append y2 (DsLe.append y3 (DsLe.append y4 DsLe.nil)))))
  simpa only [File.cells, intC, strC, boolC, List.append_assoc, List.cons_append, List.nil_append, List.append_nil] using hh

theorem Sign_J {w0 : Sign} (w : w0.ok) : w0.J := by
  have hI : ∀ n, in64 n → okI (dI n) = true := fun n h => decide_eq_true h
  unfold Sign.J
  simp only [Sign.cells, List.all_append, List.all_cons, List.all_nil, Bool.and_true, hI _ w.kind, hI _ w.part, hI _ w.who, hI _ w.for_, hI _ w.to_, hI _ w.sum, hI _ w.day, hI _ w.city, hI _ w.flags]
theorem ActX_J {w0 : ActX} (w : w0.ok) : w0.J := by
  have hI : ∀ n, in64 n → okI (dI n) = true := fun n h => decide_eq_true h
  unfold ActX.J
  simp only [ActX.cells, List.all_append, List.all_cons, List.all_nil, Bool.and_true, hI _ w.kind, hI _ w.who, hI _ w.to_, hI _ w.part, hI _ w.at_, hI _ w.sum, hI _ w.day, hI _ w.city, hI _ w.form]
theorem Alter_J {w0 : Alter} (w : w0.ok) : w0.J := by
  have hI : ∀ n, in64 n → okI (dI n) = true := fun n h => decide_eq_true h
  unfold Alter.J
  simp only [Alter.cells, List.all_append, List.all_cons, List.all_nil, Bool.and_true, hI _ w.at_, hI _ w.sum]
theorem Fact_J {w0 : Fact} (w : w0.ok) : w0.J := by
  have hI : ∀ n, in64 n → okI (dI n) = true := fun n h => decide_eq_true h
  unfold Fact.J
  simp only [Fact.cells, List.all_append, List.all_cons, List.all_nil, Bool.and_true, hI _ w.kind, hI _ w.at_, hI _ w.n]
theorem Bill_J {w0 : Bill} (w : w0.ok) : w0.J := by
  have hI : ∀ n, in64 n → okI (dI n) = true := fun n h => decide_eq_true h
  unfold Bill.J
  simp only [Bill.cells, Tenor.cells, List.all_append, List.all_cons, List.all_nil, Bool.and_true, hI _ w.drawer, hI _ w.drawee, hI _ w.payee, hI _ w.sum, hI _ w.currency, hI _ w.tenor.kind, hI _ w.tenor.n, hI _ w.tenor.unit, hI _ w.day, hI _ w.city, hI _ w.pay, hI _ w.need, hI _ w.rate, hI _ w.flags, hI _ w.parts]
theorem file_J {f : File} (w : f.ok) : f.J := ⟨Bill_J w.bill, fun x h => Sign_J (w.signs x h), fun x h => Alter_J (w.alters x h), fun x h => ActX_J (w.acts x h), fun x h => Fact_J (w.facts x h)⟩

theorem allongelaw50_ReportWhole_law_fn (hlaw : ∀ (a0 : Realm) (a1 : File) (a2 : Int) (a3 : Int) (a4 : Int), a1.J → allongelaw50_ReportWhole a0 a1 a2 a3 a4 = true) (dss : List (List D)) (h : HasAll TT [56, 62, 3, 3, 3] dss) : FnA Tryz.prog 4 (argAVs TT [56, 62, 3, 3, 3] dss) [] (.d (.v (.bool true))) [] := by
  obtain ⟨d0, d1, d2, d3, d4, rfl⟩ : ∃ d0 d1 d2 d3 d4, dss = [d0, d1, d2, d3, d4] := by
    match dss, h with
    | [d0, d1, d2, d3, d4], _ => exact ⟨d0, d1, d2, d3, d4, rfl⟩
  obtain ⟨h0, h1, h2, h3, h4, -⟩ := h
  obtain ⟨x0, y0, w0⟩ := Realm.of h0
  obtain ⟨x1, y1, w1⟩ := File.of h1
  obtain ⟨x2, rfl, w2⟩ := h2.int_inv rfl rfl
  obtain ⟨x3, rfl, w3⟩ := h3.int_inv rfl rfl
  obtain ⟨x4, rfl, w4⟩ := h4.int_inv rfl rfl
  have hf := allongelaw50_ReportWhole_fn x0 x1 x2 x3 x4 (file_J w1)
  rw [hlaw x0 x1 x2 x3 x4 (file_J w1)] at hf
  exact FnA.argLe hf ⟨AvLe.d y0.agg, AvLe.d y1.agg, AvLe.rfl', AvLe.rfl', AvLe.rfl', trivial⟩
end Go.Proofs.YtihmmpaalpghbaaGreatDoor

