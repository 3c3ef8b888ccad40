/- Functions, as sketches. -/
import Derived.Test.YtihmmpaalpghbaaGreatDoorRxT
namespace Go.Proofs.YtihmmpaalpghbaaGreatDoor
open Go Go.Av
set_option linter.unusedSimpArgs false
set_option linter.unusedVariables false
set_option maxHeartbeats 1000000
set_option maxRecDepth 100000
structure City where
  name : ByteArray
  order : Int
  currency : Int
  rest : List Int
  feasts : List Int
  shut : List Int
  deriving Inhabited
def City.cells (c : City) : List D := [.v (.string c.name), dI c.order, dI c.currency, slD intC c.rest, slD intC c.feasts, slD intC c.shut]
structure GroupX where
  grade : Int
  deriving Inhabited
def GroupX.cells (c : GroupX) : List D := [dI c.grade]
structure Firm where
  name : ByteArray
  city : Int
  group : Int
  deriving Inhabited
def Firm.cells (c : Firm) : List D := [.v (.string c.name), dI c.city, dI c.group]
structure Choice where
  ask : Int
  by_ : Int
  whole : Bool
  deriving Inhabited
def Choice.cells (c : Choice) : List D := [dI c.ask, dI c.by_, dB c.whole]
structure Term where
  op : Int
  n : Int
  args : List Term
instance : Inhabited Term := ⟨⟨default, default, default⟩⟩
mutual
def Term.argsR : Term → D
  | ⟨_, _, args⟩ => .sl args.length (Term.cellsF args)
def Term.cellsF : List Term → Nat → List D
  | [], _ => []
  | x :: _, 0 => [dI x.op, dI x.n, Term.argsR x]
  | _ :: r, i + 1 => Term.cellsF r i
end
def Term.cellsR (x : Term) : List D := [dI x.op, dI x.n, Term.argsR x]
theorem Term.cellsF_at : ∀ (l : List Term) (i : Nat), i < l.length → Term.cellsF l i = (l.getD i default).cellsR
  | [], i, h => absurd h (by simp)
  | x :: r, 0, _ => by simp [Term.cellsF, Term.cellsR]
  | x :: r, i + 1, h => by simpa [Term.cellsF] using Term.cellsF_at r i (by simpa using h)
def Term.cells (c : Term) : List D := [dI c.op, dI c.n, slD Term.cellsR c.args]
theorem Term.argsR_le (c : Term) : DLe (Term.argsR c) (slD Term.cellsR c.args) ∧ DLe (slD Term.cellsR c.args) (Term.argsR c) := by
  obtain ⟨op, n, args⟩ := c
  unfold Term.argsR
  exact ⟨DLe.sl rfl (fun i hi => Term.cellsF_at args i hi), DLe.sl rfl (fun i hi => (Term.cellsF_at args i hi).symm)⟩
theorem Term.unroll (c : Term) : CsLe c.cellsR c.cells := .cons .rfl' (.cons .rfl' (.cons ((Term.argsR_le c).1) (.nil)))
mutual
def Term.depth : Term → Nat
  | ⟨_, _, args⟩ => Term.depthL args + 1
def Term.depthL : List Term → Nat
  | [] => 0
  | x :: r => max x.depth (Term.depthL r)
end
structure Rule where
  ask : Int
  term : Term
  deriving Inhabited
def Rule.cells (c : Rule) : List D := [dI c.ask] ++ c.term.cells
structure Order where
  name : ByteArray
  accepts : Bool
  choices : List Choice
  rules : List Rule
  deriving Inhabited
def Order.cells (c : Order) : List D := [.v (.string c.name), dB c.accepts, slD Choice.cells c.choices, slD Rule.cells c.rules]
structure Usance where
  from_ : Int
  to_ : Int
  days : Int
  deriving Inhabited
def Usance.cells (c : Usance) : List D := [dI c.from_, dI c.to_, dI c.days]
def Usance.E : Enc Usance := ⟨Usance.cells, 3, fun _ => rfl, fun _ => rfl⟩
structure RateX where
  from_ : Int
  to_ : Int
  num : Int
  den : Int
  since : Int
  deriving Inhabited
def RateX.cells (c : RateX) : List D := [dI c.from_, dI c.to_, dI c.num, dI c.den, dI c.since]
structure Halt where
  order : Int
  from_ : Int
  to_ : Int
  deriving Inhabited
def Halt.cells (c : Halt) : List D := [dI c.order, dI c.from_, dI c.to_]
structure Realm where
  currencies : List ByteArray
  cities : List City
  groups : List GroupX
  firms : List Firm
  orders : List Order
  usances : List Usance
  rates : List RateX
  halts : List Halt
  deriving Inhabited
def Realm.cells (c : Realm) : List D := [slD strC c.currencies, slD City.cells c.cities, slD GroupX.cells c.groups, slD Firm.cells c.firms, slD Order.cells c.orders, slD Usance.cells c.usances, slD RateX.cells c.rates, slD Halt.cells c.halts]
def Realm.Small (r : Realm) : Prop := r.currencies.length ≤ 1000000 ∧ r.cities.length ≤ 1000000 ∧ r.groups.length ≤ 1000000 ∧ r.firms.length ≤ 1000000 ∧ r.orders.length ≤ 1000000 ∧ r.usances.length ≤ 1000000 ∧ r.rates.length ≤ 1000000 ∧ r.halts.length ≤ 1000000 ∧
  ∀ i, i < r.orders.length → (r.orders.getD i default).choices.length ≤ 1000000 ∧ (r.orders.getD i default).rules.length ≤ 1000000
/-- halts end -/
def Realm.HaltOK (r : Realm) : Prop := ∀ i, i < r.halts.length → (r.halts.getD i default).to_ ≤ 100000
structure Tenor where
  kind : Int
  n : Int
  unit : Int
  deriving Inhabited
def Tenor.cells (c : Tenor) : List D := [dI c.kind, dI c.n, dI c.unit]
structure Bill where
  drawer : Int
  drawee : Int
  payee : Int
  sum : Int
  currency : Int
  tenor : Tenor
  day : Int
  city : Int
  pay : Int
  need : Int
  rate : Int
  flags : Int
  parts : Int
  deriving Inhabited
def Bill.cells (c : Bill) : List D := [dI c.drawer, dI c.drawee, dI c.payee, dI c.sum, dI c.currency] ++ c.tenor.cells ++ [dI c.day, dI c.city, dI c.pay, dI c.need, dI c.rate, dI c.flags, dI c.parts]
structure Sign where
  kind : Int
  part : Int
  who : Int
  for_ : Int
  to_ : Int
  sum : Int
  day : Int
  city : Int
  flags : Int
  deriving Inhabited
def Sign.cells (c : Sign) : List D := [dI c.kind, dI c.part, dI c.who, dI c.for_, dI c.to_, dI c.sum, dI c.day, dI c.city, dI c.flags]
def Sign.E : Enc Sign := ⟨Sign.cells, 9, fun _ => rfl, fun _ => rfl⟩
structure Alter where
  at_ : Int
  sum : Int
  deriving Inhabited
def Alter.cells (c : Alter) : List D := [dI c.at_, dI c.sum]
def Alter.E : Enc Alter := ⟨Alter.cells, 2, fun _ => rfl, fun _ => rfl⟩
structure ActX where
  kind : Int
  who : Int
  to_ : Int
  part : Int
  at_ : Int
  sum : Int
  day : Int
  city : Int
  form : Int
  deriving Inhabited
def ActX.cells (c : ActX) : List D := [dI c.kind, dI c.who, dI c.to_, dI c.part, dI c.at_, dI c.sum, dI c.day, dI c.city, dI c.form]
def ActX.E : Enc ActX := ⟨ActX.cells, 9, fun _ => rfl, fun _ => rfl⟩
structure Fact where
  kind : Int
  at_ : Int
  n : Int
  deriving Inhabited
def Fact.cells (c : Fact) : List D := [dI c.kind, dI c.at_, dI c.n]
def Fact.E : Enc Fact := ⟨Fact.cells, 3, fun _ => rfl, fun _ => rfl⟩
structure File where
  bill : Bill
  signs : List Sign
  alters : List Alter
  acts : List ActX
  facts : List Fact
  deriving Inhabited
def File.cells (c : File) : List D := c.bill.cells ++ [slD Sign.cells c.signs, slD Alter.cells c.alters, slD ActX.cells c.acts, slD Fact.cells c.facts]
/-- lists of a length that memory bears -/
def File.Small (f : File) : Prop := f.signs.length ≤ 1000000 ∧ f.alters.length ≤ 1000000 ∧ f.acts.length ≤ 1000000 ∧ f.facts.length ≤ 1000000
/-- sums of money -/
abbrev SumP (n : Int) : Prop := 0 ≤ n ∧ n ≤ 1099511627776
/-- a signature that fits -/
def FitOK (f : File) (q : Nat) : Prop := SumP (f.signs.getD q default).sum ∧ (0 ≤ (f.signs.getD q default).kind ∧ (f.signs.getD q default).kind ≤ 4) ∧ ((f.signs.getD q default).kind = 0 ↔ q = 0) ∧ ((f.signs.getD q default).kind = 3 ∨ (f.signs.getD q default).kind = 4 → 0 ≤ (f.signs.getD q default).for_ ∧ (f.signs.getD q default).for_ < (q : Int))
def SgnOK (r : Realm) (f : File) (q : Nat) : Prop := (0 ≤ (f.signs.getD q default).who ∧ (f.signs.getD q default).who < r.firms.length) ∧ (q ≠ 0 → (f.signs.getD (q - 1) default).day ≤ (f.signs.getD q default).day) ∧ (f.signs.getD q default).day ≤ 100000 ∧ (q = 0 → (f.signs.getD q default).day = f.bill.day) ∧ (0 ≤ (f.signs.getD q default).part ∧ (f.signs.getD q default).part ≤ f.bill.parts - 1) ∧ FitOK f q
def DoneOK (f : File) (q : Nat) : Prop := SumP (f.acts.getD q default).sum ∧ (f.bill.day ≤ (f.acts.getD q default).day ∧ (f.acts.getD q default).day ≤ 100000) ∧ (q ≠ 0 → (f.acts.getD (q - 1) default).day ≤ (f.acts.getD q default).day) ∧ ((f.acts.getD q default).kind = 6 → (0 ≤ (f.acts.getD q default).at_ ∧ (f.acts.getD q default).at_ < f.signs.length) ∧ (f.signs.getD (f.acts.getD q default).at_.toNat default).day ≤ (f.acts.getD q default).day ∧ (f.signs.getD (f.acts.getD q default).at_.toNat default).who = (f.acts.getD q default).who)
def BillR (r : Realm) (b : Bill) : Prop := (1 ≤ b.sum ∧ b.sum ≤ 1099511627776) ∧ (0 ≤ b.pay ∧ b.pay < r.cities.length) ∧ (0 ≤ b.day ∧ b.day ≤ 100000) ∧ (1 ≤ b.parts ∧ b.parts ≤ 4) ∧ (0 ≤ b.currency ∧ b.currency < r.currencies.length)
/-- a right file -/
def RightF (r : Realm) (f : File) : Prop := BillR r f.bill ∧ (f.signs.length ≤ 40 ∧ f.signs.length ≠ 0 ∧ f.alters.length ≤ 4 ∧ f.acts.length ≤ 100 ∧ f.facts.length ≤ 200) ∧ (∀ q, q < f.signs.length → SgnOK r f q) ∧ (∀ q, q < f.alters.length → SumP (f.alters.getD q default).sum) ∧ ∀ q, q < f.acts.length → DoneOK f q
/-- an endorsement is to a firm, or to nobody; and so is the bill payable -/
def ToQ (r : Realm) (f : File) (q : Nat) : Prop := (f.signs.getD q default).to_ = -1 ∨ (0 ≤ (f.signs.getD q default).to_ ∧ (f.signs.getD q default).to_ < r.firms.length)
def ToF (r : Realm) (f : File) : Prop := (f.bill.payee = -1 ∨ (0 ≤ f.bill.payee ∧ f.bill.payee < r.firms.length)) ∧ ∀ q, q < f.signs.length → ToQ r f q
structure Body where
  kind : Int
  bill : Int
  index : Int
  paper : Bill
  sign : Sign
  act : ActX
  alter : Alter
  fact : Fact
  deriving Inhabited
def Body.cells (c : Body) : List D := [dI c.kind, dI c.bill, dI c.index] ++ c.paper.cells ++ c.sign.cells ++ c.act.cells ++ c.alter.cells ++ c.fact.cells
def Body.E : Enc Body := ⟨Body.cells, 41, fun _ => rfl, fun _ => rfl⟩
structure Report where
  reporter : Int
  no : Int
  day : Int
  body : Body
  deriving Inhabited
def Report.cells (c : Report) : List D := [dI c.reporter, dI c.no, dI c.day] ++ c.body.cells
def Report.E : Enc Report := ⟨Report.cells, 44, fun _ => rfl, fun _ => rfl⟩
/-- an int64 -/
abbrev in64w (n : Int) : Prop := -9223372036854775808 ≤ n ∧ n ≤ 9223372036854775807
def okI : D → Bool
  | .v (.int .i64 n) => decide (in64w n)
  | _ => false
/-- all of a body's numbers, or a report's, are int64 -/
def Body.I64 (b : Body) : Prop := b.cells.all okI = true
def Report.I64 (x : Report) : Prop := x.cells.all okI = true
theorem okI_dI (n : Int) : okI (dI n) = decide (in64w n) := rfl
theorem Report.I64.parts {x : Report} (h : x.I64) : in64w x.reporter ∧ in64w x.no ∧ in64w x.day ∧ x.body.I64 := by
  unfold Report.I64 Report.cells at h
  rw [List.all_append, Bool.and_eq_true] at h
  obtain ⟨h1, h2⟩ := h
  simp only [List.all_cons, List.all_nil, okI_dI, Bool.and_eq_true, decide_eq_true_eq, Bool.and_true] at h1
  exact ⟨h1.1, h1.2.1, h1.2.2, h2⟩
theorem Body.I64.parts {b : Body} (h : b.I64) : in64w b.kind ∧ in64w b.bill ∧ in64w b.index ∧ b.paper.cells.all okI = true ∧ b.sign.cells.all okI = true ∧ b.act.cells.all okI = true ∧ b.alter.cells.all okI = true ∧ b.fact.cells.all okI = true := by
  unfold Body.I64 Body.cells at h
  simp only [List.all_append, List.all_cons, List.all_nil, okI_dI, Bool.and_eq_true, decide_eq_true_eq, Bool.and_true] at h
  simpa only [and_assoc] using h

noncomputable def allongelaw50_fact_sk (reporter : Int) (no : Int) (n : Int) : Sk (Report) :=
 .fin ({ reporter := reporter, no := no, day := 5, body := ({ kind := 4, bill := 3, index := 0, paper := ({ drawer := 0, drawee := 0, payee := 0, sum := 0, currency := 0, tenor := ({ kind := 0, n := 0, unit := 0 } : Tenor), day := 0, city := 0, pay := 0, need := 0, rate := 0, flags := 0, parts := 0 } : Bill), sign := ({ kind := 0, part := 0, who := 0, for_ := 0, to_ := 0, sum := 0, day := 0, city := 0, flags := 0 } : Sign), act := ({ kind := 0, who := 0, to_ := 0, part := 0, at_ := 0, sum := 0, day := 0, city := 0, form := 0 } : ActX), alter := ({ at_ := 0, sum := 0 } : Alter), fact := ({ kind := 0, at_ := 1, n := n } : Fact) } : Body) } : Report)
noncomputable def allongelaw50_fact reporter no n := (allongelaw50_fact_sk reporter no n).val
theorem allongelaw50_fact_eq (reporter : Int) (no : Int) (n : Int) : allongelaw50_fact reporter no n = ({ reporter := reporter, no := no, day := 5, body := ({ kind := 4, bill := 3, index := 0, paper := ({ drawer := 0, drawee := 0, payee := 0, sum := 0, currency := 0, tenor := ({ kind := 0, n := 0, unit := 0 } : Tenor), day := 0, city := 0, pay := 0, need := 0, rate := 0, flags := 0, parts := 0 } : Bill), sign := ({ kind := 0, part := 0, who := 0, for_ := 0, to_ := 0, sum := 0, day := 0, city := 0, flags := 0 } : Sign), act := ({ kind := 0, who := 0, to_ := 0, part := 0, at_ := 0, sum := 0, day := 0, city := 0, form := 0 } : ActX), alter := ({ at_ := 0, sum := 0 } : Alter), fact := ({ kind := 0, at_ := 1, n := n } : Fact) } : Body) } : Report) := rfl
theorem allongelaw50_fact_ok (reporter : Int) (no : Int) (n : Int) : (allongelaw50_fact_sk reporter no n).obs (fun _ => True) := by
  unfold allongelaw50_fact_sk
  exact okE

noncomputable def allongelaw50_fact_k reporter no n := kk tok mixed Tryz.func39 [iv reporter, iv no, iv n] (fun x => av x.cells) true (allongelaw50_fact_sk reporter no n) (allongelaw50_fact reporter no n) (u0 (allongelaw50_fact_ok reporter no n))
structure Arrival where
  registry : Int
  day : Int
  report : Report
  deriving Inhabited
def Arrival.cells (c : Arrival) : List D := [dI c.registry, dI c.day] ++ c.report.cells
def Arrival.E : Enc Arrival := ⟨Arrival.cells, 46, fun _ => rfl, fun _ => rfl⟩
noncomputable def allongelaw50_at_sk (registry : Int) (day : Int) (x_ : Report) : Sk (Arrival) :=
 .fin ({ registry := registry, day := day, report := x_ } : Arrival)
noncomputable def allongelaw50_at registry day x_ := (allongelaw50_at_sk registry day x_).val
theorem allongelaw50_at_ok (registry : Int) (day : Int) (x_ : Report) : (allongelaw50_at_sk registry day x_).obs (fun _ => True) := by
  unfold allongelaw50_at_sk
  exact okE

noncomputable def allongelaw50_at_k registry day x_ := kk tok mixed Tryz.func16 [iv registry, iv day, av x_.cells] (fun x => av x.cells) true (allongelaw50_at_sk registry day x_) (allongelaw50_at registry day x_) (u0 (allongelaw50_at_ok registry day x_))
noncomputable def report_within_sk (i : Int) (n : Int) : Sk (Bool) :=
 .fin ((decide (i ≥ 0)) && (decide (i < n)))
noncomputable def report_within i n := (report_within_sk i n).val
theorem report_within_eq (i : Int) (n : Int) : report_within i n = ((decide (i ≥ 0)) && (decide (i < n))) := rfl
theorem report_within_ok (i : Int) (n : Int) : (report_within_sk i n).obs (fun _ => True) := by
  unfold report_within_sk
  exact okE

noncomputable def report_within_k i n := kk tok mixed Tryz.func41 [iv i, iv n] (fun x => bv x) true (report_within_sk i n) (report_within i n) (u0 (report_within_ok i n))
/-- the numbers of a body -/
def numL (b : Body) : List Int :=
  bif b.kind == 0 then [b.paper.drawer, b.paper.drawee, b.paper.payee, b.paper.sum, b.paper.currency, b.paper.tenor.kind, b.paper.tenor.n, b.paper.tenor.unit, b.paper.day, b.paper.city, b.paper.pay, b.paper.need, b.paper.rate, b.paper.flags, b.paper.parts, b.sign.flags]
  else bif b.kind == 1 then [b.sign.kind, b.sign.part, b.sign.who, b.sign.for_, b.sign.to_, b.sign.sum, b.sign.day, b.sign.city, b.sign.flags]
  else bif b.kind == 2 then [b.act.kind, b.act.who, b.act.to_, b.act.part, b.act.at_, b.act.sum, b.act.day, b.act.city, b.act.form]
  else bif b.kind == 3 then [b.alter.at_, b.alter.sum]
  else [b.fact.kind, b.fact.at_, b.fact.n]
theorem numL_len (b : Body) : (numL b).length ≤ 16 := by
  unfold numL
  cases b.kind == 0 <;> cases b.kind == 1 <;> cases b.kind == 2 <;> cases b.kind == 3 <;> simp
theorem numL_I64 {b : Body} (h : b.I64) : ∀ n ∈ numL b, in64w n := by
  obtain ⟨-, -, -, h1, h2, h3, h4, h5⟩ := h.parts
  have key : ((numL b).map dI).all okI = true := by
    unfold numL
    cases b.kind == 0 with
    | true =>
      show (Bill.cells b.paper ++ [dI b.sign.flags]).all okI = true
      rw [List.all_append, h1]
      have := (List.all_eq_true.1 h2) (dI b.sign.flags) (by simp [Sign.cells])
      simp only [List.all_cons, List.all_nil, this, Bool.and_self]
    | false =>
      cases b.kind == 1 with
      | true => exact h2
      | false =>
        cases b.kind == 2 with
        | true => exact h3
        | false =>
          cases b.kind == 3 with
          | true => exact h4
          | false => exact h5
  intro n hn
  have := (List.all_eq_true.1 key) (dI n) (List.mem_map.2 ⟨n, hn, rfl⟩)
  rw [okI_dI, decide_eq_true_eq] at this
  exact this

noncomputable def report_numbers_sk (b : Body) : Sk ((List Int)) :=
 .br (b.kind == 0)
 (.r 4 (.o [.nrm (litC intE [b.paper.drawer, b.paper.drawee, b.paper.payee, b.paper.sum, b.paper.currency, b.paper.tenor.kind, b.paper.tenor.n, b.paper.tenor.unit, b.paper.day, b.paper.city, b.paper.pay, b.paper.need, b.paper.rate, b.paper.flags, b.paper.parts, b.sign.flags])]) fun _ =>
 .fin [b.paper.drawer, b.paper.drawee, b.paper.payee, b.paper.sum, b.paper.currency, b.paper.tenor.kind, b.paper.tenor.n, b.paper.tenor.unit, b.paper.day, b.paper.city, b.paper.pay, b.paper.need, b.paper.rate, b.paper.flags, b.paper.parts, b.sign.flags])
 (.br (b.kind == 1)
 (.r 6 (.o [.nrm (litC intE [b.sign.kind, b.sign.part, b.sign.who, b.sign.for_, b.sign.to_, b.sign.sum, b.sign.day, b.sign.city, b.sign.flags])]) fun _ =>
 .fin [b.sign.kind, b.sign.part, b.sign.who, b.sign.for_, b.sign.to_, b.sign.sum, b.sign.day, b.sign.city, b.sign.flags])
 (.br (b.kind == 2)
 (.r 8 (.o [.nrm (litC intE [b.act.kind, b.act.who, b.act.to_, b.act.part, b.act.at_, b.act.sum, b.act.day, b.act.city, b.act.form])]) fun _ =>
 .fin [b.act.kind, b.act.who, b.act.to_, b.act.part, b.act.at_, b.act.sum, b.act.day, b.act.city, b.act.form])
 (.br (b.kind == 3)
 (.r 10 (.o [.nrm (litC intE [b.alter.at_, b.alter.sum])]) fun _ =>
 .fin [b.alter.at_, b.alter.sum])
 (.r 11 (.o [.nrm (litC intE [b.fact.kind, b.fact.at_, b.fact.n])]) fun _ =>
 .fin [b.fact.kind, b.fact.at_, b.fact.n]))))
noncomputable def report_numbers b := (report_numbers_sk b).val
theorem report_numbers_pst (b : Body) : (report_numbers_sk b).pst (fun (x : (List Int)) => x = numL b) := by
  unfold report_numbers_sk
  refine ⟨fun h0 _ _ _ => ?_, fun h0 => ⟨fun h1 _ _ _ => ?_, fun h1 => ⟨fun h2 _ _ _ => ?_, fun h2 => ⟨fun h3 _ _ _ => ?_, fun h3 _ _ _ => ?_⟩⟩⟩⟩
  · show _ = numL b
    unfold numL
    rw [h0]
    rfl
  · show _ = numL b
    unfold numL
    rw [h0, h1]
    rfl
  · show _ = numL b
    unfold numL
    rw [h0, h1, h2]
    rfl
  · show _ = numL b
    unfold numL
    rw [h0, h1, h2, h3]
    rfl
  · show _ = numL b
    unfold numL
    rw [h0, h1, h2, h3]
    rfl

theorem report_numbers_post (b : Body) : (fun (x : (List Int)) => x = numL b) (report_numbers b) := have h := Sk.pval _ (report_numbers_pst b); h
theorem report_numbers_ok (b : Body) : (report_numbers_sk b).obs (fun _ => True) := by
  unfold report_numbers_sk
  exact okE

noncomputable def report_numbers_k b := kp tok mixed Tryz.func42 [av b.cells] (fun x => lv intC x) false (report_numbers b) (u0 (report_numbers_ok b)) (report_numbers_pst b)
noncomputable def report_body_sk (kind : Int) (bill : Int) (index : Int) (l : List Int) : Sk (Body × Bool) :=
 .r 2 (.wh ((decide (kind < 0)) || (decide (kind ≥ 5))) false ((report_numbers_k ({ kind := kind, bill := bill, index := index, paper := ({ drawer := 0, drawee := 0, payee := 0, sum := 0, currency := 0, tenor := ({ kind := 0, n := 0, unit := 0 } : Tenor), day := 0, city := 0, pay := 0, need := 0, rate := 0, flags := 0, parts := 0 } : Bill), sign := ({ kind := 0, part := 0, who := 0, for_ := 0, to_ := 0, sum := 0, day := 0, city := 0, flags := 0 } : Sign), act := ({ kind := 0, who := 0, to_ := 0, part := 0, at_ := 0, sum := 0, day := 0, city := 0, form := 0 } : ActX), alter := ({ at_ := 0, sum := 0 } : Alter), fact := ({ kind := 0, at_ := 0, n := 0 } : Fact) } : Body)).c)) fun x1 =>
 .br (((decide (kind < 0)) || (decide (kind ≥ 5))) || (((l.length : Nat) : Int) != ((x1.length : Nat) : Int)))
 (.fin (({ kind := 0, bill := 0, index := 0, paper := ({ drawer := 0, drawee := 0, payee := 0, sum := 0, currency := 0, tenor := ({ kind := 0, n := 0, unit := 0 } : Tenor), day := 0, city := 0, pay := 0, need := 0, rate := 0, flags := 0, parts := 0 } : Bill), sign := ({ kind := 0, part := 0, who := 0, for_ := 0, to_ := 0, sum := 0, day := 0, city := 0, flags := 0 } : Sign), act := ({ kind := 0, who := 0, to_ := 0, part := 0, at_ := 0, sum := 0, day := 0, city := 0, form := 0 } : ActX), alter := ({ at_ := 0, sum := 0 } : Alter), fact := ({ kind := 0, at_ := 0, n := 0 } : Fact) } : Body), false))
 (.br (kind == 0)
 (.r 7 (.andl (.p (ixP (0 : Int) l.length)) (.andl (.p (ixP (1 : Int) l.length)) (.andl (.p (ixP (2 : Int) l.length)) (.andl (.p (ixP (3 : Int) l.length)) (.andl (.p (ixP (4 : Int) l.length)) (.andl (.p (ixP (5 : Int) l.length)) (.andl (.p (ixP (6 : Int) l.length)) (.andl (.p (ixP (7 : Int) l.length)) (.andl (.p (ixP (8 : Int) l.length)) (.andl (.p (ixP (9 : Int) l.length)) (.andl (.p (ixP (10 : Int) l.length)) (.andl (.p (ixP (11 : Int) l.length)) (.andl (.p (ixP (12 : Int) l.length)) (.andl (.p (ixP (13 : Int) l.length)) (.p (ixP (14 : Int) l.length)))))))))))))))) fun _ =>
 .r 8 (.p (ixP (15 : Int) l.length)) fun _ =>
 .fin (({ kind := kind, bill := bill, index := index, paper := ({ drawer := l.getD 0 default, drawee := l.getD 1 default, payee := l.getD 2 default, sum := l.getD 3 default, currency := l.getD 4 default, tenor := ({ kind := l.getD 5 default, n := l.getD 6 default, unit := l.getD 7 default } : Tenor), day := l.getD 8 default, city := l.getD 9 default, pay := l.getD 10 default, need := l.getD 11 default, rate := l.getD 12 default, flags := l.getD 13 default, parts := l.getD 14 default } : Bill), sign := ({ kind := 0, part := 0, who := 0, for_ := 0, to_ := 0, sum := 0, day := 0, city := 0, flags := l.getD 15 default } : Sign), act := ({ kind := 0, who := 0, to_ := 0, part := 0, at_ := 0, sum := 0, day := 0, city := 0, form := 0 } : ActX), alter := ({ at_ := 0, sum := 0 } : Alter), fact := ({ kind := 0, at_ := 0, n := 0 } : Fact) } : Body), true))
 (.br (kind == 1)
 (.r 10 (.andl (.p (ixP (0 : Int) l.length)) (.andl (.p (ixP (1 : Int) l.length)) (.andl (.p (ixP (2 : Int) l.length)) (.andl (.p (ixP (3 : Int) l.length)) (.andl (.p (ixP (4 : Int) l.length)) (.andl (.p (ixP (5 : Int) l.length)) (.andl (.p (ixP (6 : Int) l.length)) (.andl (.p (ixP (7 : Int) l.length)) (.p (ixP (8 : Int) l.length)))))))))) fun _ =>
 .fin (({ kind := kind, bill := bill, index := index, paper := ({ drawer := 0, drawee := 0, payee := 0, sum := 0, currency := 0, tenor := ({ kind := 0, n := 0, unit := 0 } : Tenor), day := 0, city := 0, pay := 0, need := 0, rate := 0, flags := 0, parts := 0 } : Bill), sign := ({ kind := l.getD 0 default, part := l.getD 1 default, who := l.getD 2 default, for_ := l.getD 3 default, to_ := l.getD 4 default, sum := l.getD 5 default, day := l.getD 6 default, city := l.getD 7 default, flags := l.getD 8 default } : Sign), act := ({ kind := 0, who := 0, to_ := 0, part := 0, at_ := 0, sum := 0, day := 0, city := 0, form := 0 } : ActX), alter := ({ at_ := 0, sum := 0 } : Alter), fact := ({ kind := 0, at_ := 0, n := 0 } : Fact) } : Body), true))
 (.br (kind == 2)
 (.r 12 (.andl (.p (ixP (0 : Int) l.length)) (.andl (.p (ixP (1 : Int) l.length)) (.andl (.p (ixP (2 : Int) l.length)) (.andl (.p (ixP (3 : Int) l.length)) (.andl (.p (ixP (4 : Int) l.length)) (.andl (.p (ixP (5 : Int) l.length)) (.andl (.p (ixP (6 : Int) l.length)) (.andl (.p (ixP (7 : Int) l.length)) (.p (ixP (8 : Int) l.length)))))))))) fun _ =>
 .fin (({ kind := kind, bill := bill, index := index, paper := ({ drawer := 0, drawee := 0, payee := 0, sum := 0, currency := 0, tenor := ({ kind := 0, n := 0, unit := 0 } : Tenor), day := 0, city := 0, pay := 0, need := 0, rate := 0, flags := 0, parts := 0 } : Bill), sign := ({ kind := 0, part := 0, who := 0, for_ := 0, to_ := 0, sum := 0, day := 0, city := 0, flags := 0 } : Sign), act := ({ kind := l.getD 0 default, who := l.getD 1 default, to_ := l.getD 2 default, part := l.getD 3 default, at_ := l.getD 4 default, sum := l.getD 5 default, day := l.getD 6 default, city := l.getD 7 default, form := l.getD 8 default } : ActX), alter := ({ at_ := 0, sum := 0 } : Alter), fact := ({ kind := 0, at_ := 0, n := 0 } : Fact) } : Body), true))
 (.br (kind == 3)
 (.r 14 (.andl (.p (ixP (0 : Int) l.length)) (.p (ixP (1 : Int) l.length))) fun _ =>
 .fin (({ kind := kind, bill := bill, index := index, paper := ({ drawer := 0, drawee := 0, payee := 0, sum := 0, currency := 0, tenor := ({ kind := 0, n := 0, unit := 0 } : Tenor), day := 0, city := 0, pay := 0, need := 0, rate := 0, flags := 0, parts := 0 } : Bill), sign := ({ kind := 0, part := 0, who := 0, for_ := 0, to_ := 0, sum := 0, day := 0, city := 0, flags := 0 } : Sign), act := ({ kind := 0, who := 0, to_ := 0, part := 0, at_ := 0, sum := 0, day := 0, city := 0, form := 0 } : ActX), alter := ({ at_ := l.getD 0 default, sum := l.getD 1 default } : Alter), fact := ({ kind := 0, at_ := 0, n := 0 } : Fact) } : Body), true))
 (.r 5 (.andl (.p (ixP (0 : Int) l.length)) (.andl (.p (ixP (1 : Int) l.length)) (.p (ixP (2 : Int) l.length)))) fun _ =>
 .fin (({ kind := kind, bill := bill, index := index, paper := ({ drawer := 0, drawee := 0, payee := 0, sum := 0, currency := 0, tenor := ({ kind := 0, n := 0, unit := 0 } : Tenor), day := 0, city := 0, pay := 0, need := 0, rate := 0, flags := 0, parts := 0 } : Bill), sign := ({ kind := 0, part := 0, who := 0, for_ := 0, to_ := 0, sum := 0, day := 0, city := 0, flags := 0 } : Sign), act := ({ kind := 0, who := 0, to_ := 0, part := 0, at_ := 0, sum := 0, day := 0, city := 0, form := 0 } : ActX), alter := ({ at_ := 0, sum := 0 } : Alter), fact := ({ kind := l.getD 0 default, at_ := l.getD 1 default, n := l.getD 2 default } : Fact) } : Body), true))))))
noncomputable def report_body kind bill index l := (report_body_sk kind bill index l).val
theorem report_body_ok (kind : Int) (bill : Int) (index : Int) (l : List Int) : (report_body_sk kind bill index l).obs (fun _ => True) := by
  refine Sk.obs_of _ ?_
  unfold report_body_sk
  simp only [Sk.obq, Sk.isLoop, reduceCtorEq, leafB, leafJ, Cal.z, Cal.p, Cal.t, Cal.pt, Cal.o, Cal.and, Cal.andl, Cal.andr, Cal.wh, Cal.dep, Cal.depr, Ctr.c, kk, kp, report_numbers_k, maxLen, implies_true, true_and, and_true, and_self, true_implies, false_implies, ixP, szP, forall_eq]
  intro hx hc
  rw [hx] at hc
  simp only [Bool.or_eq_false_iff, decide_eq_false_iff_not, bne_eq_false_iff_eq] at hc
  obtain ⟨⟨hk0, hk1⟩, hl⟩ := hc
  unfold numL at hl
  dsimp only at hl
  refine ⟨fun h0 => ?_, fun h0 => ⟨fun h1 => ?_, fun h1 => ⟨fun h2 => ?_, fun h2 => ⟨fun h3 => ?_, fun h3 => ?_⟩⟩⟩⟩
  · simp only [h0, cond_true, List.length_cons, List.length_nil] at hl
    exact ⟨by omega, fun _ => by omega⟩
  · simp only [h0, h1, cond_true, cond_false, List.length_cons, List.length_nil] at hl
    omega
  · simp only [h0, h1, h2, cond_true, cond_false, List.length_cons, List.length_nil] at hl
    omega
  · simp only [h0, h1, h2, h3, cond_true, cond_false, List.length_cons, List.length_nil] at hl
    omega
  · simp only [h0, h1, h2, h3, cond_false, List.length_cons, List.length_nil] at hl
    omega

noncomputable def report_body_k kind bill index l := kk tok mixed Tryz.func40 [iv kind, iv bill, iv index, lv intC l] (fun x => .tup [av x.1.cells, bv x.2]) true (report_body_sk kind bill index l) (report_body kind bill index l) (u0 (report_body_ok kind bill index l))
noncomputable def report_Right_sk (x_ : Report) : Sk (Bool) :=
 .r 2 (.dep ((report_within_k x_.reporter 200).c) fun x1 => .dep (.wh (!x1) false ((report_within_k x_.no 10000).c)) fun x2 => .dep (.wh ((!x1) || (!x2)) false ((report_within_k x_.day 100001).c)) fun x3 => .dep (.wh (((!x1) || (!x2)) || (!x3)) false ((report_within_k x_.body.kind 5).c)) fun x4 => .wh ((((!x1) || (!x2)) || (!x3)) || (!x4)) false ((report_within_k x_.body.bill 50).c)) fun p11 =>
 .br (((((!p11.1) || (!p11.2.1)) || (!p11.2.2.1)) || (!p11.2.2.2.1)) || (!p11.2.2.2.2))
 (.fin false)
 (.r 4 (.dep ((report_numbers_k x_.body).c) fun x6 => (report_body_k x_.body.kind x_.body.bill x_.body.index x6).c) fun p10 =>
 .br (!(eqCs (Body.cells p10.2.1) (Body.cells x_.body)))
 (.fin false)
 (.br (x_.body.kind == 0)
 (.fin ((x_.body.index == 0) && (x_.body.paper.day == x_.day)))
 (.br (x_.body.kind == 1)
 (.fin (((decide (x_.body.index > 0)) && (decide (x_.body.index < 40))) && (x_.body.sign.day == x_.day)))
 (.br (x_.body.kind == 2)
 (.r 13 ((report_within_k x_.body.index 100).c) fun x8 =>
 .fin (x8 && (x_.body.act.day == x_.day)))
 (.br (x_.body.kind == 3)
 (.r 15 ((report_within_k x_.body.index 4).c) fun x9 =>
 .fin x9)
 (.fin (x_.body.index == 0)))))))
noncomputable def report_Right x_ := (report_Right_sk x_).val
theorem report_Right_ok (x_ : Report) : (report_Right_sk x_).obs (fun _ => True) := by
  unfold report_Right_sk
  try simp only [report_body_k, report_numbers_k, report_within_k, report_within_eq]
  exact okG

noncomputable def report_Right_k x_ := kk tok mixed Tryz.func10 [av x_.cells] (fun x => bv x) true (report_Right_sk x_) (report_Right x_) (u0 (report_Right_ok x_))
end Go.Proofs.YtihmmpaalpghbaaGreatDoor

