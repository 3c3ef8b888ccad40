/- Functions, as sketches. -/
import Derived.Test.YtjaehpinmdpmbaaGreatDoorOlT
namespace Go.Proofs.YtjaehpinmdpmbaaGreatDoor
open Go Go.Av
set_option linter.unusedSimpArgs false
set_option linter.unusedVariables false
set_option maxHeartbeats 1000000
set_option maxRecDepth 100000
structure City where
  name : ByteArray
  order : Int
  currency : Int
  rest : List Int
  feasts : List Int
  shut : List Int
  deriving Inhabited
def City.cells (c : City) : List D := [.v (.string c.name), dI c.order, dI c.currency, slD intC c.rest, slD intC c.feasts, slD intC c.shut]
def City.E : Enc City := ⟨City.cells, 6, fun _ => rfl, fun _ => rfl⟩
structure GroupX where
  grade : Int
  deriving Inhabited
def GroupX.cells (c : GroupX) : List D := [dI c.grade]
def GroupX.E : Enc GroupX := ⟨GroupX.cells, 1, fun _ => rfl, fun _ => rfl⟩
structure Firm where
  name : ByteArray
  city : Int
  group : Int
  deriving Inhabited
def Firm.cells (c : Firm) : List D := [.v (.string c.name), dI c.city, dI c.group]
def Firm.E : Enc Firm := ⟨Firm.cells, 3, fun _ => rfl, fun _ => rfl⟩
structure Choice where
  ask : Int
  by_ : Int
  whole : Bool
  deriving Inhabited
def Choice.cells (c : Choice) : List D := [dI c.ask, dI c.by_, dB c.whole]
def Choice.E : Enc Choice := ⟨Choice.cells, 3, fun _ => rfl, fun _ => rfl⟩
structure Term where
  op : Int
  n : Int
  args : List Term
instance : Inhabited Term := ⟨⟨default, default, default⟩⟩
mutual
def Term.argsR : Term → D
  | ⟨_, _, args⟩ => .sl args.length (Term.cellsF args)
def Term.cellsF : List Term → Nat → List D
  | [], _ => []
  | x :: _, 0 => [dI x.op, dI x.n, Term.argsR x]
  | _ :: r, i + 1 => Term.cellsF r i
end
def Term.cellsR (x : Term) : List D := [dI x.op, dI x.n, Term.argsR x]
theorem Term.cellsF_at : ∀ (l : List Term) (i : Nat), i < l.length → Term.cellsF l i = (l.getD i default).cellsR
  | [], i, h => absurd h (by simp)
  | x :: r, 0, _ => by simp [Term.cellsF, Term.cellsR]
  | x :: r, i + 1, h => by simpa [Term.cellsF] using Term.cellsF_at r i (by simpa using h)
def Term.cells (c : Term) : List D := [dI c.op, dI c.n, slD Term.cellsR c.args]
theorem Term.argsR_le (c : Term) : DLe (Term.argsR c) (slD Term.cellsR c.args) ∧ DLe (slD Term.cellsR c.args) (Term.argsR c) := by
  obtain ⟨op, n, args⟩ := c
  unfold Term.argsR
  exact ⟨DLe.sl rfl (fun i hi => Term.cellsF_at args i hi), DLe.sl rfl (fun i hi => (Term.cellsF_at args i hi).symm)⟩
theorem Term.unroll (c : Term) : CsLe c.cellsR c.cells := .cons .rfl' (.cons .rfl' (.cons ((Term.argsR_le c).1) (.nil)))
def Term.E : Enc Term := ⟨Term.cellsR, 3, fun _ => rfl, fun ⟨_, _, _⟩ => by unfold Term.cellsR; rfl⟩
mutual
def Term.depth : Term → Nat
  | ⟨_, _, args⟩ => Term.depthL args + 1
def Term.depthL : List Term → Nat
  | [] => 0
  | x :: r => max x.depth (Term.depthL r)
end
theorem Term.depthL_at : ∀ (l : List Term) (i : Nat), i < l.length → (l.getD i default).depth ≤ Term.depthL l
  | [], i, h => absurd h (by simp)
  | x :: r, 0, _ => by simp [Term.depthL]; omega
  | x :: r, i + 1, h => by
    have := Term.depthL_at r i (by simpa using h)
    simp [Term.depthL] at this ⊢
    omega
theorem Term.depth_args (c : Term) (i : Nat) (h : i < c.args.length) : (c.args.getD i default).depth < c.depth := by
  obtain ⟨op, n, args⟩ := c
  have := Term.depthL_at args i h
  simp only [Term.depth]
  omega
theorem Term.depth_pos (c : Term) : 0 < c.depth := by
  obtain ⟨op, n, args⟩ := c
  simp only [Term.depth]
  omega
structure Rule where
  ask : Int
  term : Term
  deriving Inhabited
def Rule.cells (c : Rule) : List D := [dI c.ask] ++ c.term.cells
def Rule.E : Enc Rule := ⟨Rule.cells, 4, fun _ => rfl, fun _ => rfl⟩
structure Order where
  name : ByteArray
  accepts : Bool
  choices : List Choice
  rules : List Rule
  deriving Inhabited
def Order.cells (c : Order) : List D := [.v (.string c.name), dB c.accepts, slD Choice.cells c.choices, slD Rule.cells c.rules]
def Order.E : Enc Order := ⟨Order.cells, 4, fun _ => rfl, fun _ => rfl⟩
structure Usance where
  from_ : Int
  to_ : Int
  days : Int
  deriving Inhabited
def Usance.cells (c : Usance) : List D := [dI c.from_, dI c.to_, dI c.days]
def Usance.E : Enc Usance := ⟨Usance.cells, 3, fun _ => rfl, fun _ => rfl⟩
structure RateX where
  from_ : Int
  to_ : Int
  num : Int
  den : Int
  since : Int
  deriving Inhabited
def RateX.cells (c : RateX) : List D := [dI c.from_, dI c.to_, dI c.num, dI c.den, dI c.since]
def RateX.E : Enc RateX := ⟨RateX.cells, 5, fun _ => rfl, fun _ => rfl⟩
structure Halt where
  order : Int
  from_ : Int
  to_ : Int
  deriving Inhabited
def Halt.cells (c : Halt) : List D := [dI c.order, dI c.from_, dI c.to_]
def Halt.E : Enc Halt := ⟨Halt.cells, 3, fun _ => rfl, fun _ => rfl⟩
structure Realm where
  currencies : List ByteArray
  cities : List City
  groups : List GroupX
  firms : List Firm
  orders : List Order
  usances : List Usance
  rates : List RateX
  halts : List Halt
  deriving Inhabited
def Realm.cells (c : Realm) : List D := [slD strC c.currencies, slD City.cells c.cities, slD GroupX.cells c.groups, slD Firm.cells c.firms, slD Order.cells c.orders, slD Usance.cells c.usances, slD RateX.cells c.rates, slD Halt.cells c.halts]
def Realm.E : Enc Realm := ⟨Realm.cells, 8, fun _ => rfl, fun _ => rfl⟩
def Realm.Small (r : Realm) : Prop := r.currencies.length ≤ 1000000 ∧ r.cities.length ≤ 1000000 ∧ r.groups.length ≤ 1000000 ∧ r.firms.length ≤ 1000000 ∧ r.orders.length ≤ 1000000 ∧ r.usances.length ≤ 1000000 ∧ r.rates.length ≤ 1000000 ∧ r.halts.length ≤ 1000000 ∧
  ∀ i, i < r.orders.length → (r.orders.getD i default).choices.length ≤ 1000000 ∧ (r.orders.getD i default).rules.length ≤ 1000000
/-- each choice names a factor -/
def Realm.ByOK (r : Realm) : Prop := ∀ i j, i < r.orders.length → j < (r.orders.getD i default).choices.length → 0 ≤ ((r.orders.getD i default).choices.getD j default).by_ ∧ ((r.orders.getD i default).choices.getD j default).by_ < 5
def Realm.okB (r : Realm) : Bool := decide (r.currencies.length ≤ 1000000) && decide (r.cities.length ≤ 1000000) && decide (r.groups.length ≤ 1000000) && decide (r.firms.length ≤ 1000000) && decide (r.orders.length ≤ 1000000) && decide (r.usances.length ≤ 1000000) && decide (r.rates.length ≤ 1000000) && decide (r.halts.length ≤ 1000000) &&
  r.orders.all fun o => decide (o.choices.length ≤ 1000000) && decide (o.rules.length ≤ 1000000) && o.choices.all fun c => decide (0 ≤ c.by_) && decide (c.by_ < 5)
theorem Realm.ok_of {r : Realm} (h : r.okB = true) : r.Small ∧ r.ByOK := by
  simp only [Realm.okB, Bool.and_eq_true, decide_eq_true_eq, List.all_eq_true] at h
  obtain ⟨⟨⟨⟨⟨⟨⟨⟨h1, h2⟩, h3⟩, h4⟩, h5⟩, h6⟩, h7⟩, h8⟩, h9⟩ := h
  exact ⟨⟨h1, h2, h3, h4, h5, h6, h7, h8, fun i hi => (h9 _ (lget_mem hi _)).1⟩, fun i j hi hj => (h9 _ (lget_mem hi _)).2 _ (lget_mem hj _)⟩
/-- halts end -/
def Realm.HaltOK (r : Realm) : Prop := ∀ i, i < r.halts.length → (r.halts.getD i default).to_ ≤ 100000
structure Tenor where
  kind : Int
  n : Int
  unit : Int
  deriving Inhabited
def Tenor.cells (c : Tenor) : List D := [dI c.kind, dI c.n, dI c.unit]
def Tenor.E : Enc Tenor := ⟨Tenor.cells, 3, fun _ => rfl, fun _ => rfl⟩
structure Bill where
  drawer : Int
  drawee : Int
  payee : Int
  sum : Int
  currency : Int
  tenor : Tenor
  day : Int
  city : Int
  pay : Int
  need : Int
  rate : Int
  flags : Int
  parts : Int
  deriving Inhabited
def Bill.cells (c : Bill) : List D := [dI c.drawer, dI c.drawee, dI c.payee, dI c.sum, dI c.currency] ++ c.tenor.cells ++ [dI c.day, dI c.city, dI c.pay, dI c.need, dI c.rate, dI c.flags, dI c.parts]
def Bill.E : Enc Bill := ⟨Bill.cells, 15, fun _ => rfl, fun _ => rfl⟩
structure Sign where
  kind : Int
  part : Int
  who : Int
  for_ : Int
  to_ : Int
  sum : Int
  day : Int
  city : Int
  flags : Int
  deriving Inhabited
def Sign.cells (c : Sign) : List D := [dI c.kind, dI c.part, dI c.who, dI c.for_, dI c.to_, dI c.sum, dI c.day, dI c.city, dI c.flags]
def Sign.E : Enc Sign := ⟨Sign.cells, 9, fun _ => rfl, fun _ => rfl⟩
structure Alter where
  at_ : Int
  sum : Int
  deriving Inhabited
def Alter.cells (c : Alter) : List D := [dI c.at_, dI c.sum]
def Alter.E : Enc Alter := ⟨Alter.cells, 2, fun _ => rfl, fun _ => rfl⟩
structure ActX where
  kind : Int
  who : Int
  to_ : Int
  part : Int
  at_ : Int
  sum : Int
  day : Int
  city : Int
  form : Int
  deriving Inhabited
def ActX.cells (c : ActX) : List D := [dI c.kind, dI c.who, dI c.to_, dI c.part, dI c.at_, dI c.sum, dI c.day, dI c.city, dI c.form]
def ActX.E : Enc ActX := ⟨ActX.cells, 9, fun _ => rfl, fun _ => rfl⟩
structure Fact where
  kind : Int
  at_ : Int
  n : Int
  deriving Inhabited
def Fact.cells (c : Fact) : List D := [dI c.kind, dI c.at_, dI c.n]
def Fact.E : Enc Fact := ⟨Fact.cells, 3, fun _ => rfl, fun _ => rfl⟩
structure File where
  bill : Bill
  signs : List Sign
  alters : List Alter
  acts : List ActX
  facts : List Fact
  deriving Inhabited
def File.cells (c : File) : List D := c.bill.cells ++ [slD Sign.cells c.signs, slD Alter.cells c.alters, slD ActX.cells c.acts, slD Fact.cells c.facts]
def File.E : Enc File := ⟨File.cells, 19, fun _ => rfl, fun _ => rfl⟩
/-- lists of a length that memory bears -/
def File.Small (f : File) : Prop := f.signs.length ≤ 1000000 ∧ f.alters.length ≤ 1000000 ∧ f.acts.length ≤ 1000000 ∧ f.facts.length ≤ 1000000
/-- firms have their seats in cities -/
def Realm.FirmOK (r : Realm) : Prop := ∀ i, i < r.firms.length → 0 ≤ (r.firms.getD i default).city ∧ (r.firms.getD i default).city < r.cities.length
/-- rates are quotients of two numbers that are not too great -/
def Realm.RateOK (r : Realm) : Prop := ∀ i, i < r.rates.length → (1 ≤ (r.rates.getD i default).num ∧ (r.rates.getD i default).num ≤ 1073741824) ∧ 1 ≤ (r.rates.getD i default).den ∧ (r.rates.getD i default).den ≤ 1073741824
/-- sums of money -/
abbrev SumP (n : Int) : Prop := 0 ≤ n ∧ n ≤ 1099511627776
def File.SumOK (f : File) : Prop := SumP f.bill.sum ∧ (∀ q, q < f.alters.length → SumP (f.alters.getD q default).sum) ∧ (∀ q, q < f.signs.length → SumP (f.signs.getD q default).sum) ∧ ∀ q, q < f.acts.length → SumP (f.acts.getD q default).sum
/-- a signature that fits -/
def FitOK (f : File) (q : Nat) : Prop := SumP (f.signs.getD q default).sum ∧ (0 ≤ (f.signs.getD q default).kind ∧ (f.signs.getD q default).kind ≤ 4) ∧ ((f.signs.getD q default).kind = 0 ↔ q = 0) ∧ ((f.signs.getD q default).kind = 3 ∨ (f.signs.getD q default).kind = 4 → 0 ≤ (f.signs.getD q default).for_ ∧ (f.signs.getD q default).for_ < (q : Int))
def SgnOK (r : Realm) (f : File) (q : Nat) : Prop := (0 ≤ (f.signs.getD q default).who ∧ (f.signs.getD q default).who < r.firms.length) ∧ (q ≠ 0 → (f.signs.getD (q - 1) default).day ≤ (f.signs.getD q default).day) ∧ (f.signs.getD q default).day ≤ 100000 ∧ (q = 0 → (f.signs.getD q default).day = f.bill.day) ∧ (0 ≤ (f.signs.getD q default).part ∧ (f.signs.getD q default).part ≤ f.bill.parts - 1) ∧ FitOK f q
def DoneOK (f : File) (q : Nat) : Prop := SumP (f.acts.getD q default).sum ∧ (f.bill.day ≤ (f.acts.getD q default).day ∧ (f.acts.getD q default).day ≤ 100000) ∧ (q ≠ 0 → (f.acts.getD (q - 1) default).day ≤ (f.acts.getD q default).day)
def BillR (r : Realm) (b : Bill) : Prop := (1 ≤ b.sum ∧ b.sum ≤ 1099511627776) ∧ (0 ≤ b.pay ∧ b.pay < r.cities.length) ∧ (0 ≤ b.day ∧ b.day ≤ 100000) ∧ (1 ≤ b.parts ∧ b.parts ≤ 4) ∧ (0 ≤ b.currency ∧ b.currency < r.currencies.length)
/-- a right file -/
def RightF (r : Realm) (f : File) : Prop := BillR r f.bill ∧ (f.signs.length ≤ 40 ∧ f.signs.length ≠ 0 ∧ f.alters.length ≤ 4 ∧ f.acts.length ≤ 100 ∧ f.facts.length ≤ 200) ∧ (∀ q, q < f.signs.length → SgnOK r f q) ∧ (∀ q, q < f.alters.length → SumP (f.alters.getD q default).sum) ∧ ∀ q, q < f.acts.length → DoneOK f q
theorem RightF.small {r : Realm} {f : File} (h : RightF r f) : f.Small := by have := h.2.1; unfold File.Small; omega
theorem RightF.sums {r : Realm} {f : File} (h : RightF r f) : f.SumOK := ⟨⟨by have := h.1.1; omega, h.1.1.2⟩, h.2.2.2.1, fun q hq => (h.2.2.1 q hq).2.2.2.2.2.1, fun q hq => (h.2.2.2.2 q hq).1⟩
theorem all_getD {α : Type} [Inhabited α] {l : List α} {P : α → Prop} : (∀ q, q < l.length → P (l.getD q default)) ↔ ∀ x, x ∈ l → P x := by
  constructor
  · intro h x hx
    obtain ⟨i, hi, rfl⟩ := List.getElem_of_mem hx
    have := h i hi
    rwa [show l.getD i default = l[i] by simp [List.getD, hi]] at this
  · exact fun h q hq => h _ (lget_mem hq _)
noncomputable def allongelaw26_truth_sk (n : Int) : Sk (Term) :=
 .fin ({ op := 1, n := n, args := [] } : Term)
noncomputable def allongelaw26_truth (n : Int) : Term := (allongelaw26_truth_sk n).val
theorem allongelaw26_truth_eq (n : Int) : allongelaw26_truth n = ({ op := 1, n := n, args := [] } : Term) := rfl
theorem allongelaw26_truth_ok (n : Int) : (allongelaw26_truth_sk n).obs (fun _ => True) := by
  unfold allongelaw26_truth_sk
  exact okE

noncomputable def allongelaw26_truth_k (n : Int) : Ctr (Term) := kk tok mixed Tryz.func44 [iv n] (fun x => av x.cells) false (allongelaw26_truth_sk n) (allongelaw26_truth n) (fun (_ : True) => allongelaw26_truth_ok n)
noncomputable def allongelaw26_land_sk : Sk (Realm) :=
 .r 1 (.dep ((allongelaw26_truth_k 1).c) fun x1 => .dep ((allongelaw26_truth_k 1).c) fun x2 => .dep ((allongelaw26_truth_k 1).c) fun x3 => .depr ((allongelaw26_truth_k 0).c) fun x4 => .andl (.o [.pur 10]) (.o [.nrm (litC Rule.E [({ ask := 0, term := x1 } : Rule), ({ ask := 1, term := x2 } : Rule), ({ ask := 2, term := x3 } : Rule), ({ ask := 3, term := x4 } : Rule)])])) fun p5 =>
 .r 2 (.andl (.o [.nrm (litC strE [(⟨#[100]⟩ : ByteArray)])]) (.andl (.o [.nrm (litN City.E [({ name := (⟨#[97]⟩ : ByteArray), order := 0, currency := 0, rest := [], feasts := [], shut := [] } : City)] [.v (.string (⟨#[97]⟩ : ByteArray)), dI 0, dI 0, .v (.slice none 0 0), .v (.slice none 0 0), .v (.slice none 0 0)] (by kernel_rfl))]) (.andl (.o [.nrm (litC GroupX.E [({ grade := 0 } : GroupX)])]) (.andl (.o [.nrm (litC Firm.E [({ name := (⟨#[102]⟩ : ByteArray), city := 0, group := 0 } : Firm), ({ name := (⟨#[103]⟩ : ByteArray), city := 0, group := 0 } : Firm), ({ name := (⟨#[104]⟩ : ByteArray), city := 0, group := 0 } : Firm), ({ name := (⟨#[105]⟩ : ByteArray), city := 0, group := 0 } : Firm)])]) (.o [.nrm (litN Order.E [({ name := (⟨#[111]⟩ : ByteArray), accepts := false, choices := [], rules := [({ ask := 0, term := p5.1 } : Rule), ({ ask := 1, term := p5.2.1 } : Rule), ({ ask := 2, term := p5.2.2.1 } : Rule), ({ ask := 3, term := p5.2.2.2 } : Rule)] } : Order)] [.v (.string (⟨#[111]⟩ : ByteArray)), dB false, .v (.slice none 0 0), slD Rule.cells [({ ask := 0, term := p5.1 } : Rule), ({ ask := 1, term := p5.2.1 } : Rule), ({ ask := 2, term := p5.2.2.1 } : Rule), ({ ask := 3, term := p5.2.2.2 } : Rule)]] (by kernel_rfl))]))))) fun _ =>
 .fin ({ currencies := [(⟨#[100]⟩ : ByteArray)], cities := [({ name := (⟨#[97]⟩ : ByteArray), order := 0, currency := 0, rest := [], feasts := [], shut := [] } : City)], groups := [({ grade := 0 } : GroupX)], firms := [({ name := (⟨#[102]⟩ : ByteArray), city := 0, group := 0 } : Firm), ({ name := (⟨#[103]⟩ : ByteArray), city := 0, group := 0 } : Firm), ({ name := (⟨#[104]⟩ : ByteArray), city := 0, group := 0 } : Firm), ({ name := (⟨#[105]⟩ : ByteArray), city := 0, group := 0 } : Firm)], orders := [({ name := (⟨#[111]⟩ : ByteArray), accepts := false, choices := [], rules := [({ ask := 0, term := p5.1 } : Rule), ({ ask := 1, term := p5.2.1 } : Rule), ({ ask := 2, term := p5.2.2.1 } : Rule), ({ ask := 3, term := p5.2.2.2 } : Rule)] } : Order)], usances := [], rates := [], halts := [] } : Realm)
noncomputable def allongelaw26_land : Realm := (allongelaw26_land_sk).val
theorem allongelaw26_land_ok : (allongelaw26_land_sk).obs (fun _ => True) := by
  unfold allongelaw26_land_sk
  try simp only [allongelaw26_truth_k, allongelaw26_truth_eq]
  exact okG

noncomputable def allongelaw26_land_k : Ctr (Realm) := kk tok mixed Tryz.func21 [] (fun x => av x.cells) false (allongelaw26_land_sk) (allongelaw26_land) (fun (_ : True) => allongelaw26_land_ok)
noncomputable def allongelaw26_sheet_sk (genuine : Int) : Sk (File) :=
 .r 2 (.o [.nrm (litC Sign.E [({ kind := 0, part := 0, who := 0, for_ := (-1), to_ := (-1), sum := 0, day := 100, city := 0, flags := 0 } : Sign), ({ kind := 1, part := 0, who := 1, for_ := (-1), to_ := (-1), sum := 1000, day := 101, city := 0, flags := 0 } : Sign), ({ kind := 2, part := 1, who := 2, for_ := (-1), to_ := 3, sum := 0, day := 102, city := 0, flags := 0 } : Sign)])]) fun _ =>
 .br ((genuine == 0) || (genuine == 1))
 (.r 4 (.andl (.o [.nrm (litC Fact.E [({ kind := 0, at_ := 2, n := genuine } : Fact)])]) (.andl (.o [.nrm (catN Fact.E [({ kind := 0, at_ := 2, n := genuine } : Fact)])]) (.andl (.t (Fact.E.ones [({ kind := 0, at_ := 2, n := genuine } : Fact)])) (.p (szP 0 [({ kind := 0, at_ := 2, n := genuine } : Fact)].length 24))))) fun _ =>
 .r 5 (.andl (.o [.nrm (litC Fact.E [({ kind := 2, at_ := 2, n := 1 } : Fact)])]) (.andl (.o [.nrm (catC Fact.E [({ kind := 0, at_ := 2, n := genuine } : Fact)] [({ kind := 2, at_ := 2, n := 1 } : Fact)])]) (.andl (.t (Fact.E.ones [({ kind := 2, at_ := 2, n := 1 } : Fact)])) (.p (szP ([({ kind := 0, at_ := 2, n := genuine } : Fact)].length) [({ kind := 2, at_ := 2, n := 1 } : Fact)].length 24))))) fun _ =>
 .fin ({ bill := ({ drawer := 0, drawee := 1, payee := 2, sum := 1000, currency := 0, tenor := ({ kind := 2, n := 30, unit := 0 } : Tenor), day := 100, city := 0, pay := 0, need := (-1), rate := 0, flags := 1, parts := 2 } : Bill), signs := [({ kind := 0, part := 0, who := 0, for_ := (-1), to_ := (-1), sum := 0, day := 100, city := 0, flags := 0 } : Sign), ({ kind := 1, part := 0, who := 1, for_ := (-1), to_ := (-1), sum := 1000, day := 101, city := 0, flags := 0 } : Sign), ({ kind := 2, part := 1, who := 2, for_ := (-1), to_ := 3, sum := 0, day := 102, city := 0, flags := 0 } : Sign)], alters := [], acts := [], facts := [({ kind := 0, at_ := 2, n := genuine } : Fact)] ++ [({ kind := 2, at_ := 2, n := 1 } : Fact)] } : File))
 (.r 5 (.andl (.o [.nrm (litC Fact.E [({ kind := 2, at_ := 2, n := 1 } : Fact)])]) (.andl (.o [.nrm (catN Fact.E [({ kind := 2, at_ := 2, n := 1 } : Fact)])]) (.andl (.t (Fact.E.ones [({ kind := 2, at_ := 2, n := 1 } : Fact)])) (.p (szP 0 [({ kind := 2, at_ := 2, n := 1 } : Fact)].length 24))))) fun _ =>
 .fin ({ bill := ({ drawer := 0, drawee := 1, payee := 2, sum := 1000, currency := 0, tenor := ({ kind := 2, n := 30, unit := 0 } : Tenor), day := 100, city := 0, pay := 0, need := (-1), rate := 0, flags := 1, parts := 2 } : Bill), signs := [({ kind := 0, part := 0, who := 0, for_ := (-1), to_ := (-1), sum := 0, day := 100, city := 0, flags := 0 } : Sign), ({ kind := 1, part := 0, who := 1, for_ := (-1), to_ := (-1), sum := 1000, day := 101, city := 0, flags := 0 } : Sign), ({ kind := 2, part := 1, who := 2, for_ := (-1), to_ := 3, sum := 0, day := 102, city := 0, flags := 0 } : Sign)], alters := [], acts := [], facts := [({ kind := 2, at_ := 2, n := 1 } : Fact)] } : File))
noncomputable def allongelaw26_sheet (genuine : Int) : File := (allongelaw26_sheet_sk genuine).val
theorem allongelaw26_sheet_ok (genuine : Int) : (allongelaw26_sheet_sk genuine).obs (fun _ => True) := by
  unfold allongelaw26_sheet_sk
  exact okD

noncomputable def allongelaw26_sheet_k (genuine : Int) : Ctr (File) := kk tok mixed Tryz.func22 [iv genuine] (fun x => av x.cells) false (allongelaw26_sheet_sk genuine) (allongelaw26_sheet genuine) (fun (_ : True) => allongelaw26_sheet_ok genuine)
structure Claim where
  debtor : Int
  creditor : Int
  part : Int
  sign : Int
  by_ : Int
  turn : Int
  sum : Int
  currency : Int
  state : Int
  deriving Inhabited
def Claim.cells (c : Claim) : List D := [dI c.debtor, dI c.creditor, dI c.part, dI c.sign, dI c.by_, dI c.turn, dI c.sum, dI c.currency, dI c.state]
def Claim.E : Enc Claim := ⟨Claim.cells, 9, fun _ => rfl, fun _ => rfl⟩
structure View where
  all : File
  now : File
  day : Int
  lead : List Int
  deriving Inhabited
def View.cells (c : View) : List D := c.all.cells ++ c.now.cells ++ [dI c.day, slD intC c.lead]
def View.E : Enc View := ⟨View.cells, 40, fun _ => rfl, fun _ => rfl⟩
/-- who stands for another does so for an earlier one -/
def View.BaseOK (v : View) : Prop := ∀ i, i < v.now.signs.length → ((v.now.signs.getD i default).kind = 3 ∨ (v.now.signs.getD i default).kind = 4) → 0 ≤ (v.now.signs.getD i default).for_ ∧ (v.now.signs.getD i default).for_ < (i : Int)
structure Court where
  view : View
  r : Realm
  forum : Int
  due : Int
  deriving Inhabited
def Court.cells (c : Court) : List D := c.view.cells ++ c.r.cells ++ [dI c.forum, dI c.due]
def Court.E : Enc Court := ⟨Court.cells, 50, fun _ => rfl, fun _ => rfl⟩
noncomputable def record_within_sk (i : Int) (n : Int) : Sk (Bool) :=
 .fin ((decide (i ≥ 0)) && (decide (i < n)))
noncomputable def record_within (i : Int) (n : Int) : Bool := (record_within_sk i n).val
theorem record_within_eq (i : Int) (n : Int) : record_within i n = ((decide (i ≥ 0)) && (decide (i < n))) := rfl
theorem record_within_ok (i : Int) (n : Int) : (record_within_sk i n).obs (fun _ => True) := by
  unfold record_within_sk
  exact okE

noncomputable def record_within_k (i : Int) (n : Int) : Ctr (Bool) := kk tok mixed Tryz.func101 [iv i, iv n] (fun x => bv x) true (record_within_sk i n) (record_within i n) (fun (_ : True) => record_within_ok i n)
noncomputable def record_At_sk (f : File) (day : Int) : Sk (File) :=
 .bind true (fun b1 => b1.length ≤ f.signs.length)
 (.loop (default : Sum (File) ((List Sign))) (fun i2 => i2.2.length ≤ i2.1 ∧ i2.1 ≤ f.signs.length) (fun i2 => f.signs.length - i2.1) ((0, []) : Nat × (List Sign))
 (fun (i2 : Nat × (List Sign)) => ⟨[(20, iv ((i2.1 : Nat) : Int))], [(100002, rowB 54 9 Sign.cells i2.2), (5, .box (f.bill.cells.map .d ++ [ow 100002 i2.2] ++ [nv, nv, nv]))]⟩) fun i2 =>
 .bnd 18 0 f.signs.length <|
 .br (decide (((i2.1 : Nat) : Int) < ((f.signs.length : Nat) : Int)))
 (.r 4 (.p (ixP ((i2.1 : Nat) : Int) f.signs.length)) fun _ =>
 .br (decide (((f.signs.getD i2.1 default).day) > day))
 (.fin (.inl (.inr i2.2)))
 (.r 6 (.andl (.o [.nrm (litC Sign.E [f.signs.getD i2.1 default])]) (.andl (.o [.nrm (catC Sign.E i2.2 [f.signs.getD i2.1 default])]) (.andl (.t (Sign.E.ones [f.signs.getD i2.1 default])) (.p (szP i2.2.length [f.signs.getD i2.1 default].length 72))))) fun _ =>
 .r 7 .z fun _ =>
 .wi 20 (w64 (((i2.1 : Nat) : Int) + 1)) ((i2.1 + 1 : Nat) : Int) <|
 .fin (.inr (i2.1 + 1, i2.2 ++ [f.signs.getD i2.1 default]))))
 (.fin (.inl (.inr i2.2))))
 (fun (b1 : (List Sign)) => ⟨[], [(100001, rowB 54 9 Sign.cells b1), (5, .box (f.bill.cells.map .d ++ [ow 100001 b1] ++ [nv, nv, nv]))]⟩) fun b1 =>
 .bind true (fun b3 => b3.length ≤ f.acts.length)
 (.loop (default : Sum (File) ((List ActX))) (fun i4 => i4.2.length ≤ i4.1 ∧ i4.1 ≤ f.acts.length) (fun i4 => f.acts.length - i4.1) ((0, []) : Nat × (List ActX))
 (fun (i4 : Nat × (List ActX)) => ⟨[(38, iv ((i4.1 : Nat) : Int))], [(100005, rowB 109 9 ActX.cells i4.2), (5, .box (f.bill.cells.map .d ++ [ow 100001 b1] ++ [nv, ow 100005 i4.2] ++ [nv]))]⟩) fun i4 =>
 .bnd 36 0 f.acts.length <|
 .br (decide (((i4.1 : Nat) : Int) < ((f.acts.length : Nat) : Int)))
 (.r 10 (.p (ixP ((i4.1 : Nat) : Int) f.acts.length)) fun _ =>
 .br (decide (((f.acts.getD i4.1 default).day) > day))
 (.fin (.inl (.inr i4.2)))
 (.r 12 (.andl (.o [.nrm (litC ActX.E [f.acts.getD i4.1 default])]) (.andl (.o [.nrm (catC ActX.E i4.2 [f.acts.getD i4.1 default])]) (.andl (.t (ActX.E.ones [f.acts.getD i4.1 default])) (.p (szP i4.2.length [f.acts.getD i4.1 default].length 72))))) fun _ =>
 .r 13 .z fun _ =>
 .wi 38 (w64 (((i4.1 : Nat) : Int) + 1)) ((i4.1 + 1 : Nat) : Int) <|
 .fin (.inr (i4.1 + 1, i4.2 ++ [f.acts.getD i4.1 default]))))
 (.fin (.inl (.inr i4.2))))
 (fun (b3 : (List ActX)) => ⟨[], [(100004, rowB 109 9 ActX.cells b3), (5, .box (f.bill.cells.map .d ++ [ow 100001 b1] ++ [nv, ow 100004 b3] ++ [nv]))]⟩) fun b3 =>
 .bind true (fun b5 => b5.length ≤ f.alters.length)
 (.loop (default : Sum (File) ((List Alter))) (fun i6 => i6.2.length ≤ i6.1 ∧ i6.1 ≤ f.alters.length) (fun i6 => f.alters.length - i6.1) ((0, []) : Nat × (List Alter))
 (fun (i6 : Nat × (List Alter)) => ⟨[(56, iv ((i6.1 : Nat) : Int))], [(100008, rowB 111 2 Alter.cells i6.2), (5, .box (f.bill.cells.map .d ++ [ow 100001 b1, ow 100008 i6.2, ow 100004 b3] ++ [nv]))]⟩) fun i6 =>
 .bnd 54 0 f.alters.length <|
 .br (decide (((i6.1 : Nat) : Int) < ((f.alters.length : Nat) : Int)))
 (.r 16 (.p (ixP ((i6.1 : Nat) : Int) f.alters.length)) fun _ =>
 .br (decide (((f.alters.getD i6.1 default).at_) ≤ ((b1.length : Nat) : Int)))
 (.r 18 (.andl (.o [.nrm (litC Alter.E [f.alters.getD i6.1 default])]) (.andl (.o [.nrm (catC Alter.E i6.2 [f.alters.getD i6.1 default])]) (.andl (.t (Alter.E.ones [f.alters.getD i6.1 default])) (.p (szP i6.2.length [f.alters.getD i6.1 default].length 16))))) fun _ =>
 .r 19 .z fun _ =>
 .wi 56 (w64 (((i6.1 : Nat) : Int) + 1)) ((i6.1 + 1 : Nat) : Int) <|
 .fin (.inr (i6.1 + 1, i6.2 ++ [f.alters.getD i6.1 default])))
 (.r 19 .z fun _ =>
 .wi 56 (w64 (((i6.1 : Nat) : Int) + 1)) ((i6.1 + 1 : Nat) : Int) <|
 .fin (.inr (i6.1 + 1, i6.2))))
 (.fin (.inl (.inr i6.2))))
 (fun (b5 : (List Alter)) => ⟨[], [(100007, rowB 111 2 Alter.cells b5), (5, .box (f.bill.cells.map .d ++ [ow 100001 b1, ow 100007 b5, ow 100004 b3] ++ [nv]))]⟩) fun b5 =>
 .bind true (fun b7 => b7.length ≤ f.facts.length)
 (.loop (default : Sum (File) ((List Fact))) (fun i8 => i8.2.length ≤ i8.1 ∧ i8.1 ≤ f.facts.length) (fun i8 => f.facts.length - i8.1) ((0, []) : Nat × (List Fact))
 (fun (i8 : Nat × (List Fact)) => ⟨[(76, iv ((i8.1 : Nat) : Int))], [(100011, rowB 113 3 Fact.cells i8.2), (5, .box (f.bill.cells.map .d ++ [ow 100001 b1, ow 100007 b5, ow 100004 b3, ow 100011 i8.2]))]⟩) fun i8 =>
 .bnd 74 0 f.facts.length <|
 .br (decide (((i8.1 : Nat) : Int) < ((f.facts.length : Nat) : Int)))
 (.r 22 (.p (ixP ((i8.1 : Nat) : Int) f.facts.length)) fun _ =>
 .r 23 ((record_within_k ((f.facts.getD i8.1 default).at_) ((b1.length : Nat) : Int)).c) fun x9 =>
 .br x9
 (.r 24 (.andl (.o [.nrm (litC Fact.E [f.facts.getD i8.1 default])]) (.andl (.o [.nrm (catC Fact.E i8.2 [f.facts.getD i8.1 default])]) (.andl (.t (Fact.E.ones [f.facts.getD i8.1 default])) (.p (szP i8.2.length [f.facts.getD i8.1 default].length 24))))) fun _ =>
 .r 25 .z fun _ =>
 .wi 76 (w64 (((i8.1 : Nat) : Int) + 1)) ((i8.1 + 1 : Nat) : Int) <|
 .fin (.inr (i8.1 + 1, i8.2 ++ [f.facts.getD i8.1 default])))
 (.r 25 .z fun _ =>
 .wi 76 (w64 (((i8.1 : Nat) : Int) + 1)) ((i8.1 + 1 : Nat) : Int) <|
 .fin (.inr (i8.1 + 1, i8.2))))
 (.fin (.inl (.inr i8.2))))
 (fun (b7 : (List Fact)) => ⟨[], [(100010, rowB 113 3 Fact.cells b7), (5, .box (f.bill.cells.map .d ++ [ow 100001 b1, ow 100007 b5, ow 100004 b3, ow 100010 b7]))]⟩) fun b7 =>
 .fin ({ f with signs := b1, alters := b5, acts := b3, facts := b7 })
noncomputable def record_At (f : File) (day : Int) : File := (record_At_sk f day).val
theorem record_At_pst (f : File) (day : Int) : (record_At_sk f day).pst (fun (x : File) => x.signs.length ≤ f.signs.length ∧ x.acts.length ≤ f.acts.length ∧ x.alters.length ≤ f.alters.length ∧ x.facts.length ≤ f.facts.length) := by
  unfold record_At_sk
  try simp only [record_within_k, record_within_eq, File.Small, Realm.Small]
  exact okQ

theorem record_At_post (f : File) (day : Int) : (fun (x : File) => x.signs.length ≤ f.signs.length ∧ x.acts.length ≤ f.acts.length ∧ x.alters.length ≤ f.alters.length ∧ x.facts.length ≤ f.facts.length) (record_At f day) := have h := Sk.pval _ (record_At_pst f day); h
theorem record_At_ok (f : File) (day : Int) (hf : f.Small) : (record_At_sk f day).obs (fun _ => True) := by
  simp only [File.Small, Realm.Small] at hf
  unfold record_At_sk
  try simp only [record_within_k, record_within_eq, File.Small, Realm.Small]
  exact okG

noncomputable def record_At_k (f : File) (day : Int) : Ctr (File) := kk tok mixed Tryz.func56 [av f.cells, iv day] (fun x => av x.cells) false (record_At_sk f day) (record_At f day) (fun (h : (f.Small)) => record_At_ok f day h) (fun (x : File) => x.signs.length ≤ f.signs.length ∧ x.acts.length ≤ f.acts.length ∧ x.alters.length ≤ f.alters.length ∧ x.facts.length ≤ f.facts.length) (record_At_post f day)
/-- a file of a day -/
theorem filter_fold {α : Type} (p : α → Bool) : ∀ (l s : List α), l.foldl (fun s x => bif p x then s ++ [x] else s) s = s ++ l.filter p
  | [], s => by simp
  | x :: r, s => by
    simp only [List.foldl_cons, List.filter_cons]
    cases h : p x with
    | true => simp [filter_fold p r]
    | false => simp [filter_fold p r]
theorem walk_while {α β : Type} (p : α → Bool) (g : List α → β) : ∀ (l s : List α), walk (fun x s => bif !(p x) then Sum.inl (g s) else Sum.inr (s ++ [x])) g l s = g (s ++ l.takeWhile p)
  | [], s => by simp [walk]
  | x :: r, s => by
    simp only [walk, List.takeWhile_cons]
    cases h : p x with
    | true =>
      show walk (fun x s => bif !(p x) then Sum.inl (g s) else Sum.inr (s ++ [x])) g r (s ++ [x]) = _
      rw [walk_while p g r (s ++ [x])]
      simp
    | false => simp
theorem record_At_eq (f : File) (day : Int) : record_At f day = File.mk f.bill (f.signs.takeWhile (fun s => decide (s.day ≤ day)))
    (f.alters.filter (fun a => decide (a.at_ ≤ ((f.signs.takeWhile (fun s => decide (s.day ≤ day))).length : Int)))) (f.acts.takeWhile (fun a => decide (a.day ≤ day)))
    (f.facts.filter (fun x => decide (x.at_ ≥ 0) && decide (x.at_ < ((f.signs.takeWhile (fun s => decide (s.day ≤ day))).length : Int)))) := by
  simp only [record_At, record_At_sk, Sk.val_bind, Sk.val_loop, Sk.val_bnd, Sk.val_br, Sk.val_r, Sk.val_wi, Sk.val_fin, Ctr.c_v, kk, record_within_k, record_within_eq]
  have h1 : ∀ (n : Nat) (d : File ⊕ List Sign), f.signs.length < n → iter (fun i2 : Nat × List Sign => bif decide ((i2.1 : Int) < (f.signs.length : Int)) then (bif decide ((f.signs.getD i2.1 default).day > day) then (Sum.inl (Sum.inr i2.2)) else (Sum.inr (i2.1 + 1, i2.2 ++ [f.signs.getD i2.1 default]))) else Sum.inl (Sum.inr i2.2)) d n (0, []) = (Sum.inr (f.signs.takeWhile (fun s => decide (s.day ≤ day))) : File ⊕ List Sign) := by
    intro n d hn
    rw [iter_walk0 f.signs (fun s i => (i, s)) (fun x s => bif !(decide (x.day ≤ day)) then Sum.inl (Sum.inr s) else Sum.inr (s ++ [x])) (fun s => Sum.inr s) (fun s i hi => ?_) (fun s => ?_) hn []]
    · exact walk_while _ (fun s => (Sum.inr s : File ⊕ List Sign)) f.signs []
    · rw [decide_eq_true (by omega), cond_true]
      by_cases c : (f.signs.getD i default).day > day
      · rw [decide_eq_true c, decide_eq_false (by omega)]; rfl
      · rw [decide_eq_false c, decide_eq_true (by omega)]; rfl
    · rw [decide_eq_false (by omega), cond_false]
  rw [h1 _ _ (by simp)]
  have h2 : ∀ (n : Nat) (d : File ⊕ List ActX), f.acts.length < n → iter (fun i2 : Nat × List ActX => bif decide ((i2.1 : Int) < (f.acts.length : Int)) then (bif decide ((f.acts.getD i2.1 default).day > day) then (Sum.inl (Sum.inr i2.2)) else (Sum.inr (i2.1 + 1, i2.2 ++ [f.acts.getD i2.1 default]))) else Sum.inl (Sum.inr i2.2)) d n (0, []) = (Sum.inr (f.acts.takeWhile (fun s => decide (s.day ≤ day))) : File ⊕ List ActX) := by
    intro n d hn
    rw [iter_walk0 f.acts (fun s i => (i, s)) (fun x s => bif !(decide (x.day ≤ day)) then Sum.inl (Sum.inr s) else Sum.inr (s ++ [x])) (fun s => Sum.inr s) (fun s i hi => ?_) (fun s => ?_) hn []]
    · exact walk_while _ (fun s => (Sum.inr s : File ⊕ List ActX)) f.acts []
    · rw [decide_eq_true (by omega), cond_true]
      by_cases c : (f.acts.getD i default).day > day
      · rw [decide_eq_true c, decide_eq_false (by omega)]; rfl
      · rw [decide_eq_false c, decide_eq_true (by omega)]; rfl
    · rw [decide_eq_false (by omega), cond_false]
  simp only [pickS_inr]
  rw [h2 _ _ (by simp)]
  simp only [pickS_inr]
  generalize f.signs.takeWhile (fun s => decide (s.day ≤ day)) = b1
  have h3 : ∀ (n : Nat) (d : File ⊕ List Alter), f.alters.length < n → iter (fun i2 : Nat × List Alter => bif decide ((i2.1 : Int) < (f.alters.length : Int)) then (bif decide ((f.alters.getD i2.1 default).at_ ≤ (b1.length : Int)) then (Sum.inr (i2.1 + 1, i2.2 ++ [f.alters.getD i2.1 default])) else (Sum.inr (i2.1 + 1, i2.2))) else Sum.inl (Sum.inr i2.2)) d n (0, []) = (Sum.inr (f.alters.filter (fun a => decide (a.at_ ≤ (b1.length : Int)))) : File ⊕ List Alter) := by
    intro n d hn
    rw [iter_walk0 f.alters (fun s i => (i, s)) (fun x s => Sum.inr (bif decide (x.at_ ≤ (b1.length : Int)) then s ++ [x] else s)) (fun s => Sum.inr s) (fun s i hi => ?_) (fun s => ?_) hn []]
    · rw [walk_fold (fun (x : Alter) s => bif decide (x.at_ ≤ (b1.length : Int)) then s ++ [x] else s), filter_fold]; rfl
    · rw [decide_eq_true (by omega), cond_true]
      cases decide ((f.alters.getD i default).at_ ≤ (b1.length : Int)) <;> rfl
    · rw [decide_eq_false (by omega), cond_false]
  rw [h3 _ _ (by simp)]
  simp only [pickS_inr]
  have h4 : ∀ (n : Nat) (d : File ⊕ List Fact), f.facts.length < n → iter (fun i2 : Nat × List Fact => bif decide ((i2.1 : Int) < (f.facts.length : Int)) then (bif (decide ((f.facts.getD i2.1 default).at_ ≥ 0) && decide ((f.facts.getD i2.1 default).at_ < (b1.length : Int))) then (Sum.inr (i2.1 + 1, i2.2 ++ [f.facts.getD i2.1 default])) else (Sum.inr (i2.1 + 1, i2.2))) else Sum.inl (Sum.inr i2.2)) d n (0, []) = (Sum.inr (f.facts.filter (fun a => decide (a.at_ ≥ 0) && decide (a.at_ < (b1.length : Int)))) : File ⊕ List Fact) := by
    intro n d hn
    rw [iter_walk0 f.facts (fun s i => (i, s)) (fun x s => Sum.inr (bif (decide (x.at_ ≥ 0) && decide (x.at_ < (b1.length : Int))) then s ++ [x] else s)) (fun s => Sum.inr s) (fun s i hi => ?_) (fun s => ?_) hn []]
    · rw [walk_fold (fun (x : Fact) s => bif (decide (x.at_ ≥ 0) && decide (x.at_ < (b1.length : Int))) then s ++ [x] else s), filter_fold]; rfl
    · rw [decide_eq_true (by omega), cond_true]
      cases (decide ((f.facts.getD i default).at_ ≥ 0) && decide ((f.facts.getD i default).at_ < (b1.length : Int))) <;> rfl
    · rw [decide_eq_false (by omega), cond_false]
  rw [h4 _ _ (by simp)]
  rfl
theorem takeWhile_getD {α : Type} [Inhabited α] (p : α → Bool) : ∀ (l : List α) (i : Nat), i < (l.takeWhile p).length → (l.takeWhile p).getD i default = l.getD i default ∧ i < l.length ∧ p (l.getD i default) = true
  | [], i, h => by simp at h
  | x :: r, i, h => by
    rw [List.takeWhile_cons] at h ⊢
    cases hp : p x with
    | false => rw [hp] at h; simp at h
    | true =>
      rw [hp] at h
      simp only [if_true, List.length_cons] at h ⊢
      cases i with
      | zero => exact ⟨rfl, by simp, hp⟩
      | succ i =>
        have := takeWhile_getD p r i (by omega)
        exact ⟨by simpa using this.1, by simpa using this.2.1, by simpa using this.2.2⟩
end Go.Proofs.YtjaehpinmdpmbaaGreatDoor

