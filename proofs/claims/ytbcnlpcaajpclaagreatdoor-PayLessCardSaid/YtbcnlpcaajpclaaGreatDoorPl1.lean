/- Functions, as sketches. -/
import Derived.Test.YtbcnlpcaajpclaaGreatDoorPlT
namespace Go.Proofs.YtbcnlpcaajpclaaGreatDoor
open Go Go.Av
set_option linter.unusedSimpArgs false
set_option linter.unusedVariables false
set_option maxHeartbeats 1000000
set_option maxRecDepth 100000
structure City where
 name : ByteArray
 order : Int
 currency : Int
 rest : List Int
 feasts : List Int
 shut : List Int
 deriving Inhabited
def City.cells (c : City) : List D := [.v (.string c.name), dI c.order, dI c.currency, slD intC c.rest, slD intC c.feasts, slD intC c.shut]
def City.E : Enc City := ⟨City.cells, 6, fun _ => rfl, fun _ => rfl⟩
structure GroupX where
 grade : Int
 deriving Inhabited
def GroupX.cells (c : GroupX) : List D := [dI c.grade]
def GroupX.E : Enc GroupX := ⟨GroupX.cells, 1, fun _ => rfl, fun _ => rfl⟩
structure Firm where
 name : ByteArray
 city : Int
 group : Int
 deriving Inhabited
def Firm.cells (c : Firm) : List D := [.v (.string c.name), dI c.city, dI c.group]
def Firm.E : Enc Firm := ⟨Firm.cells, 3, fun _ => rfl, fun _ => rfl⟩
structure Choice where
 ask : Int
 by_ : Int
 whole : Bool
 deriving Inhabited
def Choice.cells (c : Choice) : List D := [dI c.ask, dI c.by_, dB c.whole]
def Choice.E : Enc Choice := ⟨Choice.cells, 3, fun _ => rfl, fun _ => rfl⟩
structure Term where
 op : Int
 n : Int
 args : List Term
instance : Inhabited Term := ⟨⟨default, default, default⟩⟩
mutual
def Term.argsR : Term → D
 | ⟨_, _, args⟩ => .sl args.length (Term.cellsF args)
def Term.cellsF : List Term → Nat → List D
 | [], _ => []
 | x :: _, 0 => [dI x.op, dI x.n, Term.argsR x]
 | _ :: r, i + 1 => Term.cellsF r i
end
def Term.cellsR (x : Term) : List D := [dI x.op, dI x.n, Term.argsR x]
theorem Term.cellsF_at : ∀ (l : List Term) (i : Nat), i < l.length → Term.cellsF l i = (l.getD i default).cellsR
 | [], i, h => absurd h (by simp)
 | x :: r, 0, _ => by simp [Term.cellsF, Term.cellsR]
 | x :: r, i + 1, h => by simpa [Term.cellsF] using Term.cellsF_at r i (by simpa using h)
def Term.cells (c : Term) : List D := [dI c.op, dI c.n, slD Term.cellsR c.args]
theorem Term.argsR_le (c : Term) : DLe (Term.argsR c) (slD Term.cellsR c.args) ∧ DLe (slD Term.cellsR c.args) (Term.argsR c) := by
 obtain ⟨op, n, args⟩ := c
 unfold Term.argsR
 exact ⟨DLe.sl rfl (fun i hi => Term.cellsF_at args i hi), DLe.sl rfl (fun i hi => (Term.cellsF_at args i hi).symm)⟩
theorem Term.unroll (c : Term) : CsLe c.cellsR c.cells := .cons .rfl' (.cons .rfl' (.cons ((Term.argsR_le c).1) (.nil)))
def Term.E : Enc Term := ⟨Term.cellsR, 3, fun _ => rfl, fun ⟨_, _, _⟩ => by unfold Term.cellsR; rfl⟩
mutual
def Term.depth : Term → Nat
 | ⟨_, _, args⟩ => Term.depthL args + 1
def Term.depthL : List Term → Nat
 | [] => 0
 | x :: r => max x.depth (Term.depthL r)
end
theorem Term.depthL_at : ∀ (l : List Term) (i : Nat), i < l.length → (l.getD i default).depth ≤ Term.depthL l
 | [], i, h => absurd h (by simp)
 | x :: r, 0, _ => by simp [Term.depthL]; omega
 | x :: r, i + 1, h => by
  have := Term.depthL_at r i (by simpa using h)
  simp [Term.depthL] at this ⊢
  omega
theorem Term.depth_args (c : Term) (i : Nat) (h : i < c.args.length) : (c.args.getD i default).depth < c.depth := by
 obtain ⟨op, n, args⟩ := c
 have := Term.depthL_at args i h
 simp only [Term.depth]
 omega
theorem Term.depth_pos (c : Term) : 0 < c.depth := by
 obtain ⟨op, n, args⟩ := c
 simp only [Term.depth]
 omega
structure Rule where
 ask : Int
 term : Term
 deriving Inhabited
def Rule.cells (c : Rule) : List D := [dI c.ask] ++ c.term.cells
def Rule.E : Enc Rule := ⟨Rule.cells, 4, fun _ => rfl, fun _ => rfl⟩
structure Order where
 name : ByteArray
 accepts : Bool
 choices : List Choice
 rules : List Rule
 deriving Inhabited
def Order.cells (c : Order) : List D := [.v (.string c.name), dB c.accepts, slD Choice.cells c.choices, slD Rule.cells c.rules]
def Order.E : Enc Order := ⟨Order.cells, 4, fun _ => rfl, fun _ => rfl⟩
structure Usance where
 from_ : Int
 to_ : Int
 days : Int
 deriving Inhabited
def Usance.cells (c : Usance) : List D := [dI c.from_, dI c.to_, dI c.days]
def Usance.E : Enc Usance := ⟨Usance.cells, 3, fun _ => rfl, fun _ => rfl⟩
structure RateX where
 from_ : Int
 to_ : Int
 num : Int
 den : Int
 since : Int
 deriving Inhabited
def RateX.cells (c : RateX) : List D := [dI c.from_, dI c.to_, dI c.num, dI c.den, dI c.since]
def RateX.E : Enc RateX := ⟨RateX.cells, 5, fun _ => rfl, fun _ => rfl⟩
structure Halt where
 order : Int
 from_ : Int
 to_ : Int
 deriving Inhabited
def Halt.cells (c : Halt) : List D := [dI c.order, dI c.from_, dI c.to_]
def Halt.E : Enc Halt := ⟨Halt.cells, 3, fun _ => rfl, fun _ => rfl⟩
structure Realm where
 currencies : List ByteArray
 cities : List City
 groups : List GroupX
 firms : List Firm
 orders : List Order
 usances : List Usance
 rates : List RateX
 halts : List Halt
 deriving Inhabited
def Realm.cells (c : Realm) : List D := [slD strC c.currencies, slD City.cells c.cities, slD GroupX.cells c.groups, slD Firm.cells c.firms, slD Order.cells c.orders, slD Usance.cells c.usances, slD RateX.cells c.rates, slD Halt.cells c.halts]
def Realm.E : Enc Realm := ⟨Realm.cells, 8, fun _ => rfl, fun _ => rfl⟩
def Realm.Small (r : Realm) : Prop := r.currencies.length ≤ 1000000 ∧ r.cities.length ≤ 1000000 ∧ r.groups.length ≤ 1000000 ∧ r.firms.length ≤ 1000000 ∧ r.orders.length ≤ 1000000 ∧ r.usances.length ≤ 1000000 ∧ r.rates.length ≤ 1000000 ∧ r.halts.length ≤ 1000000 ∧
 ∀ i, i < r.orders.length → (r.orders.getD i default).choices.length ≤ 1000000 ∧ (r.orders.getD i default).rules.length ≤ 1000000
def Realm.ByOK (r : Realm) : Prop := ∀ i j, i < r.orders.length → j < (r.orders.getD i default).choices.length → 0 ≤ ((r.orders.getD i default).choices.getD j default).by_ ∧ ((r.orders.getD i default).choices.getD j default).by_ < 5
def Realm.okB (r : Realm) : Bool := decide (r.currencies.length ≤ 1000000) && decide (r.cities.length ≤ 1000000) && decide (r.groups.length ≤ 1000000) && decide (r.firms.length ≤ 1000000) && decide (r.orders.length ≤ 1000000) && decide (r.usances.length ≤ 1000000) && decide (r.rates.length ≤ 1000000) && decide (r.halts.length ≤ 1000000) &&
 r.orders.all fun o => decide (o.choices.length ≤ 1000000) && decide (o.rules.length ≤ 1000000) && o.choices.all fun c => decide (0 ≤ c.by_) && decide (c.by_ < 5)
theorem Realm.ok_of {r : Realm} (h : r.okB = true) : r.Small ∧ r.ByOK := by
 simp only [Realm.okB, Bool.and_eq_true, decide_eq_true_eq, List.all_eq_true] at h
 obtain ⟨⟨⟨⟨⟨⟨⟨⟨h1, h2⟩, h3⟩, h4⟩, h5⟩, h6⟩, h7⟩, h8⟩, h9⟩ := h
 exact ⟨⟨h1, h2, h3, h4, h5, h6, h7, h8, fun i hi => (h9 _ (lget_mem hi _)).1⟩, fun i j hi hj => (h9 _ (lget_mem hi _)).2 _ (lget_mem hj _)⟩
def Realm.HaltOK (r : Realm) : Prop := ∀ i, i < r.halts.length → (r.halts.getD i default).to_ ≤ 100000
structure Tenor where
 kind : Int
 n : Int
 unit : Int
 deriving Inhabited
def Tenor.cells (c : Tenor) : List D := [dI c.kind, dI c.n, dI c.unit]
def Tenor.E : Enc Tenor := ⟨Tenor.cells, 3, fun _ => rfl, fun _ => rfl⟩
structure Bill where
 drawer : Int
 drawee : Int
 payee : Int
 sum : Int
 currency : Int
 tenor : Tenor
 day : Int
 city : Int
 pay : Int
 need : Int
 rate : Int
 flags : Int
 parts : Int
 deriving Inhabited
def Bill.cells (c : Bill) : List D := [dI c.drawer, dI c.drawee, dI c.payee, dI c.sum, dI c.currency] ++ c.tenor.cells ++ [dI c.day, dI c.city, dI c.pay, dI c.need, dI c.rate, dI c.flags, dI c.parts]
def Bill.E : Enc Bill := ⟨Bill.cells, 15, fun _ => rfl, fun _ => rfl⟩
structure Sign where
 kind : Int
 part : Int
 who : Int
 for_ : Int
 to_ : Int
 sum : Int
 day : Int
 city : Int
 flags : Int
 deriving Inhabited
def Sign.cells (c : Sign) : List D := [dI c.kind, dI c.part, dI c.who, dI c.for_, dI c.to_, dI c.sum, dI c.day, dI c.city, dI c.flags]
def Sign.E : Enc Sign := ⟨Sign.cells, 9, fun _ => rfl, fun _ => rfl⟩
structure Alter where
 at_ : Int
 sum : Int
 deriving Inhabited
def Alter.cells (c : Alter) : List D := [dI c.at_, dI c.sum]
def Alter.E : Enc Alter := ⟨Alter.cells, 2, fun _ => rfl, fun _ => rfl⟩
structure ActX where
 kind : Int
 who : Int
 to_ : Int
 part : Int
 at_ : Int
 sum : Int
 day : Int
 city : Int
 form : Int
 deriving Inhabited
def ActX.cells (c : ActX) : List D := [dI c.kind, dI c.who, dI c.to_, dI c.part, dI c.at_, dI c.sum, dI c.day, dI c.city, dI c.form]
def ActX.E : Enc ActX := ⟨ActX.cells, 9, fun _ => rfl, fun _ => rfl⟩
structure Fact where
 kind : Int
 at_ : Int
 n : Int
 deriving Inhabited
def Fact.cells (c : Fact) : List D := [dI c.kind, dI c.at_, dI c.n]
def Fact.E : Enc Fact := ⟨Fact.cells, 3, fun _ => rfl, fun _ => rfl⟩
structure File where
 bill : Bill
 signs : List Sign
 alters : List Alter
 acts : List ActX
 facts : List Fact
 deriving Inhabited
def File.cells (c : File) : List D := c.bill.cells ++ [slD Sign.cells c.signs, slD Alter.cells c.alters, slD ActX.cells c.acts, slD Fact.cells c.facts]
def File.E : Enc File := ⟨File.cells, 19, fun _ => rfl, fun _ => rfl⟩
def File.Small (f : File) : Prop := f.signs.length ≤ 1000000 ∧ f.alters.length ≤ 1000000 ∧ f.acts.length ≤ 1000000 ∧ f.facts.length ≤ 1000000
def Realm.FirmOK (r : Realm) : Prop := ∀ i, i < r.firms.length → 0 ≤ (r.firms.getD i default).city ∧ (r.firms.getD i default).city < r.cities.length
def Realm.RateOK (r : Realm) : Prop := ∀ i, i < r.rates.length → (1 ≤ (r.rates.getD i default).num ∧ (r.rates.getD i default).num ≤ 1073741824) ∧ 1 ≤ (r.rates.getD i default).den ∧ (r.rates.getD i default).den ≤ 1073741824
abbrev SumP (n : Int) : Prop := 0 ≤ n ∧ n ≤ 1099511627776
def File.SumOK (f : File) : Prop := SumP f.bill.sum ∧ (∀ q, q < f.alters.length → SumP (f.alters.getD q default).sum) ∧ (∀ q, q < f.signs.length → SumP (f.signs.getD q default).sum) ∧ ∀ q, q < f.acts.length → SumP (f.acts.getD q default).sum
def FitOK (f : File) (q : Nat) : Prop := SumP (f.signs.getD q default).sum ∧ (0 ≤ (f.signs.getD q default).kind ∧ (f.signs.getD q default).kind ≤ 4) ∧ ((f.signs.getD q default).kind = 0 ↔ q = 0) ∧ ((f.signs.getD q default).kind = 3 ∨ (f.signs.getD q default).kind = 4 → 0 ≤ (f.signs.getD q default).for_ ∧ (f.signs.getD q default).for_ < (q : Int))
def SgnOK (r : Realm) (f : File) (q : Nat) : Prop := (0 ≤ (f.signs.getD q default).who ∧ (f.signs.getD q default).who < r.firms.length) ∧ (q ≠ 0 → (f.signs.getD (q - 1) default).day ≤ (f.signs.getD q default).day) ∧ (f.signs.getD q default).day ≤ 100000 ∧ (q = 0 → (f.signs.getD q default).day = f.bill.day) ∧ (0 ≤ (f.signs.getD q default).part ∧ (f.signs.getD q default).part ≤ f.bill.parts - 1) ∧ FitOK f q
def DoneOK (f : File) (q : Nat) : Prop := SumP (f.acts.getD q default).sum ∧ (f.bill.day ≤ (f.acts.getD q default).day ∧ (f.acts.getD q default).day ≤ 100000) ∧ (q ≠ 0 → (f.acts.getD (q - 1) default).day ≤ (f.acts.getD q default).day) ∧ ((f.acts.getD q default).kind = 6 → (0 ≤ (f.acts.getD q default).at_ ∧ (f.acts.getD q default).at_ < f.signs.length) ∧ (f.signs.getD (f.acts.getD q default).at_.toNat default).day ≤ (f.acts.getD q default).day ∧ (f.signs.getD (f.acts.getD q default).at_.toNat default).who = (f.acts.getD q default).who)
def BillR (r : Realm) (b : Bill) : Prop := (1 ≤ b.sum ∧ b.sum ≤ 1099511627776) ∧ (0 ≤ b.pay ∧ b.pay < r.cities.length) ∧ (0 ≤ b.day ∧ b.day ≤ 100000) ∧ (1 ≤ b.parts ∧ b.parts ≤ 4) ∧ (0 ≤ b.currency ∧ b.currency < r.currencies.length)
def RightF (r : Realm) (f : File) : Prop := BillR r f.bill ∧ (f.signs.length ≤ 40 ∧ f.signs.length ≠ 0 ∧ f.alters.length ≤ 4 ∧ f.acts.length ≤ 100 ∧ f.facts.length ≤ 200) ∧ (∀ q, q < f.signs.length → SgnOK r f q) ∧ (∀ q, q < f.alters.length → SumP (f.alters.getD q default).sum) ∧ ∀ q, q < f.acts.length → DoneOK f q
theorem RightF.small {r : Realm} {f : File} (h : RightF r f) : f.Small := by have := h.2.1; unfold File.Small; omega
theorem RightF.sums {r : Realm} {f : File} (h : RightF r f) : f.SumOK := ⟨⟨by have := h.1.1; omega, h.1.1.2⟩, h.2.2.2.1, fun q hq => (h.2.2.1 q hq).2.2.2.2.2.1, fun q hq => (h.2.2.2.2 q hq).1⟩
theorem all_getD {α : Type} [Inhabited α] {l : List α} {P : α → Prop} : (∀ q, q < l.length → P (l.getD q default)) ↔ ∀ x, x ∈ l → P x := by
 constructor
 ·intro h x hx
  obtain ⟨i, hi, rfl⟩ := List.getElem_of_mem hx
  have := h i hi
  rwa [show l.getD i default = l[i] by simp [List.getD, hi]] at this
 ·exact fun h q hq => h _ (lget_mem hq _)
structure Claim where
 debtor : Int
 creditor : Int
 part : Int
 sign : Int
 by_ : Int
 turn : Int
 sum : Int
 currency : Int
 state : Int
 deriving Inhabited
def Claim.cells (c : Claim) : List D := [dI c.debtor, dI c.creditor, dI c.part, dI c.sign, dI c.by_, dI c.turn, dI c.sum, dI c.currency, dI c.state]
def Claim.E : Enc Claim := ⟨Claim.cells, 9, fun _ => rfl, fun _ => rfl⟩
noncomputable def L27_example_sk : Sk ((List Claim)) :=
 .r 1 (.o [.nrm (litC Claim.E [({ debtor := 1, creditor := 3, part := 0, sign := 1, by_ := 2, turn := 0, sum := 100, currency := 0, state := 1 } : Claim), ({ debtor := 2, creditor := 3, part := 0, sign := 2, by_ := 2, turn := 1, sum := 100, currency := 0, state := 1 } : Claim), ({ debtor := 0, creditor := 3, part := 0, sign := 0, by_ := 2, turn := 2, sum := 100, currency := 0, state := 1 } : Claim)])]) fun _ =>
 .fin [({ debtor := 1, creditor := 3, part := 0, sign := 1, by_ := 2, turn := 0, sum := 100, currency := 0, state := 1 } : Claim), ({ debtor := 2, creditor := 3, part := 0, sign := 2, by_ := 2, turn := 1, sum := 100, currency := 0, state := 1 } : Claim), ({ debtor := 0, creditor := 3, part := 0, sign := 0, by_ := 2, turn := 2, sum := 100, currency := 0, state := 1 } : Claim)]
noncomputable def L27_example : (List Claim) := (L27_example_sk).val
theorem L27_example_post : (fun (x : (List Claim)) => x.length = 3) (L27_example) := (show L27_example.length = 3 by kernel_rfl)
theorem L27_example_ok : (L27_example_sk).obs (fun _ => True) := by
 unfold L27_example_sk
 exact okE
noncomputable def L27_example_k : Ctr ((List Claim)) := kk tok mixed Tryz.func28 [] (fun x => lv Claim.cells x) false (L27_example_sk) (L27_example) (fun (_ : True) => L27_example_ok) (fun (x : (List Claim)) => x.length = 3) (L27_example_post)
structure Step where
 debtor : Int
 creditor : Int
 sign : Int
 sum : Int
 deriving Inhabited
def Step.cells (c : Step) : List D := [dI c.debtor, dI c.creditor, dI c.sign, dI c.sum]
def Step.E : Enc Step := ⟨Step.cells, 4, fun _ => rfl, fun _ => rfl⟩
noncomputable def slices_Clone_sk (s : List Claim) : Sk ((List Claim)) :=
 .nsp 0 s.length
 (.brt <|
 .fin [])
 (.brf <|
 .r 3 (.andl (.o [.nrm (litC Claim.E ([] : List Claim))]) (.andl (.o [.nrm (catC Claim.E ([] : List Claim) s)]) (.andl (.t (Claim.E.src s)) (.p (szP (([] : List Claim).length) s.length 72))))) fun _ =>
 .fin (([] : List Claim) ++ s))
noncomputable def slices_Clone (s : List Claim) : (List Claim) := (slices_Clone_sk s).val
theorem slices_Clone_pst (s : List Claim) : (slices_Clone_sk s).pst (fun (x : (List Claim)) => x.length = s.length ∧ x = s) := by
 unfold slices_Clone_sk
 simp [Sk.pst, litC, catC]
theorem slices_Clone_post (s : List Claim) : (fun (x : (List Claim)) => x.length = s.length ∧ x = s) (slices_Clone s) := have h := Sk.pval _ (slices_Clone_pst s); h
theorem slices_Clone_ok (s : List Claim) (hs : s.length ≤ 1000000000) : (slices_Clone_sk s).obs (fun _ => True) := by
 unfold slices_Clone_sk
 exact okD
theorem slices_Clone_fnO (s : List Claim) (hs : s.length ≤ 1000000000) : FnA Tryz.prog 63 [lv Claim.cells s] [] (ow 777777 (slices_Clone s)) [(777777, rowB 48 9 Claim.cells (slices_Clone s))] :=
 FnA.sk tok mixed (fun x => ow 777777 x) (fun x => [(777777, rowB 48 9 Claim.cells x)]) Tryz.func63 rfl (by kernel_rfl) 3000 (slices_Clone_sk s) (by kernel_rfl) (slices_Clone_ok s hs)
noncomputable def slices_Clone_ko (κ : Nat) (s : List Claim) : CtrO ((List Claim)) := ⟨Tryz.prog, 63, [lv Claim.cells s], fun x => ow κ x, fun x => [(κ, rowB 48 9 Claim.cells x)], slices_Clone s, (s.length ≤ 1000000000), fun h => FnA.rekey κ (slices_Clone_fnO s h), fun (x : (List Claim)) => x.length = s.length ∧ x = s, slices_Clone_post s⟩
noncomputable def pay_meets_sk (a : ActX) (stranger : Bool) (c_ : Claim) : Sk (Bool) :=
 .fin ((c_.creditor == a.to_) || ((c_.creditor == (-1)) && stranger))
noncomputable def pay_meets (a : ActX) (stranger : Bool) (c_ : Claim) : Bool := (pay_meets_sk a stranger c_).val
theorem pay_meets_eq (a : ActX) (stranger : Bool) (c_ : Claim) : pay_meets a stranger c_ = ((c_.creditor == a.to_) || ((c_.creditor == (-1)) && stranger)) := rfl
theorem pay_meets_ok (a : ActX) (stranger : Bool) (c_ : Claim) : (pay_meets_sk a stranger c_).obs (fun _ => True) := by
 unfold pay_meets_sk
 exact okE
noncomputable def pay_meets_k (a : ActX) (stranger : Bool) (c_ : Claim) : Ctr (Bool) := kk tok mixed Tryz.func64 [av a.cells, bv stranger, av c_.cells] (fun x => bv x) true (pay_meets_sk a stranger c_) (pay_meets a stranger c_) (fun (_ : True) => pay_meets_ok a stranger c_)
structure Key where
 debtor : Int
 creditor : Int
 part : Int
 sign : Int
 by_ : Int
 deriving Inhabited
def Key.cells (c : Key) : List D := [dI c.debtor, dI c.creditor, dI c.part, dI c.sign, dI c.by_]
def Key.E : Enc Key := ⟨Key.cells, 5, fun _ => rfl, fun _ => rfl⟩
noncomputable def pay_of_sk (c_ : Claim) : Sk (Key) :=
 .fin ({ debtor := c_.debtor, creditor := c_.creditor, part := c_.part, sign := c_.sign, by_ := c_.by_ } : Key)
noncomputable def pay_of (c_ : Claim) : Key := (pay_of_sk c_).val
theorem pay_of_eq (c_ : Claim) : pay_of c_ = ({ debtor := c_.debtor, creditor := c_.creditor, part := c_.part, sign := c_.sign, by_ := c_.by_ } : Key) := rfl
theorem pay_of_ok (c_ : Claim) : (pay_of_sk c_).obs (fun _ => True) := by
 unfold pay_of_sk
 exact okE
noncomputable def pay_of_k (c_ : Claim) : Ctr (Key) := kk tok mixed Tryz.func132 [av c_.cells] (fun x => av x.cells) true (pay_of_sk c_) (pay_of c_) (fun (_ : True) => pay_of_ok c_)
noncomputable def bind_join_sk (l : List Int) : Sk (Int) :=
 .bind true (fun _ => True)
 (.loop (default : Sum (Int) (Int)) (fun i2 => i2.2 ≤ l.length) (fun i2 => l.length - i2.2) ((1, 0) : Int × Nat)
 (fun (i2 : Int × Nat) => ⟨[(3, iv i2.1), (8, iv (i2.2 : Int))], []⟩) fun i2 =>
 .bnd 6 0 l.length <|
 .br (decide ((i2.2 : Int) < ((l.length : Nat) : Int)))
 (.r 4 (.p (ixP (i2.2 : Int) l.length)) fun _ =>
 .br ((l.getD i2.2 default) == 0)
 (.fin (.inl (.inl 0)))
 (.br ((l.getD i2.2 default) == 2)
 (.r 9 .z fun _ =>
 .wi 8 (w64 ((i2.2 : Int) + 1)) ((i2.2 + 1 : Nat) : Int) <|
 .fin (.inr (2, i2.2 + 1)))
 (.r 9 .z fun _ =>
 .wi 8 (w64 ((i2.2 : Int) + 1)) ((i2.2 + 1 : Nat) : Int) <|
 .fin (.inr (i2.1, i2.2 + 1)))))
 (.fin (.inl (.inr i2.1))))
 (fun (b1 : Int) => ⟨[(3, iv b1)], []⟩) fun b1 =>
 .fin b1
noncomputable def bind_join (l : List Int) : Int := (bind_join_sk l).val
theorem bind_join_ok (l : List Int) : (bind_join_sk l).obs (fun _ => True) := by
 unfold bind_join_sk
 exact okD
noncomputable def bind_join_k (l : List Int) : Ctr (Int) := kk tok mixed Tryz.func151 [lv intC l] (fun x => iv x) true (bind_join_sk l) (bind_join l) (fun (_ : True) => bind_join_ok l)
noncomputable def bind_And_sk (a : Int) (b : Int) : Sk (Int) :=
 .r 1 (.andl (.o [.nrm (litC intE [a, b])]) ((bind_join_k [a, b]).c)) fun x1 =>
 .fin x1
noncomputable def bind_And (a : Int) (b : Int) : Int := (bind_And_sk a b).val
theorem bind_And_ok (a : Int) (b : Int) : (bind_And_sk a b).obs (fun _ => True) := by
 unfold bind_And_sk
 try simp only [bind_join_k]
 exact okE
noncomputable def bind_And_k (a : Int) (b : Int) : Ctr (Int) := kk tok mixed Tryz.func133 [iv a, iv b] (fun x => iv x) true (bind_And_sk a b) (bind_And a b) (fun (_ : True) => bind_And_ok a b)
def KeyEq (x y : Claim) : Prop := x.debtor = y.debtor ∧ x.creditor = y.creditor ∧ x.part = y.part ∧ x.sign = y.sign ∧ x.by_ = y.by_
def Merged (f : Claim → Claim) (l : List Claim) (c : Claim) (x : List Claim) : Prop :=
 (∃ i, i < l.length ∧ KeyEq (l.getD i default) c ∧ x = l.set i (f (l.getD i default))) ∨ ((∀ i, i < l.length → ¬ KeyEq (l.getD i default) c) ∧ x = l ++ [c])
noncomputable def fG (c x : Claim) : Claim := { x with sum := maxI x.sum c.sum, state := bind_And c.state x.state }
noncomputable def fJ (c x : Claim) : Claim := { x with sum := minI 1099511627776 (w64 (x.sum + c.sum)), state := bind_And x.state c.state }
def lessOf (a : ActX) (x : Claim) : Int := minI (maxI 0 a.sum) (maxI 0 x.sum)
noncomputable def redOf (a : ActX) (st : Bool) (x : Claim) : Claim := bif pay_meets a st x then { x with sum := w64 (maxI 0 x.sum - lessOf a x) } else x
def Like (x y : Claim) : Prop := KeyEq x y ∧ x.turn = y.turn ∧ x.currency = y.currency
theorem Like.rfl' (x : Claim) : Like x x := ⟨⟨rfl, rfl, rfl, rfl, rfl⟩, rfl, rfl⟩
theorem Like.trans {x y z : Claim} (h : Like x y) (k : Like y z) : Like x z := ⟨⟨h.1.1.trans k.1.1, h.1.2.1.trans k.1.2.1, h.1.2.2.1.trans k.1.2.2.1, h.1.2.2.2.1.trans k.1.2.2.2.1, h.1.2.2.2.2.trans k.1.2.2.2.2⟩, h.2.1.trans k.2.1, h.2.2.trans k.2.2⟩
def Sub (l : List Claim) (a : ActX) (c : Claim) : Prop := (c.creditor = a.who ∧ c.by_ = a.at_ ∧ c.debtor ≠ a.who) ∧ (∃ x ∈ l, x.debtor = c.debtor ∧ x.part = c.part ∧ x.sign = c.sign ∧ x.currency = c.currency) ∧ ((∀ x ∈ l, SumP x.sum) → SumP c.sum)
def InnOK (l : List Claim) (a : ActX) (inn : List Claim) : Prop := (∀ c ∈ inn, Sub l a c) ∧ inn.Pairwise fun x y => ¬ KeyEq x y
theorem maxI_le' {a b : Int} (ha : SumP a) (hb : SumP b) : SumP (maxI a b) := by unfold maxI SumP at *; split <;> omega
theorem KeyEq.comm {x y : Claim} (h : KeyEq x y) : KeyEq y x := ⟨h.1.symm, h.2.1.symm, h.2.2.1.symm, h.2.2.2.1.symm, h.2.2.2.2.symm⟩
theorem KeyEq.tr {x y z : Claim} (h : KeyEq x y) (k : KeyEq y z) : KeyEq x z := ⟨h.1.trans k.1, h.2.1.trans k.2.1, h.2.2.1.trans k.2.2.1, h.2.2.2.1.trans k.2.2.2.1, h.2.2.2.2.trans k.2.2.2.2⟩
theorem mem_set' {l : List Claim} {i : Nat} {y x : Claim} (h : x ∈ l.set i y) : x = y ∨ x ∈ l := by
 rcases List.mem_or_eq_of_mem_set h with h | h
 ·exact .inr h
 ·exact .inl h
theorem getD_mem {l : List Claim} {i : Nat} (h : i < l.length) : l.getD i default ∈ l := lget_mem h _
theorem getD_set {l : List Claim} {i j : Nat} {y : Claim} (h : j < l.length) : (l.set i y).getD j default = if i = j then y else l.getD j default := by
 simp only [List.getD, List.getElem?_set]
 split
 ·subst_vars; simp [h]
 ·rfl
theorem InnOK.group {l : List Claim} {a : ActX} {inn x : List Claim} {c : Claim} (h : InnOK l a inn) (hc : Sub l a c) (hm : Merged (fG c) inn c x) : InnOK l a x := by
 rcases hm with ⟨i, hi, hk, rfl⟩ | ⟨hn, rfl⟩
 ·have hs := h.1 _ (getD_mem hi)
  have hx : KeyEq (fG c (inn.getD i default)) (inn.getD i default) := ⟨rfl, rfl, rfl, rfl, rfl⟩
  refine ⟨fun z hz => ?_, ?_⟩
  ·rcases mem_set' hz with rfl | hz
   ·exact ⟨hs.1, hs.2.1, fun hP => maxI_le' (hs.2.2 hP) (hc.2.2 hP)⟩
   ·exact h.1 z hz
  ·rw [List.pairwise_iff_getElem]
   intro p q hp hq hpq
   have hp' : p < inn.length := by simpa using hp
   have hq' : q < inn.length := by simpa using hq
   have h0 := List.pairwise_iff_getElem.1 h.2 p q hp' hq' hpq
   simp only [List.getElem_set]
   have e : ∀ j (hj : j < inn.length), i = j → KeyEq (fG c (inn.getD i default)) inn[j] := by
    rintro j hj rfl
    simpa [List.getD, hj] using hx
   intro hk2
   apply h0
   split at hk2 <;> split at hk2
   ·omega
   ·exact (e p hp' ‹_›).comm.tr hk2
   ·exact hk2.tr (e q hq' ‹_›)
   ·exact hk2
 ·refine ⟨fun z hz => ?_, ?_⟩
  ·rcases List.mem_append.1 hz with hz | hz
   ·exact h.1 z hz
   ·rw [List.mem_singleton.1 hz]; exact hc
  ·rw [List.pairwise_append]
   refine ⟨h.2, List.pairwise_singleton _ _, fun x hx y hy => ?_⟩
   rw [List.mem_singleton.1 hy]
   obtain ⟨j, hj, rfl⟩ := List.getElem_of_mem hx
   have := hn j hj
   rwa [show inn.getD j default = inn[j] by simp [List.getD, hj]] at this
theorem nodup_len {α : Type} : ∀ (l D : List α), l.Pairwise (· ≠ ·) → (∀ x ∈ l, x ∈ D) → l.length ≤ D.length
 | [], D, _, _ => Nat.zero_le _
 | x :: r, D, hp, hs => by
  classical
  have hx : x ∈ D := hs x (by simp)
  rw [List.pairwise_cons] at hp
  have := nodup_len r (D.erase x) hp.2 (fun y hy => (List.mem_erase_of_ne (fun e => hp.1 y hy e.symm)).2 (hs y (by simp [hy])))
  rw [List.length_erase_of_mem hx] at this
  have hpos : 0 < D.length := List.length_pos_of_mem hx
  simp only [List.length_cons]
  omega
def dps (x : Claim) : Int × Int × Int := (x.debtor, x.part, x.sign)
theorem InnOK.len {l : List Claim} {a : ActX} {inn : List Claim} (h : InnOK l a inn) {D : List (Int × Int × Int)} (hD : ∀ x ∈ l, dps x ∈ D) : inn.length ≤ D.length := by
 have := nodup_len (inn.map dps) D ?_ ?_
 ·simpa using this
 ·rw [List.pairwise_map]
  refine List.Pairwise.imp_of_mem ?_ h.2
  intro x y hx hy hne e
  have hx := (h.1 x hx).1
  have hy := (h.1 y hy).1
  simp only [dps, Prod.mk.injEq] at e
  exact hne ⟨e.1, hx.1.trans hy.1.symm, e.2.1, e.2.2, hx.2.1.trans hy.2.1.symm⟩
 ·intro z hz
  obtain ⟨c, hc, rfl⟩ := List.mem_map.1 hz
  obtain ⟨x, hx, e1, e2, e3, -⟩ := (h.1 c hc).2.1
  have := hD x hx
  rwa [show dps x = dps c by simp [dps, e1, e2, e3]] at this
def Inv0 (l : List Claim) (a : ActX) (st : Bool) (k : Nat) (out inn : List Claim) : Prop :=
 out.length = l.length ∧ (∀ i, i < l.length → out.getD i default = if i < k then redOf a st (l.getD i default) else l.getD i default) ∧ InnOK l a inn
theorem Inv0.init (l : List Claim) (a : ActX) (st : Bool) : Inv0 l a st 0 l [] := ⟨rfl, fun i _ => by simp, fun c hc => by simp at hc, .nil⟩
theorem Inv0.skip {l : List Claim} {a : ActX} {st : Bool} {k : Nat} {out inn : List Claim} (h : Inv0 l a st k out inn) (hk : k < l.length) (hm : pay_meets a st (l.getD k default) = false) : Inv0 l a st (k + 1) out inn := by
 refine ⟨h.1, fun i hi => ?_, h.2.2⟩
 rw [h.2.1 i hi]
 by_cases hik : i = k
 ·subst hik; rw [if_neg (Nat.lt_irrefl i), if_pos (Nat.lt_succ_self i)]; unfold redOf; rw [hm]; rfl
 ·by_cases h1 : i < k
  ·rw [if_pos h1, if_pos (by omega)]
  ·rw [if_neg h1, if_neg (by omega)]
theorem Inv0.meet {l : List Claim} {a : ActX} {st : Bool} {k : Nat} {out inn inn' : List Claim} (h : Inv0 l a st k out inn) (hk : k < l.length) (hm : pay_meets a st (l.getD k default) = true) (hi : InnOK l a inn') :
  Inv0 l a st (k + 1) (out.set k { out.getD k default with sum := w64 (maxI 0 (l.getD k default).sum - lessOf a (l.getD k default)) }) inn' := by
 have hok := h.2.1 k hk
 rw [if_neg (Nat.lt_irrefl k)] at hok
 refine ⟨by rw [List.length_set]; exact h.1, fun i hi => ?_, hi⟩
 rw [getD_set (by rw [h.1]; exact hi)]
 by_cases hik : k = i
 ·subst hik; rw [if_pos rfl, if_pos (by omega), hok]; unfold redOf; rw [hm]; rfl
 ·rw [if_neg hik, h.2.1 i hi]
  by_cases h1 : i < k
  ·rw [if_pos h1, if_pos (by omega)]
  ·rw [if_neg h1, if_neg (by omega)]
theorem sub_less {l : List Claim} {a : ActX} {c : Claim} (hc : c ∈ l) (hd : c.debtor ≠ a.who) (s : Int) (hs : s = lessOf a c) : Sub l a { c with creditor := a.who, by_ := a.at_, sum := s } := by
 subst hs
 refine ⟨⟨rfl, rfl, hd⟩, ⟨c, hc, rfl, rfl, rfl, rfl⟩, fun hP => ?_⟩
 have := hP c hc
 unfold SumP at *
 show 0 ≤ lessOf a c ∧ lessOf a c ≤ 1099511627776
 unfold lessOf minI maxI
 constructor <;> (repeat' split) <;> omega
def Inv1 (a : ActX) (m inn : List Claim) (k : Nat) (v : List Claim) : Prop :=
 (m.length ≤ v.length ∧ v.length ≤ m.length + k) ∧ (∀ i, i < m.length → Like (v.getD i default) (m.getD i default) ∧ ((m.getD i default).creditor ≠ a.who → v.getD i default = m.getD i default)) ∧
  (∀ i, m.length ≤ i → i < v.length → ∃ c ∈ inn, Like (v.getD i default) c) ∧ ((∀ x ∈ m, SumP x.sum) → (∀ x ∈ inn, SumP x.sum) → ∀ x ∈ v, SumP x.sum)
theorem Inv1.init (a : ActX) (m inn : List Claim) : Inv1 a m inn 0 m := ⟨⟨Nat.le_refl _, Nat.le_refl _⟩, fun i hi => ⟨Like.rfl' _, fun _ => rfl⟩, fun i h1 h2 => absurd h2 (by omega), fun h _ => h⟩
theorem fJ_sum {c x : Claim} (hc : SumP c.sum) (hx : SumP x.sum) : SumP (fJ c x).sum := by
 unfold SumP at *
 show 0 ≤ minI _ _ ∧ minI _ _ ≤ _
 rw [w64_id (by omega) (by omega)]
 unfold minI; split <;> omega
theorem Inv1.step {a : ActX} {m inn v x : List Claim} {k : Nat} {c : Claim} (h : Inv1 a m inn k v) (hc : c ∈ inn) (hw : c.creditor = a.who) (hm : Merged (fJ c) v c x) : Inv1 a m inn (k + 1) x := by
 obtain ⟨⟨h1, h2⟩, h3, h4, h5⟩ := h
 rcases hm with ⟨i, hi, hk, rfl⟩ | ⟨hn, rfl⟩
 ·have hl : Like (fJ c (v.getD i default)) (v.getD i default) := ⟨⟨rfl, rfl, rfl, rfl, rfl⟩, rfl, rfl⟩
  refine ⟨⟨by simpa using h1, by rw [List.length_set]; omega⟩, fun j hj => ?_, fun j hj hj2 => ?_, fun hP hQ z hz => ?_⟩
  ·rw [getD_set (by omega)]
   split
   ·subst_vars
    refine ⟨hl.trans (h3 _ hj).1, fun hne => absurd ?_ hne⟩
    have e2 := hk.2.1
    have e3 := (h3 _ hj).1.1.2.1
    rw [← e3, e2, hw]
   ·exact h3 j hj
  ·rw [List.length_set] at hj2
   rw [getD_set hj2]
   split
   ·subst_vars
    obtain ⟨d, hd, e⟩ := h4 _ hj hj2
    exact ⟨d, hd, hl.trans e⟩
   ·exact h4 j hj hj2
  ·rcases mem_set' hz with rfl | hz
   ·exact fJ_sum (hQ c hc) (h5 hP hQ _ (getD_mem hi))
   ·exact h5 hP hQ z hz
 ·have e : ∀ j, j < v.length → (v ++ [c]).getD j default = v.getD j default := fun j hj => by simp [List.getD, List.getElem?_append_left hj]
  refine ⟨⟨by simp; omega, by simp; omega⟩, fun j hj => ?_, fun j hj hj2 => ?_, fun hP hQ z hz => ?_⟩
  ·rw [e j (by omega)]; exact h3 j hj
  ·by_cases hjv : j < v.length
   ·rw [e j hjv]; exact h4 j hj hjv
   ·have : j = v.length := by simp at hj2; omega
    subst this
    exact ⟨c, hc, by simp [List.getD]; exact Like.rfl' _⟩
  ·rcases List.mem_append.1 hz with hz | hz
   ·exact h5 hP hQ z hz
   ·rw [List.mem_singleton.1 hz]; exact hQ c hc
structure Applied (l : List Claim) (a : ActX) (st : Bool) (out : List Claim) : Prop where
 len : l.length ≤ out.length
 old : ∀ i, i < l.length → Like (out.getD i default) (l.getD i default) ∧ ((l.getD i default).creditor ≠ a.who → out.getD i default = redOf a st (l.getD i default))
 new : ∀ i, l.length ≤ i → i < out.length → (out.getD i default).creditor = a.who ∧ (out.getD i default).by_ = a.at_ ∧ (out.getD i default).debtor ≠ a.who ∧ ∃ x ∈ l, x.debtor = (out.getD i default).debtor ∧ x.part = (out.getD i default).part ∧ x.sign = (out.getD i default).sign ∧ x.currency = (out.getD i default).currency
 sums : (∀ x ∈ l, SumP x.sum) → ∀ x ∈ out, SumP x.sum
 few : ∀ D : List (Int × Int × Int), (∀ x ∈ l, dps x ∈ D) → out.length ≤ l.length + D.length
theorem red_like (a : ActX) (st : Bool) (x : Claim) : Like (redOf a st x) x := by
 unfold redOf
 cases pay_meets a st x
 ·exact Like.rfl' x
 ·exact ⟨⟨rfl, rfl, rfl, rfl, rfl⟩, rfl, rfl⟩
theorem red_sum {a : ActX} {st : Bool} {x : Claim} (h : SumP x.sum) : SumP (redOf a st x).sum := by
 unfold redOf
 cases pay_meets a st x
 ·exact h
 ·unfold SumP at *
  have h1 : 0 ≤ lessOf a x ∧ lessOf a x ≤ x.sum := by unfold lessOf minI maxI; constructor <;> (repeat' split) <;> omega
  have h2 : maxI 0 x.sum = x.sum := by unfold maxI; split <;> omega
  show 0 ≤ w64 _ ∧ w64 _ ≤ _
  rw [h2, w64_id (by omega) (by omega)]
  omega
theorem Applied.mk' {l : List Claim} {a : ActX} {st : Bool} {m inn v : List Claim} {k n : Nat} (h0 : Inv0 l a st n m inn) (hn : n = l.length) (h1 : Inv1 a m inn k v) (hk : k ≤ inn.length) : Applied l a st v := by
 subst hn
 obtain ⟨hl, hr, hi⟩ := h0
 obtain ⟨⟨h11, h12⟩, h13, h14, h15⟩ := h1
 have hr' : ∀ i, i < l.length → m.getD i default = redOf a st (l.getD i default) := fun i h => by rw [hr i h, if_pos h]
 refine ⟨by omega, fun i h => ?_, fun i h h2 => ?_, fun hP => ?_, fun D hD => ?_⟩
 ·have h3 := h13 i (by omega)
  rw [hr' i h] at h3
  refine ⟨h3.1.trans (red_like a st _), fun hne => h3.2 ?_⟩
  rw [(red_like a st (l.getD i default)).1.2.1]
  exact hne
 ·obtain ⟨c, hc, e⟩ := h14 i (by omega) h2
  obtain ⟨⟨k1, k2, k3⟩, ⟨x, hx, e1, e2, e3, e4⟩, -⟩ := hi.1 c hc
  obtain ⟨⟨f1, f2, f3, f4, f5⟩, -, f6⟩ := e
  exact ⟨f2.trans k1, f5.trans k2, fun z => k3 (f1 ▸ z), x, hx, e1.trans f1.symm, e2.trans f3.symm, e3.trans f4.symm, e4.trans f6.symm⟩
 ·refine h15 (fun x hx => ?_) (fun x hx => (hi.1 x hx).2.2 hP)
  obtain ⟨i, hi', rfl⟩ := List.getElem_of_mem hx
  have := hr' i (by omega)
  rw [show m.getD i default = m[i] by simp [List.getD, hi']] at this
  rw [this]
  exact red_sum (hP _ (getD_mem (by omega)))
 ·have := hi.len hD
  omega
theorem key_beq {x c : Claim} : ((x.debtor == c.debtor) && ((x.creditor == c.creditor) && ((x.part == c.part) && ((x.sign == c.sign) && ((x.by_ == c.by_) && true))))) = true ↔ KeyEq x c := by
 simp only [Bool.and_eq_true, beq_iff_eq, Bool.and_true]
 exact Iff.rfl
theorem set_two {l : List Claim} {i : Nat} (h : i < l.length) (y : Claim) (s : Int) : (l.set i y).set i { (l.set i y).getD i default with state := s } = l.set i { y with state := s } := by
 rw [List.set_set, getD_set h, if_pos rfl]
theorem nokey {l : List Claim} {c : Claim} {i : Nat} (h : ∀ q, q < i → ¬ KeyEq (l.getD q default) c) (hk : (((l.getD i default).debtor == c.debtor) && (((l.getD i default).creditor == c.creditor) && (((l.getD i default).part == c.part) && (((l.getD i default).sign == c.sign) && (((l.getD i default).by_ == c.by_) && true))))) = false) : ∀ q, q < i + 1 → ¬ KeyEq (l.getD q default) c := by
 intro q hq e
 by_cases h1 : q < i
 ·exact h q h1 e
 ·obtain rfl : q = i := by omega
  rw [key_beq.2 e] at hk
  cases hk
theorem Merged.len {f : Claim → Claim} {l x : List Claim} {c : Claim} (h : Merged f l c x) : x.length ≤ l.length + 1 := by
 rcases h with ⟨i, hi, -, rfl⟩ | ⟨-, rfl⟩
 ·rw [List.length_set]; omega
 ·simp
noncomputable def pay_group_sk (l : List Claim) (c_ : Claim) : Sk ((List Claim)) :=
 .bind true (fun b1 => ∀ q, q < l.length → ¬ KeyEq (l.getD q default) c_)
 (.loop (default : Sum ((List Claim)) (Unit)) (fun i2 => i2 ≤ l.length ∧ ∀ q, q < i2 → ¬ KeyEq (l.getD q default) c_) (fun i2 => l.length - i2) (0 : Nat)
 (fun (i2 : Nat) => ⟨[(9, iv (i2 : Int))], []⟩) fun i2 =>
 .bnd 0 0 l.length <|
 .br (decide ((i2 : Int) < ((l.length : Nat) : Int)))
 (.r 3 (.andl (.p (ixP (i2 : Int) l.length)) (.p (i2 < l.length))) fun _ =>
 .r 4 (.dep ((pay_of_k (l.getD i2 default)).c) fun _ => (pay_of_k c_).c) fun p6 =>
 .br ((p6.1.debtor == p6.2.debtor) && ((p6.1.creditor == p6.2.creditor) && ((p6.1.part == p6.2.part) && ((p6.1.sign == p6.2.sign) && ((p6.1.by_ == p6.2.by_) && true)))))
 (.r 5 (.andl (.p (ixP (i2 : Int) l.length)) (.andl (.o [.nrm (setC Claim.E l i2 ({ l.getD i2 default with sum := maxI ((l.getD i2 default).sum) c_.sum }))]) (.p (i2 < l.length)))) fun _ =>
 .wn 777776 l.length (l.set i2 ({ l.getD i2 default with sum := maxI ((l.getD i2 default).sum) c_.sum })).length <|
 .r 6 (.depr ((bind_And_k c_.state ((l.getD i2 default).state)).c) fun x5 => .andl (.p (ixP (i2 : Int) ((l.set i2 ({ l.getD i2 default with sum := maxI ((l.getD i2 default).sum) c_.sum })).length))) (.andl (.o [.nrm (setC Claim.E (l.set i2 ({ l.getD i2 default with sum := maxI ((l.getD i2 default).sum) c_.sum })) i2 ({ (l.set i2 ({ l.getD i2 default with sum := maxI ((l.getD i2 default).sum) c_.sum })).getD i2 default with state := x5 }))]) (.p (i2 < (l.set i2 ({ l.getD i2 default with sum := maxI ((l.getD i2 default).sum) c_.sum })).length)))) fun x5 =>
 .wn 777776 (l.set i2 ({ l.getD i2 default with sum := maxI ((l.getD i2 default).sum) c_.sum })).length ((l.set i2 ({ l.getD i2 default with sum := maxI ((l.getD i2 default).sum) c_.sum })).set i2 ({ (l.set i2 ({ l.getD i2 default with sum := maxI ((l.getD i2 default).sum) c_.sum })).getD i2 default with state := x5 })).length <|
 .fin (.inl (.inl ((l.set i2 ({ l.getD i2 default with sum := maxI ((l.getD i2 default).sum) c_.sum })).set i2 ({ (l.set i2 ({ l.getD i2 default with sum := maxI ((l.getD i2 default).sum) c_.sum })).getD i2 default with state := x5 })))))
 (.r 8 .z fun _ =>
 .wi 9 (w64 ((i2 : Int) + 1)) ((i2 + 1 : Nat) : Int) <|
 .fin (.inr (i2 + 1))))
 (.fin (.inl (.inr ()))))
 (fun (_ : Unit) => ⟨[], []⟩) fun _ =>
 .r 9 (.andl (.o [.nrm (litC Claim.E [c_])]) (.andl (.o [.nrm (catC Claim.E l [c_])]) (.andl (.t (Claim.E.ones [c_])) (.p (szP l.length [c_].length 72))))) fun _ =>
 .fin (l ++ [c_])
noncomputable def pay_group (l : List Claim) (c_ : Claim) : (List Claim) := (pay_group_sk l c_).val
theorem pay_group_pst (l : List Claim) (c_ : Claim) : (pay_group_sk l c_).pst (fun (x : (List Claim)) => Merged (fG c_) l c_ x) := by
 refine Sk.pst_of _ ?_
 unfold pay_group_sk
 simp only [Sk.pstq, Sk.isLoop, reduceCtorEq, ON, kk, bind_And_k, pay_of_k, pay_of_eq, forall_eq, maxLen]
 refine ⟨⟨⟨Nat.zero_le _, fun q hq => absurd hq (by omega)⟩, fun i hi => ⟨fun hc _ => ⟨fun hk _ => ?_, fun hk _ => ⟨⟨?_, nokey hi.2 hk⟩, by simp only [LN] at hc; omega⟩⟩, fun hc => ?_⟩⟩, fun _ hb _ => .inr ⟨hb, rfl⟩⟩
 all_goals simp only [LN] at hc
 ·exact .inl ⟨i, by omega, key_beq.1 hk, set_two (by omega) _ _⟩
 ·omega
 ·exact fun q hq => hi.2 q (by omega)
theorem pay_group_post (l : List Claim) (c_ : Claim) : (fun (x : (List Claim)) => Merged (fG c_) l c_ x) (pay_group l c_) := have h := Sk.pval _ (pay_group_pst l c_); h
theorem pay_group_ok (l : List Claim) (c_ : Claim) (hl : l.length ≤ 1000000000000) : (pay_group_sk l c_).obs (fun _ => True) := by
 refine Sk.obs_of _ ?_
 unfold pay_group_sk
 simp only [Sk.obq, Sk.isLoop, reduceCtorEq, ON, kk, bind_And_k, pay_of_k, pay_of_eq, forall_eq, maxLen]
 refine ⟨⟨⟨Nat.zero_le _, fun q hq => absurd hq (by omega)⟩, fun i hi hm => ⟨fun hc => ?_, fun hc q hq => hi.2 q (by simp only [LN] at hc; omega)⟩⟩, fun b hb => ?_⟩
 ·simp only [LN] at hc
  refine ⟨⟨⟨by omega, by omega⟩, by omega⟩, fun _ => ⟨fun hk => ?_, fun hk _ => ⟨(w64_id (by omega) (by omega)).trans (by omega), ⟨by omega, nokey hi.2 hk⟩, by omega⟩⟩⟩
  simp only [List.length_set]
  refine ⟨⟨⟨by omega, by omega⟩, by omega⟩, fun _ => ?_⟩
  (repeat' first | exact trivial | (apply And.intro) | (intro h))
  all_goals first | rfl | trivial | omega
 ·simp only [List.length_cons, List.length_nil]
  omega
theorem pay_group_fnH (l : List Claim) (c_ : Claim) (hl : l.length ≤ 1000000000000) : FnA Tryz.prog 65 [ow 777776 l, av c_.cells] [(777776, rowB 48 9 Claim.cells l)] (ow 777777 (pay_group l c_)) [(777777, rowB 48 9 Claim.cells (pay_group l c_))] :=
 FnA.sk tok mixed (fun x => ow 777777 x) (fun x => [(777777, rowB 48 9 Claim.cells x)]) Tryz.func65 rfl (by kernel_rfl) 3000 (pay_group_sk l c_) (by kernel_rfl) (pay_group_ok l c_ hl)
noncomputable def pay_group_kh (κ κ' : Nat) (l : List Claim) (c_ : Claim) : CtrH ((List Claim)) := ⟨Tryz.prog, 65, [ow κ l, av c_.cells], [(κ, rowB 48 9 Claim.cells l)], fun x => ow κ' x, fun x => [(κ', rowB 48 9 Claim.cells x)], pay_group l c_, (l.length ≤ 1000000000000), fun h => FnA.rekeyA κ rfl (FnA.rekeyR κ' (pay_group_fnH l c_ h)), fun (x : (List Claim)) => Merged (fG c_) l c_ x, pay_group_post l c_⟩
noncomputable def pay_join_sk (l : List Claim) (c_ : Claim) : Sk ((List Claim)) :=
 .bind true (fun b1 => ∀ q, q < l.length → ¬ KeyEq (l.getD q default) c_)
 (.loop (default : Sum ((List Claim)) (Unit)) (fun i2 => i2 ≤ l.length ∧ ∀ q, q < i2 → ¬ KeyEq (l.getD q default) c_) (fun i2 => l.length - i2) (0 : Nat)
 (fun (i2 : Nat) => ⟨[(9, iv (i2 : Int))], []⟩) fun i2 =>
 .bnd 0 0 l.length <|
 .br (decide ((i2 : Int) < ((l.length : Nat) : Int)))
 (.r 3 (.andl (.p (ixP (i2 : Int) l.length)) (.p (i2 < l.length))) fun _ =>
 .r 4 (.dep ((pay_of_k (l.getD i2 default)).c) fun _ => (pay_of_k c_).c) fun p6 =>
 .br ((p6.1.debtor == p6.2.debtor) && ((p6.1.creditor == p6.2.creditor) && ((p6.1.part == p6.2.part) && ((p6.1.sign == p6.2.sign) && ((p6.1.by_ == p6.2.by_) && true)))))
 (.r 5 (.andl (.p (ixP (i2 : Int) l.length)) (.andl (.o [.nrm (setC Claim.E l i2 ({ l.getD i2 default with sum := minI 1099511627776 (w64 (((l.getD i2 default).sum) + c_.sum)) }))]) (.p (i2 < l.length)))) fun _ =>
 .wn 777776 l.length (l.set i2 ({ l.getD i2 default with sum := minI 1099511627776 (w64 (((l.getD i2 default).sum) + c_.sum)) })).length <|
 .r 6 (.depr ((bind_And_k ((l.getD i2 default).state) c_.state).c) fun x5 => .andl (.p (ixP (i2 : Int) ((l.set i2 ({ l.getD i2 default with sum := minI 1099511627776 (w64 (((l.getD i2 default).sum) + c_.sum)) })).length))) (.andl (.o [.nrm (setC Claim.E (l.set i2 ({ l.getD i2 default with sum := minI 1099511627776 (w64 (((l.getD i2 default).sum) + c_.sum)) })) i2 ({ (l.set i2 ({ l.getD i2 default with sum := minI 1099511627776 (w64 (((l.getD i2 default).sum) + c_.sum)) })).getD i2 default with state := x5 }))]) (.p (i2 < (l.set i2 ({ l.getD i2 default with sum := minI 1099511627776 (w64 (((l.getD i2 default).sum) + c_.sum)) })).length)))) fun x5 =>
 .wn 777776 (l.set i2 ({ l.getD i2 default with sum := minI 1099511627776 (w64 (((l.getD i2 default).sum) + c_.sum)) })).length ((l.set i2 ({ l.getD i2 default with sum := minI 1099511627776 (w64 (((l.getD i2 default).sum) + c_.sum)) })).set i2 ({ (l.set i2 ({ l.getD i2 default with sum := minI 1099511627776 (w64 (((l.getD i2 default).sum) + c_.sum)) })).getD i2 default with state := x5 })).length <|
 .fin (.inl (.inl ((l.set i2 ({ l.getD i2 default with sum := minI 1099511627776 (w64 (((l.getD i2 default).sum) + c_.sum)) })).set i2 ({ (l.set i2 ({ l.getD i2 default with sum := minI 1099511627776 (w64 (((l.getD i2 default).sum) + c_.sum)) })).getD i2 default with state := x5 })))))
 (.r 8 .z fun _ =>
 .wi 9 (w64 ((i2 : Int) + 1)) ((i2 + 1 : Nat) : Int) <|
 .fin (.inr (i2 + 1))))
 (.fin (.inl (.inr ()))))
 (fun (_ : Unit) => ⟨[], []⟩) fun _ =>
 .r 9 (.andl (.o [.nrm (litC Claim.E [c_])]) (.andl (.o [.nrm (catC Claim.E l [c_])]) (.andl (.t (Claim.E.ones [c_])) (.p (szP l.length [c_].length 72))))) fun _ =>
 .fin (l ++ [c_])
noncomputable def pay_join (l : List Claim) (c_ : Claim) : (List Claim) := (pay_join_sk l c_).val
theorem pay_join_pst (l : List Claim) (c_ : Claim) : (pay_join_sk l c_).pst (fun (x : (List Claim)) => Merged (fJ c_) l c_ x) := by
 refine Sk.pst_of _ ?_
 unfold pay_join_sk
 simp only [Sk.pstq, Sk.isLoop, reduceCtorEq, ON, kk, bind_And_k, pay_of_k, pay_of_eq, forall_eq, maxLen]
 refine ⟨⟨⟨Nat.zero_le _, fun q hq => absurd hq (by omega)⟩, fun i hi => ⟨fun hc _ => ⟨fun hk _ => ?_, fun hk _ => ⟨⟨?_, nokey hi.2 hk⟩, by simp only [LN] at hc; omega⟩⟩, fun hc => ?_⟩⟩, fun _ hb _ => .inr ⟨hb, rfl⟩⟩
 all_goals simp only [LN] at hc
 ·exact .inl ⟨i, by omega, key_beq.1 hk, set_two (by omega) _ _⟩
 ·omega
 ·exact fun q hq => hi.2 q (by omega)
theorem pay_join_post (l : List Claim) (c_ : Claim) : (fun (x : (List Claim)) => Merged (fJ c_) l c_ x) (pay_join l c_) := have h := Sk.pval _ (pay_join_pst l c_); h
theorem pay_join_ok (l : List Claim) (c_ : Claim) (hl : l.length ≤ 1000000000000) : (pay_join_sk l c_).obs (fun _ => True) := by
 refine Sk.obs_of _ ?_
 unfold pay_join_sk
 simp only [Sk.obq, Sk.isLoop, reduceCtorEq, ON, kk, bind_And_k, pay_of_k, pay_of_eq, forall_eq, maxLen]
 refine ⟨⟨⟨Nat.zero_le _, fun q hq => absurd hq (by omega)⟩, fun i hi hm => ⟨fun hc => ?_, fun hc q hq => hi.2 q (by simp only [LN] at hc; omega)⟩⟩, fun b hb => ?_⟩
 ·simp only [LN] at hc
  refine ⟨⟨⟨by omega, by omega⟩, by omega⟩, fun _ => ⟨fun hk => ?_, fun hk _ => ⟨(w64_id (by omega) (by omega)).trans (by omega), ⟨by omega, nokey hi.2 hk⟩, by omega⟩⟩⟩
  simp only [List.length_set]
  refine ⟨⟨⟨by omega, by omega⟩, by omega⟩, fun _ => ?_⟩
  (repeat' first | exact trivial | (apply And.intro) | (intro h))
  all_goals first | rfl | trivial | omega
 ·simp only [List.length_cons, List.length_nil]
  omega
theorem pay_join_fnH (l : List Claim) (c_ : Claim) (hl : l.length ≤ 1000000000000) : FnA Tryz.prog 66 [ow 777776 l, av c_.cells] [(777776, rowB 48 9 Claim.cells l)] (ow 777777 (pay_join l c_)) [(777777, rowB 48 9 Claim.cells (pay_join l c_))] :=
 FnA.sk tok mixed (fun x => ow 777777 x) (fun x => [(777777, rowB 48 9 Claim.cells x)]) Tryz.func66 rfl (by kernel_rfl) 3000 (pay_join_sk l c_) (by kernel_rfl) (pay_join_ok l c_ hl)
noncomputable def pay_join_kh (κ κ' : Nat) (l : List Claim) (c_ : Claim) : CtrH ((List Claim)) := ⟨Tryz.prog, 66, [ow κ l, av c_.cells], [(κ, rowB 48 9 Claim.cells l)], fun x => ow κ' x, fun x => [(κ', rowB 48 9 Claim.cells x)], pay_join l c_, (l.length ≤ 1000000000000), fun h => FnA.rekeyA κ rfl (FnA.rekeyR κ' (pay_join_fnH l c_ h)), fun (x : (List Claim)) => Merged (fJ c_) l c_ x, pay_join_post l c_⟩
noncomputable def pay_Apply_sk (l : List Claim) (a : ActX) (kind : Int) (stranger : Bool) : Sk ((List Claim) × (List Step)) :=
 .r 2 ((slices_Clone_ko 21 l).c) fun x1 =>
 .bind true (fun b2 => Inv0 l a stranger l.length b2.1 b2.2.2 ∧ b2.2.1.length ≤ l.length ∧ b2.2.2.length ≤ l.length)
 (.loop (default : Sum ((List Claim) × (List Step)) ((List Claim) × (List Step) × (List Claim))) (fun i3 => i3.2.2.2 ≤ l.length ∧ Inv0 l a stranger i3.2.2.2 i3.1 i3.2.2.1 ∧ i3.2.1.length ≤ i3.2.2.2 ∧ i3.2.2.1.length ≤ i3.2.2.2) (fun i3 => l.length - i3.2.2.2) ((x1, [], [], 0) : (List Claim) × (List Step) × (List Claim) × Nat)
 (fun (i3 : (List Claim) × (List Step) × (List Claim) × Nat) => ⟨[(8, ow 100006 i3.1), (9, ow 100007 i3.2.1), (11, ow 100008 i3.2.2.1), (24, iv (i3.2.2.2 : Int))], [(100006, rowB 48 9 Claim.cells i3.1), (100007, rowB 87 4 Step.cells i3.2.1), (100008, rowB 48 9 Claim.cells i3.2.2.1)]⟩) fun i3 =>
 .bnd 22 0 l.length <|
 .br (decide ((i3.2.2.2 : Int) < ((l.length : Nat) : Int)))
 (.r 6 (.p (ixP (i3.2.2.2 : Int) l.length)) fun _ =>
 .r 7 ((pay_meets_k a stranger (l.getD i3.2.2.2 default)).c) fun x4 =>
 .br (!x4)
 (.r 14 .z fun _ =>
 .wi 24 (w64 ((i3.2.2.2 : Int) + 1)) ((i3.2.2.2 + 1 : Nat) : Int) <|
 .fin (.inr (i3.1, i3.2.1, i3.2.2.1, i3.2.2.2 + 1)))
 (.r 9 (.andl (.p (ixP (i3.2.2.2 : Int) i3.1.length)) (.andl (.o [.nrm (setC Claim.E i3.1 i3.2.2.2 ({ i3.1.getD i3.2.2.2 default with sum := w64 ((maxI 0 ((l.getD i3.2.2.2 default).sum)) - (minI (maxI 0 a.sum) (maxI 0 ((l.getD i3.2.2.2 default).sum)))) }))]) (.p (i3.2.2.2 < i3.1.length)))) fun _ =>
 .wn 100006 i3.1.length (i3.1.set i3.2.2.2 ({ i3.1.getD i3.2.2.2 default with sum := w64 ((maxI 0 ((l.getD i3.2.2.2 default).sum)) - (minI (maxI 0 a.sum) (maxI 0 ((l.getD i3.2.2.2 default).sum)))) })).length <|
 .r 10 (.andl (.o [.nrm (litC Step.E [({ debtor := (l.getD i3.2.2.2 default).debtor, creditor := (l.getD i3.2.2.2 default).creditor, sign := (l.getD i3.2.2.2 default).sign, sum := minI (maxI 0 a.sum) (maxI 0 ((l.getD i3.2.2.2 default).sum)) } : Step)])]) (.andl (.o [.nrm (catC Step.E i3.2.1 [({ debtor := (l.getD i3.2.2.2 default).debtor, creditor := (l.getD i3.2.2.2 default).creditor, sign := (l.getD i3.2.2.2 default).sign, sum := minI (maxI 0 a.sum) (maxI 0 ((l.getD i3.2.2.2 default).sum)) } : Step)])]) (.andl (.t (Step.E.ones [({ debtor := (l.getD i3.2.2.2 default).debtor, creditor := (l.getD i3.2.2.2 default).creditor, sign := (l.getD i3.2.2.2 default).sign, sum := minI (maxI 0 a.sum) (maxI 0 ((l.getD i3.2.2.2 default).sum)) } : Step)])) (.p (szP i3.2.1.length [({ debtor := (l.getD i3.2.2.2 default).debtor, creditor := (l.getD i3.2.2.2 default).creditor, sign := (l.getD i3.2.2.2 default).sign, sum := minI (maxI 0 a.sum) (maxI 0 ((l.getD i3.2.2.2 default).sum)) } : Step)].length 32))))) fun _ =>
 .br (((kind != 1) && ((((l.getD i3.2.2.2 default).turn) == 0) || (decide (((l.getD i3.2.2.2 default).sign) < a.at_)))) && (((l.getD i3.2.2.2 default).debtor) != a.who))
 (.r 13 ((pay_group_kh 100008 90 i3.2.2.1 ({ l.getD i3.2.2.2 default with creditor := a.who, by_ := a.at_, sum := minI (maxI 0 a.sum) (maxI 0 ((l.getD i3.2.2.2 default).sum)) })).c) fun x5 =>
 .r 14 .z fun _ =>
 .wi 24 (w64 ((i3.2.2.2 : Int) + 1)) ((i3.2.2.2 + 1 : Nat) : Int) <|
 .fin (.inr (i3.1.set i3.2.2.2 ({ i3.1.getD i3.2.2.2 default with sum := w64 ((maxI 0 ((l.getD i3.2.2.2 default).sum)) - (minI (maxI 0 a.sum) (maxI 0 ((l.getD i3.2.2.2 default).sum)))) }), i3.2.1 ++ [({ debtor := (l.getD i3.2.2.2 default).debtor, creditor := (l.getD i3.2.2.2 default).creditor, sign := (l.getD i3.2.2.2 default).sign, sum := minI (maxI 0 a.sum) (maxI 0 ((l.getD i3.2.2.2 default).sum)) } : Step)], x5, i3.2.2.2 + 1)))
 (.r 14 .z fun _ =>
 .wi 24 (w64 ((i3.2.2.2 : Int) + 1)) ((i3.2.2.2 + 1 : Nat) : Int) <|
 .fin (.inr (i3.1.set i3.2.2.2 ({ i3.1.getD i3.2.2.2 default with sum := w64 ((maxI 0 ((l.getD i3.2.2.2 default).sum)) - (minI (maxI 0 a.sum) (maxI 0 ((l.getD i3.2.2.2 default).sum)))) }), i3.2.1 ++ [({ debtor := (l.getD i3.2.2.2 default).debtor, creditor := (l.getD i3.2.2.2 default).creditor, sign := (l.getD i3.2.2.2 default).sign, sum := minI (maxI 0 a.sum) (maxI 0 ((l.getD i3.2.2.2 default).sum)) } : Step)], i3.2.2.1, i3.2.2.2 + 1)))))
 (.fin (.inl (.inr (i3.1, i3.2.1, i3.2.2.1)))))
 (fun (b2 : (List Claim) × (List Step) × (List Claim)) => ⟨[(8, ow 100003 b2.1), (9, ow 100004 b2.2.1), (11, ow 100005 b2.2.2)], [(100003, rowB 48 9 Claim.cells b2.1), (100004, rowB 87 4 Step.cells b2.2.1), (100005, rowB 48 9 Claim.cells b2.2.2)]⟩) fun b2 =>
 .bind true (fun b6 => Inv1 a b2.1 b2.2.2 b2.2.2.length b6)
 (.loop (default : Sum ((List Claim) × (List Step)) ((List Claim))) (fun i7 => i7.2 ≤ b2.2.2.length ∧ Inv1 a b2.1 b2.2.2 i7.2 i7.1) (fun i7 => b2.2.2.length - i7.2) ((b2.1, 0) : (List Claim) × Nat)
 (fun (i7 : (List Claim) × Nat) => ⟨[(8, ow 100011 i7.1), (94, iv (i7.2 : Int))], [(100011, rowB 48 9 Claim.cells i7.1)]⟩) fun i7 =>
 .bnd 92 0 b2.2.2.length <|
 .br (decide ((i7.2 : Int) < ((b2.2.2.length : Nat) : Int)))
 (.r 17 (.andl (.p (ixP (i7.2 : Int) b2.2.2.length)) (.p (i7.2 < b2.2.2.length))) fun _ =>
 .r 18 ((pay_join_kh 100011 100 i7.1 (b2.2.2.getD i7.2 default)).c) fun x8 =>
 .r 19 .z fun _ =>
 .wi 94 (w64 ((i7.2 : Int) + 1)) ((i7.2 + 1 : Nat) : Int) <|
 .fin (.inr (x8, i7.2 + 1)))
 (.fin (.inl (.inr i7.1))))
 (fun (b6 : (List Claim)) => ⟨[(8, ow 100010 b6)], [(100010, rowB 48 9 Claim.cells b6)]⟩) fun b6 =>
 .fin (b6, b2.2.1)
noncomputable def pay_Apply (l : List Claim) (a : ActX) (kind : Int) (stranger : Bool) : (List Claim) × (List Step) := (pay_Apply_sk l a kind stranger).val
theorem pay_Apply_pst (l : List Claim) (a : ActX) (kind : Int) (stranger : Bool) : (pay_Apply_sk l a kind stranger).pst (fun (x : (List Claim) × (List Step)) => Applied l a stranger x.1) := by
 refine Sk.pst_of _ ?_
 unfold pay_Apply_sk
 simp only [Sk.pstq, Sk.isLoop, reduceCtorEq, ON, kk, pay_group_kh, pay_join_kh, pay_meets_k, slices_Clone_ko, pay_group_kh, pay_join_kh, CtrH.c, pay_meets_eq, forall_eq, maxLen]
 intro hx
 refine ⟨⟨⟨Nat.zero_le _, by rw [hx.2]; exact Inv0.init l a stranger, Nat.le_refl _, Nat.le_refl _⟩, fun i hi => ⟨fun hc _ => ?_, fun hc => ?_⟩⟩, fun b hb => ⟨⟨⟨Nat.zero_le _, Inv1.init a _ _⟩, fun i hi => ⟨fun hc _ hM _ => ?_, fun hc => ?_⟩⟩, fun b1 hb1 => Applied.mk' hb.1 rfl hb1 (Nat.le_refl _)⟩⟩
 all_goals simp only [LN] at hc
 ·have hk : i.2.2.2 < l.length := by omega
  have hi2 := hi.2.2
  refine ⟨fun hm _ => ⟨⟨by omega, hi.2.1.skip hk (by rw [pay_meets_eq]; exact (Bool.not_eq_true' _).mp hm), by omega, by omega⟩, by omega⟩, fun hm _ _ => ?_⟩
  have hm' : pay_meets a stranger (l.getD i.2.2.2 default) = true := by rw [pay_meets_eq]; exact (Bool.not_eq_false' _).mp hm
  refine ⟨fun hg hM _ => ⟨⟨by omega, hi.2.1.meet hk hm' (hi.2.1.2.2.group (sub_less (getD_mem hk) ?_ _ rfl) hM), ?_, ?_⟩, by omega⟩, fun _ _ => ⟨⟨by omega, hi.2.1.meet hk hm' hi.2.1.2.2, ?_, by omega⟩, by omega⟩⟩
  ·simp only [LN] at hg
   exact hg.2
  ·rw [List.length_append, List.length_singleton]; omega
  ·exact Nat.le_trans hM.len (by omega)
  ·rw [List.length_append, List.length_singleton]; omega
 ·have e : i.2.2.2 = l.length := by omega
  rw [e] at hi
  exact hi.2
 ·have hk : i.2 < b.2.2.length := by omega
  have hin := hb.1.2.2.1 _ (getD_mem hk)
  exact ⟨⟨by omega, hi.2.step (getD_mem hk) hin.1.1 hM⟩, by omega⟩
 ·have e : i.2 = b.2.2.length := by omega
  rw [e] at hi
  exact hi.2
theorem pay_Apply_post (l : List Claim) (a : ActX) (kind : Int) (stranger : Bool) : (fun (x : (List Claim) × (List Step)) => Applied l a stranger x.1) (pay_Apply l a kind stranger) := have h := Sk.pval _ (pay_Apply_pst l a kind stranger); h
theorem pay_Apply_ok (l : List Claim) (a : ActX) (kind : Int) (stranger : Bool) (hl : l.length ≤ 1000000000) : (pay_Apply_sk l a kind stranger).obs (fun _ => True) := by
 refine Sk.obs_of _ ?_
 unfold pay_Apply_sk
 simp only [Sk.obq, Sk.isLoop, reduceCtorEq, ON, kk, pay_group_kh, pay_join_kh, pay_meets_k, slices_Clone_ko, pay_group_kh, pay_join_kh, CtrH.c, pay_meets_eq, forall_eq, maxLen]
 refine ⟨hl, fun hx => ⟨⟨⟨Nat.zero_le _, by rw [hx.2]; exact Inv0.init l a stranger, Nat.le_refl _, Nat.le_refl _⟩, fun i hi hmx => ⟨fun hc => ?_, fun hc => ?_⟩⟩, fun b hb => ⟨⟨Nat.zero_le _, Inv1.init a _ _⟩, fun i hi hmx => ⟨fun hc => ?_, fun hc => ?_⟩⟩⟩⟩
 all_goals simp only [LN] at hc
 ·have hk : i.2.2.2 < l.length := by omega
  have hi2 := hi.2.2
  have hol := hi.2.1.1
  have hw : w64 ((i.2.2.2 : Int) + 1) = ((i.2.2.2 + 1 : Nat) : Int) := (w64_id (by omega) (by omega)).trans (by omega)
  refine ⟨⟨by omega, by omega⟩, fun _ => ⟨fun hm _ => ⟨hw, ⟨by omega, hi.2.1.skip hk (by rw [pay_meets_eq]; exact (Bool.not_eq_true' _).mp hm), by omega, by omega⟩, by omega⟩, fun hm => ⟨⟨⟨by omega, by omega⟩, by omega⟩, fun _ => ⟨by rw [List.length_set], ⟨by simp only [List.length_singleton]; omega, by simp only [List.length_singleton]; omega⟩, fun _ => ?_⟩⟩⟩⟩
  have hm' : pay_meets a stranger (l.getD i.2.2.2 default) = true := by rw [pay_meets_eq]; exact (Bool.not_eq_false' _).mp hm
  refine ⟨fun hg => ⟨by omega, fun hM _ => ⟨hw, ⟨by omega, hi.2.1.meet hk hm' (hi.2.1.2.2.group (sub_less (getD_mem hk) ?_ _ rfl) hM), ?_, ?_⟩, by omega⟩⟩, fun _ _ => ⟨hw, ⟨by omega, hi.2.1.meet hk hm' hi.2.1.2.2, ?_, by omega⟩, by omega⟩⟩
  ·simp only [LN] at hg
   exact hg.2
  ·rw [List.length_append, List.length_singleton]; omega
  ·exact Nat.le_trans hM.len (by omega)
  ·rw [List.length_append, List.length_singleton]; omega
 ·have e : i.2.2.2 = l.length := by omega
  rw [e] at hi
  exact hi.2
 ·have hk : i.2 < b.2.2.length := by omega
  have hin := hb.1.2.2.1 _ (getD_mem hk)
  have hln := hi.2.1
  have hol := hb.1.1
  exact ⟨⟨⟨by omega, by omega⟩, hk⟩, fun _ => ⟨by omega, fun hM _ => ⟨(w64_id (by omega) (by omega)).trans (by omega), ⟨by omega, hi.2.step (getD_mem hk) hin.1.1 hM⟩, by omega⟩⟩⟩
 ·have e : i.2 = b.2.2.length := by omega
  rw [e] at hi
  exact hi.2
noncomputable def pay_Apply_k (l : List Claim) (a : ActX) (kind : Int) (stranger : Bool) : Ctr ((List Claim) × (List Step)) := kk tok mixed Tryz.func29 [lv Claim.cells l, av a.cells, iv kind, bv stranger] (fun x => .tup [lv Claim.cells x.1, lv Step.cells x.2]) false (pay_Apply_sk l a kind stranger) (pay_Apply l a kind stranger) (fun (h : (l.length ≤ 1000000000)) => pay_Apply_ok l a kind stranger h) (fun (x : (List Claim) × (List Step)) => Applied l a stranger x.1) (pay_Apply_post l a kind stranger)
noncomputable def L27_sums_sk (l : List Claim) (want : List Int) : Sk (Bool) :=
 .br (((l.length : Nat) : Int) != ((want.length : Nat) : Int))
 (.fin false)
 (.bind true (fun _ => True)
 (.loop (default : Sum (Bool) (Unit)) (fun i2 => i2 ≤ l.length) (fun i2 => l.length - i2) (0 : Nat)
 (fun (i2 : Nat) => ⟨[(5, iv (i2 : Int))], []⟩) fun i2 =>
 .bnd 0 0 l.length <|
 .br (decide ((i2 : Int) < ((l.length : Nat) : Int)))
 (.r 6 (.andl (.p (ixP (i2 : Int) l.length)) (.p (ixP (i2 : Int) want.length))) fun _ =>
 .br (((l.getD i2 default).sum) != (want.getD i2 default))
 (.fin (.inl (.inl false)))
 (.r 5 .z fun _ =>
 .wi 5 (w64 ((i2 : Int) + 1)) ((i2 + 1 : Nat) : Int) <|
 .fin (.inr (i2 + 1))))
 (.fin (.inl (.inr ()))))
 (fun (_ : Unit) => ⟨[], []⟩) fun _ =>
 .fin true)
noncomputable def L27_sums (l : List Claim) (want : List Int) : Bool := (L27_sums_sk l want).val
theorem L27_sums_pst (l : List Claim) (want : List Int) : (L27_sums_sk l want).pst (fun (x : Bool) => x = true → l.length = want.length) := by
 unfold L27_sums_sk
 exact okP
theorem L27_sums_post (l : List Claim) (want : List Int) : (fun (x : Bool) => x = true → l.length = want.length) (L27_sums l want) := have h := Sk.pval _ (L27_sums_pst l want); h
theorem L27_sums_ok (l : List Claim) (want : List Int) : (L27_sums_sk l want).obs (fun _ => True) := by
 unfold L27_sums_sk
 exact okD
noncomputable def L27_sums_k (l : List Claim) (want : List Int) : Ctr (Bool) := kk tok mixed Tryz.func30 [lv Claim.cells l, lv intC want] (fun x => bv x) true (L27_sums_sk l want) (L27_sums l want) (fun (_ : True) => L27_sums_ok l want) (fun (x : Bool) => x = true → l.length = want.length) (L27_sums_post l want)
noncomputable def L27_small_sk : Sk (Bool) :=
 .r 1 L27_example_k.c fun x1 =>
 .r 2 ((pay_Apply_k x1 ({ kind := 6, who := 1, to_ := 3, part := 0, at_ := 1, sum := 60, day := 0, city := 0, form := 0 } : ActX) 1 false).c) fun x2 =>
 .r 3 ((pay_Apply_k x1 ({ kind := 6, who := 2, to_ := 3, part := 0, at_ := 2, sum := 60, day := 0, city := 0, form := 0 } : ActX) 2 false).c) fun x3 =>
 .r 4 ((pay_Apply_k x1 ({ kind := 6, who := 2, to_ := 3, part := 0, at_ := 2, sum := 100, day := 0, city := 0, form := 0 } : ActX) 2 false).c) fun x4 =>
 .r 5 ((pay_Apply_k x4.1 ({ kind := 6, who := 0, to_ := 2, part := 0, at_ := 0, sum := 100, day := 0, city := 0, form := 0 } : ActX) 0 false).c) fun x5 =>
 .r 6 (.andl (.o [.nrm (litC intE [40, 40, 40])]) (.dep ((L27_sums_k x2.1 [40, 40, 40]).c) fun x6 => .andl (.wh (!x6) false (.o [.nrm (litC intE [40, 40, 40, 60, 60])])) (.dep (.wh (!x6) false ((L27_sums_k x3.1 [40, 40, 40, 60, 60]).c)) fun x7 => .andl (.wh ((!x6) || (!x7)) false (.o [.nrm (litC intE [0, 0, 0, 100, 100])])) (.dep (.wh ((!x6) || (!x7)) false ((L27_sums_k x4.1 [0, 0, 0, 100, 100]).c)) fun x8 => .andl (.wh (((!x6) || (!x7)) || (!x8)) false (.o [.nrm (litC intE [0, 0, 0, 0, 0, 100])])) (.wh (((!x6) || (!x7)) || (!x8)) false ((L27_sums_k x5.1 [0, 0, 0, 0, 0, 100]).c)))))) fun p10 =>
 .br (((((!p10.1) || (!p10.2.1)) || (!p10.2.2.1)) || (!p10.2.2.2)) || (((x3.2.length : Nat) : Int) != 3))
 (.fin false)
 (.r 8 (.andl (.p (ixP (3 : Int) x3.1.length)) (.wh ((((x3.1.getD 3 default).debtor) == 1) && ((((x3.1.getD 3 default).creditor) == 2) && ((((x3.1.getD 3 default).part) == 0) && ((((x3.1.getD 3 default).sign) == 1) && ((((x3.1.getD 3 default).by_) == 2) && ((((x3.1.getD 3 default).turn) == 0) && ((((x3.1.getD 3 default).sum) == 60) && ((((x3.1.getD 3 default).currency) == 0) && ((((x3.1.getD 3 default).state) == 1) && true))))))))) true (.p (ixP (4 : Int) x3.1.length)))) fun _ =>
 .r 9 (.andl (.wh (((((x3.1.getD 3 default).debtor) == 1) && ((((x3.1.getD 3 default).creditor) == 2) && ((((x3.1.getD 3 default).part) == 0) && ((((x3.1.getD 3 default).sign) == 1) && ((((x3.1.getD 3 default).by_) == 2) && ((((x3.1.getD 3 default).turn) == 0) && ((((x3.1.getD 3 default).sum) == 60) && ((((x3.1.getD 3 default).currency) == 0) && ((((x3.1.getD 3 default).state) == 1) && true))))))))) && ((((x3.1.getD 4 default).debtor) == 0) && ((((x3.1.getD 4 default).creditor) == 2) && ((((x3.1.getD 4 default).part) == 0) && ((((x3.1.getD 4 default).sign) == 0) && ((((x3.1.getD 4 default).by_) == 2) && ((((x3.1.getD 4 default).turn) == 2) && ((((x3.1.getD 4 default).sum) == 60) && ((((x3.1.getD 4 default).currency) == 0) && ((((x3.1.getD 4 default).state) == 1) && true)))))))))) true (.p (ixP (5 : Int) x5.1.length))) (.wh ((((((x3.1.getD 3 default).debtor) == 1) && ((((x3.1.getD 3 default).creditor) == 2) && ((((x3.1.getD 3 default).part) == 0) && ((((x3.1.getD 3 default).sign) == 1) && ((((x3.1.getD 3 default).by_) == 2) && ((((x3.1.getD 3 default).turn) == 0) && ((((x3.1.getD 3 default).sum) == 60) && ((((x3.1.getD 3 default).currency) == 0) && ((((x3.1.getD 3 default).state) == 1) && true))))))))) && ((((x3.1.getD 4 default).debtor) == 0) && ((((x3.1.getD 4 default).creditor) == 2) && ((((x3.1.getD 4 default).part) == 0) && ((((x3.1.getD 4 default).sign) == 0) && ((((x3.1.getD 4 default).by_) == 2) && ((((x3.1.getD 4 default).turn) == 2) && ((((x3.1.getD 4 default).sum) == 60) && ((((x3.1.getD 4 default).currency) == 0) && ((((x3.1.getD 4 default).state) == 1) && true)))))))))) && ((((x5.1.getD 5 default).debtor) == 1) && ((((x5.1.getD 5 default).creditor) == 0) && ((((x5.1.getD 5 default).part) == 0) && ((((x5.1.getD 5 default).sign) == 1) && ((((x5.1.getD 5 default).by_) == 0) && ((((x5.1.getD 5 default).turn) == 0) && ((((x5.1.getD 5 default).sum) == 100) && ((((x5.1.getD 5 default).currency) == 0) && ((((x5.1.getD 5 default).state) == 1) && true)))))))))) true (.p (ixP (2 : Int) x3.2.length)))) fun _ =>
 .fin (((((((x3.1.getD 3 default).debtor) == 1) && ((((x3.1.getD 3 default).creditor) == 2) && ((((x3.1.getD 3 default).part) == 0) && ((((x3.1.getD 3 default).sign) == 1) && ((((x3.1.getD 3 default).by_) == 2) && ((((x3.1.getD 3 default).turn) == 0) && ((((x3.1.getD 3 default).sum) == 60) && ((((x3.1.getD 3 default).currency) == 0) && ((((x3.1.getD 3 default).state) == 1) && true))))))))) && ((((x3.1.getD 4 default).debtor) == 0) && ((((x3.1.getD 4 default).creditor) == 2) && ((((x3.1.getD 4 default).part) == 0) && ((((x3.1.getD 4 default).sign) == 0) && ((((x3.1.getD 4 default).by_) == 2) && ((((x3.1.getD 4 default).turn) == 2) && ((((x3.1.getD 4 default).sum) == 60) && ((((x3.1.getD 4 default).currency) == 0) && ((((x3.1.getD 4 default).state) == 1) && true)))))))))) && ((((x5.1.getD 5 default).debtor) == 1) && ((((x5.1.getD 5 default).creditor) == 0) && ((((x5.1.getD 5 default).part) == 0) && ((((x5.1.getD 5 default).sign) == 1) && ((((x5.1.getD 5 default).by_) == 0) && ((((x5.1.getD 5 default).turn) == 0) && ((((x5.1.getD 5 default).sum) == 100) && ((((x5.1.getD 5 default).currency) == 0) && ((((x5.1.getD 5 default).state) == 1) && true)))))))))) && ((((x3.2.getD 2 default).debtor) == 0) && ((((x3.2.getD 2 default).creditor) == 3) && ((((x3.2.getD 2 default).sign) == 0) && ((((x3.2.getD 2 default).sum) == 60) && true))))))
noncomputable def L27_small : Bool := (L27_small_sk).val
theorem L27_small_post : (fun (x : Bool) => x = true) (L27_small) := (show L27_small = true by kernel_rfl)
theorem L27_small_ok : (L27_small_sk).obs (fun _ => True) := by
 refine Sk.obs_of _ ?_
 unfold L27_small_sk
 simp only [Sk.obq, Sk.isLoop, reduceCtorEq, ON, kk, L27_example_k, L27_sums_k, pay_Apply_k, maxLen]
 intro x _ hx
 refine ⟨by omega, fun y1 _ _ => ⟨by omega, fun y2 _ _ => ⟨by omega, fun y3 _ h3 => ⟨?_, fun y4 _ _ z _ hz hc => ?_⟩⟩⟩⟩
 ·have := h3.few (x.map dps) (fun c hc => List.mem_map.2 ⟨c, hc, rfl⟩)
  rw [List.length_map] at this
  omega
 ·simp only [Bool.or_eq_false_iff, Bool.not_eq_false', bne_eq_false_iff_eq] at hc
  obtain ⟨⟨⟨⟨-, z2⟩, z3⟩, z4⟩, z5⟩ := hc
  have e2 := hz.2.1 z2
  have e4 := hz.2.2.2 z4
  simp only [List.length_cons, List.length_nil] at e2 e4
  (repeat' first | exact trivial | (apply And.intro) | (intro h))
  all_goals omega
noncomputable def L27_small_k : Ctr (Bool) := kk tok mixed Tryz.func7 [] (fun x => bv x) true (L27_small_sk) (L27_small) (fun (_ : True) => L27_small_ok) (fun (x : Bool) => x = true) (L27_small_post)
noncomputable def R09_Few_sk (r : Realm) : Sk (Bool) :=
 .bind true (fun _ => True)
 (.loop (default : Sum (Bool) (Unit)) (fun i2 => i2 ≤ r.cities.length) (fun i2 => r.cities.length - i2) (0 : Nat)
 (fun (i2 : Nat) => ⟨[(3, iv (i2 : Int))], []⟩) fun i2 =>
 .bnd 1 1 r.cities.length <|
 .br ((decide ((i2 : Int) < ((r.cities.length : Nat) : Int))) && (decide ((i2 : Int) < 50)))
 (.r 4 (.andl (.p (ixP (i2 : Int) r.cities.length)) (.andl (.wh (decide (((((r.cities.getD i2 default).feasts).length : Nat) : Int) > 70)) false (.p (ixP (i2 : Int) r.cities.length))) (.wh ((decide (((((r.cities.getD i2 default).feasts).length : Nat) : Int) > 70)) || (decide (((((r.cities.getD i2 default).shut).length : Nat) : Int) > 210))) false (.p (ixP (i2 : Int) r.cities.length))))) fun _ =>
 .br (((decide (((((r.cities.getD i2 default).feasts).length : Nat) : Int) > 70)) || (decide (((((r.cities.getD i2 default).shut).length : Nat) : Int) > 210))) || (decide (((((r.cities.getD i2 default).rest).length : Nat) : Int) > 8)))
 (.fin (.inl (.inl false)))
 (.r 3 .z fun _ =>
 .wi 3 (w64 ((i2 : Int) + 1)) ((i2 + 1 : Nat) : Int) <|
 .fin (.inr (i2 + 1))))
 (.fin (.inl (.inr ()))))
 (fun (_ : Unit) => ⟨[], []⟩) fun _ =>
 .bind true (fun b3 => ∀ k, k < r.orders.length → k < 50 → (r.orders.getD k default).choices.length ≤ 40 ∧ (r.orders.getD k default).rules.length ≤ 40)
 (.loop (default : Sum (Bool) (Unit)) (fun i4 => (∀ k, k < i4 → (r.orders.getD k default).choices.length ≤ 40 ∧ (r.orders.getD k default).rules.length ≤ 40) ∧ i4 ≤ r.orders.length) (fun i4 => r.orders.length - i4) (0 : Nat)
 (fun (i4 : Nat) => ⟨[(4, iv (i4 : Int))], []⟩) fun i4 =>
 .bnd 1 4 r.orders.length <|
 .br ((decide ((i4 : Int) < ((r.orders.length : Nat) : Int))) && (decide ((i4 : Int) < 50)))
 (.r 9 (.andl (.p (ixP (i4 : Int) r.orders.length)) (.wh (decide (((((r.orders.getD i4 default).choices).length : Nat) : Int) > 40)) false (.p (ixP (i4 : Int) r.orders.length)))) fun _ =>
 .br ((decide (((((r.orders.getD i4 default).choices).length : Nat) : Int) > 40)) || (decide (((((r.orders.getD i4 default).rules).length : Nat) : Int) > 40)))
 (.fin (.inl (.inl false)))
 (.r 8 .z fun _ =>
 .wi 4 (w64 ((i4 : Int) + 1)) ((i4 + 1 : Nat) : Int) <|
 .fin (.inr (i4 + 1))))
 (.fin (.inl (.inr ()))))
 (fun (_ : Unit) => ⟨[], []⟩) fun _ =>
 .fin ((((((((decide (((r.currencies.length : Nat) : Int) < 50)) && (decide (((r.cities.length : Nat) : Int) < 50))) && (decide (((r.groups.length : Nat) : Int) < 50))) && (decide (((r.firms.length : Nat) : Int) < 210))) && (decide (((r.orders.length : Nat) : Int) < 50))) && (decide (((r.usances.length : Nat) : Int) < 110))) && (decide (((r.rates.length : Nat) : Int) < 110))) && (decide (((r.halts.length : Nat) : Int) < 50)))
noncomputable def R09_Few (r : Realm) : Bool := (R09_Few_sk r).val
theorem R09_Few_pst (r : Realm) : (R09_Few_sk r).pst (fun (x : Bool) => x = true → r.Small) := by
 unfold R09_Few_sk
 try simp only [File.Small, Realm.Small]
 exact okP
theorem R09_Few_post (r : Realm) : (fun (x : Bool) => x = true → r.Small) (R09_Few r) := have h := Sk.pval _ (R09_Few_pst r); h
theorem R09_Few_ok (r : Realm) : (R09_Few_sk r).obs (fun _ => True) := by
 unfold R09_Few_sk
 try simp only [File.Small, Realm.Small]
 exact okD
noncomputable def R09_Few_k (r : Realm) : Ctr (Bool) := kk tok mixed Tryz.func67 [av r.cells] (fun x => bv x) true (R09_Few_sk r) (R09_Few r) (fun (_ : True) => R09_Few_ok r) (fun (x : Bool) => x = true → r.Small) (R09_Few_post r)
noncomputable def R14_Few_sk (f : File) : Sk (Bool) :=
 .fin ((((decide (((f.signs.length : Nat) : Int) ≤ 50)) && (decide (((f.alters.length : Nat) : Int) ≤ 10))) && (decide (((f.acts.length : Nat) : Int) ≤ 110))) && (decide (((f.facts.length : Nat) : Int) ≤ 220)))
noncomputable def R14_Few (f : File) : Bool := (R14_Few_sk f).val
theorem R14_Few_eq (f : File) : R14_Few f = ((((decide (((f.signs.length : Nat) : Int) ≤ 50)) && (decide (((f.alters.length : Nat) : Int) ≤ 10))) && (decide (((f.acts.length : Nat) : Int) ≤ 110))) && (decide (((f.facts.length : Nat) : Int) ≤ 220))) := rfl
theorem R14_Few_pst (f : File) : (R14_Few_sk f).pst (fun (x : Bool) => x = true → f.Small) := by
 unfold R14_Few_sk
 try simp only [File.Small, Realm.Small]
 exact okP
theorem R14_Few_post (f : File) : (fun (x : Bool) => x = true → f.Small) (R14_Few f) := have h := Sk.pval _ (R14_Few_pst f); h
theorem R14_Few_ok (f : File) : (R14_Few_sk f).obs (fun _ => True) := by
 unfold R14_Few_sk
 try simp only [File.Small, Realm.Small]
 exact okE
noncomputable def R14_Few_k (f : File) : Ctr (Bool) := kk tok mixed Tryz.func68 [av f.cells] (fun x => bv x) true (R14_Few_sk f) (R14_Few f) (fun (_ : True) => R14_Few_ok f) (fun (x : Bool) => x = true → f.Small) (R14_Few_post f)
noncomputable def R15_size_kr (rv : Term → Int → Int → Int) (rp : Term → Int → Int → Prop) (rf : ∀ (t : Term) (n : Int) (levels : Int), rp t n levels → FnA Tryz.prog 194 [av t.cells, iv n, iv levels] [] (iv (rv t n levels)) []) (t : Term) (n : Int) (levels : Int) : Ctr (Int) := ⟨Tryz.prog, 194, [av t.cells, iv n, iv levels], fun x => iv x, true, rv t n levels, rp t n levels, rf t n levels, fun _ => True, trivial⟩
noncomputable def R15_size_sk (rv : Term → Int → Int → Int) (rp : Term → Int → Int → Prop) (rf : ∀ (t : Term) (n : Int) (levels : Int), rp t n levels → FnA Tryz.prog 194 [av t.cells, iv n, iv levels] [] (iv (rv t n levels)) []) (t : Term) (n : Int) (levels : Int) : Sk (Int) :=
 .br (decide (levels < 1))
 (.fin (-1))
 (.bind true (fun _ => True)
 (.loop (default : Sum (Int) (Int)) (fun i2 => i2.2 ≤ t.args.length) (fun i2 => t.args.length - i2.2) ((w64 (n - 1), 0) : Int × Nat)
 (fun (i2 : Int × Nat) => ⟨[(1, iv i2.1), (7, iv (i2.2 : Int))], []⟩) fun i2 =>
 .bnd 3 2 t.args.length <|
 .br ((decide ((i2.2 : Int) < ((t.args.length : Nat) : Int))) && (decide (i2.1 ≥ 0)))
 (.r 7 (.andl (.andl (.p (ixP (i2.2 : Int) t.args.length)) (.o [.cast 26 (refC (Term.unroll (t.args.getD i2.2 default)))])) ((R15_size_kr rv rp rf (t.args.getD i2.2 default) i2.1 (w64 (levels - 1))).c)) fun x3 =>
 .r 6 .z fun _ =>
 .wi 7 (w64 ((i2.2 : Int) + 1)) ((i2.2 + 1 : Nat) : Int) <|
 .fin (.inr (x3, i2.2 + 1)))
 (.fin (.inl (.inr i2.1))))
 (fun (b1 : Int) => ⟨[(1, iv b1)], []⟩) fun b1 =>
 .fin b1)
noncomputable def R15_size_n : Nat → Term → Int → Int → Int
 | 0, _, _, _ => default
 | fu + 1, t, n, levels => (R15_size_sk (R15_size_n fu) (fun _ _ _ => False) (fun _ _ _ => fun h => h.elim) t n levels).val
theorem R15_size_ok (fu : Nat) (rf : ∀ (t : Term) (n : Int) (levels : Int), t.depth ≤ fu ∧ True → FnA Tryz.prog 194 [av t.cells, iv n, iv levels] [] (iv (R15_size_n fu t n levels)) []) (t : Term) (n : Int) (levels : Int) (hm : t.depth ≤ fu + 1) : (R15_size_sk (R15_size_n fu) (fun t n levels => t.depth ≤ fu ∧ True) rf t n levels).obs (fun _ => True) := by
 refine Sk.obs_of _ ?_
 unfold R15_size_sk
 simp only [Sk.obq, Sk.isLoop, reduceCtorEq, ON, kk, R15_size_kr, maxLen]
 all_goals (repeat' first | assumption | (apply And.intro) | (intro h))
 all_goals first | trivial | assumption | omega | (refine Nat.le_of_lt_succ (Nat.lt_of_lt_of_le (Term.depth_args t _ (by (try simp only [LN] at *); omega)) hm)) | ((try simp only [LN] at *) <;> first | omega | (refine (w64_id ?_ ?_).trans ?_ <;> omega) | (simp (disch := omega) only [w64_id] at *; omega) | (grind) | (simp_all; done) | (simp_all; omega))
theorem R15_size_val (fu : Nat) (rp : Term → Int → Int → Prop) (rf : ∀ (t : Term) (n : Int) (levels : Int), rp t n levels → FnA Tryz.prog 194 [av t.cells, iv n, iv levels] [] (iv (R15_size_n fu t n levels)) []) (t : Term) (n : Int) (levels : Int) : (R15_size_sk (R15_size_n fu) rp rf t n levels).val = R15_size_n (fu + 1) t n levels := by kernel_rfl
theorem R15_size_fnN (fu : Nat) : ∀ (t : Term) (n : Int) (levels : Int), t.depth ≤ fu → FnA Tryz.prog 194 [av t.cells, iv n, iv levels] [] (iv (R15_size_n fu t n levels)) [] := by
 induction fu with
 | zero => intro t n levels hm; exact absurd hm (by have := Term.depth_pos t; omega)
 | succ fu ih =>
  intro t n levels hm
  have h : FnA Tryz.prog 194 [av t.cells, iv n, iv levels] [] (iv ((R15_size_sk (R15_size_n fu) (fun t n levels => t.depth ≤ fu ∧ True) (fun t n levels h => ih t n levels h.1) t n levels).val)) [] := FnA.sk tok mixed (fun x => iv x) (fun _ => []) Tryz.func194 rfl (by kernel_rfl) 3000 (R15_size_sk (R15_size_n fu) (fun t n levels => t.depth ≤ fu ∧ True) (fun t n levels h => ih t n levels h.1) t n levels) (by kernel_rfl) (R15_size_ok fu _ t n levels hm)
  rw [R15_size_val] at h
  exact h
noncomputable def R15_size (t : Term) (n : Int) (levels : Int) : Int := R15_size_n (t.depth) t n levels
theorem R15_size_fn (t : Term) (n : Int) (levels : Int) : FnA Tryz.prog 194 [av t.cells, iv n, iv levels] [] (iv (R15_size t n levels)) [] := R15_size_fnN _ t n levels (Nat.le_refl _)
noncomputable def R15_size_k (t : Term) (n : Int) (levels : Int) : Ctr (Int) := ⟨Tryz.prog, 194, [av t.cells, iv n, iv levels], fun x => iv x, true, R15_size t n levels, True, fun _ => R15_size_fn t n levels, fun _ => True, trivial⟩
noncomputable def R15_Few_sk (t : Term) : Sk (Bool) :=
 .r 1 ((R15_size_k t 100 20).c) fun x1 =>
 .fin (decide (x1 ≥ 0))
noncomputable def R15_Few (t : Term) : Bool := (R15_Few_sk t).val
theorem R15_Few_ok (t : Term) : (R15_Few_sk t).obs (fun _ => True) := by
 unfold R15_Few_sk
 try simp only [R15_size_k]
 exact okE
noncomputable def R15_Few_k (t : Term) : Ctr (Bool) := kk tok mixed Tryz.func134 [av t.cells] (fun x => bv x) true (R15_Few_sk t) (R15_Few t) (fun (_ : True) => R15_Few_ok t)
noncomputable def R18_Few_sk (o : Order) : Sk (Bool) :=
 .br ((decide (((o.rules.length : Nat) : Int) > 60)) || (decide (((o.choices.length : Nat) : Int) > 60)))
 (.fin false)
 (.bind true (fun _ => True)
 (.loop (default : Sum (Bool) (Unit)) (fun i2 => i2 ≤ o.rules.length) (fun i2 => o.rules.length - i2) (0 : Nat)
 (fun (i2 : Nat) => ⟨[(3, iv (i2 : Int))], []⟩) fun i2 =>
 .bnd 1 3 o.rules.length <|
 .br (decide ((i2 : Int) < ((o.rules.length : Nat) : Int)))
 (.r 6 (.andl (.p (ixP (i2 : Int) o.rules.length)) ((R15_Few_k ((o.rules.getD i2 default).term)).c)) fun x3 =>
 .br (!x3)
 (.fin (.inl (.inl false)))
 (.r 5 .z fun _ =>
 .wi 3 (w64 ((i2 : Int) + 1)) ((i2 + 1 : Nat) : Int) <|
 .fin (.inr (i2 + 1))))
 (.fin (.inl (.inr ()))))
 (fun (_ : Unit) => ⟨[], []⟩) fun _ =>
 .fin true)
noncomputable def R18_Few (o : Order) : Bool := (R18_Few_sk o).val
theorem R18_Few_ok (o : Order) : (R18_Few_sk o).obs (fun _ => True) := by
 unfold R18_Few_sk
 try simp only [R15_Few_k]
 exact okD
noncomputable def R18_Few_k (o : Order) : Ctr (Bool) := kk tok mixed Tryz.func69 [av o.cells] (fun x => bv x) true (R18_Few_sk o) (R18_Few o) (fun (_ : True) => R18_Few_ok o)
noncomputable def R21_Few_sk (r : Realm) (f : File) : Sk (Bool) :=
 .r 1 (.dep ((R09_Few_k r).c) fun x1 => .wh (!x1) false ((R14_Few_k f).c)) fun p6 =>
 .br ((!p6.1) || (!p6.2))
 (.fin false)
 (.bind true (fun _ => True)
 (.loop (default : Sum (Bool) (Unit)) (fun i4 => i4 ≤ r.orders.length) (fun i4 => r.orders.length - i4) (0 : Nat)
 (fun (i4 : Nat) => ⟨[(5, iv (i4 : Int))], []⟩) fun i4 =>
 .bnd 2 4 r.orders.length <|
 .br (decide ((i4 : Int) < ((r.orders.length : Nat) : Int)))
 (.r 6 (.andl (.p (ixP (i4 : Int) r.orders.length)) ((R18_Few_k (r.orders.getD i4 default)).c)) fun x5 =>
 .br (!x5)
 (.fin (.inl (.inl false)))
 (.r 5 .z fun _ =>
 .wi 5 (w64 ((i4 : Int) + 1)) ((i4 + 1 : Nat) : Int) <|
 .fin (.inr (i4 + 1))))
 (.fin (.inl (.inr ()))))
 (fun (_ : Unit) => ⟨[], []⟩) fun _ =>
 .fin true)
noncomputable def R21_Few (r : Realm) (f : File) : Bool := (R21_Few_sk r f).val
theorem R21_Few_pst (r : Realm) (f : File) : (R21_Few_sk r f).pst (fun (x : Bool) => x = true → r.Small ∧ f.Small) := by
 unfold R21_Few_sk
 try simp only [R09_Few_k, R14_Few_k, R18_Few_k, R14_Few_eq, File.Small, Realm.Small]
 exact okQ
theorem R21_Few_post (r : Realm) (f : File) : (fun (x : Bool) => x = true → r.Small ∧ f.Small) (R21_Few r f) := have h := Sk.pval _ (R21_Few_pst r f); h
theorem R21_Few_ok (r : Realm) (f : File) : (R21_Few_sk r f).obs (fun _ => True) := by
 unfold R21_Few_sk
 try simp only [R09_Few_k, R14_Few_k, R18_Few_k, R14_Few_eq, File.Small, Realm.Small]
 exact okG
noncomputable def R21_Few_k (r : Realm) (f : File) : Ctr (Bool) := kk tok mixed Tryz.func31 [av r.cells, av f.cells] (fun x => bv x) true (R21_Few_sk r f) (R21_Few r f) (fun (_ : True) => R21_Few_ok r f) (fun (x : Bool) => x = true → r.Small ∧ f.Small) (R21_Few_post r f)
noncomputable def R09_Letter_sk (c_ : Int) : Sk (Bool) :=
 .fin (((decide ((97 : Int) ≤ c_)) && (decide (c_ ≤ 122))) || ((decide ((65 : Int) ≤ c_)) && (decide (c_ ≤ 90))))
noncomputable def R09_Letter (c_ : Int) : Bool := (R09_Letter_sk c_).val
theorem R09_Letter_eq (c_ : Int) : R09_Letter c_ = (((decide ((97 : Int) ≤ c_)) && (decide (c_ ≤ 122))) || ((decide ((65 : Int) ≤ c_)) && (decide (c_ ≤ 90)))) := rfl
theorem R09_Letter_ok (c_ : Int) : (R09_Letter_sk c_).obs (fun _ => True) := by
 unfold R09_Letter_sk
 exact okE
noncomputable def R09_Letter_k (c_ : Int) : Ctr (Bool) := kk tok mixed Tryz.func235 [.d (.v (.int .u8 c_))] (fun x => bv x) true (R09_Letter_sk c_) (R09_Letter c_) (fun (_ : True) => R09_Letter_ok c_)
noncomputable def R09_Name_sk (s : ByteArray) : Sk (Bool) :=
 .br ((decide (((s.size : Nat) : Int) < 1)) || (decide (((s.size : Nat) : Int) > 20)))
 (.fin false)
 (.bind true (fun _ => True)
 (.loop (default : Sum (Bool) (Unit)) (fun i2 => i2 ≤ s.size) (fun i2 => s.size - i2) (0 : Nat)
 (fun (i2 : Nat) => ⟨[(3, iv (i2 : Int))], []⟩) fun i2 =>
 .br (decide ((i2 : Int) < ((s.size : Nat) : Int)))
 (.r 6 (.andl (.p (0 ≤ (i2 : Int) ∧ (i2 : Int) < ((s.size : Nat) : Int))) (.andl (.wh (((s.data.toList.getD i2 0).toNat : Int) == 95) false (.p (0 ≤ (i2 : Int) ∧ (i2 : Int) < ((s.size : Nat) : Int)))) (.wh (((s.data.toList.getD i2 0).toNat : Int) == 95) false (.wh (decide ((48 : Int) ≤ ((s.data.toList.getD i2 0).toNat : Int))) true (.p (0 ≤ (i2 : Int) ∧ (i2 : Int) < ((s.size : Nat) : Int))))))) fun _ =>
 .r 7 (.andl (.p (0 ≤ (i2 : Int) ∧ (i2 : Int) < ((s.size : Nat) : Int))) ((R09_Letter_k ((s.data.toList.getD i2 0).toNat : Int)).c)) fun x3 =>
 .br ((!x3) && (((i2 : Int) == 0) || (!((((s.data.toList.getD i2 0).toNat : Int) == 95) || ((decide ((48 : Int) ≤ ((s.data.toList.getD i2 0).toNat : Int))) && (decide (((s.data.toList.getD i2 0).toNat : Int) ≤ 57)))))))
 (.fin (.inl (.inl false)))
 (.r 5 .z fun _ =>
 .wi 3 (w64 ((i2 : Int) + 1)) ((i2 + 1 : Nat) : Int) <|
 .fin (.inr (i2 + 1))))
 (.fin (.inl (.inr ()))))
 (fun (_ : Unit) => ⟨[], []⟩) fun _ =>
 .fin true)
noncomputable def R09_Name (s : ByteArray) : Bool := (R09_Name_sk s).val
theorem R09_Name_ok (s : ByteArray) : (R09_Name_sk s).obs (fun _ => True) := by
 unfold R09_Name_sk
 try simp only [R09_Letter_k, R09_Letter_eq]
 exact okG
noncomputable def R09_Name_k (s : ByteArray) : Ctr (Bool) := kk tok mixed Tryz.func195 [sv s] (fun x => bv x) true (R09_Name_sk s) (R09_Name s) (fun (_ : True) => R09_Name_ok s)
noncomputable def R09_Before_sk (l : List ByteArray) (n : Int) (s : ByteArray) : Sk (Bool) :=
 .bind true (fun _ => True)
 (.loop (default : Sum (Bool) (Unit)) (fun i2 => i2 ≤ l.length) (fun i2 => l.length - i2) (0 : Nat)
 (fun (i2 : Nat) => ⟨[(7, iv (i2 : Int))], []⟩) fun i2 =>
 .bnd 0 0 l.length <|
 .br ((decide ((i2 : Int) < n)) && (decide ((i2 : Int) < ((l.length : Nat) : Int))))
 (.r 4 (.p (ixP (i2 : Int) l.length)) fun _ =>
 .br ((l.getD i2 default).toList == s.toList)
 (.fin (.inl (.inl true)))
 (.r 3 .z fun _ =>
 .wi 7 (w64 ((i2 : Int) + 1)) ((i2 + 1 : Nat) : Int) <|
 .fin (.inr (i2 + 1))))
 (.fin (.inl (.inr ()))))
 (fun (_ : Unit) => ⟨[], []⟩) fun _ =>
 .fin false
noncomputable def R09_Before (l : List ByteArray) (n : Int) (s : ByteArray) : Bool := (R09_Before_sk l n s).val
theorem R09_Before_ok (l : List ByteArray) (n : Int) (s : ByteArray) : (R09_Before_sk l n s).obs (fun _ => True) := by
 unfold R09_Before_sk
 exact okD
noncomputable def R09_Before_k (l : List ByteArray) (n : Int) (s : ByteArray) : Ctr (Bool) := kk tok mixed Tryz.func196 [lv strC l, iv n, sv s] (fun x => bv x) true (R09_Before_sk l n s) (R09_Before l n s) (fun (_ : True) => R09_Before_ok l n s)
noncomputable def R09_named_sk (l : List ByteArray) (i : Int) : Sk (Int) :=
 .r 1 (.andl (.p (ixP i l.length)) ((R09_Name_k (l.getD i.toNat default)).c)) fun x1 =>
 .br (!x1)
 (.fin 2)
 (.r 3 (.andl (.p (ixP i l.length)) ((R09_Before_k l i (l.getD i.toNat default)).c)) fun x2 =>
 .br x2
 (.fin 5)
 (.fin 0))
noncomputable def R09_named (l : List ByteArray) (i : Int) : Int := (R09_named_sk l i).val
theorem R09_named_ok (l : List ByteArray) (i : Int) (hi : 0 ≤ i ∧ i < (l.length : Int)) : (R09_named_sk l i).obs (fun _ => True) := by
 unfold R09_named_sk
 try simp only [R09_Before_k, R09_Name_k]
 exact okD
noncomputable def R09_named_k (l : List ByteArray) (i : Int) : Ctr (Int) := kk tok mixed Tryz.func135 [lv strC l, iv i] (fun x => iv x) true (R09_named_sk l i) (R09_named l i) (fun (h : (0 ≤ i ∧ i < (l.length : Int))) => R09_named_ok l i h)
noncomputable def R09_Within_sk (n : Int) (low : Int) (high : Int) : Sk (Bool) :=
 .fin ((decide (low ≤ n)) && (decide (n ≤ high)))
noncomputable def R09_Within (n : Int) (low : Int) (high : Int) : Bool := (R09_Within_sk n low high).val
theorem R09_Within_eq (n : Int) (low : Int) (high : Int) : R09_Within n low high = ((decide (low ≤ n)) && (decide (n ≤ high))) := rfl
theorem R09_Within_ok (n : Int) (low : Int) (high : Int) : (R09_Within_sk n low high).obs (fun _ => True) := by
 unfold R09_Within_sk
 exact okE
noncomputable def R09_Within_k (n : Int) (low : Int) (high : Int) : Ctr (Bool) := kk tok mixed Tryz.func77 [iv n, iv low, iv high] (fun x => bv x) true (R09_Within_sk n low high) (R09_Within n low high) (fun (_ : True) => R09_Within_ok n low high)
noncomputable def R09_Rising_sk (l : List Int) (low : Int) (high : Int) : Sk (Bool) :=
 .bind true (fun _ => True)
 (.loop (default : Sum (Bool) (Unit)) (fun i2 => i2 ≤ l.length) (fun i2 => l.length - i2) (0 : Nat)
 (fun (i2 : Nat) => ⟨[(7, iv (i2 : Int))], []⟩) fun i2 =>
 .bnd 0 0 l.length <|
 .br (decide ((i2 : Int) < ((l.length : Nat) : Int)))
 (.r 4 (.andl (.p (ixP (i2 : Int) l.length)) ((R09_Within_k (l.getD i2 default) low high).c)) fun x3 =>
 .br (!x3)
 (.fin (.inl (.inl false)))
 (.r 6 (.andl (.wh (decide ((i2 : Int) > 0)) true (.p (ixP (w64 ((i2 : Int) - 1)) l.length))) (.wh (decide ((i2 : Int) > 0)) true (.p (ixP (i2 : Int) l.length)))) fun _ =>
 .br ((decide ((i2 : Int) > 0)) && (decide ((l.getD ((w64 ((i2 : Int) - 1)).toNat) default) ≥ (l.getD i2 default))))
 (.fin (.inl (.inl false)))
 (.r 3 .z fun _ =>
 .wi 7 (w64 ((i2 : Int) + 1)) ((i2 + 1 : Nat) : Int) <|
 .fin (.inr (i2 + 1)))))
 (.fin (.inl (.inr ()))))
 (fun (_ : Unit) => ⟨[], []⟩) fun _ =>
 .fin true
noncomputable def R09_Rising (l : List Int) (low : Int) (high : Int) : Bool := (R09_Rising_sk l low high).val
theorem R09_Rising_ok (l : List Int) (low : Int) (high : Int) : (R09_Rising_sk l low high).obs (fun _ => True) := by
 unfold R09_Rising_sk
 try simp only [R09_Within_k, R09_Within_eq]
 exact okG
noncomputable def R09_Rising_k (l : List Int) (low : Int) (high : Int) : Ctr (Bool) := kk tok mixed Tryz.func197 [lv intC l, iv low, iv high] (fun x => bv x) true (R09_Rising_sk l low high) (R09_Rising l low high) (fun (_ : True) => R09_Rising_ok l low high)
noncomputable def R09_RightCity_sk (r : Realm) (c_ : City) : Sk (Bool) :=
 .r 1 (.dep ((R09_Within_k c_.order 0 (w64 (((r.orders.length : Nat) : Int) - 1))).c) fun x1 => .wh (!x1) false ((R09_Within_k c_.currency 0 (w64 (((r.currencies.length : Nat) : Int) - 1))).c)) fun p12 =>
 .br ((((!p12.1) || (!p12.2)) || (decide (((c_.feasts.length : Nat) : Int) > 60))) || (decide (((c_.shut.length : Nat) : Int) > 200)))
 (.fin false)
 (.bind true (fun _ => True)
 (.loop (default : Sum (Bool) (Unit)) (fun i4 => i4 ≤ c_.feasts.length) (fun i4 => c_.feasts.length - i4) (0 : Nat)
 (fun (i4 : Nat) => ⟨[(5, iv (i4 : Int))], []⟩) fun i4 =>
 .bnd 3 4 c_.feasts.length <|
 .br (decide ((i4 : Int) < ((c_.feasts.length : Nat) : Int)))
 (.r 6 (.andl (.p (ixP (i4 : Int) c_.feasts.length)) (.andl (.p ((100 : Int) ≠ 0)) (.dep ((R09_Within_k (w64 ((c_.feasts.getD i4 default).tdiv 100)) 1 12).c) fun x5 => .andl (.wh (!x5) false (.p (ixP (i4 : Int) c_.feasts.length))) (.andl (.wh (!x5) false (.p ((100 : Int) ≠ 0))) (.wh (!x5) false ((R09_Within_k ((c_.feasts.getD i4 default).tmod 100) 1 31).c)))))) fun p7 =>
 .br ((!p7.1) || (!p7.2))
 (.fin (.inl (.inl false)))
 (.r 5 .z fun _ =>
 .wi 5 (w64 ((i4 : Int) + 1)) ((i4 + 1 : Nat) : Int) <|
 .fin (.inr (i4 + 1))))
 (.fin (.inl (.inr ()))))
 (fun (_ : Unit) => ⟨[], []⟩) fun _ =>
 .r 8 (.dep ((R09_Rising_k c_.rest 0 6).c) fun x8 => .dep (.wh x8 true ((R09_Rising_k c_.feasts 0 2000).c)) fun x9 => .wh (x8 && x9) true ((R09_Rising_k c_.shut 0 100000).c)) fun p11 =>
 .fin ((p11.1 && p11.2.1) && p11.2.2))
noncomputable def R09_RightCity (r : Realm) (c_ : City) : Bool := (R09_RightCity_sk r c_).val
theorem R09_RightCity_ok (r : Realm) (c_ : City) : (R09_RightCity_sk r c_).obs (fun _ => True) := by
 unfold R09_RightCity_sk
 try simp only [R09_Rising_k, R09_Within_k, R09_Within_eq]
 exact okG
noncomputable def R09_RightCity_k (r : Realm) (c_ : City) : Ctr (Bool) := kk tok mixed Tryz.func136 [av r.cells, av c_.cells] (fun x => bv x) true (R09_RightCity_sk r c_) (R09_RightCity r c_) (fun (_ : True) => R09_RightCity_ok r c_)
noncomputable def R09_cities_sk (r : Realm) : Sk (Int) :=
 .br (decide (((r.currencies.length : Nat) : Int) > 8))
 (.fin 6)
 (.bind true (fun _ => True)
 (.loop (default : Sum (Int) (Unit)) (fun i2 => i2 ≤ r.currencies.length) (fun i2 => r.currencies.length - i2) (0 : Nat)
 (fun (i2 : Nat) => ⟨[(3, iv (i2 : Int))], []⟩) fun i2 =>
 .bnd 1 0 r.currencies.length <|
 .br (decide ((i2 : Int) < ((r.currencies.length : Nat) : Int)))
 (.r 6 ((R09_named_k r.currencies (i2 : Int)).c) fun x3 =>
 .br (x3 != 0)
 (.fin (.inl (.inl x3)))
 (.r 5 .z fun _ =>
 .wi 3 (w64 ((i2 : Int) + 1)) ((i2 + 1 : Nat) : Int) <|
 .fin (.inr (i2 + 1))))
 (.fin (.inl (.inr ()))))
 (fun (_ : Unit) => ⟨[], []⟩) fun _ =>
 .br (decide (((r.cities.length : Nat) : Int) > 40))
 (.fin 6)
 (.bind true (fun _ => True)
 (.loop (default : Sum (Int) (Unit)) (fun i5 => i5.1.length = i5.2 ∧ i5.2 ≤ r.cities.length) (fun i5 => r.cities.length - i5.2) (([], 0) : (List ByteArray) × Nat)
 (fun (i5 : (List ByteArray) × Nat) => ⟨[(5, ow 100001 i5.1), (6, iv (i5.2 : Int))], [(100001, rowB 9 1 strC i5.1)]⟩) fun i5 =>
 .bnd 1 1 r.cities.length <|
 .br (decide ((i5.2 : Int) < ((r.cities.length : Nat) : Int)))
 (.r 15 (.andl (.p (ixP (i5.2 : Int) r.cities.length)) (.andl (.o [.nrm (litC strE [(r.cities.getD i5.2 default).name])]) (.andl (.o [.nrm (catC strE i5.1 [(r.cities.getD i5.2 default).name])]) (.andl (.t (strE.ones [(r.cities.getD i5.2 default).name])) (.p (szP i5.1.length [(r.cities.getD i5.2 default).name].length 16)))))) fun _ =>
 .r 16 ((R09_named_k (i5.1 ++ [(r.cities.getD i5.2 default).name]) (i5.2 : Int)).c) fun x6 =>
 .br (x6 != 0)
 (.fin (.inl (.inl x6)))
 (.r 19 (.andl (.p (ixP (i5.2 : Int) r.cities.length)) ((R09_RightCity_k r (r.cities.getD i5.2 default)).c)) fun x7 =>
 .br (!x7)
 (.fin (.inl (.inl 1)))
 (.r 14 .z fun _ =>
 .wi 6 (w64 ((i5.2 : Int) + 1)) ((i5.2 + 1 : Nat) : Int) <|
 .fin (.inr (i5.1 ++ [(r.cities.getD i5.2 default).name], i5.2 + 1)))))
 (.fin (.inl (.inr ()))))
 (fun (_ : Unit) => ⟨[], []⟩) fun _ =>
 .fin 0))
noncomputable def R09_cities (r : Realm) : Int := (R09_cities_sk r).val
theorem R09_cities_pst (r : Realm) : (R09_cities_sk r).pst (fun (x : Int) => x = 0 → r.currencies.length ≤ 8 ∧ r.cities.length ≤ 40) := by
 unfold R09_cities_sk
 try simp only [R09_RightCity_k, R09_named_k]
 exact okP
theorem R09_cities_post (r : Realm) : (fun (x : Int) => x = 0 → r.currencies.length ≤ 8 ∧ r.cities.length ≤ 40) (R09_cities r) := have h := Sk.pval _ (R09_cities_pst r); h
theorem R09_cities_ok (r : Realm) : (R09_cities_sk r).obs (fun _ => True) := by
 unfold R09_cities_sk
 try simp only [R09_RightCity_k, R09_named_k]
 exact okD
noncomputable def R09_cities_k (r : Realm) : Ctr (Int) := kk tok mixed Tryz.func70 [av r.cells] (fun x => iv x) true (R09_cities_sk r) (R09_cities r) (fun (_ : True) => R09_cities_ok r) (fun (x : Int) => x = 0 → r.currencies.length ≤ 8 ∧ r.cities.length ≤ 40) (R09_cities_post r)
noncomputable def R09_firms_sk (r : Realm) : Sk (Int) :=
 .br (decide (((r.groups.length : Nat) : Int) > 20))
 (.fin 6)
 (.bind true (fun _ => True)
 (.loop (default : Sum (Int) (Unit)) (fun i2 => i2 ≤ r.groups.length) (fun i2 => r.groups.length - i2) (0 : Nat)
 (fun (i2 : Nat) => ⟨[(3, iv (i2 : Int))], []⟩) fun i2 =>
 .bnd 1 2 r.groups.length <|
 .br (decide ((i2 : Int) < ((r.groups.length : Nat) : Int)))
 (.r 6 (.andl (.p (ixP (i2 : Int) r.groups.length)) ((R09_Within_k ((r.groups.getD i2 default).grade) 0 9).c)) fun x3 =>
 .br (!x3)
 (.fin (.inl (.inl 1)))
 (.r 5 .z fun _ =>
 .wi 3 (w64 ((i2 : Int) + 1)) ((i2 + 1 : Nat) : Int) <|
 .fin (.inr (i2 + 1))))
 (.fin (.inl (.inr ()))))
 (fun (_ : Unit) => ⟨[], []⟩) fun _ =>
 .br (decide (((r.firms.length : Nat) : Int) > 200))
 (.fin 6)
 (.bind true (fun b4 => r.cities.length ≤ 40 → r.FirmOK)
 (.loop (default : Sum (Int) (Unit)) (fun i5 => i5.1.length = i5.2 ∧ i5.2 ≤ r.firms.length ∧ (r.cities.length ≤ 40 → ∀ q, q < i5.2 → 0 ≤ (r.firms.getD q default).city ∧ (r.firms.getD q default).city < (r.cities.length : Int))) (fun i5 => r.firms.length - i5.2) (([], 0) : (List ByteArray) × Nat)
 (fun (i5 : (List ByteArray) × Nat) => ⟨[(4, ow 100001 i5.1), (5, iv (i5.2 : Int))], [(100001, rowB 9 1 strC i5.1)]⟩) fun i5 =>
 .bnd 1 3 r.firms.length <|
 .br (decide ((i5.2 : Int) < ((r.firms.length : Nat) : Int)))
 (.r 14 (.andl (.p (ixP (i5.2 : Int) r.firms.length)) (.andl (.o [.nrm (litC strE [(r.firms.getD i5.2 default).name])]) (.andl (.o [.nrm (catC strE i5.1 [(r.firms.getD i5.2 default).name])]) (.andl (.t (strE.ones [(r.firms.getD i5.2 default).name])) (.p (szP i5.1.length [(r.firms.getD i5.2 default).name].length 16)))))) fun _ =>
 .r 15 ((R09_named_k (i5.1 ++ [(r.firms.getD i5.2 default).name]) (i5.2 : Int)).c) fun x6 =>
 .br (x6 != 0)
 (.fin (.inl (.inl x6)))
 (.r 18 (.andl (.p (ixP (i5.2 : Int) r.firms.length)) (.dep ((R09_Within_k ((r.firms.getD i5.2 default).city) 0 (w64 (((r.cities.length : Nat) : Int) - 1))).c) fun x7 => .andl (.wh (!x7) false (.p (ixP (i5.2 : Int) r.firms.length))) (.wh (!x7) false ((R09_Within_k ((r.firms.getD i5.2 default).group) 0 (w64 (((r.groups.length : Nat) : Int) - 1))).c)))) fun p9 =>
 .br ((!p9.1) || (!p9.2))
 (.fin (.inl (.inl 1)))
 (.r 13 .z fun _ =>
 .wi 5 (w64 ((i5.2 : Int) + 1)) ((i5.2 + 1 : Nat) : Int) <|
 .fin (.inr (i5.1 ++ [(r.firms.getD i5.2 default).name], i5.2 + 1)))))
 (.fin (.inl (.inr ()))))
 (fun (_ : Unit) => ⟨[], []⟩) fun _ =>
 .fin 0))
noncomputable def R09_firms (r : Realm) : Int := (R09_firms_sk r).val
theorem R09_firms_pst (r : Realm) (hP : r.cities.length ≤ 40) : (R09_firms_sk r).pst (fun (x : Int) => x = 0 → r.groups.length ≤ 20 ∧ r.firms.length ≤ 200 ∧ r.FirmOK) := by
 refine Sk.pst_of _ ?_
 unfold R09_firms_sk
 simp only [Sk.pstq, Sk.isLoop, reduceCtorEq, ON, kk, R09_Within_k, R09_named_k, R09_Within_eq, forall_eq, Realm.FirmOK, maxLen]
 all_goals exact okT2
theorem R09_firms_post (r : Realm) : (fun (x : Int) => (r.cities.length ≤ 40) → (x = 0 → r.groups.length ≤ 20 ∧ r.firms.length ≤ 200 ∧ r.FirmOK)) (R09_firms r) := fun hP => Sk.pval _ (R09_firms_pst r hP)
theorem R09_firms_ok (r : Realm) : (R09_firms_sk r).obs (fun _ => True) := by
 refine Sk.obs_of _ ?_
 unfold R09_firms_sk
 simp only [Sk.obq, Sk.isLoop, reduceCtorEq, ON, kk, R09_Within_k, R09_named_k, R09_Within_eq, forall_eq, Realm.FirmOK, maxLen]
 all_goals exact okT2
noncomputable def R09_firms_k (r : Realm) : Ctr (Int) := kk tok mixed Tryz.func71 [av r.cells] (fun x => iv x) true (R09_firms_sk r) (R09_firms r) (fun (_ : True) => R09_firms_ok r) (fun (x : Int) => (r.cities.length ≤ 40) → (x = 0 → r.groups.length ≤ 20 ∧ r.firms.length ≤ 200 ∧ r.FirmOK)) (R09_firms_post r)
end Go.Proofs.YtbcnlpcaajpclaaGreatDoor
