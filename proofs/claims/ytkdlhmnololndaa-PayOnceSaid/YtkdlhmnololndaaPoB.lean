/- Plain functions. -/
import Derived.Test.YtkdlhmnololndaaPoT
namespace Go.Proofs.Ytkdlhmnololndaa
open Go Go.Av
set_option linter.unusedSimpArgs false
set_option linter.unusedVariables false
set_option maxHeartbeats 4000000
structure Claim where
  debtor : Int
  creditor : Int
  part : Int
  sign : Int
  by_ : Int
  turn : Int
  sum : Int
  currency : Int
  state : Int
  deriving Inhabited

def Claim.cells (c : Claim) : List D := [.v (.int .i64 c.debtor), .v (.int .i64 c.creditor), .v (.int .i64 c.part), .v (.int .i64 c.sign), .v (.int .i64 c.by_), .v (.int .i64 c.turn), .v (.int .i64 c.sum), .v (.int .i64 c.currency), .v (.int .i64 c.state)]

def Claim.setDebtor (c : Claim) (v : Int) : Claim := { c with debtor := v }
def Claim.setCreditor (c : Claim) (v : Int) : Claim := { c with creditor := v }
def Claim.setPart (c : Claim) (v : Int) : Claim := { c with part := v }
def Claim.setSign (c : Claim) (v : Int) : Claim := { c with sign := v }
def Claim.setBy_ (c : Claim) (v : Int) : Claim := { c with by_ := v }
def Claim.setTurn (c : Claim) (v : Int) : Claim := { c with turn := v }
def Claim.setSum (c : Claim) (v : Int) : Claim := { c with sum := v }
def Claim.setCurrency (c : Claim) (v : Int) : Claim := { c with currency := v }
def Claim.setState (c : Claim) (v : Int) : Claim := { c with state := v }

structure Key where
  debtor : Int
  creditor : Int
  part : Int
  sign : Int
  by_ : Int
  deriving Inhabited

def Key.cells (c : Key) : List D := [.v (.int .i64 c.debtor), .v (.int .i64 c.creditor), .v (.int .i64 c.part), .v (.int .i64 c.sign), .v (.int .i64 c.by_)]

def Key.setDebtor (c : Key) (v : Int) : Key := { c with debtor := v }
def Key.setCreditor (c : Key) (v : Int) : Key := { c with creditor := v }
def Key.setPart (c : Key) (v : Int) : Key := { c with part := v }
def Key.setSign (c : Key) (v : Int) : Key := { c with sign := v }
def Key.setBy_ (c : Key) (v : Int) : Key := { c with by_ := v }

structure Act where
  kind : Int
  who : Int
  to_ : Int
  part : Int
  at_ : Int
  sum : Int
  day : Int
  city : Int
  form : Int
  deriving Inhabited

def Act.cells (c : Act) : List D := [.v (.int .i64 c.kind), .v (.int .i64 c.who), .v (.int .i64 c.to_), .v (.int .i64 c.part), .v (.int .i64 c.at_), .v (.int .i64 c.sum), .v (.int .i64 c.day), .v (.int .i64 c.city), .v (.int .i64 c.form)]

def Act.setKind (c : Act) (v : Int) : Act := { c with kind := v }
def Act.setWho (c : Act) (v : Int) : Act := { c with who := v }
def Act.setTo_ (c : Act) (v : Int) : Act := { c with to_ := v }
def Act.setPart (c : Act) (v : Int) : Act := { c with part := v }
def Act.setAt_ (c : Act) (v : Int) : Act := { c with at_ := v }
def Act.setSum (c : Act) (v : Int) : Act := { c with sum := v }
def Act.setDay (c : Act) (v : Int) : Act := { c with day := v }
def Act.setCity (c : Act) (v : Int) : Act := { c with city := v }
def Act.setForm (c : Act) (v : Int) : Act := { c with form := v }
def pay_of (c : Claim) : Key :=
  ({ debtor := c.debtor, creditor := c.creditor, part := c.part, sign := c.sign, by_ := c.by_ } : Key)

set_option maxRecDepth 100000 in
theorem pay_of_fn (c : Claim) : FnA Try.prog 14 [.d (.agg c.cells)] [] (.d (.agg ((pay_of c).cells))) [] := by
  refine FnA.intro (T := TT) Try.func14 rfl (by kernel_rfl) (Nat.le_of_ble_eq_true rfl) ?_
  have hF := (pay_of.eq_1 c).symm
  refine G.seq ?_
  refine G.region tok mixed (keep := some [1, 2]) (orc := []) (st' := ⟨[(2, .ptr 2 0), (1, .ptr 1 0)], [(2, .box [.d (.v (.int .i64 0)), .d (.v (.int .i64 0)), .d (.v (.int .i64 0)), .d (.v (.int .i64 0)), .d (.v (.int .i64 0))]), (1, .box (c.cells.map .d))]⟩) (ob := .tt) (by kernel_rfl) trivial ?_
  refine G.seq ?_
  refine G.region tok mixed (keep := some [2]) (orc := []) (st' := ⟨[(2, .ptr 2 0)], [(2, .box [.d (.v (.int .i64 c.debtor)), .d (.v (.int .i64 c.creditor)), .d (.v (.int .i64 c.part)), .d (.v (.int .i64 c.sign)), .d (.v (.int .i64 c.by_))]), (1, .box (c.cells.map .d))]⟩) (ob := .tt) (by kernel_rfl) trivial ?_
  refine G.ret tok Try.func14 rfl rfl (by (repeat' apply And.intro) <;> first | exact Nat.le_refl _ | trivial | omega | rfl | assumption | exact DLe.rfl') rfl (by (repeat' apply And.intro) <;> first | exact Nat.le_refl _ | trivial | omega | rfl | assumption | exact DLe.rfl') ?_
  show AvLe _ (.d (.agg ((pay_of c).cells)))
  rw [← hF]
  first | exact AvLe.rfl' | exact AvLe.d (dle_nilsl _)

def pay_meets (a : Act) (stranger : Bool) (c : Claim) : Bool :=
  bif c.creditor == a.to_ then true else bif c.creditor == (-1) then stranger else false

set_option maxRecDepth 100000 in
theorem pay_meets_fn (a : Act) (stranger : Bool) (c : Claim) : FnA Try.prog 11 [.d (.agg a.cells), .d (.v (.bool stranger)), .d (.agg c.cells)] [] (.d (.v (.bool (pay_meets a stranger c)))) [] := by
  refine FnA.intro (T := TT) Try.func11 rfl (by kernel_rfl) (Nat.le_of_ble_eq_true rfl) ?_
  have hF := (pay_meets.eq_1 a stranger c).symm
  refine G.seq ?_
  refine G.region tok mixed (keep := some [1, 3, 5]) (orc := []) (st' := ⟨[(5, .ptr 5 0), (3, .ptr 3 0), (1, .d (.v (.bool stranger)))], [(5, .box (c.cells.map .d)), (3, .box (a.cells.map .d))]⟩) (ob := .tt) (by kernel_rfl) trivial ?_
  refine G.seq ?_
  refine G.region tok mixed (keep := some [6]) (orc := []) (st' := ⟨[(6, .d (.v (.bool (bif c.creditor == a.to_ then true else bif c.creditor == (-1) then stranger else false))))], [(5, .box (c.cells.map .d)), (3, .box (a.cells.map .d))]⟩) (ob := .pr (((c.creditor == a.to_) = (c.creditor == a.to_)) ∧ (((c.creditor == a.to_) = (c.creditor == a.to_)) ∧ (((c.creditor == a.to_) = (c.creditor == a.to_)) ∧ ((((c.creditor == a.to_) = (c.creditor == a.to_)) ∧ ((c.creditor == (-1)) = (c.creditor == (-1)))) ∧ ((c.creditor == a.to_) = (c.creditor == a.to_))))))) (by kernel_rfl) (Ob.pr_den ⟨rfl, ⟨rfl, ⟨rfl, ⟨⟨rfl, rfl⟩, rfl⟩⟩⟩⟩) ?_
  refine G.ret tok Try.func11 rfl rfl (by (repeat' apply And.intro) <;> first | exact Nat.le_refl _ | trivial | omega | rfl | assumption | exact DLe.rfl') rfl (by (repeat' apply And.intro) <;> first | exact Nat.le_refl _ | trivial | omega | rfl | assumption | exact DLe.rfl') ?_
  show AvLe _ (.d (.v (.bool (pay_meets a stranger c))))
  rw [← hF]
  first | exact AvLe.rfl' | exact AvLe.d (dle_nilsl _)

def bind_join_loop0 (l : List Int) : Nat → Nat → Int → Int
  | 0, _, _ => default
  | fv0 + 1, k0, out_3 => bif decide (((k0 : Nat) : Int) < ((l.length : Nat) : Int)) then (bif (l.getD k0 default) == 0 then 0 else (bif (l.getD k0 default) == 2 then (bind_join_loop0 l fv0 (k0 + 1) 2) else (bind_join_loop0 l fv0 (k0 + 1) out_3))) else out_3

def bind_join (l : List Int) : Int :=
  bind_join_loop0 l (l.length + 1) 0 1

structure bind_join_inv0 (l : List Int) (fu0 : Nat) (k0 : Nat) (out_3 : Int) : Prop where
  hf : fu0 + k0 = l.length + 1
  hk : k0 ≤ l.length
  hF : bind_join_loop0 l fu0 k0 out_3 = bind_join l

set_option maxRecDepth 100000 in
theorem bind_join_fn (l : List Int) : FnA Try.prog 16 [.d (slD intC l)] [] (.d (.v (.int .i64 (bind_join l)))) [] := by
  refine FnA.intro (T := TT) Try.func16 rfl (by kernel_rfl) (Nat.le_of_ble_eq_true rfl) ?_
  have hF := (bind_join.eq_1 l).symm
  refine G.seq ?_
  refine G.region tok mixed (keep := some [0]) (orc := []) (st' := ⟨[(0, .d (slD intC l))], []⟩) (ob := .tt) (by kernel_rfl) trivial ?_
  refine G.seq ?_
  refine G.region tok mixed (keep := some [0, 3]) (orc := []) (st' := ⟨[(3, .d (.v (.int .i64 1))), (0, .d (slD intC l))], []⟩) (ob := .tt) (by kernel_rfl) trivial ?_
  refine G.seq ?_
  refine G.seq ?_
  refine G.region tok mixed (keep := some [3, 6, 7, 8]) (orc := []) (st' := ⟨[(8, .d (.v (.int .i64 0))), (7, .d (.v (.int .i64 ((l.length : Nat) : Int)))), (6, .d (slD intC l)), (3, .d (.v (.int .i64 1)))], []⟩) (ob := .tt) (by kernel_rfl) trivial ?_
  refine G.block ?_
  refine G.loop (ι := {p : Nat × Nat × Int // bind_join_inv0 l p.1 p.2.1 p.2.2}) (fun ⟨⟨fu0, k0, out_3⟩, hf0, hk0, hF⟩ => ⟨[(8, .d (.v (.int .i64 ((k0 : Nat) : Int)))), (7, .d (.v (.int .i64 ((l.length : Nat) : Int)))), (6, .d (slD intC l)), (3, .d (.v (.int .i64 out_3)))], []⟩) (fun ⟨⟨fu0, k0, out_3⟩, hf0, hk0, hF⟩ => fu0) ⟨(l.length + 1, 0, 1), by first | (dsimp only; omega) | omega | (dsimp only; done), by first | (dsimp only; omega) | omega | (dsimp only; done), hF⟩ (LeS.of [] rfl rfl (by (repeat' with_reducible apply And.intro) <;> first | exact dle_int rfl | exact dle_nilsl _ | rfl | exact Nat.le_refl _ | trivial | omega | assumption | exact DLe.rfl' | (unfold maxLen; omega) | (intros; first | rfl | trivial | omega | (simp_all; done) | (simp_all; omega))) rfl (by (repeat' with_reducible apply And.intro) <;> first | rfl | exact Nat.le_refl _ | trivial | omega | assumption | exact DLe.rfl' | (unfold maxLen; omega) | (intros; first | rfl | trivial | omega | (simp_all; done) | (simp_all; omega)))) ?_
  rintro ⟨⟨fu0, k0, out_3⟩, hf0, hk0, hF⟩ ih0
  show G _ _ ⟨[(8, .d (.v (.int .i64 ((k0 : Nat) : Int)))), (7, .d (.v (.int .i64 ((l.length : Nat) : Int)))), (6, .d (slD intC l)), (3, .d (.v (.int .i64 out_3)))], []⟩
  dsimp only at hf0 hk0 hF
  obtain ⟨fv0, rfl⟩ : ∃ x, fu0 = x + 1 := ⟨fu0 - 1, by omega⟩
  rw [bind_join_loop0] at hF
  refine G.slBound 6 rfl ?_
  intro hb0
  unfold maxLen at hb0
  refine G.seq ?_
  refine G.region tok mixed (keep := some [3, 6, 7, 8, 9]) (orc := []) (st' := ⟨[(9, .d (.v (.bool (decide (((k0 : Nat) : Int) < ((l.length : Nat) : Int)))))), (8, .d (.v (.int .i64 ((k0 : Nat) : Int)))), (7, .d (.v (.int .i64 ((l.length : Nat) : Int)))), (6, .d (slD intC l)), (3, .d (.v (.int .i64 out_3)))], []⟩) (ob := .tt) (by kernel_rfl) trivial ?_
  refine G.seq ?_
  refine G.cond (e := decide (((k0 : Nat) : Int) < ((l.length : Nat) : Int))) rfl (fun h1 => ?_) (fun h1 => ?_)
  · rw [h1, cond_true] at hF
    try simp only [cond_or_false, cond_or_true, cond_and_true, cond_and_false, decide_eq_true_eq, decide_eq_false_iff_not, beq_iff_eq, bne_iff_ne, ne_eq, Bool.and_eq_true, Bool.or_eq_true, Bool.not_eq_true, Bool.not_eq_false, beq_eq_false_iff_ne] at h1
    refine G.skip ?_
    refine G.seq ?_
    refine G.block ?_
    refine G.seq ?_
    refine G.region tok mixed (keep := some [3, 5, 6, 7, 8]) (orc := []) (st' := ⟨[(5, .d (.v (.int .i64 (l.getD k0 default)))), (8, .d (.v (.int .i64 ((k0 : Nat) : Int)))), (7, .d (.v (.int .i64 ((l.length : Nat) : Int)))), (6, .d (slD intC l)), (3, .d (.v (.int .i64 out_3)))], []⟩) (ob := .pr (0 ≤ ((k0 : Nat) : Int) ∧ ((k0 : Nat) : Int) < ((l.length : Nat) : Int))) (by kernel_rfl) (Ob.pr_den (by first | omega | assumption | rfl | (intros; first | rfl | trivial | omega) | (unfold maxLen; omega) | (simp_all; done) | (simp_all; omega))) ?_
    refine G.block ?_
    refine G.seq ?_
    refine G.region tok mixed (keep := some [3, 5, 6, 7, 8, 12]) (orc := []) (st' := ⟨[(12, .d (.v (.bool ((l.getD k0 default) == 0)))), (5, .d (.v (.int .i64 (l.getD k0 default)))), (8, .d (.v (.int .i64 ((k0 : Nat) : Int)))), (7, .d (.v (.int .i64 ((l.length : Nat) : Int)))), (6, .d (slD intC l)), (3, .d (.v (.int .i64 out_3)))], []⟩) (ob := .tt) (by kernel_rfl) trivial ?_
    refine G.cond (e := (l.getD k0 default) == 0) rfl (fun h2 => ?_) (fun h2 => ?_)
    · rw [h2, cond_true] at hF
      try simp only [cond_or_false, cond_or_true, cond_and_true, cond_and_false, decide_eq_true_eq, decide_eq_false_iff_not, beq_iff_eq, bne_iff_ne, ne_eq, Bool.and_eq_true, Bool.or_eq_true, Bool.not_eq_true, Bool.not_eq_false, beq_eq_false_iff_ne] at h2
      refine G.seq ?_
      refine G.region tok mixed (keep := some [2]) (orc := []) (st' := ⟨[(2, .d (.v (.int .i64 0)))], []⟩) (ob := .tt) (by kernel_rfl) trivial ?_
      refine G.ret tok Try.func16 rfl rfl (by (repeat' apply And.intro) <;> first | exact Nat.le_refl _ | trivial | omega | rfl | assumption | exact DLe.rfl') rfl (by (repeat' apply And.intro) <;> first | exact Nat.le_refl _ | trivial | omega | rfl | assumption | exact DLe.rfl') ?_
      show AvLe _ (.d (.v (.int .i64 (bind_join l))))
      rw [← hF]
      first | exact AvLe.rfl' | exact AvLe.d (dle_nilsl _)
    · rw [h2, cond_false] at hF
      try simp only [cond_or_false, cond_or_true, cond_and_true, cond_and_false, decide_eq_true_eq, decide_eq_false_iff_not, beq_iff_eq, bne_iff_ne, ne_eq, Bool.and_eq_true, Bool.or_eq_true, Bool.not_eq_true, Bool.not_eq_false, beq_eq_false_iff_ne] at h2
      refine G.seq ?_
      refine G.region tok mixed (keep := some [3, 6, 7, 8, 15]) (orc := []) (st' := ⟨[(15, .d (.v (.bool ((l.getD k0 default) == 2)))), (8, .d (.v (.int .i64 ((k0 : Nat) : Int)))), (7, .d (.v (.int .i64 ((l.length : Nat) : Int)))), (6, .d (slD intC l)), (3, .d (.v (.int .i64 out_3)))], []⟩) (ob := .tt) (by kernel_rfl) trivial ?_
      refine G.cond (e := (l.getD k0 default) == 2) rfl (fun h3 => ?_) (fun h3 => ?_)
      · rw [h3, cond_true] at hF
        try simp only [cond_or_false, cond_or_true, cond_and_true, cond_and_false, decide_eq_true_eq, decide_eq_false_iff_not, beq_iff_eq, bne_iff_ne, ne_eq, Bool.and_eq_true, Bool.or_eq_true, Bool.not_eq_true, Bool.not_eq_false, beq_eq_false_iff_ne] at h3
        refine G.region tok mixed (keep := some [3, 6, 7, 8]) (orc := []) (st' := ⟨[(3, .d (.v (.int .i64 2))), (8, .d (.v (.int .i64 ((k0 : Nat) : Int)))), (7, .d (.v (.int .i64 ((l.length : Nat) : Int)))), (6, .d (slD intC l))], []⟩) (ob := .tt) (by kernel_rfl) trivial ?_
        refine G.inBlock ?_
        refine G.inBlock ?_
        refine G.region tok mixed (keep := some [3, 6, 7, 8]) (orc := []) (st' := ⟨[(8, .d (.v (.int .i64 (IntKind.i64.wrap (((k0 : Nat) : Int) + 1))))), (3, .d (.v (.int .i64 2))), (7, .d (.v (.int .i64 ((l.length : Nat) : Int)))), (6, .d (slD intC l))], []⟩) (ob := .tt) (by kernel_rfl) trivial ?_
        exact G.le (LeS.of [] rfl rfl (by (repeat' with_reducible apply And.intro) <;> first | exact dle_wrap (by omega) (by omega) (by omega) | exact dle_int rfl | rfl | exact Nat.le_refl _ | trivial | omega | assumption | exact DLe.rfl' | (unfold maxLen; omega) | (intros; first | rfl | trivial | omega | (simp_all; done) | (simp_all; omega))) rfl (by (repeat' with_reducible apply And.intro) <;> first | rfl | exact Nat.le_refl _ | trivial | omega | assumption | exact DLe.rfl' | (unfold maxLen; omega) | (intros; first | rfl | trivial | omega | (simp_all; done) | (simp_all; omega)))) (ih0 ⟨(fv0, k0 + 1, 2), by first | (dsimp only; omega) | omega | (dsimp only; done), by first | (dsimp only; omega) | omega | (dsimp only; done), hF⟩ (Nat.lt_succ_self _))
      · rw [h3, cond_false] at hF
        try simp only [cond_or_false, cond_or_true, cond_and_true, cond_and_false, decide_eq_true_eq, decide_eq_false_iff_not, beq_iff_eq, bne_iff_ne, ne_eq, Bool.and_eq_true, Bool.or_eq_true, Bool.not_eq_true, Bool.not_eq_false, beq_eq_false_iff_ne] at h3
        refine G.skip ?_
        refine G.inBlock ?_
        refine G.inBlock ?_
        refine G.region tok mixed (keep := some [3, 6, 7, 8]) (orc := []) (st' := ⟨[(8, .d (.v (.int .i64 (IntKind.i64.wrap (((k0 : Nat) : Int) + 1))))), (7, .d (.v (.int .i64 ((l.length : Nat) : Int)))), (6, .d (slD intC l)), (3, .d (.v (.int .i64 out_3)))], []⟩) (ob := .tt) (by kernel_rfl) trivial ?_
        exact G.le (LeS.of [] rfl rfl (by (repeat' with_reducible apply And.intro) <;> first | exact dle_wrap (by omega) (by omega) (by omega) | exact dle_int rfl | rfl | exact Nat.le_refl _ | trivial | omega | assumption | exact DLe.rfl' | (unfold maxLen; omega) | (intros; first | rfl | trivial | omega | (simp_all; done) | (simp_all; omega))) rfl (by (repeat' with_reducible apply And.intro) <;> first | rfl | exact Nat.le_refl _ | trivial | omega | assumption | exact DLe.rfl' | (unfold maxLen; omega) | (intros; first | rfl | trivial | omega | (simp_all; done) | (simp_all; omega)))) (ih0 ⟨(fv0, k0 + 1, out_3), by first | (dsimp only; omega) | omega | (dsimp only; done), by first | (dsimp only; omega) | omega | (dsimp only; done), hF⟩ (Nat.lt_succ_self _))
  · rw [h1, cond_false] at hF
    try simp only [cond_or_false, cond_or_true, cond_and_true, cond_and_false, decide_eq_true_eq, decide_eq_false_iff_not, beq_iff_eq, bne_iff_ne, ne_eq, Bool.and_eq_true, Bool.or_eq_true, Bool.not_eq_true, Bool.not_eq_false, beq_eq_false_iff_ne] at h1
    refine G.exit rfl ?_
    refine G.seq ?_
    refine G.region tok mixed (keep := some [2]) (orc := []) (st' := ⟨[(2, .d (.v (.int .i64 out_3)))], []⟩) (ob := .tt) (by kernel_rfl) trivial ?_
    refine G.ret tok Try.func16 rfl rfl (by (repeat' apply And.intro) <;> first | exact Nat.le_refl _ | trivial | omega | rfl | assumption | exact DLe.rfl') rfl (by (repeat' apply And.intro) <;> first | exact Nat.le_refl _ | trivial | omega | rfl | assumption | exact DLe.rfl') ?_
    show AvLe _ (.d (.v (.int .i64 (bind_join l))))
    rw [← hF]
    first | exact AvLe.rfl' | exact AvLe.d (dle_nilsl _)

def bind_And (a : Int) (b : Int) : Int :=
  bind_join [a, b]

set_option maxRecDepth 100000 in
theorem bind_And_fn (a : Int) (b : Int) : FnA Try.prog 15 [.d (.v (.int .i64 a)), .d (.v (.int .i64 b))] [] (.d (.v (.int .i64 (bind_And a b)))) [] := by
  refine FnA.intro (T := TT) Try.func15 rfl (by kernel_rfl) (Nat.le_of_ble_eq_true rfl) ?_
  have hF := (bind_And.eq_1 a b).symm
  refine G.seq ?_
  refine G.region tok mixed (keep := some [0, 1]) (orc := []) (st' := ⟨[(0, .d (.v (.int .i64 a))), (1, .d (.v (.int .i64 b)))], []⟩) (ob := .tt) (by kernel_rfl) trivial ?_
  refine G.seq ?_
  refine G.region tok mixed (keep := some [4]) (orc := [.flat (.d (.v (.int .i64 (bind_join [a, b]))))]) (st' := ⟨[(4, .d (.v (.int .i64 (bind_join [a, b]))))], [(7, .row 3 1 2 (rowF 1 2 [.v (.int .i64 a), .v (.int .i64 b)]))]⟩) (ob := .pr ((2 ≤ 2) ∧ (FnA Try.prog 16 [.d (.sl 2 (rowF 1 2 [.v (.int .i64 a), .v (.int .i64 b)]))] [] (.d (.v (.int .i64 (bind_join [a, b])))) []))) (by kernel_rfl) (Ob.pr_den ⟨Nat.le_refl _, (FnA.ren (bind_join_fn [a, b]) [] [] rfl rfl ⟨DLe.sl rfl (fun i hi => by match i, hi with | 0, _ => rfl | 1, _ => rfl | q + 2, h => exact absurd h (by omega)), trivial⟩ rfl trivial rfl rfl DLe.rfl' rfl trivial)⟩) ?_
  refine G.ret tok Try.func15 rfl rfl (by (repeat' apply And.intro) <;> first | exact Nat.le_refl _ | trivial | omega | rfl | assumption | exact DLe.rfl') rfl (by (repeat' apply And.intro) <;> first | exact Nat.le_refl _ | trivial | omega | rfl | assumption | exact DLe.rfl') ?_
  show AvLe _ (.d (.v (.int .i64 (bind_And a b))))
  rw [← hF]
  first | exact AvLe.rfl' | exact AvLe.d (dle_nilsl _)

def allongelaw27_total_loop0 (l : List Claim) (c : Claim) : Nat → Nat → Int → Int
  | 0, _, _ => default
  | fv0 + 1, k0, out_5 => bif decide (((k0 : Nat) : Int) < ((l.length : Nat) : Int)) then (bif bif bif ((l.getD k0 default).debtor) == c.debtor then ((l.getD k0 default).part) == c.part else false then ((l.getD k0 default).sign) == c.sign else false then (allongelaw27_total_loop0 l c fv0 (k0 + 1) (IntKind.i64.wrap (out_5 + ((l.getD k0 default).sum)))) else (allongelaw27_total_loop0 l c fv0 (k0 + 1) out_5)) else out_5

def allongelaw27_total (l : List Claim) (c : Claim) : Int :=
  allongelaw27_total_loop0 l c (l.length + 1) 0 0

structure allongelaw27_total_inv0 (l : List Claim) (c : Claim) (fu0 : Nat) (k0 : Nat) (out_5 : Int) : Prop where
  hf : fu0 + k0 = l.length + 1
  hk : k0 ≤ l.length
  hF : allongelaw27_total_loop0 l c fu0 k0 out_5 = allongelaw27_total l c

set_option maxRecDepth 100000 in
theorem allongelaw27_total_fn (l : List Claim) (c : Claim) : FnA Try.prog 7 [.d (slD Claim.cells l), .d (.agg c.cells)] [] (.d (.v (.int .i64 (allongelaw27_total l c)))) [] := by
  refine FnA.intro (T := TT) Try.func7 rfl (by kernel_rfl) (Nat.le_of_ble_eq_true rfl) ?_
  have hF := (allongelaw27_total.eq_1 l c).symm
  refine G.seq ?_
  refine G.region tok mixed (keep := some [0, 3]) (orc := []) (st' := ⟨[(3, .ptr 3 0), (0, .d (slD Claim.cells l))], [(3, .box (c.cells.map .d))]⟩) (ob := .tt) (by kernel_rfl) trivial ?_
  refine G.seq ?_
  refine G.region tok mixed (keep := some [0, 3, 5]) (orc := []) (st' := ⟨[(5, .d (.v (.int .i64 0))), (3, .ptr 3 0), (0, .d (slD Claim.cells l))], [(3, .box (c.cells.map .d))]⟩) (ob := .tt) (by kernel_rfl) trivial ?_
  refine G.seq ?_
  refine G.seq ?_
  refine G.region tok mixed (keep := some [0, 3, 5, 6]) (orc := []) (st' := ⟨[(6, .d (.v (.int .i64 0))), (5, .d (.v (.int .i64 0))), (3, .ptr 3 0), (0, .d (slD Claim.cells l))], [(3, .box (c.cells.map .d))]⟩) (ob := .tt) (by kernel_rfl) trivial ?_
  refine G.block ?_
  refine G.loop (ι := {p : Nat × Nat × Int // allongelaw27_total_inv0 l c p.1 p.2.1 p.2.2}) (fun ⟨⟨fu0, k0, out_5⟩, hf0, hk0, hF⟩ => ⟨[(6, .d (.v (.int .i64 ((k0 : Nat) : Int)))), (5, .d (.v (.int .i64 out_5))), (3, .ptr 3 0), (0, .d (slD Claim.cells l))], [(3, .box (c.cells.map .d))]⟩) (fun ⟨⟨fu0, k0, out_5⟩, hf0, hk0, hF⟩ => fu0) ⟨(l.length + 1, 0, 0), by first | (dsimp only; omega) | omega | (dsimp only; done), by first | (dsimp only; omega) | omega | (dsimp only; done), hF⟩ (LeS.of [(3, some 3)] rfl rfl (by (repeat' with_reducible apply And.intro) <;> first | exact dle_int rfl | exact dle_nilsl _ | rfl | exact Nat.le_refl _ | trivial | omega | assumption | exact DLe.rfl' | (unfold maxLen; omega) | (intros; first | rfl | trivial | omega | (simp_all; done) | (simp_all; omega))) rfl (by (repeat' with_reducible apply And.intro) <;> first | rfl | exact Nat.le_refl _ | trivial | omega | assumption | exact DLe.rfl' | (unfold maxLen; omega) | (intros; first | rfl | trivial | omega | (simp_all; done) | (simp_all; omega)))) ?_
  rintro ⟨⟨fu0, k0, out_5⟩, hf0, hk0, hF⟩ ih0
  show G _ _ ⟨[(6, .d (.v (.int .i64 ((k0 : Nat) : Int)))), (5, .d (.v (.int .i64 out_5))), (3, .ptr 3 0), (0, .d (slD Claim.cells l))], [(3, .box (c.cells.map .d))]⟩
  dsimp only at hf0 hk0 hF
  obtain ⟨fv0, rfl⟩ : ∃ x, fu0 = x + 1 := ⟨fu0 - 1, by omega⟩
  rw [allongelaw27_total_loop0] at hF
  refine G.slBound 0 rfl ?_
  intro hb0
  unfold maxLen at hb0
  refine G.seq ?_
  refine G.seq ?_
  refine G.region tok mixed (keep := some [0, 3, 5, 6, 10]) (orc := []) (st' := ⟨[(10, .d (.v (.bool (decide (((k0 : Nat) : Int) < ((l.length : Nat) : Int)))))), (6, .d (.v (.int .i64 ((k0 : Nat) : Int)))), (5, .d (.v (.int .i64 out_5))), (3, .ptr 3 0), (0, .d (slD Claim.cells l))], [(3, .box (c.cells.map .d))]⟩) (ob := .tt) (by kernel_rfl) trivial ?_
  refine G.cond (e := decide (((k0 : Nat) : Int) < ((l.length : Nat) : Int))) rfl (fun h1 => ?_) (fun h1 => ?_)
  · rw [h1, cond_true] at hF
    try simp only [cond_or_false, cond_or_true, cond_and_true, cond_and_false, decide_eq_true_eq, decide_eq_false_iff_not, beq_iff_eq, bne_iff_ne, ne_eq, Bool.and_eq_true, Bool.or_eq_true, Bool.not_eq_true, Bool.not_eq_false, beq_eq_false_iff_ne] at h1
    refine G.skip ?_
    refine G.seq ?_
    refine G.block ?_
    refine G.seq ?_
    refine G.region tok mixed (keep := some [0, 3, 5, 6, 40]) (orc := []) (st' := ⟨[(40, .d (.v (.bool (bif bif ((l.getD k0 default).debtor) == c.debtor then ((l.getD k0 default).part) == c.part else false then ((l.getD k0 default).sign) == c.sign else false)))), (6, .d (.v (.int .i64 ((k0 : Nat) : Int)))), (5, .d (.v (.int .i64 out_5))), (3, .ptr 3 0), (0, .d (slD Claim.cells l))], [(3, .box (c.cells.map .d))]⟩) (ob := .pr ((0 ≤ ((k0 : Nat) : Int) ∧ ((k0 : Nat) : Int) < ((l.length : Nat) : Int)) ∧ (((((l.getD k0 default).debtor) == c.debtor) = (((l.getD k0 default).debtor) == c.debtor)) ∧ ((((((l.getD k0 default).debtor) == c.debtor) = (((l.getD k0 default).debtor) == c.debtor)) ∧ ((((l.getD k0 default).debtor) == c.debtor) = true → (0 ≤ ((k0 : Nat) : Int) ∧ ((k0 : Nat) : Int) < ((l.length : Nat) : Int)))) ∧ (((((l.getD k0 default).debtor) == c.debtor) = (((l.getD k0 default).debtor) == c.debtor)) ∧ (((((l.getD k0 default).debtor) == c.debtor) = (((l.getD k0 default).debtor) == c.debtor)) ∧ (((((l.getD k0 default).debtor) == c.debtor) = (((l.getD k0 default).debtor) == c.debtor)) ∧ (((((l.getD k0 default).debtor) == c.debtor) = (((l.getD k0 default).debtor) == c.debtor)) ∧ (((((l.getD k0 default).debtor) == c.debtor) = (((l.getD k0 default).debtor) == c.debtor)) ∧ (((((l.getD k0 default).debtor) == c.debtor) = (((l.getD k0 default).debtor) == c.debtor)) ∧ (((bif ((l.getD k0 default).debtor) == c.debtor then ((l.getD k0 default).part) == c.part else false) = (bif ((l.getD k0 default).debtor) == c.debtor then ((l.getD k0 default).part) == c.part else false)) ∧ ((((bif ((l.getD k0 default).debtor) == c.debtor then ((l.getD k0 default).part) == c.part else false) = (bif ((l.getD k0 default).debtor) == c.debtor then ((l.getD k0 default).part) == c.part else false)) ∧ ((bif ((l.getD k0 default).debtor) == c.debtor then ((l.getD k0 default).part) == c.part else false) = true → (0 ≤ ((k0 : Nat) : Int) ∧ ((k0 : Nat) : Int) < ((l.length : Nat) : Int)))) ∧ (((bif ((l.getD k0 default).debtor) == c.debtor then ((l.getD k0 default).part) == c.part else false) = (bif ((l.getD k0 default).debtor) == c.debtor then ((l.getD k0 default).part) == c.part else false)) ∧ (((bif ((l.getD k0 default).debtor) == c.debtor then ((l.getD k0 default).part) == c.part else false) = (bif ((l.getD k0 default).debtor) == c.debtor then ((l.getD k0 default).part) == c.part else false)) ∧ (((bif ((l.getD k0 default).debtor) == c.debtor then ((l.getD k0 default).part) == c.part else false) = (bif ((l.getD k0 default).debtor) == c.debtor then ((l.getD k0 default).part) == c.part else false)) ∧ (((bif ((l.getD k0 default).debtor) == c.debtor then ((l.getD k0 default).part) == c.part else false) = (bif ((l.getD k0 default).debtor) == c.debtor then ((l.getD k0 default).part) == c.part else false)) ∧ (((bif ((l.getD k0 default).debtor) == c.debtor then ((l.getD k0 default).part) == c.part else false) = (bif ((l.getD k0 default).debtor) == c.debtor then ((l.getD k0 default).part) == c.part else false)) ∧ ((bif ((l.getD k0 default).debtor) == c.debtor then ((l.getD k0 default).part) == c.part else false) = (bif ((l.getD k0 default).debtor) == c.debtor then ((l.getD k0 default).part) == c.part else false))))))))))))))))))) (by kernel_rfl) (Ob.pr_den ⟨(by first | omega | assumption | rfl | (intros; first | rfl | trivial | omega) | (unfold maxLen; omega) | (simp_all; done) | (simp_all; omega)), ⟨rfl, ⟨⟨rfl, (fun hp0 => (by first | omega | assumption | rfl | (simp only [cond_or_false, cond_or_true, cond_and_true, cond_and_false, decide_eq_true_eq, decide_eq_false_iff_not, beq_iff_eq, bne_iff_ne, ne_eq, Bool.and_eq_true, Bool.or_eq_true, Bool.not_eq_true, Bool.not_eq_false, beq_eq_false_iff_ne] at hp0; omega) | (intros; first | rfl | trivial | omega) | (unfold maxLen; omega) | (simp_all; done) | (simp_all; omega)))⟩, ⟨rfl, ⟨rfl, ⟨rfl, ⟨rfl, ⟨rfl, ⟨rfl, ⟨rfl, ⟨⟨rfl, (fun hp0 => (by first | omega | assumption | rfl | (simp only [cond_or_false, cond_or_true, cond_and_true, cond_and_false, decide_eq_true_eq, decide_eq_false_iff_not, beq_iff_eq, bne_iff_ne, ne_eq, Bool.and_eq_true, Bool.or_eq_true, Bool.not_eq_true, Bool.not_eq_false, beq_eq_false_iff_ne] at hp0; omega) | (intros; first | rfl | trivial | omega) | (unfold maxLen; omega) | (simp_all; done) | (simp_all; omega)))⟩, ⟨rfl, ⟨rfl, ⟨rfl, ⟨rfl, ⟨rfl, rfl⟩⟩⟩⟩⟩⟩⟩⟩⟩⟩⟩⟩⟩⟩⟩⟩) ?_
    refine G.cond (e := bif bif ((l.getD k0 default).debtor) == c.debtor then ((l.getD k0 default).part) == c.part else false then ((l.getD k0 default).sign) == c.sign else false) rfl (fun h2 => ?_) (fun h2 => ?_)
    · rw [h2, cond_true] at hF
      try simp only [cond_or_false, cond_or_true, cond_and_true, cond_and_false, decide_eq_true_eq, decide_eq_false_iff_not, beq_iff_eq, bne_iff_ne, ne_eq, Bool.and_eq_true, Bool.or_eq_true, Bool.not_eq_true, Bool.not_eq_false, beq_eq_false_iff_ne] at h2
      refine G.region tok mixed (keep := some [0, 3, 5, 6]) (orc := []) (st' := ⟨[(5, .d (.v (.int .i64 (IntKind.i64.wrap (out_5 + ((l.getD k0 default).sum)))))), (6, .d (.v (.int .i64 ((k0 : Nat) : Int)))), (3, .ptr 3 0), (0, .d (slD Claim.cells l))], [(3, .box (c.cells.map .d))]⟩) (ob := .pr (0 ≤ ((k0 : Nat) : Int) ∧ ((k0 : Nat) : Int) < ((l.length : Nat) : Int))) (by kernel_rfl) (Ob.pr_den (by first | omega | assumption | rfl | (intros; first | rfl | trivial | omega) | (unfold maxLen; omega) | (simp_all; done) | (simp_all; omega))) ?_
      refine G.inBlock ?_
      refine G.region tok mixed (keep := some [0, 3, 5, 6]) (orc := []) (st' := ⟨[(6, .d (.v (.int .i64 (IntKind.i64.wrap (((k0 : Nat) : Int) + 1))))), (5, .d (.v (.int .i64 (IntKind.i64.wrap (out_5 + ((l.getD k0 default).sum)))))), (3, .ptr 3 0), (0, .d (slD Claim.cells l))], [(3, .box (c.cells.map .d))]⟩) (ob := .tt) (by kernel_rfl) trivial ?_
      exact G.le (LeS.of [(3, some 3)] rfl rfl (by (repeat' with_reducible apply And.intro) <;> first | exact dle_wrap (by omega) (by omega) (by omega) | exact dle_int rfl | rfl | exact Nat.le_refl _ | trivial | omega | assumption | exact DLe.rfl' | (unfold maxLen; omega) | (intros; first | rfl | trivial | omega | (simp_all; done) | (simp_all; omega))) rfl (by (repeat' with_reducible apply And.intro) <;> first | rfl | exact Nat.le_refl _ | trivial | omega | assumption | exact DLe.rfl' | (unfold maxLen; omega) | (intros; first | rfl | trivial | omega | (simp_all; done) | (simp_all; omega)))) (ih0 ⟨(fv0, k0 + 1, IntKind.i64.wrap (out_5 + ((l.getD k0 default).sum))), by first | (dsimp only; omega) | omega | (dsimp only; done), by first | (dsimp only; omega) | omega | (dsimp only; done), hF⟩ (Nat.lt_succ_self _))
    · rw [h2, cond_false] at hF
      try simp only [cond_or_false, cond_or_true, cond_and_true, cond_and_false, decide_eq_true_eq, decide_eq_false_iff_not, beq_iff_eq, bne_iff_ne, ne_eq, Bool.and_eq_true, Bool.or_eq_true, Bool.not_eq_true, Bool.not_eq_false, beq_eq_false_iff_ne] at h2
      refine G.skip ?_
      refine G.inBlock ?_
      refine G.region tok mixed (keep := some [0, 3, 5, 6]) (orc := []) (st' := ⟨[(6, .d (.v (.int .i64 (IntKind.i64.wrap (((k0 : Nat) : Int) + 1))))), (5, .d (.v (.int .i64 out_5))), (3, .ptr 3 0), (0, .d (slD Claim.cells l))], [(3, .box (c.cells.map .d))]⟩) (ob := .tt) (by kernel_rfl) trivial ?_
      exact G.le (LeS.of [(3, some 3)] rfl rfl (by (repeat' with_reducible apply And.intro) <;> first | exact dle_wrap (by omega) (by omega) (by omega) | exact dle_int rfl | rfl | exact Nat.le_refl _ | trivial | omega | assumption | exact DLe.rfl' | (unfold maxLen; omega) | (intros; first | rfl | trivial | omega | (simp_all; done) | (simp_all; omega))) rfl (by (repeat' with_reducible apply And.intro) <;> first | rfl | exact Nat.le_refl _ | trivial | omega | assumption | exact DLe.rfl' | (unfold maxLen; omega) | (intros; first | rfl | trivial | omega | (simp_all; done) | (simp_all; omega)))) (ih0 ⟨(fv0, k0 + 1, out_5), by first | (dsimp only; omega) | omega | (dsimp only; done), by first | (dsimp only; omega) | omega | (dsimp only; done), hF⟩ (Nat.lt_succ_self _))
  · rw [h1, cond_false] at hF
    try simp only [cond_or_false, cond_or_true, cond_and_true, cond_and_false, decide_eq_true_eq, decide_eq_false_iff_not, beq_iff_eq, bne_iff_ne, ne_eq, Bool.and_eq_true, Bool.or_eq_true, Bool.not_eq_true, Bool.not_eq_false, beq_eq_false_iff_ne] at h1
    refine G.exit rfl ?_
    refine G.seq ?_
    refine G.region tok mixed (keep := some [4]) (orc := []) (st' := ⟨[(4, .d (.v (.int .i64 out_5)))], [(3, .box (c.cells.map .d))]⟩) (ob := .tt) (by kernel_rfl) trivial ?_
    refine G.ret tok Try.func7 rfl rfl (by (repeat' apply And.intro) <;> first | exact Nat.le_refl _ | trivial | omega | rfl | assumption | exact DLe.rfl') rfl (by (repeat' apply And.intro) <;> first | exact Nat.le_refl _ | trivial | omega | rfl | assumption | exact DLe.rfl') ?_
    show AvLe _ (.d (.v (.int .i64 (allongelaw27_total l c))))
    rw [← hF]
    first | exact AvLe.rfl' | exact AvLe.d (dle_nilsl _)

def allongelaw27_usual_loop0 (l : List Claim) : Nat → Nat → Bool
  | 0, _ => default
  | fv0 + 1, k0 => bif decide (((k0 : Nat) : Int) < ((l.length : Nat) : Int)) then (bif bif bif bif decide (((l.getD k0 default).sum) < (-1099511627776)) then true else decide (((l.getD k0 default).sum) > 1099511627776) then true else decide (((l.getD k0 default).state) < 0) then true else decide (((l.getD k0 default).state) ≥ 3) then false else (allongelaw27_usual_loop0 l fv0 (k0 + 1))) else true

def allongelaw27_usual (l : List Claim) : Bool :=
  allongelaw27_usual_loop0 l (l.length + 1) 0

structure allongelaw27_usual_inv0 (l : List Claim) (fu0 : Nat) (k0 : Nat) : Prop where
  hf : fu0 + k0 = l.length + 1
  hk : k0 ≤ l.length
  hF : allongelaw27_usual_loop0 l fu0 k0 = allongelaw27_usual l

set_option maxRecDepth 100000 in
theorem allongelaw27_usual_fn (l : List Claim) : FnA Try.prog 5 [.d (slD Claim.cells l)] [] (.d (.v (.bool (allongelaw27_usual l)))) [] := by
  refine FnA.intro (T := TT) Try.func5 rfl (by kernel_rfl) (Nat.le_of_ble_eq_true rfl) ?_
  have hF := (allongelaw27_usual.eq_1 l).symm
  refine G.seq ?_
  refine G.region tok mixed (keep := some [0]) (orc := []) (st' := ⟨[(0, .d (slD Claim.cells l))], []⟩) (ob := .tt) (by kernel_rfl) trivial ?_
  refine G.seq ?_
  refine G.seq ?_
  refine G.region tok mixed (keep := some [0, 3]) (orc := []) (st' := ⟨[(3, .d (.v (.int .i64 0))), (0, .d (slD Claim.cells l))], []⟩) (ob := .tt) (by kernel_rfl) trivial ?_
  refine G.block ?_
  refine G.loop (ι := {p : Nat × Nat // allongelaw27_usual_inv0 l p.1 p.2}) (fun ⟨⟨fu0, k0⟩, hf0, hk0, hF⟩ => ⟨[(3, .d (.v (.int .i64 ((k0 : Nat) : Int)))), (0, .d (slD Claim.cells l))], []⟩) (fun ⟨⟨fu0, k0⟩, hf0, hk0, hF⟩ => fu0) ⟨(l.length + 1, 0), by first | (dsimp only; omega) | omega | (dsimp only; done), by first | (dsimp only; omega) | omega | (dsimp only; done), hF⟩ (LeS.of [] rfl rfl (by (repeat' with_reducible apply And.intro) <;> first | exact dle_int rfl | exact dle_nilsl _ | rfl | exact Nat.le_refl _ | trivial | omega | assumption | exact DLe.rfl' | (unfold maxLen; omega) | (intros; first | rfl | trivial | omega | (simp_all; done) | (simp_all; omega))) rfl (by (repeat' with_reducible apply And.intro) <;> first | rfl | exact Nat.le_refl _ | trivial | omega | assumption | exact DLe.rfl' | (unfold maxLen; omega) | (intros; first | rfl | trivial | omega | (simp_all; done) | (simp_all; omega)))) ?_
  rintro ⟨⟨fu0, k0⟩, hf0, hk0, hF⟩ ih0
  show G _ _ ⟨[(3, .d (.v (.int .i64 ((k0 : Nat) : Int)))), (0, .d (slD Claim.cells l))], []⟩
  dsimp only at hf0 hk0 hF
  obtain ⟨fv0, rfl⟩ : ∃ x, fu0 = x + 1 := ⟨fu0 - 1, by omega⟩
  rw [allongelaw27_usual_loop0] at hF
  refine G.slBound 0 rfl ?_
  intro hb0
  unfold maxLen at hb0
  refine G.seq ?_
  refine G.seq ?_
  refine G.region tok mixed (keep := some [0, 3, 7]) (orc := []) (st' := ⟨[(7, .d (.v (.bool (decide (((k0 : Nat) : Int) < ((l.length : Nat) : Int)))))), (3, .d (.v (.int .i64 ((k0 : Nat) : Int)))), (0, .d (slD Claim.cells l))], []⟩) (ob := .tt) (by kernel_rfl) trivial ?_
  refine G.cond (e := decide (((k0 : Nat) : Int) < ((l.length : Nat) : Int))) rfl (fun h1 => ?_) (fun h1 => ?_)
  · rw [h1, cond_true] at hF
    try simp only [cond_or_false, cond_or_true, cond_and_true, cond_and_false, decide_eq_true_eq, decide_eq_false_iff_not, beq_iff_eq, bne_iff_ne, ne_eq, Bool.and_eq_true, Bool.or_eq_true, Bool.not_eq_true, Bool.not_eq_false, beq_eq_false_iff_ne] at h1
    refine G.skip ?_
    refine G.seq ?_
    refine G.block ?_
    refine G.seq ?_
    refine G.region tok mixed (keep := some [0, 3, 39]) (orc := []) (st' := ⟨[(39, .d (.v (.bool (bif bif bif decide (((l.getD k0 default).sum) < (-1099511627776)) then true else decide (((l.getD k0 default).sum) > 1099511627776) then true else decide (((l.getD k0 default).state) < 0) then true else decide (((l.getD k0 default).state) ≥ 3))))), (3, .d (.v (.int .i64 ((k0 : Nat) : Int)))), (0, .d (slD Claim.cells l))], []⟩) (ob := .pr ((0 ≤ ((k0 : Nat) : Int) ∧ ((k0 : Nat) : Int) < ((l.length : Nat) : Int)) ∧ (((decide (((l.getD k0 default).sum) < (-1099511627776))) = (decide (((l.getD k0 default).sum) < (-1099511627776)))) ∧ ((((decide (((l.getD k0 default).sum) < (-1099511627776))) = (decide (((l.getD k0 default).sum) < (-1099511627776)))) ∧ ((decide (((l.getD k0 default).sum) < (-1099511627776))) = false → (0 ≤ ((k0 : Nat) : Int) ∧ ((k0 : Nat) : Int) < ((l.length : Nat) : Int)))) ∧ (((decide (((l.getD k0 default).sum) < (-1099511627776))) = (decide (((l.getD k0 default).sum) < (-1099511627776)))) ∧ (((decide (((l.getD k0 default).sum) < (-1099511627776))) = (decide (((l.getD k0 default).sum) < (-1099511627776)))) ∧ (((decide (((l.getD k0 default).sum) < (-1099511627776))) = (decide (((l.getD k0 default).sum) < (-1099511627776)))) ∧ (((decide (((l.getD k0 default).sum) < (-1099511627776))) = (decide (((l.getD k0 default).sum) < (-1099511627776)))) ∧ (((bif decide (((l.getD k0 default).sum) < (-1099511627776)) then true else decide (((l.getD k0 default).sum) > 1099511627776)) = (bif decide (((l.getD k0 default).sum) < (-1099511627776)) then true else decide (((l.getD k0 default).sum) > 1099511627776))) ∧ ((((bif decide (((l.getD k0 default).sum) < (-1099511627776)) then true else decide (((l.getD k0 default).sum) > 1099511627776)) = (bif decide (((l.getD k0 default).sum) < (-1099511627776)) then true else decide (((l.getD k0 default).sum) > 1099511627776))) ∧ ((bif decide (((l.getD k0 default).sum) < (-1099511627776)) then true else decide (((l.getD k0 default).sum) > 1099511627776)) = false → (0 ≤ ((k0 : Nat) : Int) ∧ ((k0 : Nat) : Int) < ((l.length : Nat) : Int)))) ∧ (((bif decide (((l.getD k0 default).sum) < (-1099511627776)) then true else decide (((l.getD k0 default).sum) > 1099511627776)) = (bif decide (((l.getD k0 default).sum) < (-1099511627776)) then true else decide (((l.getD k0 default).sum) > 1099511627776))) ∧ (((bif decide (((l.getD k0 default).sum) < (-1099511627776)) then true else decide (((l.getD k0 default).sum) > 1099511627776)) = (bif decide (((l.getD k0 default).sum) < (-1099511627776)) then true else decide (((l.getD k0 default).sum) > 1099511627776))) ∧ (((bif decide (((l.getD k0 default).sum) < (-1099511627776)) then true else decide (((l.getD k0 default).sum) > 1099511627776)) = (bif decide (((l.getD k0 default).sum) < (-1099511627776)) then true else decide (((l.getD k0 default).sum) > 1099511627776))) ∧ (((bif decide (((l.getD k0 default).sum) < (-1099511627776)) then true else decide (((l.getD k0 default).sum) > 1099511627776)) = (bif decide (((l.getD k0 default).sum) < (-1099511627776)) then true else decide (((l.getD k0 default).sum) > 1099511627776))) ∧ (((bif bif decide (((l.getD k0 default).sum) < (-1099511627776)) then true else decide (((l.getD k0 default).sum) > 1099511627776) then true else decide (((l.getD k0 default).state) < 0)) = (bif bif decide (((l.getD k0 default).sum) < (-1099511627776)) then true else decide (((l.getD k0 default).sum) > 1099511627776) then true else decide (((l.getD k0 default).state) < 0))) ∧ ((((bif bif decide (((l.getD k0 default).sum) < (-1099511627776)) then true else decide (((l.getD k0 default).sum) > 1099511627776) then true else decide (((l.getD k0 default).state) < 0)) = (bif bif decide (((l.getD k0 default).sum) < (-1099511627776)) then true else decide (((l.getD k0 default).sum) > 1099511627776) then true else decide (((l.getD k0 default).state) < 0))) ∧ ((bif bif decide (((l.getD k0 default).sum) < (-1099511627776)) then true else decide (((l.getD k0 default).sum) > 1099511627776) then true else decide (((l.getD k0 default).state) < 0)) = false → (0 ≤ ((k0 : Nat) : Int) ∧ ((k0 : Nat) : Int) < ((l.length : Nat) : Int)))) ∧ (((bif bif decide (((l.getD k0 default).sum) < (-1099511627776)) then true else decide (((l.getD k0 default).sum) > 1099511627776) then true else decide (((l.getD k0 default).state) < 0)) = (bif bif decide (((l.getD k0 default).sum) < (-1099511627776)) then true else decide (((l.getD k0 default).sum) > 1099511627776) then true else decide (((l.getD k0 default).state) < 0))) ∧ (((bif bif decide (((l.getD k0 default).sum) < (-1099511627776)) then true else decide (((l.getD k0 default).sum) > 1099511627776) then true else decide (((l.getD k0 default).state) < 0)) = (bif bif decide (((l.getD k0 default).sum) < (-1099511627776)) then true else decide (((l.getD k0 default).sum) > 1099511627776) then true else decide (((l.getD k0 default).state) < 0))) ∧ (((bif bif decide (((l.getD k0 default).sum) < (-1099511627776)) then true else decide (((l.getD k0 default).sum) > 1099511627776) then true else decide (((l.getD k0 default).state) < 0)) = (bif bif decide (((l.getD k0 default).sum) < (-1099511627776)) then true else decide (((l.getD k0 default).sum) > 1099511627776) then true else decide (((l.getD k0 default).state) < 0))) ∧ ((bif bif decide (((l.getD k0 default).sum) < (-1099511627776)) then true else decide (((l.getD k0 default).sum) > 1099511627776) then true else decide (((l.getD k0 default).state) < 0)) = (bif bif decide (((l.getD k0 default).sum) < (-1099511627776)) then true else decide (((l.getD k0 default).sum) > 1099511627776) then true else decide (((l.getD k0 default).state) < 0)))))))))))))))))))))) (by kernel_rfl) (Ob.pr_den ⟨(by first | omega | assumption | rfl | (intros; first | rfl | trivial | omega) | (unfold maxLen; omega) | (simp_all; done) | (simp_all; omega)), ⟨rfl, ⟨⟨rfl, (fun hp0 => (by first | omega | assumption | rfl | (simp only [cond_or_false, cond_or_true, cond_and_true, cond_and_false, decide_eq_true_eq, decide_eq_false_iff_not, beq_iff_eq, bne_iff_ne, ne_eq, Bool.and_eq_true, Bool.or_eq_true, Bool.not_eq_true, Bool.not_eq_false, beq_eq_false_iff_ne] at hp0; omega) | (intros; first | rfl | trivial | omega) | (unfold maxLen; omega) | (simp_all; done) | (simp_all; omega)))⟩, ⟨rfl, ⟨rfl, ⟨rfl, ⟨rfl, ⟨rfl, ⟨⟨rfl, (fun hp0 => (by first | omega | assumption | rfl | (simp only [cond_or_false, cond_or_true, cond_and_true, cond_and_false, decide_eq_true_eq, decide_eq_false_iff_not, beq_iff_eq, bne_iff_ne, ne_eq, Bool.and_eq_true, Bool.or_eq_true, Bool.not_eq_true, Bool.not_eq_false, beq_eq_false_iff_ne] at hp0; omega) | (intros; first | rfl | trivial | omega) | (unfold maxLen; omega) | (simp_all; done) | (simp_all; omega)))⟩, ⟨rfl, ⟨rfl, ⟨rfl, ⟨rfl, ⟨rfl, ⟨⟨rfl, (fun hp0 => (by first | omega | assumption | rfl | (simp only [cond_or_false, cond_or_true, cond_and_true, cond_and_false, decide_eq_true_eq, decide_eq_false_iff_not, beq_iff_eq, bne_iff_ne, ne_eq, Bool.and_eq_true, Bool.or_eq_true, Bool.not_eq_true, Bool.not_eq_false, beq_eq_false_iff_ne] at hp0; omega) | (intros; first | rfl | trivial | omega) | (unfold maxLen; omega) | (simp_all; done) | (simp_all; omega)))⟩, ⟨rfl, ⟨rfl, ⟨rfl, rfl⟩⟩⟩⟩⟩⟩⟩⟩⟩⟩⟩⟩⟩⟩⟩⟩⟩⟩) ?_
    refine G.cond (e := bif bif bif decide (((l.getD k0 default).sum) < (-1099511627776)) then true else decide (((l.getD k0 default).sum) > 1099511627776) then true else decide (((l.getD k0 default).state) < 0) then true else decide (((l.getD k0 default).state) ≥ 3)) rfl (fun h2 => ?_) (fun h2 => ?_)
    · rw [h2, cond_true] at hF
      try simp only [cond_or_false, cond_or_true, cond_and_true, cond_and_false, decide_eq_true_eq, decide_eq_false_iff_not, beq_iff_eq, bne_iff_ne, ne_eq, Bool.and_eq_true, Bool.or_eq_true, Bool.not_eq_true, Bool.not_eq_false, beq_eq_false_iff_ne] at h2
      refine G.seq ?_
      refine G.region tok mixed (keep := some [2]) (orc := []) (st' := ⟨[(2, .d (.v (.bool false)))], []⟩) (ob := .tt) (by kernel_rfl) trivial ?_
      refine G.ret tok Try.func5 rfl rfl (by (repeat' apply And.intro) <;> first | exact Nat.le_refl _ | trivial | omega | rfl | assumption | exact DLe.rfl') rfl (by (repeat' apply And.intro) <;> first | exact Nat.le_refl _ | trivial | omega | rfl | assumption | exact DLe.rfl') ?_
      show AvLe _ (.d (.v (.bool (allongelaw27_usual l))))
      rw [← hF]
      first | exact AvLe.rfl' | exact AvLe.d (dle_nilsl _)
    · rw [h2, cond_false] at hF
      try simp only [cond_or_false, cond_or_true, cond_and_true, cond_and_false, decide_eq_true_eq, decide_eq_false_iff_not, beq_iff_eq, bne_iff_ne, ne_eq, Bool.and_eq_true, Bool.or_eq_true, Bool.not_eq_true, Bool.not_eq_false, beq_eq_false_iff_ne] at h2
      refine G.skip ?_
      refine G.inBlock ?_
      refine G.region tok mixed (keep := some [0, 3]) (orc := []) (st' := ⟨[(3, .d (.v (.int .i64 (IntKind.i64.wrap (((k0 : Nat) : Int) + 1))))), (0, .d (slD Claim.cells l))], []⟩) (ob := .tt) (by kernel_rfl) trivial ?_
      exact G.le (LeS.of [] rfl rfl (by (repeat' with_reducible apply And.intro) <;> first | exact dle_wrap (by omega) (by omega) (by omega) | exact dle_int rfl | rfl | exact Nat.le_refl _ | trivial | omega | assumption | exact DLe.rfl' | (unfold maxLen; omega) | (intros; first | rfl | trivial | omega | (simp_all; done) | (simp_all; omega))) rfl (by (repeat' with_reducible apply And.intro) <;> first | rfl | exact Nat.le_refl _ | trivial | omega | assumption | exact DLe.rfl' | (unfold maxLen; omega) | (intros; first | rfl | trivial | omega | (simp_all; done) | (simp_all; omega)))) (ih0 ⟨(fv0, k0 + 1), by first | (dsimp only; omega) | omega | (dsimp only; done), by first | (dsimp only; omega) | omega | (dsimp only; done), hF⟩ (Nat.lt_succ_self _))
  · rw [h1, cond_false] at hF
    try simp only [cond_or_false, cond_or_true, cond_and_true, cond_and_false, decide_eq_true_eq, decide_eq_false_iff_not, beq_iff_eq, bne_iff_ne, ne_eq, Bool.and_eq_true, Bool.or_eq_true, Bool.not_eq_true, Bool.not_eq_false, beq_eq_false_iff_ne] at h1
    refine G.exit rfl ?_
    refine G.seq ?_
    refine G.region tok mixed (keep := some [2]) (orc := []) (st' := ⟨[(2, .d (.v (.bool true)))], []⟩) (ob := .tt) (by kernel_rfl) trivial ?_
    refine G.ret tok Try.func5 rfl rfl (by (repeat' apply And.intro) <;> first | exact Nat.le_refl _ | trivial | omega | rfl | assumption | exact DLe.rfl') rfl (by (repeat' apply And.intro) <;> first | exact Nat.le_refl _ | trivial | omega | rfl | assumption | exact DLe.rfl') ?_
    show AvLe _ (.d (.v (.bool (allongelaw27_usual l))))
    rw [← hF]
    first | exact AvLe.rfl' | exact AvLe.d (dle_nilsl _)

def allongelaw27_sums_loop0 (l : List Claim) (want : List Int) : Nat → Nat → Bool
  | 0, _ => default
  | fv0 + 1, k0 => bif decide (((k0 : Nat) : Int) < ((l.length : Nat) : Int)) then (bif ((l.getD k0 default).sum) != (want.getD k0 default) then false else (allongelaw27_sums_loop0 l want fv0 (k0 + 1))) else true

def allongelaw27_sums (l : List Claim) (want : List Int) : Bool :=
  bif ((l.length : Nat) : Int) != ((want.length : Nat) : Int) then false else (allongelaw27_sums_loop0 l want (l.length + 1) 0)

structure allongelaw27_sums_inv0 (l : List Claim) (want : List Int) (fu0 : Nat) (k0 : Nat) : Prop where
  hf : fu0 + k0 = l.length + 1
  hk : k0 ≤ l.length
  hF : allongelaw27_sums_loop0 l want fu0 k0 = allongelaw27_sums l want

set_option maxRecDepth 100000 in
theorem allongelaw27_sums_fn (l : List Claim) (want : List Int) : FnA Try.prog 9 [.d (slD Claim.cells l), .d (slD intC want)] [] (.d (.v (.bool (allongelaw27_sums l want)))) [] := by
  refine FnA.intro (T := TT) Try.func9 rfl (by kernel_rfl) (Nat.le_of_ble_eq_true rfl) ?_
  have hF := (allongelaw27_sums.eq_1 l want).symm
  refine G.seq ?_
  refine G.region tok mixed (keep := some [0, 1]) (orc := []) (st' := ⟨[(0, .d (slD Claim.cells l)), (1, .d (slD intC want))], []⟩) (ob := .tt) (by kernel_rfl) trivial ?_
  refine G.seq ?_
  refine G.seq ?_
  refine G.region tok mixed (keep := some [0, 1, 10]) (orc := []) (st' := ⟨[(10, .d (.v (.bool (((l.length : Nat) : Int) != ((want.length : Nat) : Int))))), (0, .d (slD Claim.cells l)), (1, .d (slD intC want))], []⟩) (ob := .tt) (by kernel_rfl) trivial ?_
  refine G.cond (e := ((l.length : Nat) : Int) != ((want.length : Nat) : Int)) rfl (fun h1 => ?_) (fun h1 => ?_)
  · rw [h1, cond_true] at hF
    try simp only [cond_or_false, cond_or_true, cond_and_true, cond_and_false, decide_eq_true_eq, decide_eq_false_iff_not, beq_iff_eq, bne_iff_ne, ne_eq, Bool.and_eq_true, Bool.or_eq_true, Bool.not_eq_true, Bool.not_eq_false, beq_eq_false_iff_ne] at h1
    refine G.seq ?_
    refine G.region tok mixed (keep := some [4]) (orc := []) (st' := ⟨[(4, .d (.v (.bool false)))], []⟩) (ob := .tt) (by kernel_rfl) trivial ?_
    refine G.ret tok Try.func9 rfl rfl (by (repeat' apply And.intro) <;> first | exact Nat.le_refl _ | trivial | omega | rfl | assumption | exact DLe.rfl') rfl (by (repeat' apply And.intro) <;> first | exact Nat.le_refl _ | trivial | omega | rfl | assumption | exact DLe.rfl') ?_
    show AvLe _ (.d (.v (.bool (allongelaw27_sums l want))))
    rw [← hF]
    first | exact AvLe.rfl' | exact AvLe.d (dle_nilsl _)
  · rw [h1, cond_false] at hF
    try simp only [cond_or_false, cond_or_true, cond_and_true, cond_and_false, decide_eq_true_eq, decide_eq_false_iff_not, beq_iff_eq, bne_iff_ne, ne_eq, Bool.and_eq_true, Bool.or_eq_true, Bool.not_eq_true, Bool.not_eq_false, beq_eq_false_iff_ne] at h1
    refine G.skip ?_
    refine G.seq ?_
    refine G.seq ?_
    refine G.region tok mixed (keep := some [0, 1, 5]) (orc := []) (st' := ⟨[(5, .d (.v (.int .i64 0))), (0, .d (slD Claim.cells l)), (1, .d (slD intC want))], []⟩) (ob := .tt) (by kernel_rfl) trivial ?_
    refine G.block ?_
    refine G.loop (ι := {p : Nat × Nat // allongelaw27_sums_inv0 l want p.1 p.2}) (fun ⟨⟨fu0, k0⟩, hf0, hk0, hF⟩ => ⟨[(5, .d (.v (.int .i64 ((k0 : Nat) : Int)))), (0, .d (slD Claim.cells l)), (1, .d (slD intC want))], []⟩) (fun ⟨⟨fu0, k0⟩, hf0, hk0, hF⟩ => fu0) ⟨(l.length + 1, 0), by first | (dsimp only; omega) | omega | (dsimp only; done), by first | (dsimp only; omega) | omega | (dsimp only; done), hF⟩ (LeS.of [] rfl rfl (by (repeat' with_reducible apply And.intro) <;> first | exact dle_int rfl | exact dle_nilsl _ | rfl | exact Nat.le_refl _ | trivial | omega | assumption | exact DLe.rfl' | (unfold maxLen; omega) | (intros; first | rfl | trivial | omega | (simp_all; done) | (simp_all; omega))) rfl (by (repeat' with_reducible apply And.intro) <;> first | rfl | exact Nat.le_refl _ | trivial | omega | assumption | exact DLe.rfl' | (unfold maxLen; omega) | (intros; first | rfl | trivial | omega | (simp_all; done) | (simp_all; omega)))) ?_
    rintro ⟨⟨fu0, k0⟩, hf0, hk0, hF⟩ ih0
    show G _ _ ⟨[(5, .d (.v (.int .i64 ((k0 : Nat) : Int)))), (0, .d (slD Claim.cells l)), (1, .d (slD intC want))], []⟩
    dsimp only at hf0 hk0 hF
    obtain ⟨fv0, rfl⟩ : ∃ x, fu0 = x + 1 := ⟨fu0 - 1, by omega⟩
    rw [allongelaw27_sums_loop0] at hF
    refine G.slBound 0 rfl ?_
    intro hb0
    unfold maxLen at hb0
    refine G.seq ?_
    refine G.seq ?_
    refine G.region tok mixed (keep := some [0, 1, 5, 14]) (orc := []) (st' := ⟨[(14, .d (.v (.bool (decide (((k0 : Nat) : Int) < ((l.length : Nat) : Int)))))), (5, .d (.v (.int .i64 ((k0 : Nat) : Int)))), (0, .d (slD Claim.cells l)), (1, .d (slD intC want))], []⟩) (ob := .tt) (by kernel_rfl) trivial ?_
    refine G.cond (e := decide (((k0 : Nat) : Int) < ((l.length : Nat) : Int))) rfl (fun h2 => ?_) (fun h2 => ?_)
    · rw [h2, cond_true] at hF
      try simp only [cond_or_false, cond_or_true, cond_and_true, cond_and_false, decide_eq_true_eq, decide_eq_false_iff_not, beq_iff_eq, bne_iff_ne, ne_eq, Bool.and_eq_true, Bool.or_eq_true, Bool.not_eq_true, Bool.not_eq_false, beq_eq_false_iff_ne] at h2
      refine G.skip ?_
      refine G.seq ?_
      refine G.block ?_
      refine G.seq ?_
      refine G.region tok mixed (keep := some [0, 1, 5, 26]) (orc := []) (st' := ⟨[(26, .d (.v (.bool (((l.getD k0 default).sum) != (want.getD k0 default))))), (5, .d (.v (.int .i64 ((k0 : Nat) : Int)))), (0, .d (slD Claim.cells l)), (1, .d (slD intC want))], []⟩) (ob := .pr ((0 ≤ ((k0 : Nat) : Int) ∧ ((k0 : Nat) : Int) < ((l.length : Nat) : Int)) ∧ (0 ≤ ((k0 : Nat) : Int) ∧ ((k0 : Nat) : Int) < ((want.length : Nat) : Int)))) (by kernel_rfl) (Ob.pr_den ⟨(by first | omega | assumption | rfl | (intros; first | rfl | trivial | omega) | (unfold maxLen; omega) | (simp_all; done) | (simp_all; omega)), (by first | omega | assumption | rfl | (intros; first | rfl | trivial | omega) | (unfold maxLen; omega) | (simp_all; done) | (simp_all; omega))⟩) ?_
      refine G.cond (e := ((l.getD k0 default).sum) != (want.getD k0 default)) rfl (fun h3 => ?_) (fun h3 => ?_)
      · rw [h3, cond_true] at hF
        try simp only [cond_or_false, cond_or_true, cond_and_true, cond_and_false, decide_eq_true_eq, decide_eq_false_iff_not, beq_iff_eq, bne_iff_ne, ne_eq, Bool.and_eq_true, Bool.or_eq_true, Bool.not_eq_true, Bool.not_eq_false, beq_eq_false_iff_ne] at h3
        refine G.seq ?_
        refine G.region tok mixed (keep := some [4]) (orc := []) (st' := ⟨[(4, .d (.v (.bool false)))], []⟩) (ob := .tt) (by kernel_rfl) trivial ?_
        refine G.ret tok Try.func9 rfl rfl (by (repeat' apply And.intro) <;> first | exact Nat.le_refl _ | trivial | omega | rfl | assumption | exact DLe.rfl') rfl (by (repeat' apply And.intro) <;> first | exact Nat.le_refl _ | trivial | omega | rfl | assumption | exact DLe.rfl') ?_
        show AvLe _ (.d (.v (.bool (allongelaw27_sums l want))))
        rw [← hF]
        first | exact AvLe.rfl' | exact AvLe.d (dle_nilsl _)
      · rw [h3, cond_false] at hF
        try simp only [cond_or_false, cond_or_true, cond_and_true, cond_and_false, decide_eq_true_eq, decide_eq_false_iff_not, beq_iff_eq, bne_iff_ne, ne_eq, Bool.and_eq_true, Bool.or_eq_true, Bool.not_eq_true, Bool.not_eq_false, beq_eq_false_iff_ne] at h3
        refine G.skip ?_
        refine G.inBlock ?_
        refine G.region tok mixed (keep := some [0, 1, 5]) (orc := []) (st' := ⟨[(5, .d (.v (.int .i64 (IntKind.i64.wrap (((k0 : Nat) : Int) + 1))))), (0, .d (slD Claim.cells l)), (1, .d (slD intC want))], []⟩) (ob := .tt) (by kernel_rfl) trivial ?_
        exact G.le (LeS.of [] rfl rfl (by (repeat' with_reducible apply And.intro) <;> first | exact dle_wrap (by omega) (by omega) (by omega) | exact dle_int rfl | rfl | exact Nat.le_refl _ | trivial | omega | assumption | exact DLe.rfl' | (unfold maxLen; omega) | (intros; first | rfl | trivial | omega | (simp_all; done) | (simp_all; omega))) rfl (by (repeat' with_reducible apply And.intro) <;> first | rfl | exact Nat.le_refl _ | trivial | omega | assumption | exact DLe.rfl' | (unfold maxLen; omega) | (intros; first | rfl | trivial | omega | (simp_all; done) | (simp_all; omega)))) (ih0 ⟨(fv0, k0 + 1), by first | (dsimp only; omega) | omega | (dsimp only; done), by first | (dsimp only; omega) | omega | (dsimp only; done), hF⟩ (Nat.lt_succ_self _))
    · rw [h2, cond_false] at hF
      try simp only [cond_or_false, cond_or_true, cond_and_true, cond_and_false, decide_eq_true_eq, decide_eq_false_iff_not, beq_iff_eq, bne_iff_ne, ne_eq, Bool.and_eq_true, Bool.or_eq_true, Bool.not_eq_true, Bool.not_eq_false, beq_eq_false_iff_ne] at h2
      refine G.exit rfl ?_
      refine G.seq ?_
      refine G.region tok mixed (keep := some [4]) (orc := []) (st' := ⟨[(4, .d (.v (.bool true)))], []⟩) (ob := .tt) (by kernel_rfl) trivial ?_
      refine G.ret tok Try.func9 rfl rfl (by (repeat' apply And.intro) <;> first | exact Nat.le_refl _ | trivial | omega | rfl | assumption | exact DLe.rfl') rfl (by (repeat' apply And.intro) <;> first | exact Nat.le_refl _ | trivial | omega | rfl | assumption | exact DLe.rfl') ?_
      show AvLe _ (.d (.v (.bool (allongelaw27_sums l want))))
      rw [← hF]
      first | exact AvLe.rfl' | exact AvLe.d (dle_nilsl _)

def allongelaw27_example  : (List Claim) :=
  [({ debtor := 1, creditor := 3, part := 0, sign := 1, by_ := 2, turn := 0, sum := 100, currency := 0, state := 1 } : Claim), ({ debtor := 2, creditor := 3, part := 0, sign := 2, by_ := 2, turn := 1, sum := 100, currency := 0, state := 1 } : Claim), ({ debtor := 0, creditor := 3, part := 0, sign := 0, by_ := 2, turn := 2, sum := 100, currency := 0, state := 1 } : Claim)]

set_option maxRecDepth 100000 in
theorem allongelaw27_example_fn  : FnA Try.prog 8 [] [] (.d (slD Claim.cells allongelaw27_example)) [] := by
  refine FnA.intro (T := TT) Try.func8 rfl (by kernel_rfl) (Nat.le_of_ble_eq_true rfl) ?_
  have hF := (allongelaw27_example.eq_1).symm
  refine G.seq ?_
  refine G.region tok mixed (keep := some []) (orc := []) (st' := ⟨[], []⟩) (ob := .tt) (by kernel_rfl) trivial ?_
  refine G.seq ?_
  refine G.region tok mixed (keep := some [0]) (orc := []) (st' := ⟨[(0, .own 4 3)], [(4, .row 28 9 3 (rowF 9 3 [.v (.int .i64 1), .v (.int .i64 3), .v (.int .i64 0), .v (.int .i64 1), .v (.int .i64 2), .v (.int .i64 0), .v (.int .i64 100), .v (.int .i64 0), .v (.int .i64 1), .v (.int .i64 2), .v (.int .i64 3), .v (.int .i64 0), .v (.int .i64 2), .v (.int .i64 2), .v (.int .i64 1), .v (.int .i64 100), .v (.int .i64 0), .v (.int .i64 1), .v (.int .i64 0), .v (.int .i64 3), .v (.int .i64 0), .v (.int .i64 0), .v (.int .i64 2), .v (.int .i64 2), .v (.int .i64 100), .v (.int .i64 0), .v (.int .i64 1)]))]⟩) (ob := .tt) (by kernel_rfl) trivial ?_
  refine G.ret tok Try.func8 rfl rfl (by (repeat' apply And.intro) <;> first | exact Nat.le_refl _ | trivial | omega | rfl | assumption | exact DLe.rfl') rfl (by (repeat' apply And.intro) <;> first | exact Nat.le_refl _ | trivial | omega | rfl | assumption | exact DLe.rfl') ?_
  show AvLe _ (.d (slD Claim.cells allongelaw27_example))
  rw [← hF]
  first | exact AvLe.rfl' | exact AvLe.d (dle_nilsl _) | exact AvLe.d (DLe.sl rfl (fun i hi => by match i, hi with | 0, _ => rfl | 1, _ => rfl | 2, _ => rfl | q + 3, h => exact absurd h (by omega)))

end Go.Proofs.Ytkdlhmnololndaa
