/- The plain law of PayOnce: lists and numbers, no program. -/
import Derived.Test.YtkdlhmnololndaaPoO
namespace Go.Proofs.Ytkdlhmnololndaa
open Go Go.Av
set_option linter.unusedSimpArgs false
set_option linter.unusedVariables false

theorem small_true : allongelaw27_small = true := by kernel_rfl

/-- of one debtor, part and signature -/
def inC (d p s : Int) (x : Claim) : Prop := x.debtor = d ∧ x.part = p ∧ x.sign = s
instance (d p s : Int) (x : Claim) : Decidable (inC d p s x) := by unfold inC; infer_instance

def tot (d p s : Int) : List Claim → Int
  | [] => 0
  | x :: r => (if inC d p s x then x.sum else 0) + tot d p s r

theorem tot_append (d p s : Int) (l m : List Claim) : tot d p s (l ++ m) = tot d p s l + tot d p s m := by
  induction l with
  | nil => simp [tot]
  | cons x r ih => simp [tot, ih]; omega

theorem tot_set (d p s : Int) (y : Claim) : ∀ (l : List Claim) (j : Nat), j < l.length → tot d p s (l.set j y) = tot d p s l - (if inC d p s (l.getD j default) then (l.getD j default).sum else 0) + (if inC d p s y then y.sum else 0)
  | [], j, h => absurd h (by simp)
  | x :: r, 0, _ => by simp [tot]; omega
  | x :: r, j + 1, h => by
    have := tot_set d p s y r j (by simpa using h)
    simp only [List.set_cons_succ, tot, List.getD_cons_succ] at this ⊢
    omega

/-- sums that are none too great -/
def sane (l : List Claim) : Prop := ∀ x, x ∈ l → 0 ≤ x.sum ∧ x.sum ≤ 1099511627776

theorem sane_get {l : List Claim} (h : sane l) {j : Nat} (hj : j < l.length) : 0 ≤ (l.getD j default).sum ∧ (l.getD j default).sum ≤ 1099511627776 := by
  have : l.getD j default ∈ l := by simp [List.getD, hj]
  exact h _ this

theorem tot_bound (d p s : Int) : ∀ (l : List Claim), sane l → 0 ≤ tot d p s l ∧ tot d p s l ≤ 1099511627776 * (l.length : Int)
  | [], _ => by simp [tot]
  | x :: r, h => by
    have ih := tot_bound d p s r (fun y hy => h y (List.mem_cons_of_mem _ hy))
    have hx := h x List.mem_cons_self
    simp only [tot, List.length_cons]
    split <;> omega

theorem drop_eq {l : List Claim} {k : Nat} (h : k < l.length) : l.drop k = l.getD k default :: l.drop (k + 1) := by
  rw [List.drop_eq_getElem_cons h]
  simp [List.getD, h]

theorem total_loop (l : List Claim) (c : Claim) (hs : sane l) (hn : l.length ≤ 1000) : ∀ fu k acc, fu + k = l.length + 1 → k ≤ l.length → 0 ≤ acc → acc ≤ 1099511627776 * (k : Int) →
    allongelaw27_total_loop0 l c fu k acc = acc + tot c.debtor c.part c.sign (l.drop k)
  | 0, k, acc, h, hk, _, _ => absurd h (by omega)
  | fu + 1, k, acc, h, hk, h0, h1 => by
    rw [allongelaw27_total_loop0]
    by_cases hlt : k < l.length
    · have hd : decide (((k : Nat) : Int) < ((l.length : Nat) : Int)) = true := decide_eq_true (by omega)
      rw [hd, cond_true, drop_eq hlt]
      have hx := sane_get hs hlt
      simp only [tot]
      by_cases hc : inC c.debtor c.part c.sign (l.getD k default)
      · rw [if_pos hc]
        obtain ⟨c1, c2, c3⟩ := hc
        simp only [c1, c2, c3, beq_self_eq_true, cond_true]
        rw [wrap64_id (by omega) (by omega), total_loop l c hs hn fu (k + 1) _ (by omega) (by omega) (by omega) (by omega)]
        omega
      · rw [if_neg hc]
        have hb : (bif bif (l.getD k default).debtor == c.debtor then (l.getD k default).part == c.part else false then (l.getD k default).sign == c.sign else false) = false := by
          rw [Bool.eq_false_iff]
          intro hh
          simp only [cond_and_true, beq_iff_eq] at hh
          exact hc ⟨hh.1.1, hh.1.2, hh.2⟩
        rw [hb, cond_false, total_loop l c hs hn fu (k + 1) acc (by omega) (by omega) h0 (by omega)]
        omega
    · have hd : decide (((k : Nat) : Int) < ((l.length : Nat) : Int)) = false := decide_eq_false (by omega)
      rw [hd, cond_false, List.drop_of_length_le (by omega)]
      simp [tot]

theorem total_eq (l : List Claim) (c : Claim) (hs : sane l) (hn : l.length ≤ 1000) : allongelaw27_total l c = tot c.debtor c.part c.sign l := by
  rw [allongelaw27_total, total_loop l c hs hn _ 0 0 (by omega) (by omega) (by omega) (by omega)]
  simp

/-- the same key -/
def same (x y : Claim) : Prop := x.debtor = y.debtor ∧ x.creditor = y.creditor ∧ x.part = y.part ∧ x.sign = y.sign ∧ x.by_ = y.by_

theorem same_iff (x c : Claim) : ((((pay_of x).debtor) == ((pay_of c).debtor)) && ((((pay_of x).creditor) == ((pay_of c).creditor)) && ((((pay_of x).part) == ((pay_of c).part)) && ((((pay_of x).sign) == ((pay_of c).sign)) && ((((pay_of x).by_) == ((pay_of c).by_)) && true))))) = true ↔ same x c := by
  simp [pay_of, same]

theorem set_twice (l : List Claim) (k : Nat) (y : Claim) (v : Int) (h : k < l.length) : (l.set k y).set k (((l.set k y).getD k default).setState v) = l.set k (y.setState v) := by
  simp [List.set_set, List.getD, h]

theorem group_loop (l : List Claim) (c : Claim) : ∀ fu k, fu + k = l.length + 1 → k ≤ l.length → (∀ i, i < k → ¬ same (l.getD i default) c) →
    (∃ j, j < l.length ∧ same (l.getD j default) c ∧ pay_group_loop0 l c fu k = l.set j (((l.getD j default).setSum (maxI ((l.getD j default).sum) c.sum)).setState (bind_And c.state ((l.getD j default).state)))) ∨
    ((∀ i, i < l.length → ¬ same (l.getD i default) c) ∧ pay_group_loop0 l c fu k = l ++ [c])
  | 0, k, h, hk, _ => absurd h (by omega)
  | fu + 1, k, h, hk, hn => by
    rw [pay_group_loop0]
    by_cases hlt : k < l.length
    · have hd : decide (((k : Nat) : Int) < ((l.length : Nat) : Int)) = true := decide_eq_true (by omega)
      rw [hd, cond_true]
      by_cases hc : same (l.getD k default) c
      · left
        rw [(same_iff _ _).2 hc, cond_true, set_twice _ _ _ _ hlt]
        exact ⟨k, hlt, hc, rfl⟩
      · rw [Bool.eq_false_iff.2 (fun q => hc ((same_iff _ _).1 q)), cond_false]
        exact group_loop l c fu (k + 1) (by omega) (by omega) (fun i hi => by
          by_cases e : i = k
          · rw [e]; exact hc
          · exact hn i (by omega))
    · have hd : decide (((k : Nat) : Int) < ((l.length : Nat) : Int)) = false := decide_eq_false (by omega)
      rw [hd, cond_false]
      exact .inr ⟨fun i hi => hn i (by omega), rfl⟩

theorem join_loop (l : List Claim) (c : Claim) : ∀ fu k, fu + k = l.length + 1 → k ≤ l.length → (∀ i, i < k → ¬ same (l.getD i default) c) →
    (∃ j, j < l.length ∧ same (l.getD j default) c ∧ pay_join_loop0 l c fu k = l.set j (((l.getD j default).setSum (minI 1099511627776 (IntKind.i64.wrap (((l.getD j default).sum) + c.sum)))).setState (bind_And ((l.getD j default).state) c.state))) ∨
    ((∀ i, i < l.length → ¬ same (l.getD i default) c) ∧ pay_join_loop0 l c fu k = l ++ [c])
  | 0, k, h, hk, _ => absurd h (by omega)
  | fu + 1, k, h, hk, hn => by
    rw [pay_join_loop0]
    by_cases hlt : k < l.length
    · have hd : decide (((k : Nat) : Int) < ((l.length : Nat) : Int)) = true := decide_eq_true (by omega)
      rw [hd, cond_true]
      by_cases hc : same (l.getD k default) c
      · left
        rw [(same_iff _ _).2 hc, cond_true, set_twice _ _ _ _ hlt]
        exact ⟨k, hlt, hc, rfl⟩
      · rw [Bool.eq_false_iff.2 (fun q => hc ((same_iff _ _).1 q)), cond_false]
        exact join_loop l c fu (k + 1) (by omega) (by omega) (fun i hi => by
          by_cases e : i = k
          · rw [e]; exact hc
          · exact hn i (by omega))
    · have hd : decide (((k : Nat) : Int) < ((l.length : Nat) : Int)) = false := decide_eq_false (by omega)
      rw [hd, cond_false]
      exact .inr ⟨fun i hi => hn i (by omega), rfl⟩

theorem maxI_eq (a b : Int) : maxI a b = max a b := by unfold maxI; split <;> omega
theorem minI_eq (a b : Int) : minI a b = min a b := by unfold minI; split <;> omega

/-- what a claim becomes less by, when it is met -/
def less (a : Act) (x : Claim) : Int := min (max 0 a.sum) x.sum
def red (a : Act) (st : Bool) (x : Claim) : Claim := if pay_meets a st x then x.setSum (x.sum - less a x) else x
def stepOf (a : Act) (x : Claim) : Step := ⟨x.debtor, x.creditor, x.sign, less a x⟩

theorem less_bounds (a : Act) {x : Claim} (h : 0 ≤ x.sum) : 0 ≤ less a x ∧ less a x ≤ x.sum ∧ less a x ≤ max 0 a.sum := by unfold less; omega

structure Inv0 (l : List Claim) (a : Act) (kind : Int) (st : Bool) (k : Nat) (out : List Claim) (steps : List Step) (inn : List Claim) : Prop where
  ho : out = (l.take k).map (red a st) ++ l.drop k
  hst : steps = ((l.take k).filter (pay_meets a st)).map (stepOf a)
  h1 : ∀ x, x ∈ inn → x.creditor = a.who ∧ x.by_ = a.at_ ∧ x.debtor ≠ a.who ∧ 0 ≤ x.sum ∧ x.sum ≤ max 0 a.sum ∧ x.sum ≤ 1099511627776
  h2 : ∀ i j, i < j → j < inn.length → ¬ same (inn.getD i default) (inn.getD j default)
  h3 : ∀ d p s, tot d p s inn + tot d p s ((l.take k).map (red a st)) ≤ tot d p s (l.take k)
  h4 : kind = 1 → inn = []
  h5 : inn.length ≤ k

theorem take_next {l : List Claim} {k : Nat} (h : k < l.length) : l.take (k + 1) = l.take k ++ [l.getD k default] := by
  rw [List.take_add_one]
  simp [List.getD, h]

theorem getD_mem {l : List Claim} {j : Nat} (h : j < l.length) : l.getD j default ∈ l := by simp [List.getD, h]

/-- grouping keeps what is known of the group -/
theorem group_inv {a : Act} {inn : List Claim} {c : Claim} (hc : c.creditor = a.who ∧ c.by_ = a.at_ ∧ c.debtor ≠ a.who ∧ 0 ≤ c.sum ∧ c.sum ≤ max 0 a.sum ∧ c.sum ≤ 1099511627776)
    (h1 : ∀ x, x ∈ inn → x.creditor = a.who ∧ x.by_ = a.at_ ∧ x.debtor ≠ a.who ∧ 0 ≤ x.sum ∧ x.sum ≤ max 0 a.sum ∧ x.sum ≤ 1099511627776)
    (h2 : ∀ i j, i < j → j < inn.length → ¬ same (inn.getD i default) (inn.getD j default)) :
    (∀ x, x ∈ pay_group inn c → x.creditor = a.who ∧ x.by_ = a.at_ ∧ x.debtor ≠ a.who ∧ 0 ≤ x.sum ∧ x.sum ≤ max 0 a.sum ∧ x.sum ≤ 1099511627776) ∧
    (∀ i j, i < j → j < (pay_group inn c).length → ¬ same ((pay_group inn c).getD i default) ((pay_group inn c).getD j default)) ∧
    ∀ d p s, tot d p s (pay_group inn c) ≤ tot d p s inn + (if inC d p s c then c.sum else 0) := by
  rw [pay_group]
  rcases group_loop inn c (inn.length + 1) 0 (by omega) (by omega) (fun i hi => absurd hi (Nat.not_lt_zero _)) with ⟨j, hj, hs, e⟩ | ⟨hs, e⟩
  · rw [e]
    have hx := h1 _ (getD_mem hj)
    generalize hy : ((inn.getD j default).setSum (maxI (inn.getD j default).sum c.sum)).setState (bind_And c.state (inn.getD j default).state) = y
    have hys : y.sum = max (inn.getD j default).sum c.sum := by rw [← hy, ← maxI_eq]; rfl
    have hyk : same (inn.getD j default) y ∧ y.creditor = (inn.getD j default).creditor ∧ y.by_ = (inn.getD j default).by_ ∧ y.debtor = (inn.getD j default).debtor ∧ y.part = (inn.getD j default).part ∧ y.sign = (inn.getD j default).sign := by
      rw [← hy]; exact ⟨⟨rfl, rfl, rfl, rfl, rfl⟩, rfl, rfl, rfl, rfl, rfl⟩
    have hget : ∀ i, i < inn.length → (inn.set j y).getD i default = if i = j then y else inn.getD i default := fun i hi => by
      by_cases q : i = j
      · subst q; simp [List.getD, hi]
      · simp [List.getD, q, List.getElem?_set_ne (fun e => q e.symm)]
    refine ⟨fun x hm => ?_, fun i q hiq hq => ?_, fun d p s => ?_⟩
    · rcases List.mem_or_eq_of_mem_set hm with hm | rfl
      · exact h1 x hm
      · obtain ⟨_, k2, k3, k4, _⟩ := hyk
        rw [k2, k3, k4, hys]
        refine ⟨hx.1, hx.2.1, hx.2.2.1, ?_, ?_, ?_⟩ <;> omega
    · rw [List.length_set] at hq
      rw [hget i (by omega), hget q hq]
      have key : ∀ z, same y z ↔ same (inn.getD j default) z := fun z => by
        obtain ⟨⟨a1, a2, a3, a4, a5⟩, _⟩ := hyk
        simp only [same, a1, a2, a3, a4, a5]
      have key2 : ∀ z, same z y ↔ same z (inn.getD j default) := fun z => by
        obtain ⟨⟨a1, a2, a3, a4, a5⟩, _⟩ := hyk
        simp only [same, a1, a2, a3, a4, a5]
      by_cases e1 : i = j
      · have e2 : q ≠ j := by omega
        rw [if_pos e1, if_neg e2, key]
        exact h2 j q (by omega) hq
      · rw [if_neg e1]
        by_cases e2 : q = j
        · rw [if_pos e2, key2]; exact h2 i j (by omega) hj
        · rw [if_neg e2]; exact h2 i q hiq hq
    · rw [tot_set d p s y inn j hj]
      obtain ⟨s1, s2, s3, s4, s5⟩ := hs
      obtain ⟨_, _, _, k4, k5, k6⟩ := hyk
      have i1 : inC d p s y ↔ inC d p s (inn.getD j default) := by simp only [inC, k4, k5, k6]
      have i2 : inC d p s c ↔ inC d p s (inn.getD j default) := by simp only [inC, s1, s3, s4]
      by_cases hi : inC d p s (inn.getD j default)
      · rw [if_pos hi, if_pos (i1.2 hi), if_pos (i2.2 hi), hys]
        omega
      · rw [if_neg hi, if_neg (fun q => hi (i1.1 q)), if_neg (fun q => hi (i2.1 q))]
        omega
  · rw [e]
    refine ⟨fun x hm => ?_, fun i q hiq hq => ?_, fun d p s => ?_⟩
    · rcases List.mem_append.1 hm with hm | hm
      · exact h1 x hm
      · rw [List.mem_singleton.1 hm]; exact hc
    · simp only [List.length_append, List.length_cons, List.length_nil] at hq
      have gi : (inn ++ [c]).getD i default = inn.getD i default := by simp [List.getD, List.getElem?_append_left (show i < inn.length by omega)]
      rw [gi]
      by_cases e2 : q = inn.length
      · subst e2
        have gq : (inn ++ [c]).getD inn.length default = c := by simp [List.getD]
        rw [gq]
        exact hs i (by omega)
      · have gq : (inn ++ [c]).getD q default = inn.getD q default := by simp [List.getD, List.getElem?_append_left (show q < inn.length by omega)]
        rw [gq]
        exact h2 i q hiq (by omega)
    · rw [tot_append]
      simp [tot]

theorem apply_loop0 (l : List Claim) (a : Act) (kind : Int) (st : Bool) (hs : sane l) : ∀ fu k out steps inn, fu + k = l.length + 1 → k ≤ l.length → Inv0 l a kind st k out steps inn →
    ∃ out' steps' inn', Inv0 l a kind st l.length out' steps' inn' ∧ pay_Apply_loop0 l a kind st fu k out steps inn = pay_Apply_loop1 l a kind st (inn'.length + 1) 0 out' steps' inn'
  | 0, k, out, steps, inn, h, hk, _ => absurd h (by omega)
  | fu + 1, k, out, steps, inn, h, hk, I => by
    rw [pay_Apply_loop0]
    by_cases hlt : k < l.length
    · have hd : decide (((k : Nat) : Int) < ((l.length : Nat) : Int)) = true := decide_eq_true (by omega)
      rw [hd, cond_true]
      have hx := sane_get hs hlt
      have hlk : ((l.take k).map (red a st)).length = k := by simp; omega
      have hdrop := drop_eq hlt
      generalize hX : l.getD k default = x at *
      have htk : l.take (k + 1) = l.take k ++ [x] := by rw [take_next hlt, hX]
      cases hm : pay_meets a st x with
      | false =>
        have hr : red a st x = x := by simp [red, hm]
        simp only [Bool.not_false, cond_true]
        refine apply_loop0 l a kind st hs fu (k + 1) _ _ _ (by omega) (by omega) ⟨?_, ?_, I.h1, I.h2, fun d p s => ?_, I.h4, by have := I.h5; omega⟩
        · rw [I.ho, hdrop, htk]; simp [hr]
        · rw [I.hst, htk]; simp [hm]
        · have := I.h3 d p s
          rw [htk]
          simp only [List.map_append, tot_append, List.map_cons, List.map_nil, hr]
          omega
      | true =>
        have hlb := less_bounds a hx.1
        have hmax : maxI 0 x.sum = x.sum := by rw [maxI_eq]; omega
        have hmin : minI (maxI 0 a.sum) (maxI 0 x.sum) = less a x := by rw [hmax, minI_eq, maxI_eq]; rfl
        have hr : red a st x = x.setSum (x.sum - less a x) := by simp [red, hm]
        have hget : out.getD k default = x := by
          rw [I.ho, hdrop]
          rw [List.getD, List.getElem?_append_right (by omega), hlk, Nat.sub_self]
          rfl
        have hset : ∀ y, out.set k y = (l.take k).map (red a st) ++ y :: l.drop (k + 1) := fun y => by
          rw [I.ho, hdrop, List.set_append_right (h := by omega), hlk, Nat.sub_self]
          rfl
        have hw : IntKind.i64.wrap (maxI 0 x.sum - less a x) = x.sum - less a x := by rw [hmax]; exact wrap64_id (by omega) (by omega)
        simp only [Bool.not_true, cond_false, hmin, hw, hget, hset]
        have ho : (l.take k).map (red a st) ++ x.setSum (x.sum - less a x) :: l.drop (k + 1) = (l.take (k + 1)).map (red a st) ++ l.drop (k + 1) := by rw [htk]; simp [hr]
        have hst : steps ++ [({ debtor := x.debtor, creditor := x.creditor, sign := x.sign, sum := less a x } : Step)] = ((l.take (k + 1)).filter (pay_meets a st)).map (stepOf a) := by rw [I.hst, htk]; simp [hm, stepOf]
        have htt : ∀ d p s, tot d p s ((l.take (k + 1)).map (red a st)) = tot d p s ((l.take k).map (red a st)) + (if inC d p s x then x.sum - less a x else 0) := fun d p s => by
          rw [htk]
          simp only [List.map_append, tot_append, List.map_cons, List.map_nil, hr, tot]
          have : inC d p s (x.setSum (x.sum - less a x)) ↔ inC d p s x := Iff.rfl
          simp only [this]
          simp [Claim.setSum]
        have htl : ∀ d p s, tot d p s (l.take (k + 1)) = tot d p s (l.take k) + (if inC d p s x then x.sum else 0) := fun d p s => by
          rw [htk, tot_append]; simp [tot]
        cases hb : (bif bif kind != 1 then bif x.turn == 0 then true else decide (x.sign < a.at_) else false then x.debtor != a.who else false) with
        | false =>
          simp only [cond_false]
          refine apply_loop0 l a kind st hs fu (k + 1) _ _ _ (by omega) (by omega) ⟨ho, hst, I.h1, I.h2, fun d p s => ?_, I.h4, by have := I.h5; omega⟩
          have := I.h3 d p s
          rw [htt, htl]
          split <;> omega
        | true =>
          simp only [cond_true]
          simp only [cond_and_true, cond_or_true, bne_iff_ne, ne_eq, beq_iff_eq, decide_eq_true_eq] at hb
          obtain ⟨⟨hk1, _⟩, hdw⟩ := hb
          obtain ⟨g1, g2, g3⟩ := group_inv (a := a) (inn := inn) (c := ((x.setCreditor a.who).setBy_ a.at_).setSum (less a x)) ⟨rfl, rfl, hdw, hlb.1, hlb.2.2, by show less a x ≤ _; omega⟩ I.h1 I.h2
          refine apply_loop0 l a kind st hs fu (k + 1) _ _ _ (by omega) (by omega) ⟨ho, hst, g1, g2, fun d p s => ?_, fun q => absurd q hk1, by have := I.h5; have := pay_group_len inn (((x.setCreditor a.who).setBy_ a.at_).setSum (less a x)); omega⟩
          have := I.h3 d p s
          have g := g3 d p s
          have e : inC d p s (((x.setCreditor a.who).setBy_ a.at_).setSum (less a x)) ↔ inC d p s x := Iff.rfl
          have e2 : (((x.setCreditor a.who).setBy_ a.at_).setSum (less a x)).sum = less a x := rfl
          rw [e2] at g
          simp only [e] at g
          rw [htt, htl]
          split at g <;> simp_all <;> omega
    · have hd : decide (((k : Nat) : Int) < ((l.length : Nat) : Int)) = false := decide_eq_false (by omega)
      rw [hd, cond_false]
      have : k = l.length := by omega
      subst this
      exact ⟨out, steps, inn, I, rfl⟩

/-- the claims behind the joining of the first k groups -/
structure Inv1 (out1 inn : List Claim) (k : Nat) (out : List Claim) : Prop where
  len : out1.length ≤ out.length
  len2 : out.length ≤ out1.length + k
  each : ∀ i, i < out.length → (i < out1.length ∧ out.getD i default = out1.getD i default) ∨
    ∃ j, j < k ∧ j < inn.length ∧ same (out.getD i default) (inn.getD j default) ∧
      ((i < out1.length ∧ ∃ v, out.getD i default = ((out1.getD i default).setSum (min 1099511627776 ((out1.getD i default).sum + (inn.getD j default).sum))).setState v) ∨ (out1.length ≤ i ∧ out.getD i default = inn.getD j default))
  tots : ∀ d p s, tot d p s out ≤ tot d p s out1 + tot d p s (inn.take k)
  ok : sane out

theorem same_trans {x y z : Claim} (h : same x y) (k : same x z) : same y z := by
  obtain ⟨h1, h2, h3, h4, h5⟩ := h
  obtain ⟨k1, k2, k3, k4, k5⟩ := k
  exact ⟨h1.symm.trans k1, h2.symm.trans k2, h3.symm.trans k3, h4.symm.trans k4, h5.symm.trans k5⟩

theorem join_inv {out1 inn out : List Claim} {k : Nat} (hk : k < inn.length) (hi : sane inn) (h2 : ∀ i j, i < j → j < inn.length → ¬ same (inn.getD i default) (inn.getD j default)) (I : Inv1 out1 inn k out) : Inv1 out1 inn (k + 1) (pay_join out (inn.getD k default)) := by
  have hc := sane_get hi hk
  have htake : inn.take (k + 1) = inn.take k ++ [inn.getD k default] := take_next hk
  rw [pay_join]
  rcases join_loop out (inn.getD k default) (out.length + 1) 0 (by omega) (by omega) (fun i hi => absurd hi (Nat.not_lt_zero _)) with ⟨j, hj, hs, e⟩ | ⟨hs, e⟩
  · rw [e]
    have hx := sane_get I.ok hj
    have hun : j < out1.length ∧ out.getD j default = out1.getD j default := by
      rcases I.each j hj with q | ⟨q, q1, q2, q3, _⟩
      · exact q
      · exact absurd (same_trans q3 hs) (h2 q k q1 hk)
    generalize hy : ((out.getD j default).setSum (minI 1099511627776 (IntKind.i64.wrap ((out.getD j default).sum + (inn.getD k default).sum)))).setState (bind_And (out.getD j default).state (inn.getD k default).state) = y
    have hys : y.sum = min 1099511627776 ((out.getD j default).sum + (inn.getD k default).sum) := by
      rw [← hy]
      show minI _ _ = _
      rw [minI_eq, wrap64_id (by omega) (by omega)]
    have hyk : y.debtor = (out.getD j default).debtor ∧ y.creditor = (out.getD j default).creditor ∧ y.part = (out.getD j default).part ∧ y.sign = (out.getD j default).sign ∧ y.by_ = (out.getD j default).by_ := by
      rw [← hy]; exact ⟨rfl, rfl, rfl, rfl, rfl⟩
    have hget : ∀ i, i < out.length → (out.set j y).getD i default = if i = j then y else out.getD i default := fun i hi => by
      by_cases q : i = j
      · subst q; simp [List.getD, hi]
      · simp [List.getD, q, List.getElem?_set_ne (fun e => q e.symm)]
    refine ⟨by rw [List.length_set]; exact I.len, by rw [List.length_set]; have := I.len2; omega, fun i hi => ?_, fun d p s => ?_, fun x hm => ?_⟩
    · rw [List.length_set] at hi
      rw [hget i hi]
      by_cases q : i = j
      · subst q
        rw [if_pos rfl]
        refine .inr ⟨k, by omega, hk, ?_, .inl ⟨hun.1, bind_And (out.getD i default).state (inn.getD k default).state, ?_⟩⟩
        · obtain ⟨s1, s2, s3, s4, s5⟩ := hs
          obtain ⟨k1, k2, k3, k4, k5⟩ := hyk
          exact ⟨k1.trans s1, k2.trans s2, k3.trans s3, k4.trans s4, k5.trans s5⟩
        · rw [← hun.2, ← hy, minI_eq, wrap64_id (by omega) (by omega)]
      · rw [if_neg q]
        rcases I.each i hi with r | ⟨r, r1, r2, r3, r4⟩
        · exact .inl r
        · exact .inr ⟨r, by omega, r2, r3, r4⟩
    · have ht := I.tots d p s
      rw [tot_set d p s y out j hj, htake, tot_append]
      obtain ⟨s1, s2, s3, s4, s5⟩ := hs
      obtain ⟨k1, k2, k3, k4, k5⟩ := hyk
      have i1 : inC d p s y ↔ inC d p s (out.getD j default) := by simp only [inC, k1, k3, k4]
      have i2 : inC d p s (inn.getD k default) ↔ inC d p s (out.getD j default) := by simp only [inC, s1, s3, s4]
      simp only [tot]
      by_cases hh : inC d p s (out.getD j default)
      · rw [if_pos hh, if_pos (i1.2 hh), if_pos (i2.2 hh), hys]
        omega
      · rw [if_neg hh, if_neg (fun q => hh (i1.1 q)), if_neg (fun q => hh (i2.1 q))]
        omega
    · rcases List.mem_or_eq_of_mem_set hm with hm | rfl
      · exact I.ok x hm
      · rw [hys]; omega
  · rw [e]
    have hl := I.len
    have hl2 := I.len2
    refine ⟨by simp; omega, by simp; omega, fun i hi => ?_, fun d p s => ?_, fun x hm => ?_⟩
    · simp only [List.length_append, List.length_cons, List.length_nil] at hi
      by_cases q : i = out.length
      · subst q
        have gq : (out ++ [inn.getD k default]).getD out.length default = inn.getD k default := by simp [List.getD]
        rw [gq]
        exact .inr ⟨k, by omega, hk, ⟨rfl, rfl, rfl, rfl, rfl⟩, .inr ⟨hl, rfl⟩⟩
      · have gq : (out ++ [inn.getD k default]).getD i default = out.getD i default := by rw [List.getD, List.getElem?_append_left (by omega)]; rfl
        rw [gq]
        rcases I.each i (by omega) with r | ⟨r, r1, r2, r3, r4⟩
        · exact .inl r
        · exact .inr ⟨r, by omega, r2, r3, r4⟩
    · have ht := I.tots d p s
      rw [htake, tot_append, tot_append]
      simp only [tot]
      omega
    · rcases List.mem_append.1 hm with hm | hm
      · exact I.ok x hm
      · rw [List.mem_singleton.1 hm]; exact hc

theorem apply_loop1 (l : List Claim) (a : Act) (kind : Int) (st : Bool) (out1 inn : List Claim) (steps : List Step) (hi : sane inn) (h2 : ∀ i j, i < j → j < inn.length → ¬ same (inn.getD i default) (inn.getD j default)) :
    ∀ fu k out, fu + k = inn.length + 1 → k ≤ inn.length → Inv1 out1 inn k out → ∃ out', Inv1 out1 inn inn.length out' ∧ pay_Apply_loop1 l a kind st fu k out steps inn = (out', steps)
  | 0, k, out, h, _, _ => absurd h (by omega)
  | fu + 1, k, out, h, hk, I => by
    rw [pay_Apply_loop1]
    by_cases hlt : k < inn.length
    · have hd : decide (((k : Nat) : Int) < ((inn.length : Nat) : Int)) = true := decide_eq_true (by omega)
      rw [hd, cond_true]
      exact apply_loop1 l a kind st out1 inn steps hi h2 fu (k + 1) _ (by omega) (by omega) (join_inv hlt hi h2 I)
    · have hd : decide (((k : Nat) : Int) < ((inn.length : Nat) : Int)) = false := decide_eq_false (by omega)
      rw [hd, cond_false]
      have : k = inn.length := by omega
      subst this
      exact ⟨out, I, rfl⟩

theorem red_sane {l : List Claim} (a : Act) (st : Bool) (h : sane l) : sane (l.map (red a st)) := by
  intro x hx
  obtain ⟨y, hy, rfl⟩ := List.mem_map.1 hx
  have := h y hy
  have := less_bounds a this.1
  unfold red
  split
  · show 0 ≤ y.sum - less a y ∧ y.sum - less a y ≤ _
    omega
  · omega

theorem apply_spec (l : List Claim) (a : Act) (kind : Int) (st : Bool) (hs : sane l) : ∃ out inn, pay_Apply l a kind st = (out, (l.filter (pay_meets a st)).map (stepOf a)) ∧ Inv1 (l.map (red a st)) inn inn.length out ∧
    (∀ x, x ∈ inn → x.creditor = a.who ∧ x.by_ = a.at_ ∧ x.debtor ≠ a.who ∧ 0 ≤ x.sum ∧ x.sum ≤ max 0 a.sum ∧ x.sum ≤ 1099511627776) ∧ (∀ d p s, tot d p s out ≤ tot d p s l) ∧ (kind = 1 → out.length = l.length) ∧ inn.length ≤ l.length := by
  obtain ⟨out', steps', inn, I, e⟩ := apply_loop0 l a kind st hs (l.length + 1) 0 l [] [] (by omega) (by omega) ⟨by simp, by simp, fun x hx => by simp at hx, fun i j _ h => by simp at h, fun d p s => by simp [tot], fun _ => rfl, by simp⟩
  have ho : out' = l.map (red a st) := by rw [I.ho]; simp
  have hst : steps' = (l.filter (pay_meets a st)).map (stepOf a) := by rw [I.hst]; simp
  have hi : sane inn := fun x hx => by have := I.h1 x hx; omega
  subst ho
  obtain ⟨out, J, e'⟩ := apply_loop1 l a kind st (l.map (red a st)) inn steps' hi I.h2 (inn.length + 1) 0 (l.map (red a st)) (by omega) (by omega)
    ⟨Nat.le_refl _, by omega, fun i h => .inl ⟨h, rfl⟩, fun d p s => by simp [tot], red_sane a st hs⟩
  refine ⟨out, inn, ?_, J, I.h1, fun d p s => ?_, fun hk => ?_, I.h5⟩
  · rw [pay_Apply, slices_Clone, e, e', hst]
  · have h3 := I.h3 d p s
    have ht := J.tots d p s
    rw [List.take_length] at h3 ht
    omega
  · have h1 := J.len
    have h2 := J.len2
    rw [I.h4 hk] at h2
    simp at h1 h2
    omega

theorem step_get (l : List Claim) (a : Act) (st : Bool) {k : Nat} (hk : k < l.length) (hm : pay_meets a st (l.getD k default) = true) :
    ((l.take k).filter (pay_meets a st)).length < ((l.filter (pay_meets a st)).map (stepOf a)).length ∧ ((l.filter (pay_meets a st)).map (stepOf a)).getD ((l.take k).filter (pay_meets a st)).length default = stepOf a (l.getD k default) := by
  have e : l = l.take k ++ l.getD k default :: l.drop (k + 1) := by rw [← drop_eq hk, List.take_append_drop]
  have hf : l.filter (pay_meets a st) = (l.take k).filter (pay_meets a st) ++ l.getD k default :: (l.drop (k + 1)).filter (pay_meets a st) := by
    conv => lhs; rw [e]
    rw [List.filter_append, List.filter_cons, hm]
    rfl
  rw [hf]
  refine ⟨by simp, ?_⟩
  rw [List.map_append, List.getD, List.getElem?_append_right (by simp)]
  simp

theorem law_loop1 (l : List Claim) (a : Act) (kind : Int) (st : Bool) (hs : sane l) (hn : l.length ≤ 60) {out inn : List Claim} (hA : pay_Apply l a kind st = (out, (l.filter (pay_meets a st)).map (stepOf a))) (J : Inv1 (l.map (red a st)) inn inn.length out)
    (h1 : ∀ x, x ∈ inn → x.creditor = a.who ∧ x.by_ = a.at_ ∧ x.debtor ≠ a.who ∧ 0 ≤ x.sum ∧ x.sum ≤ max 0 a.sum ∧ x.sum ≤ 1099511627776) (ht : ∀ d p s, tot d p s out ≤ tot d p s l) (hil : inn.length ≤ l.length) :
    ∀ fu k, fu + k = out.length + 1 → k ≤ out.length → allongelaw27_PayOnce_loop1 l a kind st fu k ((((l.take k).filter (pay_meets a st)).length : Nat) : Int) = true
  | 0, k, h, _ => absurd h (by omega)
  | fu + 1, k, h, hk => by
    have ih := law_loop1 l a kind st hs hn hA J h1 ht hil fu (k + 1)
    have hlen := J.len
    have hlen2 := J.len2
    rw [List.length_map] at hlen hlen2
    rw [allongelaw27_PayOnce_loop1]
    simp only [hA]
    by_cases hlt : k < out.length
    · have hd : decide (((k : Nat) : Int) < ((out.length : Nat) : Int)) = true := decide_eq_true (by omega)
      have htot : decide (allongelaw27_total out (out.getD k default) > allongelaw27_total l (out.getD k default)) = false := by
        rw [total_eq out _ J.ok (by omega), total_eq l _ hs (by omega)]
        have := ht (out.getD k default).debtor (out.getD k default).part (out.getD k default).sign
        exact decide_eq_false (by omega)
      rw [hd, cond_true, htot, cond_false]
      have hysane := sane_get J.ok hlt
      by_cases hkn : k < l.length
      · have hd2 : decide (((k : Nat) : Int) ≥ ((l.length : Nat) : Int)) = false := decide_eq_false (by omega)
        rw [hd2, cond_false]
        have hx := sane_get hs hkn
        have hmapget : (l.map (red a st)).getD k default = red a st (l.getD k default) := by simp [List.getD, hkn]
        have hmem : (bif (l.getD k default).creditor == a.to_ then true else bif (l.getD k default).creditor == -1 then st else false) = pay_meets a st (l.getD k default) := rfl
        have htn := take_next hkn
        have hsg := step_get l a st hkn
        have heach := J.each k hlt
        rw [hmapget, List.length_map] at heach
        rw [hmem]
        generalize hX : l.getD k default = x at *
        generalize hY : out.getD k default = y at *
        have hlb := less_bounds a hx.1
        have hmin : minI (max 0 a.sum) x.sum = less a x := by rw [minI_eq]; rfl
        have hmx : maxI 0 a.sum = max 0 a.sum := maxI_eq _ _
        -- what y is
        have hy : y.debtor = x.debtor ∧ y.creditor = x.creditor ∧ y.part = x.part ∧ y.sign = x.sign ∧ y.by_ = x.by_ ∧ y.turn = x.turn ∧ y.currency = x.currency ∧ (red a st x).sum ≤ y.sum ∧ y.sum ≤ (red a st x).sum + max 0 a.sum ∧
            (¬ (x.creditor = a.who ∧ x.by_ = a.at_) → y.sum = (red a st x).sum ∧ y.state = x.state) := by
          have hrd : (red a st x).debtor = x.debtor ∧ (red a st x).creditor = x.creditor ∧ (red a st x).part = x.part ∧ (red a st x).sign = x.sign ∧ (red a st x).by_ = x.by_ ∧ (red a st x).turn = x.turn ∧ (red a st x).currency = x.currency ∧ (red a st x).state = x.state := by
            unfold red; split <;> exact ⟨rfl, rfl, rfl, rfl, rfl, rfl, rfl, rfl⟩
          have hrs : (red a st x).sum ≤ 1099511627776 ∧ 0 ≤ (red a st x).sum := by
            unfold red
            split
            · show x.sum - less a x ≤ _ ∧ 0 ≤ x.sum - less a x
              omega
            · omega
          obtain ⟨r1, r2, r3, r4, r5, r6, r7, r8⟩ := hrd
          rcases heach with ⟨_, e⟩ | ⟨j, _, hj, hsm, ⟨_, v, e⟩ | ⟨q, _⟩⟩
          · rw [e]
            exact ⟨r1, r2, r3, r4, r5, r6, r7, by omega, by omega, fun _ => ⟨rfl, r8⟩⟩
          · have hc := h1 _ (getD_mem hj)
            obtain ⟨s1, s2, s3, s4, s5⟩ := hsm
            have e2 : y.sum = min 1099511627776 ((red a st x).sum + (inn.getD j default).sum) := by rw [e]; rfl
            have e3 : y.creditor = x.creditor ∧ y.by_ = x.by_ := by rw [e]; exact ⟨r2, r5⟩
            refine ⟨by rw [e]; exact r1, e3.1, by rw [e]; exact r3, by rw [e]; exact r4, e3.2, by rw [e]; exact r6, by rw [e]; exact r7, by omega, by omega, fun hno => absurd ⟨?_, ?_⟩ hno⟩
            · rw [← e3.1, s2]; exact hc.1
            · rw [← e3.2, s5]; exact hc.2.1
          · omega
        obtain ⟨y1, y2, y3, y4, y5, y6, y7, y8, y9, y10⟩ := hy
        have hown : (bif x.creditor == a.who then x.by_ == a.at_ else false) = true ↔ (x.creditor = a.who ∧ x.by_ = a.at_) := by simp only [cond_and_true, beq_iff_eq]
        cases hm : pay_meets a st x with
        | true =>
          have hrs : (red a st x).sum = x.sum - less a x := by simp [red, hm, Claim.setSum]
          obtain ⟨sg1, sg2⟩ := hsg hm
          rw [hrs] at y8 y9 y10
          have w1 : IntKind.i64.wrap (x.sum - less a x) = x.sum - less a x := wrap64_id (by omega) (by omega)
          have w2 : IntKind.i64.wrap (y.sum - (x.sum - less a x)) = y.sum - (x.sum - less a x) := wrap64_id (by omega) (by omega)
          have hcnt : ((((l.take (k + 1)).filter (pay_meets a st)).length : Nat) : Int) = ((((l.take k).filter (pay_meets a st)).length : Nat) : Int) + 1 := by
            rw [htn, List.filter_append, List.length_append]
            simp [hm]
          have hcl : ((l.take k).filter (pay_meets a st)).length ≤ k := Nat.le_trans (List.length_filter_le _ _) (by simp; omega)
          have w3 : IntKind.i64.wrap (((((l.take k).filter (pay_meets a st)).length : Nat) : Int) + 1) = ((((l.take (k + 1)).filter (pay_meets a st)).length : Nat) : Int) := by rw [hcnt]; exact wrap64_id (by omega) (by omega)
          have g1 : decide (((((l.take k).filter (pay_meets a st)).length : Nat) : Int) ≥ ((((l.filter (pay_meets a st)).map (stepOf a)).length : Nat) : Int)) = false := decide_eq_false (by omega)
          simp only [cond_true, hmin, hmx, w1, w2, w3, g1, cond_false, Int.toNat_natCast, sg2, stepOf, bne_self_eq_false, y1, y2, y3, y4, y5, y6, y7, beq_self_eq_true, Bool.and_self, Bool.and_true, Bool.not_true]
          rw [ih (by omega) (by omega)]
          have d1 : decide (y.sum < x.sum - less a x) = false := decide_eq_false (by omega)
          have d2 : decide (y.sum - (x.sum - less a x) > max 0 a.sum) = false := decide_eq_false (by omega)
          simp only [d1, d2, cond_false]
          cases ho : (bif x.creditor == a.who then x.by_ == a.at_ else false) with
          | true => simp
          | false =>
            obtain ⟨z1, z2⟩ := y10 (fun q => by rw [hown.2 q] at ho; cases ho)
            simp [z1, z2]
        | false =>
          have hrs : (red a st x).sum = x.sum := by simp [red, hm]
          rw [hrs] at y8 y9 y10
          have w1 : IntKind.i64.wrap (x.sum - 0) = x.sum := by rw [Int.sub_zero]; exact wrap64_id (by omega) (by omega)
          have w2 : IntKind.i64.wrap (y.sum - x.sum) = y.sum - x.sum := wrap64_id (by omega) (by omega)
          have hcnt : ((l.take (k + 1)).filter (pay_meets a st)).length = ((l.take k).filter (pay_meets a st)).length := by
            rw [htn, List.filter_append, List.length_append]
            simp [hm]
          rw [hcnt] at ih
          simp only [cond_false, hmx, w1, w2, y1, y2, y3, y4, y5, y6, y7, beq_self_eq_true, Bool.and_self, Bool.and_true, Bool.not_true]
          rw [ih (by omega) (by omega)]
          have d1 : decide (y.sum < x.sum) = false := decide_eq_false (by omega)
          have d2 : decide (y.sum - x.sum > max 0 a.sum) = false := decide_eq_false (by omega)
          simp only [d1, d2, cond_false]
          cases ho : (bif x.creditor == a.who then x.by_ == a.at_ else false) with
          | true => simp
          | false =>
            obtain ⟨z1, z2⟩ := y10 (fun q => by rw [hown.2 q] at ho; cases ho)
            simp [z1, z2]
      · have hd2 : decide (((k : Nat) : Int) ≥ ((l.length : Nat) : Int)) = true := decide_eq_true (by omega)
        rw [hd2, cond_true]
        have heach := J.each k hlt
        rw [List.length_map] at heach
        have htk : ∀ q, l.length ≤ q → l.take q = l := fun q hq => List.take_of_length_le hq
        rw [htk (k + 1) (by omega)] at ih
        rw [htk k (by omega)]
        generalize hY : out.getD k default = y at *
        rcases heach with ⟨q, _⟩ | ⟨j, _, hj, _, ⟨q, _⟩ | ⟨_, e⟩⟩
        · omega
        · omega
        · obtain ⟨c1, c2, c3, c4, c5, c6⟩ := h1 _ (getD_mem hj)
          rw [← e] at c1 c2 c3 c4 c5 c6
          have hmx : maxI 0 a.sum = max 0 a.sum := maxI_eq _ _
          have d1 : decide (y.sum < 0) = false := decide_eq_false (by omega)
          have d2 : decide (y.sum > max 0 a.sum) = false := decide_eq_false (by omega)
          rw [ih (by omega) (by omega)]
          simp [c1, c2, c3, hmx, d1, d2]
    · have hd : decide (((k : Nat) : Int) < ((out.length : Nat) : Int)) = false := decide_eq_false (by omega)
      rw [hd, cond_false, small_true, cond_true, List.take_of_length_le (by omega)]
      simp

theorem usual_loop (l : List Claim) : ∀ fu k, fu + k = l.length + 1 → k ≤ l.length → allongelaw27_usual_loop0 l fu k = true → ∀ i, k ≤ i → i < l.length → (l.getD i default).sum ≤ 1099511627776
  | 0, k, h, _, _ => absurd h (by omega)
  | fu + 1, k, h, hk, hu => by
    rw [allongelaw27_usual_loop0] at hu
    intro i hi hlt
    have hd : decide (((k : Nat) : Int) < ((l.length : Nat) : Int)) = true := decide_eq_true (by omega)
    rw [hd, cond_true] at hu
    rw [Bool.cond_eq_ite] at hu
    split at hu
    · cases hu
    · rename_i hc
      by_cases e : i = k
      · subst e
        simp only [cond_or_true, decide_eq_true_eq, not_or] at hc
        omega
      · exact usual_loop l fu (k + 1) (by omega) (by omega) hu i (by omega) hlt

theorem law_loop0 (l : List Claim) (a : Act) (kind : Int) (st : Bool) (hn : l.length ≤ 60) (hu : ∀ i, i < l.length → (l.getD i default).sum ≤ 1099511627776) : ∀ fu k, fu + k = l.length + 1 → k ≤ l.length → (∀ i, i < k → 0 ≤ (l.getD i default).sum) →
    allongelaw27_PayOnce_loop0 l a kind st fu k = true
  | 0, k, h, _, _ => absurd h (by omega)
  | fu + 1, k, h, hk, hp => by
    rw [allongelaw27_PayOnce_loop0]
    by_cases hlt : k < l.length
    · have hd : decide (((k : Nat) : Int) < ((l.length : Nat) : Int)) = true := decide_eq_true (by omega)
      rw [hd, cond_true]
      by_cases hneg : (l.getD k default).sum < 0
      · rw [decide_eq_true hneg, cond_true, small_true]
      · rw [decide_eq_false hneg, cond_false]
        exact law_loop0 l a kind st hn hu fu (k + 1) (by omega) (by omega) (fun i hi => by
          by_cases e : i = k
          · subst e; omega
          · exact hp i (by omega))
    · have hd : decide (((k : Nat) : Int) < ((l.length : Nat) : Int)) = false := decide_eq_false (by omega)
      rw [hd, cond_false]
      have hs : sane l := fun x hx => by
        obtain ⟨i, hi, rfl⟩ := List.getElem_of_mem hx
        have e : l.getD i default = l[i] := by simp [List.getD, hi]
        have h1 := hp i (by omega)
        have h2 := hu i hi
        rw [e] at h1 h2
        exact ⟨h1, h2⟩
      obtain ⟨out, inn, hA, J, h1, ht, hk1, hil⟩ := apply_spec l a kind st hs
      have hlen := J.len
      rw [List.length_map] at hlen
      simp only [hA]
      have d1 : decide (((out.length : Nat) : Int) < ((l.length : Nat) : Int)) = false := decide_eq_false (by omega)
      have d2 : (bif kind == 1 then ((out.length : Nat) : Int) != ((l.length : Nat) : Int) else false) = false := by
        rw [Bool.eq_false_iff]
        intro q
        simp only [cond_and_true, beq_iff_eq, bne_iff_ne, ne_eq] at q
        exact q.2 (by rw [hk1 q.1])
      rw [d1, cond_false, d2, cond_false]
      have := law_loop1 l a kind st hs hn hA J h1 ht hil (out.length + 1) 0 (by omega) (by omega)
      simpa using this

theorem payOnce_law (l : List Claim) (a : Act) (kind : Int) (st : Bool) : allongelaw27_PayOnce l a kind st = true := by
  rw [allongelaw27_PayOnce]
  rw [Bool.cond_eq_ite]
  split
  · exact small_true
  · rename_i hc
    simp only [cond_or_true, decide_eq_true_eq, not_or, Bool.not_eq_true', Bool.not_eq_false] at hc
    obtain ⟨h1, h2⟩ := hc
    refine law_loop0 l a kind st (by omega) (fun i hi => ?_) _ 0 (by omega) (by omega) (fun i hi => absurd hi (Nat.not_lt_zero _))
    exact usual_loop l (l.length + 1) 0 (by omega) (by omega) h2 i (by omega) hi
end Go.Proofs.Ytkdlhmnololndaa
