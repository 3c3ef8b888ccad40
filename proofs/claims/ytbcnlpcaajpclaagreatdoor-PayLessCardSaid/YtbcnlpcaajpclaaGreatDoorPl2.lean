/- Functions, as sketches. -/
import Derived.Test.YtbcnlpcaajpclaaGreatDoorPl1
namespace Go.Proofs.YtbcnlpcaajpclaaGreatDoor
open Go Go.Av
set_option linter.unusedSimpArgs false
set_option linter.unusedVariables false
set_option maxHeartbeats 1000000
set_option maxRecDepth 100000
noncomputable def R09_RightOrder_sk (o : Order) : Sk (Bool) :=
 .bind true (fun b1 => ∀ j : Nat, j < o.choices.length → ((j : Int) ≤ (o.choices.getD j default).ask ∧ (o.choices.getD j default).ask ≤ 21) ∧ 0 ≤ (o.choices.getD j default).by_ ∧ (o.choices.getD j default).by_ < 5)
 (.loop (default : Sum (Bool) (Unit)) (fun i2 => (∀ j : Nat, j < i2 → ((j : Int) ≤ (o.choices.getD j default).ask ∧ (o.choices.getD j default).ask ≤ 21) ∧ 0 ≤ (o.choices.getD j default).by_ ∧ (o.choices.getD j default).by_ < 5) ∧ i2 ≤ o.choices.length) (fun i2 => o.choices.length - i2) (0 : Nat)
 (fun (i2 : Nat) => ⟨[(3, iv (i2 : Int))], []⟩) fun i2 =>
 .bnd 1 2 o.choices.length <|
 .br (decide ((i2 : Int) < ((o.choices.length : Nat) : Int)))
 (.r 4 (.andl (.p (ixP (i2 : Int) o.choices.length)) (.dep ((R09_Within_k ((o.choices.getD i2 default).ask) 0 21).c) fun x3 => .andl (.wh (!x3) false (.p (ixP (i2 : Int) o.choices.length))) (.wh (!x3) false ((R09_Within_k ((o.choices.getD i2 default).by_) 0 4).c)))) fun p5 =>
 .br ((!p5.1) || (!p5.2))
 (.fin (.inl (.inl false)))
 (.r 6 (.andl (.wh (decide ((i2 : Int) > 0)) true (.p (ixP (w64 ((i2 : Int) - 1)) o.choices.length))) (.wh (decide ((i2 : Int) > 0)) true (.p (ixP (i2 : Int) o.choices.length)))) fun _ =>
 .br ((decide ((i2 : Int) > 0)) && (decide (((o.choices.getD ((w64 ((i2 : Int) - 1)).toNat) default).ask) ≥ ((o.choices.getD i2 default).ask))))
 (.fin (.inl (.inl false)))
 (.r 3 .z fun _ =>
 .wi 3 (w64 ((i2 : Int) + 1)) ((i2 + 1 : Nat) : Int) <|
 .fin (.inr (i2 + 1)))))
 (.fin (.inl (.inr ()))))
 (fun (_ : Unit) => ⟨[], []⟩) fun _ =>
 .bind true (fun b6 => ∀ j : Nat, j < o.rules.length → (j : Int) ≤ (o.rules.getD j default).ask ∧ (o.rules.getD j default).ask ≤ 21)
 (.loop (default : Sum (Bool) (Unit)) (fun i7 => (∀ j : Nat, j < i7 → (j : Int) ≤ (o.rules.getD j default).ask ∧ (o.rules.getD j default).ask ≤ 21) ∧ i7 ≤ o.rules.length) (fun i7 => o.rules.length - i7) (0 : Nat)
 (fun (i7 : Nat) => ⟨[(4, iv (i7 : Int))], []⟩) fun i7 =>
 .bnd 1 3 o.rules.length <|
 .br (decide ((i7 : Int) < ((o.rules.length : Nat) : Int)))
 (.r 11 (.andl (.p (ixP (i7 : Int) o.rules.length)) ((R09_Within_k ((o.rules.getD i7 default).ask) 0 21).c)) fun x8 =>
 .br (!x8)
 (.fin (.inl (.inl false)))
 (.r 13 (.andl (.wh (decide ((i7 : Int) > 0)) true (.p (ixP (w64 ((i7 : Int) - 1)) o.rules.length))) (.wh (decide ((i7 : Int) > 0)) true (.p (ixP (i7 : Int) o.rules.length)))) fun _ =>
 .br ((decide ((i7 : Int) > 0)) && (decide (((o.rules.getD ((w64 ((i7 : Int) - 1)).toNat) default).ask) ≥ ((o.rules.getD i7 default).ask))))
 (.fin (.inl (.inl false)))
 (.r 10 .z fun _ =>
 .wi 4 (w64 ((i7 : Int) + 1)) ((i7 + 1 : Nat) : Int) <|
 .fin (.inr (i7 + 1)))))
 (.fin (.inl (.inr ()))))
 (fun (_ : Unit) => ⟨[], []⟩) fun _ =>
 .fin true
noncomputable def R09_RightOrder (o : Order) : Bool := (R09_RightOrder_sk o).val
theorem R09_RightOrder_pst (o : Order) : (R09_RightOrder_sk o).pst (fun (x : Bool) => x = true → (∀ j, j < o.choices.length → 0 ≤ (o.choices.getD j default).by_ ∧ (o.choices.getD j default).by_ < 5) ∧ o.choices.length ≤ 22 ∧ o.rules.length ≤ 22) := by
 refine Sk.pst_of _ ?_
 unfold R09_RightOrder_sk
 simp only [Sk.pstq, Sk.isLoop, reduceCtorEq, ON, kk, R09_Within_k, R09_Within_eq, forall_eq, maxLen]
 refine ⟨⟨⟨fun j hj => absurd hj (by omega), Nat.zero_le _⟩, fun i hi => ⟨fun hc h1 _ h2 _ => ?_, fun hc j hj => ?_⟩⟩, fun _ hJ => ⟨⟨⟨fun j hj => absurd hj (by omega), Nat.zero_le _⟩, fun i hi => ⟨fun hc h1 _ h2 _ => ?_, fun hc j hj => ?_⟩⟩, fun _ hJ2 => ⟨fun j hj => (hJ j hj).2, ?_, ?_⟩⟩⟩
 rotate_right
 rotate_right
 ·rcases Nat.lt_or_ge 22 o.choices.length with h | h
  ·have := (hJ 22 h).1; omega
  ·exact h
 ·rcases Nat.lt_or_ge 22 o.rules.length with h | h
  ·have := hJ2 22 h; omega
  ·exact h
 all_goals simp only [LN] at hc
 ·simp only [LN] at h1 h2
  refine ⟨⟨fun j hj => ?_, by omega⟩, by omega⟩
  by_cases e : j = i
  ·subst e
   refine ⟨⟨?_, by omega⟩, by omega, by omega⟩
   by_cases e0 : j = 0
   ·subst e0; omega
   ·have h3 := hi.1 (j - 1) (by omega)
    have h4 := h2.resolve_left (by omega)
    rw [w64_id (by omega) (by omega), show ((j : Int) - 1).toNat = j - 1 by omega] at h4
    omega
  ·exact hi.1 j (by omega)
 ·exact hi.1 j (by omega)
 ·simp only [LN] at h1 h2
  refine ⟨⟨fun j hj => ?_, by omega⟩, by omega⟩
  by_cases e : j = i
  ·subst e
   refine ⟨?_, by omega⟩
   by_cases e0 : j = 0
   ·subst e0; omega
   ·have h3 := hi.1 (j - 1) (by omega)
    have h4 := h2.resolve_left (by omega)
    rw [w64_id (by omega) (by omega), show ((j : Int) - 1).toNat = j - 1 by omega] at h4
    omega
  ·exact hi.1 j (by omega)
 ·exact hi.1 j (by omega)
theorem R09_RightOrder_post (o : Order) : (fun (x : Bool) => x = true → (∀ j, j < o.choices.length → 0 ≤ (o.choices.getD j default).by_ ∧ (o.choices.getD j default).by_ < 5) ∧ o.choices.length ≤ 22 ∧ o.rules.length ≤ 22) (R09_RightOrder o) := have h := Sk.pval _ (R09_RightOrder_pst o); h
theorem R09_RightOrder_ok (o : Order) : (R09_RightOrder_sk o).obs (fun _ => True) := by
 refine Sk.obs_of _ ?_
 unfold R09_RightOrder_sk
 simp only [Sk.obq, Sk.isLoop, reduceCtorEq, ON, kk, R09_Within_k, R09_Within_eq, forall_eq, maxLen]
 refine ⟨⟨⟨fun j hj => absurd hj (by omega), Nat.zero_le _⟩, fun i hi hm => ⟨fun hc => ⟨⟨?_, fun _ => ?_⟩, fun h1 => ⟨⟨fun h3 => ?_, fun _ => ?_⟩, fun _ h2 _ => ⟨?_, ?_⟩⟩⟩, fun hc j hj => ?_⟩⟩, fun _ hJ => ⟨⟨fun j hj => absurd hj (by omega), Nat.zero_le _⟩, fun i hi hm => ⟨fun hc => ⟨?_, fun h1 => ⟨⟨fun h3 => ?_, fun _ => ?_⟩, fun _ h2 _ => ⟨?_, ?_⟩⟩⟩, fun hc j hj => ?_⟩⟩⟩
 all_goals simp only [LN] at hc
 ·exact ⟨by omega, by omega⟩
 ·exact ⟨by omega, by omega⟩
 ·simp only [LN] at h3
  rw [w64_id (by omega) (by omega)]
  exact ⟨by omega, by omega⟩
 ·exact ⟨by omega, by omega⟩
 ·exact (w64_id (by omega) (by omega)).trans (by omega)
 ·simp only [LN] at h1 h2
  refine ⟨⟨fun j hj => ?_, by omega⟩, by omega⟩
  by_cases e : j = i
  ·subst e
   refine ⟨⟨?_, by omega⟩, by omega, by omega⟩
   by_cases e0 : j = 0
   ·subst e0; omega
   ·have h3 := hi.1 (j - 1) (by omega)
    have h4 := h2.resolve_left (by omega)
    rw [w64_id (by omega) (by omega), show ((j : Int) - 1).toNat = j - 1 by omega] at h4
    omega
  ·exact hi.1 j (by omega)
 ·exact hi.1 j (by omega)
 ·exact ⟨by omega, by omega⟩
 ·simp only [LN] at h3
  rw [w64_id (by omega) (by omega)]
  exact ⟨by omega, by omega⟩
 ·exact ⟨by omega, by omega⟩
 ·exact (w64_id (by omega) (by omega)).trans (by omega)
 ·simp only [LN] at h1 h2
  refine ⟨⟨fun j hj => ?_, by omega⟩, by omega⟩
  by_cases e : j = i
  ·subst e
   refine ⟨?_, by omega⟩
   by_cases e0 : j = 0
   ·subst e0; omega
   ·have h3 := hi.1 (j - 1) (by omega)
    have h4 := h2.resolve_left (by omega)
    rw [w64_id (by omega) (by omega), show ((j : Int) - 1).toNat = j - 1 by omega] at h4
    omega
  ·exact hi.1 j (by omega)
 ·exact hi.1 j (by omega)
noncomputable def R09_RightOrder_k (o : Order) : Ctr (Bool) := kk tok mixed Tryz.func137 [av o.cells] (fun x => bv x) true (R09_RightOrder_sk o) (R09_RightOrder o) (fun (_ : True) => R09_RightOrder_ok o) (fun (x : Bool) => x = true → (∀ j, j < o.choices.length → 0 ≤ (o.choices.getD j default).by_ ∧ (o.choices.getD j default).by_ < 5) ∧ o.choices.length ≤ 22 ∧ o.rules.length ≤ 22) (R09_RightOrder_post o)
noncomputable def R09_orders_sk (r : Realm) : Sk (Int) :=
 .br (decide (((r.orders.length : Nat) : Int) > 20))
 (.fin 6)
 (.bind true (fun b1 => r.ByOK ∧ (∀ i, i < r.orders.length → (r.orders.getD i default).choices.length ≤ 22 ∧ (r.orders.getD i default).rules.length ≤ 22))
 (.loop (default : Sum (Int) (Unit)) (fun i2 => i2.1.length = i2.2 ∧ i2.2 ≤ r.orders.length ∧ (∀ i j, i < i2.2 → j < (r.orders.getD i default).choices.length → 0 ≤ ((r.orders.getD i default).choices.getD j default).by_ ∧ ((r.orders.getD i default).choices.getD j default).by_ < 5) ∧ (∀ i, i < i2.2 → (r.orders.getD i default).choices.length ≤ 22 ∧ (r.orders.getD i default).rules.length ≤ 22)) (fun i2 => r.orders.length - i2.2) (([], 0) : (List ByteArray) × Nat)
 (fun (i2 : (List ByteArray) × Nat) => ⟨[(3, ow 100001 i2.1), (4, iv (i2.2 : Int))], [(100001, rowB 9 1 strC i2.1)]⟩) fun i2 =>
 .bnd 1 4 r.orders.length <|
 .br (decide ((i2.2 : Int) < ((r.orders.length : Nat) : Int)))
 (.r 7 (.andl (.p (ixP (i2.2 : Int) r.orders.length)) (.andl (.o [.nrm (litC strE [(r.orders.getD i2.2 default).name])]) (.andl (.o [.nrm (catC strE i2.1 [(r.orders.getD i2.2 default).name])]) (.andl (.t (strE.ones [(r.orders.getD i2.2 default).name])) (.p (szP i2.1.length [(r.orders.getD i2.2 default).name].length 16)))))) fun _ =>
 .r 8 ((R09_named_k (i2.1 ++ [(r.orders.getD i2.2 default).name]) (i2.2 : Int)).c) fun x3 =>
 .br (x3 != 0)
 (.fin (.inl (.inl x3)))
 (.r 11 (.andl (.p (ixP (i2.2 : Int) r.orders.length)) ((R09_RightOrder_k (r.orders.getD i2.2 default)).c)) fun x4 =>
 .br (!x4)
 (.fin (.inl (.inl 1)))
 (.r 6 .z fun _ =>
 .wi 4 (w64 ((i2.2 : Int) + 1)) ((i2.2 + 1 : Nat) : Int) <|
 .fin (.inr (i2.1 ++ [(r.orders.getD i2.2 default).name], i2.2 + 1)))))
 (.fin (.inl (.inr ()))))
 (fun (_ : Unit) => ⟨[], []⟩) fun _ =>
 .fin 0)
noncomputable def R09_orders (r : Realm) : Int := (R09_orders_sk r).val
theorem R09_orders_pst (r : Realm) : (R09_orders_sk r).pst (fun (x : Int) => x = 0 → r.ByOK ∧ r.orders.length ≤ 20 ∧ (∀ i, i < r.orders.length → (r.orders.getD i default).choices.length ≤ 22 ∧ (r.orders.getD i default).rules.length ≤ 22)) := by
 unfold R09_orders_sk
 try simp only [R09_RightOrder_k, R09_named_k, Realm.ByOK]
 exact okP
theorem R09_orders_post (r : Realm) : (fun (x : Int) => x = 0 → r.ByOK ∧ r.orders.length ≤ 20 ∧ (∀ i, i < r.orders.length → (r.orders.getD i default).choices.length ≤ 22 ∧ (r.orders.getD i default).rules.length ≤ 22)) (R09_orders r) := have h := Sk.pval _ (R09_orders_pst r); h
theorem R09_orders_ok (r : Realm) : (R09_orders_sk r).obs (fun _ => True) := by
 unfold R09_orders_sk
 try simp only [R09_RightOrder_k, R09_named_k, Realm.ByOK]
 exact okD
noncomputable def R09_orders_k (r : Realm) : Ctr (Int) := kk tok mixed Tryz.func72 [av r.cells] (fun x => iv x) true (R09_orders_sk r) (R09_orders r) (fun (_ : True) => R09_orders_ok r) (fun (x : Int) => x = 0 → r.ByOK ∧ r.orders.length ≤ 20 ∧ (∀ i, i < r.orders.length → (r.orders.getD i default).choices.length ≤ 22 ∧ (r.orders.getD i default).rules.length ≤ 22)) (R09_orders_post r)
noncomputable def R09_usances_sk (r : Realm) : Sk (Int) :=
 .br (decide (((r.usances.length : Nat) : Int) > 100))
 (.fin 6)
 (.bind true (fun _ => True)
 (.loop (default : Sum (Int) (Unit)) (fun i2 => i2 ≤ r.usances.length) (fun i2 => r.usances.length - i2) (0 : Nat)
 (fun (i2 : Nat) => ⟨[(3, iv (i2 : Int))], []⟩) fun i2 =>
 .bnd 1 5 r.usances.length <|
 .br (decide ((i2 : Int) < ((r.usances.length : Nat) : Int)))
 (.bind true (fun _ => True)
 (.r 6 (.p (ixP (i2 : Int) r.usances.length)) fun _ =>
 .r 7 (.dep ((R09_Within_k ((r.usances.getD i2 default).from_) 0 (w64 (((r.cities.length : Nat) : Int) - 1))).c) fun x4 => .dep (.wh (!x4) false ((R09_Within_k ((r.usances.getD i2 default).to_) 0 (w64 (((r.cities.length : Nat) : Int) - 1))).c)) fun x5 => .wh ((!x4) || (!x5)) false ((R09_Within_k ((r.usances.getD i2 default).days) 1 20000).c)) fun p9 =>
 .br (((!p9.1) || (!p9.2.1)) || (!p9.2.2))
 (.fin (.inl (.inl (.inl 1))))
 (.bind true (fun _ => True)
 (.loop (default : Sum (Sum (Sum (Sum (Int) (Unit)) (Nat)) (Int × (List Usance) × Int × Usance × Int × (List City) × Int × Int × Bool × Bool × Bool × Bool × Bool × Bool × Int × Int × Bool)) (Int × Int × Int × Bool)) (fun i8 => i8 ≤ i2) (fun i8 => i2 - i8) (0 : Nat)
 (fun (i8 : Nat) => ⟨[(5, iv (i8 : Int))], []⟩) fun i8 =>
 .br (decide ((i8 : Int) < (i2 : Int)))
 (.r 12 (.andl (.p (ixP (i8 : Int) r.usances.length)) (.wh (((r.usances.getD i8 default).from_) == ((r.usances.getD i2 default).from_)) true (.p (ixP (i8 : Int) r.usances.length)))) fun _ =>
 .br ((((r.usances.getD i8 default).from_) == ((r.usances.getD i2 default).from_)) && (((r.usances.getD i8 default).to_) == ((r.usances.getD i2 default).to_)))
 (.fin (.inl (.inl (.inl (.inl (.inl 5))))))
 (.r 11 .z fun _ =>
 .wi 5 (w64 ((i8 : Int) + 1)) ((i8 + 1 : Nat) : Int) <|
 .fin (.inr (i8 + 1))))
 (.fin (.inl (.inr ((i8 : Int), (i8 : Int), (i2 : Int), decide ((i8 : Int) < (i2 : Int)))))))
 (fun (b7 : Int × Int × Int × Bool) => ⟨[(5, iv b7.1), (46, iv b7.2.1), (47, iv b7.2.2.1), (48, bv b7.2.2.2)], []⟩) fun b7 =>
 .fin (.inr (b7.1, r.usances, (i2 : Int), r.usances.getD i2 default, (r.usances.getD i2 default).from_, r.cities, ((r.cities.length : Nat) : Int), w64 (((r.cities.length : Nat) : Int) - 1), p9.1, !p9.1, !p9.1, (!p9.1) || (!p9.2.1), (!p9.1) || (!p9.2.1), ((!p9.1) || (!p9.2.1)) || (!p9.2.2), b7.2.1, b7.2.2.1, b7.2.2.2))))
 (fun (b3 : Int × (List Usance) × Int × Usance × Int × (List City) × Int × Int × Bool × Bool × Bool × Bool × Bool × Bool × Int × Int × Bool) => ⟨[(5, iv b3.1), (18, lv Usance.cells b3.2.1), (19, iv b3.2.2.1), (21, av b3.2.2.2.1.cells), (23, iv b3.2.2.2.2.1), (25, lv City.cells b3.2.2.2.2.2.1), (26, iv b3.2.2.2.2.2.2.1), (27, iv b3.2.2.2.2.2.2.2.1), (28, bv b3.2.2.2.2.2.2.2.2.1), (29, bv b3.2.2.2.2.2.2.2.2.2.1), (30, bv b3.2.2.2.2.2.2.2.2.2.2.1), (39, bv b3.2.2.2.2.2.2.2.2.2.2.2.1), (40, bv b3.2.2.2.2.2.2.2.2.2.2.2.2.1), (45, bv b3.2.2.2.2.2.2.2.2.2.2.2.2.2.1), (46, iv b3.2.2.2.2.2.2.2.2.2.2.2.2.2.2.1), (47, iv b3.2.2.2.2.2.2.2.2.2.2.2.2.2.2.2.1), (48, bv b3.2.2.2.2.2.2.2.2.2.2.2.2.2.2.2.2)], []⟩) fun _ =>
 .r 5 .z fun _ =>
 .wi 3 (w64 ((i2 : Int) + 1)) ((i2 + 1 : Nat) : Int) <|
 .fin (.inr (i2 + 1)))
 (.fin (.inl (.inr ()))))
 (fun (_ : Unit) => ⟨[], []⟩) fun _ =>
 .fin 0)
noncomputable def R09_usances (r : Realm) : Int := (R09_usances_sk r).val
theorem R09_usances_pst (r : Realm) : (R09_usances_sk r).pst (fun (x : Int) => x = 0 → r.usances.length ≤ 100) := by
 unfold R09_usances_sk
 try simp only [R09_Within_k, R09_Within_eq]
 exact okQ
theorem R09_usances_post (r : Realm) : (fun (x : Int) => x = 0 → r.usances.length ≤ 100) (R09_usances r) := have h := Sk.pval _ (R09_usances_pst r); h
theorem R09_usances_ok (r : Realm) : (R09_usances_sk r).obs (fun _ => True) := by
 unfold R09_usances_sk
 try simp only [R09_Within_k, R09_Within_eq]
 exact okG
noncomputable def R09_usances_k (r : Realm) : Ctr (Int) := kk tok mixed Tryz.func73 [av r.cells] (fun x => iv x) true (R09_usances_sk r) (R09_usances r) (fun (_ : True) => R09_usances_ok r) (fun (x : Int) => x = 0 → r.usances.length ≤ 100) (R09_usances_post r)
noncomputable def R09_others_sk (r : Realm) : Sk (Int) :=
 .br (decide (((r.rates.length : Nat) : Int) > 100))
 (.fin 6)
 (.bind true (fun b1 => r.RateOK)
 (.loop (default : Sum (Int) (Unit)) (fun i2 => i2 ≤ r.rates.length ∧ (∀ i, i < i2 → (1 ≤ (r.rates.getD i default).num ∧ (r.rates.getD i default).num ≤ 1073741824) ∧ 1 ≤ (r.rates.getD i default).den ∧ (r.rates.getD i default).den ≤ 1073741824)) (fun i2 => r.rates.length - i2) (0 : Nat)
 (fun (i2 : Nat) => ⟨[(3, iv (i2 : Int))], []⟩) fun i2 =>
 .bnd 1 6 r.rates.length <|
 .br (decide ((i2 : Int) < ((r.rates.length : Nat) : Int)))
 (.r 6 (.p (ixP (i2 : Int) r.rates.length)) fun _ =>
 .r 7 (.dep ((R09_Within_k ((r.rates.getD i2 default).from_) 0 (w64 (((r.currencies.length : Nat) : Int) - 1))).c) fun x3 => .wh (!x3) false ((R09_Within_k ((r.rates.getD i2 default).to_) 0 (w64 (((r.currencies.length : Nat) : Int) - 1))).c)) fun p9 =>
 .br (((!p9.1) || (!p9.2)) || (((r.rates.getD i2 default).from_) == ((r.rates.getD i2 default).to_)))
 (.fin (.inl (.inl 1)))
 (.r 9 (.dep ((R09_Within_k ((r.rates.getD i2 default).num) 1 1073741824).c) fun x5 => .dep (.wh (!x5) false ((R09_Within_k ((r.rates.getD i2 default).den) 1 1073741824).c)) fun x6 => .wh ((!x5) || (!x6)) false ((R09_Within_k ((r.rates.getD i2 default).since) 0 100000).c)) fun p8 =>
 .br (((!p8.1) || (!p8.2.1)) || (!p8.2.2))
 (.fin (.inl (.inl 1)))
 (.r 5 .z fun _ =>
 .wi 3 (w64 ((i2 : Int) + 1)) ((i2 + 1 : Nat) : Int) <|
 .fin (.inr (i2 + 1)))))
 (.fin (.inl (.inr ()))))
 (fun (_ : Unit) => ⟨[], []⟩) fun _ =>
 .br (decide (((r.halts.length : Nat) : Int) > 20))
 (.fin 6)
 (.bind true (fun b10 => r.HaltOK)
 (.loop (default : Sum (Int) (Unit)) (fun i11 => i11 ≤ r.halts.length ∧ (∀ i, i < i11 → (r.halts.getD i default).to_ ≤ 100000)) (fun i11 => r.halts.length - i11) (0 : Nat)
 (fun (i11 : Nat) => ⟨[(5, iv (i11 : Int))], []⟩) fun i11 =>
 .bnd 1 7 r.halts.length <|
 .br (decide ((i11 : Int) < ((r.halts.length : Nat) : Int)))
 (.r 16 (.p (ixP (i11 : Int) r.halts.length)) fun _ =>
 .r 17 (.dep ((R09_Within_k ((r.halts.getD i11 default).order) 0 (w64 (((r.orders.length : Nat) : Int) - 1))).c) fun x12 => .wh (!x12) false ((R09_Within_k ((r.halts.getD i11 default).from_) 0 ((r.halts.getD i11 default).to_)).c)) fun p14 =>
 .br (((!p14.1) || (!p14.2)) || (decide (((r.halts.getD i11 default).to_) > 100000)))
 (.fin (.inl (.inl 1)))
 (.r 15 .z fun _ =>
 .wi 5 (w64 ((i11 : Int) + 1)) ((i11 + 1 : Nat) : Int) <|
 .fin (.inr (i11 + 1))))
 (.fin (.inl (.inr ()))))
 (fun (_ : Unit) => ⟨[], []⟩) fun _ =>
 .fin 0))
noncomputable def R09_others (r : Realm) : Int := (R09_others_sk r).val
theorem R09_others_pst (r : Realm) : (R09_others_sk r).pst (fun (x : Int) => x = 0 → r.rates.length ≤ 100 ∧ r.halts.length ≤ 20 ∧ r.RateOK ∧ r.HaltOK) := by
 unfold R09_others_sk
 try simp only [R09_Within_k, R09_Within_eq, Realm.HaltOK, Realm.RateOK]
 exact okQ
theorem R09_others_post (r : Realm) : (fun (x : Int) => x = 0 → r.rates.length ≤ 100 ∧ r.halts.length ≤ 20 ∧ r.RateOK ∧ r.HaltOK) (R09_others r) := have h := Sk.pval _ (R09_others_pst r); h
theorem R09_others_ok (r : Realm) : (R09_others_sk r).obs (fun _ => True) := by
 unfold R09_others_sk
 try simp only [R09_Within_k, R09_Within_eq, Realm.HaltOK, Realm.RateOK]
 exact okG
noncomputable def R09_others_k (r : Realm) : Ctr (Int) := kk tok mixed Tryz.func74 [av r.cells] (fun x => iv x) true (R09_others_sk r) (R09_others r) (fun (_ : True) => R09_others_ok r) (fun (x : Int) => x = 0 → r.rates.length ≤ 100 ∧ r.halts.length ≤ 20 ∧ r.RateOK ∧ r.HaltOK) (R09_others_post r)
noncomputable def R09_Check_sk (r : Realm) : Sk (Int) :=
 .r 1 ((R09_cities_k r).c) fun x1 =>
 .bind false (fun b2 => b2 = 0 → r.currencies.length ≤ 8 ∧ r.cities.length ≤ 40 ∧ r.groups.length ≤ 20 ∧ r.firms.length ≤ 200 ∧ r.FirmOK)
 (.br (x1 == 0)
 (.r 3 ((R09_firms_k r).c) fun x3 =>
 .fin (.inr x3))
 (.fin (.inr x1)))
 (fun (b2 : Int) => ⟨[(3, iv b2)], []⟩) fun b2 =>
 .bind false (fun b4 => b4 = 0 → r.currencies.length ≤ 8 ∧ r.cities.length ≤ 40 ∧ r.groups.length ≤ 20 ∧ r.firms.length ≤ 200 ∧ r.FirmOK ∧ r.ByOK ∧ r.orders.length ≤ 20 ∧ (∀ i, i < r.orders.length → (r.orders.getD i default).choices.length ≤ 22 ∧ (r.orders.getD i default).rules.length ≤ 22))
 (.br (b2 == 0)
 (.r 5 ((R09_orders_k r).c) fun x5 =>
 .fin (.inr x5))
 (.fin (.inr b2)))
 (fun (b4 : Int) => ⟨[(3, iv b4)], []⟩) fun b4 =>
 .bind false (fun b6 => b6 = 0 → r.currencies.length ≤ 8 ∧ r.cities.length ≤ 40 ∧ r.groups.length ≤ 20 ∧ r.firms.length ≤ 200 ∧ r.FirmOK ∧ r.ByOK ∧ r.orders.length ≤ 20 ∧ (∀ i, i < r.orders.length → (r.orders.getD i default).choices.length ≤ 22 ∧ (r.orders.getD i default).rules.length ≤ 22) ∧ r.usances.length ≤ 100)
 (.br (b4 == 0)
 (.r 7 ((R09_usances_k r).c) fun x7 =>
 .fin (.inr x7))
 (.fin (.inr b4)))
 (fun (b6 : Int) => ⟨[(3, iv b6)], []⟩) fun b6 =>
 .br (b6 == 0)
 (.r 9 ((R09_others_k r).c) fun x8 =>
 .fin x8)
 (.fin b6)
noncomputable def R09_Check (r : Realm) : Int := (R09_Check_sk r).val
theorem R09_Check_pst (r : Realm) : (R09_Check_sk r).pst (fun (x : Int) => x = 0 → r.currencies.length ≤ 8 ∧ r.cities.length ≤ 40 ∧ r.groups.length ≤ 20 ∧ r.firms.length ≤ 200 ∧ r.FirmOK ∧ r.ByOK ∧ r.orders.length ≤ 20 ∧ (∀ i, i < r.orders.length → (r.orders.getD i default).choices.length ≤ 22 ∧ (r.orders.getD i default).rules.length ≤ 22) ∧ r.usances.length ≤ 100 ∧ r.rates.length ≤ 100 ∧ r.halts.length ≤ 20 ∧ r.RateOK ∧ r.HaltOK) := by
 refine Sk.pst_of _ ?_
 unfold R09_Check_sk
 simp only [Sk.pstq, Sk.isLoop, reduceCtorEq, ON, kk, R09_cities_k, R09_firms_k, R09_orders_k, R09_others_k, R09_usances_k, maxLen]
 intro x _ hx
 refine ⟨⟨fun h y _ hy h0 => ?_, fun h h0 => ?_⟩, fun b _ hb => ⟨⟨fun h y _ hy h0 => ?_, fun h h0 => ?_⟩, fun b2 _ hb2 => ⟨⟨fun h y _ hy h0 => ?_, fun h h0 => ?_⟩, fun b3 _ hb3 => ⟨fun h y _ hy h0 => ?_, fun h h0 => ?_⟩⟩⟩⟩
 ·have hx := hx (by simpa using h); have hy := hy hx.2 h0; exact ⟨hx.1, hx.2, hy⟩
 ·rw [h0] at h; exact absurd h (by decide)
 ·have hb := hb (by simpa using h); exact ⟨hb.1, hb.2.1, hb.2.2.1, hb.2.2.2.1, hb.2.2.2.2, hy h0⟩
 ·rw [h0] at h; exact absurd h (by decide)
 ·have hb := hb2 (by simpa using h); exact ⟨hb.1, hb.2.1, hb.2.2.1, hb.2.2.2.1, hb.2.2.2.2.1, hb.2.2.2.2.2.1, hb.2.2.2.2.2.2.1, hb.2.2.2.2.2.2.2, hy h0⟩
 ·rw [h0] at h; exact absurd h (by decide)
 ·have hb := hb3 (by simpa using h); exact ⟨hb.1, hb.2.1, hb.2.2.1, hb.2.2.2.1, hb.2.2.2.2.1, hb.2.2.2.2.2.1, hb.2.2.2.2.2.2.1, hb.2.2.2.2.2.2.2.1, hb.2.2.2.2.2.2.2.2, hy h0⟩
 ·rw [h0] at h; exact absurd h (by decide)
theorem R09_Check_post (r : Realm) : (fun (x : Int) => x = 0 → r.currencies.length ≤ 8 ∧ r.cities.length ≤ 40 ∧ r.groups.length ≤ 20 ∧ r.firms.length ≤ 200 ∧ r.FirmOK ∧ r.ByOK ∧ r.orders.length ≤ 20 ∧ (∀ i, i < r.orders.length → (r.orders.getD i default).choices.length ≤ 22 ∧ (r.orders.getD i default).rules.length ≤ 22) ∧ r.usances.length ≤ 100 ∧ r.rates.length ≤ 100 ∧ r.halts.length ≤ 20 ∧ r.RateOK ∧ r.HaltOK) (R09_Check r) := have h := Sk.pval _ (R09_Check_pst r); h
theorem R09_Check_ok (r : Realm) : (R09_Check_sk r).obs (fun _ => True) := by
 refine Sk.obs_of _ ?_
 unfold R09_Check_sk
 simp only [Sk.obq, Sk.isLoop, reduceCtorEq, ON, kk, R09_cities_k, R09_firms_k, R09_orders_k, R09_others_k, R09_usances_k, maxLen]
 intro x _ hx
 refine ⟨⟨fun h y _ hy h0 => ?_, fun h h0 => ?_⟩, fun b _ hb => ⟨⟨fun h y _ hy h0 => ?_, fun h h0 => ?_⟩, fun b2 _ hb2 => ⟨fun h y _ hy h0 => ?_, fun h h0 => ?_⟩⟩⟩
 ·have hx := hx (by simpa using h); have hy := hy hx.2 h0; exact ⟨hx.1, hx.2, hy⟩
 ·rw [h0] at h; exact absurd h (by decide)
 ·have hb := hb (by simpa using h); exact ⟨hb.1, hb.2.1, hb.2.2.1, hb.2.2.2.1, hb.2.2.2.2, hy h0⟩
 ·rw [h0] at h; exact absurd h (by decide)
 ·have hb := hb2 (by simpa using h); exact ⟨hb.1, hb.2.1, hb.2.2.1, hb.2.2.2.1, hb.2.2.2.2.1, hb.2.2.2.2.2.1, hb.2.2.2.2.2.2.1, hb.2.2.2.2.2.2.2, hy h0⟩
 ·rw [h0] at h; exact absurd h (by decide)
noncomputable def R09_Check_k (r : Realm) : Ctr (Int) := kk tok mixed Tryz.func32 [av r.cells] (fun x => iv x) true (R09_Check_sk r) (R09_Check r) (fun (_ : True) => R09_Check_ok r) (fun (x : Int) => x = 0 → r.currencies.length ≤ 8 ∧ r.cities.length ≤ 40 ∧ r.groups.length ≤ 20 ∧ r.firms.length ≤ 200 ∧ r.FirmOK ∧ r.ByOK ∧ r.orders.length ≤ 20 ∧ (∀ i, i < r.orders.length → (r.orders.getD i default).choices.length ≤ 22 ∧ (r.orders.getD i default).rules.length ≤ 22) ∧ r.usances.length ≤ 100 ∧ r.rates.length ≤ 100 ∧ r.halts.length ≤ 20 ∧ r.RateOK ∧ r.HaltOK) (R09_Check_post r)
noncomputable def R10_at_sk (n : Int) (length : Int) : Sk (Bool) :=
 .fin ((decide (n ≥ 0)) && (decide (n < length)))
noncomputable def R10_at (n : Int) (length : Int) : Bool := (R10_at_sk n length).val
theorem R10_at_eq (n : Int) (length : Int) : R10_at n length = ((decide (n ≥ 0)) && (decide (n < length))) := rfl
theorem R10_at_ok (n : Int) (length : Int) : (R10_at_sk n length).obs (fun _ => True) := by
 unfold R10_at_sk
 exact okE
noncomputable def R10_at_k (n : Int) (length : Int) : Ctr (Bool) := kk tok mixed Tryz.func138 [iv n, iv length] (fun x => bv x) true (R10_at_sk n length) (R10_at n length) (fun (_ : True) => R10_at_ok n length)
noncomputable def R10_none_sk (n : Int) (length : Int) : Sk (Bool) :=
 .r 1 (.wh (n == (-1)) false ((R10_at_k n length).c)) fun x1 =>
 .fin ((n == (-1)) || x1)
noncomputable def R10_none (n : Int) (length : Int) : Bool := (R10_none_sk n length).val
theorem R10_none_ok (n : Int) (length : Int) : (R10_none_sk n length).obs (fun _ => True) := by
 unfold R10_none_sk
 try simp only [R10_at_k, R10_at_eq]
 exact okG
noncomputable def R10_none_k (n : Int) (length : Int) : Ctr (Bool) := kk tok mixed Tryz.func139 [iv n, iv length] (fun x => bv x) true (R10_none_sk n length) (R10_none n length) (fun (_ : True) => R10_none_ok n length)
noncomputable def R04_Valid_sk (day : Int) : Sk (Bool) :=
 .fin ((decide (day ≥ 0)) && (decide (day ≤ 100000)))
noncomputable def R04_Valid (day : Int) : Bool := (R04_Valid_sk day).val
theorem R04_Valid_eq (day : Int) : R04_Valid day = ((decide (day ≥ 0)) && (decide (day ≤ 100000))) := rfl
theorem R04_Valid_ok (day : Int) : (R04_Valid_sk day).obs (fun _ => True) := by
 unfold R04_Valid_sk
 exact okE
noncomputable def R04_Valid_k (day : Int) : Ctr (Bool) := kk tok mixed Tryz.func140 [iv day] (fun x => bv x) true (R04_Valid_sk day) (R04_Valid day) (fun (_ : True) => R04_Valid_ok day)
noncomputable def R10_Tenor_sk (b : Bill) : Sk (Bool) :=
 .br ((b.tenor.kind == 0) || (b.tenor.kind == 4))
 (.fin ((b.tenor.n == 0) && (b.tenor.unit == 0)))
 (.br ((b.tenor.kind == 1) || (b.tenor.kind == 2))
 (.fin (((decide (b.tenor.n ≥ 1)) && (decide (b.tenor.n ≤ 400))) && ((b.tenor.unit == 0) || (b.tenor.unit == 1))))
 (.fin ((((b.tenor.kind == 3) && (decide (b.tenor.n ≥ b.day))) && (decide (b.tenor.n ≤ 100000))) && (b.tenor.unit == 0))))
noncomputable def R10_Tenor (b : Bill) : Bool := (R10_Tenor_sk b).val
theorem R10_Tenor_ok (b : Bill) : (R10_Tenor_sk b).obs (fun _ => True) := by
 unfold R10_Tenor_sk
 exact okE
noncomputable def R10_Tenor_k (b : Bill) : Ctr (Bool) := kk tok mixed Tryz.func141 [av b.cells] (fun x => bv x) true (R10_Tenor_sk b) (R10_Tenor b) (fun (_ : True) => R10_Tenor_ok b)
noncomputable def R09_Usance_sk (r : Realm) (from_ : Int) (to_ : Int) : Sk (Int × Int) :=
 .bind true (fun _ => True)
 (.loop (default : Sum (Int × Int) (Unit)) (fun i2 => i2 ≤ r.usances.length) (fun i2 => r.usances.length - i2) (0 : Nat)
 (fun (i2 : Nat) => ⟨[(8, iv (i2 : Int))], []⟩) fun i2 =>
 .bnd 3 5 r.usances.length <|
 .br (decide ((i2 : Int) < ((r.usances.length : Nat) : Int)))
 (.r 4 (.andl (.p (ixP (i2 : Int) r.usances.length)) (.wh (((r.usances.getD i2 default).from_) == from_) true (.p (ixP (i2 : Int) r.usances.length)))) fun _ =>
 .br ((((r.usances.getD i2 default).from_) == from_) && (((r.usances.getD i2 default).to_) == to_))
 (.r 5 (.p (ixP (i2 : Int) r.usances.length)) fun _ =>
 .fin (.inl (.inl ((r.usances.getD i2 default).days, 0))))
 (.r 3 .z fun _ =>
 .wi 8 (w64 ((i2 : Int) + 1)) ((i2 + 1 : Nat) : Int) <|
 .fin (.inr (i2 + 1))))
 (.fin (.inl (.inr ()))))
 (fun (_ : Unit) => ⟨[], []⟩) fun _ =>
 .fin (0, 4)
noncomputable def R09_Usance (r : Realm) (from_ : Int) (to_ : Int) : Int × Int := (R09_Usance_sk r from_ to_).val
theorem R09_Usance_ok (r : Realm) (from_ : Int) (to_ : Int) : (R09_Usance_sk r from_ to_).obs (fun _ => True) := by
 unfold R09_Usance_sk
 exact okD
noncomputable def R09_Usance_k (r : Realm) (from_ : Int) (to_ : Int) : Ctr (Int × Int) := kk tok mixed Tryz.func142 [av r.cells, iv from_, iv to_] (fun x => .tup [iv x.1, iv x.2]) true (R09_Usance_sk r from_ to_) (R09_Usance r from_ to_) (fun (_ : True) => R09_Usance_ok r from_ to_)
noncomputable def R10_Check_sk (r : Realm) (b : Bill) : Sk (Int) :=
 .r 1 ((R09_Check_k r).c) fun x1 =>
 .br (x1 != 0)
 (.fin x1)
 (.r 6 (.dep ((R10_at_k b.drawer ((r.firms.length : Nat) : Int)).c) fun x2 => .dep (.wh (!x2) false ((R10_at_k b.drawee ((r.firms.length : Nat) : Int)).c)) fun x3 => .dep (.wh ((!x2) || (!x3)) false ((R10_none_k b.payee ((r.firms.length : Nat) : Int)).c)) fun x4 => .dep (.wh (((!x2) || (!x3)) || (!x4)) false ((R10_none_k b.need ((r.firms.length : Nat) : Int)).c)) fun x5 => .dep (.wh ((((!x2) || (!x3)) || (!x4)) || (!x5)) false ((R10_at_k b.currency ((r.currencies.length : Nat) : Int)).c)) fun x6 => .dep (.wh (((((!x2) || (!x3)) || (!x4)) || (!x5)) || (!x6)) false ((R10_at_k b.city ((r.cities.length : Nat) : Int)).c)) fun x7 => .wh ((((((!x2) || (!x3)) || (!x4)) || (!x5)) || (!x6)) || (!x7)) false ((R10_at_k b.pay ((r.cities.length : Nat) : Int)).c)) fun p12 =>
 .br (((((((!p12.1) || (!p12.2.1)) || (!p12.2.2.1)) || (!p12.2.2.2.1)) || (!p12.2.2.2.2.1)) || (!p12.2.2.2.2.2.1)) || (!p12.2.2.2.2.2.2))
 (.fin 1)
 (.r 8 (.wh ((decide (b.sum < 1)) || (decide (b.sum > 1099511627776))) false ((R04_Valid_k b.day).c)) fun x9 =>
 .br (((((decide (b.sum < 1)) || (decide (b.sum > 1099511627776))) || (!x9)) || (decide (b.rate < 0))) || (decide (b.rate > 1000)))
 (.fin 3)
 (.br ((decide (b.parts < 1)) || (decide (b.parts > 4)))
 (.fin 15)
 (.r 12 (.wh (((decide (b.flags < 0)) || (decide (b.flags > 7))) || ((b.payee == (-1)) && ((andK .i64 b.flags 4) != 0))) false ((R10_Tenor_k b).c)) fun x10 =>
 .br ((((decide (b.flags < 0)) || (decide (b.flags > 7))) || ((b.payee == (-1)) && ((andK .i64 b.flags 4) != 0))) || (!x10))
 (.fin 2)
 (.br (b.tenor.kind != 4)
 (.fin 0)
 (.r 16 ((R09_Usance_k r b.city b.pay).c) fun x11 =>
 .fin x11.2))))))
noncomputable def R10_Check (r : Realm) (b : Bill) : Int := (R10_Check_sk r b).val
theorem R10_Check_pst (r : Realm) (b : Bill) : (R10_Check_sk r b).pst (fun (x : Int) => x = 0 → BillR r b) := by
 refine Sk.pst_of _ ?_
 unfold R10_Check_sk
 simp (maxSteps := 2000000) only [Sk.pstq, Sk.isLoop, reduceCtorEq, ON, kk, R04_Valid_k, R09_Check_k, R09_Usance_k, R10_Tenor_k, R10_at_k, R10_none_k, R04_Valid_eq, R10_at_eq, forall_eq, Realm.ByOK, Realm.HaltOK, Realm.FirmOK, Realm.RateOK, maxLen]
 all_goals (repeat' first | assumption | (apply And.intro) | (intro h))
 all_goals first | trivial | assumption | omega | ((try simp only [LN] at *) <;> first | omega | (refine (w64_id ?_ ?_).trans ?_ <;> omega) | (simp (disch := omega) only [w64_id] at *; omega) | (grind) | (simp_all; done) | (simp_all; omega))
theorem R10_Check_post (r : Realm) (b : Bill) : (fun (x : Int) => x = 0 → BillR r b) (R10_Check r b) := have h := Sk.pval _ (R10_Check_pst r b); h
theorem R10_Check_ok (r : Realm) (b : Bill) : (R10_Check_sk r b).obs (fun _ => True) := by
 refine Sk.obs_of _ ?_
 unfold R10_Check_sk
 simp (maxSteps := 2000000) only [Sk.obq, Sk.isLoop, reduceCtorEq, ON, kk, R04_Valid_k, R09_Check_k, R09_Usance_k, R10_Tenor_k, R10_at_k, R10_none_k, R04_Valid_eq, R10_at_eq, forall_eq, Realm.ByOK, Realm.HaltOK, Realm.FirmOK, Realm.RateOK, maxLen]
noncomputable def R10_Check_k (r : Realm) (b : Bill) : Ctr (Int) := kk tok mixed Tryz.func75 [av r.cells, av b.cells] (fun x => iv x) true (R10_Check_sk r b) (R10_Check r b) (fun (_ : True) => R10_Check_ok r b) (fun (x : Int) => x = 0 → BillR r b) (R10_Check_post r b)
noncomputable def R12_On_sk (f : File) (i : Int) (part : Int) : Sk (Bool) :=
 .r 1 (.wh (i == 0) false (.p (ixP i f.signs.length))) fun _ =>
 .fin ((i == 0) || (((f.signs.getD i.toNat default).part) == part))
noncomputable def R12_On (f : File) (i : Int) (part : Int) : Bool := (R12_On_sk f i part).val
theorem R12_On_ok (f : File) (i : Int) (part : Int) (hs : i = 0 ∨ (0 ≤ i ∧ i < (f.signs.length : Int))) : (R12_On_sk f i part).obs (fun _ => True) := by
 unfold R12_On_sk
 exact okD
noncomputable def R12_On_k (f : File) (i : Int) (part : Int) : Ctr (Bool) := kk tok mixed Tryz.func199 [av f.cells, iv i, iv part] (fun x => bv x) true (R12_On_sk f i part) (R12_On f i part) (fun (h : (i = 0 ∨ (0 ≤ i ∧ i < (f.signs.length : Int)))) => R12_On_ok f i part h)
noncomputable def R12_backs_sk (f : File) (i : Int) : Sk (Bool) :=
 .r 1 (.p (ixP i f.signs.length)) fun _ =>
 .r 2 (.dep ((R09_Within_k ((f.signs.getD i.toNat default).for_) 0 (w64 (i - 1))).c) fun x1 => .andl (.wh x1 true (.p (ixP i f.signs.length))) (.wh x1 true ((R12_On_k f ((f.signs.getD i.toNat default).for_) ((f.signs.getD i.toNat default).part)).c))) fun p3 =>
 .fin (p3.1 && p3.2)
noncomputable def R12_backs (f : File) (i : Int) : Bool := (R12_backs_sk f i).val
theorem R12_backs_pst (f : File) (i : Int) (hP : (0 ≤ i ∧ i < (f.signs.length : Int)) ∧ f.signs.length ≤ 40) : (R12_backs_sk f i).pst (fun (x : Bool) => x = true → 0 ≤ (f.signs.getD i.toNat default).for_ ∧ (f.signs.getD i.toNat default).for_ < i) := by
 unfold R12_backs_sk
 try simp only [R09_Within_k, R12_On_k, R09_Within_eq]
 exact okQ
theorem R12_backs_post (f : File) (i : Int) : (fun (x : Bool) => ((0 ≤ i ∧ i < (f.signs.length : Int)) ∧ f.signs.length ≤ 40) → (x = true → 0 ≤ (f.signs.getD i.toNat default).for_ ∧ (f.signs.getD i.toNat default).for_ < i)) (R12_backs f i) := fun hP => Sk.pval _ (R12_backs_pst f i hP)
theorem R12_backs_ok (f : File) (i : Int) (hs : 0 ≤ i ∧ i < (f.signs.length : Int)) (hn : f.signs.length ≤ 40) : (R12_backs_sk f i).obs (fun _ => True) := by
 unfold R12_backs_sk
 try simp only [R09_Within_k, R12_On_k, R09_Within_eq]
 exact okG
noncomputable def R12_backs_k (f : File) (i : Int) : Ctr (Bool) := kk tok mixed Tryz.func198 [av f.cells, iv i] (fun x => bv x) true (R12_backs_sk f i) (R12_backs f i) (fun (h : (0 ≤ i ∧ i < (f.signs.length : Int)) ∧ (f.signs.length ≤ 40)) => R12_backs_ok f i h.1 h.2) (fun (x : Bool) => ((0 ≤ i ∧ i < (f.signs.length : Int)) ∧ f.signs.length ≤ 40) → (x = true → 0 ≤ (f.signs.getD i.toNat default).for_ ∧ (f.signs.getD i.toNat default).for_ < i)) (R12_backs_post f i)
noncomputable def R12_Fits_sk (r : Realm) (f : File) (i : Int) : Sk (Bool) :=
 .r 1 (.p (ixP i f.signs.length)) fun _ =>
 .r 2 ((R09_Within_k ((f.signs.getD i.toNat default).sum) 1 1099511627776).c) fun x1 =>
 .br (((f.signs.getD i.toNat default).kind) == 0)
 (.fin ((((((((i == 0) && (((f.signs.getD i.toNat default).who) == f.bill.drawer)) && (((f.signs.getD i.toNat default).for_) == (-1))) && (((f.signs.getD i.toNat default).to_) == (-1))) && (((f.signs.getD i.toNat default).sum) == 0)) && ((((f.signs.getD i.toNat default).flags) == 0) || (((f.signs.getD i.toNat default).flags) == 1))) && (((f.signs.getD i.toNat default).part) == 0)) && (((f.signs.getD i.toNat default).city) == f.bill.city)))
 (.br (((f.signs.getD i.toNat default).kind) == 1)
 (.fin ((((((decide (i > 0)) && (((f.signs.getD i.toNat default).who) == f.bill.drawee)) && (((f.signs.getD i.toNat default).for_) == (-1))) && (((f.signs.getD i.toNat default).to_) == (-1))) && x1) && (((f.signs.getD i.toNat default).flags) == 0)))
 (.br (((f.signs.getD i.toNat default).kind) == 2)
 (.r 9 (.andl (.p ((2 : Int) ≠ 0)) (.p ((2 : Int) ≠ 0))) fun _ =>
 .r 10 (.andl (.p ((4 : Int) ≠ 0)) (.p ((2 : Int) ≠ 0))) fun _ =>
 .r 11 (.dep (.wh ((decide (i > 0)) && (((f.signs.getD i.toNat default).for_) == (-1))) true ((R09_Within_k ((f.signs.getD i.toNat default).to_) (-1) (w64 (((r.firms.length : Nat) : Int) - 1))).c)) fun x2 => .wh ((((decide (i > 0)) && (((f.signs.getD i.toNat default).for_) == (-1))) && x2) && (((f.signs.getD i.toNat default).sum) == 0)) true ((R09_Within_k ((f.signs.getD i.toNat default).flags) 0 7).c)) fun p4 =>
 .fin ((((((decide (i > 0)) && (((f.signs.getD i.toNat default).for_) == (-1))) && p4.1) && (((f.signs.getD i.toNat default).sum) == 0)) && p4.2) && (!((((w64 (((f.signs.getD i.toNat default).flags).tdiv 2)).tmod 2) == 1) && (((w64 (((f.signs.getD i.toNat default).flags).tdiv 4)).tmod 2) == 1)))))
 (.br (((f.signs.getD i.toNat default).kind) == 3)
 (.r 13 (.wh ((((i == 0) || (((f.signs.getD i.toNat default).to_) != (-1))) || (((f.signs.getD i.toNat default).sum) != 0)) || (((f.signs.getD i.toNat default).flags) != 0)) false ((R12_backs_k f i).c)) fun x5 =>
 .br (((((i == 0) || (((f.signs.getD i.toNat default).to_) != (-1))) || (((f.signs.getD i.toNat default).sum) != 0)) || (((f.signs.getD i.toNat default).flags) != 0)) || (!x5))
 (.fin false)
 (.r 15 (.p (ixP ((f.signs.getD i.toNat default).for_) f.signs.length)) fun _ =>
 .fin (((f.signs.getD (((f.signs.getD i.toNat default).for_).toNat) default).kind) != 3)))
 (.br (((f.signs.getD i.toNat default).kind) == 4)
 (.r 17 (.wh (((((i == 0) || (((f.signs.getD i.toNat default).to_) != (-1))) || (!x1)) || (((f.signs.getD i.toNat default).flags) != 0)) || (((f.signs.getD i.toNat default).who) == f.bill.drawee)) false ((R12_backs_k f i).c)) fun x6 =>
 .br ((((((i == 0) || (((f.signs.getD i.toNat default).to_) != (-1))) || (!x1)) || (((f.signs.getD i.toNat default).flags) != 0)) || (((f.signs.getD i.toNat default).who) == f.bill.drawee)) || (!x6))
 (.fin false)
 (.r 19 (.andl (.p (ixP ((f.signs.getD i.toNat default).for_) f.signs.length)) (.wh (((f.signs.getD (((f.signs.getD i.toNat default).for_).toNat) default).kind) == 0) false (.p (ixP ((f.signs.getD i.toNat default).for_) f.signs.length)))) fun _ =>
 .fin ((((f.signs.getD (((f.signs.getD i.toNat default).for_).toNat) default).kind) == 0) || (((f.signs.getD (((f.signs.getD i.toNat default).for_).toNat) default).kind) == 2))))
 (.fin false)))))
noncomputable def R12_Fits (r : Realm) (f : File) (i : Int) : Bool := (R12_Fits_sk r f i).val
theorem R12_Fits_pst (r : Realm) (f : File) (i : Int) (hP : (0 ≤ i ∧ i < (f.signs.length : Int)) ∧ f.signs.length ≤ 40) : (R12_Fits_sk r f i).pst (fun (x : Bool) => x = true → FitOK f i.toNat) := by
 unfold R12_Fits_sk
 try simp only [R09_Within_k, R12_backs_k, R09_Within_eq]
 exact okQ
theorem R12_Fits_post (r : Realm) (f : File) (i : Int) : (fun (x : Bool) => ((0 ≤ i ∧ i < (f.signs.length : Int)) ∧ f.signs.length ≤ 40) → (x = true → FitOK f i.toNat)) (R12_Fits r f i) := fun hP => Sk.pval _ (R12_Fits_pst r f i hP)
theorem R12_Fits_ok (r : Realm) (f : File) (i : Int) (hs : 0 ≤ i ∧ i < (f.signs.length : Int)) (hn : f.signs.length ≤ 40) : (R12_Fits_sk r f i).obs (fun _ => True) := by
 unfold R12_Fits_sk
 try simp only [R09_Within_k, R12_backs_k, R09_Within_eq]
 exact okG
noncomputable def R12_Fits_k (r : Realm) (f : File) (i : Int) : Ctr (Bool) := kk tok mixed Tryz.func143 [av r.cells, av f.cells, iv i] (fun x => bv x) true (R12_Fits_sk r f i) (R12_Fits r f i) (fun (h : (0 ≤ i ∧ i < (f.signs.length : Int)) ∧ (f.signs.length ≤ 40)) => R12_Fits_ok r f i h.1 h.2) (fun (x : Bool) => ((0 ≤ i ∧ i < (f.signs.length : Int)) ∧ f.signs.length ≤ 40) → (x = true → FitOK f i.toNat)) (R12_Fits_post r f i)
noncomputable def R12_signs_sk (r : Realm) (f : File) (i : Int) : Sk (Int) :=
 .r 1 (.p (ixP i f.signs.length)) fun _ =>
 .r 2 ((R09_Within_k ((f.signs.getD i.toNat default).part) 0 (w64 (f.bill.parts - 1))).c) fun x1 =>
 .br (!x1)
 (.fin 15)
 (.r 4 (.dep ((R09_Within_k ((f.signs.getD i.toNat default).who) 0 (w64 (((r.firms.length : Nat) : Int) - 1))).c) fun x2 => .wh (!x2) false ((R09_Within_k ((f.signs.getD i.toNat default).city) 0 (w64 (((r.cities.length : Nat) : Int) - 1))).c)) fun p8 =>
 .br ((!p8.1) || (!p8.2))
 (.fin 1)
 (.br (((i == 0) && (((f.signs.getD i.toNat default).day) != f.bill.day)) || (decide (((f.signs.getD i.toNat default).day) > 100000)))
 (.fin 13)
 (.bind false (fun b4 => i > 0 → (f.signs.getD (w64 (i - 1)).toNat default).day ≤ (f.signs.getD i.toNat default).day)
 (.br (decide (i > 0))
 (.r 9 (.p (ixP (w64 (i - 1)) f.signs.length)) fun _ =>
 .br (decide (((f.signs.getD i.toNat default).day) < ((f.signs.getD ((w64 (i - 1)).toNat) default).day)))
 (.fin (.inl 13))
 (.fin (.inr ())))
 (.fin (.inr ())))
 (fun (_ : Unit) => ⟨[], []⟩) fun _ =>
 .r 11 ((R12_Fits_k r f i).c) fun x5 =>
 .br (!x5)
 (.fin 14)
 (.bind true (fun _ => True)
 (.loop (default : Sum (Int) (Unit)) (fun i7 => 0 ≤ i7 ∧ i7 ≤ i) (fun i7 => (i - i7).toNat) (0 : Int)
 (fun (i7 : Int) => ⟨[(8, iv i7)], []⟩) fun i7 =>
 .br ((decide (i7 < i)) && (((f.signs.getD i.toNat default).kind) == 1))
 (.r 16 (.andl (.p (ixP i7 f.signs.length)) (.wh (((f.signs.getD i7.toNat default).kind) == 1) true (.p (ixP i7 f.signs.length)))) fun _ =>
 .br ((((f.signs.getD i7.toNat default).kind) == 1) && (((f.signs.getD i7.toNat default).part) == ((f.signs.getD i.toNat default).part)))
 (.fin (.inl (.inl 5)))
 (.fin (.inr (w64 (i7 + 1)))))
 (.fin (.inl (.inr ()))))
 (fun (_ : Unit) => ⟨[], []⟩) fun _ =>
 .fin 0))))
noncomputable def R12_signs (r : Realm) (f : File) (i : Int) : Int := (R12_signs_sk r f i).val
theorem R12_signs_pst (r : Realm) (f : File) (i : Int) (hP : (0 ≤ i ∧ i < (f.signs.length : Int)) ∧ f.signs.length ≤ 40 ∧ r.firms.length ≤ 200 ∧ BillR r f.bill) : (R12_signs_sk r f i).pst (fun (x : Int) => x = 0 → SgnOK r f i.toNat) := by
 refine Sk.pst_of _ ?_
 unfold R12_signs_sk
 simp only [Sk.pstq, Sk.isLoop, reduceCtorEq, ON, kk, R09_Within_k, R12_Fits_k, R09_Within_eq, forall_eq, maxLen]
 intro _
 obtain ⟨hi, hn, hr, hB⟩ := hP
 have hB2 := hB.2.2.2.1
 refine ⟨fun _ h => absurd h (by decide), fun h1 => ⟨fun _ h => absurd h (by decide), fun h2 => ⟨fun _ h => absurd h (by decide), fun h3 => ⟨⟨fun h4 _ => ⟨fun _ h => absurd h (by decide), fun h5 _ => by simpa using h5⟩, fun h4 h => ?_⟩, fun _ _ h6 hF => ⟨fun _ h => absurd h (by decide), fun h7 => ⟨⟨⟨by omega, by omega⟩, fun k hk hc _ => ⟨fun _ h => absurd h (by decide), fun _ => ?_⟩⟩, fun _ => ?_⟩⟩⟩⟩⟩⟩
 ·simp only [LN] at h4; omega
 ·simp only [LN] at hc
  rw [w64_id (by omega) (by omega)]
  omega
 ·have hF := hF ⟨hi, hn⟩ (by simpa using h7)
  simp only [LN] at h1 h2 h3
  rw [w64_id (n := f.bill.parts - 1) (by omega) (by omega)] at h1
  rw [w64_id (n := (r.firms.length : Int) - 1) (by omega) (by omega)] at h2
  refine ⟨by omega, fun h0 => ?_, by omega, fun h0 => ?_, by omega, hF⟩
  ·have := h6 (by omega)
   rw [w64_id (by omega) (by omega), show (i - 1).toNat = i.toNat - 1 by omega] at this
   exact this
  ·rcases h3.1 with h | h
   ·omega
   ·exact h
theorem R12_signs_post (r : Realm) (f : File) (i : Int) : (fun (x : Int) => ((0 ≤ i ∧ i < (f.signs.length : Int)) ∧ f.signs.length ≤ 40 ∧ r.firms.length ≤ 200 ∧ BillR r f.bill) → (x = 0 → SgnOK r f i.toNat)) (R12_signs r f i) := fun hP => Sk.pval _ (R12_signs_pst r f i hP)
theorem R12_signs_ok (r : Realm) (f : File) (i : Int) (hs : 0 ≤ i ∧ i < (f.signs.length : Int)) (hn : f.signs.length ≤ 40) : (R12_signs_sk r f i).obs (fun _ => True) := by
 unfold R12_signs_sk
 try simp only [R09_Within_k, R12_Fits_k, R09_Within_eq]
 exact okG
noncomputable def R12_signs_k (r : Realm) (f : File) (i : Int) : Ctr (Int) := kk tok mixed Tryz.func76 [av r.cells, av f.cells, iv i] (fun x => iv x) true (R12_signs_sk r f i) (R12_signs r f i) (fun (h : (0 ≤ i ∧ i < (f.signs.length : Int)) ∧ (f.signs.length ≤ 40)) => R12_signs_ok r f i h.1 h.2) (fun (x : Int) => ((0 ≤ i ∧ i < (f.signs.length : Int)) ∧ f.signs.length ≤ 40 ∧ r.firms.length ≤ 200 ∧ BillR r f.bill) → (x = 0 → SgnOK r f i.toNat)) (R12_signs_post r f i)
noncomputable def R12_Acted_sk (r : Realm) (f : File) (a : ActX) : Sk (Bool) :=
 .r 1 ((R09_Within_k a.who 0 (w64 (((r.firms.length : Nat) : Int) - 1))).c) fun x1 =>
 .br (!x1)
 (.fin false)
 (.r 3 ((R09_Within_k a.to_ 0 (w64 (((r.firms.length : Nat) : Int) - 1))).c) fun x2 =>
 .r 4 ((R09_Within_k a.sum 0 1099511627776).c) fun x3 =>
 .r 5 ((R09_Within_k a.at_ 0 (w64 (((f.signs.length : Nat) : Int) - 1))).c) fun x4 =>
 .bind false (fun b5 => b5 = true → 0 ≤ a.at_ ∧ a.at_ < (f.signs.length : Int))
 (.br x4
 (.r 7 ((R12_On_k f a.at_ a.part).c) fun x6 =>
 .fin (.inr x6))
 (.fin (.inr x4)))
 (fun (b5 : Bool) => ⟨[(9, bv b5)], []⟩) fun b5 =>
 .bind false (fun b7 => b7 = true → (0 ≤ a.at_ ∧ a.at_ < (f.signs.length : Int)) ∧ (f.signs.getD a.at_.toNat default).who = a.who)
 (.br b5
 (.r 10 (.p (ixP a.at_ f.signs.length)) fun _ =>
 .fin (.inr (((f.signs.getD a.at_.toNat default).who) == a.who)))
 (.fin (.inr false)))
 (fun (b7 : Bool) => ⟨[(10, bv b7)], []⟩) fun b7 =>
 .bind false (fun _ => True)
 (.br (a.kind == 0)
 (.fin (.inr (a.kind == 0)))
 (.br (a.kind == 1)
 (.fin (.inr (a.kind == 1)))
 (.fin (.inr (a.kind == 2)))))
 (fun (b8 : Bool) => ⟨[(56, bv b8)], []⟩) fun b8 =>
 .br b8
 (.fin (((x2 && (a.at_ == (-1))) && (a.sum == 0)) && (a.form == 0)))
 (.bind false (fun _ => True)
 (.br (a.kind == 3)
 (.fin (.inr (a.kind == 3)))
 (.fin (.inr (a.kind == 5))))
 (fun (b9 : Bool) => ⟨[(76, bv b9)], []⟩) fun b9 =>
 .br b9
 (.fin (((x2 && (a.at_ == (-1))) && x3) && (a.form == 0)))
 (.br (a.kind == 4)
 (.fin (((x2 && (a.at_ == (-1))) && x3) && ((a.form == 0) || (a.form == 1))))
 (.br (a.kind == 6)
 (.fin ((((x2 && b7) && x3) && (decide (a.sum > 0))) && (a.form == 0)))
 (.br (a.kind == 9)
 (.fin ((((a.to_ == (-1)) && b7) && (a.sum == 0)) && (a.form == 0)))
 (.bind false (fun _ => True)
 (.br (a.kind == 7)
 (.fin (.inr (a.kind == 7)))
 (.fin (.inr (a.kind == 8))))
 (fun (b10 : Bool) => ⟨[(151, bv b10)], []⟩) fun b10 =>
 .br b10
 (.fin ((((a.to_ == (-1)) && b5) && (a.sum == 0)) && (a.form == 0)))
 (.fin false)))))))
noncomputable def R12_Acted (r : Realm) (f : File) (a : ActX) : Bool := (R12_Acted_sk r f a).val
theorem R12_Acted_pst (r : Realm) (f : File) (a : ActX) (hP : f.signs.length ≤ 40) : (R12_Acted_sk r f a).pst (fun (x : Bool) => x = true → SumP a.sum ∧ a.at_ < (f.signs.length : Int) ∧ (a.kind = 6 → 0 ≤ a.at_ ∧ (f.signs.getD a.at_.toNat default).who = a.who)) := by
 unfold R12_Acted_sk
 try simp only [R09_Within_k, R12_On_k, R09_Within_eq]
 exact okQ
theorem R12_Acted_post (r : Realm) (f : File) (a : ActX) : (fun (x : Bool) => (f.signs.length ≤ 40) → (x = true → SumP a.sum ∧ a.at_ < (f.signs.length : Int) ∧ (a.kind = 6 → 0 ≤ a.at_ ∧ (f.signs.getD a.at_.toNat default).who = a.who))) (R12_Acted r f a) := fun hP => Sk.pval _ (R12_Acted_pst r f a hP)
theorem R12_Acted_ok (r : Realm) (f : File) (a : ActX) (hn : f.signs.length ≤ 40) : (R12_Acted_sk r f a).obs (fun _ => True) := by
 unfold R12_Acted_sk
 try simp only [R09_Within_k, R12_On_k, R09_Within_eq]
 exact okG
noncomputable def R12_Acted_k (r : Realm) (f : File) (a : ActX) : Ctr (Bool) := kk tok mixed Tryz.func144 [av r.cells, av f.cells, av a.cells] (fun x => bv x) true (R12_Acted_sk r f a) (R12_Acted r f a) (fun (h : (f.signs.length ≤ 40)) => R12_Acted_ok r f a h) (fun (x : Bool) => (f.signs.length ≤ 40) → (x = true → SumP a.sum ∧ a.at_ < (f.signs.length : Int) ∧ (a.kind = 6 → 0 ≤ a.at_ ∧ (f.signs.getD a.at_.toNat default).who = a.who))) (R12_Acted_post r f a)
noncomputable def R12_acts_sk (r : Realm) (f : File) (i : Int) : Sk (Int) :=
 .r 1 (.p (ixP i f.acts.length)) fun _ =>
 .r 2 ((R09_Within_k ((f.acts.getD i.toNat default).part) 0 (w64 (f.bill.parts - 1))).c) fun x1 =>
 .br (!x1)
 (.fin 15)
 (.r 4 (.dep ((R09_Within_k ((f.acts.getD i.toNat default).city) 0 (w64 (((r.cities.length : Nat) : Int) - 1))).c) fun x2 => .wh (!x2) false ((R09_Within_k ((f.acts.getD i.toNat default).kind) 0 9).c)) fun p6 =>
 .br ((!p6.1) || (!p6.2))
 (.fin 1)
 (.r 6 ((R12_Acted_k r f (f.acts.getD i.toNat default)).c) fun x4 =>
 .br (!x4)
 (.fin 14)
 (.br ((decide (((f.acts.getD i.toNat default).day) < f.bill.day)) || (decide (((f.acts.getD i.toNat default).day) > 100000)))
 (.fin 13)
 (.bind false (fun b5 => 0 ≤ (f.acts.getD i.toNat default).at_ → (f.signs.getD (f.acts.getD i.toNat default).at_.toNat default).day ≤ (f.acts.getD i.toNat default).day)
 (.br (decide (((f.acts.getD i.toNat default).at_) ≥ 0))
 (.r 11 (.p (ixP ((f.acts.getD i.toNat default).at_) f.signs.length)) fun _ =>
 .br (decide (((f.acts.getD i.toNat default).day) < ((f.signs.getD (((f.acts.getD i.toNat default).at_).toNat) default).day)))
 (.fin (.inl 13))
 (.fin (.inr ())))
 (.fin (.inr ())))
 (fun (_ : Unit) => ⟨[], []⟩) fun _ =>
 .br (decide (i > 0))
 (.r 14 (.p (ixP (w64 (i - 1)) f.acts.length)) fun _ =>
 .br (decide (((f.acts.getD i.toNat default).day) < ((f.acts.getD ((w64 (i - 1)).toNat) default).day)))
 (.fin 13)
 (.fin 0))
 (.fin 0)))))
noncomputable def R12_acts (r : Realm) (f : File) (i : Int) : Int := (R12_acts_sk r f i).val
theorem R12_acts_pst (r : Realm) (f : File) (i : Int) (hP : (0 ≤ i ∧ i < (f.acts.length : Int)) ∧ f.signs.length ≤ 40 ∧ f.acts.length ≤ 100) : (R12_acts_sk r f i).pst (fun (x : Int) => x = 0 → DoneOK f i.toNat) := by
 refine Sk.pst_of _ ?_
 unfold R12_acts_sk
 simp only [Sk.pstq, Sk.isLoop, reduceCtorEq, ON, kk, R09_Within_k, R12_Acted_k, R09_Within_eq, forall_eq, maxLen]
 intro _
 refine ⟨fun _ h => absurd h (by decide), fun h1 => ⟨fun _ h => absurd h (by decide), fun h2 hA => ⟨fun _ h => absurd h (by decide), fun h3 => ⟨fun _ h => absurd h (by decide), fun h4 => ⟨⟨fun _ _ => ⟨fun _ h => absurd h (by decide), fun hd _ => by simp only [LN] at hd; exact hd⟩, fun h0 h => by simp only [LN] at h0; omega⟩, fun _ _ hday => ⟨fun h5 _ => ⟨fun _ h => absurd h (by decide), fun h6 => ?_⟩, fun h5 => ?_⟩⟩⟩⟩⟩⟩
 all_goals have hA := hA hP.2.1 (by simpa using h3)
 all_goals simp only [LN] at h4 h5
 ·simp only [LN] at h6
  rw [w64_id (by omega) (by omega), show (i - 1).toNat = i.toNat - 1 by omega] at h6
  exact ⟨hA.1, by omega, fun _ => h6, fun hk => ⟨⟨(hA.2.2 hk).1, hA.2.1⟩, hday (hA.2.2 hk).1, (hA.2.2 hk).2⟩⟩
 ·exact ⟨hA.1, by omega, fun h => by omega, fun hk => ⟨⟨(hA.2.2 hk).1, hA.2.1⟩, hday (hA.2.2 hk).1, (hA.2.2 hk).2⟩⟩
theorem R12_acts_post (r : Realm) (f : File) (i : Int) : (fun (x : Int) => ((0 ≤ i ∧ i < (f.acts.length : Int)) ∧ f.signs.length ≤ 40 ∧ f.acts.length ≤ 100) → (x = 0 → DoneOK f i.toNat)) (R12_acts r f i) := fun hP => Sk.pval _ (R12_acts_pst r f i hP)
theorem R12_acts_ok (r : Realm) (f : File) (i : Int) (hs : 0 ≤ i ∧ i < (f.acts.length : Int)) (hn : f.signs.length ≤ 40) (ha : f.acts.length ≤ 100) : (R12_acts_sk r f i).obs (fun _ => True) := by
 unfold R12_acts_sk
 try simp only [R09_Within_k, R12_Acted_k, R09_Within_eq]
 exact okG
noncomputable def R12_acts_k (r : Realm) (f : File) (i : Int) : Ctr (Int) := kk tok mixed Tryz.func78 [av r.cells, av f.cells, iv i] (fun x => iv x) true (R12_acts_sk r f i) (R12_acts r f i) (fun (h : (0 ≤ i ∧ i < (f.acts.length : Int)) ∧ (f.signs.length ≤ 40) ∧ (f.acts.length ≤ 100)) => R12_acts_ok r f i h.1 h.2.1 h.2.2) (fun (x : Int) => ((0 ≤ i ∧ i < (f.acts.length : Int)) ∧ f.signs.length ≤ 40 ∧ f.acts.length ≤ 100) → (x = 0 → DoneOK f i.toNat)) (R12_acts_post r f i)
noncomputable def R12_facts_sk (f : File) (i : Int) : Sk (Int) :=
 .r 1 (.p (ixP i f.facts.length)) fun _ =>
 .r 2 (.dep ((R09_Within_k ((f.facts.getD i.toNat default).kind) 0 4).c) fun x1 => .dep (.wh (!x1) false ((R09_Within_k ((f.facts.getD i.toNat default).at_) 0 (w64 (((f.signs.length : Nat) : Int) - 1))).c)) fun x2 => .wh ((!x1) || (!x2)) false ((R09_Within_k ((f.facts.getD i.toNat default).n) 0 1).c)) fun p4 =>
 .br (((!p4.1) || (!p4.2.1)) || (!p4.2.2))
 (.fin 1)
 (.br (decide (i > 0))
 (.r 5 (.p (ixP (w64 (i - 1)) f.facts.length)) fun _ =>
 .br ((decide (((f.facts.getD ((w64 (i - 1)).toNat) default).at_) > ((f.facts.getD i.toNat default).at_))) || ((((f.facts.getD ((w64 (i - 1)).toNat) default).at_) == ((f.facts.getD i.toNat default).at_)) && (decide (((f.facts.getD ((w64 (i - 1)).toNat) default).kind) ≥ ((f.facts.getD i.toNat default).kind)))))
 (.fin 5)
 (.fin 0))
 (.fin 0))
noncomputable def R12_facts (f : File) (i : Int) : Int := (R12_facts_sk f i).val
theorem R12_facts_ok (f : File) (i : Int) (hs : 0 ≤ i ∧ i < (f.facts.length : Int)) (ha : f.facts.length ≤ 200) : (R12_facts_sk f i).obs (fun _ => True) := by
 unfold R12_facts_sk
 try simp only [R09_Within_k, R09_Within_eq]
 exact okG
noncomputable def R12_facts_k (f : File) (i : Int) : Ctr (Int) := kk tok mixed Tryz.func79 [av f.cells, iv i] (fun x => iv x) true (R12_facts_sk f i) (R12_facts f i) (fun (h : (0 ≤ i ∧ i < (f.facts.length : Int)) ∧ (f.facts.length ≤ 200)) => R12_facts_ok f i h.1 h.2)
noncomputable def R12_Check_sk (r : Realm) (f : File) : Sk (Int) :=
 .br ((((decide (((f.signs.length : Nat) : Int) > 40)) || (decide (((f.alters.length : Nat) : Int) > 4))) || (decide (((f.acts.length : Nat) : Int) > 100))) || (decide (((f.facts.length : Nat) : Int) > 200)))
 (.fin 6)
 (.r 3 ((R10_Check_k r f.bill).c) fun x1 =>
 .bind false (fun b2 => b2 = 0 → BillR r f.bill ∧ f.signs.length ≠ 0)
 (.br ((x1 == 0) && (((f.signs.length : Nat) : Int) == 0))
 (.fin (.inr 14))
 (.fin (.inr x1)))
 (fun (b2 : Int) => ⟨[(5, iv b2)], []⟩) fun b2 =>
 .bind true (fun b3 => b3 = 0 → BillR r f.bill ∧ f.signs.length ≠ 0 ∧ (r.firms.length ≤ 200 → (∀ q, q < f.signs.length → SgnOK r f q)))
 (.loop (default : Sum (Int) (Int)) (fun i4 => i4.2 ≤ f.signs.length ∧ (i4.1 = 0 → BillR r f.bill ∧ f.signs.length ≠ 0 ∧ (r.firms.length ≤ 200 → (∀ q, q < i4.2 → SgnOK r f q)))) (fun i4 => f.signs.length - i4.2) ((b2, 0) : Int × Nat)
 (fun (i4 : Int × Nat) => ⟨[(5, iv i4.1), (6, iv (i4.2 : Int))], []⟩) fun i4 =>
 .bnd 3 15 f.signs.length <|
 .br ((decide ((i4.2 : Int) < ((f.signs.length : Nat) : Int))) && (i4.1 == 0))
 (.r 9 ((R12_signs_k r f (i4.2 : Int)).c) fun x5 =>
 .r 8 .z fun _ =>
 .wi 6 (w64 ((i4.2 : Int) + 1)) ((i4.2 + 1 : Nat) : Int) <|
 .fin (.inr (x5, i4.2 + 1)))
 (.fin (.inl (.inr i4.1))))
 (fun (b3 : Int) => ⟨[(5, iv b3)], []⟩) fun b3 =>
 .bind true (fun b6 => b6 = 0 → BillR r f.bill ∧ f.signs.length ≠ 0 ∧ (r.firms.length ≤ 200 → (∀ q, q < f.signs.length → SgnOK r f q)) ∧ (∀ q, q < f.alters.length → SumP (f.alters.getD q default).sum))
 (.loop (default : Sum (Int) (Int)) (fun i7 => i7.2 ≤ f.alters.length ∧ (i7.1 = 0 → BillR r f.bill ∧ f.signs.length ≠ 0 ∧ (r.firms.length ≤ 200 → (∀ q, q < f.signs.length → SgnOK r f q)) ∧ (∀ q, q < i7.2 → SumP (f.alters.getD q default).sum))) (fun i7 => f.alters.length - i7.2) ((b3, 0) : Int × Nat)
 (fun (i7 : Int × Nat) => ⟨[(5, iv i7.1), (7, iv (i7.2 : Int))], []⟩) fun i7 =>
 .bnd 3 16 f.alters.length <|
 .br ((decide ((i7.2 : Int) < ((f.alters.length : Nat) : Int))) && (i7.1 == 0))
 (.bind false (fun _ => True)
 (.br (decide ((i7.2 : Int) > 0))
 (.r 15 (.p (ixP (w64 ((i7.2 : Int) - 1)) f.alters.length)) fun _ =>
 .fin (.inr (w64 (((f.alters.getD ((w64 ((i7.2 : Int) - 1)).toNat) default).at_) + 1))))
 (.fin (.inr 1)))
 (fun (b8 : Int) => ⟨[(8, iv b8)], []⟩) fun b8 =>
 .r 16 (.andl (.p (ixP (i7.2 : Int) f.alters.length)) ((R09_Within_k ((f.alters.getD i7.2 default).at_) b8 ((f.signs.length : Nat) : Int)).c)) fun x9 =>
 .br (!x9)
 (.r 12 .z fun _ =>
 .wi 7 (w64 ((i7.2 : Int) + 1)) ((i7.2 + 1 : Nat) : Int) <|
 .fin (.inr (1, i7.2 + 1)))
 (.r 18 (.andl (.p (ixP (i7.2 : Int) f.alters.length)) ((R09_Within_k ((f.alters.getD i7.2 default).sum) 1 1099511627776).c)) fun x10 =>
 .br (!x10)
 (.r 12 .z fun _ =>
 .wi 7 (w64 ((i7.2 : Int) + 1)) ((i7.2 + 1 : Nat) : Int) <|
 .fin (.inr (3, i7.2 + 1)))
 (.r 12 .z fun _ =>
 .wi 7 (w64 ((i7.2 : Int) + 1)) ((i7.2 + 1 : Nat) : Int) <|
 .fin (.inr (i7.1, i7.2 + 1)))))
 (.fin (.inl (.inr i7.1))))
 (fun (b6 : Int) => ⟨[(5, iv b6)], []⟩) fun b6 =>
 .bind true (fun b11 => b11 = 0 → BillR r f.bill ∧ f.signs.length ≠ 0 ∧ (r.firms.length ≤ 200 → (∀ q, q < f.signs.length → SgnOK r f q)) ∧ (∀ q, q < f.alters.length → SumP (f.alters.getD q default).sum) ∧ (∀ q, q < f.acts.length → DoneOK f q))
 (.loop (default : Sum (Int) (Int)) (fun i12 => i12.2 ≤ f.acts.length ∧ (i12.1 = 0 → BillR r f.bill ∧ f.signs.length ≠ 0 ∧ (r.firms.length ≤ 200 → (∀ q, q < f.signs.length → SgnOK r f q)) ∧ (∀ q, q < f.alters.length → SumP (f.alters.getD q default).sum) ∧ (∀ q, q < i12.2 → DoneOK f q))) (fun i12 => f.acts.length - i12.2) ((b6, 0) : Int × Nat)
 (fun (i12 : Int × Nat) => ⟨[(5, iv i12.1), (9, iv (i12.2 : Int))], []⟩) fun i12 =>
 .bnd 3 17 f.acts.length <|
 .br ((decide ((i12.2 : Int) < ((f.acts.length : Nat) : Int))) && (i12.1 == 0))
 (.r 23 ((R12_acts_k r f (i12.2 : Int)).c) fun x13 =>
 .r 22 .z fun _ =>
 .wi 9 (w64 ((i12.2 : Int) + 1)) ((i12.2 + 1 : Nat) : Int) <|
 .fin (.inr (x13, i12.2 + 1)))
 (.fin (.inl (.inr i12.1))))
 (fun (b11 : Int) => ⟨[(5, iv b11)], []⟩) fun b11 =>
 .bind true (fun b14 => b14 = 0 → BillR r f.bill ∧ f.signs.length ≠ 0 ∧ (r.firms.length ≤ 200 → (∀ q, q < f.signs.length → SgnOK r f q)) ∧ (∀ q, q < f.alters.length → SumP (f.alters.getD q default).sum) ∧ (∀ q, q < f.acts.length → DoneOK f q))
 (.loop (default : Sum (Int) (Int)) (fun i15 => i15.2 ≤ f.facts.length ∧ (i15.1 = 0 → BillR r f.bill ∧ f.signs.length ≠ 0 ∧ (r.firms.length ≤ 200 → (∀ q, q < f.signs.length → SgnOK r f q)) ∧ (∀ q, q < f.alters.length → SumP (f.alters.getD q default).sum) ∧ (∀ q, q < f.acts.length → DoneOK f q))) (fun i15 => f.facts.length - i15.2) ((b11, 0) : Int × Nat)
 (fun (i15 : Int × Nat) => ⟨[(5, iv i15.1), (10, iv (i15.2 : Int))], []⟩) fun i15 =>
 .bnd 3 18 f.facts.length <|
 .br ((decide ((i15.2 : Int) < ((f.facts.length : Nat) : Int))) && (i15.1 == 0))
 (.r 27 ((R12_facts_k f (i15.2 : Int)).c) fun x16 =>
 .r 26 .z fun _ =>
 .wi 10 (w64 ((i15.2 : Int) + 1)) ((i15.2 + 1 : Nat) : Int) <|
 .fin (.inr (x16, i15.2 + 1)))
 (.fin (.inl (.inr i15.1))))
 (fun (b14 : Int) => ⟨[(5, iv b14)], []⟩) fun b14 =>
 .fin b14)
noncomputable def R12_Check (r : Realm) (f : File) : Int := (R12_Check_sk r f).val
theorem R12_Check_pst (r : Realm) (f : File) (hP : r.firms.length ≤ 200) : (R12_Check_sk r f).pst (fun (x : Int) => x = 0 → RightF r f) := by
 refine Sk.pst_of _ ?_
 unfold R12_Check_sk
 simp only [Sk.pstq, Sk.isLoop, reduceCtorEq, ON, kk, R09_Within_k, R10_Check_k, R12_acts_k, R12_facts_k, R12_signs_k, R09_Within_eq, forall_eq, maxLen]
 have ext : ∀ {P : Nat → Prop} {i : Nat}, (∀ q, q < i → P q) → P i → ∀ q, q < i + 1 → P q := fun h h2 q hq => (Nat.lt_succ_iff_lt_or_eq.1 hq).elim (h q) (fun e => e ▸ h2)
 refine ⟨fun _ h => absurd h (by decide), fun hb hB => ?_⟩
 simp only [LN] at hb
 refine ⟨⟨fun _ h => absurd h (by decide), fun h0 h => ⟨hB h, fun e => ?_⟩⟩, fun b1 _ hb1 => ⟨⟨⟨Nat.zero_le _, fun h => ⟨(hb1 h).1, (hb1 h).2, fun _ q hq => absurd hq (by omega)⟩⟩, fun i hi => ⟨fun hc hs _ => ?_, fun hc h => ?_⟩⟩, fun b2 hb2 => ⟨⟨⟨Nat.zero_le _, fun h => ⟨(hb2 h).1, (hb2 h).2.1, (hb2 h).2.2, fun q hq => absurd hq (by omega)⟩⟩, fun i hi => ⟨fun hc b _ => ⟨fun _ _ => ?_, fun _ => ⟨fun _ _ => ?_, fun hs _ => ?_⟩⟩, fun hc h => ?_⟩⟩, fun b3 hb3 => ⟨⟨⟨Nat.zero_le _, fun h => ⟨(hb3 h).1, (hb3 h).2.1, (hb3 h).2.2.1, (hb3 h).2.2.2, fun q hq => absurd hq (by omega)⟩⟩, fun i hi => ⟨fun hc hs _ => ?_, fun hc h => ?_⟩⟩, fun b4 hb4 => ⟨⟨⟨Nat.zero_le _, hb4⟩, fun i hi => ⟨fun hc _ => ?_, fun _ h => hi.2 h⟩⟩, fun b5 hb5 h => ?_⟩⟩⟩⟩⟩
 ·simp [e, h] at h0
 ·simp only [LN] at hc
  obtain ⟨a1, a2, a3⟩ := hi.2 hc.2
  exact ⟨⟨by omega, fun h => ⟨a1, a2, fun hr => ext (a3 hr) (hs ⟨⟨by omega, by omega⟩, by omega, hr, a1⟩ h)⟩⟩, by omega⟩
 ·simp only [LN] at hc
  have e : i.2 = f.signs.length := by omega
  exact e ▸ hi.2 h
 ·simp only [LN] at hc
  exact ⟨⟨by omega, fun h => absurd h (by decide)⟩, by omega⟩
 ·simp only [LN] at hc
  exact ⟨⟨by omega, fun h => absurd h (by decide)⟩, by omega⟩
 ·simp only [LN] at hc hs
  obtain ⟨a1, a2, a3, a4⟩ := hi.2 hc.2
  exact ⟨⟨by omega, fun h => ⟨a1, a2, a3, ext a4 ⟨by omega, by omega⟩⟩⟩, by omega⟩
 ·simp only [LN] at hc
  have e : i.2 = f.alters.length := by omega
  exact e ▸ hi.2 h
 ·simp only [LN] at hc
  obtain ⟨a1, a2, a3, a4, a5⟩ := hi.2 hc.2
  exact ⟨⟨by omega, fun h => ⟨a1, a2, a3, a4, ext a5 (hs ⟨⟨by omega, by omega⟩, by omega, by omega⟩ h)⟩⟩, by omega⟩
 ·simp only [LN] at hc
  have e : i.2 = f.acts.length := by omega
  exact e ▸ hi.2 h
 ·simp only [LN] at hc
  exact ⟨⟨by omega, fun _ => hi.2 hc.2⟩, by omega⟩
 ·obtain ⟨a1, a2, a3, a4, a5⟩ := hb5 h
  exact ⟨a1, ⟨by omega, a2, by omega, by omega, by omega⟩, a3 hP, a4, a5⟩
theorem R12_Check_post (r : Realm) (f : File) : (fun (x : Int) => (r.firms.length ≤ 200) → (x = 0 → RightF r f)) (R12_Check r f) := fun hP => Sk.pval _ (R12_Check_pst r f hP)
theorem R12_Check_ok (r : Realm) (f : File) : (R12_Check_sk r f).obs (fun _ => True) := by
 refine Sk.obs_of _ ?_
 unfold R12_Check_sk
 simp only [Sk.obq, Sk.isLoop, reduceCtorEq, ON, kk, R09_Within_k, R10_Check_k, R12_acts_k, R12_facts_k, R12_signs_k, R09_Within_eq, forall_eq, maxLen]
 have ext : ∀ {P : Nat → Prop} {i : Nat}, (∀ q, q < i → P q) → P i → ∀ q, q < i + 1 → P q := fun h h2 q hq => (Nat.lt_succ_iff_lt_or_eq.1 hq).elim (h q) (fun e => e ▸ h2)
 have w1 : ∀ i n : Nat, i < n → n ≤ 200 → w64 ((i : Int) + 1) = ((i + 1 : Nat) : Int) := fun i n h h2 => (w64_id (by omega) (by omega)).trans (by omega)
 refine fun hb hB => ?_
 simp only [LN] at hb
 refine ⟨⟨fun _ h => absurd h (by decide), fun h0 h => ⟨hB h, fun e => ?_⟩⟩, fun b1 _ hb1 => ⟨⟨⟨Nat.zero_le _, fun h => ⟨(hb1 h).1, (hb1 h).2, fun _ q hq => absurd hq (by omega)⟩⟩, fun i hi hm => ⟨fun hc => ⟨?_, fun hs _ => ⟨?_, ?_⟩⟩, fun hc h => ?_⟩⟩, fun b2 hb2 => ⟨⟨⟨Nat.zero_le _, fun h => ⟨(hb2 h).1, (hb2 h).2.1, (hb2 h).2.2, fun q hq => absurd hq (by omega)⟩⟩, fun i hi hm => ⟨fun hc => ⟨fun h2 => ?_, fun b _ => ⟨?_, fun _ _ => ⟨?_, ?_⟩, fun _ => ⟨?_, fun _ _ => ⟨?_, ?_⟩, fun hs _ => ⟨?_, ?_⟩⟩⟩⟩, fun hc h => ?_⟩⟩, fun b3 hb3 => ⟨⟨⟨Nat.zero_le _, fun h => ⟨(hb3 h).1, (hb3 h).2.1, (hb3 h).2.2.1, (hb3 h).2.2.2, fun q hq => absurd hq (by omega)⟩⟩, fun i hi hm => ⟨fun hc => ⟨?_, fun hs _ => ⟨?_, ?_⟩⟩, fun hc h => ?_⟩⟩, fun b4 hb4 => ⟨⟨Nat.zero_le _, hb4⟩, fun i hi hm => ⟨fun hc => ⟨?_, fun _ => ⟨?_, ?_⟩⟩, fun _ h => hi.2 h⟩⟩⟩⟩⟩⟩
 ·simp [e, h] at h0
 all_goals simp only [LN] at hc
 ·exact ⟨⟨by omega, by omega⟩, by omega⟩
 ·exact w1 _ _ (by omega) (show f.signs.length ≤ 200 from by omega)
 ·obtain ⟨a1, a2, a3⟩ := hi.2 hc.2
  exact ⟨⟨by omega, fun h => ⟨a1, a2, fun hr => ext (a3 hr) (hs ⟨⟨by omega, by omega⟩, by omega, hr, a1⟩ h)⟩⟩, by omega⟩
 ·have e : i.2 = f.signs.length := by omega
  exact e ▸ hi.2 h
 ·simp only [LN] at h2
  rw [w64_id (by omega) (by omega)]
  exact ⟨by omega, by omega⟩
 ·exact ⟨by omega, by omega⟩
 ·exact w1 _ _ (by omega) (show f.alters.length ≤ 200 from by omega)
 ·exact ⟨⟨by omega, fun h => absurd h (by decide)⟩, by omega⟩
 ·exact ⟨by omega, by omega⟩
 ·exact w1 _ _ (by omega) (show f.alters.length ≤ 200 from by omega)
 ·exact ⟨⟨by omega, fun h => absurd h (by decide)⟩, by omega⟩
 ·exact w1 _ _ (by omega) (show f.alters.length ≤ 200 from by omega)
 ·simp only [LN] at hs
  obtain ⟨a1, a2, a3, a4⟩ := hi.2 hc.2
  exact ⟨⟨by omega, fun h => ⟨a1, a2, a3, ext a4 ⟨by omega, by omega⟩⟩⟩, by omega⟩
 ·have e : i.2 = f.alters.length := by omega
  exact e ▸ hi.2 h
 ·exact ⟨⟨by omega, by omega⟩, by omega, by omega⟩
 ·exact w1 _ _ (by omega) (show f.acts.length ≤ 200 from by omega)
 ·obtain ⟨a1, a2, a3, a4, a5⟩ := hi.2 hc.2
  exact ⟨⟨by omega, fun h => ⟨a1, a2, a3, a4, ext a5 (hs ⟨⟨by omega, by omega⟩, by omega, by omega⟩ h)⟩⟩, by omega⟩
 ·have e : i.2 = f.acts.length := by omega
  exact e ▸ hi.2 h
 ·exact ⟨⟨by omega, by omega⟩, by omega⟩
 ·exact w1 _ _ (by omega) (show f.facts.length ≤ 200 from by omega)
 ·exact ⟨⟨by omega, fun _ => hi.2 hc.2⟩, by omega⟩
noncomputable def R12_Check_k (r : Realm) (f : File) : Ctr (Int) := kk tok mixed Tryz.func33 [av r.cells, av f.cells] (fun x => iv x) true (R12_Check_sk r f) (R12_Check r f) (fun (_ : True) => R12_Check_ok r f) (fun (x : Int) => (r.firms.length ≤ 200) → (x = 0 → RightF r f)) (R12_Check_post r f)
noncomputable def L27_few_sk (r : Realm) (f : File) : Sk (Bool) :=
 .r 1 (.dep ((R21_Few_k r f).c) fun x1 => .dep (.wh x1 true ((R09_Check_k r).c)) fun x2 => .wh (x1 && (x2 == 0)) true ((R12_Check_k r f).c)) fun p4 =>
 .fin ((((p4.1 && (p4.2.1 == 0)) && (p4.2.2 == 0)) && (decide (((f.signs.length : Nat) : Int) ≤ 20))) && (decide (((f.acts.length : Nat) : Int) ≤ 30)))
noncomputable def L27_few (r : Realm) (f : File) : Bool := (L27_few_sk r f).val
theorem L27_few_pst (r : Realm) (f : File) : (L27_few_sk r f).pst (fun (x : Bool) => x = true → r.Small ∧ r.ByOK ∧ r.HaltOK ∧ r.FirmOK ∧ r.RateOK ∧ RightF r f) := by
 refine Sk.pst_of _ ?_
 unfold L27_few_sk
 simp only [Sk.pstq, Sk.isLoop, reduceCtorEq, ON, kk, R09_Check_k, R12_Check_k, R21_Few_k, maxLen]
 intro x _ hx hc
 simp only [Bool.and_eq_true, beq_iff_eq, decide_eq_true_eq] at hc
 obtain ⟨⟨⟨⟨h1, h2⟩, h3⟩, -⟩, -⟩ := hc
 obtain ⟨a1, a2, a3, a4, a5, a6, a7, a8, a9, b1, b2, b3, b4⟩ := hx.2.1 h2
 exact ⟨(hx.1 h1).1, a6, b4, a5, b3, hx.2.2 a4 h3⟩
theorem L27_few_post (r : Realm) (f : File) : (fun (x : Bool) => x = true → r.Small ∧ r.ByOK ∧ r.HaltOK ∧ r.FirmOK ∧ r.RateOK ∧ RightF r f) (L27_few r f) := have h := Sk.pval _ (L27_few_pst r f); h
theorem L27_few_ok (r : Realm) (f : File) : (L27_few_sk r f).obs (fun _ => True) := by
 refine Sk.obs_of _ ?_
 unfold L27_few_sk
 simp only [Sk.obq, Sk.isLoop, reduceCtorEq, ON, kk, R09_Check_k, R12_Check_k, R21_Few_k, maxLen]
noncomputable def L27_few_k (r : Realm) (f : File) : Ctr (Bool) := kk tok mixed Tryz.func8 [av r.cells, av f.cells] (fun x => bv x) true (L27_few_sk r f) (L27_few r f) (fun (_ : True) => L27_few_ok r f) (fun (x : Bool) => x = true → r.Small ∧ r.ByOK ∧ r.HaltOK ∧ r.FirmOK ∧ r.RateOK ∧ RightF r f) (L27_few_post r f)
noncomputable def record_within_sk (i : Int) (n : Int) : Sk (Bool) :=
 .fin ((decide (i ≥ 0)) && (decide (i < n)))
noncomputable def record_within (i : Int) (n : Int) : Bool := (record_within_sk i n).val
theorem record_within_eq (i : Int) (n : Int) : record_within i n = ((decide (i ≥ 0)) && (decide (i < n))) := rfl
theorem record_within_ok (i : Int) (n : Int) : (record_within_sk i n).obs (fun _ => True) := by
 unfold record_within_sk
 exact okE
noncomputable def record_within_k (i : Int) (n : Int) : Ctr (Bool) := kk tok mixed Tryz.func34 [iv i, iv n] (fun x => bv x) true (record_within_sk i n) (record_within i n) (fun (_ : True) => record_within_ok i n)
noncomputable def record_At_sk (f : File) (day : Int) : Sk (File) :=
 .bind true (fun b1 => b1.length ≤ f.signs.length)
 (.loop (default : Sum (File) ((List Sign))) (fun i2 => i2.2.length ≤ i2.1 ∧ i2.1 ≤ f.signs.length) (fun i2 => f.signs.length - i2.1) ((0, []) : Nat × (List Sign))
 (fun (i2 : Nat × (List Sign)) => ⟨[(20, iv (i2.1 : Int))], [(100002, rowB 91 9 Sign.cells i2.2), (5, .box (f.bill.cells.map .d ++ [ow 100002 i2.2] ++ [nv, nv, nv]))]⟩) fun i2 =>
 .bnd 18 0 f.signs.length <|
 .br (decide ((i2.1 : Int) < ((f.signs.length : Nat) : Int)))
 (.r 4 (.p (ixP (i2.1 : Int) f.signs.length)) fun _ =>
 .br (decide (((f.signs.getD i2.1 default).day) > day))
 (.fin (.inl (.inr i2.2)))
 (.r 6 (.andl (.o [.nrm (litC Sign.E [f.signs.getD i2.1 default])]) (.andl (.o [.nrm (catC Sign.E i2.2 [f.signs.getD i2.1 default])]) (.andl (.t (Sign.E.ones [f.signs.getD i2.1 default])) (.p (szP i2.2.length [f.signs.getD i2.1 default].length 72))))) fun _ =>
 .r 7 .z fun _ =>
 .wi 20 (w64 ((i2.1 : Int) + 1)) ((i2.1 + 1 : Nat) : Int) <|
 .fin (.inr (i2.1 + 1, i2.2 ++ [f.signs.getD i2.1 default]))))
 (.fin (.inl (.inr i2.2))))
 (fun (b1 : (List Sign)) => ⟨[], [(100001, rowB 91 9 Sign.cells b1), (5, .box (f.bill.cells.map .d ++ [ow 100001 b1] ++ [nv, nv, nv]))]⟩) fun b1 =>
 .bind true (fun b3 => b3.length ≤ f.acts.length)
 (.loop (default : Sum (File) ((List ActX))) (fun i4 => i4.2.length ≤ i4.1 ∧ i4.1 ≤ f.acts.length) (fun i4 => f.acts.length - i4.1) ((0, []) : Nat × (List ActX))
 (fun (i4 : Nat × (List ActX)) => ⟨[(38, iv (i4.1 : Int))], [(100005, rowB 50 9 ActX.cells i4.2), (5, .box (f.bill.cells.map .d ++ [ow 100001 b1] ++ [nv, ow 100005 i4.2] ++ [nv]))]⟩) fun i4 =>
 .bnd 36 0 f.acts.length <|
 .br (decide ((i4.1 : Int) < ((f.acts.length : Nat) : Int)))
 (.r 10 (.p (ixP (i4.1 : Int) f.acts.length)) fun _ =>
 .br (decide (((f.acts.getD i4.1 default).day) > day))
 (.fin (.inl (.inr i4.2)))
 (.r 12 (.andl (.o [.nrm (litC ActX.E [f.acts.getD i4.1 default])]) (.andl (.o [.nrm (catC ActX.E i4.2 [f.acts.getD i4.1 default])]) (.andl (.t (ActX.E.ones [f.acts.getD i4.1 default])) (.p (szP i4.2.length [f.acts.getD i4.1 default].length 72))))) fun _ =>
 .r 13 .z fun _ =>
 .wi 38 (w64 ((i4.1 : Int) + 1)) ((i4.1 + 1 : Nat) : Int) <|
 .fin (.inr (i4.1 + 1, i4.2 ++ [f.acts.getD i4.1 default]))))
 (.fin (.inl (.inr i4.2))))
 (fun (b3 : (List ActX)) => ⟨[], [(100004, rowB 50 9 ActX.cells b3), (5, .box (f.bill.cells.map .d ++ [ow 100001 b1] ++ [nv, ow 100004 b3] ++ [nv]))]⟩) fun b3 =>
 .bind true (fun b5 => b5.length ≤ f.alters.length)
 (.loop (default : Sum (File) ((List Alter))) (fun i6 => i6.2.length ≤ i6.1 ∧ i6.1 ≤ f.alters.length) (fun i6 => f.alters.length - i6.1) ((0, []) : Nat × (List Alter))
 (fun (i6 : Nat × (List Alter)) => ⟨[(56, iv (i6.1 : Int))], [(100008, rowB 93 2 Alter.cells i6.2), (5, .box (f.bill.cells.map .d ++ [ow 100001 b1, ow 100008 i6.2, ow 100004 b3] ++ [nv]))]⟩) fun i6 =>
 .bnd 54 0 f.alters.length <|
 .br (decide ((i6.1 : Int) < ((f.alters.length : Nat) : Int)))
 (.r 16 (.p (ixP (i6.1 : Int) f.alters.length)) fun _ =>
 .br (decide (((f.alters.getD i6.1 default).at_) ≤ ((b1.length : Nat) : Int)))
 (.r 18 (.andl (.o [.nrm (litC Alter.E [f.alters.getD i6.1 default])]) (.andl (.o [.nrm (catC Alter.E i6.2 [f.alters.getD i6.1 default])]) (.andl (.t (Alter.E.ones [f.alters.getD i6.1 default])) (.p (szP i6.2.length [f.alters.getD i6.1 default].length 16))))) fun _ =>
 .r 19 .z fun _ =>
 .wi 56 (w64 ((i6.1 : Int) + 1)) ((i6.1 + 1 : Nat) : Int) <|
 .fin (.inr (i6.1 + 1, i6.2 ++ [f.alters.getD i6.1 default])))
 (.r 19 .z fun _ =>
 .wi 56 (w64 ((i6.1 : Int) + 1)) ((i6.1 + 1 : Nat) : Int) <|
 .fin (.inr (i6.1 + 1, i6.2))))
 (.fin (.inl (.inr i6.2))))
 (fun (b5 : (List Alter)) => ⟨[], [(100007, rowB 93 2 Alter.cells b5), (5, .box (f.bill.cells.map .d ++ [ow 100001 b1, ow 100007 b5, ow 100004 b3] ++ [nv]))]⟩) fun b5 =>
 .bind true (fun b7 => b7.length ≤ f.facts.length)
 (.loop (default : Sum (File) ((List Fact))) (fun i8 => i8.2.length ≤ i8.1 ∧ i8.1 ≤ f.facts.length) (fun i8 => f.facts.length - i8.1) ((0, []) : Nat × (List Fact))
 (fun (i8 : Nat × (List Fact)) => ⟨[(76, iv (i8.1 : Int))], [(100011, rowB 56 3 Fact.cells i8.2), (5, .box (f.bill.cells.map .d ++ [ow 100001 b1, ow 100007 b5, ow 100004 b3, ow 100011 i8.2]))]⟩) fun i8 =>
 .bnd 74 0 f.facts.length <|
 .br (decide ((i8.1 : Int) < ((f.facts.length : Nat) : Int)))
 (.r 22 (.p (ixP (i8.1 : Int) f.facts.length)) fun _ =>
 .r 23 ((record_within_k ((f.facts.getD i8.1 default).at_) ((b1.length : Nat) : Int)).c) fun x9 =>
 .br x9
 (.r 24 (.andl (.o [.nrm (litC Fact.E [f.facts.getD i8.1 default])]) (.andl (.o [.nrm (catC Fact.E i8.2 [f.facts.getD i8.1 default])]) (.andl (.t (Fact.E.ones [f.facts.getD i8.1 default])) (.p (szP i8.2.length [f.facts.getD i8.1 default].length 24))))) fun _ =>
 .r 25 .z fun _ =>
 .wi 76 (w64 ((i8.1 : Int) + 1)) ((i8.1 + 1 : Nat) : Int) <|
 .fin (.inr (i8.1 + 1, i8.2 ++ [f.facts.getD i8.1 default])))
 (.r 25 .z fun _ =>
 .wi 76 (w64 ((i8.1 : Int) + 1)) ((i8.1 + 1 : Nat) : Int) <|
 .fin (.inr (i8.1 + 1, i8.2))))
 (.fin (.inl (.inr i8.2))))
 (fun (b7 : (List Fact)) => ⟨[], [(100010, rowB 56 3 Fact.cells b7), (5, .box (f.bill.cells.map .d ++ [ow 100001 b1, ow 100007 b5, ow 100004 b3, ow 100010 b7]))]⟩) fun b7 =>
 .fin ({ f with signs := b1, alters := b5, acts := b3, facts := b7 })
noncomputable def record_At (f : File) (day : Int) : File := (record_At_sk f day).val
theorem record_At_pst (f : File) (day : Int) : (record_At_sk f day).pst (fun (x : File) => x.signs.length ≤ f.signs.length ∧ x.acts.length ≤ f.acts.length ∧ x.alters.length ≤ f.alters.length ∧ x.facts.length ≤ f.facts.length) := by
 unfold record_At_sk
 try simp only [record_within_k, record_within_eq, File.Small, Realm.Small]
 exact okQ
theorem record_At_post (f : File) (day : Int) : (fun (x : File) => x.signs.length ≤ f.signs.length ∧ x.acts.length ≤ f.acts.length ∧ x.alters.length ≤ f.alters.length ∧ x.facts.length ≤ f.facts.length) (record_At f day) := have h := Sk.pval _ (record_At_pst f day); h
theorem record_At_ok (f : File) (day : Int) (hf : f.Small) : (record_At_sk f day).obs (fun _ => True) := by
 simp only [File.Small, Realm.Small] at hf
 unfold record_At_sk
 try simp only [record_within_k, record_within_eq, File.Small, Realm.Small]
 exact okG
noncomputable def record_At_k (f : File) (day : Int) : Ctr (File) := kk tok mixed Tryz.func9 [av f.cells, iv day] (fun x => av x.cells) false (record_At_sk f day) (record_At f day) (fun (h : (f.Small)) => record_At_ok f day h) (fun (x : File) => x.signs.length ≤ f.signs.length ∧ x.acts.length ≤ f.acts.length ∧ x.alters.length ≤ f.alters.length ∧ x.facts.length ≤ f.facts.length) (record_At_post f day)
theorem filter_fold {α : Type} (p : α → Bool) : ∀ (l s : List α), l.foldl (fun s x => bif p x then s ++ [x] else s) s = s ++ l.filter p
 | [], s => by simp
 | x :: r, s => by
  simp only [List.foldl_cons, List.filter_cons]
  cases h : p x with
  | true => simp [filter_fold p r]
  | false => simp [filter_fold p r]
theorem walk_while {α β : Type} (p : α → Bool) (g : List α → β) : ∀ (l s : List α), walk (fun x s => bif !(p x) then Sum.inl (g s) else Sum.inr (s ++ [x])) g l s = g (s ++ l.takeWhile p)
 | [], s => by simp [walk]
 | x :: r, s => by
  simp only [walk, List.takeWhile_cons]
  cases h : p x with
  | true =>
   show walk (fun x s => bif !(p x) then Sum.inl (g s) else Sum.inr (s ++ [x])) g r (s ++ [x]) = _
   rw [walk_while p g r (s ++ [x])]
   simp
  | false => simp
theorem record_At_eq (f : File) (day : Int) : record_At f day = File.mk f.bill (f.signs.takeWhile (fun s => decide (s.day ≤ day)))
  (f.alters.filter (fun a => decide (a.at_ ≤ ((f.signs.takeWhile (fun s => decide (s.day ≤ day))).length : Int)))) (f.acts.takeWhile (fun a => decide (a.day ≤ day)))
  (f.facts.filter (fun x => decide (x.at_ ≥ 0) && decide (x.at_ < ((f.signs.takeWhile (fun s => decide (s.day ≤ day))).length : Int)))) := by
 simp only [record_At, record_At_sk, Sk.val_bind, Sk.val_loop, Sk.val_bnd, Sk.val_br, Sk.val_r, Sk.val_wi, Sk.val_fin, Ctr.c_v, kk, record_within_k, record_within_eq]
 have h1 : ∀ (n : Nat) (d : File ⊕ List Sign), f.signs.length < n → iter (fun i2 : Nat × List Sign => bif decide ((i2.1 : Int) < (f.signs.length : Int)) then (bif decide ((f.signs.getD i2.1 default).day > day) then (Sum.inl (Sum.inr i2.2)) else (Sum.inr (i2.1 + 1, i2.2 ++ [f.signs.getD i2.1 default]))) else Sum.inl (Sum.inr i2.2)) d n (0, []) = (Sum.inr (f.signs.takeWhile (fun s => decide (s.day ≤ day))) : File ⊕ List Sign) := by
  intro n d hn
  rw [iter_walk0 f.signs (fun s i => (i, s)) (fun x s => bif !(decide (x.day ≤ day)) then Sum.inl (Sum.inr s) else Sum.inr (s ++ [x])) (fun s => Sum.inr s) (fun s i hi => ?_) (fun s => ?_) hn []]
  ·exact walk_while _ (fun s => (Sum.inr s : File ⊕ List Sign)) f.signs []
  ·rw [decide_eq_true (by omega), cond_true]
   by_cases c : (f.signs.getD i default).day > day
   ·rw [decide_eq_true c, decide_eq_false (by omega)]; rfl
   ·rw [decide_eq_false c, decide_eq_true (by omega)]; rfl
  ·rw [decide_eq_false (by omega), cond_false]
 rw [h1 _ _ (by simp)]
 have h2 : ∀ (n : Nat) (d : File ⊕ List ActX), f.acts.length < n → iter (fun i2 : Nat × List ActX => bif decide ((i2.1 : Int) < (f.acts.length : Int)) then (bif decide ((f.acts.getD i2.1 default).day > day) then (Sum.inl (Sum.inr i2.2)) else (Sum.inr (i2.1 + 1, i2.2 ++ [f.acts.getD i2.1 default]))) else Sum.inl (Sum.inr i2.2)) d n (0, []) = (Sum.inr (f.acts.takeWhile (fun s => decide (s.day ≤ day))) : File ⊕ List ActX) := by
  intro n d hn
  rw [iter_walk0 f.acts (fun s i => (i, s)) (fun x s => bif !(decide (x.day ≤ day)) then Sum.inl (Sum.inr s) else Sum.inr (s ++ [x])) (fun s => Sum.inr s) (fun s i hi => ?_) (fun s => ?_) hn []]
  ·exact walk_while _ (fun s => (Sum.inr s : File ⊕ List ActX)) f.acts []
  ·rw [decide_eq_true (by omega), cond_true]
   by_cases c : (f.acts.getD i default).day > day
   ·rw [decide_eq_true c, decide_eq_false (by omega)]; rfl
   ·rw [decide_eq_false c, decide_eq_true (by omega)]; rfl
  ·rw [decide_eq_false (by omega), cond_false]
 simp only [pickS_inr]
 rw [h2 _ _ (by simp)]
 simp only [pickS_inr]
 generalize f.signs.takeWhile (fun s => decide (s.day ≤ day)) = b1
 have h3 : ∀ (n : Nat) (d : File ⊕ List Alter), f.alters.length < n → iter (fun i2 : Nat × List Alter => bif decide ((i2.1 : Int) < (f.alters.length : Int)) then (bif decide ((f.alters.getD i2.1 default).at_ ≤ (b1.length : Int)) then (Sum.inr (i2.1 + 1, i2.2 ++ [f.alters.getD i2.1 default])) else (Sum.inr (i2.1 + 1, i2.2))) else Sum.inl (Sum.inr i2.2)) d n (0, []) = (Sum.inr (f.alters.filter (fun a => decide (a.at_ ≤ (b1.length : Int)))) : File ⊕ List Alter) := by
  intro n d hn
  rw [iter_walk0 f.alters (fun s i => (i, s)) (fun x s => Sum.inr (bif decide (x.at_ ≤ (b1.length : Int)) then s ++ [x] else s)) (fun s => Sum.inr s) (fun s i hi => ?_) (fun s => ?_) hn []]
  ·rw [walk_fold (fun (x : Alter) s => bif decide (x.at_ ≤ (b1.length : Int)) then s ++ [x] else s), filter_fold]; rfl
  ·rw [decide_eq_true (by omega), cond_true]
   cases decide ((f.alters.getD i default).at_ ≤ (b1.length : Int)) <;> rfl
  ·rw [decide_eq_false (by omega), cond_false]
 rw [h3 _ _ (by simp)]
 simp only [pickS_inr]
 have h4 : ∀ (n : Nat) (d : File ⊕ List Fact), f.facts.length < n → iter (fun i2 : Nat × List Fact => bif decide ((i2.1 : Int) < (f.facts.length : Int)) then (bif (decide ((f.facts.getD i2.1 default).at_ ≥ 0) && decide ((f.facts.getD i2.1 default).at_ < (b1.length : Int))) then (Sum.inr (i2.1 + 1, i2.2 ++ [f.facts.getD i2.1 default])) else (Sum.inr (i2.1 + 1, i2.2))) else Sum.inl (Sum.inr i2.2)) d n (0, []) = (Sum.inr (f.facts.filter (fun a => decide (a.at_ ≥ 0) && decide (a.at_ < (b1.length : Int)))) : File ⊕ List Fact) := by
  intro n d hn
  rw [iter_walk0 f.facts (fun s i => (i, s)) (fun x s => Sum.inr (bif (decide (x.at_ ≥ 0) && decide (x.at_ < (b1.length : Int))) then s ++ [x] else s)) (fun s => Sum.inr s) (fun s i hi => ?_) (fun s => ?_) hn []]
  ·rw [walk_fold (fun (x : Fact) s => bif (decide (x.at_ ≥ 0) && decide (x.at_ < (b1.length : Int))) then s ++ [x] else s), filter_fold]; rfl
  ·rw [decide_eq_true (by omega), cond_true]
   cases (decide ((f.facts.getD i default).at_ ≥ 0) && decide ((f.facts.getD i default).at_ < (b1.length : Int))) <;> rfl
  ·rw [decide_eq_false (by omega), cond_false]
 rw [h4 _ _ (by simp)]
 rfl
theorem takeWhile_getD {α : Type} [Inhabited α] (p : α → Bool) : ∀ (l : List α) (i : Nat), i < (l.takeWhile p).length → (l.takeWhile p).getD i default = l.getD i default ∧ i < l.length ∧ p (l.getD i default) = true
 | [], i, h => by simp at h
 | x :: r, i, h => by
  rw [List.takeWhile_cons] at h ⊢
  cases hp : p x with
  | false => rw [hp] at h; simp at h
  | true =>
   rw [hp] at h
   simp only [if_true, List.length_cons] at h ⊢
   cases i with
   | zero => exact ⟨rfl, by simp, hp⟩
   | succ i =>
    have := takeWhile_getD p r i (by omega)
    exact ⟨by simpa using this.1, by simpa using this.2.1, by simpa using this.2.2⟩
structure View where
 all : File
 now : File
 day : Int
 lead : List Int
 deriving Inhabited
def View.cells (c : View) : List D := c.all.cells ++ c.now.cells ++ [dI c.day, slD intC c.lead]
def View.E : Enc View := ⟨View.cells, 40, fun _ => rfl, fun _ => rfl⟩
def View.BaseOK (v : View) : Prop := ∀ i, i < v.now.signs.length → ((v.now.signs.getD i default).kind = 3 ∨ (v.now.signs.getD i default).kind = 4) → 0 ≤ (v.now.signs.getD i default).for_ ∧ (v.now.signs.getD i default).for_ < (i : Int)
structure Court where
 view : View
 r : Realm
 forum : Int
 due : Int
 deriving Inhabited
def Court.cells (c : Court) : List D := c.view.cells ++ c.r.cells ++ [dI c.forum, dI c.due]
def Court.E : Enc Court := ⟨Court.cells, 50, fun _ => rfl, fun _ => rfl⟩
end Go.Proofs.YtbcnlpcaajpclaaGreatDoor
