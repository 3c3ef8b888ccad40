/- Functions, as sketches. -/
import Derived.Test.YtjaehpinmdpmbaaGreatDoorOl13
namespace Go.Proofs.YtjaehpinmdpmbaaGreatDoor
open Go Go.Av
set_option linter.unusedSimpArgs false
set_option linter.unusedVariables false
set_option maxHeartbeats 1000000
set_option maxRecDepth 100000
noncomputable def allongeref09_Before_sk (l : List ByteArray) (n : Int) (s : ByteArray) : Sk (Bool) :=
 .bind true (fun _ => True)
 (.loop (default : Sum (Bool) (Unit)) (fun i2 => i2 ≤ l.length) (fun i2 => l.length - i2) (0 : Nat)
 (fun (i2 : Nat) => ⟨[(7, iv ((i2 : Nat) : Int))], []⟩) fun i2 =>
 .bnd 0 0 l.length <|
 .br ((decide (((i2 : Nat) : Int) < n)) && (decide (((i2 : Nat) : Int) < ((l.length : Nat) : Int))))
 (.r 4 (.p (ixP ((i2 : Nat) : Int) l.length)) fun _ =>
 .br ((l.getD i2 default).toList == s.toList)
 (.fin (.inl (.inl true)))
 (.r 3 .z fun _ =>
 .wi 7 (w64 (((i2 : Nat) : Int) + 1)) ((i2 + 1 : Nat) : Int) <|
 .fin (.inr (i2 + 1))))
 (.fin (.inl (.inr ()))))
 (fun (_ : Unit) => ⟨[], []⟩) fun _ =>
 .fin false
noncomputable def allongeref09_Before (l : List ByteArray) (n : Int) (s : ByteArray) : Bool := (allongeref09_Before_sk l n s).val
theorem allongeref09_Before_ok (l : List ByteArray) (n : Int) (s : ByteArray) : (allongeref09_Before_sk l n s).obs (fun _ => True) := by
  unfold allongeref09_Before_sk
  exact okD

noncomputable def allongeref09_Before_k (l : List ByteArray) (n : Int) (s : ByteArray) : Ctr (Bool) := kk tok mixed Tryz.func140 [lv strC l, iv n, sv s] (fun x => bv x) true (allongeref09_Before_sk l n s) (allongeref09_Before l n s) (fun (_ : True) => allongeref09_Before_ok l n s)
noncomputable def allongeref09_named_sk (l : List ByteArray) (i : Int) : Sk (Int) :=
 .r 1 (.andl (.p (ixP i l.length)) ((allongeref09_Name_k (l.getD i.toNat default)).c)) fun x1 =>
 .br (!x1)
 (.fin 2)
 (.r 3 (.andl (.p (ixP i l.length)) ((allongeref09_Before_k l i (l.getD i.toNat default)).c)) fun x2 =>
 .br x2
 (.fin 5)
 (.fin 0))
noncomputable def allongeref09_named (l : List ByteArray) (i : Int) : Int := (allongeref09_named_sk l i).val
theorem allongeref09_named_ok (l : List ByteArray) (i : Int) (hi : 0 ≤ i ∧ i < (l.length : Int)) : (allongeref09_named_sk l i).obs (fun _ => True) := by
  unfold allongeref09_named_sk
  try simp only [allongeref09_Before_k, allongeref09_Name_k]
  exact okD

noncomputable def allongeref09_named_k (l : List ByteArray) (i : Int) : Ctr (Int) := kk tok mixed Tryz.func91 [lv strC l, iv i] (fun x => iv x) true (allongeref09_named_sk l i) (allongeref09_named l i) (fun (h : (0 ≤ i ∧ i < (l.length : Int))) => allongeref09_named_ok l i h)
noncomputable def allongeref09_Within_sk (n : Int) (low : Int) (high : Int) : Sk (Bool) :=
 .fin ((decide (low ≤ n)) && (decide (n ≤ high)))
noncomputable def allongeref09_Within (n : Int) (low : Int) (high : Int) : Bool := (allongeref09_Within_sk n low high).val
theorem allongeref09_Within_eq (n : Int) (low : Int) (high : Int) : allongeref09_Within n low high = ((decide (low ≤ n)) && (decide (n ≤ high))) := rfl
theorem allongeref09_Within_ok (n : Int) (low : Int) (high : Int) : (allongeref09_Within_sk n low high).obs (fun _ => True) := by
  unfold allongeref09_Within_sk
  exact okE

noncomputable def allongeref09_Within_k (n : Int) (low : Int) (high : Int) : Ctr (Bool) := kk tok mixed Tryz.func53 [iv n, iv low, iv high] (fun x => bv x) true (allongeref09_Within_sk n low high) (allongeref09_Within n low high) (fun (_ : True) => allongeref09_Within_ok n low high)
noncomputable def allongeref09_Rising_sk (l : List Int) (low : Int) (high : Int) : Sk (Bool) :=
 .bind true (fun _ => True)
 (.loop (default : Sum (Bool) (Unit)) (fun i2 => i2 ≤ l.length) (fun i2 => l.length - i2) (0 : Nat)
 (fun (i2 : Nat) => ⟨[(7, iv ((i2 : Nat) : Int))], []⟩) fun i2 =>
 .bnd 0 0 l.length <|
 .br (decide (((i2 : Nat) : Int) < ((l.length : Nat) : Int)))
 (.r 4 (.andl (.p (ixP ((i2 : Nat) : Int) l.length)) ((allongeref09_Within_k (l.getD i2 default) low high).c)) fun x3 =>
 .br (!x3)
 (.fin (.inl (.inl false)))
 (.r 6 (.andl (.wh (decide (((i2 : Nat) : Int) > 0)) true (.p (ixP (w64 (((i2 : Nat) : Int) - 1)) l.length))) (.wh (decide (((i2 : Nat) : Int) > 0)) true (.p (ixP ((i2 : Nat) : Int) l.length)))) fun _ =>
 .br ((decide (((i2 : Nat) : Int) > 0)) && (decide ((l.getD ((w64 (((i2 : Nat) : Int) - 1)).toNat) default) ≥ (l.getD i2 default))))
 (.fin (.inl (.inl false)))
 (.r 3 .z fun _ =>
 .wi 7 (w64 (((i2 : Nat) : Int) + 1)) ((i2 + 1 : Nat) : Int) <|
 .fin (.inr (i2 + 1)))))
 (.fin (.inl (.inr ()))))
 (fun (_ : Unit) => ⟨[], []⟩) fun _ =>
 .fin true
noncomputable def allongeref09_Rising (l : List Int) (low : Int) (high : Int) : Bool := (allongeref09_Rising_sk l low high).val
theorem allongeref09_Rising_ok (l : List Int) (low : Int) (high : Int) : (allongeref09_Rising_sk l low high).obs (fun _ => True) := by
  unfold allongeref09_Rising_sk
  try simp only [allongeref09_Within_k, allongeref09_Within_eq]
  exact okG

noncomputable def allongeref09_Rising_k (l : List Int) (low : Int) (high : Int) : Ctr (Bool) := kk tok mixed Tryz.func141 [lv intC l, iv low, iv high] (fun x => bv x) true (allongeref09_Rising_sk l low high) (allongeref09_Rising l low high) (fun (_ : True) => allongeref09_Rising_ok l low high)
noncomputable def allongeref09_RightCity_sk (r : Realm) (c_ : City) : Sk (Bool) :=
 .r 1 (.dep ((allongeref09_Within_k c_.order 0 (w64 (((r.orders.length : Nat) : Int) - 1))).c) fun x1 => .wh (!x1) false ((allongeref09_Within_k c_.currency 0 (w64 (((r.currencies.length : Nat) : Int) - 1))).c)) fun p12 =>
 .br ((((!p12.1) || (!p12.2)) || (decide (((c_.feasts.length : Nat) : Int) > 60))) || (decide (((c_.shut.length : Nat) : Int) > 200)))
 (.fin false)
 (.bind true (fun _ => True)
 (.loop (default : Sum (Bool) (Unit)) (fun i4 => i4 ≤ c_.feasts.length) (fun i4 => c_.feasts.length - i4) (0 : Nat)
 (fun (i4 : Nat) => ⟨[(5, iv ((i4 : Nat) : Int))], []⟩) fun i4 =>
 .bnd 3 4 c_.feasts.length <|
 .br (decide (((i4 : Nat) : Int) < ((c_.feasts.length : Nat) : Int)))
 (.r 6 (.andl (.p (ixP ((i4 : Nat) : Int) c_.feasts.length)) (.andl (.p ((100 : Int) ≠ 0)) (.dep ((allongeref09_Within_k (w64 ((c_.feasts.getD i4 default).tdiv 100)) 1 12).c) fun x5 => .andl (.wh (!x5) false (.p (ixP ((i4 : Nat) : Int) c_.feasts.length))) (.andl (.wh (!x5) false (.p ((100 : Int) ≠ 0))) (.wh (!x5) false ((allongeref09_Within_k ((c_.feasts.getD i4 default).tmod 100) 1 31).c)))))) fun p7 =>
 .br ((!p7.1) || (!p7.2))
 (.fin (.inl (.inl false)))
 (.r 5 .z fun _ =>
 .wi 5 (w64 (((i4 : Nat) : Int) + 1)) ((i4 + 1 : Nat) : Int) <|
 .fin (.inr (i4 + 1))))
 (.fin (.inl (.inr ()))))
 (fun (_ : Unit) => ⟨[], []⟩) fun _ =>
 .r 8 (.dep ((allongeref09_Rising_k c_.rest 0 6).c) fun x8 => .dep (.wh x8 true ((allongeref09_Rising_k c_.feasts 0 2000).c)) fun x9 => .wh (x8 && x9) true ((allongeref09_Rising_k c_.shut 0 100000).c)) fun p11 =>
 .fin ((p11.1 && p11.2.1) && p11.2.2))
noncomputable def allongeref09_RightCity (r : Realm) (c_ : City) : Bool := (allongeref09_RightCity_sk r c_).val
theorem allongeref09_RightCity_ok (r : Realm) (c_ : City) : (allongeref09_RightCity_sk r c_).obs (fun _ => True) := by
  unfold allongeref09_RightCity_sk
  try simp only [allongeref09_Rising_k, allongeref09_Within_k, allongeref09_Within_eq]
  exact okG

noncomputable def allongeref09_RightCity_k (r : Realm) (c_ : City) : Ctr (Bool) := kk tok mixed Tryz.func92 [av r.cells, av c_.cells] (fun x => bv x) true (allongeref09_RightCity_sk r c_) (allongeref09_RightCity r c_) (fun (_ : True) => allongeref09_RightCity_ok r c_)
noncomputable def allongeref09_cities_sk (r : Realm) : Sk (Int) :=
 .br (decide (((r.currencies.length : Nat) : Int) > 8))
 (.fin 6)
 (.bind true (fun _ => True)
 (.loop (default : Sum (Int) (Unit)) (fun i2 => i2 ≤ r.currencies.length) (fun i2 => r.currencies.length - i2) (0 : Nat)
 (fun (i2 : Nat) => ⟨[(3, iv ((i2 : Nat) : Int))], []⟩) fun i2 =>
 .bnd 1 0 r.currencies.length <|
 .br (decide (((i2 : Nat) : Int) < ((r.currencies.length : Nat) : Int)))
 (.r 6 ((allongeref09_named_k r.currencies ((i2 : Nat) : Int)).c) fun x3 =>
 .br (x3 != 0)
 (.fin (.inl (.inl x3)))
 (.r 5 .z fun _ =>
 .wi 3 (w64 (((i2 : Nat) : Int) + 1)) ((i2 + 1 : Nat) : Int) <|
 .fin (.inr (i2 + 1))))
 (.fin (.inl (.inr ()))))
 (fun (_ : Unit) => ⟨[], []⟩) fun _ =>
 .br (decide (((r.cities.length : Nat) : Int) > 40))
 (.fin 6)
 (.bind true (fun _ => True)
 (.loop (default : Sum (Int) (Unit)) (fun i5 => i5.1.length = i5.2 ∧ i5.2 ≤ r.cities.length) (fun i5 => r.cities.length - i5.2) (([], 0) : (List ByteArray) × Nat)
 (fun (i5 : (List ByteArray) × Nat) => ⟨[(5, ow 100001 i5.1), (6, iv ((i5.2 : Nat) : Int))], [(100001, rowB 9 1 strC i5.1)]⟩) fun i5 =>
 .bnd 1 1 r.cities.length <|
 .br (decide (((i5.2 : Nat) : Int) < ((r.cities.length : Nat) : Int)))
 (.r 15 (.andl (.p (ixP ((i5.2 : Nat) : Int) r.cities.length)) (.andl (.o [.nrm (litC strE [(r.cities.getD i5.2 default).name])]) (.andl (.o [.nrm (catC strE i5.1 [(r.cities.getD i5.2 default).name])]) (.andl (.t (strE.ones [(r.cities.getD i5.2 default).name])) (.p (szP i5.1.length [(r.cities.getD i5.2 default).name].length 16)))))) fun _ =>
 .r 16 ((allongeref09_named_k (i5.1 ++ [(r.cities.getD i5.2 default).name]) ((i5.2 : Nat) : Int)).c) fun x6 =>
 .br (x6 != 0)
 (.fin (.inl (.inl x6)))
 (.r 19 (.andl (.p (ixP ((i5.2 : Nat) : Int) r.cities.length)) ((allongeref09_RightCity_k r (r.cities.getD i5.2 default)).c)) fun x7 =>
 .br (!x7)
 (.fin (.inl (.inl 1)))
 (.r 14 .z fun _ =>
 .wi 6 (w64 (((i5.2 : Nat) : Int) + 1)) ((i5.2 + 1 : Nat) : Int) <|
 .fin (.inr (i5.1 ++ [(r.cities.getD i5.2 default).name], i5.2 + 1)))))
 (.fin (.inl (.inr ()))))
 (fun (_ : Unit) => ⟨[], []⟩) fun _ =>
 .fin 0))
noncomputable def allongeref09_cities (r : Realm) : Int := (allongeref09_cities_sk r).val
theorem allongeref09_cities_pst (r : Realm) : (allongeref09_cities_sk r).pst (fun (x : Int) => x = 0 → r.currencies.length ≤ 8 ∧ r.cities.length ≤ 40) := by
  unfold allongeref09_cities_sk
  try simp only [allongeref09_RightCity_k, allongeref09_named_k]
  exact okP

theorem allongeref09_cities_post (r : Realm) : (fun (x : Int) => x = 0 → r.currencies.length ≤ 8 ∧ r.cities.length ≤ 40) (allongeref09_cities r) := have h := Sk.pval _ (allongeref09_cities_pst r); h
theorem allongeref09_cities_ok (r : Realm) : (allongeref09_cities_sk r).obs (fun _ => True) := by
  unfold allongeref09_cities_sk
  try simp only [allongeref09_RightCity_k, allongeref09_named_k]
  exact okD

noncomputable def allongeref09_cities_k (r : Realm) : Ctr (Int) := kk tok mixed Tryz.func45 [av r.cells] (fun x => iv x) true (allongeref09_cities_sk r) (allongeref09_cities r) (fun (_ : True) => allongeref09_cities_ok r) (fun (x : Int) => x = 0 → r.currencies.length ≤ 8 ∧ r.cities.length ≤ 40) (allongeref09_cities_post r)
noncomputable def allongeref09_firms_sk (r : Realm) : Sk (Int) :=
 .br (decide (((r.groups.length : Nat) : Int) > 20))
 (.fin 6)
 (.bind true (fun _ => True)
 (.loop (default : Sum (Int) (Unit)) (fun i2 => i2 ≤ r.groups.length) (fun i2 => r.groups.length - i2) (0 : Nat)
 (fun (i2 : Nat) => ⟨[(3, iv ((i2 : Nat) : Int))], []⟩) fun i2 =>
 .bnd 1 2 r.groups.length <|
 .br (decide (((i2 : Nat) : Int) < ((r.groups.length : Nat) : Int)))
 (.r 6 (.andl (.p (ixP ((i2 : Nat) : Int) r.groups.length)) ((allongeref09_Within_k ((r.groups.getD i2 default).grade) 0 9).c)) fun x3 =>
 .br (!x3)
 (.fin (.inl (.inl 1)))
 (.r 5 .z fun _ =>
 .wi 3 (w64 (((i2 : Nat) : Int) + 1)) ((i2 + 1 : Nat) : Int) <|
 .fin (.inr (i2 + 1))))
 (.fin (.inl (.inr ()))))
 (fun (_ : Unit) => ⟨[], []⟩) fun _ =>
 .br (decide (((r.firms.length : Nat) : Int) > 200))
 (.fin 6)
 (.bind true (fun b4 => r.cities.length ≤ 40 → r.FirmOK)
 (.loop (default : Sum (Int) (Unit)) (fun i5 => i5.1.length = i5.2 ∧ i5.2 ≤ r.firms.length ∧ (r.cities.length ≤ 40 → ∀ q, q < i5.2 → 0 ≤ (r.firms.getD q default).city ∧ (r.firms.getD q default).city < (r.cities.length : Int))) (fun i5 => r.firms.length - i5.2) (([], 0) : (List ByteArray) × Nat)
 (fun (i5 : (List ByteArray) × Nat) => ⟨[(4, ow 100001 i5.1), (5, iv ((i5.2 : Nat) : Int))], [(100001, rowB 9 1 strC i5.1)]⟩) fun i5 =>
 .bnd 1 3 r.firms.length <|
 .br (decide (((i5.2 : Nat) : Int) < ((r.firms.length : Nat) : Int)))
 (.r 14 (.andl (.p (ixP ((i5.2 : Nat) : Int) r.firms.length)) (.andl (.o [.nrm (litC strE [(r.firms.getD i5.2 default).name])]) (.andl (.o [.nrm (catC strE i5.1 [(r.firms.getD i5.2 default).name])]) (.andl (.t (strE.ones [(r.firms.getD i5.2 default).name])) (.p (szP i5.1.length [(r.firms.getD i5.2 default).name].length 16)))))) fun _ =>
 .r 15 ((allongeref09_named_k (i5.1 ++ [(r.firms.getD i5.2 default).name]) ((i5.2 : Nat) : Int)).c) fun x6 =>
 .br (x6 != 0)
 (.fin (.inl (.inl x6)))
 (.r 18 (.andl (.p (ixP ((i5.2 : Nat) : Int) r.firms.length)) (.dep ((allongeref09_Within_k ((r.firms.getD i5.2 default).city) 0 (w64 (((r.cities.length : Nat) : Int) - 1))).c) fun x7 => .andl (.wh (!x7) false (.p (ixP ((i5.2 : Nat) : Int) r.firms.length))) (.wh (!x7) false ((allongeref09_Within_k ((r.firms.getD i5.2 default).group) 0 (w64 (((r.groups.length : Nat) : Int) - 1))).c)))) fun p9 =>
 .br ((!p9.1) || (!p9.2))
 (.fin (.inl (.inl 1)))
 (.r 13 .z fun _ =>
 .wi 5 (w64 (((i5.2 : Nat) : Int) + 1)) ((i5.2 + 1 : Nat) : Int) <|
 .fin (.inr (i5.1 ++ [(r.firms.getD i5.2 default).name], i5.2 + 1)))))
 (.fin (.inl (.inr ()))))
 (fun (_ : Unit) => ⟨[], []⟩) fun _ =>
 .fin 0))
noncomputable def allongeref09_firms (r : Realm) : Int := (allongeref09_firms_sk r).val
theorem allongeref09_firms_pst (r : Realm) (hP : r.cities.length ≤ 40) : (allongeref09_firms_sk r).pst (fun (x : Int) => x = 0 → r.groups.length ≤ 20 ∧ r.firms.length ≤ 200 ∧ r.FirmOK) := by
  refine Sk.pst_of _ ?_
  unfold allongeref09_firms_sk
  simp only [Sk.pstq, Sk.isLoop, reduceCtorEq, ON, kk, allongeref09_Within_k, allongeref09_named_k, allongeref09_Within_eq, forall_eq, Realm.FirmOK, maxLen]
  all_goals exact okT2

theorem allongeref09_firms_post (r : Realm) : (fun (x : Int) => (r.cities.length ≤ 40) → (x = 0 → r.groups.length ≤ 20 ∧ r.firms.length ≤ 200 ∧ r.FirmOK)) (allongeref09_firms r) := fun hP => Sk.pval _ (allongeref09_firms_pst r hP)
theorem allongeref09_firms_ok (r : Realm) : (allongeref09_firms_sk r).obs (fun _ => True) := by
  refine Sk.obs_of _ ?_
  unfold allongeref09_firms_sk
  simp only [Sk.obq, Sk.isLoop, reduceCtorEq, ON, kk, allongeref09_Within_k, allongeref09_named_k, allongeref09_Within_eq, forall_eq, Realm.FirmOK, maxLen]
  all_goals exact okT2

noncomputable def allongeref09_firms_k (r : Realm) : Ctr (Int) := kk tok mixed Tryz.func46 [av r.cells] (fun x => iv x) true (allongeref09_firms_sk r) (allongeref09_firms r) (fun (_ : True) => allongeref09_firms_ok r) (fun (x : Int) => (r.cities.length ≤ 40) → (x = 0 → r.groups.length ≤ 20 ∧ r.firms.length ≤ 200 ∧ r.FirmOK)) (allongeref09_firms_post r)
noncomputable def allongeref09_RightOrder_sk (o : Order) : Sk (Bool) :=
 .bind true (fun b1 => ∀ j : Nat, j < o.choices.length → ((j : Int) ≤ (o.choices.getD j default).ask ∧ (o.choices.getD j default).ask ≤ 21) ∧ 0 ≤ (o.choices.getD j default).by_ ∧ (o.choices.getD j default).by_ < 5)
 (.loop (default : Sum (Bool) (Unit)) (fun i2 => (∀ j : Nat, j < i2 → ((j : Int) ≤ (o.choices.getD j default).ask ∧ (o.choices.getD j default).ask ≤ 21) ∧ 0 ≤ (o.choices.getD j default).by_ ∧ (o.choices.getD j default).by_ < 5) ∧ i2 ≤ o.choices.length) (fun i2 => o.choices.length - i2) (0 : Nat)
 (fun (i2 : Nat) => ⟨[(3, iv ((i2 : Nat) : Int))], []⟩) fun i2 =>
 .bnd 1 2 o.choices.length <|
 .br (decide (((i2 : Nat) : Int) < ((o.choices.length : Nat) : Int)))
 (.r 4 (.andl (.p (ixP ((i2 : Nat) : Int) o.choices.length)) (.dep ((allongeref09_Within_k ((o.choices.getD i2 default).ask) 0 21).c) fun x3 => .andl (.wh (!x3) false (.p (ixP ((i2 : Nat) : Int) o.choices.length))) (.wh (!x3) false ((allongeref09_Within_k ((o.choices.getD i2 default).by_) 0 4).c)))) fun p5 =>
 .br ((!p5.1) || (!p5.2))
 (.fin (.inl (.inl false)))
 (.r 6 (.andl (.wh (decide (((i2 : Nat) : Int) > 0)) true (.p (ixP (w64 (((i2 : Nat) : Int) - 1)) o.choices.length))) (.wh (decide (((i2 : Nat) : Int) > 0)) true (.p (ixP ((i2 : Nat) : Int) o.choices.length)))) fun _ =>
 .br ((decide (((i2 : Nat) : Int) > 0)) && (decide (((o.choices.getD ((w64 (((i2 : Nat) : Int) - 1)).toNat) default).ask) ≥ ((o.choices.getD i2 default).ask))))
 (.fin (.inl (.inl false)))
 (.r 3 .z fun _ =>
 .wi 3 (w64 (((i2 : Nat) : Int) + 1)) ((i2 + 1 : Nat) : Int) <|
 .fin (.inr (i2 + 1)))))
 (.fin (.inl (.inr ()))))
 (fun (_ : Unit) => ⟨[], []⟩) fun _ =>
 .bind true (fun b6 => ∀ j : Nat, j < o.rules.length → (j : Int) ≤ (o.rules.getD j default).ask ∧ (o.rules.getD j default).ask ≤ 21)
 (.loop (default : Sum (Bool) (Unit)) (fun i7 => (∀ j : Nat, j < i7 → (j : Int) ≤ (o.rules.getD j default).ask ∧ (o.rules.getD j default).ask ≤ 21) ∧ i7 ≤ o.rules.length) (fun i7 => o.rules.length - i7) (0 : Nat)
 (fun (i7 : Nat) => ⟨[(4, iv ((i7 : Nat) : Int))], []⟩) fun i7 =>
 .bnd 1 3 o.rules.length <|
 .br (decide (((i7 : Nat) : Int) < ((o.rules.length : Nat) : Int)))
 (.r 11 (.andl (.p (ixP ((i7 : Nat) : Int) o.rules.length)) ((allongeref09_Within_k ((o.rules.getD i7 default).ask) 0 21).c)) fun x8 =>
 .br (!x8)
 (.fin (.inl (.inl false)))
 (.r 13 (.andl (.wh (decide (((i7 : Nat) : Int) > 0)) true (.p (ixP (w64 (((i7 : Nat) : Int) - 1)) o.rules.length))) (.wh (decide (((i7 : Nat) : Int) > 0)) true (.p (ixP ((i7 : Nat) : Int) o.rules.length)))) fun _ =>
 .br ((decide (((i7 : Nat) : Int) > 0)) && (decide (((o.rules.getD ((w64 (((i7 : Nat) : Int) - 1)).toNat) default).ask) ≥ ((o.rules.getD i7 default).ask))))
 (.fin (.inl (.inl false)))
 (.r 10 .z fun _ =>
 .wi 4 (w64 (((i7 : Nat) : Int) + 1)) ((i7 + 1 : Nat) : Int) <|
 .fin (.inr (i7 + 1)))))
 (.fin (.inl (.inr ()))))
 (fun (_ : Unit) => ⟨[], []⟩) fun _ =>
 .fin true
noncomputable def allongeref09_RightOrder (o : Order) : Bool := (allongeref09_RightOrder_sk o).val
theorem allongeref09_RightOrder_pst (o : Order) : (allongeref09_RightOrder_sk o).pst (fun (x : Bool) => x = true → (∀ j, j < o.choices.length → 0 ≤ (o.choices.getD j default).by_ ∧ (o.choices.getD j default).by_ < 5) ∧ o.choices.length ≤ 22 ∧ o.rules.length ≤ 22) := by
  refine Sk.pst_of _ ?_
  unfold allongeref09_RightOrder_sk
  simp only [Sk.pstq, Sk.isLoop, reduceCtorEq, ON, kk, allongeref09_Within_k, allongeref09_Within_eq, forall_eq, maxLen]
  refine ⟨⟨⟨fun j hj => absurd hj (by omega), Nat.zero_le _⟩, fun i hi => ⟨fun hc h1 _ h2 _ => ?_, fun hc j hj => ?_⟩⟩, fun _ hJ => ⟨⟨⟨fun j hj => absurd hj (by omega), Nat.zero_le _⟩, fun i hi => ⟨fun hc h1 _ h2 _ => ?_, fun hc j hj => ?_⟩⟩, fun _ hJ2 => ⟨fun j hj => (hJ j hj).2, ?_, ?_⟩⟩⟩
  rotate_right
  rotate_right
  · rcases Nat.lt_or_ge 22 o.choices.length with h | h
    · have := (hJ 22 h).1; omega
    · exact h
  · rcases Nat.lt_or_ge 22 o.rules.length with h | h
    · have := hJ2 22 h; omega
    · exact h
  all_goals simp only [LN] at hc
  · simp only [LN] at h1 h2
    refine ⟨⟨fun j hj => ?_, by omega⟩, by omega⟩
    by_cases e : j = i
    · subst e
      refine ⟨⟨?_, by omega⟩, by omega, by omega⟩
      by_cases e0 : j = 0
      · subst e0; omega
      · have h3 := hi.1 (j - 1) (by omega)
        have h4 := h2.resolve_left (by omega)
        rw [w64_id (by omega) (by omega), show ((j : Int) - 1).toNat = j - 1 by omega] at h4
        omega
    · exact hi.1 j (by omega)
  · exact hi.1 j (by omega)
  · simp only [LN] at h1 h2
    refine ⟨⟨fun j hj => ?_, by omega⟩, by omega⟩
    by_cases e : j = i
    · subst e
      refine ⟨?_, by omega⟩
      by_cases e0 : j = 0
      · subst e0; omega
      · have h3 := hi.1 (j - 1) (by omega)
        have h4 := h2.resolve_left (by omega)
        rw [w64_id (by omega) (by omega), show ((j : Int) - 1).toNat = j - 1 by omega] at h4
        omega
    · exact hi.1 j (by omega)
  · exact hi.1 j (by omega)

theorem allongeref09_RightOrder_post (o : Order) : (fun (x : Bool) => x = true → (∀ j, j < o.choices.length → 0 ≤ (o.choices.getD j default).by_ ∧ (o.choices.getD j default).by_ < 5) ∧ o.choices.length ≤ 22 ∧ o.rules.length ≤ 22) (allongeref09_RightOrder o) := have h := Sk.pval _ (allongeref09_RightOrder_pst o); h
theorem allongeref09_RightOrder_ok (o : Order) : (allongeref09_RightOrder_sk o).obs (fun _ => True) := by
  refine Sk.obs_of _ ?_
  unfold allongeref09_RightOrder_sk
  simp only [Sk.obq, Sk.isLoop, reduceCtorEq, ON, kk, allongeref09_Within_k, allongeref09_Within_eq, forall_eq, maxLen]
  refine ⟨⟨⟨fun j hj => absurd hj (by omega), Nat.zero_le _⟩, fun i hi hm => ⟨fun hc => ⟨⟨?_, fun _ => ?_⟩, fun h1 => ⟨⟨fun h3 => ?_, fun _ => ?_⟩, fun _ h2 _ => ⟨?_, ?_⟩⟩⟩, fun hc j hj => ?_⟩⟩, fun _ hJ => ⟨⟨fun j hj => absurd hj (by omega), Nat.zero_le _⟩, fun i hi hm => ⟨fun hc => ⟨?_, fun h1 => ⟨⟨fun h3 => ?_, fun _ => ?_⟩, fun _ h2 _ => ⟨?_, ?_⟩⟩⟩, fun hc j hj => ?_⟩⟩⟩
  all_goals simp only [LN] at hc
  · exact ⟨by omega, by omega⟩
  · exact ⟨by omega, by omega⟩
  · simp only [LN] at h3
    rw [w64_id (by omega) (by omega)]
    exact ⟨by omega, by omega⟩
  · exact ⟨by omega, by omega⟩
  · exact (w64_id (by omega) (by omega)).trans (by omega)
  · simp only [LN] at h1 h2
    refine ⟨⟨fun j hj => ?_, by omega⟩, by omega⟩
    by_cases e : j = i
    · subst e
      refine ⟨⟨?_, by omega⟩, by omega, by omega⟩
      by_cases e0 : j = 0
      · subst e0; omega
      · have h3 := hi.1 (j - 1) (by omega)
        have h4 := h2.resolve_left (by omega)
        rw [w64_id (by omega) (by omega), show ((j : Int) - 1).toNat = j - 1 by omega] at h4
        omega
    · exact hi.1 j (by omega)
  · exact hi.1 j (by omega)
  · exact ⟨by omega, by omega⟩
  · simp only [LN] at h3
    rw [w64_id (by omega) (by omega)]
    exact ⟨by omega, by omega⟩
  · exact ⟨by omega, by omega⟩
  · exact (w64_id (by omega) (by omega)).trans (by omega)
  · simp only [LN] at h1 h2
    refine ⟨⟨fun j hj => ?_, by omega⟩, by omega⟩
    by_cases e : j = i
    · subst e
      refine ⟨?_, by omega⟩
      by_cases e0 : j = 0
      · subst e0; omega
      · have h3 := hi.1 (j - 1) (by omega)
        have h4 := h2.resolve_left (by omega)
        rw [w64_id (by omega) (by omega), show ((j : Int) - 1).toNat = j - 1 by omega] at h4
        omega
    · exact hi.1 j (by omega)
  · exact hi.1 j (by omega)

noncomputable def allongeref09_RightOrder_k (o : Order) : Ctr (Bool) := kk tok mixed Tryz.func93 [av o.cells] (fun x => bv x) true (allongeref09_RightOrder_sk o) (allongeref09_RightOrder o) (fun (_ : True) => allongeref09_RightOrder_ok o) (fun (x : Bool) => x = true → (∀ j, j < o.choices.length → 0 ≤ (o.choices.getD j default).by_ ∧ (o.choices.getD j default).by_ < 5) ∧ o.choices.length ≤ 22 ∧ o.rules.length ≤ 22) (allongeref09_RightOrder_post o)
noncomputable def allongeref09_orders_sk (r : Realm) : Sk (Int) :=
 .br (decide (((r.orders.length : Nat) : Int) > 20))
 (.fin 6)
 (.bind true (fun b1 => r.ByOK ∧ (∀ i, i < r.orders.length → (r.orders.getD i default).choices.length ≤ 22 ∧ (r.orders.getD i default).rules.length ≤ 22))
 (.loop (default : Sum (Int) (Unit)) (fun i2 => i2.1.length = i2.2 ∧ i2.2 ≤ r.orders.length ∧ (∀ i j, i < i2.2 → j < (r.orders.getD i default).choices.length → 0 ≤ ((r.orders.getD i default).choices.getD j default).by_ ∧ ((r.orders.getD i default).choices.getD j default).by_ < 5) ∧ (∀ i, i < i2.2 → (r.orders.getD i default).choices.length ≤ 22 ∧ (r.orders.getD i default).rules.length ≤ 22)) (fun i2 => r.orders.length - i2.2) (([], 0) : (List ByteArray) × Nat)
 (fun (i2 : (List ByteArray) × Nat) => ⟨[(3, ow 100001 i2.1), (4, iv ((i2.2 : Nat) : Int))], [(100001, rowB 9 1 strC i2.1)]⟩) fun i2 =>
 .bnd 1 4 r.orders.length <|
 .br (decide (((i2.2 : Nat) : Int) < ((r.orders.length : Nat) : Int)))
 (.r 7 (.andl (.p (ixP ((i2.2 : Nat) : Int) r.orders.length)) (.andl (.o [.nrm (litC strE [(r.orders.getD i2.2 default).name])]) (.andl (.o [.nrm (catC strE i2.1 [(r.orders.getD i2.2 default).name])]) (.andl (.t (strE.ones [(r.orders.getD i2.2 default).name])) (.p (szP i2.1.length [(r.orders.getD i2.2 default).name].length 16)))))) fun _ =>
 .r 8 ((allongeref09_named_k (i2.1 ++ [(r.orders.getD i2.2 default).name]) ((i2.2 : Nat) : Int)).c) fun x3 =>
 .br (x3 != 0)
 (.fin (.inl (.inl x3)))
 (.r 11 (.andl (.p (ixP ((i2.2 : Nat) : Int) r.orders.length)) ((allongeref09_RightOrder_k (r.orders.getD i2.2 default)).c)) fun x4 =>
 .br (!x4)
 (.fin (.inl (.inl 1)))
 (.r 6 .z fun _ =>
 .wi 4 (w64 (((i2.2 : Nat) : Int) + 1)) ((i2.2 + 1 : Nat) : Int) <|
 .fin (.inr (i2.1 ++ [(r.orders.getD i2.2 default).name], i2.2 + 1)))))
 (.fin (.inl (.inr ()))))
 (fun (_ : Unit) => ⟨[], []⟩) fun _ =>
 .fin 0)
noncomputable def allongeref09_orders (r : Realm) : Int := (allongeref09_orders_sk r).val
theorem allongeref09_orders_pst (r : Realm) : (allongeref09_orders_sk r).pst (fun (x : Int) => x = 0 → r.ByOK ∧ r.orders.length ≤ 20 ∧ (∀ i, i < r.orders.length → (r.orders.getD i default).choices.length ≤ 22 ∧ (r.orders.getD i default).rules.length ≤ 22)) := by
  unfold allongeref09_orders_sk
  try simp only [allongeref09_RightOrder_k, allongeref09_named_k, Realm.ByOK]
  exact okP

theorem allongeref09_orders_post (r : Realm) : (fun (x : Int) => x = 0 → r.ByOK ∧ r.orders.length ≤ 20 ∧ (∀ i, i < r.orders.length → (r.orders.getD i default).choices.length ≤ 22 ∧ (r.orders.getD i default).rules.length ≤ 22)) (allongeref09_orders r) := have h := Sk.pval _ (allongeref09_orders_pst r); h
theorem allongeref09_orders_ok (r : Realm) : (allongeref09_orders_sk r).obs (fun _ => True) := by
  unfold allongeref09_orders_sk
  try simp only [allongeref09_RightOrder_k, allongeref09_named_k, Realm.ByOK]
  exact okD

noncomputable def allongeref09_orders_k (r : Realm) : Ctr (Int) := kk tok mixed Tryz.func47 [av r.cells] (fun x => iv x) true (allongeref09_orders_sk r) (allongeref09_orders r) (fun (_ : True) => allongeref09_orders_ok r) (fun (x : Int) => x = 0 → r.ByOK ∧ r.orders.length ≤ 20 ∧ (∀ i, i < r.orders.length → (r.orders.getD i default).choices.length ≤ 22 ∧ (r.orders.getD i default).rules.length ≤ 22)) (allongeref09_orders_post r)
noncomputable def allongeref09_usances_sk (r : Realm) : Sk (Int) :=
 .br (decide (((r.usances.length : Nat) : Int) > 100))
 (.fin 6)
 (.bind true (fun _ => True)
 (.loop (default : Sum (Int) (Unit)) (fun i2 => i2 ≤ r.usances.length) (fun i2 => r.usances.length - i2) (0 : Nat)
 (fun (i2 : Nat) => ⟨[(3, iv ((i2 : Nat) : Int))], []⟩) fun i2 =>
 .bnd 1 5 r.usances.length <|
 .br (decide (((i2 : Nat) : Int) < ((r.usances.length : Nat) : Int)))
 (.bind true (fun _ => True)
 (.r 6 (.p (ixP ((i2 : Nat) : Int) r.usances.length)) fun _ =>
 .r 7 (.dep ((allongeref09_Within_k ((r.usances.getD i2 default).from_) 0 (w64 (((r.cities.length : Nat) : Int) - 1))).c) fun x4 => .dep (.wh (!x4) false ((allongeref09_Within_k ((r.usances.getD i2 default).to_) 0 (w64 (((r.cities.length : Nat) : Int) - 1))).c)) fun x5 => .wh ((!x4) || (!x5)) false ((allongeref09_Within_k ((r.usances.getD i2 default).days) 1 20000).c)) fun p9 =>
 .br (((!p9.1) || (!p9.2.1)) || (!p9.2.2))
 (.fin (.inl (.inl (.inl 1))))
 (.bind true (fun _ => True)
 (.loop (default : Sum (Sum (Sum (Sum (Int) (Unit)) (Nat)) (Int × (List Usance) × Int × Usance × Int × (List City) × Int × Int × Bool × Bool × Bool × Bool × Bool × Bool × Int × Int × Bool)) (Int × Int × Int × Bool)) (fun i8 => i8 ≤ i2) (fun i8 => i2 - i8) (0 : Nat)
 (fun (i8 : Nat) => ⟨[(5, iv ((i8 : Nat) : Int))], []⟩) fun i8 =>
 .br (decide (((i8 : Nat) : Int) < ((i2 : Nat) : Int)))
 (.r 12 (.andl (.p (ixP ((i8 : Nat) : Int) r.usances.length)) (.wh (((r.usances.getD i8 default).from_) == ((r.usances.getD i2 default).from_)) true (.p (ixP ((i8 : Nat) : Int) r.usances.length)))) fun _ =>
 .br ((((r.usances.getD i8 default).from_) == ((r.usances.getD i2 default).from_)) && (((r.usances.getD i8 default).to_) == ((r.usances.getD i2 default).to_)))
 (.fin (.inl (.inl (.inl (.inl (.inl 5))))))
 (.r 11 .z fun _ =>
 .wi 5 (w64 (((i8 : Nat) : Int) + 1)) ((i8 + 1 : Nat) : Int) <|
 .fin (.inr (i8 + 1))))
 (.fin (.inl (.inr (((i8 : Nat) : Int), ((i8 : Nat) : Int), ((i2 : Nat) : Int), decide (((i8 : Nat) : Int) < ((i2 : Nat) : Int)))))))
 (fun (b7 : Int × Int × Int × Bool) => ⟨[(5, iv b7.1), (46, iv b7.2.1), (47, iv b7.2.2.1), (48, bv b7.2.2.2)], []⟩) fun b7 =>
 .fin (.inr (b7.1, r.usances, ((i2 : Nat) : Int), r.usances.getD i2 default, (r.usances.getD i2 default).from_, r.cities, ((r.cities.length : Nat) : Int), w64 (((r.cities.length : Nat) : Int) - 1), p9.1, !p9.1, !p9.1, (!p9.1) || (!p9.2.1), (!p9.1) || (!p9.2.1), ((!p9.1) || (!p9.2.1)) || (!p9.2.2), b7.2.1, b7.2.2.1, b7.2.2.2))))
 (fun (b3 : Int × (List Usance) × Int × Usance × Int × (List City) × Int × Int × Bool × Bool × Bool × Bool × Bool × Bool × Int × Int × Bool) => ⟨[(5, iv b3.1), (18, lv Usance.cells b3.2.1), (19, iv b3.2.2.1), (21, av b3.2.2.2.1.cells), (23, iv b3.2.2.2.2.1), (25, lv City.cells b3.2.2.2.2.2.1), (26, iv b3.2.2.2.2.2.2.1), (27, iv b3.2.2.2.2.2.2.2.1), (28, bv b3.2.2.2.2.2.2.2.2.1), (29, bv b3.2.2.2.2.2.2.2.2.2.1), (30, bv b3.2.2.2.2.2.2.2.2.2.2.1), (39, bv b3.2.2.2.2.2.2.2.2.2.2.2.1), (40, bv b3.2.2.2.2.2.2.2.2.2.2.2.2.1), (45, bv b3.2.2.2.2.2.2.2.2.2.2.2.2.2.1), (46, iv b3.2.2.2.2.2.2.2.2.2.2.2.2.2.2.1), (47, iv b3.2.2.2.2.2.2.2.2.2.2.2.2.2.2.2.1), (48, bv b3.2.2.2.2.2.2.2.2.2.2.2.2.2.2.2.2)], []⟩) fun _ =>
 .r 5 .z fun _ =>
 .wi 3 (w64 (((i2 : Nat) : Int) + 1)) ((i2 + 1 : Nat) : Int) <|
 .fin (.inr (i2 + 1)))
 (.fin (.inl (.inr ()))))
 (fun (_ : Unit) => ⟨[], []⟩) fun _ =>
 .fin 0)
noncomputable def allongeref09_usances (r : Realm) : Int := (allongeref09_usances_sk r).val
theorem allongeref09_usances_pst (r : Realm) : (allongeref09_usances_sk r).pst (fun (x : Int) => x = 0 → r.usances.length ≤ 100) := by
  unfold allongeref09_usances_sk
  try simp only [allongeref09_Within_k, allongeref09_Within_eq]
  exact okQ

theorem allongeref09_usances_post (r : Realm) : (fun (x : Int) => x = 0 → r.usances.length ≤ 100) (allongeref09_usances r) := have h := Sk.pval _ (allongeref09_usances_pst r); h
theorem allongeref09_usances_ok (r : Realm) : (allongeref09_usances_sk r).obs (fun _ => True) := by
  unfold allongeref09_usances_sk
  try simp only [allongeref09_Within_k, allongeref09_Within_eq]
  exact okG

noncomputable def allongeref09_usances_k (r : Realm) : Ctr (Int) := kk tok mixed Tryz.func48 [av r.cells] (fun x => iv x) true (allongeref09_usances_sk r) (allongeref09_usances r) (fun (_ : True) => allongeref09_usances_ok r) (fun (x : Int) => x = 0 → r.usances.length ≤ 100) (allongeref09_usances_post r)
noncomputable def allongeref09_others_sk (r : Realm) : Sk (Int) :=
 .br (decide (((r.rates.length : Nat) : Int) > 100))
 (.fin 6)
 (.bind true (fun b1 => r.RateOK)
 (.loop (default : Sum (Int) (Unit)) (fun i2 => i2 ≤ r.rates.length ∧ (∀ i, i < i2 → (1 ≤ (r.rates.getD i default).num ∧ (r.rates.getD i default).num ≤ 1073741824) ∧ 1 ≤ (r.rates.getD i default).den ∧ (r.rates.getD i default).den ≤ 1073741824)) (fun i2 => r.rates.length - i2) (0 : Nat)
 (fun (i2 : Nat) => ⟨[(3, iv ((i2 : Nat) : Int))], []⟩) fun i2 =>
 .bnd 1 6 r.rates.length <|
 .br (decide (((i2 : Nat) : Int) < ((r.rates.length : Nat) : Int)))
 (.r 6 (.p (ixP ((i2 : Nat) : Int) r.rates.length)) fun _ =>
 .r 7 (.dep ((allongeref09_Within_k ((r.rates.getD i2 default).from_) 0 (w64 (((r.currencies.length : Nat) : Int) - 1))).c) fun x3 => .wh (!x3) false ((allongeref09_Within_k ((r.rates.getD i2 default).to_) 0 (w64 (((r.currencies.length : Nat) : Int) - 1))).c)) fun p9 =>
 .br (((!p9.1) || (!p9.2)) || (((r.rates.getD i2 default).from_) == ((r.rates.getD i2 default).to_)))
 (.fin (.inl (.inl 1)))
 (.r 9 (.dep ((allongeref09_Within_k ((r.rates.getD i2 default).num) 1 1073741824).c) fun x5 => .dep (.wh (!x5) false ((allongeref09_Within_k ((r.rates.getD i2 default).den) 1 1073741824).c)) fun x6 => .wh ((!x5) || (!x6)) false ((allongeref09_Within_k ((r.rates.getD i2 default).since) 0 100000).c)) fun p8 =>
 .br (((!p8.1) || (!p8.2.1)) || (!p8.2.2))
 (.fin (.inl (.inl 1)))
 (.r 5 .z fun _ =>
 .wi 3 (w64 (((i2 : Nat) : Int) + 1)) ((i2 + 1 : Nat) : Int) <|
 .fin (.inr (i2 + 1)))))
 (.fin (.inl (.inr ()))))
 (fun (_ : Unit) => ⟨[], []⟩) fun _ =>
 .br (decide (((r.halts.length : Nat) : Int) > 20))
 (.fin 6)
 (.bind true (fun b10 => r.HaltOK)
 (.loop (default : Sum (Int) (Unit)) (fun i11 => i11 ≤ r.halts.length ∧ (∀ i, i < i11 → (r.halts.getD i default).to_ ≤ 100000)) (fun i11 => r.halts.length - i11) (0 : Nat)
 (fun (i11 : Nat) => ⟨[(5, iv ((i11 : Nat) : Int))], []⟩) fun i11 =>
 .bnd 1 7 r.halts.length <|
 .br (decide (((i11 : Nat) : Int) < ((r.halts.length : Nat) : Int)))
 (.r 16 (.p (ixP ((i11 : Nat) : Int) r.halts.length)) fun _ =>
 .r 17 (.dep ((allongeref09_Within_k ((r.halts.getD i11 default).order) 0 (w64 (((r.orders.length : Nat) : Int) - 1))).c) fun x12 => .wh (!x12) false ((allongeref09_Within_k ((r.halts.getD i11 default).from_) 0 ((r.halts.getD i11 default).to_)).c)) fun p14 =>
 .br (((!p14.1) || (!p14.2)) || (decide (((r.halts.getD i11 default).to_) > 100000)))
 (.fin (.inl (.inl 1)))
 (.r 15 .z fun _ =>
 .wi 5 (w64 (((i11 : Nat) : Int) + 1)) ((i11 + 1 : Nat) : Int) <|
 .fin (.inr (i11 + 1))))
 (.fin (.inl (.inr ()))))
 (fun (_ : Unit) => ⟨[], []⟩) fun _ =>
 .fin 0))
noncomputable def allongeref09_others (r : Realm) : Int := (allongeref09_others_sk r).val
theorem allongeref09_others_pst (r : Realm) : (allongeref09_others_sk r).pst (fun (x : Int) => x = 0 → r.rates.length ≤ 100 ∧ r.halts.length ≤ 20 ∧ r.RateOK ∧ r.HaltOK) := by
  unfold allongeref09_others_sk
  try simp only [allongeref09_Within_k, allongeref09_Within_eq, Realm.HaltOK, Realm.RateOK]
  exact okQ

theorem allongeref09_others_post (r : Realm) : (fun (x : Int) => x = 0 → r.rates.length ≤ 100 ∧ r.halts.length ≤ 20 ∧ r.RateOK ∧ r.HaltOK) (allongeref09_others r) := have h := Sk.pval _ (allongeref09_others_pst r); h
theorem allongeref09_others_ok (r : Realm) : (allongeref09_others_sk r).obs (fun _ => True) := by
  unfold allongeref09_others_sk
  try simp only [allongeref09_Within_k, allongeref09_Within_eq, Realm.HaltOK, Realm.RateOK]
  exact okG

noncomputable def allongeref09_others_k (r : Realm) : Ctr (Int) := kk tok mixed Tryz.func49 [av r.cells] (fun x => iv x) true (allongeref09_others_sk r) (allongeref09_others r) (fun (_ : True) => allongeref09_others_ok r) (fun (x : Int) => x = 0 → r.rates.length ≤ 100 ∧ r.halts.length ≤ 20 ∧ r.RateOK ∧ r.HaltOK) (allongeref09_others_post r)
noncomputable def allongeref09_Check_sk (r : Realm) : Sk (Int) :=
 .r 1 ((allongeref09_cities_k r).c) fun x1 =>
 .bind false (fun b2 => b2 = 0 → r.currencies.length ≤ 8 ∧ r.cities.length ≤ 40 ∧ r.groups.length ≤ 20 ∧ r.firms.length ≤ 200 ∧ r.FirmOK)
 (.br (x1 == 0)
 (.r 3 ((allongeref09_firms_k r).c) fun x3 =>
 .fin (.inr x3))
 (.fin (.inr x1)))
 (fun (b2 : Int) => ⟨[(3, iv b2)], []⟩) fun b2 =>
 .bind false (fun b4 => b4 = 0 → r.currencies.length ≤ 8 ∧ r.cities.length ≤ 40 ∧ r.groups.length ≤ 20 ∧ r.firms.length ≤ 200 ∧ r.FirmOK ∧ r.ByOK ∧ r.orders.length ≤ 20 ∧ (∀ i, i < r.orders.length → (r.orders.getD i default).choices.length ≤ 22 ∧ (r.orders.getD i default).rules.length ≤ 22))
 (.br (b2 == 0)
 (.r 5 ((allongeref09_orders_k r).c) fun x5 =>
 .fin (.inr x5))
 (.fin (.inr b2)))
 (fun (b4 : Int) => ⟨[(3, iv b4)], []⟩) fun b4 =>
 .bind false (fun b6 => b6 = 0 → r.currencies.length ≤ 8 ∧ r.cities.length ≤ 40 ∧ r.groups.length ≤ 20 ∧ r.firms.length ≤ 200 ∧ r.FirmOK ∧ r.ByOK ∧ r.orders.length ≤ 20 ∧ (∀ i, i < r.orders.length → (r.orders.getD i default).choices.length ≤ 22 ∧ (r.orders.getD i default).rules.length ≤ 22) ∧ r.usances.length ≤ 100)
 (.br (b4 == 0)
 (.r 7 ((allongeref09_usances_k r).c) fun x7 =>
 .fin (.inr x7))
 (.fin (.inr b4)))
 (fun (b6 : Int) => ⟨[(3, iv b6)], []⟩) fun b6 =>
 .br (b6 == 0)
 (.r 9 ((allongeref09_others_k r).c) fun x8 =>
 .fin x8)
 (.fin b6)
noncomputable def allongeref09_Check (r : Realm) : Int := (allongeref09_Check_sk r).val
theorem allongeref09_Check_pst (r : Realm) : (allongeref09_Check_sk r).pst (fun (x : Int) => x = 0 → r.currencies.length ≤ 8 ∧ r.cities.length ≤ 40 ∧ r.groups.length ≤ 20 ∧ r.firms.length ≤ 200 ∧ r.FirmOK ∧ r.ByOK ∧ r.orders.length ≤ 20 ∧ (∀ i, i < r.orders.length → (r.orders.getD i default).choices.length ≤ 22 ∧ (r.orders.getD i default).rules.length ≤ 22) ∧ r.usances.length ≤ 100 ∧ r.rates.length ≤ 100 ∧ r.halts.length ≤ 20 ∧ r.RateOK ∧ r.HaltOK) := by
  refine Sk.pst_of _ ?_
  unfold allongeref09_Check_sk
  simp only [Sk.pstq, Sk.isLoop, reduceCtorEq, ON, kk, allongeref09_cities_k, allongeref09_firms_k, allongeref09_orders_k, allongeref09_others_k, allongeref09_usances_k, maxLen]
  intro x _ hx
  refine ⟨⟨fun h y _ hy h0 => ?_, fun h h0 => ?_⟩, fun b _ hb => ⟨⟨fun h y _ hy h0 => ?_, fun h h0 => ?_⟩, fun b2 _ hb2 => ⟨⟨fun h y _ hy h0 => ?_, fun h h0 => ?_⟩, fun b3 _ hb3 => ⟨fun h y _ hy h0 => ?_, fun h h0 => ?_⟩⟩⟩⟩
  · have hx := hx (by simpa using h); have hy := hy hx.2 h0; exact ⟨hx.1, hx.2, hy⟩
  · rw [h0] at h; exact absurd h (by decide)
  · have hb := hb (by simpa using h); exact ⟨hb.1, hb.2.1, hb.2.2.1, hb.2.2.2.1, hb.2.2.2.2, hy h0⟩
  · rw [h0] at h; exact absurd h (by decide)
  · have hb := hb2 (by simpa using h); exact ⟨hb.1, hb.2.1, hb.2.2.1, hb.2.2.2.1, hb.2.2.2.2.1, hb.2.2.2.2.2.1, hb.2.2.2.2.2.2.1, hb.2.2.2.2.2.2.2, hy h0⟩
  · rw [h0] at h; exact absurd h (by decide)
  · have hb := hb3 (by simpa using h); exact ⟨hb.1, hb.2.1, hb.2.2.1, hb.2.2.2.1, hb.2.2.2.2.1, hb.2.2.2.2.2.1, hb.2.2.2.2.2.2.1, hb.2.2.2.2.2.2.2.1, hb.2.2.2.2.2.2.2.2, hy h0⟩
  · rw [h0] at h; exact absurd h (by decide)

theorem allongeref09_Check_post (r : Realm) : (fun (x : Int) => x = 0 → r.currencies.length ≤ 8 ∧ r.cities.length ≤ 40 ∧ r.groups.length ≤ 20 ∧ r.firms.length ≤ 200 ∧ r.FirmOK ∧ r.ByOK ∧ r.orders.length ≤ 20 ∧ (∀ i, i < r.orders.length → (r.orders.getD i default).choices.length ≤ 22 ∧ (r.orders.getD i default).rules.length ≤ 22) ∧ r.usances.length ≤ 100 ∧ r.rates.length ≤ 100 ∧ r.halts.length ≤ 20 ∧ r.RateOK ∧ r.HaltOK) (allongeref09_Check r) := have h := Sk.pval _ (allongeref09_Check_pst r); h
theorem allongeref09_Check_ok (r : Realm) : (allongeref09_Check_sk r).obs (fun _ => True) := by
  refine Sk.obs_of _ ?_
  unfold allongeref09_Check_sk
  simp only [Sk.obq, Sk.isLoop, reduceCtorEq, ON, kk, allongeref09_cities_k, allongeref09_firms_k, allongeref09_orders_k, allongeref09_others_k, allongeref09_usances_k, maxLen]
  intro x _ hx
  refine ⟨⟨fun h y _ hy h0 => ?_, fun h h0 => ?_⟩, fun b _ hb => ⟨⟨fun h y _ hy h0 => ?_, fun h h0 => ?_⟩, fun b2 _ hb2 => ⟨fun h y _ hy h0 => ?_, fun h h0 => ?_⟩⟩⟩
  · have hx := hx (by simpa using h); have hy := hy hx.2 h0; exact ⟨hx.1, hx.2, hy⟩
  · rw [h0] at h; exact absurd h (by decide)
  · have hb := hb (by simpa using h); exact ⟨hb.1, hb.2.1, hb.2.2.1, hb.2.2.2.1, hb.2.2.2.2, hy h0⟩
  · rw [h0] at h; exact absurd h (by decide)
  · have hb := hb2 (by simpa using h); exact ⟨hb.1, hb.2.1, hb.2.2.1, hb.2.2.2.1, hb.2.2.2.2.1, hb.2.2.2.2.2.1, hb.2.2.2.2.2.2.1, hb.2.2.2.2.2.2.2, hy h0⟩
  · rw [h0] at h; exact absurd h (by decide)

noncomputable def allongeref09_Check_k (r : Realm) : Ctr (Int) := kk tok mixed Tryz.func25 [av r.cells] (fun x => iv x) true (allongeref09_Check_sk r) (allongeref09_Check r) (fun (_ : True) => allongeref09_Check_ok r) (fun (x : Int) => x = 0 → r.currencies.length ≤ 8 ∧ r.cities.length ≤ 40 ∧ r.groups.length ≤ 20 ∧ r.firms.length ≤ 200 ∧ r.FirmOK ∧ r.ByOK ∧ r.orders.length ≤ 20 ∧ (∀ i, i < r.orders.length → (r.orders.getD i default).choices.length ≤ 22 ∧ (r.orders.getD i default).rules.length ≤ 22) ∧ r.usances.length ≤ 100 ∧ r.rates.length ≤ 100 ∧ r.halts.length ≤ 20 ∧ r.RateOK ∧ r.HaltOK) (allongeref09_Check_post r)
noncomputable def allongeref15_size_kr (rv : Term → Int → Int → Int) (rp : Term → Int → Int → Prop) (rf : ∀ (t : Term) (n : Int) (levels : Int), rp t n levels → FnA Tryz.prog 50 [av t.cells, iv n, iv levels] [] (iv (rv t n levels)) []) (t : Term) (n : Int) (levels : Int) : Ctr (Int) := ⟨Tryz.prog, 50, [av t.cells, iv n, iv levels], fun x => iv x, true, rv t n levels, rp t n levels, rf t n levels, fun _ => True, trivial⟩
noncomputable def allongeref15_size_sk (rv : Term → Int → Int → Int) (rp : Term → Int → Int → Prop) (rf : ∀ (t : Term) (n : Int) (levels : Int), rp t n levels → FnA Tryz.prog 50 [av t.cells, iv n, iv levels] [] (iv (rv t n levels)) []) (t : Term) (n : Int) (levels : Int) : Sk (Int) :=
 .br (decide (levels < 1))
 (.fin (-1))
 (.bind true (fun _ => True)
 (.loop (default : Sum (Int) (Int)) (fun i2 => i2.2 ≤ t.args.length) (fun i2 => t.args.length - i2.2) ((w64 (n - 1), 0) : Int × Nat)
 (fun (i2 : Int × Nat) => ⟨[(1, iv i2.1), (7, iv ((i2.2 : Nat) : Int))], []⟩) fun i2 =>
 .bnd 3 2 t.args.length <|
 .br ((decide (((i2.2 : Nat) : Int) < ((t.args.length : Nat) : Int))) && (decide (i2.1 ≥ 0)))
 (.r 7 (.andl (.andl (.p (ixP ((i2.2 : Nat) : Int) t.args.length)) (.o [.cast 26 (refC (Term.unroll (t.args.getD i2.2 default)))])) ((allongeref15_size_kr rv rp rf (t.args.getD i2.2 default) i2.1 (w64 (levels - 1))).c)) fun x3 =>
 .r 6 .z fun _ =>
 .wi 7 (w64 (((i2.2 : Nat) : Int) + 1)) ((i2.2 + 1 : Nat) : Int) <|
 .fin (.inr (x3, i2.2 + 1)))
 (.fin (.inl (.inr i2.1))))
 (fun (b1 : Int) => ⟨[(1, iv b1)], []⟩) fun b1 =>
 .fin b1)
noncomputable def allongeref15_size_n : Nat → Term → Int → Int → Int
  | 0, _, _, _ => default
  | fu + 1, t, n, levels => (allongeref15_size_sk (allongeref15_size_n fu) (fun _ _ _ => False) (fun _ _ _ => fun h => h.elim) t n levels).val
theorem allongeref15_size_ok (fu : Nat) (rf : ∀ (t : Term) (n : Int) (levels : Int), t.depth ≤ fu ∧ True → FnA Tryz.prog 50 [av t.cells, iv n, iv levels] [] (iv (allongeref15_size_n fu t n levels)) []) (t : Term) (n : Int) (levels : Int) (hm : t.depth ≤ fu + 1) : (allongeref15_size_sk (allongeref15_size_n fu) (fun t n levels => t.depth ≤ fu ∧ True) rf t n levels).obs (fun _ => True) := by
  refine Sk.obs_of _ ?_
  unfold allongeref15_size_sk
  simp only [Sk.obq, Sk.isLoop, reduceCtorEq, ON, kk, allongeref15_size_kr, maxLen]
  all_goals (repeat' first | assumption | (apply And.intro) | (intro h))
  all_goals first | trivial | assumption | omega | (refine Nat.le_of_lt_succ (Nat.lt_of_lt_of_le (Term.depth_args t _ (by (try simp only [LN] at *); omega)) hm)) | ((try simp only [LN] at *) <;> first | omega | (refine (w64_id ?_ ?_).trans ?_ <;> omega) | (simp (disch := omega) only [w64_id] at *; omega) | (grind) | (simp_all; done) | (simp_all; omega))

theorem allongeref15_size_val (fu : Nat) (rp : Term → Int → Int → Prop) (rf : ∀ (t : Term) (n : Int) (levels : Int), rp t n levels → FnA Tryz.prog 50 [av t.cells, iv n, iv levels] [] (iv (allongeref15_size_n fu t n levels)) []) (t : Term) (n : Int) (levels : Int) : (allongeref15_size_sk (allongeref15_size_n fu) rp rf t n levels).val = allongeref15_size_n (fu + 1) t n levels := by kernel_rfl
theorem allongeref15_size_fnN (fu : Nat) : ∀ (t : Term) (n : Int) (levels : Int), t.depth ≤ fu → FnA Tryz.prog 50 [av t.cells, iv n, iv levels] [] (iv (allongeref15_size_n fu t n levels)) [] := by
  induction fu with
  | zero => intro t n levels hm; exact absurd hm (by have := Term.depth_pos t; omega)
  | succ fu ih =>
    intro t n levels hm
    have h : FnA Tryz.prog 50 [av t.cells, iv n, iv levels] [] (iv ((allongeref15_size_sk (allongeref15_size_n fu) (fun t n levels => t.depth ≤ fu ∧ True) (fun t n levels h => ih t n levels h.1) t n levels).val)) [] := FnA.sk tok mixed (fun x => iv x) (fun _ => []) Tryz.func50 rfl (by kernel_rfl) 3000 (allongeref15_size_sk (allongeref15_size_n fu) (fun t n levels => t.depth ≤ fu ∧ True) (fun t n levels h => ih t n levels h.1) t n levels) (by kernel_rfl) (allongeref15_size_ok fu _ t n levels hm)
    rw [allongeref15_size_val] at h
    exact h
noncomputable def allongeref15_size (t : Term) (n : Int) (levels : Int) : Int := allongeref15_size_n (t.depth) t n levels
theorem allongeref15_size_fn (t : Term) (n : Int) (levels : Int) : FnA Tryz.prog 50 [av t.cells, iv n, iv levels] [] (iv (allongeref15_size t n levels)) [] := allongeref15_size_fnN _ t n levels (Nat.le_refl _)
noncomputable def allongeref15_size_k (t : Term) (n : Int) (levels : Int) : Ctr (Int) := ⟨Tryz.prog, 50, [av t.cells, iv n, iv levels], fun x => iv x, true, allongeref15_size t n levels, True, fun _ => allongeref15_size_fn t n levels, fun _ => True, trivial⟩
noncomputable def allongeref15_Few_sk (t : Term) : Sk (Bool) :=
 .r 1 ((allongeref15_size_k t 100 20).c) fun x1 =>
 .fin (decide (x1 ≥ 0))
noncomputable def allongeref15_Few (t : Term) : Bool := (allongeref15_Few_sk t).val
theorem allongeref15_Few_ok (t : Term) : (allongeref15_Few_sk t).obs (fun _ => True) := by
  unfold allongeref15_Few_sk
  try simp only [allongeref15_size_k]
  exact okE

noncomputable def allongeref15_Few_k (t : Term) : Ctr (Bool) := kk tok mixed Tryz.func26 [av t.cells] (fun x => bv x) true (allongeref15_Few_sk t) (allongeref15_Few t) (fun (_ : True) => allongeref15_Few_ok t)
noncomputable def allongeref10_at_sk (n : Int) (length : Int) : Sk (Bool) :=
 .fin ((decide (n ≥ 0)) && (decide (n < length)))
noncomputable def allongeref10_at (n : Int) (length : Int) : Bool := (allongeref10_at_sk n length).val
theorem allongeref10_at_eq (n : Int) (length : Int) : allongeref10_at n length = ((decide (n ≥ 0)) && (decide (n < length))) := rfl
theorem allongeref10_at_ok (n : Int) (length : Int) : (allongeref10_at_sk n length).obs (fun _ => True) := by
  unfold allongeref10_at_sk
  exact okE

noncomputable def allongeref10_at_k (n : Int) (length : Int) : Ctr (Bool) := kk tok mixed Tryz.func94 [iv n, iv length] (fun x => bv x) true (allongeref10_at_sk n length) (allongeref10_at n length) (fun (_ : True) => allongeref10_at_ok n length)
noncomputable def allongeref10_none_sk (n : Int) (length : Int) : Sk (Bool) :=
 .r 1 (.wh (n == (-1)) false ((allongeref10_at_k n length).c)) fun x1 =>
 .fin ((n == (-1)) || x1)
noncomputable def allongeref10_none (n : Int) (length : Int) : Bool := (allongeref10_none_sk n length).val
theorem allongeref10_none_ok (n : Int) (length : Int) : (allongeref10_none_sk n length).obs (fun _ => True) := by
  unfold allongeref10_none_sk
  try simp only [allongeref10_at_k, allongeref10_at_eq]
  exact okG

noncomputable def allongeref10_none_k (n : Int) (length : Int) : Ctr (Bool) := kk tok mixed Tryz.func95 [iv n, iv length] (fun x => bv x) true (allongeref10_none_sk n length) (allongeref10_none n length) (fun (_ : True) => allongeref10_none_ok n length)
noncomputable def allongeref04_Valid_sk (day : Int) : Sk (Bool) :=
 .fin ((decide (day ≥ 0)) && (decide (day ≤ 100000)))
noncomputable def allongeref04_Valid (day : Int) : Bool := (allongeref04_Valid_sk day).val
theorem allongeref04_Valid_eq (day : Int) : allongeref04_Valid day = ((decide (day ≥ 0)) && (decide (day ≤ 100000))) := rfl
theorem allongeref04_Valid_ok (day : Int) : (allongeref04_Valid_sk day).obs (fun _ => True) := by
  unfold allongeref04_Valid_sk
  exact okE

noncomputable def allongeref04_Valid_k (day : Int) : Ctr (Bool) := kk tok mixed Tryz.func96 [iv day] (fun x => bv x) true (allongeref04_Valid_sk day) (allongeref04_Valid day) (fun (_ : True) => allongeref04_Valid_ok day)
noncomputable def allongeref10_Tenor_sk (b : Bill) : Sk (Bool) :=
 .br ((b.tenor.kind == 0) || (b.tenor.kind == 4))
 (.fin ((b.tenor.n == 0) && (b.tenor.unit == 0)))
 (.br ((b.tenor.kind == 1) || (b.tenor.kind == 2))
 (.fin (((decide (b.tenor.n ≥ 1)) && (decide (b.tenor.n ≤ 400))) && ((b.tenor.unit == 0) || (b.tenor.unit == 1))))
 (.fin ((((b.tenor.kind == 3) && (decide (b.tenor.n ≥ b.day))) && (decide (b.tenor.n ≤ 100000))) && (b.tenor.unit == 0))))
noncomputable def allongeref10_Tenor (b : Bill) : Bool := (allongeref10_Tenor_sk b).val
theorem allongeref10_Tenor_ok (b : Bill) : (allongeref10_Tenor_sk b).obs (fun _ => True) := by
  unfold allongeref10_Tenor_sk
  exact okE

noncomputable def allongeref10_Tenor_k (b : Bill) : Ctr (Bool) := kk tok mixed Tryz.func97 [av b.cells] (fun x => bv x) true (allongeref10_Tenor_sk b) (allongeref10_Tenor b) (fun (_ : True) => allongeref10_Tenor_ok b)
noncomputable def allongeref09_Usance_sk (r : Realm) (from_ : Int) (to_ : Int) : Sk (Int × Int) :=
 .bind true (fun _ => True)
 (.loop (default : Sum (Int × Int) (Unit)) (fun i2 => i2 ≤ r.usances.length) (fun i2 => r.usances.length - i2) (0 : Nat)
 (fun (i2 : Nat) => ⟨[(8, iv ((i2 : Nat) : Int))], []⟩) fun i2 =>
 .bnd 3 5 r.usances.length <|
 .br (decide (((i2 : Nat) : Int) < ((r.usances.length : Nat) : Int)))
 (.r 4 (.andl (.p (ixP ((i2 : Nat) : Int) r.usances.length)) (.wh (((r.usances.getD i2 default).from_) == from_) true (.p (ixP ((i2 : Nat) : Int) r.usances.length)))) fun _ =>
 .br ((((r.usances.getD i2 default).from_) == from_) && (((r.usances.getD i2 default).to_) == to_))
 (.r 5 (.p (ixP ((i2 : Nat) : Int) r.usances.length)) fun _ =>
 .fin (.inl (.inl ((r.usances.getD i2 default).days, 0))))
 (.r 3 .z fun _ =>
 .wi 8 (w64 (((i2 : Nat) : Int) + 1)) ((i2 + 1 : Nat) : Int) <|
 .fin (.inr (i2 + 1))))
 (.fin (.inl (.inr ()))))
 (fun (_ : Unit) => ⟨[], []⟩) fun _ =>
 .fin (0, 4)
noncomputable def allongeref09_Usance (r : Realm) (from_ : Int) (to_ : Int) : Int × Int := (allongeref09_Usance_sk r from_ to_).val
theorem allongeref09_Usance_ok (r : Realm) (from_ : Int) (to_ : Int) : (allongeref09_Usance_sk r from_ to_).obs (fun _ => True) := by
  unfold allongeref09_Usance_sk
  exact okD

noncomputable def allongeref09_Usance_k (r : Realm) (from_ : Int) (to_ : Int) : Ctr (Int × Int) := kk tok mixed Tryz.func98 [av r.cells, iv from_, iv to_] (fun x => .tup [iv x.1, iv x.2]) true (allongeref09_Usance_sk r from_ to_) (allongeref09_Usance r from_ to_) (fun (_ : True) => allongeref09_Usance_ok r from_ to_)
noncomputable def allongeref10_Check_sk (r : Realm) (b : Bill) : Sk (Int) :=
 .r 1 ((allongeref09_Check_k r).c) fun x1 =>
 .br (x1 != 0)
 (.fin x1)
 (.r 6 (.dep ((allongeref10_at_k b.drawer ((r.firms.length : Nat) : Int)).c) fun x2 => .dep (.wh (!x2) false ((allongeref10_at_k b.drawee ((r.firms.length : Nat) : Int)).c)) fun x3 => .dep (.wh ((!x2) || (!x3)) false ((allongeref10_none_k b.payee ((r.firms.length : Nat) : Int)).c)) fun x4 => .dep (.wh (((!x2) || (!x3)) || (!x4)) false ((allongeref10_none_k b.need ((r.firms.length : Nat) : Int)).c)) fun x5 => .dep (.wh ((((!x2) || (!x3)) || (!x4)) || (!x5)) false ((allongeref10_at_k b.currency ((r.currencies.length : Nat) : Int)).c)) fun x6 => .dep (.wh (((((!x2) || (!x3)) || (!x4)) || (!x5)) || (!x6)) false ((allongeref10_at_k b.city ((r.cities.length : Nat) : Int)).c)) fun x7 => .wh ((((((!x2) || (!x3)) || (!x4)) || (!x5)) || (!x6)) || (!x7)) false ((allongeref10_at_k b.pay ((r.cities.length : Nat) : Int)).c)) fun p12 =>
 .br (((((((!p12.1) || (!p12.2.1)) || (!p12.2.2.1)) || (!p12.2.2.2.1)) || (!p12.2.2.2.2.1)) || (!p12.2.2.2.2.2.1)) || (!p12.2.2.2.2.2.2))
 (.fin 1)
 (.r 8 (.wh ((decide (b.sum < 1)) || (decide (b.sum > 1099511627776))) false ((allongeref04_Valid_k b.day).c)) fun x9 =>
 .br (((((decide (b.sum < 1)) || (decide (b.sum > 1099511627776))) || (!x9)) || (decide (b.rate < 0))) || (decide (b.rate > 1000)))
 (.fin 3)
 (.br ((decide (b.parts < 1)) || (decide (b.parts > 4)))
 (.fin 15)
 (.r 12 (.wh (((decide (b.flags < 0)) || (decide (b.flags > 7))) || ((b.payee == (-1)) && ((andK .i64 b.flags 4) != 0))) false ((allongeref10_Tenor_k b).c)) fun x10 =>
 .br ((((decide (b.flags < 0)) || (decide (b.flags > 7))) || ((b.payee == (-1)) && ((andK .i64 b.flags 4) != 0))) || (!x10))
 (.fin 2)
 (.br (b.tenor.kind != 4)
 (.fin 0)
 (.r 16 ((allongeref09_Usance_k r b.city b.pay).c) fun x11 =>
 .fin x11.2))))))
noncomputable def allongeref10_Check (r : Realm) (b : Bill) : Int := (allongeref10_Check_sk r b).val
theorem allongeref10_Check_pst (r : Realm) (b : Bill) : (allongeref10_Check_sk r b).pst (fun (x : Int) => x = 0 → BillR r b) := by
  refine Sk.pst_of _ ?_
  unfold allongeref10_Check_sk
  simp (maxSteps := 2000000) only [Sk.pstq, Sk.isLoop, reduceCtorEq, ON, kk, allongeref04_Valid_k, allongeref09_Check_k, allongeref09_Usance_k, allongeref10_Tenor_k, allongeref10_at_k, allongeref10_none_k, allongeref04_Valid_eq, allongeref10_at_eq, forall_eq, Realm.ByOK, Realm.HaltOK, Realm.FirmOK, Realm.RateOK, maxLen]
  all_goals (repeat' first | assumption | (apply And.intro) | (intro h))
  all_goals first | trivial | assumption | omega | ((try simp only [LN] at *) <;> first | omega | (refine (w64_id ?_ ?_).trans ?_ <;> omega) | (simp (disch := omega) only [w64_id] at *; omega) | (grind) | (simp_all; done) | (simp_all; omega))

theorem allongeref10_Check_post (r : Realm) (b : Bill) : (fun (x : Int) => x = 0 → BillR r b) (allongeref10_Check r b) := have h := Sk.pval _ (allongeref10_Check_pst r b); h
theorem allongeref10_Check_ok (r : Realm) (b : Bill) : (allongeref10_Check_sk r b).obs (fun _ => True) := by
  refine Sk.obs_of _ ?_
  unfold allongeref10_Check_sk
  simp (maxSteps := 2000000) only [Sk.obq, Sk.isLoop, reduceCtorEq, ON, kk, allongeref04_Valid_k, allongeref09_Check_k, allongeref09_Usance_k, allongeref10_Tenor_k, allongeref10_at_k, allongeref10_none_k, allongeref04_Valid_eq, allongeref10_at_eq, forall_eq, Realm.ByOK, Realm.HaltOK, Realm.FirmOK, Realm.RateOK, maxLen]

noncomputable def allongeref10_Check_k (r : Realm) (b : Bill) : Ctr (Int) := kk tok mixed Tryz.func51 [av r.cells, av b.cells] (fun x => iv x) true (allongeref10_Check_sk r b) (allongeref10_Check r b) (fun (_ : True) => allongeref10_Check_ok r b) (fun (x : Int) => x = 0 → BillR r b) (allongeref10_Check_post r b)
noncomputable def allongeref12_On_sk (f : File) (i : Int) (part : Int) : Sk (Bool) :=
 .r 1 (.wh (i == 0) false (.p (ixP i f.signs.length))) fun _ =>
 .fin ((i == 0) || (((f.signs.getD i.toNat default).part) == part))
noncomputable def allongeref12_On (f : File) (i : Int) (part : Int) : Bool := (allongeref12_On_sk f i part).val
theorem allongeref12_On_ok (f : File) (i : Int) (part : Int) (hs : i = 0 ∨ (0 ≤ i ∧ i < (f.signs.length : Int))) : (allongeref12_On_sk f i part).obs (fun _ => True) := by
  unfold allongeref12_On_sk
  exact okD

noncomputable def allongeref12_On_k (f : File) (i : Int) (part : Int) : Ctr (Bool) := kk tok mixed Tryz.func143 [av f.cells, iv i, iv part] (fun x => bv x) true (allongeref12_On_sk f i part) (allongeref12_On f i part) (fun (h : (i = 0 ∨ (0 ≤ i ∧ i < (f.signs.length : Int)))) => allongeref12_On_ok f i part h)
noncomputable def allongeref12_backs_sk (f : File) (i : Int) : Sk (Bool) :=
 .r 1 (.p (ixP i f.signs.length)) fun _ =>
 .r 2 (.dep ((allongeref09_Within_k ((f.signs.getD i.toNat default).for_) 0 (w64 (i - 1))).c) fun x1 => .andl (.wh x1 true (.p (ixP i f.signs.length))) (.wh x1 true ((allongeref12_On_k f ((f.signs.getD i.toNat default).for_) ((f.signs.getD i.toNat default).part)).c))) fun p3 =>
 .fin (p3.1 && p3.2)
noncomputable def allongeref12_backs (f : File) (i : Int) : Bool := (allongeref12_backs_sk f i).val
theorem allongeref12_backs_pst (f : File) (i : Int) (hP : (0 ≤ i ∧ i < (f.signs.length : Int)) ∧ f.signs.length ≤ 40) : (allongeref12_backs_sk f i).pst (fun (x : Bool) => x = true → 0 ≤ (f.signs.getD i.toNat default).for_ ∧ (f.signs.getD i.toNat default).for_ < i) := by
  unfold allongeref12_backs_sk
  try simp only [allongeref09_Within_k, allongeref12_On_k, allongeref09_Within_eq]
  exact okQ

theorem allongeref12_backs_post (f : File) (i : Int) : (fun (x : Bool) => ((0 ≤ i ∧ i < (f.signs.length : Int)) ∧ f.signs.length ≤ 40) → (x = true → 0 ≤ (f.signs.getD i.toNat default).for_ ∧ (f.signs.getD i.toNat default).for_ < i)) (allongeref12_backs f i) := fun hP => Sk.pval _ (allongeref12_backs_pst f i hP)
theorem allongeref12_backs_ok (f : File) (i : Int) (hs : 0 ≤ i ∧ i < (f.signs.length : Int)) (hn : f.signs.length ≤ 40) : (allongeref12_backs_sk f i).obs (fun _ => True) := by
  unfold allongeref12_backs_sk
  try simp only [allongeref09_Within_k, allongeref12_On_k, allongeref09_Within_eq]
  exact okG

noncomputable def allongeref12_backs_k (f : File) (i : Int) : Ctr (Bool) := kk tok mixed Tryz.func142 [av f.cells, iv i] (fun x => bv x) true (allongeref12_backs_sk f i) (allongeref12_backs f i) (fun (h : (0 ≤ i ∧ i < (f.signs.length : Int)) ∧ (f.signs.length ≤ 40)) => allongeref12_backs_ok f i h.1 h.2) (fun (x : Bool) => ((0 ≤ i ∧ i < (f.signs.length : Int)) ∧ f.signs.length ≤ 40) → (x = true → 0 ≤ (f.signs.getD i.toNat default).for_ ∧ (f.signs.getD i.toNat default).for_ < i)) (allongeref12_backs_post f i)
noncomputable def allongeref12_Fits_sk (r : Realm) (f : File) (i : Int) : Sk (Bool) :=
 .r 1 (.p (ixP i f.signs.length)) fun _ =>
 .r 2 ((allongeref09_Within_k ((f.signs.getD i.toNat default).sum) 1 1099511627776).c) fun x1 =>
 .br (((f.signs.getD i.toNat default).kind) == 0)
 (.fin ((((((((i == 0) && (((f.signs.getD i.toNat default).who) == f.bill.drawer)) && (((f.signs.getD i.toNat default).for_) == (-1))) && (((f.signs.getD i.toNat default).to_) == (-1))) && (((f.signs.getD i.toNat default).sum) == 0)) && ((((f.signs.getD i.toNat default).flags) == 0) || (((f.signs.getD i.toNat default).flags) == 1))) && (((f.signs.getD i.toNat default).part) == 0)) && (((f.signs.getD i.toNat default).city) == f.bill.city)))
 (.br (((f.signs.getD i.toNat default).kind) == 1)
 (.fin ((((((decide (i > 0)) && (((f.signs.getD i.toNat default).who) == f.bill.drawee)) && (((f.signs.getD i.toNat default).for_) == (-1))) && (((f.signs.getD i.toNat default).to_) == (-1))) && x1) && (((f.signs.getD i.toNat default).flags) == 0)))
 (.br (((f.signs.getD i.toNat default).kind) == 2)
 (.r 9 (.andl (.p ((2 : Int) ≠ 0)) (.p ((2 : Int) ≠ 0))) fun _ =>
 .r 10 (.andl (.p ((4 : Int) ≠ 0)) (.p ((2 : Int) ≠ 0))) fun _ =>
 .r 11 (.dep (.wh ((decide (i > 0)) && (((f.signs.getD i.toNat default).for_) == (-1))) true ((allongeref09_Within_k ((f.signs.getD i.toNat default).to_) (-1) (w64 (((r.firms.length : Nat) : Int) - 1))).c)) fun x2 => .wh ((((decide (i > 0)) && (((f.signs.getD i.toNat default).for_) == (-1))) && x2) && (((f.signs.getD i.toNat default).sum) == 0)) true ((allongeref09_Within_k ((f.signs.getD i.toNat default).flags) 0 7).c)) fun p4 =>
 .fin ((((((decide (i > 0)) && (((f.signs.getD i.toNat default).for_) == (-1))) && p4.1) && (((f.signs.getD i.toNat default).sum) == 0)) && p4.2) && (!((((w64 (((f.signs.getD i.toNat default).flags).tdiv 2)).tmod 2) == 1) && (((w64 (((f.signs.getD i.toNat default).flags).tdiv 4)).tmod 2) == 1)))))
 (.br (((f.signs.getD i.toNat default).kind) == 3)
 (.r 13 (.wh ((((i == 0) || (((f.signs.getD i.toNat default).to_) != (-1))) || (((f.signs.getD i.toNat default).sum) != 0)) || (((f.signs.getD i.toNat default).flags) != 0)) false ((allongeref12_backs_k f i).c)) fun x5 =>
 .br (((((i == 0) || (((f.signs.getD i.toNat default).to_) != (-1))) || (((f.signs.getD i.toNat default).sum) != 0)) || (((f.signs.getD i.toNat default).flags) != 0)) || (!x5))
 (.fin false)
 (.r 15 (.p (ixP ((f.signs.getD i.toNat default).for_) f.signs.length)) fun _ =>
 .fin (((f.signs.getD (((f.signs.getD i.toNat default).for_).toNat) default).kind) != 3)))
 (.br (((f.signs.getD i.toNat default).kind) == 4)
 (.r 17 (.wh (((((i == 0) || (((f.signs.getD i.toNat default).to_) != (-1))) || (!x1)) || (((f.signs.getD i.toNat default).flags) != 0)) || (((f.signs.getD i.toNat default).who) == f.bill.drawee)) false ((allongeref12_backs_k f i).c)) fun x6 =>
 .br ((((((i == 0) || (((f.signs.getD i.toNat default).to_) != (-1))) || (!x1)) || (((f.signs.getD i.toNat default).flags) != 0)) || (((f.signs.getD i.toNat default).who) == f.bill.drawee)) || (!x6))
 (.fin false)
 (.r 19 (.andl (.p (ixP ((f.signs.getD i.toNat default).for_) f.signs.length)) (.wh (((f.signs.getD (((f.signs.getD i.toNat default).for_).toNat) default).kind) == 0) false (.p (ixP ((f.signs.getD i.toNat default).for_) f.signs.length)))) fun _ =>
 .fin ((((f.signs.getD (((f.signs.getD i.toNat default).for_).toNat) default).kind) == 0) || (((f.signs.getD (((f.signs.getD i.toNat default).for_).toNat) default).kind) == 2))))
 (.fin false)))))
noncomputable def allongeref12_Fits (r : Realm) (f : File) (i : Int) : Bool := (allongeref12_Fits_sk r f i).val
theorem allongeref12_Fits_pst (r : Realm) (f : File) (i : Int) (hP : (0 ≤ i ∧ i < (f.signs.length : Int)) ∧ f.signs.length ≤ 40) : (allongeref12_Fits_sk r f i).pst (fun (x : Bool) => x = true → FitOK f i.toNat) := by
  unfold allongeref12_Fits_sk
  try simp only [allongeref09_Within_k, allongeref12_backs_k, allongeref09_Within_eq]
  exact okQ

theorem allongeref12_Fits_post (r : Realm) (f : File) (i : Int) : (fun (x : Bool) => ((0 ≤ i ∧ i < (f.signs.length : Int)) ∧ f.signs.length ≤ 40) → (x = true → FitOK f i.toNat)) (allongeref12_Fits r f i) := fun hP => Sk.pval _ (allongeref12_Fits_pst r f i hP)
theorem allongeref12_Fits_ok (r : Realm) (f : File) (i : Int) (hs : 0 ≤ i ∧ i < (f.signs.length : Int)) (hn : f.signs.length ≤ 40) : (allongeref12_Fits_sk r f i).obs (fun _ => True) := by
  unfold allongeref12_Fits_sk
  try simp only [allongeref09_Within_k, allongeref12_backs_k, allongeref09_Within_eq]
  exact okG

noncomputable def allongeref12_Fits_k (r : Realm) (f : File) (i : Int) : Ctr (Bool) := kk tok mixed Tryz.func99 [av r.cells, av f.cells, iv i] (fun x => bv x) true (allongeref12_Fits_sk r f i) (allongeref12_Fits r f i) (fun (h : (0 ≤ i ∧ i < (f.signs.length : Int)) ∧ (f.signs.length ≤ 40)) => allongeref12_Fits_ok r f i h.1 h.2) (fun (x : Bool) => ((0 ≤ i ∧ i < (f.signs.length : Int)) ∧ f.signs.length ≤ 40) → (x = true → FitOK f i.toNat)) (allongeref12_Fits_post r f i)
noncomputable def allongeref12_signs_sk (r : Realm) (f : File) (i : Int) : Sk (Int) :=
 .r 1 (.p (ixP i f.signs.length)) fun _ =>
 .r 2 ((allongeref09_Within_k ((f.signs.getD i.toNat default).part) 0 (w64 (f.bill.parts - 1))).c) fun x1 =>
 .br (!x1)
 (.fin 15)
 (.r 4 (.dep ((allongeref09_Within_k ((f.signs.getD i.toNat default).who) 0 (w64 (((r.firms.length : Nat) : Int) - 1))).c) fun x2 => .wh (!x2) false ((allongeref09_Within_k ((f.signs.getD i.toNat default).city) 0 (w64 (((r.cities.length : Nat) : Int) - 1))).c)) fun p8 =>
 .br ((!p8.1) || (!p8.2))
 (.fin 1)
 (.br (((i == 0) && (((f.signs.getD i.toNat default).day) != f.bill.day)) || (decide (((f.signs.getD i.toNat default).day) > 100000)))
 (.fin 13)
 (.bind false (fun b4 => i > 0 → (f.signs.getD (w64 (i - 1)).toNat default).day ≤ (f.signs.getD i.toNat default).day)
 (.br (decide (i > 0))
 (.r 9 (.p (ixP (w64 (i - 1)) f.signs.length)) fun _ =>
 .br (decide (((f.signs.getD i.toNat default).day) < ((f.signs.getD ((w64 (i - 1)).toNat) default).day)))
 (.fin (.inl 13))
 (.fin (.inr ())))
 (.fin (.inr ())))
 (fun (_ : Unit) => ⟨[], []⟩) fun _ =>
 .r 11 ((allongeref12_Fits_k r f i).c) fun x5 =>
 .br (!x5)
 (.fin 14)
 (.bind true (fun _ => True)
 (.loop (default : Sum (Int) (Unit)) (fun i7 => 0 ≤ i7 ∧ i7 ≤ i) (fun i7 => (i - i7).toNat) (0 : Int)
 (fun (i7 : Int) => ⟨[(8, iv i7)], []⟩) fun i7 =>
 .br ((decide (i7 < i)) && (((f.signs.getD i.toNat default).kind) == 1))
 (.r 16 (.andl (.p (ixP i7 f.signs.length)) (.wh (((f.signs.getD i7.toNat default).kind) == 1) true (.p (ixP i7 f.signs.length)))) fun _ =>
 .br ((((f.signs.getD i7.toNat default).kind) == 1) && (((f.signs.getD i7.toNat default).part) == ((f.signs.getD i.toNat default).part)))
 (.fin (.inl (.inl 5)))
 (.fin (.inr (w64 (i7 + 1)))))
 (.fin (.inl (.inr ()))))
 (fun (_ : Unit) => ⟨[], []⟩) fun _ =>
 .fin 0))))
noncomputable def allongeref12_signs (r : Realm) (f : File) (i : Int) : Int := (allongeref12_signs_sk r f i).val
theorem allongeref12_signs_pst (r : Realm) (f : File) (i : Int) (hP : (0 ≤ i ∧ i < (f.signs.length : Int)) ∧ f.signs.length ≤ 40 ∧ r.firms.length ≤ 200 ∧ BillR r f.bill) : (allongeref12_signs_sk r f i).pst (fun (x : Int) => x = 0 → SgnOK r f i.toNat) := by
  refine Sk.pst_of _ ?_
  unfold allongeref12_signs_sk
  simp only [Sk.pstq, Sk.isLoop, reduceCtorEq, ON, kk, allongeref09_Within_k, allongeref12_Fits_k, allongeref09_Within_eq, forall_eq, maxLen]
  intro _
  obtain ⟨hi, hn, hr, hB⟩ := hP
  have hB2 := hB.2.2.2.1
  refine ⟨fun _ h => absurd h (by decide), fun h1 => ⟨fun _ h => absurd h (by decide), fun h2 => ⟨fun _ h => absurd h (by decide), fun h3 => ⟨⟨fun h4 _ => ⟨fun _ h => absurd h (by decide), fun h5 _ => by simpa using h5⟩, fun h4 h => ?_⟩, fun _ _ h6 hF => ⟨fun _ h => absurd h (by decide), fun h7 => ⟨⟨⟨by omega, by omega⟩, fun k hk hc _ => ⟨fun _ h => absurd h (by decide), fun _ => ?_⟩⟩, fun _ => ?_⟩⟩⟩⟩⟩⟩
  · simp only [LN] at h4; omega
  · simp only [LN] at hc
    rw [w64_id (by omega) (by omega)]
    omega
  · have hF := hF ⟨hi, hn⟩ (by simpa using h7)
    simp only [LN] at h1 h2 h3
    rw [w64_id (n := f.bill.parts - 1) (by omega) (by omega)] at h1
    rw [w64_id (n := (r.firms.length : Int) - 1) (by omega) (by omega)] at h2
    refine ⟨by omega, fun h0 => ?_, by omega, fun h0 => ?_, by omega, hF⟩
    · have := h6 (by omega)
      rw [w64_id (by omega) (by omega), show (i - 1).toNat = i.toNat - 1 by omega] at this
      exact this
    · rcases h3.1 with h | h
      · omega
      · exact h

theorem allongeref12_signs_post (r : Realm) (f : File) (i : Int) : (fun (x : Int) => ((0 ≤ i ∧ i < (f.signs.length : Int)) ∧ f.signs.length ≤ 40 ∧ r.firms.length ≤ 200 ∧ BillR r f.bill) → (x = 0 → SgnOK r f i.toNat)) (allongeref12_signs r f i) := fun hP => Sk.pval _ (allongeref12_signs_pst r f i hP)
theorem allongeref12_signs_ok (r : Realm) (f : File) (i : Int) (hs : 0 ≤ i ∧ i < (f.signs.length : Int)) (hn : f.signs.length ≤ 40) : (allongeref12_signs_sk r f i).obs (fun _ => True) := by
  unfold allongeref12_signs_sk
  try simp only [allongeref09_Within_k, allongeref12_Fits_k, allongeref09_Within_eq]
  exact okG

noncomputable def allongeref12_signs_k (r : Realm) (f : File) (i : Int) : Ctr (Int) := kk tok mixed Tryz.func52 [av r.cells, av f.cells, iv i] (fun x => iv x) true (allongeref12_signs_sk r f i) (allongeref12_signs r f i) (fun (h : (0 ≤ i ∧ i < (f.signs.length : Int)) ∧ (f.signs.length ≤ 40)) => allongeref12_signs_ok r f i h.1 h.2) (fun (x : Int) => ((0 ≤ i ∧ i < (f.signs.length : Int)) ∧ f.signs.length ≤ 40 ∧ r.firms.length ≤ 200 ∧ BillR r f.bill) → (x = 0 → SgnOK r f i.toNat)) (allongeref12_signs_post r f i)
noncomputable def allongeref12_Acted_sk (r : Realm) (f : File) (a : ActX) : Sk (Bool) :=
 .r 1 ((allongeref09_Within_k a.who 0 (w64 (((r.firms.length : Nat) : Int) - 1))).c) fun x1 =>
 .br (!x1)
 (.fin false)
 (.r 3 ((allongeref09_Within_k a.to_ 0 (w64 (((r.firms.length : Nat) : Int) - 1))).c) fun x2 =>
 .r 4 ((allongeref09_Within_k a.sum 0 1099511627776).c) fun x3 =>
 .r 5 ((allongeref09_Within_k a.at_ 0 (w64 (((f.signs.length : Nat) : Int) - 1))).c) fun x4 =>
 .bind false (fun b5 => b5 = true → 0 ≤ a.at_ ∧ a.at_ < (f.signs.length : Int))
 (.br x4
 (.r 7 ((allongeref12_On_k f a.at_ a.part).c) fun x6 =>
 .fin (.inr x6))
 (.fin (.inr x4)))
 (fun (b5 : Bool) => ⟨[(9, bv b5)], []⟩) fun b5 =>
 .bind false (fun b7 => b7 = true → 0 ≤ a.at_ ∧ a.at_ < (f.signs.length : Int))
 (.br b5
 (.r 10 (.p (ixP a.at_ f.signs.length)) fun _ =>
 .fin (.inr (((f.signs.getD a.at_.toNat default).who) == a.who)))
 (.fin (.inr false)))
 (fun (b7 : Bool) => ⟨[(10, bv b7)], []⟩) fun b7 =>
 .bind false (fun _ => True)
 (.br (a.kind == 0)
 (.fin (.inr (a.kind == 0)))
 (.br (a.kind == 1)
 (.fin (.inr (a.kind == 1)))
 (.fin (.inr (a.kind == 2)))))
 (fun (b8 : Bool) => ⟨[(56, bv b8)], []⟩) fun b8 =>
 .br b8
 (.fin (((x2 && (a.at_ == (-1))) && (a.sum == 0)) && (a.form == 0)))
 (.bind false (fun _ => True)
 (.br (a.kind == 3)
 (.fin (.inr (a.kind == 3)))
 (.fin (.inr (a.kind == 5))))
 (fun (b9 : Bool) => ⟨[(76, bv b9)], []⟩) fun b9 =>
 .br b9
 (.fin (((x2 && (a.at_ == (-1))) && x3) && (a.form == 0)))
 (.br (a.kind == 4)
 (.fin (((x2 && (a.at_ == (-1))) && x3) && ((a.form == 0) || (a.form == 1))))
 (.br (a.kind == 6)
 (.fin ((((x2 && b7) && x3) && (decide (a.sum > 0))) && (a.form == 0)))
 (.br (a.kind == 9)
 (.fin ((((a.to_ == (-1)) && b7) && (a.sum == 0)) && (a.form == 0)))
 (.bind false (fun _ => True)
 (.br (a.kind == 7)
 (.fin (.inr (a.kind == 7)))
 (.fin (.inr (a.kind == 8))))
 (fun (b10 : Bool) => ⟨[(151, bv b10)], []⟩) fun b10 =>
 .br b10
 (.fin ((((a.to_ == (-1)) && b5) && (a.sum == 0)) && (a.form == 0)))
 (.fin false)))))))
noncomputable def allongeref12_Acted (r : Realm) (f : File) (a : ActX) : Bool := (allongeref12_Acted_sk r f a).val
theorem allongeref12_Acted_pst (r : Realm) (f : File) (a : ActX) (hP : f.signs.length ≤ 40) : (allongeref12_Acted_sk r f a).pst (fun (x : Bool) => x = true → SumP a.sum ∧ a.at_ < (f.signs.length : Int)) := by
  unfold allongeref12_Acted_sk
  try simp only [allongeref09_Within_k, allongeref12_On_k, allongeref09_Within_eq]
  exact okQ

theorem allongeref12_Acted_post (r : Realm) (f : File) (a : ActX) : (fun (x : Bool) => (f.signs.length ≤ 40) → (x = true → SumP a.sum ∧ a.at_ < (f.signs.length : Int))) (allongeref12_Acted r f a) := fun hP => Sk.pval _ (allongeref12_Acted_pst r f a hP)
theorem allongeref12_Acted_ok (r : Realm) (f : File) (a : ActX) (hn : f.signs.length ≤ 40) : (allongeref12_Acted_sk r f a).obs (fun _ => True) := by
  unfold allongeref12_Acted_sk
  try simp only [allongeref09_Within_k, allongeref12_On_k, allongeref09_Within_eq]
  exact okG

noncomputable def allongeref12_Acted_k (r : Realm) (f : File) (a : ActX) : Ctr (Bool) := kk tok mixed Tryz.func100 [av r.cells, av f.cells, av a.cells] (fun x => bv x) true (allongeref12_Acted_sk r f a) (allongeref12_Acted r f a) (fun (h : (f.signs.length ≤ 40)) => allongeref12_Acted_ok r f a h) (fun (x : Bool) => (f.signs.length ≤ 40) → (x = true → SumP a.sum ∧ a.at_ < (f.signs.length : Int))) (allongeref12_Acted_post r f a)
noncomputable def allongeref12_acts_sk (r : Realm) (f : File) (i : Int) : Sk (Int) :=
 .r 1 (.p (ixP i f.acts.length)) fun _ =>
 .r 2 ((allongeref09_Within_k ((f.acts.getD i.toNat default).part) 0 (w64 (f.bill.parts - 1))).c) fun x1 =>
 .br (!x1)
 (.fin 15)
 (.r 4 (.dep ((allongeref09_Within_k ((f.acts.getD i.toNat default).city) 0 (w64 (((r.cities.length : Nat) : Int) - 1))).c) fun x2 => .wh (!x2) false ((allongeref09_Within_k ((f.acts.getD i.toNat default).kind) 0 9).c)) fun p6 =>
 .br ((!p6.1) || (!p6.2))
 (.fin 1)
 (.r 6 ((allongeref12_Acted_k r f (f.acts.getD i.toNat default)).c) fun x4 =>
 .br (!x4)
 (.fin 14)
 (.br ((decide (((f.acts.getD i.toNat default).day) < f.bill.day)) || (decide (((f.acts.getD i.toNat default).day) > 100000)))
 (.fin 13)
 (.bind false (fun _ => True)
 (.br (decide (((f.acts.getD i.toNat default).at_) ≥ 0))
 (.r 11 (.p (ixP ((f.acts.getD i.toNat default).at_) f.signs.length)) fun _ =>
 .br (decide (((f.acts.getD i.toNat default).day) < ((f.signs.getD (((f.acts.getD i.toNat default).at_).toNat) default).day)))
 (.fin (.inl 13))
 (.fin (.inr ())))
 (.fin (.inr ())))
 (fun (_ : Unit) => ⟨[], []⟩) fun _ =>
 .br (decide (i > 0))
 (.r 14 (.p (ixP (w64 (i - 1)) f.acts.length)) fun _ =>
 .br (decide (((f.acts.getD i.toNat default).day) < ((f.acts.getD ((w64 (i - 1)).toNat) default).day)))
 (.fin 13)
 (.fin 0))
 (.fin 0)))))
noncomputable def allongeref12_acts (r : Realm) (f : File) (i : Int) : Int := (allongeref12_acts_sk r f i).val
theorem allongeref12_acts_pst (r : Realm) (f : File) (i : Int) (hP : (0 ≤ i ∧ i < (f.acts.length : Int)) ∧ f.signs.length ≤ 40 ∧ f.acts.length ≤ 100) : (allongeref12_acts_sk r f i).pst (fun (x : Int) => x = 0 → DoneOK f i.toNat) := by
  refine Sk.pst_of _ ?_
  unfold allongeref12_acts_sk
  simp only [Sk.pstq, Sk.isLoop, reduceCtorEq, ON, kk, allongeref09_Within_k, allongeref12_Acted_k, allongeref09_Within_eq, forall_eq, maxLen]
  intro _
  refine ⟨fun _ h => absurd h (by decide), fun h1 => ⟨fun _ h => absurd h (by decide), fun h2 hA => ⟨fun _ h => absurd h (by decide), fun h3 => ⟨fun _ h => absurd h (by decide), fun h4 => ⟨fun _ _ _ h => absurd h (by decide), fun _ _ => ⟨fun h5 _ => ⟨fun _ h => absurd h (by decide), fun h6 => ?_⟩, fun h5 => ?_⟩⟩⟩⟩⟩⟩
  all_goals have hA := hA hP.2.1 (by simpa using h3)
  all_goals simp only [LN] at h4 h5
  · simp only [LN] at h6
    rw [w64_id (by omega) (by omega), show (i - 1).toNat = i.toNat - 1 by omega] at h6
    exact ⟨hA.1, by omega, fun _ => h6⟩
  · exact ⟨hA.1, by omega, fun h => by omega⟩

theorem allongeref12_acts_post (r : Realm) (f : File) (i : Int) : (fun (x : Int) => ((0 ≤ i ∧ i < (f.acts.length : Int)) ∧ f.signs.length ≤ 40 ∧ f.acts.length ≤ 100) → (x = 0 → DoneOK f i.toNat)) (allongeref12_acts r f i) := fun hP => Sk.pval _ (allongeref12_acts_pst r f i hP)
theorem allongeref12_acts_ok (r : Realm) (f : File) (i : Int) (hs : 0 ≤ i ∧ i < (f.acts.length : Int)) (hn : f.signs.length ≤ 40) (ha : f.acts.length ≤ 100) : (allongeref12_acts_sk r f i).obs (fun _ => True) := by
  unfold allongeref12_acts_sk
  try simp only [allongeref09_Within_k, allongeref12_Acted_k, allongeref09_Within_eq]
  exact okG

noncomputable def allongeref12_acts_k (r : Realm) (f : File) (i : Int) : Ctr (Int) := kk tok mixed Tryz.func54 [av r.cells, av f.cells, iv i] (fun x => iv x) true (allongeref12_acts_sk r f i) (allongeref12_acts r f i) (fun (h : (0 ≤ i ∧ i < (f.acts.length : Int)) ∧ (f.signs.length ≤ 40) ∧ (f.acts.length ≤ 100)) => allongeref12_acts_ok r f i h.1 h.2.1 h.2.2) (fun (x : Int) => ((0 ≤ i ∧ i < (f.acts.length : Int)) ∧ f.signs.length ≤ 40 ∧ f.acts.length ≤ 100) → (x = 0 → DoneOK f i.toNat)) (allongeref12_acts_post r f i)
noncomputable def allongeref12_facts_sk (f : File) (i : Int) : Sk (Int) :=
 .r 1 (.p (ixP i f.facts.length)) fun _ =>
 .r 2 (.dep ((allongeref09_Within_k ((f.facts.getD i.toNat default).kind) 0 4).c) fun x1 => .dep (.wh (!x1) false ((allongeref09_Within_k ((f.facts.getD i.toNat default).at_) 0 (w64 (((f.signs.length : Nat) : Int) - 1))).c)) fun x2 => .wh ((!x1) || (!x2)) false ((allongeref09_Within_k ((f.facts.getD i.toNat default).n) 0 1).c)) fun p4 =>
 .br (((!p4.1) || (!p4.2.1)) || (!p4.2.2))
 (.fin 1)
 (.br (decide (i > 0))
 (.r 5 (.p (ixP (w64 (i - 1)) f.facts.length)) fun _ =>
 .br ((decide (((f.facts.getD ((w64 (i - 1)).toNat) default).at_) > ((f.facts.getD i.toNat default).at_))) || ((((f.facts.getD ((w64 (i - 1)).toNat) default).at_) == ((f.facts.getD i.toNat default).at_)) && (decide (((f.facts.getD ((w64 (i - 1)).toNat) default).kind) ≥ ((f.facts.getD i.toNat default).kind)))))
 (.fin 5)
 (.fin 0))
 (.fin 0))
noncomputable def allongeref12_facts (f : File) (i : Int) : Int := (allongeref12_facts_sk f i).val
theorem allongeref12_facts_ok (f : File) (i : Int) (hs : 0 ≤ i ∧ i < (f.facts.length : Int)) (ha : f.facts.length ≤ 200) : (allongeref12_facts_sk f i).obs (fun _ => True) := by
  unfold allongeref12_facts_sk
  try simp only [allongeref09_Within_k, allongeref09_Within_eq]
  exact okG

noncomputable def allongeref12_facts_k (f : File) (i : Int) : Ctr (Int) := kk tok mixed Tryz.func55 [av f.cells, iv i] (fun x => iv x) true (allongeref12_facts_sk f i) (allongeref12_facts f i) (fun (h : (0 ≤ i ∧ i < (f.facts.length : Int)) ∧ (f.facts.length ≤ 200)) => allongeref12_facts_ok f i h.1 h.2)
noncomputable def allongeref12_Check_sk (r : Realm) (f : File) : Sk (Int) :=
 .br ((((decide (((f.signs.length : Nat) : Int) > 40)) || (decide (((f.alters.length : Nat) : Int) > 4))) || (decide (((f.acts.length : Nat) : Int) > 100))) || (decide (((f.facts.length : Nat) : Int) > 200)))
 (.fin 6)
 (.r 3 ((allongeref10_Check_k r f.bill).c) fun x1 =>
 .bind false (fun b2 => b2 = 0 → BillR r f.bill ∧ f.signs.length ≠ 0)
 (.br ((x1 == 0) && (((f.signs.length : Nat) : Int) == 0))
 (.fin (.inr 14))
 (.fin (.inr x1)))
 (fun (b2 : Int) => ⟨[(5, iv b2)], []⟩) fun b2 =>
 .bind true (fun b3 => b3 = 0 → BillR r f.bill ∧ f.signs.length ≠ 0 ∧ (r.firms.length ≤ 200 → (∀ q, q < f.signs.length → SgnOK r f q)))
 (.loop (default : Sum (Int) (Int)) (fun i4 => i4.2 ≤ f.signs.length ∧ (i4.1 = 0 → BillR r f.bill ∧ f.signs.length ≠ 0 ∧ (r.firms.length ≤ 200 → (∀ q, q < i4.2 → SgnOK r f q)))) (fun i4 => f.signs.length - i4.2) ((b2, 0) : Int × Nat)
 (fun (i4 : Int × Nat) => ⟨[(5, iv i4.1), (6, iv ((i4.2 : Nat) : Int))], []⟩) fun i4 =>
 .bnd 3 15 f.signs.length <|
 .br ((decide (((i4.2 : Nat) : Int) < ((f.signs.length : Nat) : Int))) && (i4.1 == 0))
 (.r 9 ((allongeref12_signs_k r f ((i4.2 : Nat) : Int)).c) fun x5 =>
 .r 8 .z fun _ =>
 .wi 6 (w64 (((i4.2 : Nat) : Int) + 1)) ((i4.2 + 1 : Nat) : Int) <|
 .fin (.inr (x5, i4.2 + 1)))
 (.fin (.inl (.inr i4.1))))
 (fun (b3 : Int) => ⟨[(5, iv b3)], []⟩) fun b3 =>
 .bind true (fun b6 => b6 = 0 → BillR r f.bill ∧ f.signs.length ≠ 0 ∧ (r.firms.length ≤ 200 → (∀ q, q < f.signs.length → SgnOK r f q)) ∧ (∀ q, q < f.alters.length → SumP (f.alters.getD q default).sum))
 (.loop (default : Sum (Int) (Int)) (fun i7 => i7.2 ≤ f.alters.length ∧ (i7.1 = 0 → BillR r f.bill ∧ f.signs.length ≠ 0 ∧ (r.firms.length ≤ 200 → (∀ q, q < f.signs.length → SgnOK r f q)) ∧ (∀ q, q < i7.2 → SumP (f.alters.getD q default).sum))) (fun i7 => f.alters.length - i7.2) ((b3, 0) : Int × Nat)
 (fun (i7 : Int × Nat) => ⟨[(5, iv i7.1), (7, iv ((i7.2 : Nat) : Int))], []⟩) fun i7 =>
 .bnd 3 16 f.alters.length <|
 .br ((decide (((i7.2 : Nat) : Int) < ((f.alters.length : Nat) : Int))) && (i7.1 == 0))
 (.bind false (fun _ => True)
 (.br (decide (((i7.2 : Nat) : Int) > 0))
 (.r 15 (.p (ixP (w64 (((i7.2 : Nat) : Int) - 1)) f.alters.length)) fun _ =>
 .fin (.inr (w64 (((f.alters.getD ((w64 (((i7.2 : Nat) : Int) - 1)).toNat) default).at_) + 1))))
 (.fin (.inr 1)))
 (fun (b8 : Int) => ⟨[(8, iv b8)], []⟩) fun b8 =>
 .r 16 (.andl (.p (ixP ((i7.2 : Nat) : Int) f.alters.length)) ((allongeref09_Within_k ((f.alters.getD i7.2 default).at_) b8 ((f.signs.length : Nat) : Int)).c)) fun x9 =>
 .br (!x9)
 (.r 12 .z fun _ =>
 .wi 7 (w64 (((i7.2 : Nat) : Int) + 1)) ((i7.2 + 1 : Nat) : Int) <|
 .fin (.inr (1, i7.2 + 1)))
 (.r 18 (.andl (.p (ixP ((i7.2 : Nat) : Int) f.alters.length)) ((allongeref09_Within_k ((f.alters.getD i7.2 default).sum) 1 1099511627776).c)) fun x10 =>
 .br (!x10)
 (.r 12 .z fun _ =>
 .wi 7 (w64 (((i7.2 : Nat) : Int) + 1)) ((i7.2 + 1 : Nat) : Int) <|
 .fin (.inr (3, i7.2 + 1)))
 (.r 12 .z fun _ =>
 .wi 7 (w64 (((i7.2 : Nat) : Int) + 1)) ((i7.2 + 1 : Nat) : Int) <|
 .fin (.inr (i7.1, i7.2 + 1)))))
 (.fin (.inl (.inr i7.1))))
 (fun (b6 : Int) => ⟨[(5, iv b6)], []⟩) fun b6 =>
 .bind true (fun b11 => b11 = 0 → BillR r f.bill ∧ f.signs.length ≠ 0 ∧ (r.firms.length ≤ 200 → (∀ q, q < f.signs.length → SgnOK r f q)) ∧ (∀ q, q < f.alters.length → SumP (f.alters.getD q default).sum) ∧ (∀ q, q < f.acts.length → DoneOK f q))
 (.loop (default : Sum (Int) (Int)) (fun i12 => i12.2 ≤ f.acts.length ∧ (i12.1 = 0 → BillR r f.bill ∧ f.signs.length ≠ 0 ∧ (r.firms.length ≤ 200 → (∀ q, q < f.signs.length → SgnOK r f q)) ∧ (∀ q, q < f.alters.length → SumP (f.alters.getD q default).sum) ∧ (∀ q, q < i12.2 → DoneOK f q))) (fun i12 => f.acts.length - i12.2) ((b6, 0) : Int × Nat)
 (fun (i12 : Int × Nat) => ⟨[(5, iv i12.1), (9, iv ((i12.2 : Nat) : Int))], []⟩) fun i12 =>
 .bnd 3 17 f.acts.length <|
 .br ((decide (((i12.2 : Nat) : Int) < ((f.acts.length : Nat) : Int))) && (i12.1 == 0))
 (.r 23 ((allongeref12_acts_k r f ((i12.2 : Nat) : Int)).c) fun x13 =>
 .r 22 .z fun _ =>
 .wi 9 (w64 (((i12.2 : Nat) : Int) + 1)) ((i12.2 + 1 : Nat) : Int) <|
 .fin (.inr (x13, i12.2 + 1)))
 (.fin (.inl (.inr i12.1))))
 (fun (b11 : Int) => ⟨[(5, iv b11)], []⟩) fun b11 =>
 .bind true (fun b14 => b14 = 0 → BillR r f.bill ∧ f.signs.length ≠ 0 ∧ (r.firms.length ≤ 200 → (∀ q, q < f.signs.length → SgnOK r f q)) ∧ (∀ q, q < f.alters.length → SumP (f.alters.getD q default).sum) ∧ (∀ q, q < f.acts.length → DoneOK f q))
 (.loop (default : Sum (Int) (Int)) (fun i15 => i15.2 ≤ f.facts.length ∧ (i15.1 = 0 → BillR r f.bill ∧ f.signs.length ≠ 0 ∧ (r.firms.length ≤ 200 → (∀ q, q < f.signs.length → SgnOK r f q)) ∧ (∀ q, q < f.alters.length → SumP (f.alters.getD q default).sum) ∧ (∀ q, q < f.acts.length → DoneOK f q))) (fun i15 => f.facts.length - i15.2) ((b11, 0) : Int × Nat)
 (fun (i15 : Int × Nat) => ⟨[(5, iv i15.1), (10, iv ((i15.2 : Nat) : Int))], []⟩) fun i15 =>
 .bnd 3 18 f.facts.length <|
 .br ((decide (((i15.2 : Nat) : Int) < ((f.facts.length : Nat) : Int))) && (i15.1 == 0))
 (.r 27 ((allongeref12_facts_k f ((i15.2 : Nat) : Int)).c) fun x16 =>
 .r 26 .z fun _ =>
 .wi 10 (w64 (((i15.2 : Nat) : Int) + 1)) ((i15.2 + 1 : Nat) : Int) <|
 .fin (.inr (x16, i15.2 + 1)))
 (.fin (.inl (.inr i15.1))))
 (fun (b14 : Int) => ⟨[(5, iv b14)], []⟩) fun b14 =>
 .fin b14)
noncomputable def allongeref12_Check (r : Realm) (f : File) : Int := (allongeref12_Check_sk r f).val
theorem allongeref12_Check_pst (r : Realm) (f : File) (hP : r.firms.length ≤ 200) : (allongeref12_Check_sk r f).pst (fun (x : Int) => x = 0 → RightF r f) := by
  refine Sk.pst_of _ ?_
  unfold allongeref12_Check_sk
  simp only [Sk.pstq, Sk.isLoop, reduceCtorEq, ON, kk, allongeref09_Within_k, allongeref10_Check_k, allongeref12_acts_k, allongeref12_facts_k, allongeref12_signs_k, allongeref09_Within_eq, forall_eq, maxLen]
  have ext : ∀ {P : Nat → Prop} {i : Nat}, (∀ q, q < i → P q) → P i → ∀ q, q < i + 1 → P q := fun h h2 q hq => (Nat.lt_succ_iff_lt_or_eq.1 hq).elim (h q) (fun e => e ▸ h2)
  refine ⟨fun _ h => absurd h (by decide), fun hb hB => ?_⟩
  simp only [LN] at hb
  refine ⟨⟨fun _ h => absurd h (by decide), fun h0 h => ⟨hB h, fun e => ?_⟩⟩, fun b1 _ hb1 => ⟨⟨⟨Nat.zero_le _, fun h => ⟨(hb1 h).1, (hb1 h).2, fun _ q hq => absurd hq (by omega)⟩⟩, fun i hi => ⟨fun hc hs _ => ?_, fun hc h => ?_⟩⟩, fun b2 hb2 => ⟨⟨⟨Nat.zero_le _, fun h => ⟨(hb2 h).1, (hb2 h).2.1, (hb2 h).2.2, fun q hq => absurd hq (by omega)⟩⟩, fun i hi => ⟨fun hc b _ => ⟨fun _ _ => ?_, fun _ => ⟨fun _ _ => ?_, fun hs _ => ?_⟩⟩, fun hc h => ?_⟩⟩, fun b3 hb3 => ⟨⟨⟨Nat.zero_le _, fun h => ⟨(hb3 h).1, (hb3 h).2.1, (hb3 h).2.2.1, (hb3 h).2.2.2, fun q hq => absurd hq (by omega)⟩⟩, fun i hi => ⟨fun hc hs _ => ?_, fun hc h => ?_⟩⟩, fun b4 hb4 => ⟨⟨⟨Nat.zero_le _, hb4⟩, fun i hi => ⟨fun hc _ => ?_, fun _ h => hi.2 h⟩⟩, fun b5 hb5 h => ?_⟩⟩⟩⟩⟩
  · simp [e, h] at h0
  · simp only [LN] at hc
    obtain ⟨a1, a2, a3⟩ := hi.2 hc.2
    exact ⟨⟨by omega, fun h => ⟨a1, a2, fun hr => ext (a3 hr) (hs ⟨⟨by omega, by omega⟩, by omega, hr, a1⟩ h)⟩⟩, by omega⟩
  · simp only [LN] at hc
    have e : i.2 = f.signs.length := by omega
    exact e ▸ hi.2 h
  · simp only [LN] at hc
    exact ⟨⟨by omega, fun h => absurd h (by decide)⟩, by omega⟩
  · simp only [LN] at hc
    exact ⟨⟨by omega, fun h => absurd h (by decide)⟩, by omega⟩
  · simp only [LN] at hc hs
    obtain ⟨a1, a2, a3, a4⟩ := hi.2 hc.2
    exact ⟨⟨by omega, fun h => ⟨a1, a2, a3, ext a4 ⟨by omega, by omega⟩⟩⟩, by omega⟩
  · simp only [LN] at hc
    have e : i.2 = f.alters.length := by omega
    exact e ▸ hi.2 h
  · simp only [LN] at hc
    obtain ⟨a1, a2, a3, a4, a5⟩ := hi.2 hc.2
    exact ⟨⟨by omega, fun h => ⟨a1, a2, a3, a4, ext a5 (hs ⟨⟨by omega, by omega⟩, by omega, by omega⟩ h)⟩⟩, by omega⟩
  · simp only [LN] at hc
    have e : i.2 = f.acts.length := by omega
    exact e ▸ hi.2 h
  · simp only [LN] at hc
    exact ⟨⟨by omega, fun _ => hi.2 hc.2⟩, by omega⟩
  · obtain ⟨a1, a2, a3, a4, a5⟩ := hb5 h
    exact ⟨a1, ⟨by omega, a2, by omega, by omega, by omega⟩, a3 hP, a4, a5⟩

theorem allongeref12_Check_post (r : Realm) (f : File) : (fun (x : Int) => (r.firms.length ≤ 200) → (x = 0 → RightF r f)) (allongeref12_Check r f) := fun hP => Sk.pval _ (allongeref12_Check_pst r f hP)
theorem allongeref12_Check_ok (r : Realm) (f : File) : (allongeref12_Check_sk r f).obs (fun _ => True) := by
  refine Sk.obs_of _ ?_
  unfold allongeref12_Check_sk
  simp only [Sk.obq, Sk.isLoop, reduceCtorEq, ON, kk, allongeref09_Within_k, allongeref10_Check_k, allongeref12_acts_k, allongeref12_facts_k, allongeref12_signs_k, allongeref09_Within_eq, forall_eq, maxLen]
  have ext : ∀ {P : Nat → Prop} {i : Nat}, (∀ q, q < i → P q) → P i → ∀ q, q < i + 1 → P q := fun h h2 q hq => (Nat.lt_succ_iff_lt_or_eq.1 hq).elim (h q) (fun e => e ▸ h2)
  have w1 : ∀ i n : Nat, i < n → n ≤ 200 → w64 ((i : Int) + 1) = ((i + 1 : Nat) : Int) := fun i n h h2 => (w64_id (by omega) (by omega)).trans (by omega)
  refine fun hb hB => ?_
  simp only [LN] at hb
  refine ⟨⟨fun _ h => absurd h (by decide), fun h0 h => ⟨hB h, fun e => ?_⟩⟩, fun b1 _ hb1 => ⟨⟨⟨Nat.zero_le _, fun h => ⟨(hb1 h).1, (hb1 h).2, fun _ q hq => absurd hq (by omega)⟩⟩, fun i hi hm => ⟨fun hc => ⟨?_, fun hs _ => ⟨?_, ?_⟩⟩, fun hc h => ?_⟩⟩, fun b2 hb2 => ⟨⟨⟨Nat.zero_le _, fun h => ⟨(hb2 h).1, (hb2 h).2.1, (hb2 h).2.2, fun q hq => absurd hq (by omega)⟩⟩, fun i hi hm => ⟨fun hc => ⟨fun h2 => ?_, fun b _ => ⟨?_, fun _ _ => ⟨?_, ?_⟩, fun _ => ⟨?_, fun _ _ => ⟨?_, ?_⟩, fun hs _ => ⟨?_, ?_⟩⟩⟩⟩, fun hc h => ?_⟩⟩, fun b3 hb3 => ⟨⟨⟨Nat.zero_le _, fun h => ⟨(hb3 h).1, (hb3 h).2.1, (hb3 h).2.2.1, (hb3 h).2.2.2, fun q hq => absurd hq (by omega)⟩⟩, fun i hi hm => ⟨fun hc => ⟨?_, fun hs _ => ⟨?_, ?_⟩⟩, fun hc h => ?_⟩⟩, fun b4 hb4 => ⟨⟨Nat.zero_le _, hb4⟩, fun i hi hm => ⟨fun hc => ⟨?_, fun _ => ⟨?_, ?_⟩⟩, fun _ h => hi.2 h⟩⟩⟩⟩⟩⟩
  · simp [e, h] at h0
  all_goals simp only [LN] at hc
  · exact ⟨⟨by omega, by omega⟩, by omega⟩
  · exact w1 _ _ (by omega) (show f.signs.length ≤ 200 from by omega)
  · obtain ⟨a1, a2, a3⟩ := hi.2 hc.2
    exact ⟨⟨by omega, fun h => ⟨a1, a2, fun hr => ext (a3 hr) (hs ⟨⟨by omega, by omega⟩, by omega, hr, a1⟩ h)⟩⟩, by omega⟩
  · have e : i.2 = f.signs.length := by omega
    exact e ▸ hi.2 h
  · simp only [LN] at h2
    rw [w64_id (by omega) (by omega)]
    exact ⟨by omega, by omega⟩
  · exact ⟨by omega, by omega⟩
  · exact w1 _ _ (by omega) (show f.alters.length ≤ 200 from by omega)
  · exact ⟨⟨by omega, fun h => absurd h (by decide)⟩, by omega⟩
  · exact ⟨by omega, by omega⟩
  · exact w1 _ _ (by omega) (show f.alters.length ≤ 200 from by omega)
  · exact ⟨⟨by omega, fun h => absurd h (by decide)⟩, by omega⟩
  · exact w1 _ _ (by omega) (show f.alters.length ≤ 200 from by omega)
  · simp only [LN] at hs
    obtain ⟨a1, a2, a3, a4⟩ := hi.2 hc.2
    exact ⟨⟨by omega, fun h => ⟨a1, a2, a3, ext a4 ⟨by omega, by omega⟩⟩⟩, by omega⟩
  · have e : i.2 = f.alters.length := by omega
    exact e ▸ hi.2 h
  · exact ⟨⟨by omega, by omega⟩, by omega, by omega⟩
  · exact w1 _ _ (by omega) (show f.acts.length ≤ 200 from by omega)
  · obtain ⟨a1, a2, a3, a4, a5⟩ := hi.2 hc.2
    exact ⟨⟨by omega, fun h => ⟨a1, a2, a3, a4, ext a5 (hs ⟨⟨by omega, by omega⟩, by omega, by omega⟩ h)⟩⟩, by omega⟩
  · have e : i.2 = f.acts.length := by omega
    exact e ▸ hi.2 h
  · exact ⟨⟨by omega, by omega⟩, by omega⟩
  · exact w1 _ _ (by omega) (show f.facts.length ≤ 200 from by omega)
  · exact ⟨⟨by omega, fun _ => hi.2 hc.2⟩, by omega⟩

noncomputable def allongeref12_Check_k (r : Realm) (f : File) : Ctr (Int) := kk tok mixed Tryz.func27 [av r.cells, av f.cells] (fun x => iv x) true (allongeref12_Check_sk r f) (allongeref12_Check r f) (fun (_ : True) => allongeref12_Check_ok r f) (fun (x : Int) => (r.firms.length ≤ 200) → (x = 0 → RightF r f)) (allongeref12_Check_post r f)
noncomputable def allongelaw26_few_sk (r : Realm) (f : File) : Sk (Bool) :=
 .r 1 ((allongeref09_Check_k r).c) fun x1 =>
 .br (x1 != 0)
 (.fin false)
 (.bind true (fun _ => True)
 (.loop (default : Sum (Bool) (Unit)) (fun i3 => i3 ≤ r.orders.length) (fun i3 => r.orders.length - i3) (0 : Nat)
 (fun (i3 : Nat) => ⟨[(5, iv ((i3 : Nat) : Int))], []⟩) fun i3 =>
 .bnd 2 4 r.orders.length <|
 .br (decide (((i3 : Nat) : Int) < ((r.orders.length : Nat) : Int)))
 (.bind true (fun _ => True)
 (.bind true (fun _ => True)
 (.loop (default : Sum (Sum (Sum (Sum (Bool) (Unit)) (Nat)) (Int × Int × (List Order) × Int × (List Rule) × Int × Bool)) (Int × Int × (List Order) × Int × (List Rule) × Int × Bool)) (fun i6 => i6 ≤ ((r.orders.getD i3 default).rules).length) (fun i6 => ((r.orders.getD i3 default).rules).length - i6) (0 : Nat)
 (fun (i6 : Nat) => ⟨[(6, iv ((i6 : Nat) : Int))], []⟩) fun i6 =>
 .r 7 (.p (ixP ((i3 : Nat) : Int) r.orders.length)) fun _ =>
 .br (decide (((i6 : Nat) : Int) < ((((r.orders.getD i3 default).rules).length : Nat) : Int)))
 (.r 9 (.andl (.p (ixP ((i3 : Nat) : Int) r.orders.length)) (.andl (.p (ixP ((i6 : Nat) : Int) (((r.orders.getD i3 default).rules).length))) ((allongeref15_Few_k ((((r.orders.getD i3 default).rules).getD i6 default).term)).c))) fun x7 =>
 .br (!x7)
 (.fin (.inl (.inl (.inl (.inl (.inl false))))))
 (.r 8 .z fun _ =>
 .wi 6 (w64 (((i6 : Nat) : Int) + 1)) ((i6 + 1 : Nat) : Int) <|
 .fin (.inr (i6 + 1))))
 (.fin (.inl (.inr (((i6 : Nat) : Int), ((i6 : Nat) : Int), r.orders, ((i3 : Nat) : Int), (r.orders.getD i3 default).rules, ((((r.orders.getD i3 default).rules).length : Nat) : Int), decide (((i6 : Nat) : Int) < ((((r.orders.getD i3 default).rules).length : Nat) : Int)))))))
 (fun (b5 : Int × Int × (List Order) × Int × (List Rule) × Int × Bool) => ⟨[(6, iv b5.1), (17, iv b5.2.1), (19, lv Order.cells b5.2.2.1), (20, iv b5.2.2.2.1), (23, lv Rule.cells b5.2.2.2.2.1), (24, iv b5.2.2.2.2.2.1), (25, bv b5.2.2.2.2.2.2)], []⟩) fun b5 =>
 .fin (.inr (b5.1, b5.2.1, b5.2.2.1, b5.2.2.2.1, b5.2.2.2.2.1, b5.2.2.2.2.2.1, b5.2.2.2.2.2.2)))
 (fun (b4 : Int × Int × (List Order) × Int × (List Rule) × Int × Bool) => ⟨[(6, iv b4.1), (17, iv b4.2.1), (19, lv Order.cells b4.2.2.1), (20, iv b4.2.2.2.1), (23, lv Rule.cells b4.2.2.2.2.1), (24, iv b4.2.2.2.2.2.1), (25, bv b4.2.2.2.2.2.2)], []⟩) fun _ =>
 .r 5 .z fun _ =>
 .wi 5 (w64 (((i3 : Nat) : Int) + 1)) ((i3 + 1 : Nat) : Int) <|
 .fin (.inr (i3 + 1)))
 (.fin (.inl (.inr ()))))
 (fun (_ : Unit) => ⟨[], []⟩) fun _ =>
 .r 11 ((allongeref12_Check_k r f).c) fun x8 =>
 .fin (x8 == 0))
noncomputable def allongelaw26_few (r : Realm) (f : File) : Bool := (allongelaw26_few_sk r f).val
theorem allongelaw26_few_pst (r : Realm) (f : File) : (allongelaw26_few_sk r f).pst (fun (x : Bool) => x = true → r.Small ∧ r.ByOK ∧ r.HaltOK ∧ r.FirmOK ∧ r.RateOK ∧ RightF r f) := by
  refine Sk.pst_of _ ?_
  unfold allongelaw26_few_sk
  simp only [Sk.pstq, Sk.isLoop, reduceCtorEq, ON, kk, allongeref09_Check_k, allongeref12_Check_k, allongeref15_Few_k, maxLen]
  intro x _ hx hc
  have h := hx (by simpa using hc)
  refine ⟨⟨Nat.zero_le _, fun i hi hc2 => ?_⟩, fun _ y _ hy hy0 => ?_⟩
  · simp only [LN] at hc2
    refine ⟨⟨Nat.zero_le _, fun q hq _ hc3 _ _ _ _ => ?_⟩, fun _ _ _ => by omega⟩
    simp only [LN] at hc3
    omega
  · obtain ⟨a1, a2, a3, a4, a5, a6, a7, a8, a9, b1, b2, b3, b4⟩ := h
    refine ⟨⟨by omega, by omega, by omega, by omega, by omega, by omega, by omega, by omega, fun i hi => ?_⟩, a6, b4, a5, b3, hy a4 (by simpa using hy0)⟩
    have := a8 i hi
    omega

theorem allongelaw26_few_post (r : Realm) (f : File) : (fun (x : Bool) => x = true → r.Small ∧ r.ByOK ∧ r.HaltOK ∧ r.FirmOK ∧ r.RateOK ∧ RightF r f) (allongelaw26_few r f) := have h := Sk.pval _ (allongelaw26_few_pst r f); h
theorem allongelaw26_few_ok (r : Realm) (f : File) : (allongelaw26_few_sk r f).obs (fun _ => True) := by
  refine Sk.obs_of _ ?_
  unfold allongelaw26_few_sk
  simp only [Sk.obq, Sk.isLoop, reduceCtorEq, ON, kk, allongeref09_Check_k, allongeref12_Check_k, allongeref15_Few_k, maxLen]
  intro x _ hx hc
  have h := hx (by simpa using hc)
  have a7 := h.2.2.2.2.2.2.1
  have a8 := h.2.2.2.2.2.2.2.1
  refine ⟨Nat.zero_le _, fun i hi hm hc2 => ?_⟩
  simp only [LN] at hc2
  have a9 := a8 i (by omega)
  refine ⟨⟨Nat.zero_le _, fun q hq => ⟨by omega, fun _ hc3 => ?_⟩⟩, fun _ _ _ => ⟨(w64_id (by omega) (by omega)).trans (by omega), by omega, by omega⟩⟩
  simp only [LN] at hc3
  exact ⟨by omega, fun _ _ _ _ => ⟨(w64_id (by omega) (by omega)).trans (by omega), by omega, by omega⟩⟩

noncomputable def allongelaw26_few_k (r : Realm) (f : File) : Ctr (Bool) := kk tok mixed Tryz.func8 [av r.cells, av f.cells] (fun x => bv x) true (allongelaw26_few_sk r f) (allongelaw26_few r f) (fun (_ : True) => allongelaw26_few_ok r f) (fun (x : Bool) => x = true → r.Small ∧ r.ByOK ∧ r.HaltOK ∧ r.FirmOK ∧ r.RateOK ∧ RightF r f) (allongelaw26_few_post r f)
end Go.Proofs.YtjaehpinmdpmbaaGreatDoor

