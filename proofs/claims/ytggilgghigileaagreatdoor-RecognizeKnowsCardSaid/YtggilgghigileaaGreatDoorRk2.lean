/- Functions, as sketches. -/
import Derived.Test.YtggilgghigileaaGreatDoorRk1
namespace Go.Proofs.YtggilgghigileaaGreatDoor
open Go Go.Av
set_option linter.unusedSimpArgs false
set_option linter.unusedVariables false
set_option maxHeartbeats 1000000
set_option maxRecDepth 100000
noncomputable def slices_ContainsFunc_57_sk (s : List Receipt) (v : Realm) : Sk (Bool) :=
 .r 1 ((slices_IndexFunc_57_k s v).c) fun x1 =>
 .fin (decide (x1 ≥ 0))
noncomputable def slices_ContainsFunc_57 (s : List Receipt) (v : Realm) : Bool := (slices_ContainsFunc_57_sk s v).val
theorem slices_ContainsFunc_57_pst (s : List Receipt) (v : Realm) : (slices_ContainsFunc_57_sk s v).pst (fun (x : Bool) => (x = true ↔ ∃ q, q < s.length ∧ recognize_Received_c1 (s.getD q default) v = true)) := by
  refine Sk.pst_of _ ?_
  unfold slices_ContainsFunc_57_sk
  simp only [Sk.pstq, Sk.isLoop, reduceCtorEq, leafB, leafJ, Cal.z, Cal.p, Cal.t, Cal.pt, Cal.o, Cal.and, Cal.andl, Cal.andr, Cal.wh, Cal.dep, Cal.depr, Ctr.c, Ctr.nil, Ctr.nilc, CtrO.c, CtrO.nil, slices_IndexFunc_57_k, maxLen, implies_true, true_and, and_true, and_self, true_implies, false_implies, ixP, szP, mkP]
  all_goals (repeat' first | assumption | (apply And.intro) | (intro h))
  all_goals first | trivial | assumption | omega | ((try simp only [decide_eq_true_eq, decide_eq_false_iff_not, List.length_append, List.length_cons, List.length_nil, List.length_set, List.length_replicate, Bool.not_eq_true, Bool.not_eq_false, Int.not_lt, Int.not_le, Bool.and_eq_true, Bool.or_eq_true, Bool.and_eq_false_iff, Bool.or_eq_false_iff, Bool.not_eq_eq_eq_not, Bool.not_true, Bool.not_false, beq_iff_eq, bne_iff_ne, beq_eq_false_iff_ne, bne_eq_false_iff_eq, ne_eq, subL_length] at *) <;> first | omega | (refine (w64_id ?_ ?_).trans ?_ <;> omega) | (simp (disch := omega) only [w64_id] at *; omega) | (grind) | (simp_all; done) | (simp_all; omega))

theorem slices_ContainsFunc_57_post (s : List Receipt) (v : Realm) : (fun (x : Bool) => (x = true ↔ ∃ q, q < s.length ∧ recognize_Received_c1 (s.getD q default) v = true)) (slices_ContainsFunc_57 s v) := Sk.pval _ (slices_ContainsFunc_57_pst s v)
theorem slices_ContainsFunc_57_ok (s : List Receipt) (v : Realm) : (slices_ContainsFunc_57_sk s v).obs (fun _ => True) := by
  refine Sk.obs_of _ ?_
  unfold slices_ContainsFunc_57_sk
  simp only [Sk.obq, Sk.isLoop, reduceCtorEq, leafB, leafJ, Cal.z, Cal.p, Cal.t, Cal.pt, Cal.o, Cal.and, Cal.andl, Cal.andr, Cal.wh, Cal.dep, Cal.depr, Ctr.c, Ctr.nil, Ctr.nilc, CtrO.c, CtrO.nil, slices_IndexFunc_57_k, maxLen, implies_true, true_and, and_true, and_self, true_implies, false_implies, ixP, szP, mkP]

theorem slices_ContainsFunc_57_fn (s : List Receipt) (v : Realm) : FnA Tryz.prog 56 [lv Receipt.cells s, .fn 57 [.ref v.cells]] [] (bv (slices_ContainsFunc_57 s v)) [] :=
  FnA.sk tok mixed (fun x => bv x) (fun _ => []) Tryz.func56 rfl (by kernel_rfl) 3000 (slices_ContainsFunc_57_sk s v) (by kernel_rfl) (slices_ContainsFunc_57_ok s v)
noncomputable def slices_ContainsFunc_57_k (s : List Receipt) (v : Realm) : Ctr (Bool) := ⟨Tryz.prog, 56, [lv Receipt.cells s, .fn 57 [.ref v.cells]], fun x => bv x, true, slices_ContainsFunc_57 s v, True, fun _ => slices_ContainsFunc_57_fn s v, fun (x : Bool) => (x = true ↔ ∃ q, q < s.length ∧ recognize_Received_c1 (s.getD q default) v = true), slices_ContainsFunc_57_post s v⟩
noncomputable def money_within_sk (n : Int) (most : Int) : Sk (Bool) :=
 .fin ((decide (n ≥ 0)) && (decide (n ≤ most)))
noncomputable def money_within (n : Int) (most : Int) : Bool := (money_within_sk n most).val
theorem money_within_eq (n : Int) (most : Int) : money_within n most = ((decide (n ≥ 0)) && (decide (n ≤ most))) := rfl
theorem money_within_ok (n : Int) (most : Int) : (money_within_sk n most).obs (fun _ => True) := by
  refine Sk.obs_of _ ?_
  unfold money_within_sk
  simp only [Sk.obq, Sk.isLoop, reduceCtorEq, leafB, leafJ, Cal.z, Cal.p, Cal.t, Cal.pt, Cal.o, Cal.and, Cal.andl, Cal.andr, Cal.wh, Cal.dep, Cal.depr, Ctr.c, Ctr.nil, Ctr.nilc, CtrO.c, CtrO.nil, maxLen, implies_true, true_and, and_true, and_self, true_implies, false_implies, ixP, szP, mkP]

theorem money_within_fn (n : Int) (most : Int) : FnA Tryz.prog 66 [iv n, iv most] [] (bv (money_within n most)) [] :=
  FnA.sk tok mixed (fun x => bv x) (fun _ => []) Tryz.func66 rfl (by kernel_rfl) 3000 (money_within_sk n most) (by kernel_rfl) (money_within_ok n most)
noncomputable def money_within_k (n : Int) (most : Int) : Ctr (Bool) := ⟨Tryz.prog, 66, [iv n, iv most], fun x => bv x, true, money_within n most, True, fun _ => money_within_fn n most, fun _ => True, trivial⟩
noncomputable def money_latest_sk (rates : List RateX) (from_ : Int) (to_ : Int) (day : Int) : Sk (RateX × Bool) :=
 .bind true (fun _ => True)
 (.loop (default : Sum (RateX × Bool) (Bool × RateX)) (fun i2 => i2.2.1 ≤ rates.length) (fun i2 => rates.length - i2.2.1) ((false, 0, ({ from_ := 0, to_ := 0, num := 0, den := 0, since := 0 } : RateX)) : Bool × Nat × RateX)
 (fun (i2 : Bool × Nat × RateX) => ⟨[(11, bv i2.1), (16, iv ((i2.2.1 : Nat) : Int))], [(10, .box (i2.2.2.cells.map .d))]⟩) fun i2 =>
 .bnd 14 0 rates.length <|
 .br (decide (((i2.2.1 : Nat) : Int) < ((rates.length : Nat) : Int)))
 (.r 5 (.p (ixP ((i2.2.1 : Nat) : Int) rates.length)) fun _ =>
 .br ((((((rates.getD i2.2.1 default).from_) == from_) && (((rates.getD i2.2.1 default).to_) == to_)) && (decide (((rates.getD i2.2.1 default).since) ≤ day))) && ((!i2.1) || (decide (((rates.getD i2.2.1 default).since) > i2.2.2.since))))
 (.r 8 .z fun _ =>
 .wi 16 (w64 (((i2.2.1 : Nat) : Int) + 1)) ((i2.2.1 + 1 : Nat) : Int) <|
 .fin (.inr (true, i2.2.1 + 1, rates.getD i2.2.1 default)))
 (.r 8 .z fun _ =>
 .wi 16 (w64 (((i2.2.1 : Nat) : Int) + 1)) ((i2.2.1 + 1 : Nat) : Int) <|
 .fin (.inr (i2.1, i2.2.1 + 1, i2.2.2))))
 (.fin (.inl (.inr (i2.1, i2.2.2)))))
 (fun (b1 : Bool × RateX) => ⟨[(11, bv b1.1)], [(10, .box (b1.2.cells.map .d))]⟩) fun b1 =>
 .fin (b1.2, b1.1)
noncomputable def money_latest (rates : List RateX) (from_ : Int) (to_ : Int) (day : Int) : RateX × Bool := (money_latest_sk rates from_ to_ day).val
theorem money_latest_ok (rates : List RateX) (from_ : Int) (to_ : Int) (day : Int) : (money_latest_sk rates from_ to_ day).obs (fun _ => True) := by
  refine Sk.obs_of _ ?_
  unfold money_latest_sk
  simp only [Sk.obq, Sk.isLoop, reduceCtorEq, leafB, leafJ, Cal.z, Cal.p, Cal.t, Cal.pt, Cal.o, Cal.and, Cal.andl, Cal.andr, Cal.wh, Cal.dep, Cal.depr, Ctr.c, Ctr.nil, Ctr.nilc, CtrO.c, CtrO.nil, maxLen, implies_true, true_and, and_true, and_self, true_implies, false_implies, ixP, szP, mkP]
  all_goals (repeat' first | assumption | (apply And.intro) | (intro h))
  all_goals first | trivial | assumption | omega | ((try simp only [decide_eq_true_eq, decide_eq_false_iff_not, List.length_append, List.length_cons, List.length_nil, List.length_set, List.length_replicate, Bool.not_eq_true, Bool.not_eq_false, Int.not_lt, Int.not_le, Bool.and_eq_true, Bool.or_eq_true, Bool.and_eq_false_iff, Bool.or_eq_false_iff, Bool.not_eq_eq_eq_not, Bool.not_true, Bool.not_false, beq_iff_eq, bne_iff_ne, beq_eq_false_iff_ne, bne_eq_false_iff_eq, ne_eq, subL_length] at *) <;> first | omega | (refine (w64_id ?_ ?_).trans ?_ <;> omega) | (simp (disch := omega) only [w64_id] at *; omega) | (grind) | (simp_all; done) | (simp_all; omega))

theorem money_latest_fn (rates : List RateX) (from_ : Int) (to_ : Int) (day : Int) : FnA Tryz.prog 67 [lv RateX.cells rates, iv from_, iv to_, iv day] [] (.tup [av ((money_latest rates from_ to_ day).1).cells, bv ((money_latest rates from_ to_ day).2)]) [] :=
  FnA.sk tok mixed (fun x => .tup [av x.1.cells, bv x.2]) (fun _ => []) Tryz.func67 rfl (by kernel_rfl) 3000 (money_latest_sk rates from_ to_ day) (by kernel_rfl) (money_latest_ok rates from_ to_ day)
noncomputable def money_latest_k (rates : List RateX) (from_ : Int) (to_ : Int) (day : Int) : Ctr (RateX × Bool) := ⟨Tryz.prog, 67, [lv RateX.cells rates, iv from_, iv to_, iv day], fun x => .tup [av x.1.cells, bv x.2], true, money_latest rates from_ to_ day, True, fun _ => money_latest_fn rates from_ to_ day, fun _ => True, trivial⟩
noncomputable def bits_Mul64_sk (x_ : Int) (y : Int) : Sk (Int × Int) :=
 .r 2 (.p (0 ≤ (32 : Int))) fun _ =>
 .r 4 (.p (0 ≤ (32 : Int))) fun _ =>
 .r 6 (.p (0 ≤ (32 : Int))) fun _ =>
 .r 8 (.p (0 ≤ (32 : Int))) fun _ =>
 .r 10 (.p (0 ≤ (32 : Int))) fun _ =>
 .fin (IntKind.u64.wrap ((IntKind.u64.wrap ((IntKind.u64.wrap ((shrK .u64 x_ 32) * (shrK .u64 y 32))) + (shrK .u64 (IntKind.u64.wrap ((IntKind.u64.wrap ((shrK .u64 x_ 32) * (andK .u64 y 4294967295))) + (shrK .u64 (IntKind.u64.wrap ((andK .u64 x_ 4294967295) * (andK .u64 y 4294967295))) 32))) 32))) + (shrK .u64 (IntKind.u64.wrap ((andK .u64 (IntKind.u64.wrap ((IntKind.u64.wrap ((shrK .u64 x_ 32) * (andK .u64 y 4294967295))) + (shrK .u64 (IntKind.u64.wrap ((andK .u64 x_ 4294967295) * (andK .u64 y 4294967295))) 32))) 4294967295) + (IntKind.u64.wrap ((andK .u64 x_ 4294967295) * (shrK .u64 y 32))))) 32)), IntKind.u64.wrap (x_ * y))
noncomputable def bits_Mul64 (x_ : Int) (y : Int) : Int × Int := (bits_Mul64_sk x_ y).val
theorem bits_Mul64_pst (x_ : Int) (y : Int) : (bits_Mul64_sk x_ y).pst (fun (x : Int × Int) => 0 ≤ x.1 ∧ x.1 < 18446744073709551616 ∧ 0 ≤ x.2 ∧ x.2 < 18446744073709551616) := by
  refine Sk.pst_of _ ?_
  unfold bits_Mul64_sk
  simp only [Sk.pstq, Sk.isLoop, reduceCtorEq, leafB, leafJ, Cal.z, Cal.p, Cal.t, Cal.pt, Cal.o, Cal.and, Cal.andl, Cal.andr, Cal.wh, Cal.dep, Cal.depr, Ctr.c, Ctr.nil, Ctr.nilc, CtrO.c, CtrO.nil, maxLen, implies_true, true_and, and_true, and_self, true_implies, false_implies, ixP, szP, mkP]
  intro _ _ _ _ _
  exact ⟨(u64_rng _).1, (u64_rng _).2, (u64_rng _).1, (u64_rng _).2⟩

theorem bits_Mul64_post (x_ : Int) (y : Int) : (fun (x : Int × Int) => 0 ≤ x.1 ∧ x.1 < 18446744073709551616 ∧ 0 ≤ x.2 ∧ x.2 < 18446744073709551616) (bits_Mul64 x_ y) := Sk.pval _ (bits_Mul64_pst x_ y)
theorem bits_Mul64_ok (x_ : Int) (y : Int) : (bits_Mul64_sk x_ y).obs (fun _ => True) := by
  refine Sk.obs_of _ ?_
  unfold bits_Mul64_sk
  simp only [Sk.obq, Sk.isLoop, reduceCtorEq, leafB, leafJ, Cal.z, Cal.p, Cal.t, Cal.pt, Cal.o, Cal.and, Cal.andl, Cal.andr, Cal.wh, Cal.dep, Cal.depr, Ctr.c, Ctr.nil, Ctr.nilc, CtrO.c, CtrO.nil, maxLen, implies_true, true_and, and_true, and_self, true_implies, false_implies, ixP, szP, mkP]
  all_goals (repeat' first | assumption | (apply And.intro) | (intro h))
  all_goals first | trivial | assumption | omega | ((try simp only [decide_eq_true_eq, decide_eq_false_iff_not, List.length_append, List.length_cons, List.length_nil, List.length_set, List.length_replicate, Bool.not_eq_true, Bool.not_eq_false, Int.not_lt, Int.not_le, Bool.and_eq_true, Bool.or_eq_true, Bool.and_eq_false_iff, Bool.or_eq_false_iff, Bool.not_eq_eq_eq_not, Bool.not_true, Bool.not_false, beq_iff_eq, bne_iff_ne, beq_eq_false_iff_ne, bne_eq_false_iff_eq, ne_eq, subL_length] at *) <;> first | omega | (refine (w64_id ?_ ?_).trans ?_ <;> omega) | (simp (disch := omega) only [w64_id] at *; omega) | (grind) | (simp_all; done) | (simp_all; omega))

theorem bits_Mul64_fn (x_ : Int) (y : Int) : FnA Tryz.prog 102 [.d (.v (.int .u64 x_)), .d (.v (.int .u64 y))] [] (.tup [.d (.v (.int .u64 ((bits_Mul64 x_ y).1))), .d (.v (.int .u64 ((bits_Mul64 x_ y).2)))]) [] :=
  FnA.sk tok mixed (fun x => .tup [.d (.v (.int .u64 x.1)), .d (.v (.int .u64 x.2))]) (fun _ => []) Tryz.func102 rfl (by kernel_rfl) 3000 (bits_Mul64_sk x_ y) (by kernel_rfl) (bits_Mul64_ok x_ y)
noncomputable def bits_Mul64_k (x_ : Int) (y : Int) : Ctr (Int × Int) := ⟨Tryz.prog, 102, [.d (.v (.int .u64 x_)), .d (.v (.int .u64 y))], fun x => .tup [.d (.v (.int .u64 x.1)), .d (.v (.int .u64 x.2))], true, bits_Mul64 x_ y, True, fun _ => bits_Mul64_fn x_ y, fun (x : Int × Int) => 0 ≤ x.1 ∧ x.1 < 18446744073709551616 ∧ 0 ≤ x.2 ∧ x.2 < 18446744073709551616, bits_Mul64_post x_ y⟩
def T8 : List Nat := [0, 1, 2, 2, 3, 3, 3, 3, 4, 4, 4, 4, 4, 4, 4, 4] ++ List.replicate 16 5 ++ List.replicate 32 6 ++ List.replicate 64 7 ++ List.replicate 128 8
theorem T8_ok : ∀ k, k < 256 → 0 < k → 1 ≤ T8.getD k 0 ∧ T8.getD k 0 ≤ 8 ∧ 2 ^ (T8.getD k 0 - 1) ≤ k ∧ k < 2 ^ (T8.getD k 0) := by decide +kernel
theorem len_up {x d : Int} {n t : Nat} (hd : d = 2 ^ n) (h1 : (2 : Int) ^ (t - 1) ≤ x / d) (h2 : x / d < 2 ^ t) (ht : 1 ≤ t) : (2 : Int) ^ (n + t - 1) ≤ x ∧ x < 2 ^ (n + t) := by
  subst hd
  have hp : (0 : Int) < 2 ^ n := Int.pow_pos (by omega)
  have e := Int.mul_ediv_add_emod x (2 ^ n)
  have r0 := Int.emod_nonneg x (Int.ne_of_gt hp)
  have r1 := Int.emod_lt_of_pos x hp
  rw [show n + t - 1 = n + (t - 1) by omega, Int.pow_add, Int.pow_add]
  constructor
  · have := Int.mul_le_mul_of_nonneg_left h1 (Int.le_of_lt hp)
    omega
  · have : (2 : Int) ^ n * (x / 2 ^ n + 1) ≤ 2 ^ n * 2 ^ t := Int.mul_le_mul_of_nonneg_left (by omega) (Int.le_of_lt hp)
    rw [Int.mul_add] at this
    omega

theorem shr32 (a : Int) : shrK .u64 a 32 = a / 4294967296 := shr_eq .u64 (b := 32) (by decide)
theorem shr16 (a : Int) : shrK .u64 a 16 = a / 65536 := shr_eq .u64 (b := 16) (by decide)
theorem shr8 (a : Int) : shrK .u64 a 8 = a / 256 := shr_eq .u64 (b := 8) (by decide)
theorem T8_int {x : Int} (h : 0 < x) (h2 : x < 256) : 1 ≤ T8.getD x.toNat 0 ∧ T8.getD x.toNat 0 ≤ 8 ∧ (2 : Int) ^ (T8.getD x.toNat 0 - 1) ≤ x ∧ x < 2 ^ (T8.getD x.toNat 0) := by
  obtain ⟨h3, h4, h5, h6⟩ := T8_ok x.toNat (by omega) (by omega)
  refine ⟨h3, h4, ?_, ?_⟩
  · have : ((2 ^ (T8.getD x.toNat 0 - 1) : Nat) : Int) ≤ (x.toNat : Int) := by exact_mod_cast h5
    rw [Int.natCast_pow] at this
    have e : ((2 : Nat) : Int) = 2 := rfl
    rw [e] at this
    omega
  · have : ((x.toNat : Nat) : Int) < ((2 ^ (T8.getD x.toNat 0) : Nat) : Int) := by exact_mod_cast h6
    rw [Int.natCast_pow] at this
    have e : ((2 : Nat) : Int) = 2 := rfl
    rw [e] at this
    omega
theorem tab_eq : ∀ k, k < 256 → ((⟨#[0, 1, 2, 2, 3, 3, 3, 3, 4, 4, 4, 4, 4, 4, 4, 4, 5, 5, 5, 5, 5, 5, 5, 5, 5, 5, 5, 5, 5, 5, 5, 5, 6, 6, 6, 6, 6, 6, 6, 6, 6, 6, 6, 6, 6, 6, 6, 6, 6, 6, 6, 6, 6, 6, 6, 6, 6, 6, 6, 6, 6, 6, 6, 6, 7, 7, 7, 7, 7, 7, 7, 7, 7, 7, 7, 7, 7, 7, 7, 7, 7, 7, 7, 7, 7, 7, 7, 7, 7, 7, 7, 7, 7, 7, 7, 7, 7, 7, 7, 7, 7, 7, 7, 7, 7, 7, 7, 7, 7, 7, 7, 7, 7, 7, 7, 7, 7, 7, 7, 7, 7, 7, 7, 7, 7, 7, 7, 7, 8, 8, 8, 8, 8, 8, 8, 8, 8, 8, 8, 8, 8, 8, 8, 8, 8, 8, 8, 8, 8, 8, 8, 8, 8, 8, 8, 8, 8, 8, 8, 8, 8, 8, 8, 8, 8, 8, 8, 8, 8, 8, 8, 8, 8, 8, 8, 8, 8, 8, 8, 8, 8, 8, 8, 8, 8, 8, 8, 8, 8, 8, 8, 8, 8, 8, 8, 8, 8, 8, 8, 8, 8, 8, 8, 8, 8, 8, 8, 8, 8, 8, 8, 8, 8, 8, 8, 8, 8, 8, 8, 8, 8, 8, 8, 8, 8, 8, 8, 8, 8, 8, 8, 8, 8, 8, 8, 8, 8, 8, 8, 8, 8, 8, 8, 8, 8, 8, 8, 8, 8, 8, 8, 8, 8, 8, 8, 8]⟩ : ByteArray).data.toList.getD k 0).toNat = T8.getD k 0 := by decide +kernel
theorem len_fin {x d : Int} {n t : Nat} (hd : d = 2 ^ n) (h1 : (2 : Int) ^ (t - 1) ≤ x / d) (h2 : x / d < 2 ^ t) (ht : 1 ≤ t) (ht8 : t ≤ 8) (hn : n ≤ 56) {r : Int} (hr : r = (n + t : Nat)) : 1 ≤ r ∧ r ≤ 64 ∧ 2 ^ (r.toNat - 1) ≤ x ∧ x < 2 ^ r.toNat := by
  subst hr
  have := len_up hd h1 h2 ht
  rw [Int.toNat_natCast]
  exact ⟨by omega, by omega, this.1, this.2⟩
noncomputable def bits_Len64_sk (x_ : Int) : Sk (Int) :=
 .bind false (fun b1 => (0 < x_ → 0 < b1.1) ∧ 0 ≤ b1.1 ∧ b1.1 < 4294967296 ∧ ((b1.2 = 0 ∧ b1.1 = x_) ∨ (b1.2 = 32 ∧ b1.1 = x_ / 4294967296)))
 (.br (decide (x_ ≥ 4294967296))
 (.r 2 (.p (0 ≤ (32 : Int))) fun _ =>
 .fin (.inr (shrK .u64 x_ 32, 32)))
 (.fin (.inr (x_, 0))))
 (fun (b1 : Int × Int) => ⟨[(0, .d (.v (.int .u64 b1.1))), (2, iv b1.2)], []⟩) fun b1 =>
 .bind false (fun b2 => (0 < x_ → 0 < b2.1) ∧ 0 ≤ b2.1 ∧ b2.1 < 65536 ∧ ((b2.2 = 0 ∧ b2.1 = x_) ∨ (b2.2 = 16 ∧ b2.1 = x_ / 65536) ∨ (b2.2 = 32 ∧ b2.1 = x_ / 4294967296) ∨ (b2.2 = 48 ∧ b2.1 = x_ / 281474976710656)))
 (.br (decide (b1.1 ≥ 65536))
 (.r 5 (.p (0 ≤ (16 : Int))) fun _ =>
 .fin (.inr (shrK .u64 b1.1 16, w64 (b1.2 + 16))))
 (.fin (.inr (b1.1, b1.2))))
 (fun (b2 : Int × Int) => ⟨[(0, .d (.v (.int .u64 b2.1))), (2, iv b2.2)], []⟩) fun b2 =>
 .br (decide (b2.1 ≥ 256))
 (.r 8 (.p (0 ≤ (8 : Int))) fun _ =>
 .r 10 (.p (0 ≤ (IntKind.u8.wrap (shrK .u64 b2.1 8)) ∧ (IntKind.u8.wrap (shrK .u64 b2.1 8)) < (((⟨#[0, 1, 2, 2, 3, 3, 3, 3, 4, 4, 4, 4, 4, 4, 4, 4, 5, 5, 5, 5, 5, 5, 5, 5, 5, 5, 5, 5, 5, 5, 5, 5, 6, 6, 6, 6, 6, 6, 6, 6, 6, 6, 6, 6, 6, 6, 6, 6, 6, 6, 6, 6, 6, 6, 6, 6, 6, 6, 6, 6, 6, 6, 6, 6, 7, 7, 7, 7, 7, 7, 7, 7, 7, 7, 7, 7, 7, 7, 7, 7, 7, 7, 7, 7, 7, 7, 7, 7, 7, 7, 7, 7, 7, 7, 7, 7, 7, 7, 7, 7, 7, 7, 7, 7, 7, 7, 7, 7, 7, 7, 7, 7, 7, 7, 7, 7, 7, 7, 7, 7, 7, 7, 7, 7, 7, 7, 7, 7, 8, 8, 8, 8, 8, 8, 8, 8, 8, 8, 8, 8, 8, 8, 8, 8, 8, 8, 8, 8, 8, 8, 8, 8, 8, 8, 8, 8, 8, 8, 8, 8, 8, 8, 8, 8, 8, 8, 8, 8, 8, 8, 8, 8, 8, 8, 8, 8, 8, 8, 8, 8, 8, 8, 8, 8, 8, 8, 8, 8, 8, 8, 8, 8, 8, 8, 8, 8, 8, 8, 8, 8, 8, 8, 8, 8, 8, 8, 8, 8, 8, 8, 8, 8, 8, 8, 8, 8, 8, 8, 8, 8, 8, 8, 8, 8, 8, 8, 8, 8, 8, 8, 8, 8, 8, 8, 8, 8, 8, 8, 8, 8, 8, 8, 8, 8, 8, 8, 8, 8, 8, 8, 8, 8, 8, 8, 8, 8]⟩ : ByteArray).size : Nat) : Int))) fun _ =>
 .fin (w64 ((w64 (b2.2 + 8)) + (w64 ((((⟨#[0, 1, 2, 2, 3, 3, 3, 3, 4, 4, 4, 4, 4, 4, 4, 4, 5, 5, 5, 5, 5, 5, 5, 5, 5, 5, 5, 5, 5, 5, 5, 5, 6, 6, 6, 6, 6, 6, 6, 6, 6, 6, 6, 6, 6, 6, 6, 6, 6, 6, 6, 6, 6, 6, 6, 6, 6, 6, 6, 6, 6, 6, 6, 6, 7, 7, 7, 7, 7, 7, 7, 7, 7, 7, 7, 7, 7, 7, 7, 7, 7, 7, 7, 7, 7, 7, 7, 7, 7, 7, 7, 7, 7, 7, 7, 7, 7, 7, 7, 7, 7, 7, 7, 7, 7, 7, 7, 7, 7, 7, 7, 7, 7, 7, 7, 7, 7, 7, 7, 7, 7, 7, 7, 7, 7, 7, 7, 7, 8, 8, 8, 8, 8, 8, 8, 8, 8, 8, 8, 8, 8, 8, 8, 8, 8, 8, 8, 8, 8, 8, 8, 8, 8, 8, 8, 8, 8, 8, 8, 8, 8, 8, 8, 8, 8, 8, 8, 8, 8, 8, 8, 8, 8, 8, 8, 8, 8, 8, 8, 8, 8, 8, 8, 8, 8, 8, 8, 8, 8, 8, 8, 8, 8, 8, 8, 8, 8, 8, 8, 8, 8, 8, 8, 8, 8, 8, 8, 8, 8, 8, 8, 8, 8, 8, 8, 8, 8, 8, 8, 8, 8, 8, 8, 8, 8, 8, 8, 8, 8, 8, 8, 8, 8, 8, 8, 8, 8, 8, 8, 8, 8, 8, 8, 8, 8, 8, 8, 8, 8, 8, 8, 8, 8, 8, 8, 8]⟩ : ByteArray).data.toList.getD ((IntKind.u8.wrap (shrK .u64 b2.1 8)).toNat) 0).toNat : Int))))))
 (.r 10 (.p (0 ≤ (IntKind.u8.wrap (b2.1)) ∧ (IntKind.u8.wrap (b2.1)) < (((⟨#[0, 1, 2, 2, 3, 3, 3, 3, 4, 4, 4, 4, 4, 4, 4, 4, 5, 5, 5, 5, 5, 5, 5, 5, 5, 5, 5, 5, 5, 5, 5, 5, 6, 6, 6, 6, 6, 6, 6, 6, 6, 6, 6, 6, 6, 6, 6, 6, 6, 6, 6, 6, 6, 6, 6, 6, 6, 6, 6, 6, 6, 6, 6, 6, 7, 7, 7, 7, 7, 7, 7, 7, 7, 7, 7, 7, 7, 7, 7, 7, 7, 7, 7, 7, 7, 7, 7, 7, 7, 7, 7, 7, 7, 7, 7, 7, 7, 7, 7, 7, 7, 7, 7, 7, 7, 7, 7, 7, 7, 7, 7, 7, 7, 7, 7, 7, 7, 7, 7, 7, 7, 7, 7, 7, 7, 7, 7, 7, 8, 8, 8, 8, 8, 8, 8, 8, 8, 8, 8, 8, 8, 8, 8, 8, 8, 8, 8, 8, 8, 8, 8, 8, 8, 8, 8, 8, 8, 8, 8, 8, 8, 8, 8, 8, 8, 8, 8, 8, 8, 8, 8, 8, 8, 8, 8, 8, 8, 8, 8, 8, 8, 8, 8, 8, 8, 8, 8, 8, 8, 8, 8, 8, 8, 8, 8, 8, 8, 8, 8, 8, 8, 8, 8, 8, 8, 8, 8, 8, 8, 8, 8, 8, 8, 8, 8, 8, 8, 8, 8, 8, 8, 8, 8, 8, 8, 8, 8, 8, 8, 8, 8, 8, 8, 8, 8, 8, 8, 8, 8, 8, 8, 8, 8, 8, 8, 8, 8, 8, 8, 8, 8, 8, 8, 8, 8, 8]⟩ : ByteArray).size : Nat) : Int))) fun _ =>
 .fin (w64 (b2.2 + (w64 ((((⟨#[0, 1, 2, 2, 3, 3, 3, 3, 4, 4, 4, 4, 4, 4, 4, 4, 5, 5, 5, 5, 5, 5, 5, 5, 5, 5, 5, 5, 5, 5, 5, 5, 6, 6, 6, 6, 6, 6, 6, 6, 6, 6, 6, 6, 6, 6, 6, 6, 6, 6, 6, 6, 6, 6, 6, 6, 6, 6, 6, 6, 6, 6, 6, 6, 7, 7, 7, 7, 7, 7, 7, 7, 7, 7, 7, 7, 7, 7, 7, 7, 7, 7, 7, 7, 7, 7, 7, 7, 7, 7, 7, 7, 7, 7, 7, 7, 7, 7, 7, 7, 7, 7, 7, 7, 7, 7, 7, 7, 7, 7, 7, 7, 7, 7, 7, 7, 7, 7, 7, 7, 7, 7, 7, 7, 7, 7, 7, 7, 8, 8, 8, 8, 8, 8, 8, 8, 8, 8, 8, 8, 8, 8, 8, 8, 8, 8, 8, 8, 8, 8, 8, 8, 8, 8, 8, 8, 8, 8, 8, 8, 8, 8, 8, 8, 8, 8, 8, 8, 8, 8, 8, 8, 8, 8, 8, 8, 8, 8, 8, 8, 8, 8, 8, 8, 8, 8, 8, 8, 8, 8, 8, 8, 8, 8, 8, 8, 8, 8, 8, 8, 8, 8, 8, 8, 8, 8, 8, 8, 8, 8, 8, 8, 8, 8, 8, 8, 8, 8, 8, 8, 8, 8, 8, 8, 8, 8, 8, 8, 8, 8, 8, 8, 8, 8, 8, 8, 8, 8, 8, 8, 8, 8, 8, 8, 8, 8, 8, 8, 8, 8, 8, 8, 8, 8, 8, 8]⟩ : ByteArray).data.toList.getD ((IntKind.u8.wrap (b2.1)).toNat) 0).toNat : Int))))))
noncomputable def bits_Len64 (x_ : Int) : Int := (bits_Len64_sk x_).val
theorem bits_Len64_pst (x_ : Int) (hP : 0 < x_ ∧ x_ < 18446744073709551616) : (bits_Len64_sk x_).pst (fun (x : Int) => 1 ≤ x ∧ x ≤ 64 ∧ 2 ^ (x.toNat - 1) ≤ x_ ∧ x_ < 2 ^ x.toNat) := by
  refine Sk.pst_of _ ?_
  unfold bits_Len64_sk
  simp only [Sk.pstq, Sk.isLoop, reduceCtorEq, leafB, leafJ, Cal.z, Cal.p, Cal.t, Cal.pt, Cal.o, Cal.and, Cal.andl, Cal.andr, Cal.wh, Cal.dep, Cal.depr, Ctr.c, Ctr.nil, Ctr.nilc, CtrO.c, CtrO.nil, maxLen, implies_true, true_and, and_true, and_self, true_implies, false_implies, ixP, szP, mkP]
  simp only [shr32, shr16, shr8, w64_id (n := (32 : Int)) (by decide) (by decide)] at *
  refine ⟨⟨fun hc _ => ?_, fun hc => ?_⟩, fun b _ hb => ⟨⟨fun hc _ => ?_, fun hc => ?_⟩, fun d _ hd => ⟨fun hc _ _ => ?_, fun hc _ => ?_⟩⟩⟩
  all_goals simp only [decide_eq_true_eq, decide_eq_false_iff_not, List.length_append, List.length_cons, List.length_nil, List.length_set, List.length_replicate, Bool.not_eq_true, Bool.not_eq_false, Int.not_lt, Int.not_le, Bool.and_eq_true, Bool.or_eq_true, Bool.and_eq_false_iff, Bool.or_eq_false_iff, Bool.not_eq_eq_eq_not, Bool.not_true, Bool.not_false, beq_iff_eq, bne_iff_ne, beq_eq_false_iff_ne, bne_eq_false_iff_eq, ne_eq, subL_length] at hc
  · (try simp only [true_or, or_true, and_true, true_and]); omega
  · (try simp only [true_or, or_true, and_true, true_and]); omega
  · have e : w64 (b.2 + 16) = b.2 + 16 := w64_id (by omega) (by omega)
    rw [e]
    omega
  · omega
  · rw [u8_eq, Int.emod_eq_of_lt (by omega) (by omega), tab_eq _ (by omega)]
    have ht := T8_int (x := d.1 / 256) (by omega) (by omega)
    rw [w64_id (n := d.2 + 8) (by omega) (by omega), w64_id (n := ((T8.getD (d.1 / 256).toNat 0 : Nat) : Int)) (by omega) (by omega), w64_id (by omega) (by omega)]
    rcases hd.2.2.2 with ⟨h1, h2⟩ | ⟨h1, h2⟩ | ⟨h1, h2⟩ | ⟨h1, h2⟩
    · exact len_fin (n := 8) (d := 256) (t := T8.getD (d.1 / 256).toNat 0) (by decide) (by rw [← h2]; exact ht.2.2.1) (by rw [← h2]; exact ht.2.2.2) ht.1 ht.2.1 (by omega) (by omega)
    · exact len_fin (n := 24) (d := 16777216) (t := T8.getD (d.1 / 256).toNat 0) (by decide) (by rw [show x_ / 16777216 = d.1 / 256 by omega]; exact ht.2.2.1) (by rw [show x_ / 16777216 = d.1 / 256 by omega]; exact ht.2.2.2) ht.1 ht.2.1 (by omega) (by omega)
    · exact len_fin (n := 40) (d := 1099511627776) (t := T8.getD (d.1 / 256).toNat 0) (by decide) (by rw [show x_ / 1099511627776 = d.1 / 256 by omega]; exact ht.2.2.1) (by rw [show x_ / 1099511627776 = d.1 / 256 by omega]; exact ht.2.2.2) ht.1 ht.2.1 (by omega) (by omega)
    · exact len_fin (n := 56) (d := 72057594037927936) (t := T8.getD (d.1 / 256).toNat 0) (by decide) (by rw [show x_ / 72057594037927936 = d.1 / 256 by omega]; exact ht.2.2.1) (by rw [show x_ / 72057594037927936 = d.1 / 256 by omega]; exact ht.2.2.2) ht.1 ht.2.1 (by omega) (by omega)
  · rw [u8_eq, Int.emod_eq_of_lt (by omega) (by omega), tab_eq _ (by omega)]
    have ht := T8_int (x := d.1) (by omega) (by omega)
    rw [w64_id (n := ((T8.getD d.1.toNat 0 : Nat) : Int)) (by omega) (by omega), w64_id (by omega) (by omega)]
    rcases hd.2.2.2 with ⟨h1, h2⟩ | ⟨h1, h2⟩ | ⟨h1, h2⟩ | ⟨h1, h2⟩
    · exact len_fin (n := 0) (d := 1) (t := T8.getD d.1.toNat 0) (by decide) (by rw [show x_ / 1 = d.1 by omega]; exact ht.2.2.1) (by rw [show x_ / 1 = d.1 by omega]; exact ht.2.2.2) ht.1 ht.2.1 (by omega) (by omega)
    · exact len_fin (n := 16) (d := 65536) (t := T8.getD d.1.toNat 0) (by decide) (by rw [← h2]; exact ht.2.2.1) (by rw [← h2]; exact ht.2.2.2) ht.1 ht.2.1 (by omega) (by omega)
    · exact len_fin (n := 32) (d := 4294967296) (t := T8.getD d.1.toNat 0) (by decide) (by rw [← h2]; exact ht.2.2.1) (by rw [← h2]; exact ht.2.2.2) ht.1 ht.2.1 (by omega) (by omega)
    · exact len_fin (n := 48) (d := 281474976710656) (t := T8.getD d.1.toNat 0) (by decide) (by rw [← h2]; exact ht.2.2.1) (by rw [← h2]; exact ht.2.2.2) ht.1 ht.2.1 (by omega) (by omega)

theorem bits_Len64_post (x_ : Int) : (fun (x : Int) => (0 < x_ ∧ x_ < 18446744073709551616) → (1 ≤ x ∧ x ≤ 64 ∧ 2 ^ (x.toNat - 1) ≤ x_ ∧ x_ < 2 ^ x.toNat)) (bits_Len64 x_) := fun hP => Sk.pval _ (bits_Len64_pst x_ hP)
theorem bits_Len64_ok (x_ : Int) (hx : 0 ≤ x_ ∧ x_ < 18446744073709551616) : (bits_Len64_sk x_).obs (fun _ => True) := by
  refine Sk.obs_of _ ?_
  unfold bits_Len64_sk
  simp only [Sk.obq, Sk.isLoop, reduceCtorEq, leafB, leafJ, Cal.z, Cal.p, Cal.t, Cal.pt, Cal.o, Cal.and, Cal.andl, Cal.andr, Cal.wh, Cal.dep, Cal.depr, Ctr.c, Ctr.nil, Ctr.nilc, CtrO.c, CtrO.nil, maxLen, implies_true, true_and, and_true, and_self, true_implies, false_implies, ixP, szP, mkP]
  simp only [shr32, shr16, shr8, w64_id (n := (32 : Int)) (by decide) (by decide)] at *
  refine ⟨⟨fun hc => ⟨by decide, fun _ => ?_⟩, fun hc => ?_⟩, fun b _ hb => ⟨⟨fun hc => ⟨by decide, fun _ => ?_⟩, fun hc => ?_⟩, fun d _ hd => ⟨fun hc => ⟨by decide, fun _ => ⟨?_, ?_⟩⟩, fun hc => ⟨?_, ?_⟩⟩⟩⟩
  all_goals simp only [decide_eq_true_eq, decide_eq_false_iff_not, List.length_append, List.length_cons, List.length_nil, List.length_set, List.length_replicate, Bool.not_eq_true, Bool.not_eq_false, Int.not_lt, Int.not_le, Bool.and_eq_true, Bool.or_eq_true, Bool.and_eq_false_iff, Bool.or_eq_false_iff, Bool.not_eq_eq_eq_not, Bool.not_true, Bool.not_false, beq_iff_eq, bne_iff_ne, beq_eq_false_iff_ne, bne_eq_false_iff_eq, ne_eq, subL_length] at hc
  · (try simp only [true_or, or_true, and_true, true_and]); omega
  · (try simp only [true_or, or_true, and_true, true_and]); omega
  · have e : w64 (b.2 + 16) = b.2 + 16 := w64_id (by omega) (by omega)
    rw [e]
    omega
  · omega
  · rw [u8_eq]; omega
  · rw [u8_eq, Int.emod_eq_of_lt (by omega) (by omega)]; exact (show _ < ((256 : Nat) : Int) by omega)
  · rw [u8_eq]; omega
  · rw [u8_eq, Int.emod_eq_of_lt (by omega) (by omega)]; exact (show _ < ((256 : Nat) : Int) by omega)

theorem bits_Len64_fn (x_ : Int) (hx : 0 ≤ x_ ∧ x_ < 18446744073709551616) : FnA Tryz.prog 177 [.d (.v (.int .u64 x_))] [] (iv (bits_Len64 x_)) [] :=
  FnA.sk tok mixed (fun x => iv x) (fun _ => []) Tryz.func177 rfl (by kernel_rfl) 3000 (bits_Len64_sk x_) (by kernel_rfl) (bits_Len64_ok x_ hx)
noncomputable def bits_Len64_k (x_ : Int) : Ctr (Int) := ⟨Tryz.prog, 177, [.d (.v (.int .u64 x_))], fun x => iv x, true, bits_Len64 x_, (0 ≤ x_ ∧ x_ < 18446744073709551616), fun h => bits_Len64_fn x_ h, fun (x : Int) => (0 < x_ ∧ x_ < 18446744073709551616) → (1 ≤ x ∧ x ≤ 64 ∧ 2 ^ (x.toNat - 1) ≤ x_ ∧ x_ < 2 ^ x.toNat), bits_Len64_post x_⟩
noncomputable def bits_LeadingZeros64_sk (x_ : Int) : Sk (Int) :=
 .r 1 ((bits_Len64_k x_).c) fun x1 =>
 .fin (w64 ((64 : Int) - x1))
noncomputable def bits_LeadingZeros64 (x_ : Int) : Int := (bits_LeadingZeros64_sk x_).val
theorem bits_LeadingZeros64_pst (x_ : Int) (hP : 0 < x_ ∧ x_ < 18446744073709551616) : (bits_LeadingZeros64_sk x_).pst (fun (x : Int) => 0 ≤ x ∧ x ≤ 63 ∧ 9223372036854775808 ≤ x_ * 2 ^ x.toNat ∧ x_ * 2 ^ x.toNat < 18446744073709551616) := by
  refine Sk.pst_of _ ?_
  unfold bits_LeadingZeros64_sk
  simp only [Sk.pstq, Sk.isLoop, reduceCtorEq, leafB, leafJ, Cal.z, Cal.p, Cal.t, Cal.pt, Cal.o, Cal.and, Cal.andl, Cal.andr, Cal.wh, Cal.dep, Cal.depr, Ctr.c, Ctr.nil, Ctr.nilc, CtrO.c, CtrO.nil, bits_Len64_k, maxLen, implies_true, true_and, and_true, and_self, true_implies, false_implies, ixP, szP, mkP]
  intro x _ h
  obtain ⟨h1, h2, h3, h4⟩ := h hP
  rw [w64_id (by omega) (by omega)]
  have e1 : x.toNat - 1 + (64 - x).toNat = 63 := by omega
  have e2 : x.toNat + (64 - x).toNat = 64 := by omega
  have p : (0 : Int) < 2 ^ (64 - x).toNat := Int.pow_pos (by omega)
  have q1 := Int.mul_le_mul_of_nonneg_right h3 (Int.le_of_lt p)
  have q2 := Int.mul_lt_mul_of_pos_right h4 p
  rw [← Int.pow_add, e1] at q1
  rw [← Int.pow_add, e2] at q2
  refine ⟨by omega, by omega, ?_, ?_⟩
  · exact q1
  · exact q2

theorem bits_LeadingZeros64_post (x_ : Int) : (fun (x : Int) => (0 < x_ ∧ x_ < 18446744073709551616) → (0 ≤ x ∧ x ≤ 63 ∧ 9223372036854775808 ≤ x_ * 2 ^ x.toNat ∧ x_ * 2 ^ x.toNat < 18446744073709551616)) (bits_LeadingZeros64 x_) := fun hP => Sk.pval _ (bits_LeadingZeros64_pst x_ hP)
theorem bits_LeadingZeros64_ok (x_ : Int) (hx : 0 ≤ x_ ∧ x_ < 18446744073709551616) : (bits_LeadingZeros64_sk x_).obs (fun _ => True) := by
  refine Sk.obs_of _ ?_
  unfold bits_LeadingZeros64_sk
  simp only [Sk.obq, Sk.isLoop, reduceCtorEq, leafB, leafJ, Cal.z, Cal.p, Cal.t, Cal.pt, Cal.o, Cal.and, Cal.andl, Cal.andr, Cal.wh, Cal.dep, Cal.depr, Ctr.c, Ctr.nil, Ctr.nilc, CtrO.c, CtrO.nil, bits_Len64_k, maxLen, implies_true, true_and, and_true, and_self, true_implies, false_implies, ixP, szP, mkP]
  all_goals (repeat' first | assumption | (apply And.intro) | (intro h))
  all_goals first | trivial | assumption | omega | ((try simp only [decide_eq_true_eq, decide_eq_false_iff_not, List.length_append, List.length_cons, List.length_nil, List.length_set, List.length_replicate, Bool.not_eq_true, Bool.not_eq_false, Int.not_lt, Int.not_le, Bool.and_eq_true, Bool.or_eq_true, Bool.and_eq_false_iff, Bool.or_eq_false_iff, Bool.not_eq_eq_eq_not, Bool.not_true, Bool.not_false, beq_iff_eq, bne_iff_ne, beq_eq_false_iff_ne, bne_eq_false_iff_eq, ne_eq, subL_length] at *) <;> first | omega | (refine (w64_id ?_ ?_).trans ?_ <;> omega) | (simp (disch := omega) only [w64_id] at *; omega) | (grind) | (simp_all; done) | (simp_all; omega))

theorem bits_LeadingZeros64_fn (x_ : Int) (hx : 0 ≤ x_ ∧ x_ < 18446744073709551616) : FnA Tryz.prog 144 [.d (.v (.int .u64 x_))] [] (iv (bits_LeadingZeros64 x_)) [] :=
  FnA.sk tok mixed (fun x => iv x) (fun _ => []) Tryz.func144 rfl (by kernel_rfl) 3000 (bits_LeadingZeros64_sk x_) (by kernel_rfl) (bits_LeadingZeros64_ok x_ hx)
noncomputable def bits_LeadingZeros64_k (x_ : Int) : Ctr (Int) := ⟨Tryz.prog, 144, [.d (.v (.int .u64 x_))], fun x => iv x, true, bits_LeadingZeros64 x_, (0 ≤ x_ ∧ x_ < 18446744073709551616), fun h => bits_LeadingZeros64_fn x_ h, fun (x : Int) => (0 < x_ ∧ x_ < 18446744073709551616) → (0 ≤ x ∧ x ≤ 63 ∧ 9223372036854775808 ≤ x_ * 2 ^ x.toNat ∧ x_ * 2 ^ x.toNat < 18446744073709551616), bits_LeadingZeros64_post x_⟩
theorem div_step {q w r : Int} (hq : 0 ≤ q ∧ q < 18446744073709551616) (h : (decide (q ≥ 4294967296) || decide (IntKind.u64.wrap (q * w) > IntKind.u64.wrap r)) = true) : (0 ≤ IntKind.u64.wrap (q - 1) ∧ IntKind.u64.wrap (q - 1) < 18446744073709551616) ∧ (IntKind.u64.wrap (q - 1)).toNat < q.toNat := by
  have h1 : 1 ≤ q := by
    rcases Int.lt_or_le q 1 with c | c
    · obtain rfl : q = 0 := by omega
      simp only [Bool.or_eq_true, decide_eq_true_eq] at h
      rw [Int.zero_mul] at h
      have e : IntKind.u64.wrap 0 = 0 := rfl
      have := (u64_rng r).1
      omega
    · exact c
  rw [u64_id (by omega) (by omega)]
  omega
theorem yn1_ne {y x : Int} (h : 0 ≤ x ∧ x ≤ 63 ∧ 9223372036854775808 ≤ y * 2 ^ x.toNat ∧ y * 2 ^ x.toNat < 18446744073709551616) : shrK .u64 (shlK .u64 y (IntKind.u64.wrap x)) 32 ≠ 0 := by
  rw [u64_id h.1 (by omega), shl_eq (by omega), Int.emod_eq_of_lt (by omega) h.2.2.2, shr32]
  omega
noncomputable def bits_Div64_sk (hi : Int) (lo : Int) (y : Int) : Sk (Int × Int) :=
 .bind false (fun _ => True)
 (.br (y == 0)
 (.dead default)
 (.fin (.inr ())))
 (fun (_ : Unit) => ⟨[], []⟩) fun _ =>
 .bind false (fun _ => True)
 (.br (decide (y ≤ hi))
 (.dead default)
 (.fin (.inr ())))
 (fun (_ : Unit) => ⟨[], []⟩) fun _ =>
 .br (hi == 0)
 (.r 6 (.andl (.p (y ≠ 0)) (.p (y ≠ 0))) fun _ =>
 .fin (IntKind.u64.wrap (lo.tdiv y), lo.tmod y))
 (.r 7 ((bits_LeadingZeros64_k y).c) fun x3 =>
 .r 8 (.p (0 ≤ (IntKind.u64.wrap (x3)))) fun _ =>
 .r 9 (.p (0 ≤ (32 : Int))) fun _ =>
 .r 11 (.andl (.p (0 ≤ (IntKind.u64.wrap (x3)))) (.p (0 ≤ (IntKind.u64.wrap ((64 : Int) - (IntKind.u64.wrap (x3))))))) fun _ =>
 .r 12 (.p (0 ≤ (IntKind.u64.wrap (x3)))) fun _ =>
 .r 13 (.p (0 ≤ (32 : Int))) fun _ =>
 .r 15 (.p ((shrK .u64 (shlK .u64 y (IntKind.u64.wrap (x3))) 32) ≠ 0)) fun _ =>
 .bind true (fun _ => True)
 (.loop (default : Sum (Int × Int) (Int × Int)) (fun i5 => 0 ≤ i5.1 ∧ i5.1 < 18446744073709551616) (fun i5 => i5.1.toNat) ((IntKind.u64.wrap ((orK .u64 (shlK .u64 hi (IntKind.u64.wrap (x3))) (shrK .u64 lo (IntKind.u64.wrap ((64 : Int) - (IntKind.u64.wrap (x3)))))).tdiv (shrK .u64 (shlK .u64 y (IntKind.u64.wrap (x3))) 32)), IntKind.u64.wrap ((orK .u64 (shlK .u64 hi (IntKind.u64.wrap (x3))) (shrK .u64 lo (IntKind.u64.wrap ((64 : Int) - (IntKind.u64.wrap (x3)))))) - (IntKind.u64.wrap ((IntKind.u64.wrap ((orK .u64 (shlK .u64 hi (IntKind.u64.wrap (x3))) (shrK .u64 lo (IntKind.u64.wrap ((64 : Int) - (IntKind.u64.wrap (x3)))))).tdiv (shrK .u64 (shlK .u64 y (IntKind.u64.wrap (x3))) 32))) * (shrK .u64 (shlK .u64 y (IntKind.u64.wrap (x3))) 32))))) : Int × Int)
 (fun (i5 : Int × Int) => ⟨[(15, .d (.v (.int .u64 i5.1))), (16, .d (.v (.int .u64 i5.2)))], []⟩) fun i5 =>
 .br ((decide (i5.1 ≥ 4294967296)) || (decide ((IntKind.u64.wrap (i5.1 * (andK .u64 (shlK .u64 y (IntKind.u64.wrap (x3))) 4294967295))) > (IntKind.u64.wrap ((IntKind.u64.wrap ((4294967296 : Int) * i5.2)) + (shrK .u64 (shlK .u64 lo (IntKind.u64.wrap (x3))) 32))))))
 (.br (decide ((IntKind.u64.wrap (i5.2 + (shrK .u64 (shlK .u64 y (IntKind.u64.wrap (x3))) 32))) ≥ 4294967296))
 (.fin (.inl (.inr (IntKind.u64.wrap (i5.1 - 1), IntKind.u64.wrap (i5.2 + (shrK .u64 (shlK .u64 y (IntKind.u64.wrap (x3))) 32))))))
 (.fin (.inr (IntKind.u64.wrap (i5.1 - 1), IntKind.u64.wrap (i5.2 + (shrK .u64 (shlK .u64 y (IntKind.u64.wrap (x3))) 32))))))
 (.fin (.inl (.inr (i5.1, i5.2)))))
 (fun (b4 : Int × Int) => ⟨[(15, .d (.v (.int .u64 b4.1))), (16, .d (.v (.int .u64 b4.2)))], []⟩) fun b4 =>
 .r 22 (.p ((shrK .u64 (shlK .u64 y (IntKind.u64.wrap (x3))) 32) ≠ 0)) fun _ =>
 .bind true (fun _ => True)
 (.loop (default : Sum (Int × Int) (Int)) (fun i7 => 0 ≤ i7.2 ∧ i7.2 < 18446744073709551616) (fun i7 => i7.2.toNat) ((IntKind.u64.wrap ((IntKind.u64.wrap ((IntKind.u64.wrap ((IntKind.u64.wrap ((orK .u64 (shlK .u64 hi (IntKind.u64.wrap (x3))) (shrK .u64 lo (IntKind.u64.wrap ((64 : Int) - (IntKind.u64.wrap (x3)))))) * 4294967296)) + (shrK .u64 (shlK .u64 lo (IntKind.u64.wrap (x3))) 32))) - (IntKind.u64.wrap (b4.1 * (shlK .u64 y (IntKind.u64.wrap (x3))))))) - (IntKind.u64.wrap ((IntKind.u64.wrap ((IntKind.u64.wrap ((IntKind.u64.wrap ((IntKind.u64.wrap ((orK .u64 (shlK .u64 hi (IntKind.u64.wrap (x3))) (shrK .u64 lo (IntKind.u64.wrap ((64 : Int) - (IntKind.u64.wrap (x3)))))) * 4294967296)) + (shrK .u64 (shlK .u64 lo (IntKind.u64.wrap (x3))) 32))) - (IntKind.u64.wrap (b4.1 * (shlK .u64 y (IntKind.u64.wrap (x3))))))).tdiv (shrK .u64 (shlK .u64 y (IntKind.u64.wrap (x3))) 32))) * (shrK .u64 (shlK .u64 y (IntKind.u64.wrap (x3))) 32)))), IntKind.u64.wrap ((IntKind.u64.wrap ((IntKind.u64.wrap ((IntKind.u64.wrap ((orK .u64 (shlK .u64 hi (IntKind.u64.wrap (x3))) (shrK .u64 lo (IntKind.u64.wrap ((64 : Int) - (IntKind.u64.wrap (x3)))))) * 4294967296)) + (shrK .u64 (shlK .u64 lo (IntKind.u64.wrap (x3))) 32))) - (IntKind.u64.wrap (b4.1 * (shlK .u64 y (IntKind.u64.wrap (x3))))))).tdiv (shrK .u64 (shlK .u64 y (IntKind.u64.wrap (x3))) 32))) : Int × Int)
 (fun (i7 : Int × Int) => ⟨[(16, .d (.v (.int .u64 i7.1))), (18, .d (.v (.int .u64 i7.2)))], []⟩) fun i7 =>
 .br ((decide (i7.2 ≥ 4294967296)) || (decide ((IntKind.u64.wrap (i7.2 * (andK .u64 (shlK .u64 y (IntKind.u64.wrap (x3))) 4294967295))) > (IntKind.u64.wrap ((IntKind.u64.wrap ((4294967296 : Int) * i7.1)) + (andK .u64 (shlK .u64 lo (IntKind.u64.wrap (x3))) 4294967295))))))
 (.br (decide ((IntKind.u64.wrap (i7.1 + (shrK .u64 (shlK .u64 y (IntKind.u64.wrap (x3))) 32))) ≥ 4294967296))
 (.fin (.inl (.inr (IntKind.u64.wrap (i7.2 - 1)))))
 (.fin (.inr (IntKind.u64.wrap (i7.1 + (shrK .u64 (shlK .u64 y (IntKind.u64.wrap (x3))) 32)), IntKind.u64.wrap (i7.2 - 1)))))
 (.fin (.inl (.inr i7.2))))
 (fun (b6 : Int) => ⟨[(18, .d (.v (.int .u64 b6)))], []⟩) fun b6 =>
 .r 28 (.p (0 ≤ (IntKind.u64.wrap (x3)))) fun _ =>
 .fin (IntKind.u64.wrap ((IntKind.u64.wrap (b4.1 * 4294967296)) + b6), shrK .u64 (IntKind.u64.wrap ((IntKind.u64.wrap ((IntKind.u64.wrap ((IntKind.u64.wrap ((IntKind.u64.wrap ((IntKind.u64.wrap ((orK .u64 (shlK .u64 hi (IntKind.u64.wrap (x3))) (shrK .u64 lo (IntKind.u64.wrap ((64 : Int) - (IntKind.u64.wrap (x3)))))) * 4294967296)) + (shrK .u64 (shlK .u64 lo (IntKind.u64.wrap (x3))) 32))) - (IntKind.u64.wrap (b4.1 * (shlK .u64 y (IntKind.u64.wrap (x3))))))) * 4294967296)) + (andK .u64 (shlK .u64 lo (IntKind.u64.wrap (x3))) 4294967295))) - (IntKind.u64.wrap (b6 * (shlK .u64 y (IntKind.u64.wrap (x3))))))) (IntKind.u64.wrap (x3))))
noncomputable def bits_Div64 (hi : Int) (lo : Int) (y : Int) : Int × Int := (bits_Div64_sk hi lo y).val
theorem bits_Div64_pst (hi : Int) (lo : Int) (y : Int) (hP : 0 ≤ hi ∧ hi < y ∧ y < 18446744073709551616 ∧ 0 ≤ lo ∧ lo < 18446744073709551616) : (bits_Div64_sk hi lo y).pst (fun (x : Int × Int) => 0 ≤ x.1 ∧ x.1 < 18446744073709551616) := by
  refine Sk.pst_of _ ?_
  unfold bits_Div64_sk
  simp only [Sk.pstq, Sk.isLoop, reduceCtorEq, leafB, leafJ, Cal.z, Cal.p, Cal.t, Cal.pt, Cal.o, Cal.and, Cal.andl, Cal.andr, Cal.wh, Cal.dep, Cal.depr, Ctr.c, Ctr.nil, Ctr.nilc, CtrO.c, CtrO.nil, bits_LeadingZeros64_k, maxLen, implies_true, true_and, and_true, and_self, true_implies, false_implies, ixP, szP, mkP]
  refine ⟨fun h => ⟨by decide, by decide⟩, fun _ _ => ⟨fun h => ⟨by decide, by decide⟩, fun _ _ => ⟨fun _ _ => u64_rng _, fun _ x _ hx => ?_⟩⟩⟩
  intro _ _ _ _ _ _
  refine ⟨⟨u64_rng _, fun i hi hc _ => div_step hi hc⟩, fun b _ => ⟨⟨u64_rng _, fun i hi hc _ => div_step hi hc⟩, fun b _ => u64_rng _⟩⟩

theorem bits_Div64_post (hi : Int) (lo : Int) (y : Int) : (fun (x : Int × Int) => (0 ≤ hi ∧ hi < y ∧ y < 18446744073709551616 ∧ 0 ≤ lo ∧ lo < 18446744073709551616) → (0 ≤ x.1 ∧ x.1 < 18446744073709551616)) (bits_Div64 hi lo y) := fun hP => Sk.pval _ (bits_Div64_pst hi lo y hP)
theorem bits_Div64_ok (hi : Int) (lo : Int) (y : Int) (hy : 0 ≤ hi ∧ hi < y ∧ y < 18446744073709551616 ∧ 0 ≤ lo ∧ lo < 18446744073709551616) : (bits_Div64_sk hi lo y).obs (fun _ => True) := by
  refine Sk.obs_of _ ?_
  unfold bits_Div64_sk
  simp only [Sk.obq, Sk.isLoop, reduceCtorEq, leafB, leafJ, Cal.z, Cal.p, Cal.t, Cal.pt, Cal.o, Cal.and, Cal.andl, Cal.andr, Cal.wh, Cal.dep, Cal.depr, Ctr.c, Ctr.nil, Ctr.nilc, CtrO.c, CtrO.nil, bits_LeadingZeros64_k, maxLen, implies_true, true_and, and_true, and_self, true_implies, false_implies, ixP, szP, mkP]
  refine ⟨fun h => by simp only [decide_eq_true_eq, decide_eq_false_iff_not, List.length_append, List.length_cons, List.length_nil, List.length_set, List.length_replicate, Bool.not_eq_true, Bool.not_eq_false, Int.not_lt, Int.not_le, Bool.and_eq_true, Bool.or_eq_true, Bool.and_eq_false_iff, Bool.or_eq_false_iff, Bool.not_eq_eq_eq_not, Bool.not_true, Bool.not_false, beq_iff_eq, bne_iff_ne, beq_eq_false_iff_ne, bne_eq_false_iff_eq, ne_eq, subL_length] at h; omega, fun _ _ => ⟨fun h => by simp only [decide_eq_true_eq, decide_eq_false_iff_not, List.length_append, List.length_cons, List.length_nil, List.length_set, List.length_replicate, Bool.not_eq_true, Bool.not_eq_false, Int.not_lt, Int.not_le, Bool.and_eq_true, Bool.or_eq_true, Bool.and_eq_false_iff, Bool.or_eq_false_iff, Bool.not_eq_eq_eq_not, Bool.not_true, Bool.not_false, beq_iff_eq, bne_iff_ne, beq_eq_false_iff_ne, bne_eq_false_iff_eq, ne_eq, subL_length] at h; omega, fun _ _ => ⟨fun _ => by omega, fun _ => ⟨by omega, fun x _ hx => ?_⟩⟩⟩⟩
  have hx := hx ⟨by omega, by omega⟩
  have hy1 := yn1_ne hx
  refine ⟨(u64_rng _).1, fun _ => ⟨by decide, fun _ => ⟨⟨(u64_rng _).1, (u64_rng _).1⟩, fun _ => ⟨(u64_rng _).1, fun _ => ⟨by decide, fun _ => ⟨hy1, fun _ => ⟨⟨u64_rng _, fun i hi hc _ => div_step hi hc⟩, fun b => ⟨hy1, fun _ => ⟨⟨u64_rng _, fun i hi hc _ => div_step hi hc⟩, fun b => (u64_rng _).1⟩⟩⟩⟩⟩⟩⟩⟩⟩

theorem bits_Div64_fn (hi : Int) (lo : Int) (y : Int) (hy : 0 ≤ hi ∧ hi < y ∧ y < 18446744073709551616 ∧ 0 ≤ lo ∧ lo < 18446744073709551616) : FnA Tryz.prog 103 [.d (.v (.int .u64 hi)), .d (.v (.int .u64 lo)), .d (.v (.int .u64 y))] [] (.tup [.d (.v (.int .u64 ((bits_Div64 hi lo y).1))), .d (.v (.int .u64 ((bits_Div64 hi lo y).2)))]) [] :=
  FnA.sk tok mixed (fun x => .tup [.d (.v (.int .u64 x.1)), .d (.v (.int .u64 x.2))]) (fun _ => []) Tryz.func103 rfl (by kernel_rfl) 3000 (bits_Div64_sk hi lo y) (by kernel_rfl) (bits_Div64_ok hi lo y hy)
noncomputable def bits_Div64_k (hi : Int) (lo : Int) (y : Int) : Ctr (Int × Int) := ⟨Tryz.prog, 103, [.d (.v (.int .u64 hi)), .d (.v (.int .u64 lo)), .d (.v (.int .u64 y))], fun x => .tup [.d (.v (.int .u64 x.1)), .d (.v (.int .u64 x.2))], true, bits_Div64 hi lo y, (0 ≤ hi ∧ hi < y ∧ y < 18446744073709551616 ∧ 0 ≤ lo ∧ lo < 18446744073709551616), fun h => bits_Div64_fn hi lo y h, fun (x : Int × Int) => (0 ≤ hi ∧ hi < y ∧ y < 18446744073709551616 ∧ 0 ≤ lo ∧ lo < 18446744073709551616) → (0 ≤ x.1 ∧ x.1 < 18446744073709551616), bits_Div64_post hi lo y⟩
noncomputable def money_part_sk (a : Int) (b : Int) (c_ : Int) : Sk (Int × Int × Bool) :=
 .r 1 ((bits_Mul64_k (IntKind.u64.wrap (a)) (IntKind.u64.wrap (b))).c) fun x1 =>
 .br (decide (x1.1 ≥ (IntKind.u64.wrap (c_))))
 (.fin (0, 0, false))
 (.r 4 ((bits_Div64_k x1.1 x1.2 (IntKind.u64.wrap (c_))).c) fun x2 =>
 .br (decide (x2.1 > 1099511627776))
 (.fin (0, 0, false))
 (.fin (w64 (x2.1), w64 (x2.2), true)))
noncomputable def money_part (a : Int) (b : Int) (c_ : Int) : Int × Int × Bool := (money_part_sk a b c_).val
theorem money_part_pst (a : Int) (b : Int) (c_ : Int) : (money_part_sk a b c_).pst (fun (x : Int × Int × Bool) => x.2.2 = true → 0 ≤ x.1 ∧ x.1 ≤ 1099511627776) := by
  refine Sk.pst_of _ ?_
  unfold money_part_sk
  simp only [Sk.pstq, Sk.isLoop, reduceCtorEq, leafB, leafJ, Cal.z, Cal.p, Cal.t, Cal.pt, Cal.o, Cal.and, Cal.andl, Cal.andr, Cal.wh, Cal.dep, Cal.depr, Ctr.c, Ctr.nil, Ctr.nilc, CtrO.c, CtrO.nil, bits_Div64_k, bits_Mul64_k, maxLen, implies_true, true_and, and_true, and_self, true_implies, false_implies, ixP, szP, mkP]
  intro x _ hx hc y _ hy hc2
  simp only [decide_eq_true_eq, decide_eq_false_iff_not, List.length_append, List.length_cons, List.length_nil, List.length_set, List.length_replicate, Bool.not_eq_true, Bool.not_eq_false, Int.not_lt, Int.not_le, Bool.and_eq_true, Bool.or_eq_true, Bool.and_eq_false_iff, Bool.or_eq_false_iff, Bool.not_eq_eq_eq_not, Bool.not_true, Bool.not_false, beq_iff_eq, bne_iff_ne, beq_eq_false_iff_ne, bne_eq_false_iff_eq, ne_eq, subL_length] at hc hc2
  have := hy ⟨hx.1, by omega, (u64_rng _).2, hx.2.2.1, hx.2.2.2⟩
  rw [w64_id (by omega) (by omega)]
  omega

theorem money_part_post (a : Int) (b : Int) (c_ : Int) : (fun (x : Int × Int × Bool) => x.2.2 = true → 0 ≤ x.1 ∧ x.1 ≤ 1099511627776) (money_part a b c_) := Sk.pval _ (money_part_pst a b c_)
theorem money_part_ok (a : Int) (b : Int) (c_ : Int) : (money_part_sk a b c_).obs (fun _ => True) := by
  refine Sk.obs_of _ ?_
  unfold money_part_sk
  simp only [Sk.obq, Sk.isLoop, reduceCtorEq, leafB, leafJ, Cal.z, Cal.p, Cal.t, Cal.pt, Cal.o, Cal.and, Cal.andl, Cal.andr, Cal.wh, Cal.dep, Cal.depr, Ctr.c, Ctr.nil, Ctr.nilc, CtrO.c, CtrO.nil, bits_Div64_k, bits_Mul64_k, maxLen, implies_true, true_and, and_true, and_self, true_implies, false_implies, ixP, szP, mkP]
  intro x _ h hc
  simp only [decide_eq_true_eq, decide_eq_false_iff_not, List.length_append, List.length_cons, List.length_nil, List.length_set, List.length_replicate, Bool.not_eq_true, Bool.not_eq_false, Int.not_lt, Int.not_le, Bool.and_eq_true, Bool.or_eq_true, Bool.and_eq_false_iff, Bool.or_eq_false_iff, Bool.not_eq_eq_eq_not, Bool.not_true, Bool.not_false, beq_iff_eq, bne_iff_ne, beq_eq_false_iff_ne, bne_eq_false_iff_eq, ne_eq, subL_length] at hc
  exact ⟨h.1, by omega, (u64_rng _).2, h.2.2.1, h.2.2.2⟩

theorem money_part_fn (a : Int) (b : Int) (c_ : Int) : FnA Tryz.prog 68 [iv a, iv b, iv c_] [] (.tup [iv ((money_part a b c_).1), iv ((money_part a b c_).2.1), bv ((money_part a b c_).2.2)]) [] :=
  FnA.sk tok mixed (fun x => .tup [iv x.1, iv x.2.1, bv x.2.2]) (fun _ => []) Tryz.func68 rfl (by kernel_rfl) 3000 (money_part_sk a b c_) (by kernel_rfl) (money_part_ok a b c_)
noncomputable def money_part_k (a : Int) (b : Int) (c_ : Int) : Ctr (Int × Int × Bool) := ⟨Tryz.prog, 68, [iv a, iv b, iv c_], fun x => .tup [iv x.1, iv x.2.1, bv x.2.2], true, money_part a b c_, True, fun _ => money_part_fn a b c_, fun (x : Int × Int × Bool) => x.2.2 = true → 0 ≤ x.1 ∧ x.1 ≤ 1099511627776, money_part_post a b c_⟩
noncomputable def money_Convert_sk (rates : List RateX) (sum : Int) (from_ : Int) (to_ : Int) (day : Int) : Sk (Int × Int) :=
 .r 1 (.dep (.wh (decide (((rates.length : Nat) : Int) > 100)) false ((money_within_k sum 1099511627776).c)) fun x1 => .wh ((decide (((rates.length : Nat) : Int) > 100)) || (!x1)) false ((money_within_k day 100000).c)) fun p12 =>
 .bind true (fun b3 => b3 = false → 0 ≤ sum ∧ sum ≤ 1099511627776)
 (.loop (default : Sum (Int × Int) (Bool)) (fun i4 => (i4.1 = false → 0 ≤ sum ∧ sum ≤ 1099511627776) ∧ i4.2 ≤ rates.length) (fun i4 => rates.length - i4.2) ((((decide (((rates.length : Nat) : Int) > 100)) || (!p12.1)) || (!p12.2), 0) : Bool × Nat)
 (fun (i4 : Bool × Nat) => ⟨[(12, bv i4.1), (34, iv ((i4.2 : Nat) : Int))], []⟩) fun i4 =>
 .bnd 0 0 rates.length <|
 .br (decide (((i4.2 : Nat) : Int) < ((rates.length : Nat) : Int)))
 (.r 4 (.p (ixP ((i4.2 : Nat) : Int) rates.length)) fun _ =>
 .r 5 (.dep (.wh i4.1 false ((money_within_k (w64 (((rates.getD i4.2 default).num) - 1)) 1073741823).c)) fun x5 => .wh (i4.1 || (!x5)) false ((money_within_k (w64 (((rates.getD i4.2 default).den) - 1)) 1073741823).c)) fun p7 =>
 .r 6 .z fun _ =>
 .wi 34 (w64 (((i4.2 : Nat) : Int) + 1)) ((i4.2 + 1 : Nat) : Int) <|
 .fin (.inr ((i4.1 || (!p7.1)) || (!p7.2), i4.2 + 1)))
 (.fin (.inl (.inr i4.1))))
 (fun (b3 : Bool) => ⟨[(12, bv b3)], []⟩) fun b3 =>
 .br b3
 (.fin (0, 1))
 (.br (from_ == to_)
 (.fin (sum, 0))
 (.r 11 ((money_latest_k rates from_ to_ day).c) fun x8 =>
 .bind false (fun _ => True)
 (.br (!x8.2)
 (.r 13 ((money_latest_k rates to_ from_ day).c) fun x10 =>
 .fin (.inr (x10.2, { x10.1 with num := x10.1.den, den := x10.1.num })))
 (.fin (.inr (x8.2, x8.1))))
 (fun (b9 : Bool × RateX) => ⟨[(16, bv b9.1)], [(15, .box (b9.2.cells.map .d))]⟩) fun b9 =>
 .br (!b9.1)
 (.fin (0, 4))
 (.r 17 ((money_part_k sum b9.2.num b9.2.den).c) fun x11 =>
 .br (!x11.2.2)
 (.fin (0, 3))
 (.fin (x11.1, 0)))))
noncomputable def money_Convert (rates : List RateX) (sum : Int) (from_ : Int) (to_ : Int) (day : Int) : Int × Int := (money_Convert_sk rates sum from_ to_ day).val
theorem money_Convert_pst (rates : List RateX) (sum : Int) (from_ : Int) (to_ : Int) (day : Int) : (money_Convert_sk rates sum from_ to_ day).pst (fun (x : Int × Int) => x.2 = 0 → 0 ≤ x.1 ∧ x.1 ≤ 1099511627776) := by
  refine Sk.pst_of _ ?_
  unfold money_Convert_sk
  simp only [Sk.pstq, Sk.isLoop, reduceCtorEq, leafB, leafJ, Cal.z, Cal.p, Cal.t, Cal.pt, Cal.o, Cal.and, Cal.andl, Cal.andr, Cal.wh, Cal.dep, Cal.depr, Ctr.c, Ctr.nil, Ctr.nilc, CtrO.c, CtrO.nil, money_latest_k, money_part_k, money_within_k, money_within_eq, forall_eq, maxLen, implies_true, true_and, and_true, and_self, true_implies, false_implies, ixP, szP, mkP]
  all_goals (repeat' first | assumption | (apply And.intro) | (intro h))
  all_goals first | trivial | assumption | omega | ((try simp only [decide_eq_true_eq, decide_eq_false_iff_not, List.length_append, List.length_cons, List.length_nil, List.length_set, List.length_replicate, Bool.not_eq_true, Bool.not_eq_false, Int.not_lt, Int.not_le, Bool.and_eq_true, Bool.or_eq_true, Bool.and_eq_false_iff, Bool.or_eq_false_iff, Bool.not_eq_eq_eq_not, Bool.not_true, Bool.not_false, beq_iff_eq, bne_iff_ne, beq_eq_false_iff_ne, bne_eq_false_iff_eq, ne_eq, subL_length] at *) <;> first | omega | (refine (w64_id ?_ ?_).trans ?_ <;> omega) | (simp (disch := omega) only [w64_id] at *; omega) | (grind) | (simp_all; done) | (simp_all; omega))

theorem money_Convert_post (rates : List RateX) (sum : Int) (from_ : Int) (to_ : Int) (day : Int) : (fun (x : Int × Int) => x.2 = 0 → 0 ≤ x.1 ∧ x.1 ≤ 1099511627776) (money_Convert rates sum from_ to_ day) := Sk.pval _ (money_Convert_pst rates sum from_ to_ day)
theorem money_Convert_ok (rates : List RateX) (sum : Int) (from_ : Int) (to_ : Int) (day : Int) : (money_Convert_sk rates sum from_ to_ day).obs (fun _ => True) := by
  refine Sk.obs_of _ ?_
  unfold money_Convert_sk
  simp only [Sk.obq, Sk.isLoop, reduceCtorEq, leafB, leafJ, Cal.z, Cal.p, Cal.t, Cal.pt, Cal.o, Cal.and, Cal.andl, Cal.andr, Cal.wh, Cal.dep, Cal.depr, Ctr.c, Ctr.nil, Ctr.nilc, CtrO.c, CtrO.nil, money_latest_k, money_part_k, money_within_k, money_within_eq, forall_eq, maxLen, implies_true, true_and, and_true, and_self, true_implies, false_implies, ixP, szP, mkP]
  all_goals (repeat' first | assumption | (apply And.intro) | (intro h))
  all_goals first | trivial | assumption | omega | ((try simp only [decide_eq_true_eq, decide_eq_false_iff_not, List.length_append, List.length_cons, List.length_nil, List.length_set, List.length_replicate, Bool.not_eq_true, Bool.not_eq_false, Int.not_lt, Int.not_le, Bool.and_eq_true, Bool.or_eq_true, Bool.and_eq_false_iff, Bool.or_eq_false_iff, Bool.not_eq_eq_eq_not, Bool.not_true, Bool.not_false, beq_iff_eq, bne_iff_ne, beq_eq_false_iff_ne, bne_eq_false_iff_eq, ne_eq, subL_length] at *) <;> first | omega | (refine (w64_id ?_ ?_).trans ?_ <;> omega) | (simp (disch := omega) only [w64_id] at *; omega) | (grind) | (simp_all; done) | (simp_all; omega))

theorem money_Convert_fn (rates : List RateX) (sum : Int) (from_ : Int) (to_ : Int) (day : Int) : FnA Tryz.prog 31 [lv RateX.cells rates, iv sum, iv from_, iv to_, iv day] [] (.tup [iv ((money_Convert rates sum from_ to_ day).1), iv ((money_Convert rates sum from_ to_ day).2)]) [] :=
  FnA.sk tok mixed (fun x => .tup [iv x.1, iv x.2]) (fun _ => []) Tryz.func31 rfl (by kernel_rfl) 3000 (money_Convert_sk rates sum from_ to_ day) (by kernel_rfl) (money_Convert_ok rates sum from_ to_ day)
noncomputable def money_Convert_k (rates : List RateX) (sum : Int) (from_ : Int) (to_ : Int) (day : Int) : Ctr (Int × Int) := ⟨Tryz.prog, 31, [lv RateX.cells rates, iv sum, iv from_, iv to_, iv day], fun x => .tup [iv x.1, iv x.2], true, money_Convert rates sum from_ to_ day, True, fun _ => money_Convert_fn rates sum from_ to_ day, fun (x : Int × Int) => x.2 = 0 → 0 ≤ x.1 ∧ x.1 ≤ 1099511627776, money_Convert_post rates sum from_ to_ day⟩
noncomputable def recognize_Received_sk (r : Realm) (f : File) (j : Judgment) (l : List Receipt) (day : Int) : Sk (Int × Int) :=
 .r 1 (.dep ((recognize_Check_k r f j).c) fun x1 => .wh (x1 != 0) false ((recognize_within_k day 100001).c)) fun p7 =>
 .br ((p7.1 != 0) || (!p7.2))
 (.fin (0, 1))
 (.br (decide (((l.length : Nat) : Int) > 200))
 (.fin (0, 6))
 (.r 5 ((slices_ContainsFunc_57_k l r).c) fun x3 =>
 .br x3
 (.fin (0, 1))
 (.bind true (fun _ => True)
 (.loop (default : Sum (Int × Int) (Int)) (fun i5 => i5.2 ≤ l.length) (fun i5 => l.length - i5.2) ((0, 0) : Int × Nat)
 (fun (i5 : Int × Nat) => ⟨[(12, iv i5.1), (38, iv ((i5.2 : Nat) : Int))], []⟩) fun i5 =>
 .bnd 36 0 l.length <|
 .br (decide (((i5.2 : Nat) : Int) < ((l.length : Nat) : Int)))
 (.r 10 (.p (ixP ((i5.2 : Nat) : Int) l.length)) fun _ =>
 .br (((((l.getD i5.2 default).bill) != j.bill) || (((l.getD i5.2 default).to_) != j.creditor)) || (decide (((l.getD i5.2 default).day) > day)))
 (.r 16 .z fun _ =>
 .wi 38 (w64 (((i5.2 : Nat) : Int) + 1)) ((i5.2 + 1 : Nat) : Int) <|
 .fin (.inr (i5.1, i5.2 + 1)))
 (.r 12 ((money_Convert_k r.rates ((l.getD i5.2 default).sum) ((l.getD i5.2 default).currency) f.bill.currency ((l.getD i5.2 default).day)).c) fun x6 =>
 .br (x6.2 != 0)
 (.fin (.inl (.inl (0, x6.2))))
 (.r 16 .z fun _ =>
 .wi 38 (w64 (((i5.2 : Nat) : Int) + 1)) ((i5.2 + 1 : Nat) : Int) <|
 .fin (.inr (w64 (i5.1 + x6.1), i5.2 + 1)))))
 (.fin (.inl (.inr i5.1))))
 (fun (b4 : Int) => ⟨[(12, iv b4)], []⟩) fun b4 =>
 .fin (b4, 0))))
noncomputable def recognize_Received (r : Realm) (f : File) (j : Judgment) (l : List Receipt) (day : Int) : Int × Int := (recognize_Received_sk r f j l day).val
theorem recognize_Received_ok (r : Realm) (f : File) (j : Judgment) (l : List Receipt) (day : Int) (h_f_Small : f.Small) : (recognize_Received_sk r f j l day).obs (fun _ => True) := by
  simp only [File.Small, Realm.Small] at h_f_Small
  refine Sk.obs_of _ ?_
  unfold recognize_Received_sk
  simp only [Sk.obq, Sk.isLoop, reduceCtorEq, leafB, leafJ, Cal.z, Cal.p, Cal.t, Cal.pt, Cal.o, Cal.and, Cal.andl, Cal.andr, Cal.wh, Cal.dep, Cal.depr, Ctr.c, Ctr.nil, Ctr.nilc, CtrO.c, CtrO.nil, money_Convert_k, recognize_Check_k, recognize_within_k, slices_ContainsFunc_57_k, recognize_within_eq, forall_eq, File.Small, Realm.Small, maxLen, implies_true, true_and, and_true, and_self, true_implies, false_implies, ixP, szP, mkP]
  all_goals (repeat' first | assumption | (apply And.intro) | (intro h))
  all_goals first | trivial | assumption | omega | ((try simp only [decide_eq_true_eq, decide_eq_false_iff_not, List.length_append, List.length_cons, List.length_nil, List.length_set, List.length_replicate, Bool.not_eq_true, Bool.not_eq_false, Int.not_lt, Int.not_le, Bool.and_eq_true, Bool.or_eq_true, Bool.and_eq_false_iff, Bool.or_eq_false_iff, Bool.not_eq_eq_eq_not, Bool.not_true, Bool.not_false, beq_iff_eq, bne_iff_ne, beq_eq_false_iff_ne, bne_eq_false_iff_eq, ne_eq, subL_length] at *) <;> first | omega | (refine (w64_id ?_ ?_).trans ?_ <;> omega) | (simp (disch := omega) only [w64_id] at *; omega) | (grind) | (simp_all; done) | (simp_all; omega))

theorem recognize_Received_fn (r : Realm) (f : File) (j : Judgment) (l : List Receipt) (day : Int) (h_f_Small : f.Small) : FnA Tryz.prog 20 [av r.cells, av f.cells, av j.cells, lv Receipt.cells l, iv day] [] (.tup [iv ((recognize_Received r f j l day).1), iv ((recognize_Received r f j l day).2)]) [] :=
  FnA.sk tok mixed (fun x => .tup [iv x.1, iv x.2]) (fun _ => []) Tryz.func20 rfl (by kernel_rfl) 3000 (recognize_Received_sk r f j l day) (by kernel_rfl) (recognize_Received_ok r f j l day h_f_Small)
noncomputable def recognize_Received_k (r : Realm) (f : File) (j : Judgment) (l : List Receipt) (day : Int) : Ctr (Int × Int) := ⟨Tryz.prog, 20, [av r.cells, av f.cells, av j.cells, lv Receipt.cells l, iv day], fun x => .tup [iv x.1, iv x.2], true, recognize_Received r f j l day, (f.Small), fun h => recognize_Received_fn r f j l day h, fun _ => True, trivial⟩
structure CellX where
  known : Bool
  n : Int
  deriving Inhabited
def CellX.cells (c : CellX) : List D := [dB c.known, dI c.n]
def CellX.E : Enc CellX := ⟨CellX.cells, 2, fun _ => rfl, fun _ => rfl⟩
structure Said where
  cell : CellX
  order : Int
  path : List Int
  err : Int
  deriving Inhabited
def Said.cells (c : Said) : List D := c.cell.cells ++ [dI c.order, slD intC c.path, dI c.err]
def Said.E : Enc Said := ⟨Said.cells, 5, fun _ => rfl, fun _ => rfl⟩
structure CaseX where
  file : File
  sign : Int
  holder : Int
  defence : Int
  due : Int
  day : Int
  deriving Inhabited
def CaseX.cells (c : CaseX) : List D := c.file.cells ++ [dI c.sign, dI c.holder, dI c.defence, dI c.due, dI c.day]
def CaseX.E : Enc CaseX := ⟨CaseX.cells, 24, fun _ => rfl, fun _ => rfl⟩
noncomputable def record_Vars_c1_sk (a : Alter) (v : CaseX) : Sk (Bool) :=
 .fin (decide (a.at_ ≤ v.sign))
noncomputable def record_Vars_c1 (a : Alter) (v : CaseX) : Bool := (record_Vars_c1_sk a v).val
theorem record_Vars_c1_eq (a : Alter) (v : CaseX) : record_Vars_c1 a v = (decide (a.at_ ≤ v.sign)) := rfl
theorem record_Vars_c1_ok (a : Alter) (v : CaseX) : (record_Vars_c1_sk a v).obs (fun _ => True) := by
  refine Sk.obs_of _ ?_
  unfold record_Vars_c1_sk
  simp only [Sk.obq, Sk.isLoop, reduceCtorEq, leafB, leafJ, Cal.z, Cal.p, Cal.t, Cal.pt, Cal.o, Cal.and, Cal.andl, Cal.andr, Cal.wh, Cal.dep, Cal.depr, Ctr.c, Ctr.nil, Ctr.nilc, CtrO.c, CtrO.nil, maxLen, implies_true, true_and, and_true, and_self, true_implies, false_implies, ixP, szP, mkP]

theorem record_Vars_c1_fn (a : Alter) (v : CaseX) : FnA Tryz.prog 181 [av a.cells, .ref v.cells] [] (bv (record_Vars_c1 a v)) [] :=
  FnA.sk tok mixed (fun x => bv x) (fun _ => []) Tryz.func181 rfl (by kernel_rfl) 3000 (record_Vars_c1_sk a v) (by kernel_rfl) (record_Vars_c1_ok a v)
noncomputable def record_Vars_c1_k (a : Alter) (v : CaseX) : Ctr (Bool) := ⟨Tryz.prog, 181, [av a.cells, .ref v.cells], fun x => bv x, true, record_Vars_c1 a v, True, fun _ => record_Vars_c1_fn a v, fun _ => True, trivial⟩
end Go.Proofs.YtggilgghigileaaGreatDoor
