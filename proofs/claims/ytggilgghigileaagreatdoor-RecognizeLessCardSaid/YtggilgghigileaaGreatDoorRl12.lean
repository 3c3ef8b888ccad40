/- Functions, as sketches. -/
import Derived.Test.YtggilgghigileaaGreatDoorRl11
namespace Go.Proofs.YtggilgghigileaaGreatDoor
open Go Go.Av
set_option linter.unusedSimpArgs false
set_option linter.unusedVariables false
set_option maxHeartbeats 1000000
set_option maxRecDepth 100000
noncomputable def paper_sign_sk (r : Realm) (f : File) (i : Int) : Sk (Int) :=
 .r 1 (.p (ixP i f.signs.length)) fun _ =>
 .r 2 ((paper_in_k ((f.signs.getD i.toNat default).part) 0 (w64 (f.bill.parts - 1))).c) fun x1 =>
 .br (!x1)
 (.fin 15)
 (.r 4 (.dep ((paper_in_k ((f.signs.getD i.toNat default).who) 0 (w64 (((r.firms.length : Nat) : Int) - 1))).c) fun x2 => .wh (!x2) false ((paper_in_k ((f.signs.getD i.toNat default).city) 0 (w64 (((r.cities.length : Nat) : Int) - 1))).c)) fun p8 =>
 .br ((!p8.1) || (!p8.2))
 (.fin 1)
 (.r 7 (.andl (.o [.nrm (subC Sign.E f.signs 0 i.toNat)]) (.pt (0 ≤ i ∧ i ≤ ((f.signs.length : Nat) : Int)) (Sign.E.lens f.signs))) fun _ =>
 .bind true (fun _ => True)
 (.loop (default : Sum (Int) (Int × Bool)) (fun i5 => i5.2.2 ≤ (subL f.signs 0 i.toNat).length) (fun i5 => (subL f.signs 0 i.toNat).length - i5.2.2) ((f.bill.day, false, 0) : Int × Bool × Nat)
 (fun (i5 : Int × Bool × Nat) => ⟨[(8, iv i5.1), (9, bv i5.2.1), (51, iv ((i5.2.2 : Nat) : Int))], []⟩) fun i5 =>
 .bnd 49 0 ((subL f.signs 0 i.toNat).length) <|
 .br (decide (((i5.2.2 : Nat) : Int) < (((subL f.signs 0 i.toNat).length : Nat) : Int)))
 (.r 9 (.p (ixP ((i5.2.2 : Nat) : Int) ((subL f.signs 0 i.toNat).length))) fun _ =>
 .r 12 .z fun _ =>
 .wi 51 (w64 (((i5.2.2 : Nat) : Int) + 1)) ((i5.2.2 + 1 : Nat) : Int) <|
 .fin (.inr (((subL f.signs 0 i.toNat).getD i5.2.2 default).day, i5.2.1 || (((((f.signs.getD i.toNat default).kind) == 1) && ((((subL f.signs 0 i.toNat).getD i5.2.2 default).kind) == 1)) && ((((subL f.signs 0 i.toNat).getD i5.2.2 default).part) == ((f.signs.getD i.toNat default).part))), i5.2.2 + 1)))
 (.fin (.inl (.inr (i5.1, i5.2.1)))))
 (fun (b4 : Int × Bool) => ⟨[(8, iv b4.1), (9, bv b4.2)], []⟩) fun b4 =>
 .r 13 ((paper_in_k ((f.signs.getD i.toNat default).day) b4.1 100000).c) fun x6 =>
 .br ((!x6) || ((i == 0) && (((f.signs.getD i.toNat default).day) != b4.1)))
 (.fin 13)
 (.r 15 ((paper_fits_k r f i).c) fun x7 =>
 .br (!x7)
 (.fin 14)
 (.br b4.2
 (.fin 5)
 (.fin 0)))))
noncomputable def paper_sign (r : Realm) (f : File) (i : Int) : Int := (paper_sign_sk r f i).val
theorem paper_sign_ok (r : Realm) (f : File) (i : Int) (hi : 0 ≤ i ∧ i < (f.signs.length : Int)) (hf : f.signs.length ≤ 1000000) : (paper_sign_sk r f i).obs (fun _ => True) := by
  refine Sk.obs_of _ ?_
  unfold paper_sign_sk
  simp only [Sk.obq, Sk.isLoop, reduceCtorEq, leafB, leafJ, Cal.z, Cal.p, Cal.t, Cal.pt, Cal.o, Cal.and, Cal.andl, Cal.andr, Cal.wh, Cal.dep, Cal.depr, Ctr.c, Ctr.nil, Ctr.nilc, CtrO.c, CtrO.nil, paper_fits_k, paper_in_k, paper_in_eq, forall_eq, maxLen, implies_true, true_and, and_true, and_self, true_implies, false_implies, ixP, szP, mkP]
  all_goals (repeat' first | assumption | (apply And.intro) | (intro h))
  all_goals first | trivial | assumption | omega | ((try simp only [decide_eq_true_eq, decide_eq_false_iff_not, List.length_append, List.length_cons, List.length_nil, List.length_set, List.length_replicate, Bool.not_eq_true, Bool.not_eq_false, Int.not_lt, Int.not_le, Bool.and_eq_true, Bool.or_eq_true, Bool.and_eq_false_iff, Bool.or_eq_false_iff, Bool.not_eq_eq_eq_not, Bool.not_true, Bool.not_false, beq_iff_eq, bne_iff_ne, beq_eq_false_iff_ne, bne_eq_false_iff_eq, ne_eq, subL_length] at *) <;> first | omega | (refine (w64_id ?_ ?_).trans ?_ <;> omega) | (simp (disch := omega) only [w64_id] at *; omega) | (grind) | (simp_all; done) | (simp_all; omega))

theorem paper_sign_fn (r : Realm) (f : File) (i : Int) (hi : 0 ≤ i ∧ i < (f.signs.length : Int)) (hf : f.signs.length ≤ 1000000) : FnA Tryz.prog 48 [av r.cells, av f.cells, iv i] [] (iv (paper_sign r f i)) [] :=
  FnA.sk tok mixed (fun x => iv x) (fun _ => []) Tryz.func48 rfl (by kernel_rfl) 3000 (paper_sign_sk r f i) (by kernel_rfl) (paper_sign_ok r f i hi hf)
noncomputable def paper_sign_k (r : Realm) (f : File) (i : Int) : Ctr (Int) := ⟨Tryz.prog, 48, [av r.cells, av f.cells, iv i], fun x => iv x, true, paper_sign r f i, (0 ≤ i ∧ i < (f.signs.length : Int)) ∧ (f.signs.length ≤ 1000000), fun h => paper_sign_fn r f i h.1 h.2, fun _ => True, trivial⟩
noncomputable def paper_act_sk (r : Realm) (f : File) (a : ActX) : Sk (Bool) :=
 .r 1 (.dep ((paper_in_k a.at_ 0 (w64 (((f.signs.length : Nat) : Int) - 1))).c) fun x1 => .wh x1 true ((paper_stands_k f a.at_ a.part).c)) fun p11 =>
 .r 2 (.wh (p11.1 && p11.2) true (.p (ixP a.at_ f.signs.length))) fun _ =>
 .r 3 ((paper_in_k a.to_ 0 (w64 (((r.firms.length : Nat) : Int) - 1))).c) fun x3 =>
 .r 4 ((paper_in_k a.who 0 (w64 (((r.firms.length : Nat) : Int) - 1))).c) fun x4 =>
 .br ((!x4) || ((a.kind != 4) && (a.form != 0)))
 (.fin false)
 (.bind false (fun _ => True)
 (.br (a.kind == 0)
 (.fin (.inr (a.kind == 0)))
 (.br (a.kind == 1)
 (.fin (.inr (a.kind == 1)))
 (.fin (.inr (a.kind == 2)))))
 (fun (b5 : Bool) => ⟨[(65, bv b5)], []⟩) fun b5 =>
 .br b5
 (.fin ((x3 && (a.at_ == (-1))) && (a.sum == 0)))
 (.bind false (fun _ => True)
 (.br (a.kind == 3)
 (.fin (.inr (a.kind == 3)))
 (.br (a.kind == 5)
 (.fin (.inr (a.kind == 5)))
 (.fin (.inr (a.kind == 4)))))
 (fun (b6 : Bool) => ⟨[(80, bv b6)], []⟩) fun b6 =>
 .br b6
 (.r 14 (.dep (.wh (x3 && (a.at_ == (-1))) true ((paper_in_k a.sum 0 1099511627776).c)) fun x7 => .wh ((x3 && (a.at_ == (-1))) && x7) true ((paper_in_k a.form 0 1).c)) fun p9 =>
 .fin (((x3 && (a.at_ == (-1))) && p9.1) && p9.2))
 (.br (a.kind == 6)
 (.r 16 (.wh (x3 && ((p11.1 && p11.2) && (((f.signs.getD a.at_.toNat default).who) == a.who))) true ((paper_in_k a.sum 1 1099511627776).c)) fun x10 =>
 .fin ((x3 && ((p11.1 && p11.2) && (((f.signs.getD a.at_.toNat default).who) == a.who))) && x10))
 (.br (a.kind == 9)
 (.fin (((a.to_ == (-1)) && ((p11.1 && p11.2) && (((f.signs.getD a.at_.toNat default).who) == a.who))) && (a.sum == 0)))
 (.fin (((a.to_ == (-1)) && (p11.1 && p11.2)) && (a.sum == 0)))))))
noncomputable def paper_act (r : Realm) (f : File) (a : ActX) : Bool := (paper_act_sk r f a).val
theorem paper_act_pst (r : Realm) (f : File) (a : ActX) (hP : f.signs.length ≤ 1000000) : (paper_act_sk r f a).pst (fun (x : Bool) => x = true → a.at_ = -1 ∨ (0 ≤ a.at_ ∧ a.at_ < (f.signs.length : Int))) := by
  refine Sk.pst_of _ ?_
  unfold paper_act_sk
  simp only [Sk.pstq, Sk.isLoop, reduceCtorEq, leafB, leafJ, Cal.z, Cal.p, Cal.t, Cal.pt, Cal.o, Cal.and, Cal.andl, Cal.andr, Cal.wh, Cal.dep, Cal.depr, Ctr.c, Ctr.nil, Ctr.nilc, CtrO.c, CtrO.nil, paper_in_k, paper_stands_k, paper_in_eq, forall_eq, maxLen, implies_true, true_and, and_true, and_self, true_implies, false_implies, ixP, szP, mkP]
  all_goals (repeat' first | assumption | (apply And.intro) | (intro h))
  all_goals first | trivial | assumption | omega | ((try simp only [decide_eq_true_eq, decide_eq_false_iff_not, List.length_append, List.length_cons, List.length_nil, List.length_set, List.length_replicate, Bool.not_eq_true, Bool.not_eq_false, Int.not_lt, Int.not_le, Bool.and_eq_true, Bool.or_eq_true, Bool.and_eq_false_iff, Bool.or_eq_false_iff, Bool.not_eq_eq_eq_not, Bool.not_true, Bool.not_false, beq_iff_eq, bne_iff_ne, beq_eq_false_iff_ne, bne_eq_false_iff_eq, ne_eq, subL_length] at *) <;> first | omega | (refine (w64_id ?_ ?_).trans ?_ <;> omega) | (simp (disch := omega) only [w64_id] at *; omega) | (grind) | (simp_all; done) | (simp_all; omega))

theorem paper_act_post (r : Realm) (f : File) (a : ActX) : (fun (x : Bool) => (f.signs.length ≤ 1000000) → (x = true → a.at_ = -1 ∨ (0 ≤ a.at_ ∧ a.at_ < (f.signs.length : Int)))) (paper_act r f a) := fun hP => Sk.pval _ (paper_act_pst r f a hP)
theorem paper_act_ok (r : Realm) (f : File) (a : ActX) (hf : f.signs.length ≤ 1000000) : (paper_act_sk r f a).obs (fun _ => True) := by
  refine Sk.obs_of _ ?_
  unfold paper_act_sk
  simp only [Sk.obq, Sk.isLoop, reduceCtorEq, leafB, leafJ, Cal.z, Cal.p, Cal.t, Cal.pt, Cal.o, Cal.and, Cal.andl, Cal.andr, Cal.wh, Cal.dep, Cal.depr, Ctr.c, Ctr.nil, Ctr.nilc, CtrO.c, CtrO.nil, paper_in_k, paper_stands_k, paper_in_eq, forall_eq, maxLen, implies_true, true_and, and_true, and_self, true_implies, false_implies, ixP, szP, mkP]
  all_goals (repeat' first | assumption | (apply And.intro) | (intro h))
  all_goals first | trivial | assumption | omega | ((try simp only [decide_eq_true_eq, decide_eq_false_iff_not, List.length_append, List.length_cons, List.length_nil, List.length_set, List.length_replicate, Bool.not_eq_true, Bool.not_eq_false, Int.not_lt, Int.not_le, Bool.and_eq_true, Bool.or_eq_true, Bool.and_eq_false_iff, Bool.or_eq_false_iff, Bool.not_eq_eq_eq_not, Bool.not_true, Bool.not_false, beq_iff_eq, bne_iff_ne, beq_eq_false_iff_ne, bne_eq_false_iff_eq, ne_eq, subL_length] at *) <;> first | omega | (refine (w64_id ?_ ?_).trans ?_ <;> omega) | (simp (disch := omega) only [w64_id] at *; omega) | (grind) | (simp_all; done) | (simp_all; omega))

theorem paper_act_fn (r : Realm) (f : File) (a : ActX) (hf : f.signs.length ≤ 1000000) : FnA Tryz.prog 92 [av r.cells, av f.cells, av a.cells] [] (bv (paper_act r f a)) [] :=
  FnA.sk tok mixed (fun x => bv x) (fun _ => []) Tryz.func92 rfl (by kernel_rfl) 3000 (paper_act_sk r f a) (by kernel_rfl) (paper_act_ok r f a hf)
noncomputable def paper_act_k (r : Realm) (f : File) (a : ActX) : Ctr (Bool) := ⟨Tryz.prog, 92, [av r.cells, av f.cells, av a.cells], fun x => bv x, true, paper_act r f a, (f.signs.length ≤ 1000000), fun h => paper_act_fn r f a h, fun (x : Bool) => (f.signs.length ≤ 1000000) → (x = true → a.at_ = -1 ∨ (0 ≤ a.at_ ∧ a.at_ < (f.signs.length : Int))), paper_act_post r f a⟩
noncomputable def paper_acts_sk (r : Realm) (f : File) : Sk (Int) :=
 .bind true (fun _ => True)
 (.loop (default : Sum (Int) (Unit)) (fun i2 => i2 ≤ f.acts.length) (fun i2 => f.acts.length - i2) (0 : Nat)
 (fun (i2 : Nat) => ⟨[(11, iv ((i2 : Nat) : Int))], []⟩) fun i2 =>
 .bnd 9 0 f.acts.length <|
 .br (decide (((i2 : Nat) : Int) < ((f.acts.length : Nat) : Int)))
 (.r 3 (.p (ixP ((i2 : Nat) : Int) f.acts.length)) fun _ =>
 .r 4 ((paper_in_k ((f.acts.getD i2 default).part) 0 (w64 (f.bill.parts - 1))).c) fun x3 =>
 .br (!x3)
 (.fin (.inl (.inl 15)))
 (.r 6 (.dep ((paper_in_k ((f.acts.getD i2 default).city) 0 (w64 (((r.cities.length : Nat) : Int) - 1))).c) fun x4 => .wh (!x4) false ((paper_in_k ((f.acts.getD i2 default).kind) 0 9).c)) fun p10 =>
 .br ((!p10.1) || (!p10.2))
 (.fin (.inl (.inl 1)))
 (.r 8 ((paper_act_k r f (f.acts.getD i2 default)).c) fun x6 =>
 .br (!x6)
 (.fin (.inl (.inl 14)))
 (.bind false (fun _ => True)
 (.br (((f.acts.getD i2 default).at_) != (-1))
 (.r 12 (.p (ixP ((f.acts.getD i2 default).at_) f.signs.length)) fun _ =>
 .fin (.inr (maxI f.bill.day ((f.signs.getD (((f.acts.getD i2 default).at_).toNat) default).day))))
 (.fin (.inr f.bill.day)))
 (fun (b7 : Int) => ⟨[(7, iv b7)], []⟩) fun b7 =>
 .bind false (fun _ => True)
 (.br (decide (((i2 : Nat) : Int) > 0))
 (.r 14 (.p (ixP (w64 (((i2 : Nat) : Int) - 1)) f.acts.length)) fun _ =>
 .fin (.inr (maxI b7 ((f.acts.getD ((w64 (((i2 : Nat) : Int) - 1)).toNat) default).day))))
 (.fin (.inr b7)))
 (fun (b8 : Int) => ⟨[(7, iv b8)], []⟩) fun b8 =>
 .r 15 ((paper_in_k ((f.acts.getD i2 default).day) b8 100000).c) fun x9 =>
 .br (!x9)
 (.fin (.inl (.inl 13)))
 (.r 17 .z fun _ =>
 .wi 11 (w64 (((i2 : Nat) : Int) + 1)) ((i2 + 1 : Nat) : Int) <|
 .fin (.inr (i2 + 1)))))))
 (.fin (.inl (.inr ()))))
 (fun (_ : Unit) => ⟨[], []⟩) fun _ =>
 .fin 0
noncomputable def paper_acts (r : Realm) (f : File) : Int := (paper_acts_sk r f).val
theorem paper_acts_ok (r : Realm) (f : File) (hf : f.signs.length ≤ 1000000) : (paper_acts_sk r f).obs (fun _ => True) := by
  refine Sk.obs_of _ ?_
  unfold paper_acts_sk
  simp only [Sk.obq, Sk.isLoop, reduceCtorEq, leafB, leafJ, Cal.z, Cal.p, Cal.t, Cal.pt, Cal.o, Cal.and, Cal.andl, Cal.andr, Cal.wh, Cal.dep, Cal.depr, Ctr.c, Ctr.nil, Ctr.nilc, CtrO.c, CtrO.nil, paper_act_k, paper_in_k, paper_in_eq, forall_eq, maxLen, implies_true, true_and, and_true, and_self, true_implies, false_implies, ixP, szP, mkP]
  all_goals (repeat' first | assumption | (apply And.intro) | (intro h))
  all_goals first | trivial | assumption | omega | ((try simp only [decide_eq_true_eq, decide_eq_false_iff_not, List.length_append, List.length_cons, List.length_nil, List.length_set, List.length_replicate, Bool.not_eq_true, Bool.not_eq_false, Int.not_lt, Int.not_le, Bool.and_eq_true, Bool.or_eq_true, Bool.and_eq_false_iff, Bool.or_eq_false_iff, Bool.not_eq_eq_eq_not, Bool.not_true, Bool.not_false, beq_iff_eq, bne_iff_ne, beq_eq_false_iff_ne, bne_eq_false_iff_eq, ne_eq, subL_length] at *) <;> first | omega | (refine (w64_id ?_ ?_).trans ?_ <;> omega) | (simp (disch := omega) only [w64_id] at *; omega) | (grind) | (simp_all; done) | (simp_all; omega))

theorem paper_acts_fn (r : Realm) (f : File) (hf : f.signs.length ≤ 1000000) : FnA Tryz.prog 50 [av r.cells, av f.cells] [] (iv (paper_acts r f)) [] :=
  FnA.sk tok mixed (fun x => iv x) (fun _ => []) Tryz.func50 rfl (by kernel_rfl) 3000 (paper_acts_sk r f) (by kernel_rfl) (paper_acts_ok r f hf)
noncomputable def paper_acts_k (r : Realm) (f : File) : Ctr (Int) := ⟨Tryz.prog, 50, [av r.cells, av f.cells], fun x => iv x, true, paper_acts r f, (f.signs.length ≤ 1000000), fun h => paper_acts_fn r f h, fun _ => True, trivial⟩
noncomputable def cmp_isNaN_sk (x_ : Int) : Sk (Bool) :=
 .fin (x_ != x_)
noncomputable def cmp_isNaN (x_ : Int) : Bool := (cmp_isNaN_sk x_).val
theorem cmp_isNaN_eq (x_ : Int) : cmp_isNaN x_ = (x_ != x_) := rfl
theorem cmp_isNaN_ok (x_ : Int) : (cmp_isNaN_sk x_).obs (fun _ => True) := by
  refine Sk.obs_of _ ?_
  unfold cmp_isNaN_sk
  simp only [Sk.obq, Sk.isLoop, reduceCtorEq, leafB, leafJ, Cal.z, Cal.p, Cal.t, Cal.pt, Cal.o, Cal.and, Cal.andl, Cal.andr, Cal.wh, Cal.dep, Cal.depr, Ctr.c, Ctr.nil, Ctr.nilc, CtrO.c, CtrO.nil, maxLen, implies_true, true_and, and_true, and_self, true_implies, false_implies, ixP, szP, mkP]

theorem cmp_isNaN_fn (x_ : Int) : FnA Tryz.prog 134 [iv x_] [] (bv (cmp_isNaN x_)) [] :=
  FnA.sk tok mixed (fun x => bv x) (fun _ => []) Tryz.func134 rfl (by kernel_rfl) 3000 (cmp_isNaN_sk x_) (by kernel_rfl) (cmp_isNaN_ok x_)
noncomputable def cmp_isNaN_k (x_ : Int) : Ctr (Bool) := ⟨Tryz.prog, 134, [iv x_], fun x => bv x, true, cmp_isNaN x_, True, fun _ => cmp_isNaN_fn x_, fun _ => True, trivial⟩
noncomputable def cmp_Compare_sk (x_ : Int) (y : Int) : Sk (Int) :=
 .r 1 ((cmp_isNaN_k x_).c) fun x1 =>
 .r 2 ((cmp_isNaN_k y).c) fun x2 =>
 .br x1
 (.br x2
 (.fin 0)
 (.fin (-1)))
 (.br x2
 (.fin 1)
 (.br (decide (x_ < y))
 (.fin (-1))
 (.br (decide (x_ > y))
 (.fin 1)
 (.fin 0))))
noncomputable def cmp_Compare (x_ : Int) (y : Int) : Int := (cmp_Compare_sk x_ y).val
theorem cmp_Compare_ok (x_ : Int) (y : Int) : (cmp_Compare_sk x_ y).obs (fun _ => True) := by
  refine Sk.obs_of _ ?_
  unfold cmp_Compare_sk
  simp only [Sk.obq, Sk.isLoop, reduceCtorEq, leafB, leafJ, Cal.z, Cal.p, Cal.t, Cal.pt, Cal.o, Cal.and, Cal.andl, Cal.andr, Cal.wh, Cal.dep, Cal.depr, Ctr.c, Ctr.nil, Ctr.nilc, CtrO.c, CtrO.nil, cmp_isNaN_k, cmp_isNaN_eq, forall_eq, maxLen, implies_true, true_and, and_true, and_self, true_implies, false_implies, ixP, szP, mkP]

theorem cmp_Compare_fn (x_ : Int) (y : Int) : FnA Tryz.prog 94 [iv x_, iv y] [] (iv (cmp_Compare x_ y)) [] :=
  FnA.sk tok mixed (fun x => iv x) (fun _ => []) Tryz.func94 rfl (by kernel_rfl) 3000 (cmp_Compare_sk x_ y) (by kernel_rfl) (cmp_Compare_ok x_ y)
noncomputable def cmp_Compare_k (x_ : Int) (y : Int) : Ctr (Int) := ⟨Tryz.prog, 94, [iv x_, iv y], fun x => iv x, true, cmp_Compare x_ y, True, fun _ => cmp_Compare_fn x_ y, fun _ => True, trivial⟩
noncomputable def cmp_Or_sk (vals : List Int) : Sk (Int) :=
 .bind true (fun _ => True)
 (.loop (default : Sum (Int) (Unit)) (fun i2 => i2 ≤ vals.length) (fun i2 => vals.length - i2) (0 : Nat)
 (fun (i2 : Nat) => ⟨[(8, iv ((i2 : Nat) : Int))], []⟩) fun i2 =>
 .bnd 6 0 vals.length <|
 .br (decide (((i2 : Nat) : Int) < ((vals.length : Nat) : Int)))
 (.r 4 (.p (ixP ((i2 : Nat) : Int) vals.length)) fun _ =>
 .br ((vals.getD i2 default) != 0)
 (.fin (.inl (.inl (vals.getD i2 default))))
 (.r 7 .z fun _ =>
 .wi 8 (w64 (((i2 : Nat) : Int) + 1)) ((i2 + 1 : Nat) : Int) <|
 .fin (.inr (i2 + 1))))
 (.fin (.inl (.inr ()))))
 (fun (_ : Unit) => ⟨[], []⟩) fun _ =>
 .fin 0
noncomputable def cmp_Or (vals : List Int) : Int := (cmp_Or_sk vals).val
theorem cmp_Or_ok (vals : List Int) : (cmp_Or_sk vals).obs (fun _ => True) := by
  refine Sk.obs_of _ ?_
  unfold cmp_Or_sk
  simp only [Sk.obq, Sk.isLoop, reduceCtorEq, leafB, leafJ, Cal.z, Cal.p, Cal.t, Cal.pt, Cal.o, Cal.and, Cal.andl, Cal.andr, Cal.wh, Cal.dep, Cal.depr, Ctr.c, Ctr.nil, Ctr.nilc, CtrO.c, CtrO.nil, maxLen, implies_true, true_and, and_true, and_self, true_implies, false_implies, ixP, szP, mkP]
  all_goals (repeat' first | assumption | (apply And.intro) | (intro h))
  all_goals first | trivial | assumption | omega | ((try simp only [decide_eq_true_eq, decide_eq_false_iff_not, List.length_append, List.length_cons, List.length_nil, List.length_set, List.length_replicate, Bool.not_eq_true, Bool.not_eq_false, Int.not_lt, Int.not_le, Bool.and_eq_true, Bool.or_eq_true, Bool.and_eq_false_iff, Bool.or_eq_false_iff, Bool.not_eq_eq_eq_not, Bool.not_true, Bool.not_false, beq_iff_eq, bne_iff_ne, beq_eq_false_iff_ne, bne_eq_false_iff_eq, ne_eq, subL_length] at *) <;> first | omega | (refine (w64_id ?_ ?_).trans ?_ <;> omega) | (simp (disch := omega) only [w64_id] at *; omega) | (grind) | (simp_all; done) | (simp_all; omega))

theorem cmp_Or_fn (vals : List Int) : FnA Tryz.prog 93 [lv intC vals] [] (iv (cmp_Or vals)) [] :=
  FnA.sk tok mixed (fun x => iv x) (fun _ => []) Tryz.func93 rfl (by kernel_rfl) 3000 (cmp_Or_sk vals) (by kernel_rfl) (cmp_Or_ok vals)
noncomputable def cmp_Or_k (vals : List Int) : Ctr (Int) := ⟨Tryz.prog, 93, [lv intC vals], fun x => iv x, true, cmp_Or vals, True, fun _ => cmp_Or_fn vals, fun _ => True, trivial⟩
noncomputable def paper_facts_sk (f : File) : Sk (Int) :=
 .bind true (fun _ => True)
 (.loop (default : Sum (Int) (Unit)) (fun i2 => i2 ≤ f.facts.length) (fun i2 => f.facts.length - i2) (0 : Nat)
 (fun (i2 : Nat) => ⟨[(9, iv ((i2 : Nat) : Int))], []⟩) fun i2 =>
 .bnd 7 0 f.facts.length <|
 .br (decide (((i2 : Nat) : Int) < ((f.facts.length : Nat) : Int)))
 (.r 3 (.p (ixP ((i2 : Nat) : Int) f.facts.length)) fun _ =>
 .r 4 (.dep ((paper_in_k ((f.facts.getD i2 default).kind) 0 4).c) fun x3 => .dep (.wh (!x3) false ((paper_in_k ((f.facts.getD i2 default).at_) 0 (w64 (((f.signs.length : Nat) : Int) - 1))).c)) fun x4 => .wh ((!x3) || (!x4)) false ((paper_in_k ((f.facts.getD i2 default).n) 0 1).c)) fun p10 =>
 .br (((!p10.1) || (!p10.2.1)) || (!p10.2.2))
 (.fin (.inl (.inl 1)))
 (.br (((i2 : Nat) : Int) == 0)
 (.r 10 .z fun _ =>
 .wi 9 (w64 (((i2 : Nat) : Int) + 1)) ((i2 + 1 : Nat) : Int) <|
 .fin (.inr (i2 + 1)))
 (.r 7 (.p (ixP (w64 (((i2 : Nat) : Int) - 1)) f.facts.length)) fun _ =>
 .r 8 (.dep ((cmp_Compare_k ((f.facts.getD ((w64 (((i2 : Nat) : Int) - 1)).toNat) default).at_) ((f.facts.getD i2 default).at_)).c) fun x6 => .dep ((cmp_Compare_k ((f.facts.getD ((w64 (((i2 : Nat) : Int) - 1)).toNat) default).kind) ((f.facts.getD i2 default).kind)).c) fun x7 => .andl (.o [.nrm (litC intE [x6, x7])]) ((cmp_Or_k [x6, x7]).c)) fun p9 =>
 .br (decide (p9.2.2 ≥ 0))
 (.fin (.inl (.inl 5)))
 (.r 10 .z fun _ =>
 .wi 9 (w64 (((i2 : Nat) : Int) + 1)) ((i2 + 1 : Nat) : Int) <|
 .fin (.inr (i2 + 1))))))
 (.fin (.inl (.inr ()))))
 (fun (_ : Unit) => ⟨[], []⟩) fun _ =>
 .fin 0
noncomputable def paper_facts (f : File) : Int := (paper_facts_sk f).val
theorem paper_facts_ok (f : File) : (paper_facts_sk f).obs (fun _ => True) := by
  refine Sk.obs_of _ ?_
  unfold paper_facts_sk
  simp only [Sk.obq, Sk.isLoop, reduceCtorEq, leafB, leafJ, Cal.z, Cal.p, Cal.t, Cal.pt, Cal.o, Cal.and, Cal.andl, Cal.andr, Cal.wh, Cal.dep, Cal.depr, Ctr.c, Ctr.nil, Ctr.nilc, CtrO.c, CtrO.nil, cmp_Compare_k, cmp_Or_k, paper_in_k, paper_in_eq, forall_eq, maxLen, implies_true, true_and, and_true, and_self, true_implies, false_implies, ixP, szP, mkP]
  all_goals (repeat' first | assumption | (apply And.intro) | (intro h))
  all_goals first | trivial | assumption | omega | ((try simp only [decide_eq_true_eq, decide_eq_false_iff_not, List.length_append, List.length_cons, List.length_nil, List.length_set, List.length_replicate, Bool.not_eq_true, Bool.not_eq_false, Int.not_lt, Int.not_le, Bool.and_eq_true, Bool.or_eq_true, Bool.and_eq_false_iff, Bool.or_eq_false_iff, Bool.not_eq_eq_eq_not, Bool.not_true, Bool.not_false, beq_iff_eq, bne_iff_ne, beq_eq_false_iff_ne, bne_eq_false_iff_eq, ne_eq, subL_length] at *) <;> first | omega | (refine (w64_id ?_ ?_).trans ?_ <;> omega) | (simp (disch := omega) only [w64_id] at *; omega) | (grind) | (simp_all; done) | (simp_all; omega))

theorem paper_facts_fn (f : File) : FnA Tryz.prog 51 [av f.cells] [] (iv (paper_facts f)) [] :=
  FnA.sk tok mixed (fun x => iv x) (fun _ => []) Tryz.func51 rfl (by kernel_rfl) 3000 (paper_facts_sk f) (by kernel_rfl) (paper_facts_ok f)
noncomputable def paper_facts_k (f : File) : Ctr (Int) := ⟨Tryz.prog, 51, [av f.cells], fun x => iv x, true, paper_facts f, True, fun _ => paper_facts_fn f, fun _ => True, trivial⟩
noncomputable def paper_Check_sk (r : Realm) (f : File) : Sk (Int) :=
 .br ((((decide (((f.signs.length : Nat) : Int) > 40)) || (decide (((f.alters.length : Nat) : Int) > 4))) || (decide (((f.acts.length : Nat) : Int) > 100))) || (decide (((f.facts.length : Nat) : Int) > 200)))
 (.fin 6)
 (.r 3 ((wording_Check_k r f.bill).c) fun x1 =>
 .br (x1 != 0)
 (.fin x1)
 (.br (((f.signs.length : Nat) : Int) == 0)
 (.fin 14)
 (.bind true (fun _ => True)
 (.loop (default : Sum (Int) (Unit)) (fun i3 => i3 ≤ f.signs.length) (fun i3 => f.signs.length - i3) (0 : Nat)
 (fun (i3 : Nat) => ⟨[(48, iv ((i3 : Nat) : Int))], []⟩) fun i3 =>
 .bnd 3 15 f.signs.length <|
 .br (decide (((i3 : Nat) : Int) < ((f.signs.length : Nat) : Int)))
 (.r 11 ((paper_sign_k r f ((i3 : Nat) : Int)).c) fun x4 =>
 .br (x4 != 0)
 (.fin (.inl (.inl x4)))
 (.r 14 .z fun _ =>
 .wi 48 (w64 (((i3 : Nat) : Int) + 1)) ((i3 + 1 : Nat) : Int) <|
 .fin (.inr (i3 + 1))))
 (.fin (.inl (.inr ()))))
 (fun (_ : Unit) => ⟨[], []⟩) fun _ =>
 .bind true (fun _ => True)
 (.loop (default : Sum (Int) (Unit)) (fun i6 => i6.2 ≤ f.alters.length) (fun i6 => f.alters.length - i6.2) ((0, 0) : Int × Nat)
 (fun (i6 : Int × Nat) => ⟨[(8, iv i6.1), (62, iv ((i6.2 : Nat) : Int))], []⟩) fun i6 =>
 .bnd 60 0 f.alters.length <|
 .br (decide (((i6.2 : Nat) : Int) < ((f.alters.length : Nat) : Int)))
 (.r 18 (.p (ixP ((i6.2 : Nat) : Int) f.alters.length)) fun _ =>
 .r 19 ((paper_in_k ((f.alters.getD i6.2 default).at_) (w64 (i6.1 + 1)) ((f.signs.length : Nat) : Int)).c) fun x7 =>
 .br (!x7)
 (.fin (.inl (.inl 1)))
 (.r 21 ((paper_in_k ((f.alters.getD i6.2 default).sum) 1 1099511627776).c) fun x8 =>
 .br (!x8)
 (.fin (.inl (.inl 3)))
 (.r 24 .z fun _ =>
 .wi 62 (w64 (((i6.2 : Nat) : Int) + 1)) ((i6.2 + 1 : Nat) : Int) <|
 .fin (.inr ((f.alters.getD i6.2 default).at_, i6.2 + 1)))))
 (.fin (.inl (.inr ()))))
 (fun (_ : Unit) => ⟨[], []⟩) fun _ =>
 .r 25 ((paper_acts_k r f).c) fun x9 =>
 .br (x9 != 0)
 (.fin x9)
 (.r 28 ((paper_facts_k f).c) fun x10 =>
 .fin x10))))
noncomputable def paper_Check (r : Realm) (f : File) : Int := (paper_Check_sk r f).val
theorem paper_Check_ok (r : Realm) (f : File) (h_r_Small : r.Small) : (paper_Check_sk r f).obs (fun _ => True) := by
  simp only [File.Small, Realm.Small] at h_r_Small
  refine Sk.obs_of _ ?_
  unfold paper_Check_sk
  simp only [Sk.obq, Sk.isLoop, reduceCtorEq, leafB, leafJ, Cal.z, Cal.p, Cal.t, Cal.pt, Cal.o, Cal.and, Cal.andl, Cal.andr, Cal.wh, Cal.dep, Cal.depr, Ctr.c, Ctr.nil, Ctr.nilc, CtrO.c, CtrO.nil, paper_acts_k, paper_facts_k, paper_in_k, paper_sign_k, wording_Check_k, paper_in_eq, forall_eq, File.Small, Realm.Small, maxLen, implies_true, true_and, and_true, and_self, true_implies, false_implies, ixP, szP, mkP]
  all_goals (repeat' first | assumption | (apply And.intro) | (intro h))
  all_goals first | trivial | assumption | omega | ((try simp only [decide_eq_true_eq, decide_eq_false_iff_not, List.length_append, List.length_cons, List.length_nil, List.length_set, List.length_replicate, Bool.not_eq_true, Bool.not_eq_false, Int.not_lt, Int.not_le, Bool.and_eq_true, Bool.or_eq_true, Bool.and_eq_false_iff, Bool.or_eq_false_iff, Bool.not_eq_eq_eq_not, Bool.not_true, Bool.not_false, beq_iff_eq, bne_iff_ne, beq_eq_false_iff_ne, bne_eq_false_iff_eq, ne_eq, subL_length] at *) <;> first | omega | (refine (w64_id ?_ ?_).trans ?_ <;> omega) | (simp (disch := omega) only [w64_id] at *; omega) | (grind) | (simp_all; done) | (simp_all; omega))

theorem paper_Check_fn (r : Realm) (f : File) (h_r_Small : r.Small) : FnA Tryz.prog 17 [av r.cells, av f.cells] [] (iv (paper_Check r f)) [] :=
  FnA.sk tok mixed (fun x => iv x) (fun _ => []) Tryz.func17 rfl (by kernel_rfl) 3000 (paper_Check_sk r f) (by kernel_rfl) (paper_Check_ok r f h_r_Small)
noncomputable def paper_Check_k (r : Realm) (f : File) : Ctr (Int) := ⟨Tryz.prog, 17, [av r.cells, av f.cells], fun x => iv x, true, paper_Check r f, (r.Small), fun h => paper_Check_fn r f h, fun _ => True, trivial⟩
noncomputable def allongelaw47_bounded_sk (r : Realm) (f : File) : Sk (Bool) :=
 .r 1 (.dep ((allongeref21_Few_k r f).c) fun x1 => .dep (.wh x1 true ((allongeref09_Check_k r).c)) fun x2 => .wh (x1 && (x2 == 0)) true ((paper_Check_k r f).c)) fun p4 =>
 .fin ((p4.1 && (p4.2.1 == 0)) && (p4.2.2 == 0))
noncomputable def allongelaw47_bounded (r : Realm) (f : File) : Bool := (allongelaw47_bounded_sk r f).val
theorem allongelaw47_bounded_pst (r : Realm) (f : File) : (allongelaw47_bounded_sk r f).pst (fun (x : Bool) => x = true → r.Small ∧ f.Small ∧ r.ByOK) := by
  refine Sk.pst_of _ ?_
  unfold allongelaw47_bounded_sk
  simp only [Sk.pstq, Sk.isLoop, reduceCtorEq, leafB, leafJ, Cal.z, Cal.p, Cal.t, Cal.pt, Cal.o, Cal.and, Cal.andl, Cal.andr, Cal.wh, Cal.dep, Cal.depr, Ctr.c, Ctr.nil, Ctr.nilc, CtrO.c, CtrO.nil, allongeref09_Check_k, allongeref21_Few_k, paper_Check_k, File.Small, Realm.Small, Realm.ByOK, maxLen, implies_true, true_and, and_true, and_self, true_implies, false_implies, ixP, szP, mkP]
  all_goals (repeat' first | assumption | (apply And.intro) | (intro h))
  all_goals first | trivial | assumption | omega | ((try simp only [decide_eq_true_eq, decide_eq_false_iff_not, List.length_append, List.length_cons, List.length_nil, List.length_set, List.length_replicate, Bool.not_eq_true, Bool.not_eq_false, Int.not_lt, Int.not_le, Bool.and_eq_true, Bool.or_eq_true, Bool.and_eq_false_iff, Bool.or_eq_false_iff, Bool.not_eq_eq_eq_not, Bool.not_true, Bool.not_false, beq_iff_eq, bne_iff_ne, beq_eq_false_iff_ne, bne_eq_false_iff_eq, ne_eq, subL_length] at *) <;> first | omega | (refine (w64_id ?_ ?_).trans ?_ <;> omega) | (simp (disch := omega) only [w64_id] at *; omega) | (grind) | (simp_all; done) | (simp_all; omega))

theorem allongelaw47_bounded_post (r : Realm) (f : File) : (fun (x : Bool) => x = true → r.Small ∧ f.Small ∧ r.ByOK) (allongelaw47_bounded r f) := Sk.pval _ (allongelaw47_bounded_pst r f)
theorem allongelaw47_bounded_ok (r : Realm) (f : File) : (allongelaw47_bounded_sk r f).obs (fun _ => True) := by
  refine Sk.obs_of _ ?_
  unfold allongelaw47_bounded_sk
  simp only [Sk.obq, Sk.isLoop, reduceCtorEq, leafB, leafJ, Cal.z, Cal.p, Cal.t, Cal.pt, Cal.o, Cal.and, Cal.andl, Cal.andr, Cal.wh, Cal.dep, Cal.depr, Ctr.c, Ctr.nil, Ctr.nilc, CtrO.c, CtrO.nil, allongeref09_Check_k, allongeref21_Few_k, paper_Check_k, File.Small, Realm.Small, Realm.ByOK, maxLen, implies_true, true_and, and_true, and_self, true_implies, false_implies, ixP, szP, mkP]
  all_goals (repeat' first | assumption | (apply And.intro) | (intro h))
  all_goals first | trivial | assumption | omega | ((try simp only [decide_eq_true_eq, decide_eq_false_iff_not, List.length_append, List.length_cons, List.length_nil, List.length_set, List.length_replicate, Bool.not_eq_true, Bool.not_eq_false, Int.not_lt, Int.not_le, Bool.and_eq_true, Bool.or_eq_true, Bool.and_eq_false_iff, Bool.or_eq_false_iff, Bool.not_eq_eq_eq_not, Bool.not_true, Bool.not_false, beq_iff_eq, bne_iff_ne, beq_eq_false_iff_ne, bne_eq_false_iff_eq, ne_eq, subL_length] at *) <;> first | omega | (refine (w64_id ?_ ?_).trans ?_ <;> omega) | (simp (disch := omega) only [w64_id] at *; omega) | (grind) | (simp_all; done) | (simp_all; omega))

theorem allongelaw47_bounded_fn (r : Realm) (f : File) : FnA Tryz.prog 19 [av r.cells, av f.cells] [] (bv (allongelaw47_bounded r f)) [] :=
  FnA.sk tok mixed (fun x => bv x) (fun _ => []) Tryz.func19 rfl (by kernel_rfl) 3000 (allongelaw47_bounded_sk r f) (by kernel_rfl) (allongelaw47_bounded_ok r f)
noncomputable def allongelaw47_bounded_k (r : Realm) (f : File) : Ctr (Bool) := ⟨Tryz.prog, 19, [av r.cells, av f.cells], fun x => bv x, true, allongelaw47_bounded r f, True, fun _ => allongelaw47_bounded_fn r f, fun (x : Bool) => x = true → r.Small ∧ f.Small ∧ r.ByOK, allongelaw47_bounded_post r f⟩
noncomputable def allongeref47_in_sk (i : Int) (n : Int) : Sk (Bool) :=
 .fin ((decide (i ≥ 0)) && (decide (i < n)))
noncomputable def allongeref47_in (i : Int) (n : Int) : Bool := (allongeref47_in_sk i n).val
theorem allongeref47_in_eq (i : Int) (n : Int) : allongeref47_in i n = ((decide (i ≥ 0)) && (decide (i < n))) := rfl
theorem allongeref47_in_ok (i : Int) (n : Int) : (allongeref47_in_sk i n).obs (fun _ => True) := by
  refine Sk.obs_of _ ?_
  unfold allongeref47_in_sk
  simp only [Sk.obq, Sk.isLoop, reduceCtorEq, leafB, leafJ, Cal.z, Cal.p, Cal.t, Cal.pt, Cal.o, Cal.and, Cal.andl, Cal.andr, Cal.wh, Cal.dep, Cal.depr, Ctr.c, Ctr.nil, Ctr.nilc, CtrO.c, CtrO.nil, maxLen, implies_true, true_and, and_true, and_self, true_implies, false_implies, ixP, szP, mkP]

theorem allongeref47_in_fn (i : Int) (n : Int) : FnA Tryz.prog 60 [iv i, iv n] [] (bv (allongeref47_in i n)) [] :=
  FnA.sk tok mixed (fun x => bv x) (fun _ => []) Tryz.func60 rfl (by kernel_rfl) 3000 (allongeref47_in_sk i n) (by kernel_rfl) (allongeref47_in_ok i n)
noncomputable def allongeref47_in_k (i : Int) (n : Int) : Ctr (Bool) := ⟨Tryz.prog, 60, [iv i, iv n], fun x => bv x, true, allongeref47_in i n, True, fun _ => allongeref47_in_fn i n, fun _ => True, trivial⟩
noncomputable def allongeref47_Right_sk (r : Realm) (x_ : Receipt) : Sk (Bool) :=
 .r 1 (.dep ((allongeref47_in_k x_.from_ ((r.firms.length : Nat) : Int)).c) fun x1 => .dep (.wh x1 true ((allongeref47_in_k x_.to_ ((r.firms.length : Nat) : Int)).c)) fun x2 => .wh (((x1 && x2) && (decide (x_.sum ≥ 0))) && (decide (x_.sum ≤ 1099511627776))) true ((allongeref47_in_k x_.currency ((r.currencies.length : Nat) : Int)).c)) fun p4 =>
 .fin ((((((p4.1 && p4.2.1) && (decide (x_.sum ≥ 0))) && (decide (x_.sum ≤ 1099511627776))) && p4.2.2) && (decide (x_.day ≥ 0))) && (decide (x_.day ≤ 100000)))
noncomputable def allongeref47_Right (r : Realm) (x_ : Receipt) : Bool := (allongeref47_Right_sk r x_).val
theorem allongeref47_Right_ok (r : Realm) (x_ : Receipt) : (allongeref47_Right_sk r x_).obs (fun _ => True) := by
  refine Sk.obs_of _ ?_
  unfold allongeref47_Right_sk
  simp only [Sk.obq, Sk.isLoop, reduceCtorEq, leafB, leafJ, Cal.z, Cal.p, Cal.t, Cal.pt, Cal.o, Cal.and, Cal.andl, Cal.andr, Cal.wh, Cal.dep, Cal.depr, Ctr.c, Ctr.nil, Ctr.nilc, CtrO.c, CtrO.nil, allongeref47_in_k, allongeref47_in_eq, forall_eq, maxLen, implies_true, true_and, and_true, and_self, true_implies, false_implies, ixP, szP, mkP]

theorem allongeref47_Right_fn (r : Realm) (x_ : Receipt) : FnA Tryz.prog 33 [av r.cells, av x_.cells] [] (bv (allongeref47_Right r x_)) [] :=
  FnA.sk tok mixed (fun x => bv x) (fun _ => []) Tryz.func33 rfl (by kernel_rfl) 3000 (allongeref47_Right_sk r x_) (by kernel_rfl) (allongeref47_Right_ok r x_)
noncomputable def allongeref47_Right_k (r : Realm) (x_ : Receipt) : Ctr (Bool) := ⟨Tryz.prog, 33, [av r.cells, av x_.cells], fun x => bv x, true, allongeref47_Right r x_, True, fun _ => allongeref47_Right_fn r x_, fun _ => True, trivial⟩
noncomputable def allongelaw47_RecognizeLess_sk (r : Realm) (forum : Int) (f : File) (j : Judgment) (l : List Receipt) (x_ : Receipt) (day : Int) : Sk (Bool) :=
 .r 1 allongelaw47_sane_k.c fun x1 =>
 .r 2 (.dep ((allongelaw47_bounded_k r f).c) fun x2 => .wh ((!x2) || (decide (((l.length : Nat) : Int) > 100))) false ((allongeref47_Right_k r x_).c)) fun p9 =>
 .br (((!p9.1) || (decide (((l.length : Nat) : Int) > 100))) || (!p9.2))
 (.fin x1)
 (.r 4 ((recognize_Rest_k r forum f j l day).c) fun x4 =>
 .r 5 ((recognize_Received_k r f j l day).c) fun x5 =>
 .r 6 (.andl (.o [.nrm (litC Receipt.E ([] : List Receipt))]) (.andl (.andl (.o [.nrm (catC Receipt.E ([] : List Receipt) l)]) (.andl (.t (Receipt.E.src l)) (.p (szP (([] : List Receipt).length) l.length 48)))) (.andl (.o [.nrm (litC Receipt.E [x_])]) (.andl (.o [.nrm (catC Receipt.E (([] : List Receipt) ++ l) [x_])]) (.andl (.t (Receipt.E.ones [x_])) (.p (szP ((([] : List Receipt) ++ l).length) [x_].length 48))))))) fun _ =>
 .r 7 ((recognize_Rest_k r forum f j ((([] : List Receipt) ++ l) ++ [x_]) day).c) fun x6 =>
 .r 8 ((recognize_Received_k r f j ((([] : List Receipt) ++ l) ++ [x_]) day).c) fun x7 =>
 .br (((x_.bill != j.bill) || (x_.to_ != j.creditor)) || (decide (x_.day > day)))
 (.fin ((((x1 && (x4.1 == x6.1)) && (x4.2 == x6.2)) && (x5.1 == x7.1)) && (x5.2 == x7.2)))
 (.r 11 ((money_Convert_k r.rates x_.sum x_.currency f.bill.currency x_.day).c) fun x8 =>
 .br ((x5.2 != 0) || (x8.2 != 0))
 (.fin ((x1 && (x7.2 != 0)) && (x6.2 != 0)))
 (.br (((x7.2 != 0) || (x7.1 != (w64 (x5.1 + x8.1)))) || (x4.2 != x6.2))
 (.fin false)
 (.fin (x1 && ((x4.2 != 0) || ((decide (x6.1 ≤ x4.1)) && ((x6.1 == (w64 (x4.1 - x8.1))) || ((x6.1 == 0) && (decide (x4.1 ≤ x8.1)))))))))))
noncomputable def allongelaw47_RecognizeLess (r : Realm) (forum : Int) (f : File) (j : Judgment) (l : List Receipt) (x_ : Receipt) (day : Int) : Bool := (allongelaw47_RecognizeLess_sk r forum f j l x_ day).val
theorem allongelaw47_RecognizeLess_ok (r : Realm) (forum : Int) (f : File) (j : Judgment) (l : List Receipt) (x_ : Receipt) (day : Int) : (allongelaw47_RecognizeLess_sk r forum f j l x_ day).obs (fun _ => True) := by
  refine Sk.obs_of _ ?_
  unfold allongelaw47_RecognizeLess_sk
  simp only [Sk.obq, Sk.isLoop, reduceCtorEq, leafB, leafJ, Cal.z, Cal.p, Cal.t, Cal.pt, Cal.o, Cal.and, Cal.andl, Cal.andr, Cal.wh, Cal.dep, Cal.depr, Ctr.c, Ctr.nil, Ctr.nilc, CtrO.c, CtrO.nil, allongelaw47_bounded_k, allongelaw47_sane_k, allongeref47_Right_k, money_Convert_k, recognize_Received_k, recognize_Rest_k, File.Small, Realm.Small, Realm.ByOK, maxLen, implies_true, true_and, and_true, and_self, true_implies, false_implies, ixP, szP, mkP]
  all_goals (repeat' first | assumption | (apply And.intro) | (intro h))
  all_goals first | trivial | assumption | omega | ((try simp only [decide_eq_true_eq, decide_eq_false_iff_not, List.length_append, List.length_cons, List.length_nil, List.length_set, List.length_replicate, Bool.not_eq_true, Bool.not_eq_false, Int.not_lt, Int.not_le, Bool.and_eq_true, Bool.or_eq_true, Bool.and_eq_false_iff, Bool.or_eq_false_iff, Bool.not_eq_eq_eq_not, Bool.not_true, Bool.not_false, beq_iff_eq, bne_iff_ne, beq_eq_false_iff_ne, bne_eq_false_iff_eq, ne_eq, subL_length] at *) <;> first | omega | (refine (w64_id ?_ ?_).trans ?_ <;> omega) | (simp (disch := omega) only [w64_id] at *; omega) | (grind) | (simp_all; done) | (simp_all; omega))

theorem allongelaw47_RecognizeLess_fn (r : Realm) (forum : Int) (f : File) (j : Judgment) (l : List Receipt) (x_ : Receipt) (day : Int) : FnA Tryz.prog 8 [av r.cells, iv forum, av f.cells, av j.cells, lv Receipt.cells l, av x_.cells, iv day] [] (bv (allongelaw47_RecognizeLess r forum f j l x_ day)) [] :=
  FnA.sk tok mixed (fun x => bv x) (fun _ => []) Tryz.func8 rfl (by kernel_rfl) 3000 (allongelaw47_RecognizeLess_sk r forum f j l x_ day) (by kernel_rfl) (allongelaw47_RecognizeLess_ok r forum f j l x_ day)
noncomputable def allongelaw47_RecognizeLess_k (r : Realm) (forum : Int) (f : File) (j : Judgment) (l : List Receipt) (x_ : Receipt) (day : Int) : Ctr (Bool) := ⟨Tryz.prog, 8, [av r.cells, iv forum, av f.cells, av j.cells, lv Receipt.cells l, av x_.cells, iv day], fun x => bv x, true, allongelaw47_RecognizeLess r forum f j l x_ day, True, fun _ => allongelaw47_RecognizeLess_fn r forum f j l x_ day, fun _ => True, trivial⟩
end Go.Proofs.YtggilgghigileaaGreatDoor
