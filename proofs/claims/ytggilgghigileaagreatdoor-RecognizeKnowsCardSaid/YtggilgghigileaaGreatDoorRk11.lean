/- Functions, as sketches. -/
import Derived.Test.YtggilgghigileaaGreatDoorRk10
namespace Go.Proofs.YtggilgghigileaaGreatDoor
open Go Go.Av
set_option linter.unusedSimpArgs false
set_option linter.unusedVariables false
set_option maxHeartbeats 1000000
set_option maxRecDepth 100000
noncomputable def allongeref21_Few_sk (r : Realm) (f : File) : Sk (Bool) :=
 .r 1 (.dep ((allongeref09_Few_k r).c) fun x1 => .wh (!x1) false ((allongeref14_Few_k f).c)) fun p6 =>
 .br ((!p6.1) || (!p6.2))
 (.fin false)
 (.bind true (fun _ => True)
 (.loop (default : Sum (Bool) (Unit)) (fun i4 => i4 ≤ r.orders.length) (fun i4 => r.orders.length - i4) (0 : Nat)
 (fun (i4 : Nat) => ⟨[(5, iv ((i4 : Nat) : Int))], []⟩) fun i4 =>
 .bnd 2 4 r.orders.length <|
 .br (decide (((i4 : Nat) : Int) < ((r.orders.length : Nat) : Int)))
 (.r 6 (.andl (.p (ixP ((i4 : Nat) : Int) r.orders.length)) ((allongeref18_Few_k (r.orders.getD i4 default)).c)) fun x5 =>
 .br (!x5)
 (.fin (.inl (.inl false)))
 (.r 5 .z fun _ =>
 .wi 5 (w64 (((i4 : Nat) : Int) + 1)) ((i4 + 1 : Nat) : Int) <|
 .fin (.inr (i4 + 1))))
 (.fin (.inl (.inr ()))))
 (fun (_ : Unit) => ⟨[], []⟩) fun _ =>
 .fin true)
noncomputable def allongeref21_Few (r : Realm) (f : File) : Bool := (allongeref21_Few_sk r f).val
theorem allongeref21_Few_pst (r : Realm) (f : File) : (allongeref21_Few_sk r f).pst (fun (x : Bool) => x = true → r.Small ∧ f.Small) := by
  refine Sk.pst_of _ ?_
  unfold allongeref21_Few_sk
  simp only [Sk.pstq, Sk.isLoop, reduceCtorEq, leafB, leafJ, Cal.z, Cal.p, Cal.t, Cal.pt, Cal.o, Cal.and, Cal.andl, Cal.andr, Cal.wh, Cal.dep, Cal.depr, Ctr.c, Ctr.nil, Ctr.nilc, CtrO.c, CtrO.nil, allongeref09_Few_k, allongeref14_Few_k, allongeref18_Few_k, allongeref14_Few_eq, forall_eq, File.Small, Realm.Small, maxLen, implies_true, true_and, and_true, and_self, true_implies, false_implies, ixP, szP, mkP]
  all_goals (repeat' first | assumption | (apply And.intro) | (intro h))
  all_goals first | trivial | assumption | omega | ((try simp only [decide_eq_true_eq, decide_eq_false_iff_not, List.length_append, List.length_cons, List.length_nil, List.length_set, List.length_replicate, Bool.not_eq_true, Bool.not_eq_false, Int.not_lt, Int.not_le, Bool.and_eq_true, Bool.or_eq_true, Bool.and_eq_false_iff, Bool.or_eq_false_iff, Bool.not_eq_eq_eq_not, Bool.not_true, Bool.not_false, beq_iff_eq, bne_iff_ne, beq_eq_false_iff_ne, bne_eq_false_iff_eq, ne_eq, subL_length] at *) <;> first | omega | (refine (w64_id ?_ ?_).trans ?_ <;> omega) | (simp (disch := omega) only [w64_id] at *; omega) | (grind) | (simp_all; done) | (simp_all; omega))

theorem allongeref21_Few_post (r : Realm) (f : File) : (fun (x : Bool) => x = true → r.Small ∧ f.Small) (allongeref21_Few r f) := Sk.pval _ (allongeref21_Few_pst r f)
theorem allongeref21_Few_ok (r : Realm) (f : File) : (allongeref21_Few_sk r f).obs (fun _ => True) := by
  refine Sk.obs_of _ ?_
  unfold allongeref21_Few_sk
  simp only [Sk.obq, Sk.isLoop, reduceCtorEq, leafB, leafJ, Cal.z, Cal.p, Cal.t, Cal.pt, Cal.o, Cal.and, Cal.andl, Cal.andr, Cal.wh, Cal.dep, Cal.depr, Ctr.c, Ctr.nil, Ctr.nilc, CtrO.c, CtrO.nil, allongeref09_Few_k, allongeref14_Few_k, allongeref18_Few_k, allongeref14_Few_eq, forall_eq, File.Small, Realm.Small, maxLen, implies_true, true_and, and_true, and_self, true_implies, false_implies, ixP, szP, mkP]
  all_goals (repeat' first | assumption | (apply And.intro) | (intro h))
  all_goals first | trivial | assumption | omega | ((try simp only [decide_eq_true_eq, decide_eq_false_iff_not, List.length_append, List.length_cons, List.length_nil, List.length_set, List.length_replicate, Bool.not_eq_true, Bool.not_eq_false, Int.not_lt, Int.not_le, Bool.and_eq_true, Bool.or_eq_true, Bool.and_eq_false_iff, Bool.or_eq_false_iff, Bool.not_eq_eq_eq_not, Bool.not_true, Bool.not_false, beq_iff_eq, bne_iff_ne, beq_eq_false_iff_ne, bne_eq_false_iff_eq, ne_eq, subL_length] at *) <;> first | omega | (refine (w64_id ?_ ?_).trans ?_ <;> omega) | (simp (disch := omega) only [w64_id] at *; omega) | (grind) | (simp_all; done) | (simp_all; omega))

theorem allongeref21_Few_fn (r : Realm) (f : File) : FnA Tryz.prog 36 [av r.cells, av f.cells] [] (bv (allongeref21_Few r f)) [] :=
  FnA.sk tok mixed (fun x => bv x) (fun _ => []) Tryz.func36 rfl (by kernel_rfl) 3000 (allongeref21_Few_sk r f) (by kernel_rfl) (allongeref21_Few_ok r f)
noncomputable def allongeref21_Few_k (r : Realm) (f : File) : Ctr (Bool) := ⟨Tryz.prog, 36, [av r.cells, av f.cells], fun x => bv x, true, allongeref21_Few r f, True, fun _ => allongeref21_Few_fn r f, fun (x : Bool) => x = true → r.Small ∧ f.Small, allongeref21_Few_post r f⟩
noncomputable def allongeref09_Letter_sk (c_ : Int) : Sk (Bool) :=
 .fin (((decide ((97 : Int) ≤ c_)) && (decide (c_ ≤ 122))) || ((decide ((65 : Int) ≤ c_)) && (decide (c_ ≤ 90))))
noncomputable def allongeref09_Letter (c_ : Int) : Bool := (allongeref09_Letter_sk c_).val
theorem allongeref09_Letter_eq (c_ : Int) : allongeref09_Letter c_ = (((decide ((97 : Int) ≤ c_)) && (decide (c_ ≤ 122))) || ((decide ((65 : Int) ≤ c_)) && (decide (c_ ≤ 90)))) := rfl
theorem allongeref09_Letter_ok (c_ : Int) : (allongeref09_Letter_sk c_).obs (fun _ => True) := by
  refine Sk.obs_of _ ?_
  unfold allongeref09_Letter_sk
  simp only [Sk.obq, Sk.isLoop, reduceCtorEq, leafB, leafJ, Cal.z, Cal.p, Cal.t, Cal.pt, Cal.o, Cal.and, Cal.andl, Cal.andr, Cal.wh, Cal.dep, Cal.depr, Ctr.c, Ctr.nil, Ctr.nilc, CtrO.c, CtrO.nil, maxLen, implies_true, true_and, and_true, and_self, true_implies, false_implies, ixP, szP, mkP]

theorem allongeref09_Letter_fn (c_ : Int) : FnA Tryz.prog 178 [.d (.v (.int .u8 c_))] [] (bv (allongeref09_Letter c_)) [] :=
  FnA.sk tok mixed (fun x => bv x) (fun _ => []) Tryz.func178 rfl (by kernel_rfl) 3000 (allongeref09_Letter_sk c_) (by kernel_rfl) (allongeref09_Letter_ok c_)
noncomputable def allongeref09_Letter_k (c_ : Int) : Ctr (Bool) := ⟨Tryz.prog, 178, [.d (.v (.int .u8 c_))], fun x => bv x, true, allongeref09_Letter c_, True, fun _ => allongeref09_Letter_fn c_, fun _ => True, trivial⟩
noncomputable def allongeref09_Name_sk (s : ByteArray) : Sk (Bool) :=
 .br ((decide (((s.size : Nat) : Int) < 1)) || (decide (((s.size : Nat) : Int) > 20)))
 (.fin false)
 (.bind true (fun _ => True)
 (.loop (default : Sum (Bool) (Unit)) (fun i2 => i2 ≤ s.size) (fun i2 => s.size - i2) (0 : Nat)
 (fun (i2 : Nat) => ⟨[(3, iv ((i2 : Nat) : Int))], []⟩) fun i2 =>
 .br (decide (((i2 : Nat) : Int) < ((s.size : Nat) : Int)))
 (.r 6 (.andl (.p (0 ≤ ((i2 : Nat) : Int) ∧ ((i2 : Nat) : Int) < ((s.size : Nat) : Int))) (.andl (.wh (((s.data.toList.getD i2 0).toNat : Int) == 95) false (.p (0 ≤ ((i2 : Nat) : Int) ∧ ((i2 : Nat) : Int) < ((s.size : Nat) : Int)))) (.wh (((s.data.toList.getD i2 0).toNat : Int) == 95) false (.wh (decide ((48 : Int) ≤ ((s.data.toList.getD i2 0).toNat : Int))) true (.p (0 ≤ ((i2 : Nat) : Int) ∧ ((i2 : Nat) : Int) < ((s.size : Nat) : Int))))))) fun _ =>
 .r 7 (.andl (.p (0 ≤ ((i2 : Nat) : Int) ∧ ((i2 : Nat) : Int) < ((s.size : Nat) : Int))) ((allongeref09_Letter_k ((s.data.toList.getD i2 0).toNat : Int)).c)) fun x3 =>
 .br ((!x3) && ((((i2 : Nat) : Int) == 0) || (!((((s.data.toList.getD i2 0).toNat : Int) == 95) || ((decide ((48 : Int) ≤ ((s.data.toList.getD i2 0).toNat : Int))) && (decide (((s.data.toList.getD i2 0).toNat : Int) ≤ 57)))))))
 (.fin (.inl (.inl false)))
 (.r 5 .z fun _ =>
 .wi 3 (w64 (((i2 : Nat) : Int) + 1)) ((i2 + 1 : Nat) : Int) <|
 .fin (.inr (i2 + 1))))
 (.fin (.inl (.inr ()))))
 (fun (_ : Unit) => ⟨[], []⟩) fun _ =>
 .fin true)
noncomputable def allongeref09_Name (s : ByteArray) : Bool := (allongeref09_Name_sk s).val
theorem allongeref09_Name_ok (s : ByteArray) : (allongeref09_Name_sk s).obs (fun _ => True) := by
  refine Sk.obs_of _ ?_
  unfold allongeref09_Name_sk
  simp only [Sk.obq, Sk.isLoop, reduceCtorEq, leafB, leafJ, Cal.z, Cal.p, Cal.t, Cal.pt, Cal.o, Cal.and, Cal.andl, Cal.andr, Cal.wh, Cal.dep, Cal.depr, Ctr.c, Ctr.nil, Ctr.nilc, CtrO.c, CtrO.nil, allongeref09_Letter_k, allongeref09_Letter_eq, forall_eq, maxLen, implies_true, true_and, and_true, and_self, true_implies, false_implies, ixP, szP, mkP]
  all_goals (repeat' first | assumption | (apply And.intro) | (intro h))
  all_goals first | trivial | assumption | omega | ((try simp only [decide_eq_true_eq, decide_eq_false_iff_not, List.length_append, List.length_cons, List.length_nil, List.length_set, List.length_replicate, Bool.not_eq_true, Bool.not_eq_false, Int.not_lt, Int.not_le, Bool.and_eq_true, Bool.or_eq_true, Bool.and_eq_false_iff, Bool.or_eq_false_iff, Bool.not_eq_eq_eq_not, Bool.not_true, Bool.not_false, beq_iff_eq, bne_iff_ne, beq_eq_false_iff_ne, bne_eq_false_iff_eq, ne_eq, subL_length] at *) <;> first | omega | (refine (w64_id ?_ ?_).trans ?_ <;> omega) | (simp (disch := omega) only [w64_id] at *; omega) | (grind) | (simp_all; done) | (simp_all; omega))

theorem allongeref09_Name_fn (s : ByteArray) : FnA Tryz.prog 146 [sv s] [] (bv (allongeref09_Name s)) [] :=
  FnA.sk tok mixed (fun x => bv x) (fun _ => []) Tryz.func146 rfl (by kernel_rfl) 3000 (allongeref09_Name_sk s) (by kernel_rfl) (allongeref09_Name_ok s)
noncomputable def allongeref09_Name_k (s : ByteArray) : Ctr (Bool) := ⟨Tryz.prog, 146, [sv s], fun x => bv x, true, allongeref09_Name s, True, fun _ => allongeref09_Name_fn s, fun _ => True, trivial⟩
noncomputable def allongeref09_Before_sk (l : List ByteArray) (n : Int) (s : ByteArray) : Sk (Bool) :=
 .bind true (fun _ => True)
 (.loop (default : Sum (Bool) (Unit)) (fun i2 => i2 ≤ l.length) (fun i2 => l.length - i2) (0 : Nat)
 (fun (i2 : Nat) => ⟨[(7, iv ((i2 : Nat) : Int))], []⟩) fun i2 =>
 .bnd 0 0 l.length <|
 .br ((decide (((i2 : Nat) : Int) < n)) && (decide (((i2 : Nat) : Int) < ((l.length : Nat) : Int))))
 (.r 4 (.p (ixP ((i2 : Nat) : Int) l.length)) fun _ =>
 .br ((l.getD i2 default).toList == s.toList)
 (.fin (.inl (.inl true)))
 (.r 3 .z fun _ =>
 .wi 7 (w64 (((i2 : Nat) : Int) + 1)) ((i2 + 1 : Nat) : Int) <|
 .fin (.inr (i2 + 1))))
 (.fin (.inl (.inr ()))))
 (fun (_ : Unit) => ⟨[], []⟩) fun _ =>
 .fin false
noncomputable def allongeref09_Before (l : List ByteArray) (n : Int) (s : ByteArray) : Bool := (allongeref09_Before_sk l n s).val
theorem allongeref09_Before_ok (l : List ByteArray) (n : Int) (s : ByteArray) : (allongeref09_Before_sk l n s).obs (fun _ => True) := by
  refine Sk.obs_of _ ?_
  unfold allongeref09_Before_sk
  simp only [Sk.obq, Sk.isLoop, reduceCtorEq, leafB, leafJ, Cal.z, Cal.p, Cal.t, Cal.pt, Cal.o, Cal.and, Cal.andl, Cal.andr, Cal.wh, Cal.dep, Cal.depr, Ctr.c, Ctr.nil, Ctr.nilc, CtrO.c, CtrO.nil, maxLen, implies_true, true_and, and_true, and_self, true_implies, false_implies, ixP, szP, mkP]
  all_goals (repeat' first | assumption | (apply And.intro) | (intro h))
  all_goals first | trivial | assumption | omega | ((try simp only [decide_eq_true_eq, decide_eq_false_iff_not, List.length_append, List.length_cons, List.length_nil, List.length_set, List.length_replicate, Bool.not_eq_true, Bool.not_eq_false, Int.not_lt, Int.not_le, Bool.and_eq_true, Bool.or_eq_true, Bool.and_eq_false_iff, Bool.or_eq_false_iff, Bool.not_eq_eq_eq_not, Bool.not_true, Bool.not_false, beq_iff_eq, bne_iff_ne, beq_eq_false_iff_ne, bne_eq_false_iff_eq, ne_eq, subL_length] at *) <;> first | omega | (refine (w64_id ?_ ?_).trans ?_ <;> omega) | (simp (disch := omega) only [w64_id] at *; omega) | (grind) | (simp_all; done) | (simp_all; omega))

theorem allongeref09_Before_fn (l : List ByteArray) (n : Int) (s : ByteArray) : FnA Tryz.prog 147 [lv strC l, iv n, sv s] [] (bv (allongeref09_Before l n s)) [] :=
  FnA.sk tok mixed (fun x => bv x) (fun _ => []) Tryz.func147 rfl (by kernel_rfl) 3000 (allongeref09_Before_sk l n s) (by kernel_rfl) (allongeref09_Before_ok l n s)
noncomputable def allongeref09_Before_k (l : List ByteArray) (n : Int) (s : ByteArray) : Ctr (Bool) := ⟨Tryz.prog, 147, [lv strC l, iv n, sv s], fun x => bv x, true, allongeref09_Before l n s, True, fun _ => allongeref09_Before_fn l n s, fun _ => True, trivial⟩
noncomputable def allongeref09_named_sk (l : List ByteArray) (i : Int) : Sk (Int) :=
 .r 1 (.andl (.p (ixP i l.length)) ((allongeref09_Name_k (l.getD i.toNat default)).c)) fun x1 =>
 .br (!x1)
 (.fin 2)
 (.r 3 (.andl (.p (ixP i l.length)) ((allongeref09_Before_k l i (l.getD i.toNat default)).c)) fun x2 =>
 .br x2
 (.fin 5)
 (.fin 0))
noncomputable def allongeref09_named (l : List ByteArray) (i : Int) : Int := (allongeref09_named_sk l i).val
theorem allongeref09_named_ok (l : List ByteArray) (i : Int) (hi : 0 ≤ i ∧ i < (l.length : Int)) : (allongeref09_named_sk l i).obs (fun _ => True) := by
  refine Sk.obs_of _ ?_
  unfold allongeref09_named_sk
  simp only [Sk.obq, Sk.isLoop, reduceCtorEq, leafB, leafJ, Cal.z, Cal.p, Cal.t, Cal.pt, Cal.o, Cal.and, Cal.andl, Cal.andr, Cal.wh, Cal.dep, Cal.depr, Ctr.c, Ctr.nil, Ctr.nilc, CtrO.c, CtrO.nil, allongeref09_Before_k, allongeref09_Name_k, maxLen, implies_true, true_and, and_true, and_self, true_implies, false_implies, ixP, szP, mkP]
  all_goals (repeat' first | assumption | (apply And.intro) | (intro h))
  all_goals first | trivial | assumption | omega | ((try simp only [decide_eq_true_eq, decide_eq_false_iff_not, List.length_append, List.length_cons, List.length_nil, List.length_set, List.length_replicate, Bool.not_eq_true, Bool.not_eq_false, Int.not_lt, Int.not_le, Bool.and_eq_true, Bool.or_eq_true, Bool.and_eq_false_iff, Bool.or_eq_false_iff, Bool.not_eq_eq_eq_not, Bool.not_true, Bool.not_false, beq_iff_eq, bne_iff_ne, beq_eq_false_iff_ne, bne_eq_false_iff_eq, ne_eq, subL_length] at *) <;> first | omega | (refine (w64_id ?_ ?_).trans ?_ <;> omega) | (simp (disch := omega) only [w64_id] at *; omega) | (grind) | (simp_all; done) | (simp_all; omega))

theorem allongeref09_named_fn (l : List ByteArray) (i : Int) (hi : 0 ≤ i ∧ i < (l.length : Int)) : FnA Tryz.prog 105 [lv strC l, iv i] [] (iv (allongeref09_named l i)) [] :=
  FnA.sk tok mixed (fun x => iv x) (fun _ => []) Tryz.func105 rfl (by kernel_rfl) 3000 (allongeref09_named_sk l i) (by kernel_rfl) (allongeref09_named_ok l i hi)
noncomputable def allongeref09_named_k (l : List ByteArray) (i : Int) : Ctr (Int) := ⟨Tryz.prog, 105, [lv strC l, iv i], fun x => iv x, true, allongeref09_named l i, (0 ≤ i ∧ i < (l.length : Int)), fun h => allongeref09_named_fn l i h, fun _ => True, trivial⟩
noncomputable def allongeref09_Within_sk (n : Int) (low : Int) (high : Int) : Sk (Bool) :=
 .fin ((decide (low ≤ n)) && (decide (n ≤ high)))
noncomputable def allongeref09_Within (n : Int) (low : Int) (high : Int) : Bool := (allongeref09_Within_sk n low high).val
theorem allongeref09_Within_eq (n : Int) (low : Int) (high : Int) : allongeref09_Within n low high = ((decide (low ≤ n)) && (decide (n ≤ high))) := rfl
theorem allongeref09_Within_ok (n : Int) (low : Int) (high : Int) : (allongeref09_Within_sk n low high).obs (fun _ => True) := by
  refine Sk.obs_of _ ?_
  unfold allongeref09_Within_sk
  simp only [Sk.obq, Sk.isLoop, reduceCtorEq, leafB, leafJ, Cal.z, Cal.p, Cal.t, Cal.pt, Cal.o, Cal.and, Cal.andl, Cal.andr, Cal.wh, Cal.dep, Cal.depr, Ctr.c, Ctr.nil, Ctr.nilc, CtrO.c, CtrO.nil, maxLen, implies_true, true_and, and_true, and_self, true_implies, false_implies, ixP, szP, mkP]

theorem allongeref09_Within_fn (n : Int) (low : Int) (high : Int) : FnA Tryz.prog 107 [iv n, iv low, iv high] [] (bv (allongeref09_Within n low high)) [] :=
  FnA.sk tok mixed (fun x => bv x) (fun _ => []) Tryz.func107 rfl (by kernel_rfl) 3000 (allongeref09_Within_sk n low high) (by kernel_rfl) (allongeref09_Within_ok n low high)
noncomputable def allongeref09_Within_k (n : Int) (low : Int) (high : Int) : Ctr (Bool) := ⟨Tryz.prog, 107, [iv n, iv low, iv high], fun x => bv x, true, allongeref09_Within n low high, True, fun _ => allongeref09_Within_fn n low high, fun _ => True, trivial⟩
noncomputable def allongeref09_Rising_sk (l : List Int) (low : Int) (high : Int) : Sk (Bool) :=
 .bind true (fun _ => True)
 (.loop (default : Sum (Bool) (Unit)) (fun i2 => i2 ≤ l.length) (fun i2 => l.length - i2) (0 : Nat)
 (fun (i2 : Nat) => ⟨[(7, iv ((i2 : Nat) : Int))], []⟩) fun i2 =>
 .bnd 0 0 l.length <|
 .br (decide (((i2 : Nat) : Int) < ((l.length : Nat) : Int)))
 (.r 4 (.andl (.p (ixP ((i2 : Nat) : Int) l.length)) ((allongeref09_Within_k (l.getD i2 default) low high).c)) fun x3 =>
 .br (!x3)
 (.fin (.inl (.inl false)))
 (.r 6 (.andl (.wh (decide (((i2 : Nat) : Int) > 0)) true (.p (ixP (w64 (((i2 : Nat) : Int) - 1)) l.length))) (.wh (decide (((i2 : Nat) : Int) > 0)) true (.p (ixP ((i2 : Nat) : Int) l.length)))) fun _ =>
 .br ((decide (((i2 : Nat) : Int) > 0)) && (decide ((l.getD ((w64 (((i2 : Nat) : Int) - 1)).toNat) default) ≥ (l.getD i2 default))))
 (.fin (.inl (.inl false)))
 (.r 3 .z fun _ =>
 .wi 7 (w64 (((i2 : Nat) : Int) + 1)) ((i2 + 1 : Nat) : Int) <|
 .fin (.inr (i2 + 1)))))
 (.fin (.inl (.inr ()))))
 (fun (_ : Unit) => ⟨[], []⟩) fun _ =>
 .fin true
noncomputable def allongeref09_Rising (l : List Int) (low : Int) (high : Int) : Bool := (allongeref09_Rising_sk l low high).val
theorem allongeref09_Rising_ok (l : List Int) (low : Int) (high : Int) : (allongeref09_Rising_sk l low high).obs (fun _ => True) := by
  refine Sk.obs_of _ ?_
  unfold allongeref09_Rising_sk
  simp only [Sk.obq, Sk.isLoop, reduceCtorEq, leafB, leafJ, Cal.z, Cal.p, Cal.t, Cal.pt, Cal.o, Cal.and, Cal.andl, Cal.andr, Cal.wh, Cal.dep, Cal.depr, Ctr.c, Ctr.nil, Ctr.nilc, CtrO.c, CtrO.nil, allongeref09_Within_k, allongeref09_Within_eq, forall_eq, maxLen, implies_true, true_and, and_true, and_self, true_implies, false_implies, ixP, szP, mkP]
  all_goals (repeat' first | assumption | (apply And.intro) | (intro h))
  all_goals first | trivial | assumption | omega | ((try simp only [decide_eq_true_eq, decide_eq_false_iff_not, List.length_append, List.length_cons, List.length_nil, List.length_set, List.length_replicate, Bool.not_eq_true, Bool.not_eq_false, Int.not_lt, Int.not_le, Bool.and_eq_true, Bool.or_eq_true, Bool.and_eq_false_iff, Bool.or_eq_false_iff, Bool.not_eq_eq_eq_not, Bool.not_true, Bool.not_false, beq_iff_eq, bne_iff_ne, beq_eq_false_iff_ne, bne_eq_false_iff_eq, ne_eq, subL_length] at *) <;> first | omega | (refine (w64_id ?_ ?_).trans ?_ <;> omega) | (simp (disch := omega) only [w64_id] at *; omega) | (grind) | (simp_all; done) | (simp_all; omega))

theorem allongeref09_Rising_fn (l : List Int) (low : Int) (high : Int) : FnA Tryz.prog 148 [lv intC l, iv low, iv high] [] (bv (allongeref09_Rising l low high)) [] :=
  FnA.sk tok mixed (fun x => bv x) (fun _ => []) Tryz.func148 rfl (by kernel_rfl) 3000 (allongeref09_Rising_sk l low high) (by kernel_rfl) (allongeref09_Rising_ok l low high)
noncomputable def allongeref09_Rising_k (l : List Int) (low : Int) (high : Int) : Ctr (Bool) := ⟨Tryz.prog, 148, [lv intC l, iv low, iv high], fun x => bv x, true, allongeref09_Rising l low high, True, fun _ => allongeref09_Rising_fn l low high, fun _ => True, trivial⟩
noncomputable def allongeref09_RightCity_sk (r : Realm) (c_ : City) : Sk (Bool) :=
 .r 1 (.dep ((allongeref09_Within_k c_.order 0 (w64 (((r.orders.length : Nat) : Int) - 1))).c) fun x1 => .wh (!x1) false ((allongeref09_Within_k c_.currency 0 (w64 (((r.currencies.length : Nat) : Int) - 1))).c)) fun p12 =>
 .br ((((!p12.1) || (!p12.2)) || (decide (((c_.feasts.length : Nat) : Int) > 60))) || (decide (((c_.shut.length : Nat) : Int) > 200)))
 (.fin false)
 (.bind true (fun _ => True)
 (.loop (default : Sum (Bool) (Unit)) (fun i4 => i4 ≤ c_.feasts.length) (fun i4 => c_.feasts.length - i4) (0 : Nat)
 (fun (i4 : Nat) => ⟨[(5, iv ((i4 : Nat) : Int))], []⟩) fun i4 =>
 .bnd 3 4 c_.feasts.length <|
 .br (decide (((i4 : Nat) : Int) < ((c_.feasts.length : Nat) : Int)))
 (.r 6 (.andl (.p (ixP ((i4 : Nat) : Int) c_.feasts.length)) (.andl (.p ((100 : Int) ≠ 0)) (.dep ((allongeref09_Within_k (w64 ((c_.feasts.getD i4 default).tdiv 100)) 1 12).c) fun x5 => .andl (.wh (!x5) false (.p (ixP ((i4 : Nat) : Int) c_.feasts.length))) (.andl (.wh (!x5) false (.p ((100 : Int) ≠ 0))) (.wh (!x5) false ((allongeref09_Within_k ((c_.feasts.getD i4 default).tmod 100) 1 31).c)))))) fun p7 =>
 .br ((!p7.1) || (!p7.2))
 (.fin (.inl (.inl false)))
 (.r 5 .z fun _ =>
 .wi 5 (w64 (((i4 : Nat) : Int) + 1)) ((i4 + 1 : Nat) : Int) <|
 .fin (.inr (i4 + 1))))
 (.fin (.inl (.inr ()))))
 (fun (_ : Unit) => ⟨[], []⟩) fun _ =>
 .r 8 (.dep ((allongeref09_Rising_k c_.rest 0 6).c) fun x8 => .dep (.wh x8 true ((allongeref09_Rising_k c_.feasts 0 2000).c)) fun x9 => .wh (x8 && x9) true ((allongeref09_Rising_k c_.shut 0 100000).c)) fun p11 =>
 .fin ((p11.1 && p11.2.1) && p11.2.2))
noncomputable def allongeref09_RightCity (r : Realm) (c_ : City) : Bool := (allongeref09_RightCity_sk r c_).val
theorem allongeref09_RightCity_ok (r : Realm) (c_ : City) : (allongeref09_RightCity_sk r c_).obs (fun _ => True) := by
  refine Sk.obs_of _ ?_
  unfold allongeref09_RightCity_sk
  simp only [Sk.obq, Sk.isLoop, reduceCtorEq, leafB, leafJ, Cal.z, Cal.p, Cal.t, Cal.pt, Cal.o, Cal.and, Cal.andl, Cal.andr, Cal.wh, Cal.dep, Cal.depr, Ctr.c, Ctr.nil, Ctr.nilc, CtrO.c, CtrO.nil, allongeref09_Rising_k, allongeref09_Within_k, allongeref09_Within_eq, forall_eq, maxLen, implies_true, true_and, and_true, and_self, true_implies, false_implies, ixP, szP, mkP]
  all_goals (repeat' first | assumption | (apply And.intro) | (intro h))
  all_goals first | trivial | assumption | omega | ((try simp only [decide_eq_true_eq, decide_eq_false_iff_not, List.length_append, List.length_cons, List.length_nil, List.length_set, List.length_replicate, Bool.not_eq_true, Bool.not_eq_false, Int.not_lt, Int.not_le, Bool.and_eq_true, Bool.or_eq_true, Bool.and_eq_false_iff, Bool.or_eq_false_iff, Bool.not_eq_eq_eq_not, Bool.not_true, Bool.not_false, beq_iff_eq, bne_iff_ne, beq_eq_false_iff_ne, bne_eq_false_iff_eq, ne_eq, subL_length] at *) <;> first | omega | (refine (w64_id ?_ ?_).trans ?_ <;> omega) | (simp (disch := omega) only [w64_id] at *; omega) | (grind) | (simp_all; done) | (simp_all; omega))

theorem allongeref09_RightCity_fn (r : Realm) (c_ : City) : FnA Tryz.prog 106 [av r.cells, av c_.cells] [] (bv (allongeref09_RightCity r c_)) [] :=
  FnA.sk tok mixed (fun x => bv x) (fun _ => []) Tryz.func106 rfl (by kernel_rfl) 3000 (allongeref09_RightCity_sk r c_) (by kernel_rfl) (allongeref09_RightCity_ok r c_)
noncomputable def allongeref09_RightCity_k (r : Realm) (c_ : City) : Ctr (Bool) := ⟨Tryz.prog, 106, [av r.cells, av c_.cells], fun x => bv x, true, allongeref09_RightCity r c_, True, fun _ => allongeref09_RightCity_fn r c_, fun _ => True, trivial⟩
noncomputable def allongeref09_cities_sk (r : Realm) : Sk (Int) :=
 .br (decide (((r.currencies.length : Nat) : Int) > 8))
 (.fin 6)
 (.bind true (fun _ => True)
 (.loop (default : Sum (Int) (Unit)) (fun i2 => i2 ≤ r.currencies.length) (fun i2 => r.currencies.length - i2) (0 : Nat)
 (fun (i2 : Nat) => ⟨[(3, iv ((i2 : Nat) : Int))], []⟩) fun i2 =>
 .bnd 1 0 r.currencies.length <|
 .br (decide (((i2 : Nat) : Int) < ((r.currencies.length : Nat) : Int)))
 (.r 6 ((allongeref09_named_k r.currencies ((i2 : Nat) : Int)).c) fun x3 =>
 .br (x3 != 0)
 (.fin (.inl (.inl x3)))
 (.r 5 .z fun _ =>
 .wi 3 (w64 (((i2 : Nat) : Int) + 1)) ((i2 + 1 : Nat) : Int) <|
 .fin (.inr (i2 + 1))))
 (.fin (.inl (.inr ()))))
 (fun (_ : Unit) => ⟨[], []⟩) fun _ =>
 .br (decide (((r.cities.length : Nat) : Int) > 40))
 (.fin 6)
 (.bind true (fun _ => True)
 (.loop (default : Sum (Int) (Unit)) (fun i5 => i5.1.length = i5.2 ∧ i5.2 ≤ r.cities.length) (fun i5 => r.cities.length - i5.2) (([], 0) : (List ByteArray) × Nat)
 (fun (i5 : (List ByteArray) × Nat) => ⟨[(5, ow 100001 i5.1), (6, iv ((i5.2 : Nat) : Int))], [(100001, rowB 9 1 strC i5.1)]⟩) fun i5 =>
 .bnd 1 1 r.cities.length <|
 .br (decide (((i5.2 : Nat) : Int) < ((r.cities.length : Nat) : Int)))
 (.r 15 (.andl (.p (ixP ((i5.2 : Nat) : Int) r.cities.length)) (.andl (.o [.nrm (litC strE [(r.cities.getD i5.2 default).name])]) (.andl (.o [.nrm (catC strE i5.1 [(r.cities.getD i5.2 default).name])]) (.andl (.t (strE.ones [(r.cities.getD i5.2 default).name])) (.p (szP i5.1.length [(r.cities.getD i5.2 default).name].length 16)))))) fun _ =>
 .r 16 ((allongeref09_named_k (i5.1 ++ [(r.cities.getD i5.2 default).name]) ((i5.2 : Nat) : Int)).c) fun x6 =>
 .br (x6 != 0)
 (.fin (.inl (.inl x6)))
 (.r 19 (.andl (.p (ixP ((i5.2 : Nat) : Int) r.cities.length)) ((allongeref09_RightCity_k r (r.cities.getD i5.2 default)).c)) fun x7 =>
 .br (!x7)
 (.fin (.inl (.inl 1)))
 (.r 14 .z fun _ =>
 .wi 6 (w64 (((i5.2 : Nat) : Int) + 1)) ((i5.2 + 1 : Nat) : Int) <|
 .fin (.inr (i5.1 ++ [(r.cities.getD i5.2 default).name], i5.2 + 1)))))
 (.fin (.inl (.inr ()))))
 (fun (_ : Unit) => ⟨[], []⟩) fun _ =>
 .fin 0))
noncomputable def allongeref09_cities (r : Realm) : Int := (allongeref09_cities_sk r).val
theorem allongeref09_cities_ok (r : Realm) : (allongeref09_cities_sk r).obs (fun _ => True) := by
  refine Sk.obs_of _ ?_
  unfold allongeref09_cities_sk
  simp only [Sk.obq, Sk.isLoop, reduceCtorEq, leafB, leafJ, Cal.z, Cal.p, Cal.t, Cal.pt, Cal.o, Cal.and, Cal.andl, Cal.andr, Cal.wh, Cal.dep, Cal.depr, Ctr.c, Ctr.nil, Ctr.nilc, CtrO.c, CtrO.nil, allongeref09_RightCity_k, allongeref09_named_k, maxLen, implies_true, true_and, and_true, and_self, true_implies, false_implies, ixP, szP, mkP]
  all_goals (repeat' first | assumption | (apply And.intro) | (intro h))
  all_goals first | trivial | assumption | omega | ((try simp only [decide_eq_true_eq, decide_eq_false_iff_not, List.length_append, List.length_cons, List.length_nil, List.length_set, List.length_replicate, Bool.not_eq_true, Bool.not_eq_false, Int.not_lt, Int.not_le, Bool.and_eq_true, Bool.or_eq_true, Bool.and_eq_false_iff, Bool.or_eq_false_iff, Bool.not_eq_eq_eq_not, Bool.not_true, Bool.not_false, beq_iff_eq, bne_iff_ne, beq_eq_false_iff_ne, bne_eq_false_iff_eq, ne_eq, subL_length] at *) <;> first | omega | (refine (w64_id ?_ ?_).trans ?_ <;> omega) | (simp (disch := omega) only [w64_id] at *; omega) | (grind) | (simp_all; done) | (simp_all; omega))

theorem allongeref09_cities_fn (r : Realm) : FnA Tryz.prog 73 [av r.cells] [] (iv (allongeref09_cities r)) [] :=
  FnA.sk tok mixed (fun x => iv x) (fun _ => []) Tryz.func73 rfl (by kernel_rfl) 3000 (allongeref09_cities_sk r) (by kernel_rfl) (allongeref09_cities_ok r)
noncomputable def allongeref09_cities_k (r : Realm) : Ctr (Int) := ⟨Tryz.prog, 73, [av r.cells], fun x => iv x, true, allongeref09_cities r, True, fun _ => allongeref09_cities_fn r, fun _ => True, trivial⟩
noncomputable def allongeref09_firms_sk (r : Realm) : Sk (Int) :=
 .br (decide (((r.groups.length : Nat) : Int) > 20))
 (.fin 6)
 (.bind true (fun _ => True)
 (.loop (default : Sum (Int) (Unit)) (fun i2 => i2 ≤ r.groups.length) (fun i2 => r.groups.length - i2) (0 : Nat)
 (fun (i2 : Nat) => ⟨[(3, iv ((i2 : Nat) : Int))], []⟩) fun i2 =>
 .bnd 1 2 r.groups.length <|
 .br (decide (((i2 : Nat) : Int) < ((r.groups.length : Nat) : Int)))
 (.r 6 (.andl (.p (ixP ((i2 : Nat) : Int) r.groups.length)) ((allongeref09_Within_k ((r.groups.getD i2 default).grade) 0 9).c)) fun x3 =>
 .br (!x3)
 (.fin (.inl (.inl 1)))
 (.r 5 .z fun _ =>
 .wi 3 (w64 (((i2 : Nat) : Int) + 1)) ((i2 + 1 : Nat) : Int) <|
 .fin (.inr (i2 + 1))))
 (.fin (.inl (.inr ()))))
 (fun (_ : Unit) => ⟨[], []⟩) fun _ =>
 .br (decide (((r.firms.length : Nat) : Int) > 200))
 (.fin 6)
 (.bind true (fun _ => True)
 (.loop (default : Sum (Int) (Unit)) (fun i5 => i5.1.length = i5.2 ∧ i5.2 ≤ r.firms.length) (fun i5 => r.firms.length - i5.2) (([], 0) : (List ByteArray) × Nat)
 (fun (i5 : (List ByteArray) × Nat) => ⟨[(4, ow 100001 i5.1), (5, iv ((i5.2 : Nat) : Int))], [(100001, rowB 9 1 strC i5.1)]⟩) fun i5 =>
 .bnd 1 3 r.firms.length <|
 .br (decide (((i5.2 : Nat) : Int) < ((r.firms.length : Nat) : Int)))
 (.r 14 (.andl (.p (ixP ((i5.2 : Nat) : Int) r.firms.length)) (.andl (.o [.nrm (litC strE [(r.firms.getD i5.2 default).name])]) (.andl (.o [.nrm (catC strE i5.1 [(r.firms.getD i5.2 default).name])]) (.andl (.t (strE.ones [(r.firms.getD i5.2 default).name])) (.p (szP i5.1.length [(r.firms.getD i5.2 default).name].length 16)))))) fun _ =>
 .r 15 ((allongeref09_named_k (i5.1 ++ [(r.firms.getD i5.2 default).name]) ((i5.2 : Nat) : Int)).c) fun x6 =>
 .br (x6 != 0)
 (.fin (.inl (.inl x6)))
 (.r 18 (.andl (.p (ixP ((i5.2 : Nat) : Int) r.firms.length)) (.dep ((allongeref09_Within_k ((r.firms.getD i5.2 default).city) 0 (w64 (((r.cities.length : Nat) : Int) - 1))).c) fun x7 => .andl (.wh (!x7) false (.p (ixP ((i5.2 : Nat) : Int) r.firms.length))) (.wh (!x7) false ((allongeref09_Within_k ((r.firms.getD i5.2 default).group) 0 (w64 (((r.groups.length : Nat) : Int) - 1))).c)))) fun p9 =>
 .br ((!p9.1) || (!p9.2))
 (.fin (.inl (.inl 1)))
 (.r 13 .z fun _ =>
 .wi 5 (w64 (((i5.2 : Nat) : Int) + 1)) ((i5.2 + 1 : Nat) : Int) <|
 .fin (.inr (i5.1 ++ [(r.firms.getD i5.2 default).name], i5.2 + 1)))))
 (.fin (.inl (.inr ()))))
 (fun (_ : Unit) => ⟨[], []⟩) fun _ =>
 .fin 0))
noncomputable def allongeref09_firms (r : Realm) : Int := (allongeref09_firms_sk r).val
theorem allongeref09_firms_ok (r : Realm) : (allongeref09_firms_sk r).obs (fun _ => True) := by
  refine Sk.obs_of _ ?_
  unfold allongeref09_firms_sk
  simp only [Sk.obq, Sk.isLoop, reduceCtorEq, leafB, leafJ, Cal.z, Cal.p, Cal.t, Cal.pt, Cal.o, Cal.and, Cal.andl, Cal.andr, Cal.wh, Cal.dep, Cal.depr, Ctr.c, Ctr.nil, Ctr.nilc, CtrO.c, CtrO.nil, allongeref09_Within_k, allongeref09_named_k, allongeref09_Within_eq, forall_eq, maxLen, implies_true, true_and, and_true, and_self, true_implies, false_implies, ixP, szP, mkP]
  all_goals (repeat' first | assumption | (apply And.intro) | (intro h))
  all_goals first | trivial | assumption | omega | ((try simp only [decide_eq_true_eq, decide_eq_false_iff_not, List.length_append, List.length_cons, List.length_nil, List.length_set, List.length_replicate, Bool.not_eq_true, Bool.not_eq_false, Int.not_lt, Int.not_le, Bool.and_eq_true, Bool.or_eq_true, Bool.and_eq_false_iff, Bool.or_eq_false_iff, Bool.not_eq_eq_eq_not, Bool.not_true, Bool.not_false, beq_iff_eq, bne_iff_ne, beq_eq_false_iff_ne, bne_eq_false_iff_eq, ne_eq, subL_length] at *) <;> first | omega | (refine (w64_id ?_ ?_).trans ?_ <;> omega) | (simp (disch := omega) only [w64_id] at *; omega) | (grind) | (simp_all; done) | (simp_all; omega))

theorem allongeref09_firms_fn (r : Realm) : FnA Tryz.prog 74 [av r.cells] [] (iv (allongeref09_firms r)) [] :=
  FnA.sk tok mixed (fun x => iv x) (fun _ => []) Tryz.func74 rfl (by kernel_rfl) 3000 (allongeref09_firms_sk r) (by kernel_rfl) (allongeref09_firms_ok r)
noncomputable def allongeref09_firms_k (r : Realm) : Ctr (Int) := ⟨Tryz.prog, 74, [av r.cells], fun x => iv x, true, allongeref09_firms r, True, fun _ => allongeref09_firms_fn r, fun _ => True, trivial⟩
noncomputable def allongeref09_RightOrder_sk (o : Order) : Sk (Bool) :=
 .bind true (fun b1 => ∀ j, j < o.choices.length → 0 ≤ (o.choices.getD j default).by_ ∧ (o.choices.getD j default).by_ < 5)
 (.loop (default : Sum (Bool) (Unit)) (fun i2 => (∀ j, j < i2 → 0 ≤ (o.choices.getD j default).by_ ∧ (o.choices.getD j default).by_ < 5) ∧ i2 ≤ o.choices.length) (fun i2 => o.choices.length - i2) (0 : Nat)
 (fun (i2 : Nat) => ⟨[(3, iv ((i2 : Nat) : Int))], []⟩) fun i2 =>
 .bnd 1 2 o.choices.length <|
 .br (decide (((i2 : Nat) : Int) < ((o.choices.length : Nat) : Int)))
 (.r 4 (.andl (.p (ixP ((i2 : Nat) : Int) o.choices.length)) (.dep ((allongeref09_Within_k ((o.choices.getD i2 default).ask) 0 21).c) fun x3 => .andl (.wh (!x3) false (.p (ixP ((i2 : Nat) : Int) o.choices.length))) (.wh (!x3) false ((allongeref09_Within_k ((o.choices.getD i2 default).by_) 0 4).c)))) fun p5 =>
 .br ((!p5.1) || (!p5.2))
 (.fin (.inl (.inl false)))
 (.r 6 (.andl (.wh (decide (((i2 : Nat) : Int) > 0)) true (.p (ixP (w64 (((i2 : Nat) : Int) - 1)) o.choices.length))) (.wh (decide (((i2 : Nat) : Int) > 0)) true (.p (ixP ((i2 : Nat) : Int) o.choices.length)))) fun _ =>
 .br ((decide (((i2 : Nat) : Int) > 0)) && (decide (((o.choices.getD ((w64 (((i2 : Nat) : Int) - 1)).toNat) default).ask) ≥ ((o.choices.getD i2 default).ask))))
 (.fin (.inl (.inl false)))
 (.r 3 .z fun _ =>
 .wi 3 (w64 (((i2 : Nat) : Int) + 1)) ((i2 + 1 : Nat) : Int) <|
 .fin (.inr (i2 + 1)))))
 (.fin (.inl (.inr ()))))
 (fun (_ : Unit) => ⟨[], []⟩) fun _ =>
 .bind true (fun _ => True)
 (.loop (default : Sum (Bool) (Unit)) (fun i7 => i7 ≤ o.rules.length) (fun i7 => o.rules.length - i7) (0 : Nat)
 (fun (i7 : Nat) => ⟨[(4, iv ((i7 : Nat) : Int))], []⟩) fun i7 =>
 .bnd 1 3 o.rules.length <|
 .br (decide (((i7 : Nat) : Int) < ((o.rules.length : Nat) : Int)))
 (.r 11 (.andl (.p (ixP ((i7 : Nat) : Int) o.rules.length)) ((allongeref09_Within_k ((o.rules.getD i7 default).ask) 0 21).c)) fun x8 =>
 .br (!x8)
 (.fin (.inl (.inl false)))
 (.r 13 (.andl (.wh (decide (((i7 : Nat) : Int) > 0)) true (.p (ixP (w64 (((i7 : Nat) : Int) - 1)) o.rules.length))) (.wh (decide (((i7 : Nat) : Int) > 0)) true (.p (ixP ((i7 : Nat) : Int) o.rules.length)))) fun _ =>
 .br ((decide (((i7 : Nat) : Int) > 0)) && (decide (((o.rules.getD ((w64 (((i7 : Nat) : Int) - 1)).toNat) default).ask) ≥ ((o.rules.getD i7 default).ask))))
 (.fin (.inl (.inl false)))
 (.r 10 .z fun _ =>
 .wi 4 (w64 (((i7 : Nat) : Int) + 1)) ((i7 + 1 : Nat) : Int) <|
 .fin (.inr (i7 + 1)))))
 (.fin (.inl (.inr ()))))
 (fun (_ : Unit) => ⟨[], []⟩) fun _ =>
 .fin true
noncomputable def allongeref09_RightOrder (o : Order) : Bool := (allongeref09_RightOrder_sk o).val
theorem allongeref09_RightOrder_pst (o : Order) : (allongeref09_RightOrder_sk o).pst (fun (x : Bool) => x = true → ∀ j, j < o.choices.length → 0 ≤ (o.choices.getD j default).by_ ∧ (o.choices.getD j default).by_ < 5) := by
  refine Sk.pst_of _ ?_
  unfold allongeref09_RightOrder_sk
  simp only [Sk.pstq, Sk.isLoop, reduceCtorEq, leafB, leafJ, Cal.z, Cal.p, Cal.t, Cal.pt, Cal.o, Cal.and, Cal.andl, Cal.andr, Cal.wh, Cal.dep, Cal.depr, Ctr.c, Ctr.nil, Ctr.nilc, CtrO.c, CtrO.nil, allongeref09_Within_k, allongeref09_Within_eq, forall_eq, maxLen, implies_true, true_and, and_true, and_self, true_implies, false_implies, ixP, szP, mkP]
  all_goals (repeat' first | assumption | (apply And.intro) | (intro h))
  all_goals first | trivial | assumption | omega | ((try simp only [decide_eq_true_eq, decide_eq_false_iff_not, List.length_append, List.length_cons, List.length_nil, List.length_set, List.length_replicate, Bool.not_eq_true, Bool.not_eq_false, Int.not_lt, Int.not_le, Bool.and_eq_true, Bool.or_eq_true, Bool.and_eq_false_iff, Bool.or_eq_false_iff, Bool.not_eq_eq_eq_not, Bool.not_true, Bool.not_false, beq_iff_eq, bne_iff_ne, beq_eq_false_iff_ne, bne_eq_false_iff_eq, ne_eq, subL_length] at *) <;> first | omega | (refine (w64_id ?_ ?_).trans ?_ <;> omega) | (simp (disch := omega) only [w64_id] at *; omega) | (grind) | (simp_all; done) | (simp_all; omega))

theorem allongeref09_RightOrder_post (o : Order) : (fun (x : Bool) => x = true → ∀ j, j < o.choices.length → 0 ≤ (o.choices.getD j default).by_ ∧ (o.choices.getD j default).by_ < 5) (allongeref09_RightOrder o) := Sk.pval _ (allongeref09_RightOrder_pst o)
theorem allongeref09_RightOrder_ok (o : Order) : (allongeref09_RightOrder_sk o).obs (fun _ => True) := by
  refine Sk.obs_of _ ?_
  unfold allongeref09_RightOrder_sk
  simp only [Sk.obq, Sk.isLoop, reduceCtorEq, leafB, leafJ, Cal.z, Cal.p, Cal.t, Cal.pt, Cal.o, Cal.and, Cal.andl, Cal.andr, Cal.wh, Cal.dep, Cal.depr, Ctr.c, Ctr.nil, Ctr.nilc, CtrO.c, CtrO.nil, allongeref09_Within_k, allongeref09_Within_eq, forall_eq, maxLen, implies_true, true_and, and_true, and_self, true_implies, false_implies, ixP, szP, mkP]
  all_goals (repeat' first | assumption | (apply And.intro) | (intro h))
  all_goals first | trivial | assumption | omega | ((try simp only [decide_eq_true_eq, decide_eq_false_iff_not, List.length_append, List.length_cons, List.length_nil, List.length_set, List.length_replicate, Bool.not_eq_true, Bool.not_eq_false, Int.not_lt, Int.not_le, Bool.and_eq_true, Bool.or_eq_true, Bool.and_eq_false_iff, Bool.or_eq_false_iff, Bool.not_eq_eq_eq_not, Bool.not_true, Bool.not_false, beq_iff_eq, bne_iff_ne, beq_eq_false_iff_ne, bne_eq_false_iff_eq, ne_eq, subL_length] at *) <;> first | omega | (refine (w64_id ?_ ?_).trans ?_ <;> omega) | (simp (disch := omega) only [w64_id] at *; omega) | (grind) | (simp_all; done) | (simp_all; omega))

theorem allongeref09_RightOrder_fn (o : Order) : FnA Tryz.prog 108 [av o.cells] [] (bv (allongeref09_RightOrder o)) [] :=
  FnA.sk tok mixed (fun x => bv x) (fun _ => []) Tryz.func108 rfl (by kernel_rfl) 3000 (allongeref09_RightOrder_sk o) (by kernel_rfl) (allongeref09_RightOrder_ok o)
noncomputable def allongeref09_RightOrder_k (o : Order) : Ctr (Bool) := ⟨Tryz.prog, 108, [av o.cells], fun x => bv x, true, allongeref09_RightOrder o, True, fun _ => allongeref09_RightOrder_fn o, fun (x : Bool) => x = true → ∀ j, j < o.choices.length → 0 ≤ (o.choices.getD j default).by_ ∧ (o.choices.getD j default).by_ < 5, allongeref09_RightOrder_post o⟩
noncomputable def allongeref09_orders_sk (r : Realm) : Sk (Int) :=
 .br (decide (((r.orders.length : Nat) : Int) > 20))
 (.fin 6)
 (.bind true (fun b1 => r.ByOK)
 (.loop (default : Sum (Int) (Unit)) (fun i2 => i2.1.length = i2.2 ∧ i2.2 ≤ r.orders.length ∧ (∀ i j, i < i2.2 → j < (r.orders.getD i default).choices.length → 0 ≤ ((r.orders.getD i default).choices.getD j default).by_ ∧ ((r.orders.getD i default).choices.getD j default).by_ < 5)) (fun i2 => r.orders.length - i2.2) (([], 0) : (List ByteArray) × Nat)
 (fun (i2 : (List ByteArray) × Nat) => ⟨[(3, ow 100001 i2.1), (4, iv ((i2.2 : Nat) : Int))], [(100001, rowB 9 1 strC i2.1)]⟩) fun i2 =>
 .bnd 1 4 r.orders.length <|
 .br (decide (((i2.2 : Nat) : Int) < ((r.orders.length : Nat) : Int)))
 (.r 7 (.andl (.p (ixP ((i2.2 : Nat) : Int) r.orders.length)) (.andl (.o [.nrm (litC strE [(r.orders.getD i2.2 default).name])]) (.andl (.o [.nrm (catC strE i2.1 [(r.orders.getD i2.2 default).name])]) (.andl (.t (strE.ones [(r.orders.getD i2.2 default).name])) (.p (szP i2.1.length [(r.orders.getD i2.2 default).name].length 16)))))) fun _ =>
 .r 8 ((allongeref09_named_k (i2.1 ++ [(r.orders.getD i2.2 default).name]) ((i2.2 : Nat) : Int)).c) fun x3 =>
 .br (x3 != 0)
 (.fin (.inl (.inl x3)))
 (.r 11 (.andl (.p (ixP ((i2.2 : Nat) : Int) r.orders.length)) ((allongeref09_RightOrder_k (r.orders.getD i2.2 default)).c)) fun x4 =>
 .br (!x4)
 (.fin (.inl (.inl 1)))
 (.r 6 .z fun _ =>
 .wi 4 (w64 (((i2.2 : Nat) : Int) + 1)) ((i2.2 + 1 : Nat) : Int) <|
 .fin (.inr (i2.1 ++ [(r.orders.getD i2.2 default).name], i2.2 + 1)))))
 (.fin (.inl (.inr ()))))
 (fun (_ : Unit) => ⟨[], []⟩) fun _ =>
 .fin 0)
noncomputable def allongeref09_orders (r : Realm) : Int := (allongeref09_orders_sk r).val
theorem allongeref09_orders_pst (r : Realm) : (allongeref09_orders_sk r).pst (fun (x : Int) => x = 0 → r.ByOK) := by
  refine Sk.pst_of _ ?_
  unfold allongeref09_orders_sk
  simp only [Sk.pstq, Sk.isLoop, reduceCtorEq, leafB, leafJ, Cal.z, Cal.p, Cal.t, Cal.pt, Cal.o, Cal.and, Cal.andl, Cal.andr, Cal.wh, Cal.dep, Cal.depr, Ctr.c, Ctr.nil, Ctr.nilc, CtrO.c, CtrO.nil, allongeref09_RightOrder_k, allongeref09_named_k, Realm.ByOK, maxLen, implies_true, true_and, and_true, and_self, true_implies, false_implies, ixP, szP, mkP]
  all_goals (repeat' first | assumption | (apply And.intro) | (intro h))
  all_goals first | trivial | assumption | omega | ((try simp only [decide_eq_true_eq, decide_eq_false_iff_not, List.length_append, List.length_cons, List.length_nil, List.length_set, List.length_replicate, Bool.not_eq_true, Bool.not_eq_false, Int.not_lt, Int.not_le, Bool.and_eq_true, Bool.or_eq_true, Bool.and_eq_false_iff, Bool.or_eq_false_iff, Bool.not_eq_eq_eq_not, Bool.not_true, Bool.not_false, beq_iff_eq, bne_iff_ne, beq_eq_false_iff_ne, bne_eq_false_iff_eq, ne_eq, subL_length] at *) <;> first | omega | (refine (w64_id ?_ ?_).trans ?_ <;> omega) | (simp (disch := omega) only [w64_id] at *; omega) | (grind) | (simp_all; done) | (simp_all; omega))

theorem allongeref09_orders_post (r : Realm) : (fun (x : Int) => x = 0 → r.ByOK) (allongeref09_orders r) := Sk.pval _ (allongeref09_orders_pst r)
theorem allongeref09_orders_ok (r : Realm) : (allongeref09_orders_sk r).obs (fun _ => True) := by
  refine Sk.obs_of _ ?_
  unfold allongeref09_orders_sk
  simp only [Sk.obq, Sk.isLoop, reduceCtorEq, leafB, leafJ, Cal.z, Cal.p, Cal.t, Cal.pt, Cal.o, Cal.and, Cal.andl, Cal.andr, Cal.wh, Cal.dep, Cal.depr, Ctr.c, Ctr.nil, Ctr.nilc, CtrO.c, CtrO.nil, allongeref09_RightOrder_k, allongeref09_named_k, Realm.ByOK, maxLen, implies_true, true_and, and_true, and_self, true_implies, false_implies, ixP, szP, mkP]
  all_goals (repeat' first | assumption | (apply And.intro) | (intro h))
  all_goals first | trivial | assumption | omega | ((try simp only [decide_eq_true_eq, decide_eq_false_iff_not, List.length_append, List.length_cons, List.length_nil, List.length_set, List.length_replicate, Bool.not_eq_true, Bool.not_eq_false, Int.not_lt, Int.not_le, Bool.and_eq_true, Bool.or_eq_true, Bool.and_eq_false_iff, Bool.or_eq_false_iff, Bool.not_eq_eq_eq_not, Bool.not_true, Bool.not_false, beq_iff_eq, bne_iff_ne, beq_eq_false_iff_ne, bne_eq_false_iff_eq, ne_eq, subL_length] at *) <;> first | omega | (refine (w64_id ?_ ?_).trans ?_ <;> omega) | (simp (disch := omega) only [w64_id] at *; omega) | (grind) | (simp_all; done) | (simp_all; omega))

theorem allongeref09_orders_fn (r : Realm) : FnA Tryz.prog 75 [av r.cells] [] (iv (allongeref09_orders r)) [] :=
  FnA.sk tok mixed (fun x => iv x) (fun _ => []) Tryz.func75 rfl (by kernel_rfl) 3000 (allongeref09_orders_sk r) (by kernel_rfl) (allongeref09_orders_ok r)
noncomputable def allongeref09_orders_k (r : Realm) : Ctr (Int) := ⟨Tryz.prog, 75, [av r.cells], fun x => iv x, true, allongeref09_orders r, True, fun _ => allongeref09_orders_fn r, fun (x : Int) => x = 0 → r.ByOK, allongeref09_orders_post r⟩
noncomputable def allongeref09_usances_sk (r : Realm) : Sk (Int) :=
 .br (decide (((r.usances.length : Nat) : Int) > 100))
 (.fin 6)
 (.bind true (fun _ => True)
 (.loop (default : Sum (Int) (Unit)) (fun i2 => i2 ≤ r.usances.length) (fun i2 => r.usances.length - i2) (0 : Nat)
 (fun (i2 : Nat) => ⟨[(3, iv ((i2 : Nat) : Int))], []⟩) fun i2 =>
 .bnd 1 5 r.usances.length <|
 .br (decide (((i2 : Nat) : Int) < ((r.usances.length : Nat) : Int)))
 (.bind true (fun _ => True)
 (.r 6 (.p (ixP ((i2 : Nat) : Int) r.usances.length)) fun _ =>
 .r 7 (.dep ((allongeref09_Within_k ((r.usances.getD i2 default).from_) 0 (w64 (((r.cities.length : Nat) : Int) - 1))).c) fun x4 => .dep (.wh (!x4) false ((allongeref09_Within_k ((r.usances.getD i2 default).to_) 0 (w64 (((r.cities.length : Nat) : Int) - 1))).c)) fun x5 => .wh ((!x4) || (!x5)) false ((allongeref09_Within_k ((r.usances.getD i2 default).days) 1 20000).c)) fun p9 =>
 .br (((!p9.1) || (!p9.2.1)) || (!p9.2.2))
 (.fin (.inl (.inl (.inl 1))))
 (.bind true (fun _ => True)
 (.loop (default : Sum (Sum (Sum (Sum (Int) (Unit)) (Nat)) (Int × (List Usance) × Int × Usance × Int × (List City) × Int × Int × Bool × Bool × Bool × Bool × Bool × Bool × Int × Int × Bool)) (Int × Int × Int × Bool)) (fun i8 => i8 ≤ i2) (fun i8 => i2 - i8) (0 : Nat)
 (fun (i8 : Nat) => ⟨[(5, iv ((i8 : Nat) : Int))], []⟩) fun i8 =>
 .br (decide (((i8 : Nat) : Int) < ((i2 : Nat) : Int)))
 (.r 12 (.andl (.p (ixP ((i8 : Nat) : Int) r.usances.length)) (.wh (((r.usances.getD i8 default).from_) == ((r.usances.getD i2 default).from_)) true (.p (ixP ((i8 : Nat) : Int) r.usances.length)))) fun _ =>
 .br ((((r.usances.getD i8 default).from_) == ((r.usances.getD i2 default).from_)) && (((r.usances.getD i8 default).to_) == ((r.usances.getD i2 default).to_)))
 (.fin (.inl (.inl (.inl (.inl (.inl 5))))))
 (.r 11 .z fun _ =>
 .wi 5 (w64 (((i8 : Nat) : Int) + 1)) ((i8 + 1 : Nat) : Int) <|
 .fin (.inr (i8 + 1))))
 (.fin (.inl (.inr (((i8 : Nat) : Int), ((i8 : Nat) : Int), ((i2 : Nat) : Int), decide (((i8 : Nat) : Int) < ((i2 : Nat) : Int)))))))
 (fun (b7 : Int × Int × Int × Bool) => ⟨[(5, iv b7.1), (46, iv b7.2.1), (47, iv b7.2.2.1), (48, bv b7.2.2.2)], []⟩) fun b7 =>
 .fin (.inr (b7.1, r.usances, ((i2 : Nat) : Int), r.usances.getD i2 default, (r.usances.getD i2 default).from_, r.cities, ((r.cities.length : Nat) : Int), w64 (((r.cities.length : Nat) : Int) - 1), p9.1, !p9.1, !p9.1, (!p9.1) || (!p9.2.1), (!p9.1) || (!p9.2.1), ((!p9.1) || (!p9.2.1)) || (!p9.2.2), b7.2.1, b7.2.2.1, b7.2.2.2))))
 (fun (b3 : Int × (List Usance) × Int × Usance × Int × (List City) × Int × Int × Bool × Bool × Bool × Bool × Bool × Bool × Int × Int × Bool) => ⟨[(5, iv b3.1), (18, lv Usance.cells b3.2.1), (19, iv b3.2.2.1), (21, av b3.2.2.2.1.cells), (23, iv b3.2.2.2.2.1), (25, lv City.cells b3.2.2.2.2.2.1), (26, iv b3.2.2.2.2.2.2.1), (27, iv b3.2.2.2.2.2.2.2.1), (28, bv b3.2.2.2.2.2.2.2.2.1), (29, bv b3.2.2.2.2.2.2.2.2.2.1), (30, bv b3.2.2.2.2.2.2.2.2.2.2.1), (39, bv b3.2.2.2.2.2.2.2.2.2.2.2.1), (40, bv b3.2.2.2.2.2.2.2.2.2.2.2.2.1), (45, bv b3.2.2.2.2.2.2.2.2.2.2.2.2.2.1), (46, iv b3.2.2.2.2.2.2.2.2.2.2.2.2.2.2.1), (47, iv b3.2.2.2.2.2.2.2.2.2.2.2.2.2.2.2.1), (48, bv b3.2.2.2.2.2.2.2.2.2.2.2.2.2.2.2.2)], []⟩) fun _ =>
 .r 5 .z fun _ =>
 .wi 3 (w64 (((i2 : Nat) : Int) + 1)) ((i2 + 1 : Nat) : Int) <|
 .fin (.inr (i2 + 1)))
 (.fin (.inl (.inr ()))))
 (fun (_ : Unit) => ⟨[], []⟩) fun _ =>
 .fin 0)
noncomputable def allongeref09_usances (r : Realm) : Int := (allongeref09_usances_sk r).val
theorem allongeref09_usances_ok (r : Realm) : (allongeref09_usances_sk r).obs (fun _ => True) := by
  refine Sk.obs_of _ ?_
  unfold allongeref09_usances_sk
  simp only [Sk.obq, Sk.isLoop, reduceCtorEq, leafB, leafJ, Cal.z, Cal.p, Cal.t, Cal.pt, Cal.o, Cal.and, Cal.andl, Cal.andr, Cal.wh, Cal.dep, Cal.depr, Ctr.c, Ctr.nil, Ctr.nilc, CtrO.c, CtrO.nil, allongeref09_Within_k, allongeref09_Within_eq, forall_eq, maxLen, implies_true, true_and, and_true, and_self, true_implies, false_implies, ixP, szP, mkP]
  all_goals (repeat' first | assumption | (apply And.intro) | (intro h))
  all_goals first | trivial | assumption | omega | ((try simp only [decide_eq_true_eq, decide_eq_false_iff_not, List.length_append, List.length_cons, List.length_nil, List.length_set, List.length_replicate, Bool.not_eq_true, Bool.not_eq_false, Int.not_lt, Int.not_le, Bool.and_eq_true, Bool.or_eq_true, Bool.and_eq_false_iff, Bool.or_eq_false_iff, Bool.not_eq_eq_eq_not, Bool.not_true, Bool.not_false, beq_iff_eq, bne_iff_ne, beq_eq_false_iff_ne, bne_eq_false_iff_eq, ne_eq, subL_length] at *) <;> first | omega | (refine (w64_id ?_ ?_).trans ?_ <;> omega) | (simp (disch := omega) only [w64_id] at *; omega) | (grind) | (simp_all; done) | (simp_all; omega))

theorem allongeref09_usances_fn (r : Realm) : FnA Tryz.prog 76 [av r.cells] [] (iv (allongeref09_usances r)) [] :=
  FnA.sk tok mixed (fun x => iv x) (fun _ => []) Tryz.func76 rfl (by kernel_rfl) 3000 (allongeref09_usances_sk r) (by kernel_rfl) (allongeref09_usances_ok r)
noncomputable def allongeref09_usances_k (r : Realm) : Ctr (Int) := ⟨Tryz.prog, 76, [av r.cells], fun x => iv x, true, allongeref09_usances r, True, fun _ => allongeref09_usances_fn r, fun _ => True, trivial⟩
noncomputable def allongeref09_others_sk (r : Realm) : Sk (Int) :=
 .br (decide (((r.rates.length : Nat) : Int) > 100))
 (.fin 6)
 (.bind true (fun _ => True)
 (.loop (default : Sum (Int) (Unit)) (fun i2 => i2 ≤ r.rates.length) (fun i2 => r.rates.length - i2) (0 : Nat)
 (fun (i2 : Nat) => ⟨[(3, iv ((i2 : Nat) : Int))], []⟩) fun i2 =>
 .bnd 1 6 r.rates.length <|
 .br (decide (((i2 : Nat) : Int) < ((r.rates.length : Nat) : Int)))
 (.r 6 (.p (ixP ((i2 : Nat) : Int) r.rates.length)) fun _ =>
 .r 7 (.dep ((allongeref09_Within_k ((r.rates.getD i2 default).from_) 0 (w64 (((r.currencies.length : Nat) : Int) - 1))).c) fun x3 => .wh (!x3) false ((allongeref09_Within_k ((r.rates.getD i2 default).to_) 0 (w64 (((r.currencies.length : Nat) : Int) - 1))).c)) fun p9 =>
 .br (((!p9.1) || (!p9.2)) || (((r.rates.getD i2 default).from_) == ((r.rates.getD i2 default).to_)))
 (.fin (.inl (.inl 1)))
 (.r 9 (.dep ((allongeref09_Within_k ((r.rates.getD i2 default).num) 1 1073741824).c) fun x5 => .dep (.wh (!x5) false ((allongeref09_Within_k ((r.rates.getD i2 default).den) 1 1073741824).c)) fun x6 => .wh ((!x5) || (!x6)) false ((allongeref09_Within_k ((r.rates.getD i2 default).since) 0 100000).c)) fun p8 =>
 .br (((!p8.1) || (!p8.2.1)) || (!p8.2.2))
 (.fin (.inl (.inl 1)))
 (.r 5 .z fun _ =>
 .wi 3 (w64 (((i2 : Nat) : Int) + 1)) ((i2 + 1 : Nat) : Int) <|
 .fin (.inr (i2 + 1)))))
 (.fin (.inl (.inr ()))))
 (fun (_ : Unit) => ⟨[], []⟩) fun _ =>
 .br (decide (((r.halts.length : Nat) : Int) > 20))
 (.fin 6)
 (.bind true (fun _ => True)
 (.loop (default : Sum (Int) (Unit)) (fun i11 => i11 ≤ r.halts.length) (fun i11 => r.halts.length - i11) (0 : Nat)
 (fun (i11 : Nat) => ⟨[(5, iv ((i11 : Nat) : Int))], []⟩) fun i11 =>
 .bnd 1 7 r.halts.length <|
 .br (decide (((i11 : Nat) : Int) < ((r.halts.length : Nat) : Int)))
 (.r 16 (.p (ixP ((i11 : Nat) : Int) r.halts.length)) fun _ =>
 .r 17 (.dep ((allongeref09_Within_k ((r.halts.getD i11 default).order) 0 (w64 (((r.orders.length : Nat) : Int) - 1))).c) fun x12 => .wh (!x12) false ((allongeref09_Within_k ((r.halts.getD i11 default).from_) 0 ((r.halts.getD i11 default).to_)).c)) fun p14 =>
 .br (((!p14.1) || (!p14.2)) || (decide (((r.halts.getD i11 default).to_) > 100000)))
 (.fin (.inl (.inl 1)))
 (.r 15 .z fun _ =>
 .wi 5 (w64 (((i11 : Nat) : Int) + 1)) ((i11 + 1 : Nat) : Int) <|
 .fin (.inr (i11 + 1))))
 (.fin (.inl (.inr ()))))
 (fun (_ : Unit) => ⟨[], []⟩) fun _ =>
 .fin 0))
noncomputable def allongeref09_others (r : Realm) : Int := (allongeref09_others_sk r).val
theorem allongeref09_others_ok (r : Realm) : (allongeref09_others_sk r).obs (fun _ => True) := by
  refine Sk.obs_of _ ?_
  unfold allongeref09_others_sk
  simp only [Sk.obq, Sk.isLoop, reduceCtorEq, leafB, leafJ, Cal.z, Cal.p, Cal.t, Cal.pt, Cal.o, Cal.and, Cal.andl, Cal.andr, Cal.wh, Cal.dep, Cal.depr, Ctr.c, Ctr.nil, Ctr.nilc, CtrO.c, CtrO.nil, allongeref09_Within_k, allongeref09_Within_eq, forall_eq, maxLen, implies_true, true_and, and_true, and_self, true_implies, false_implies, ixP, szP, mkP]
  all_goals (repeat' first | assumption | (apply And.intro) | (intro h))
  all_goals first | trivial | assumption | omega | ((try simp only [decide_eq_true_eq, decide_eq_false_iff_not, List.length_append, List.length_cons, List.length_nil, List.length_set, List.length_replicate, Bool.not_eq_true, Bool.not_eq_false, Int.not_lt, Int.not_le, Bool.and_eq_true, Bool.or_eq_true, Bool.and_eq_false_iff, Bool.or_eq_false_iff, Bool.not_eq_eq_eq_not, Bool.not_true, Bool.not_false, beq_iff_eq, bne_iff_ne, beq_eq_false_iff_ne, bne_eq_false_iff_eq, ne_eq, subL_length] at *) <;> first | omega | (refine (w64_id ?_ ?_).trans ?_ <;> omega) | (simp (disch := omega) only [w64_id] at *; omega) | (grind) | (simp_all; done) | (simp_all; omega))

theorem allongeref09_others_fn (r : Realm) : FnA Tryz.prog 77 [av r.cells] [] (iv (allongeref09_others r)) [] :=
  FnA.sk tok mixed (fun x => iv x) (fun _ => []) Tryz.func77 rfl (by kernel_rfl) 3000 (allongeref09_others_sk r) (by kernel_rfl) (allongeref09_others_ok r)
noncomputable def allongeref09_others_k (r : Realm) : Ctr (Int) := ⟨Tryz.prog, 77, [av r.cells], fun x => iv x, true, allongeref09_others r, True, fun _ => allongeref09_others_fn r, fun _ => True, trivial⟩
noncomputable def allongeref09_Check_sk (r : Realm) : Sk (Int) :=
 .r 1 ((allongeref09_cities_k r).c) fun x1 =>
 .bind false (fun _ => True)
 (.br (x1 == 0)
 (.r 3 ((allongeref09_firms_k r).c) fun x3 =>
 .fin (.inr x3))
 (.fin (.inr x1)))
 (fun (b2 : Int) => ⟨[(3, iv b2)], []⟩) fun b2 =>
 .bind false (fun b4 => b4 = 0 → r.ByOK)
 (.br (b2 == 0)
 (.r 5 ((allongeref09_orders_k r).c) fun x5 =>
 .fin (.inr x5))
 (.fin (.inr b2)))
 (fun (b4 : Int) => ⟨[(3, iv b4)], []⟩) fun b4 =>
 .bind false (fun b6 => b6 = 0 → r.ByOK)
 (.br (b4 == 0)
 (.r 7 ((allongeref09_usances_k r).c) fun x7 =>
 .fin (.inr x7))
 (.fin (.inr b4)))
 (fun (b6 : Int) => ⟨[(3, iv b6)], []⟩) fun b6 =>
 .br (b6 == 0)
 (.r 9 ((allongeref09_others_k r).c) fun x8 =>
 .fin x8)
 (.fin b6)
noncomputable def allongeref09_Check (r : Realm) : Int := (allongeref09_Check_sk r).val
theorem allongeref09_Check_pst (r : Realm) : (allongeref09_Check_sk r).pst (fun (x : Int) => x = 0 → r.ByOK) := by
  refine Sk.pst_of _ ?_
  unfold allongeref09_Check_sk
  simp only [Sk.pstq, Sk.isLoop, reduceCtorEq, leafB, leafJ, Cal.z, Cal.p, Cal.t, Cal.pt, Cal.o, Cal.and, Cal.andl, Cal.andr, Cal.wh, Cal.dep, Cal.depr, Ctr.c, Ctr.nil, Ctr.nilc, CtrO.c, CtrO.nil, allongeref09_cities_k, allongeref09_firms_k, allongeref09_orders_k, allongeref09_others_k, allongeref09_usances_k, Realm.ByOK, maxLen, implies_true, true_and, and_true, and_self, true_implies, false_implies, ixP, szP, mkP]
  all_goals (repeat' first | assumption | (apply And.intro) | (intro h))
  all_goals first | trivial | assumption | omega | ((try simp only [decide_eq_true_eq, decide_eq_false_iff_not, List.length_append, List.length_cons, List.length_nil, List.length_set, List.length_replicate, Bool.not_eq_true, Bool.not_eq_false, Int.not_lt, Int.not_le, Bool.and_eq_true, Bool.or_eq_true, Bool.and_eq_false_iff, Bool.or_eq_false_iff, Bool.not_eq_eq_eq_not, Bool.not_true, Bool.not_false, beq_iff_eq, bne_iff_ne, beq_eq_false_iff_ne, bne_eq_false_iff_eq, ne_eq, subL_length] at *) <;> first | omega | (refine (w64_id ?_ ?_).trans ?_ <;> omega) | (simp (disch := omega) only [w64_id] at *; omega) | (grind) | (simp_all; done) | (simp_all; omega))

theorem allongeref09_Check_post (r : Realm) : (fun (x : Int) => x = 0 → r.ByOK) (allongeref09_Check r) := Sk.pval _ (allongeref09_Check_pst r)
theorem allongeref09_Check_ok (r : Realm) : (allongeref09_Check_sk r).obs (fun _ => True) := by
  refine Sk.obs_of _ ?_
  unfold allongeref09_Check_sk
  simp only [Sk.obq, Sk.isLoop, reduceCtorEq, leafB, leafJ, Cal.z, Cal.p, Cal.t, Cal.pt, Cal.o, Cal.and, Cal.andl, Cal.andr, Cal.wh, Cal.dep, Cal.depr, Ctr.c, Ctr.nil, Ctr.nilc, CtrO.c, CtrO.nil, allongeref09_cities_k, allongeref09_firms_k, allongeref09_orders_k, allongeref09_others_k, allongeref09_usances_k, Realm.ByOK, maxLen, implies_true, true_and, and_true, and_self, true_implies, false_implies, ixP, szP, mkP]
  all_goals (repeat' first | assumption | (apply And.intro) | (intro h))
  all_goals first | trivial | assumption | omega | ((try simp only [decide_eq_true_eq, decide_eq_false_iff_not, List.length_append, List.length_cons, List.length_nil, List.length_set, List.length_replicate, Bool.not_eq_true, Bool.not_eq_false, Int.not_lt, Int.not_le, Bool.and_eq_true, Bool.or_eq_true, Bool.and_eq_false_iff, Bool.or_eq_false_iff, Bool.not_eq_eq_eq_not, Bool.not_true, Bool.not_false, beq_iff_eq, bne_iff_ne, beq_eq_false_iff_ne, bne_eq_false_iff_eq, ne_eq, subL_length] at *) <;> first | omega | (refine (w64_id ?_ ?_).trans ?_ <;> omega) | (simp (disch := omega) only [w64_id] at *; omega) | (grind) | (simp_all; done) | (simp_all; omega))

theorem allongeref09_Check_fn (r : Realm) : FnA Tryz.prog 37 [av r.cells] [] (iv (allongeref09_Check r)) [] :=
  FnA.sk tok mixed (fun x => iv x) (fun _ => []) Tryz.func37 rfl (by kernel_rfl) 3000 (allongeref09_Check_sk r) (by kernel_rfl) (allongeref09_Check_ok r)
noncomputable def allongeref09_Check_k (r : Realm) : Ctr (Int) := ⟨Tryz.prog, 37, [av r.cells], fun x => iv x, true, allongeref09_Check r, True, fun _ => allongeref09_Check_fn r, fun (x : Int) => x = 0 → r.ByOK, allongeref09_Check_post r⟩
noncomputable def wording_index_sk (n : Int) (length : Int) : Sk (Bool) :=
 .fin ((decide (n ≥ 0)) && (decide (n < length)))
noncomputable def wording_index (n : Int) (length : Int) : Bool := (wording_index_sk n length).val
theorem wording_index_eq (n : Int) (length : Int) : wording_index n length = ((decide (n ≥ 0)) && (decide (n < length))) := rfl
theorem wording_index_ok (n : Int) (length : Int) : (wording_index_sk n length).obs (fun _ => True) := by
  refine Sk.obs_of _ ?_
  unfold wording_index_sk
  simp only [Sk.obq, Sk.isLoop, reduceCtorEq, leafB, leafJ, Cal.z, Cal.p, Cal.t, Cal.pt, Cal.o, Cal.and, Cal.andl, Cal.andr, Cal.wh, Cal.dep, Cal.depr, Ctr.c, Ctr.nil, Ctr.nilc, CtrO.c, CtrO.nil, maxLen, implies_true, true_and, and_true, and_self, true_implies, false_implies, ixP, szP, mkP]

theorem wording_index_fn (n : Int) (length : Int) : FnA Tryz.prog 88 [iv n, iv length] [] (bv (wording_index n length)) [] :=
  FnA.sk tok mixed (fun x => bv x) (fun _ => []) Tryz.func88 rfl (by kernel_rfl) 3000 (wording_index_sk n length) (by kernel_rfl) (wording_index_ok n length)
noncomputable def wording_index_k (n : Int) (length : Int) : Ctr (Bool) := ⟨Tryz.prog, 88, [iv n, iv length], fun x => bv x, true, wording_index n length, True, fun _ => wording_index_fn n length, fun _ => True, trivial⟩
noncomputable def wording_tenor_sk (b : Bill) : Sk (Bool) :=
 .bind false (fun _ => True)
 (.br (b.tenor.kind == 0)
 (.fin (.inr (b.tenor.kind == 0)))
 (.fin (.inr (b.tenor.kind == 4))))
 (fun (b1 : Bool) => ⟨[(8, bv b1)], []⟩) fun b1 =>
 .br b1
 (.fin ((b.tenor.n == 0) && (b.tenor.unit == 0)))
 (.bind false (fun _ => True)
 (.br (b.tenor.kind == 1)
 (.fin (.inr (b.tenor.kind == 1)))
 (.fin (.inr (b.tenor.kind == 2))))
 (fun (b2 : Bool) => ⟨[(19, bv b2)], []⟩) fun b2 =>
 .br b2
 (.fin (((decide (b.tenor.n ≥ 1)) && (decide (b.tenor.n ≤ 400))) && ((b.tenor.unit == 0) || (b.tenor.unit == 1))))
 (.br (b.tenor.kind == 3)
 (.fin (((decide (b.tenor.n ≥ b.day)) && (decide (b.tenor.n ≤ 100000))) && (b.tenor.unit == 0)))
 (.fin false)))
noncomputable def wording_tenor (b : Bill) : Bool := (wording_tenor_sk b).val
theorem wording_tenor_ok (b : Bill) : (wording_tenor_sk b).obs (fun _ => True) := by
  refine Sk.obs_of _ ?_
  unfold wording_tenor_sk
  simp only [Sk.obq, Sk.isLoop, reduceCtorEq, leafB, leafJ, Cal.z, Cal.p, Cal.t, Cal.pt, Cal.o, Cal.and, Cal.andl, Cal.andr, Cal.wh, Cal.dep, Cal.depr, Ctr.c, Ctr.nil, Ctr.nilc, CtrO.c, CtrO.nil, maxLen, implies_true, true_and, and_true, and_self, true_implies, false_implies, ixP, szP, mkP]

theorem wording_tenor_fn (b : Bill) : FnA Tryz.prog 89 [av b.cells] [] (bv (wording_tenor b)) [] :=
  FnA.sk tok mixed (fun x => bv x) (fun _ => []) Tryz.func89 rfl (by kernel_rfl) 3000 (wording_tenor_sk b) (by kernel_rfl) (wording_tenor_ok b)
noncomputable def wording_tenor_k (b : Bill) : Ctr (Bool) := ⟨Tryz.prog, 89, [av b.cells], fun x => bv x, true, wording_tenor b, True, fun _ => wording_tenor_fn b, fun _ => True, trivial⟩
end Go.Proofs.YtggilgghigileaaGreatDoor
