/- Functions, as sketches. -/
import Derived.Test.YtggilgghigileaaGreatDoorRk7
namespace Go.Proofs.YtggilgghigileaaGreatDoor
open Go Go.Av
set_option linter.unusedSimpArgs false
set_option linter.unusedVariables false
set_option maxHeartbeats 1000000
set_option maxRecDepth 100000
noncomputable def realm_rest_sk (r : Realm) : Sk (Int) :=
 .br (decide (((r.rates.length : Nat) : Int) > 100))
 (.fin 6)
 (.bind true (fun _ => True)
 (.loop (default : Sum (Int) (Unit)) (fun i2 => i2 ≤ r.rates.length) (fun i2 => r.rates.length - i2) (0 : Nat)
 (fun (i2 : Nat) => ⟨[(14, iv ((i2 : Nat) : Int))], []⟩) fun i2 =>
 .bnd 12 0 r.rates.length <|
 .br (decide (((i2 : Nat) : Int) < ((r.rates.length : Nat) : Int)))
 (.r 5 (.p (ixP ((i2 : Nat) : Int) r.rates.length)) fun _ =>
 .r 6 (.dep ((realm_in_k ((r.rates.getD i2 default).from_) ((r.currencies.length : Nat) : Int)).c) fun x3 => .dep (.wh (!x3) false ((realm_in_k ((r.rates.getD i2 default).to_) ((r.currencies.length : Nat) : Int)).c)) fun x4 => .dep (.wh (((!x3) || (!x4)) || (((r.rates.getD i2 default).from_) == ((r.rates.getD i2 default).to_))) false ((realm_in_k (w64 (((r.rates.getD i2 default).num) - 1)) 1073741824).c)) fun x5 => .dep (.wh ((((!x3) || (!x4)) || (((r.rates.getD i2 default).from_) == ((r.rates.getD i2 default).to_))) || (!x5)) false ((realm_in_k (w64 (((r.rates.getD i2 default).den) - 1)) 1073741824).c)) fun x6 => .wh (((((!x3) || (!x4)) || (((r.rates.getD i2 default).from_) == ((r.rates.getD i2 default).to_))) || (!x5)) || (!x6)) false ((realm_in_k ((r.rates.getD i2 default).since) 100001).c)) fun p8 =>
 .br ((((((!p8.1) || (!p8.2.1)) || (((r.rates.getD i2 default).from_) == ((r.rates.getD i2 default).to_))) || (!p8.2.2.1)) || (!p8.2.2.2.1)) || (!p8.2.2.2.2))
 (.fin (.inl (.inl 1)))
 (.r 8 .z fun _ =>
 .wi 14 (w64 (((i2 : Nat) : Int) + 1)) ((i2 + 1 : Nat) : Int) <|
 .fin (.inr (i2 + 1))))
 (.fin (.inl (.inr ()))))
 (fun (_ : Unit) => ⟨[], []⟩) fun _ =>
 .br (decide (((r.halts.length : Nat) : Int) > 20))
 (.fin 6)
 (.bind true (fun b9 => r.HaltOK)
 (.loop (default : Sum (Int) (Unit)) (fun i10 => (∀ i, i < i10 → (r.halts.getD i default).to_ ≤ 100000) ∧ i10 ≤ r.halts.length) (fun i10 => r.halts.length - i10) (0 : Nat)
 (fun (i10 : Nat) => ⟨[(69, iv ((i10 : Nat) : Int))], []⟩) fun i10 =>
 .bnd 67 0 r.halts.length <|
 .br (decide (((i10 : Nat) : Int) < ((r.halts.length : Nat) : Int)))
 (.r 13 (.p (ixP ((i10 : Nat) : Int) r.halts.length)) fun _ =>
 .r 14 ((realm_in_k ((r.halts.getD i10 default).order) ((r.orders.length : Nat) : Int)).c) fun x11 =>
 .br ((((!x11) || (decide (((r.halts.getD i10 default).from_) < 0))) || (decide (((r.halts.getD i10 default).from_) > ((r.halts.getD i10 default).to_)))) || (decide (((r.halts.getD i10 default).to_) > 100000)))
 (.fin (.inl (.inl 1)))
 (.r 16 .z fun _ =>
 .wi 69 (w64 (((i10 : Nat) : Int) + 1)) ((i10 + 1 : Nat) : Int) <|
 .fin (.inr (i10 + 1))))
 (.fin (.inl (.inr ()))))
 (fun (_ : Unit) => ⟨[], []⟩) fun _ =>
 .fin 0))
noncomputable def realm_rest (r : Realm) : Int := (realm_rest_sk r).val
theorem realm_rest_pst (r : Realm) : (realm_rest_sk r).pst (fun (x : Int) => x = 0 → r.HaltOK) := by
  refine Sk.pst_of _ ?_
  unfold realm_rest_sk
  simp only [Sk.pstq, Sk.isLoop, reduceCtorEq, leafB, leafJ, Cal.z, Cal.p, Cal.t, Cal.pt, Cal.o, Cal.and, Cal.andl, Cal.andr, Cal.wh, Cal.dep, Cal.depr, Ctr.c, Ctr.nil, Ctr.nilc, CtrO.c, CtrO.nil, realm_in_k, realm_in_eq, forall_eq, Realm.HaltOK, maxLen, implies_true, true_and, and_true, and_self, true_implies, false_implies, ixP, szP, mkP]
  all_goals (repeat' first | assumption | (apply And.intro) | (intro h))
  all_goals first | trivial | assumption | omega | ((try simp only [decide_eq_true_eq, decide_eq_false_iff_not, List.length_append, List.length_cons, List.length_nil, List.length_set, List.length_replicate, Bool.not_eq_true, Bool.not_eq_false, Int.not_lt, Int.not_le, Bool.and_eq_true, Bool.or_eq_true, Bool.and_eq_false_iff, Bool.or_eq_false_iff, Bool.not_eq_eq_eq_not, Bool.not_true, Bool.not_false, beq_iff_eq, bne_iff_ne, beq_eq_false_iff_ne, bne_eq_false_iff_eq, ne_eq, subL_length] at *) <;> first | omega | (refine (w64_id ?_ ?_).trans ?_ <;> omega) | (simp (disch := omega) only [w64_id] at *; omega) | (grind) | (simp_all; done) | (simp_all; omega))

theorem realm_rest_post (r : Realm) : (fun (x : Int) => x = 0 → r.HaltOK) (realm_rest r) := Sk.pval _ (realm_rest_pst r)
theorem realm_rest_ok (r : Realm) : (realm_rest_sk r).obs (fun _ => True) := by
  refine Sk.obs_of _ ?_
  unfold realm_rest_sk
  simp only [Sk.obq, Sk.isLoop, reduceCtorEq, leafB, leafJ, Cal.z, Cal.p, Cal.t, Cal.pt, Cal.o, Cal.and, Cal.andl, Cal.andr, Cal.wh, Cal.dep, Cal.depr, Ctr.c, Ctr.nil, Ctr.nilc, CtrO.c, CtrO.nil, realm_in_k, realm_in_eq, forall_eq, Realm.HaltOK, maxLen, implies_true, true_and, and_true, and_self, true_implies, false_implies, ixP, szP, mkP]
  all_goals (repeat' first | assumption | (apply And.intro) | (intro h))
  all_goals first | trivial | assumption | omega | ((try simp only [decide_eq_true_eq, decide_eq_false_iff_not, List.length_append, List.length_cons, List.length_nil, List.length_set, List.length_replicate, Bool.not_eq_true, Bool.not_eq_false, Int.not_lt, Int.not_le, Bool.and_eq_true, Bool.or_eq_true, Bool.and_eq_false_iff, Bool.or_eq_false_iff, Bool.not_eq_eq_eq_not, Bool.not_true, Bool.not_false, beq_iff_eq, bne_iff_ne, beq_eq_false_iff_ne, bne_eq_false_iff_eq, ne_eq, subL_length] at *) <;> first | omega | (refine (w64_id ?_ ?_).trans ?_ <;> omega) | (simp (disch := omega) only [w64_id] at *; omega) | (grind) | (simp_all; done) | (simp_all; omega))

theorem realm_rest_fn (r : Realm) : FnA Tryz.prog 127 [av r.cells] [] (iv (realm_rest r)) [] :=
  FnA.sk tok mixed (fun x => iv x) (fun _ => []) Tryz.func127 rfl (by kernel_rfl) 3000 (realm_rest_sk r) (by kernel_rfl) (realm_rest_ok r)
noncomputable def realm_rest_k (r : Realm) : Ctr (Int) := ⟨Tryz.prog, 127, [av r.cells], fun x => iv x, true, realm_rest r, True, fun _ => realm_rest_fn r, fun (x : Int) => x = 0 → r.HaltOK, realm_rest_post r⟩
noncomputable def realm_Check_sk (r : Realm) : Sk (Int) :=
 .r 1 ((realm_names_k r).c) fun x1 =>
 .r 2 ((realm_fits_119_k r.currencies 8).c) fun x2 =>
 .br (x2 != 0)
 (.fin x2)
 (.r 5 ((realm_fits_120_k x1.1 40 r).c) fun x3 =>
 .br (x3 != 0)
 (.fin x3)
 (.br (decide (((r.groups.length : Nat) : Int) > 20))
 (.fin 6)
 (.bind true (fun _ => True)
 (.loop (default : Sum (Int) (Unit)) (fun i5 => i5 ≤ r.groups.length) (fun i5 => r.groups.length - i5) (0 : Nat)
 (fun (i5 : Nat) => ⟨[(38, iv ((i5 : Nat) : Int))], []⟩) fun i5 =>
 .bnd 36 0 r.groups.length <|
 .br (decide (((i5 : Nat) : Int) < ((r.groups.length : Nat) : Int)))
 (.r 12 (.p (ixP ((i5 : Nat) : Int) r.groups.length)) fun _ =>
 .r 13 ((realm_in_k ((r.groups.getD i5 default).grade) 10).c) fun x6 =>
 .br (!x6)
 (.fin (.inl (.inl 1)))
 (.r 15 .z fun _ =>
 .wi 38 (w64 (((i5 : Nat) : Int) + 1)) ((i5 + 1 : Nat) : Int) <|
 .fin (.inr (i5 + 1))))
 (.fin (.inl (.inr ()))))
 (fun (_ : Unit) => ⟨[], []⟩) fun _ =>
 .r 16 ((realm_fits_123_k x1.2.1 200 r).c) fun x7 =>
 .br (x7 != 0)
 (.fin x7)
 (.r 19 ((realm_fits_124_k x1.2.2 20 r).c) fun x8 =>
 .br (x8 != 0)
 (.fin x8)
 (.r 22 ((realm_usances_k r).c) fun x9 =>
 .br (x9 != 0)
 (.fin x9)
 (.r 25 ((realm_rest_k r).c) fun x10 =>
 .fin x10))))))
noncomputable def realm_Check (r : Realm) : Int := (realm_Check_sk r).val
theorem realm_Check_pst (r : Realm) : (realm_Check_sk r).pst (fun (x : Int) => x = 0 → r.HaltOK) := by
  refine Sk.pst_of _ ?_
  unfold realm_Check_sk
  simp only [Sk.pstq, Sk.isLoop, reduceCtorEq, leafB, leafJ, Cal.z, Cal.p, Cal.t, Cal.pt, Cal.o, Cal.and, Cal.andl, Cal.andr, Cal.wh, Cal.dep, Cal.depr, Ctr.c, Ctr.nil, Ctr.nilc, CtrO.c, CtrO.nil, realm_fits_119_k, realm_fits_120_k, realm_fits_123_k, realm_fits_124_k, realm_in_k, realm_names_k, realm_rest_k, realm_usances_k, realm_in_eq, forall_eq, File.Small, Realm.Small, Realm.HaltOK, maxLen, implies_true, true_and, and_true, and_self, true_implies, false_implies, ixP, szP, mkP]
  all_goals (repeat' first | assumption | (apply And.intro) | (intro h))
  all_goals first | trivial | assumption | omega | ((try simp only [decide_eq_true_eq, decide_eq_false_iff_not, List.length_append, List.length_cons, List.length_nil, List.length_set, List.length_replicate, Bool.not_eq_true, Bool.not_eq_false, Int.not_lt, Int.not_le, Bool.and_eq_true, Bool.or_eq_true, Bool.and_eq_false_iff, Bool.or_eq_false_iff, Bool.not_eq_eq_eq_not, Bool.not_true, Bool.not_false, beq_iff_eq, bne_iff_ne, beq_eq_false_iff_ne, bne_eq_false_iff_eq, ne_eq, subL_length] at *) <;> first | omega | (refine (w64_id ?_ ?_).trans ?_ <;> omega) | (simp (disch := omega) only [w64_id] at *; omega) | (grind) | (simp_all; done) | (simp_all; omega))

theorem realm_Check_post (r : Realm) : (fun (x : Int) => x = 0 → r.HaltOK) (realm_Check r) := Sk.pval _ (realm_Check_pst r)
theorem realm_Check_ok (r : Realm) (hr : r.Small) : (realm_Check_sk r).obs (fun _ => True) := by
  simp only [File.Small, Realm.Small, Realm.HaltOK] at hr
  refine Sk.obs_of _ ?_
  unfold realm_Check_sk
  simp only [Sk.obq, Sk.isLoop, reduceCtorEq, leafB, leafJ, Cal.z, Cal.p, Cal.t, Cal.pt, Cal.o, Cal.and, Cal.andl, Cal.andr, Cal.wh, Cal.dep, Cal.depr, Ctr.c, Ctr.nil, Ctr.nilc, CtrO.c, CtrO.nil, realm_fits_119_k, realm_fits_120_k, realm_fits_123_k, realm_fits_124_k, realm_in_k, realm_names_k, realm_rest_k, realm_usances_k, realm_in_eq, forall_eq, File.Small, Realm.Small, Realm.HaltOK, maxLen, implies_true, true_and, and_true, and_self, true_implies, false_implies, ixP, szP, mkP]
  all_goals (repeat' first | assumption | (apply And.intro) | (intro h))
  all_goals first | trivial | assumption | omega | ((try simp only [decide_eq_true_eq, decide_eq_false_iff_not, List.length_append, List.length_cons, List.length_nil, List.length_set, List.length_replicate, Bool.not_eq_true, Bool.not_eq_false, Int.not_lt, Int.not_le, Bool.and_eq_true, Bool.or_eq_true, Bool.and_eq_false_iff, Bool.or_eq_false_iff, Bool.not_eq_eq_eq_not, Bool.not_true, Bool.not_false, beq_iff_eq, bne_iff_ne, beq_eq_false_iff_ne, bne_eq_false_iff_eq, ne_eq, subL_length] at *) <;> first | omega | (refine (w64_id ?_ ?_).trans ?_ <;> omega) | (simp (disch := omega) only [w64_id] at *; omega) | (grind) | (simp_all; done) | (simp_all; omega))

theorem realm_Check_fn (r : Realm) (hr : r.Small) : FnA Tryz.prog 81 [av r.cells] [] (iv (realm_Check r)) [] :=
  FnA.sk tok mixed (fun x => iv x) (fun _ => []) Tryz.func81 rfl (by kernel_rfl) 3000 (realm_Check_sk r) (by kernel_rfl) (realm_Check_ok r hr)
noncomputable def realm_Check_k (r : Realm) : Ctr (Int) := ⟨Tryz.prog, 81, [av r.cells], fun x => iv x, true, realm_Check r, (r.Small), fun h => realm_Check_fn r h, fun (x : Int) => x = 0 → r.HaltOK, realm_Check_post r⟩
noncomputable def tenor_isCity_sk (r : Realm) (city : Int) : Sk (Bool) :=
 .fin ((decide (city ≥ 0)) && (decide (city < ((r.cities.length : Nat) : Int))))
noncomputable def tenor_isCity (r : Realm) (city : Int) : Bool := (tenor_isCity_sk r city).val
theorem tenor_isCity_eq (r : Realm) (city : Int) : tenor_isCity r city = ((decide (city ≥ 0)) && (decide (city < ((r.cities.length : Nat) : Int)))) := rfl
theorem tenor_isCity_ok (r : Realm) (city : Int) : (tenor_isCity_sk r city).obs (fun _ => True) := by
  refine Sk.obs_of _ ?_
  unfold tenor_isCity_sk
  simp only [Sk.obq, Sk.isLoop, reduceCtorEq, leafB, leafJ, Cal.z, Cal.p, Cal.t, Cal.pt, Cal.o, Cal.and, Cal.andl, Cal.andr, Cal.wh, Cal.dep, Cal.depr, Ctr.c, Ctr.nil, Ctr.nilc, CtrO.c, CtrO.nil, maxLen, implies_true, true_and, and_true, and_self, true_implies, false_implies, ixP, szP, mkP]

theorem tenor_isCity_fn (r : Realm) (city : Int) : FnA Tryz.prog 82 [av r.cells, iv city] [] (bv (tenor_isCity r city)) [] :=
  FnA.sk tok mixed (fun x => bv x) (fun _ => []) Tryz.func82 rfl (by kernel_rfl) 3000 (tenor_isCity_sk r city) (by kernel_rfl) (tenor_isCity_ok r city)
noncomputable def tenor_isCity_k (r : Realm) (city : Int) : Ctr (Bool) := ⟨Tryz.prog, 82, [av r.cells, iv city], fun x => bv x, true, tenor_isCity r city, True, fun _ => tenor_isCity_fn r city, fun _ => True, trivial⟩
noncomputable def tenor_isDay_sk (n : Int) : Sk (Bool) :=
 .fin ((decide (n ≥ 0)) && (decide (n ≤ 100000)))
noncomputable def tenor_isDay (n : Int) : Bool := (tenor_isDay_sk n).val
theorem tenor_isDay_eq (n : Int) : tenor_isDay n = ((decide (n ≥ 0)) && (decide (n ≤ 100000))) := rfl
theorem tenor_isDay_ok (n : Int) : (tenor_isDay_sk n).obs (fun _ => True) := by
  refine Sk.obs_of _ ?_
  unfold tenor_isDay_sk
  simp only [Sk.obq, Sk.isLoop, reduceCtorEq, leafB, leafJ, Cal.z, Cal.p, Cal.t, Cal.pt, Cal.o, Cal.and, Cal.andl, Cal.andr, Cal.wh, Cal.dep, Cal.depr, Ctr.c, Ctr.nil, Ctr.nilc, CtrO.c, CtrO.nil, maxLen, implies_true, true_and, and_true, and_self, true_implies, false_implies, ixP, szP, mkP]

theorem tenor_isDay_fn (n : Int) : FnA Tryz.prog 83 [iv n] [] (bv (tenor_isDay n)) [] :=
  FnA.sk tok mixed (fun x => bv x) (fun _ => []) Tryz.func83 rfl (by kernel_rfl) 3000 (tenor_isDay_sk n) (by kernel_rfl) (tenor_isDay_ok n)
noncomputable def tenor_isDay_k (n : Int) : Ctr (Bool) := ⟨Tryz.prog, 83, [iv n], fun x => bv x, true, tenor_isDay n, True, fun _ => tenor_isDay_fn n, fun _ => True, trivial⟩
noncomputable def tenor_Sights_sk (t : Tenor) : Sk (Bool) :=
 .fin ((t.kind == 0) || (t.kind == 1))
noncomputable def tenor_Sights (t : Tenor) : Bool := (tenor_Sights_sk t).val
theorem tenor_Sights_eq (t : Tenor) : tenor_Sights t = ((t.kind == 0) || (t.kind == 1)) := rfl
theorem tenor_Sights_ok (t : Tenor) : (tenor_Sights_sk t).obs (fun _ => True) := by
  refine Sk.obs_of _ ?_
  unfold tenor_Sights_sk
  simp only [Sk.obq, Sk.isLoop, reduceCtorEq, leafB, leafJ, Cal.z, Cal.p, Cal.t, Cal.pt, Cal.o, Cal.and, Cal.andl, Cal.andr, Cal.wh, Cal.dep, Cal.depr, Ctr.c, Ctr.nil, Ctr.nilc, CtrO.c, CtrO.nil, maxLen, implies_true, true_and, and_true, and_self, true_implies, false_implies, ixP, szP, mkP]

theorem tenor_Sights_fn (t : Tenor) : FnA Tryz.prog 84 [av t.cells] [] (bv (tenor_Sights t)) [] :=
  FnA.sk tok mixed (fun x => bv x) (fun _ => []) Tryz.func84 rfl (by kernel_rfl) 3000 (tenor_Sights_sk t) (by kernel_rfl) (tenor_Sights_ok t)
noncomputable def tenor_Sights_k (t : Tenor) : Ctr (Bool) := ⟨Tryz.prog, 84, [av t.cells], fun x => bv x, true, tenor_Sights t, True, fun _ => tenor_Sights_fn t, fun _ => True, trivial⟩
noncomputable def calendar_valid_sk (day : Int) : Sk (Bool) :=
 .fin ((decide ((0 : Int) ≤ day)) && (decide (day ≤ 100000)))
noncomputable def calendar_valid (day : Int) : Bool := (calendar_valid_sk day).val
theorem calendar_valid_eq (day : Int) : calendar_valid day = ((decide ((0 : Int) ≤ day)) && (decide (day ≤ 100000))) := rfl
theorem calendar_valid_ok (day : Int) : (calendar_valid_sk day).obs (fun _ => True) := by
  refine Sk.obs_of _ ?_
  unfold calendar_valid_sk
  simp only [Sk.obq, Sk.isLoop, reduceCtorEq, leafB, leafJ, Cal.z, Cal.p, Cal.t, Cal.pt, Cal.o, Cal.and, Cal.andl, Cal.andr, Cal.wh, Cal.dep, Cal.depr, Ctr.c, Ctr.nil, Ctr.nilc, CtrO.c, CtrO.nil, maxLen, implies_true, true_and, and_true, and_self, true_implies, false_implies, ixP, szP, mkP]

theorem calendar_valid_fn (day : Int) : FnA Tryz.prog 161 [iv day] [] (bv (calendar_valid day)) [] :=
  FnA.sk tok mixed (fun x => bv x) (fun _ => []) Tryz.func161 rfl (by kernel_rfl) 3000 (calendar_valid_sk day) (by kernel_rfl) (calendar_valid_ok day)
noncomputable def calendar_valid_k (day : Int) : Ctr (Bool) := ⟨Tryz.prog, 161, [iv day], fun x => bv x, true, calendar_valid day, True, fun _ => calendar_valid_fn day, fun _ => True, trivial⟩
noncomputable def calendar_civil_sk (day : Int) : Sk (Int × Int × Int) :=
 .r 2 (.andl (.p ((146097 : Int) ≠ 0)) (.p ((146097 : Int) ≠ 0))) fun _ =>
 .r 3 (.andl (.p ((1460 : Int) ≠ 0)) (.andl (.p ((36524 : Int) ≠ 0)) (.andl (.p ((146096 : Int) ≠ 0)) (.p ((365 : Int) ≠ 0))))) fun _ =>
 .r 4 (.andl (.p ((4 : Int) ≠ 0)) (.p ((100 : Int) ≠ 0))) fun _ =>
 .r 5 (.p ((153 : Int) ≠ 0)) fun _ =>
 .r 6 (.p ((5 : Int) ≠ 0)) fun _ =>
 .bind false (fun _ => True)
 (.br (decide ((w64 ((w64 ((w64 ((w64 ((5 : Int) * (w64 (((w64 (day + 730425)).tmod 146097) - (w64 ((w64 ((w64 ((365 : Int) * (w64 ((w64 ((w64 ((w64 (((w64 (day + 730425)).tmod 146097) - (w64 (((w64 (day + 730425)).tmod 146097).tdiv 1460)))) + (w64 (((w64 (day + 730425)).tmod 146097).tdiv 36524)))) - (w64 (((w64 (day + 730425)).tmod 146097).tdiv 146096)))).tdiv 365)))) + (w64 ((w64 ((w64 ((w64 ((w64 (((w64 (day + 730425)).tmod 146097) - (w64 (((w64 (day + 730425)).tmod 146097).tdiv 1460)))) + (w64 (((w64 (day + 730425)).tmod 146097).tdiv 36524)))) - (w64 (((w64 (day + 730425)).tmod 146097).tdiv 146096)))).tdiv 365)).tdiv 4)))) - (w64 ((w64 ((w64 ((w64 ((w64 (((w64 (day + 730425)).tmod 146097) - (w64 (((w64 (day + 730425)).tmod 146097).tdiv 1460)))) + (w64 (((w64 (day + 730425)).tmod 146097).tdiv 36524)))) - (w64 (((w64 (day + 730425)).tmod 146097).tdiv 146096)))).tdiv 365)).tdiv 100)))))))) + 2)).tdiv 153)) + 3)) > 12))
 (.fin (.inr (w64 ((w64 ((w64 ((w64 ((w64 ((5 : Int) * (w64 (((w64 (day + 730425)).tmod 146097) - (w64 ((w64 ((w64 ((365 : Int) * (w64 ((w64 ((w64 ((w64 (((w64 (day + 730425)).tmod 146097) - (w64 (((w64 (day + 730425)).tmod 146097).tdiv 1460)))) + (w64 (((w64 (day + 730425)).tmod 146097).tdiv 36524)))) - (w64 (((w64 (day + 730425)).tmod 146097).tdiv 146096)))).tdiv 365)))) + (w64 ((w64 ((w64 ((w64 ((w64 (((w64 (day + 730425)).tmod 146097) - (w64 (((w64 (day + 730425)).tmod 146097).tdiv 1460)))) + (w64 (((w64 (day + 730425)).tmod 146097).tdiv 36524)))) - (w64 (((w64 (day + 730425)).tmod 146097).tdiv 146096)))).tdiv 365)).tdiv 4)))) - (w64 ((w64 ((w64 ((w64 ((w64 (((w64 (day + 730425)).tmod 146097) - (w64 (((w64 (day + 730425)).tmod 146097).tdiv 1460)))) + (w64 (((w64 (day + 730425)).tmod 146097).tdiv 36524)))) - (w64 (((w64 (day + 730425)).tmod 146097).tdiv 146096)))).tdiv 365)).tdiv 100)))))))) + 2)).tdiv 153)) + 3)) - 12))))
 (.fin (.inr (w64 ((w64 ((w64 ((w64 ((5 : Int) * (w64 (((w64 (day + 730425)).tmod 146097) - (w64 ((w64 ((w64 ((365 : Int) * (w64 ((w64 ((w64 ((w64 (((w64 (day + 730425)).tmod 146097) - (w64 (((w64 (day + 730425)).tmod 146097).tdiv 1460)))) + (w64 (((w64 (day + 730425)).tmod 146097).tdiv 36524)))) - (w64 (((w64 (day + 730425)).tmod 146097).tdiv 146096)))).tdiv 365)))) + (w64 ((w64 ((w64 ((w64 ((w64 (((w64 (day + 730425)).tmod 146097) - (w64 (((w64 (day + 730425)).tmod 146097).tdiv 1460)))) + (w64 (((w64 (day + 730425)).tmod 146097).tdiv 36524)))) - (w64 (((w64 (day + 730425)).tmod 146097).tdiv 146096)))).tdiv 365)).tdiv 4)))) - (w64 ((w64 ((w64 ((w64 ((w64 (((w64 (day + 730425)).tmod 146097) - (w64 (((w64 (day + 730425)).tmod 146097).tdiv 1460)))) + (w64 (((w64 (day + 730425)).tmod 146097).tdiv 36524)))) - (w64 (((w64 (day + 730425)).tmod 146097).tdiv 146096)))).tdiv 365)).tdiv 100)))))))) + 2)).tdiv 153)) + 3)))))
 (fun (b1 : Int) => ⟨[(3, iv b1)], []⟩) fun b1 =>
 .br (decide (b1 < 3))
 (.fin (w64 ((w64 ((w64 ((w64 ((w64 ((w64 (((w64 (day + 730425)).tmod 146097) - (w64 (((w64 (day + 730425)).tmod 146097).tdiv 1460)))) + (w64 (((w64 (day + 730425)).tmod 146097).tdiv 36524)))) - (w64 (((w64 (day + 730425)).tmod 146097).tdiv 146096)))).tdiv 365)) + (w64 ((400 : Int) * (w64 ((w64 (day + 730425)).tdiv 146097)))))) + 1), b1, w64 ((w64 ((w64 (((w64 (day + 730425)).tmod 146097) - (w64 ((w64 ((w64 ((365 : Int) * (w64 ((w64 ((w64 ((w64 (((w64 (day + 730425)).tmod 146097) - (w64 (((w64 (day + 730425)).tmod 146097).tdiv 1460)))) + (w64 (((w64 (day + 730425)).tmod 146097).tdiv 36524)))) - (w64 (((w64 (day + 730425)).tmod 146097).tdiv 146096)))).tdiv 365)))) + (w64 ((w64 ((w64 ((w64 ((w64 (((w64 (day + 730425)).tmod 146097) - (w64 (((w64 (day + 730425)).tmod 146097).tdiv 1460)))) + (w64 (((w64 (day + 730425)).tmod 146097).tdiv 36524)))) - (w64 (((w64 (day + 730425)).tmod 146097).tdiv 146096)))).tdiv 365)).tdiv 4)))) - (w64 ((w64 ((w64 ((w64 ((w64 (((w64 (day + 730425)).tmod 146097) - (w64 (((w64 (day + 730425)).tmod 146097).tdiv 1460)))) + (w64 (((w64 (day + 730425)).tmod 146097).tdiv 36524)))) - (w64 (((w64 (day + 730425)).tmod 146097).tdiv 146096)))).tdiv 365)).tdiv 100)))))) - (w64 ((w64 ((w64 ((153 : Int) * (w64 ((w64 ((w64 ((5 : Int) * (w64 (((w64 (day + 730425)).tmod 146097) - (w64 ((w64 ((w64 ((365 : Int) * (w64 ((w64 ((w64 ((w64 (((w64 (day + 730425)).tmod 146097) - (w64 (((w64 (day + 730425)).tmod 146097).tdiv 1460)))) + (w64 (((w64 (day + 730425)).tmod 146097).tdiv 36524)))) - (w64 (((w64 (day + 730425)).tmod 146097).tdiv 146096)))).tdiv 365)))) + (w64 ((w64 ((w64 ((w64 ((w64 (((w64 (day + 730425)).tmod 146097) - (w64 (((w64 (day + 730425)).tmod 146097).tdiv 1460)))) + (w64 (((w64 (day + 730425)).tmod 146097).tdiv 36524)))) - (w64 (((w64 (day + 730425)).tmod 146097).tdiv 146096)))).tdiv 365)).tdiv 4)))) - (w64 ((w64 ((w64 ((w64 ((w64 (((w64 (day + 730425)).tmod 146097) - (w64 (((w64 (day + 730425)).tmod 146097).tdiv 1460)))) + (w64 (((w64 (day + 730425)).tmod 146097).tdiv 36524)))) - (w64 (((w64 (day + 730425)).tmod 146097).tdiv 146096)))).tdiv 365)).tdiv 100)))))))) + 2)).tdiv 153)))) + 2)).tdiv 5)))) + 1)))
 (.fin (w64 ((w64 ((w64 ((w64 ((w64 (((w64 (day + 730425)).tmod 146097) - (w64 (((w64 (day + 730425)).tmod 146097).tdiv 1460)))) + (w64 (((w64 (day + 730425)).tmod 146097).tdiv 36524)))) - (w64 (((w64 (day + 730425)).tmod 146097).tdiv 146096)))).tdiv 365)) + (w64 ((400 : Int) * (w64 ((w64 (day + 730425)).tdiv 146097))))), b1, w64 ((w64 ((w64 (((w64 (day + 730425)).tmod 146097) - (w64 ((w64 ((w64 ((365 : Int) * (w64 ((w64 ((w64 ((w64 (((w64 (day + 730425)).tmod 146097) - (w64 (((w64 (day + 730425)).tmod 146097).tdiv 1460)))) + (w64 (((w64 (day + 730425)).tmod 146097).tdiv 36524)))) - (w64 (((w64 (day + 730425)).tmod 146097).tdiv 146096)))).tdiv 365)))) + (w64 ((w64 ((w64 ((w64 ((w64 (((w64 (day + 730425)).tmod 146097) - (w64 (((w64 (day + 730425)).tmod 146097).tdiv 1460)))) + (w64 (((w64 (day + 730425)).tmod 146097).tdiv 36524)))) - (w64 (((w64 (day + 730425)).tmod 146097).tdiv 146096)))).tdiv 365)).tdiv 4)))) - (w64 ((w64 ((w64 ((w64 ((w64 (((w64 (day + 730425)).tmod 146097) - (w64 (((w64 (day + 730425)).tmod 146097).tdiv 1460)))) + (w64 (((w64 (day + 730425)).tmod 146097).tdiv 36524)))) - (w64 (((w64 (day + 730425)).tmod 146097).tdiv 146096)))).tdiv 365)).tdiv 100)))))) - (w64 ((w64 ((w64 ((153 : Int) * (w64 ((w64 ((w64 ((5 : Int) * (w64 (((w64 (day + 730425)).tmod 146097) - (w64 ((w64 ((w64 ((365 : Int) * (w64 ((w64 ((w64 ((w64 (((w64 (day + 730425)).tmod 146097) - (w64 (((w64 (day + 730425)).tmod 146097).tdiv 1460)))) + (w64 (((w64 (day + 730425)).tmod 146097).tdiv 36524)))) - (w64 (((w64 (day + 730425)).tmod 146097).tdiv 146096)))).tdiv 365)))) + (w64 ((w64 ((w64 ((w64 ((w64 (((w64 (day + 730425)).tmod 146097) - (w64 (((w64 (day + 730425)).tmod 146097).tdiv 1460)))) + (w64 (((w64 (day + 730425)).tmod 146097).tdiv 36524)))) - (w64 (((w64 (day + 730425)).tmod 146097).tdiv 146096)))).tdiv 365)).tdiv 4)))) - (w64 ((w64 ((w64 ((w64 ((w64 (((w64 (day + 730425)).tmod 146097) - (w64 (((w64 (day + 730425)).tmod 146097).tdiv 1460)))) + (w64 (((w64 (day + 730425)).tmod 146097).tdiv 36524)))) - (w64 (((w64 (day + 730425)).tmod 146097).tdiv 146096)))).tdiv 365)).tdiv 100)))))))) + 2)).tdiv 153)))) + 2)).tdiv 5)))) + 1)))
noncomputable def calendar_civil (day : Int) : Int × Int × Int := (calendar_civil_sk day).val
theorem calendar_civil_ok (day : Int) : (calendar_civil_sk day).obs (fun _ => True) := by
  refine Sk.obs_of _ ?_
  unfold calendar_civil_sk
  simp only [Sk.obq, Sk.isLoop, reduceCtorEq, leafB, leafJ, Cal.z, Cal.p, Cal.t, Cal.pt, Cal.o, Cal.and, Cal.andl, Cal.andr, Cal.wh, Cal.dep, Cal.depr, Ctr.c, Ctr.nil, Ctr.nilc, CtrO.c, CtrO.nil, maxLen, implies_true, true_and, and_true, and_self, true_implies, false_implies, ixP, szP, mkP]
  all_goals (repeat' first | assumption | (apply And.intro) | (intro h))
  all_goals first | trivial | assumption | omega | ((try simp only [decide_eq_true_eq, decide_eq_false_iff_not, List.length_append, List.length_cons, List.length_nil, List.length_set, List.length_replicate, Bool.not_eq_true, Bool.not_eq_false, Int.not_lt, Int.not_le, Bool.and_eq_true, Bool.or_eq_true, Bool.and_eq_false_iff, Bool.or_eq_false_iff, Bool.not_eq_eq_eq_not, Bool.not_true, Bool.not_false, beq_iff_eq, bne_iff_ne, beq_eq_false_iff_ne, bne_eq_false_iff_eq, ne_eq, subL_length] at *) <;> first | omega | (refine (w64_id ?_ ?_).trans ?_ <;> omega) | (simp (disch := omega) only [w64_id] at *; omega) | (grind) | (simp_all; done) | (simp_all; omega))

theorem calendar_civil_fn (day : Int) : FnA Tryz.prog 194 [iv day] [] (.tup [iv ((calendar_civil day).1), iv ((calendar_civil day).2.1), iv ((calendar_civil day).2.2)]) [] :=
  FnA.sk tok mixed (fun x => .tup [iv x.1, iv x.2.1, iv x.2.2]) (fun _ => []) Tryz.func194 rfl (by kernel_rfl) 3000 (calendar_civil_sk day) (by kernel_rfl) (calendar_civil_ok day)
noncomputable def calendar_civil_k (day : Int) : Ctr (Int × Int × Int) := ⟨Tryz.prog, 194, [iv day], fun x => .tup [iv x.1, iv x.2.1, iv x.2.2], true, calendar_civil day, True, fun _ => calendar_civil_fn day, fun _ => True, trivial⟩
noncomputable def calendar_number_sk (year : Int) (month : Int) (dom : Int) : Sk (Int) :=
 .br (decide (month < 3))
 (.r 3 (.andl (.p ((4 : Int) ≠ 0)) (.andl (.p ((100 : Int) ≠ 0)) (.andl (.p ((400 : Int) ≠ 0)) (.p ((5 : Int) ≠ 0))))) fun _ =>
 .fin (w64 ((w64 ((w64 ((w64 ((w64 ((w64 ((w64 ((w64 ((365 : Int) * (w64 (year - 1)))) + (w64 ((w64 (year - 1)).tdiv 4)))) - (w64 ((w64 (year - 1)).tdiv 100)))) + (w64 ((w64 (year - 1)).tdiv 400)))) + (w64 ((w64 ((w64 ((153 : Int) * (w64 ((w64 (month + 12)) - 3)))) + 2)).tdiv 5)))) + dom)) - 1)) - 730425)))
 (.r 3 (.andl (.p ((4 : Int) ≠ 0)) (.andl (.p ((100 : Int) ≠ 0)) (.andl (.p ((400 : Int) ≠ 0)) (.p ((5 : Int) ≠ 0))))) fun _ =>
 .fin (w64 ((w64 ((w64 ((w64 ((w64 ((w64 ((w64 ((w64 ((365 : Int) * year)) + (w64 (year.tdiv 4)))) - (w64 (year.tdiv 100)))) + (w64 (year.tdiv 400)))) + (w64 ((w64 ((w64 ((153 : Int) * (w64 (month - 3)))) + 2)).tdiv 5)))) + dom)) - 1)) - 730425)))
noncomputable def calendar_number (year : Int) (month : Int) (dom : Int) : Int := (calendar_number_sk year month dom).val
theorem calendar_number_ok (year : Int) (month : Int) (dom : Int) : (calendar_number_sk year month dom).obs (fun _ => True) := by
  refine Sk.obs_of _ ?_
  unfold calendar_number_sk
  simp only [Sk.obq, Sk.isLoop, reduceCtorEq, leafB, leafJ, Cal.z, Cal.p, Cal.t, Cal.pt, Cal.o, Cal.and, Cal.andl, Cal.andr, Cal.wh, Cal.dep, Cal.depr, Ctr.c, Ctr.nil, Ctr.nilc, CtrO.c, CtrO.nil, maxLen, implies_true, true_and, and_true, and_self, true_implies, false_implies, ixP, szP, mkP]
  all_goals (repeat' first | assumption | (apply And.intro) | (intro h))
  all_goals first | trivial | assumption | omega | ((try simp only [decide_eq_true_eq, decide_eq_false_iff_not, List.length_append, List.length_cons, List.length_nil, List.length_set, List.length_replicate, Bool.not_eq_true, Bool.not_eq_false, Int.not_lt, Int.not_le, Bool.and_eq_true, Bool.or_eq_true, Bool.and_eq_false_iff, Bool.or_eq_false_iff, Bool.not_eq_eq_eq_not, Bool.not_true, Bool.not_false, beq_iff_eq, bne_iff_ne, beq_eq_false_iff_ne, bne_eq_false_iff_eq, ne_eq, subL_length] at *) <;> first | omega | (refine (w64_id ?_ ?_).trans ?_ <;> omega) | (simp (disch := omega) only [w64_id] at *; omega) | (grind) | (simp_all; done) | (simp_all; omega))

theorem calendar_number_fn (year : Int) (month : Int) (dom : Int) : FnA Tryz.prog 218 [iv year, iv month, iv dom] [] (iv (calendar_number year month dom)) [] :=
  FnA.sk tok mixed (fun x => iv x) (fun _ => []) Tryz.func218 rfl (by kernel_rfl) 3000 (calendar_number_sk year month dom) (by kernel_rfl) (calendar_number_ok year month dom)
noncomputable def calendar_number_k (year : Int) (month : Int) (dom : Int) : Ctr (Int) := ⟨Tryz.prog, 218, [iv year, iv month, iv dom], fun x => iv x, true, calendar_number year month dom, True, fun _ => calendar_number_fn year month dom, fun _ => True, trivial⟩
noncomputable def calendar_length_sk (year : Int) (month : Int) : Sk (Int) :=
 .br (month == 12)
 (.fin 31)
 (.r 3 (.dep ((calendar_number_k year (w64 (month + 1)) 1).c) fun _ => (calendar_number_k year month 1).c) fun p3 =>
 .fin (w64 (p3.1 - p3.2)))
noncomputable def calendar_length (year : Int) (month : Int) : Int := (calendar_length_sk year month).val
theorem calendar_length_ok (year : Int) (month : Int) : (calendar_length_sk year month).obs (fun _ => True) := by
  refine Sk.obs_of _ ?_
  unfold calendar_length_sk
  simp only [Sk.obq, Sk.isLoop, reduceCtorEq, leafB, leafJ, Cal.z, Cal.p, Cal.t, Cal.pt, Cal.o, Cal.and, Cal.andl, Cal.andr, Cal.wh, Cal.dep, Cal.depr, Ctr.c, Ctr.nil, Ctr.nilc, CtrO.c, CtrO.nil, calendar_number_k, maxLen, implies_true, true_and, and_true, and_self, true_implies, false_implies, ixP, szP, mkP]

theorem calendar_length_fn (year : Int) (month : Int) : FnA Tryz.prog 196 [iv year, iv month] [] (iv (calendar_length year month)) [] :=
  FnA.sk tok mixed (fun x => iv x) (fun _ => []) Tryz.func196 rfl (by kernel_rfl) 3000 (calendar_length_sk year month) (by kernel_rfl) (calendar_length_ok year month)
noncomputable def calendar_length_k (year : Int) (month : Int) : Ctr (Int) := ⟨Tryz.prog, 196, [iv year, iv month], fun x => iv x, true, calendar_length year month, True, fun _ => calendar_length_fn year month, fun _ => True, trivial⟩
noncomputable def calendar_Day_sk (year : Int) (month : Int) (dom : Int) : Sk (Int × Int) :=
 .r 1 (.wh (((((decide (year < 2000)) || (decide (year > 2300))) || (decide (month < 1))) || (decide (month > 12))) || (decide (dom < 1))) false ((calendar_length_k year month).c)) fun x1 =>
 .br ((((((decide (year < 2000)) || (decide (year > 2300))) || (decide (month < 1))) || (decide (month > 12))) || (decide (dom < 1))) || (decide (dom > x1)))
 (.fin (0, 3))
 (.r 3 ((calendar_number_k year month dom).c) fun x2 =>
 .r 4 ((calendar_valid_k x2).c) fun x3 =>
 .br (!x3)
 (.fin (0, 3))
 (.fin (x2, 0)))
noncomputable def calendar_Day (year : Int) (month : Int) (dom : Int) : Int × Int := (calendar_Day_sk year month dom).val
theorem calendar_Day_ok (year : Int) (month : Int) (dom : Int) : (calendar_Day_sk year month dom).obs (fun _ => True) := by
  refine Sk.obs_of _ ?_
  unfold calendar_Day_sk
  simp only [Sk.obq, Sk.isLoop, reduceCtorEq, leafB, leafJ, Cal.z, Cal.p, Cal.t, Cal.pt, Cal.o, Cal.and, Cal.andl, Cal.andr, Cal.wh, Cal.dep, Cal.depr, Ctr.c, Ctr.nil, Ctr.nilc, CtrO.c, CtrO.nil, calendar_length_k, calendar_number_k, calendar_valid_k, calendar_valid_eq, forall_eq, maxLen, implies_true, true_and, and_true, and_self, true_implies, false_implies, ixP, szP, mkP]

theorem calendar_Day_fn (year : Int) (month : Int) (dom : Int) : FnA Tryz.prog 195 [iv year, iv month, iv dom] [] (.tup [iv ((calendar_Day year month dom).1), iv ((calendar_Day year month dom).2)]) [] :=
  FnA.sk tok mixed (fun x => .tup [iv x.1, iv x.2]) (fun _ => []) Tryz.func195 rfl (by kernel_rfl) 3000 (calendar_Day_sk year month dom) (by kernel_rfl) (calendar_Day_ok year month dom)
noncomputable def calendar_Day_k (year : Int) (month : Int) (dom : Int) : Ctr (Int × Int) := ⟨Tryz.prog, 195, [iv year, iv month, iv dom], fun x => .tup [iv x.1, iv x.2], true, calendar_Day year month dom, True, fun _ => calendar_Day_fn year month dom, fun _ => True, trivial⟩
noncomputable def calendar_AddMonths_sk (day : Int) (n : Int) : Sk (Int × Int) :=
 .r 1 ((calendar_valid_k day).c) fun x1 =>
 .br (((!x1) || (decide (n < (-5000)))) || (decide (n > 5000)))
 (.fin (0, 3))
 (.r 3 ((calendar_civil_k day).c) fun x2 =>
 .r 5 (.andl (.p ((12 : Int) ≠ 0)) (.p ((12 : Int) ≠ 0))) fun _ =>
 .r 6 (.dep ((calendar_length_k (w64 ((w64 ((w64 ((w64 ((w64 ((12 : Int) * x2.1)) + x2.2.1)) - 1)) + n)).tdiv 12)) (w64 (((w64 ((w64 ((w64 ((w64 ((12 : Int) * x2.1)) + x2.2.1)) - 1)) + n)).tmod 12) + 1))).c) fun x3 => (calendar_Day_k (w64 ((w64 ((w64 ((w64 ((w64 ((12 : Int) * x2.1)) + x2.2.1)) - 1)) + n)).tdiv 12)) (w64 (((w64 ((w64 ((w64 ((w64 ((12 : Int) * x2.1)) + x2.2.1)) - 1)) + n)).tmod 12) + 1)) (minI x2.2.2 x3)).c) fun p5 =>
 .fin (p5.2.1, p5.2.2))
noncomputable def calendar_AddMonths (day : Int) (n : Int) : Int × Int := (calendar_AddMonths_sk day n).val
theorem calendar_AddMonths_ok (day : Int) (n : Int) : (calendar_AddMonths_sk day n).obs (fun _ => True) := by
  refine Sk.obs_of _ ?_
  unfold calendar_AddMonths_sk
  simp only [Sk.obq, Sk.isLoop, reduceCtorEq, leafB, leafJ, Cal.z, Cal.p, Cal.t, Cal.pt, Cal.o, Cal.and, Cal.andl, Cal.andr, Cal.wh, Cal.dep, Cal.depr, Ctr.c, Ctr.nil, Ctr.nilc, CtrO.c, CtrO.nil, calendar_Day_k, calendar_civil_k, calendar_length_k, calendar_valid_k, calendar_valid_eq, forall_eq, maxLen, implies_true, true_and, and_true, and_self, true_implies, false_implies, ixP, szP, mkP]
  all_goals (repeat' first | assumption | (apply And.intro) | (intro h))
  all_goals first | trivial | assumption | omega | ((try simp only [decide_eq_true_eq, decide_eq_false_iff_not, List.length_append, List.length_cons, List.length_nil, List.length_set, List.length_replicate, Bool.not_eq_true, Bool.not_eq_false, Int.not_lt, Int.not_le, Bool.and_eq_true, Bool.or_eq_true, Bool.and_eq_false_iff, Bool.or_eq_false_iff, Bool.not_eq_eq_eq_not, Bool.not_true, Bool.not_false, beq_iff_eq, bne_iff_ne, beq_eq_false_iff_ne, bne_eq_false_iff_eq, ne_eq, subL_length] at *) <;> first | omega | (refine (w64_id ?_ ?_).trans ?_ <;> omega) | (simp (disch := omega) only [w64_id] at *; omega) | (grind) | (simp_all; done) | (simp_all; omega))

theorem calendar_AddMonths_fn (day : Int) (n : Int) : FnA Tryz.prog 160 [iv day, iv n] [] (.tup [iv ((calendar_AddMonths day n).1), iv ((calendar_AddMonths day n).2)]) [] :=
  FnA.sk tok mixed (fun x => .tup [iv x.1, iv x.2]) (fun _ => []) Tryz.func160 rfl (by kernel_rfl) 3000 (calendar_AddMonths_sk day n) (by kernel_rfl) (calendar_AddMonths_ok day n)
noncomputable def calendar_AddMonths_k (day : Int) (n : Int) : Ctr (Int × Int) := ⟨Tryz.prog, 160, [iv day, iv n], fun x => .tup [iv x.1, iv x.2], true, calendar_AddMonths day n, True, fun _ => calendar_AddMonths_fn day n, fun _ => True, trivial⟩
noncomputable def tenor_after_sk (day : Int) (t : Tenor) : Sk (Int × Int) :=
 .br ((decide (t.n < 0)) || (decide (t.n > 20000)))
 (.fin (0, 3))
 (.br (t.unit == 1)
 (.r 4 ((calendar_AddMonths_k day t.n).c) fun x1 =>
 .fin (x1.1, x1.2))
 (.fin (w64 (day + t.n), 0)))
noncomputable def tenor_after (day : Int) (t : Tenor) : Int × Int := (tenor_after_sk day t).val
theorem tenor_after_ok (day : Int) (t : Tenor) : (tenor_after_sk day t).obs (fun _ => True) := by
  refine Sk.obs_of _ ?_
  unfold tenor_after_sk
  simp only [Sk.obq, Sk.isLoop, reduceCtorEq, leafB, leafJ, Cal.z, Cal.p, Cal.t, Cal.pt, Cal.o, Cal.and, Cal.andl, Cal.andr, Cal.wh, Cal.dep, Cal.depr, Ctr.c, Ctr.nil, Ctr.nilc, CtrO.c, CtrO.nil, calendar_AddMonths_k, maxLen, implies_true, true_and, and_true, and_self, true_implies, false_implies, ixP, szP, mkP]

theorem tenor_after_fn (day : Int) (t : Tenor) : FnA Tryz.prog 128 [iv day, av t.cells] [] (.tup [iv ((tenor_after day t).1), iv ((tenor_after day t).2)]) [] :=
  FnA.sk tok mixed (fun x => .tup [iv x.1, iv x.2]) (fun _ => []) Tryz.func128 rfl (by kernel_rfl) 3000 (tenor_after_sk day t) (by kernel_rfl) (tenor_after_ok day t)
noncomputable def tenor_after_k (day : Int) (t : Tenor) : Ctr (Int × Int) := ⟨Tryz.prog, 128, [iv day, av t.cells], fun x => .tup [iv x.1, iv x.2], true, tenor_after day t, True, fun _ => tenor_after_fn day t, fun _ => True, trivial⟩
noncomputable def realm_Usance_sk (r : Realm) (from_ : Int) (to_ : Int) : Sk (Int × Int) :=
 .bind true (fun _ => True)
 (.loop (default : Sum (Int × Int) (Unit)) (fun i2 => i2 ≤ r.usances.length) (fun i2 => r.usances.length - i2) (0 : Nat)
 (fun (i2 : Nat) => ⟨[(13, iv ((i2 : Nat) : Int))], []⟩) fun i2 =>
 .bnd 11 0 r.usances.length <|
 .br (decide (((i2 : Nat) : Int) < ((r.usances.length : Nat) : Int)))
 (.r 3 (.p (ixP ((i2 : Nat) : Int) r.usances.length)) fun _ =>
 .br ((((r.usances.getD i2 default).from_) == from_) && (((r.usances.getD i2 default).to_) == to_))
 (.fin (.inl (.inl ((r.usances.getD i2 default).days, 0))))
 (.r 6 .z fun _ =>
 .wi 13 (w64 (((i2 : Nat) : Int) + 1)) ((i2 + 1 : Nat) : Int) <|
 .fin (.inr (i2 + 1))))
 (.fin (.inl (.inr ()))))
 (fun (_ : Unit) => ⟨[], []⟩) fun _ =>
 .fin (0, 4)
noncomputable def realm_Usance (r : Realm) (from_ : Int) (to_ : Int) : Int × Int := (realm_Usance_sk r from_ to_).val
theorem realm_Usance_ok (r : Realm) (from_ : Int) (to_ : Int) : (realm_Usance_sk r from_ to_).obs (fun _ => True) := by
  refine Sk.obs_of _ ?_
  unfold realm_Usance_sk
  simp only [Sk.obq, Sk.isLoop, reduceCtorEq, leafB, leafJ, Cal.z, Cal.p, Cal.t, Cal.pt, Cal.o, Cal.and, Cal.andl, Cal.andr, Cal.wh, Cal.dep, Cal.depr, Ctr.c, Ctr.nil, Ctr.nilc, CtrO.c, CtrO.nil, maxLen, implies_true, true_and, and_true, and_self, true_implies, false_implies, ixP, szP, mkP]
  all_goals (repeat' first | assumption | (apply And.intro) | (intro h))
  all_goals first | trivial | assumption | omega | ((try simp only [decide_eq_true_eq, decide_eq_false_iff_not, List.length_append, List.length_cons, List.length_nil, List.length_set, List.length_replicate, Bool.not_eq_true, Bool.not_eq_false, Int.not_lt, Int.not_le, Bool.and_eq_true, Bool.or_eq_true, Bool.and_eq_false_iff, Bool.or_eq_false_iff, Bool.not_eq_eq_eq_not, Bool.not_true, Bool.not_false, beq_iff_eq, bne_iff_ne, beq_eq_false_iff_ne, bne_eq_false_iff_eq, ne_eq, subL_length] at *) <;> first | omega | (refine (w64_id ?_ ?_).trans ?_ <;> omega) | (simp (disch := omega) only [w64_id] at *; omega) | (grind) | (simp_all; done) | (simp_all; omega))

theorem realm_Usance_fn (r : Realm) (from_ : Int) (to_ : Int) : FnA Tryz.prog 90 [av r.cells, iv from_, iv to_] [] (.tup [iv ((realm_Usance r from_ to_).1), iv ((realm_Usance r from_ to_).2)]) [] :=
  FnA.sk tok mixed (fun x => .tup [iv x.1, iv x.2]) (fun _ => []) Tryz.func90 rfl (by kernel_rfl) 3000 (realm_Usance_sk r from_ to_) (by kernel_rfl) (realm_Usance_ok r from_ to_)
noncomputable def realm_Usance_k (r : Realm) (from_ : Int) (to_ : Int) : Ctr (Int × Int) := ⟨Tryz.prog, 90, [av r.cells, iv from_, iv to_], fun x => .tup [iv x.1, iv x.2], true, realm_Usance r from_ to_, True, fun _ => realm_Usance_fn r from_ to_, fun _ => True, trivial⟩
noncomputable def tenor_base_sk (r : Realm) (b : Bill) (seen : Int) : Sk (Int × Int) :=
 .br (b.tenor.kind == 0)
 (.fin (seen, 0))
 (.br (b.tenor.kind == 1)
 (.r 5 ((tenor_after_k seen b.tenor).c) fun x1 =>
 .fin (x1.1, x1.2))
 (.br (b.tenor.kind == 2)
 (.r 7 ((tenor_after_k b.day b.tenor).c) fun x2 =>
 .fin (x2.1, x2.2))
 (.br (b.tenor.kind == 4)
 (.r 9 ((realm_Usance_k r b.city b.pay).c) fun x3 =>
 .fin (w64 (b.day + x3.1), x3.2))
 (.fin (b.tenor.n, 0)))))
noncomputable def tenor_base (r : Realm) (b : Bill) (seen : Int) : Int × Int := (tenor_base_sk r b seen).val
theorem tenor_base_ok (r : Realm) (b : Bill) (seen : Int) : (tenor_base_sk r b seen).obs (fun _ => True) := by
  refine Sk.obs_of _ ?_
  unfold tenor_base_sk
  simp only [Sk.obq, Sk.isLoop, reduceCtorEq, leafB, leafJ, Cal.z, Cal.p, Cal.t, Cal.pt, Cal.o, Cal.and, Cal.andl, Cal.andr, Cal.wh, Cal.dep, Cal.depr, Ctr.c, Ctr.nil, Ctr.nilc, CtrO.c, CtrO.nil, realm_Usance_k, tenor_after_k, maxLen, implies_true, true_and, and_true, and_self, true_implies, false_implies, ixP, szP, mkP]

theorem tenor_base_fn (r : Realm) (b : Bill) (seen : Int) : FnA Tryz.prog 85 [av r.cells, av b.cells, iv seen] [] (.tup [iv ((tenor_base r b seen).1), iv ((tenor_base r b seen).2)]) [] :=
  FnA.sk tok mixed (fun x => .tup [iv x.1, iv x.2]) (fun _ => []) Tryz.func85 rfl (by kernel_rfl) 3000 (tenor_base_sk r b seen) (by kernel_rfl) (tenor_base_ok r b seen)
noncomputable def tenor_base_k (r : Realm) (b : Bill) (seen : Int) : Ctr (Int × Int) := ⟨Tryz.prog, 85, [av r.cells, av b.cells, iv seen], fun x => .tup [iv x.1, iv x.2], true, tenor_base r b seen, True, fun _ => tenor_base_fn r b seen, fun _ => True, trivial⟩
noncomputable def tenor_skip_sk (r : Realm) (order : Int) (day : Int) : Sk (Int) :=
 .bind true (fun b1 => day ≤ b1 ∧ b1 ≤ 100001)
 (.loop (default : Sum (Int) (Int)) (fun i2 => day ≤ i2.1 ∧ i2.1 ≤ 100001) (fun i2 => 2 * (100001 - i2.1).toNat + (if i2.2 then 1 else 0)) ((day, true) : Int × Bool)
 (fun (i2 : Int × Bool) => ⟨[(2, iv i2.1), (7, bv i2.2)], []⟩) fun i2 =>
 .br i2.2
 (.bind true (fun b3 => i2.1 ≤ b3.1 ∧ b3.1 ≤ 100001 ∧ (b3.2.1 = true → i2.1 < b3.1) ∧ (b3.2.1 = false → b3.1 = i2.1))
 (.bind true (fun b4 => i2.1 ≤ b4.1 ∧ b4.1 ≤ 100001 ∧ (b4.2.1 = true → i2.1 < b4.1) ∧ (b4.2.1 = false → b4.1 = i2.1))
 (.loop (default : Sum (Sum (Sum (Sum (Int) (Int)) (Int × Bool)) (Int × Bool × (List Halt) × Int × Int × Bool)) (Int × Bool × Int × Bool)) (fun i5 => i5.2.2 ≤ r.halts.length ∧ i2.1 ≤ i5.1 ∧ i5.1 ≤ 100001 ∧ (i5.2.1 = true → i2.1 < i5.1) ∧ (i5.2.1 = false → i5.1 = i2.1)) (fun i5 => r.halts.length - i5.2.2) ((i2.1, false, 0) : Int × Bool × Nat)
 (fun (i5 : Int × Bool × Nat) => ⟨[(2, iv i5.1), (7, bv i5.2.1), (14, iv ((i5.2.2 : Nat) : Int))], []⟩) fun i5 =>
 .bnd 12 0 r.halts.length <|
 .br (decide (((i5.2.2 : Nat) : Int) < ((r.halts.length : Nat) : Int)))
 (.r 6 (.p (ixP ((i5.2.2 : Nat) : Int) r.halts.length)) fun _ =>
 .br (((((r.halts.getD i5.2.2 default).order) == order) && (decide (((r.halts.getD i5.2.2 default).from_) ≤ i5.1))) && (decide (i5.1 ≤ ((r.halts.getD i5.2.2 default).to_))))
 (.r 9 .z fun _ =>
 .wi 14 (w64 (((i5.2.2 : Nat) : Int) + 1)) ((i5.2.2 + 1 : Nat) : Int) <|
 .fin (.inr (w64 (((r.halts.getD i5.2.2 default).to_) + 1), true, i5.2.2 + 1)))
 (.r 9 .z fun _ =>
 .wi 14 (w64 (((i5.2.2 : Nat) : Int) + 1)) ((i5.2.2 + 1 : Nat) : Int) <|
 .fin (.inr (i5.1, i5.2.1, i5.2.2 + 1))))
 (.fin (.inl (.inr (i5.1, i5.2.1, ((i5.2.2 : Nat) : Int), decide (((i5.2.2 : Nat) : Int) < ((r.halts.length : Nat) : Int)))))))
 (fun (b4 : Int × Bool × Int × Bool) => ⟨[(2, iv b4.1), (7, bv b4.2.1), (14, iv b4.2.2.1), (15, bv b4.2.2.2)], []⟩) fun b4 =>
 .fin (.inr (b4.1, b4.2.1, r.halts, ((r.halts.length : Nat) : Int), b4.2.2.1, b4.2.2.2)))
 (fun (b3 : Int × Bool × (List Halt) × Int × Int × Bool) => ⟨[(2, iv b3.1), (7, bv b3.2.1), (12, lv Halt.cells b3.2.2.1), (13, iv b3.2.2.2.1), (14, iv b3.2.2.2.2.1), (15, bv b3.2.2.2.2.2)], []⟩) fun b3 =>
 .fin (.inr (b3.1, b3.2.1)))
 (.fin (.inl (.inr i2.1))))
 (fun (b1 : Int) => ⟨[(2, iv b1)], []⟩) fun b1 =>
 .fin b1
noncomputable def tenor_skip (r : Realm) (order : Int) (day : Int) : Int := (tenor_skip_sk r order day).val
theorem tenor_skip_pst (r : Realm) (order : Int) (day : Int) (hP : r.HaltOK ∧ 0 ≤ day ∧ day ≤ 100001) : (tenor_skip_sk r order day).pst (fun (x : Int) => day ≤ x ∧ x ≤ 100001) := by
  refine Sk.pst_of _ ?_
  unfold tenor_skip_sk
  simp only [Sk.pstq, Sk.isLoop, reduceCtorEq, leafB, leafJ, Cal.z, Cal.p, Cal.t, Cal.pt, Cal.o, Cal.and, Cal.andl, Cal.andr, Cal.wh, Cal.dep, Cal.depr, Ctr.c, Ctr.nil, Ctr.nilc, CtrO.c, CtrO.nil, Realm.HaltOK, maxLen, implies_true, true_and, and_true, and_self, true_implies, false_implies, ixP, szP, mkP]
  obtain ⟨hh, hd⟩ := hP
  refine ⟨⟨by omega, fun i hi => ⟨fun hch => ⟨⟨⟨⟨by omega, ⟨by omega, by omega⟩⟩, fun j hj => ⟨fun hc _ => ⟨fun ht _ => ⟨⟨?_, ?_⟩, ?_⟩, fun ht _ => ⟨⟨?_, hj.2⟩, ?_⟩⟩, fun hc => hj.2⟩⟩, fun b hb => hb⟩, fun b _ hb => ⟨?_, ?_⟩⟩, fun hch => hi⟩⟩, fun b hb => hb⟩
  all_goals (try simp only [decide_eq_true_eq, decide_eq_false_iff_not, List.length_append, List.length_cons, List.length_nil, List.length_set, List.length_replicate, Bool.not_eq_true, Bool.not_eq_false, Int.not_lt, Int.not_le, Bool.and_eq_true, Bool.or_eq_true, Bool.and_eq_false_iff, Bool.or_eq_false_iff, Bool.not_eq_eq_eq_not, Bool.not_true, Bool.not_false, beq_iff_eq, bne_iff_ne, beq_eq_false_iff_ne, bne_eq_false_iff_eq, ne_eq, subL_length] at hc)
  all_goals (try simp only [decide_eq_true_eq, decide_eq_false_iff_not, List.length_append, List.length_cons, List.length_nil, List.length_set, List.length_replicate, Bool.not_eq_true, Bool.not_eq_false, Int.not_lt, Int.not_le, Bool.and_eq_true, Bool.or_eq_true, Bool.and_eq_false_iff, Bool.or_eq_false_iff, Bool.not_eq_eq_eq_not, Bool.not_true, Bool.not_false, beq_iff_eq, bne_iff_ne, beq_eq_false_iff_ne, bne_eq_false_iff_eq, ne_eq, subL_length] at ht)
  · omega
  · have h2 := hh j.2.2 (by omega)
    rw [w64_id (by omega) (by omega)]
    omega
  · omega
  · omega
  · omega
  · omega
  · rw [if_pos hch]
    cases hb2 : b.2.1 with
    | true => have := hb.2.2.1 hb2; simp only [if_true]; omega
    | false => have := hb.2.2.2 hb2; simp only [Bool.false_eq_true, if_false]; omega

theorem tenor_skip_post (r : Realm) (order : Int) (day : Int) : (fun (x : Int) => (r.HaltOK ∧ 0 ≤ day ∧ day ≤ 100001) → (day ≤ x ∧ x ≤ 100001)) (tenor_skip r order day) := fun hP => Sk.pval _ (tenor_skip_pst r order day hP)
theorem tenor_skip_ok (r : Realm) (order : Int) (day : Int) (hh : r.HaltOK) (hd : 0 ≤ day ∧ day ≤ 100001) : (tenor_skip_sk r order day).obs (fun _ => True) := by
  simp only [Realm.HaltOK] at hh
  refine Sk.obs_of _ ?_
  unfold tenor_skip_sk
  simp only [Sk.obq, Sk.isLoop, reduceCtorEq, leafB, leafJ, Cal.z, Cal.p, Cal.t, Cal.pt, Cal.o, Cal.and, Cal.andl, Cal.andr, Cal.wh, Cal.dep, Cal.depr, Ctr.c, Ctr.nil, Ctr.nilc, CtrO.c, CtrO.nil, Realm.HaltOK, maxLen, implies_true, true_and, and_true, and_self, true_implies, false_implies, ixP, szP, mkP]
  refine ⟨⟨by omega, by omega⟩, fun i hi => ⟨fun hch => ⟨⟨⟨⟨by omega, by omega, by omega⟩, fun j hj hl => ⟨fun hc => ⟨⟨by omega, of_decide_eq_true hc⟩, fun _ => ⟨fun ht _ => ⟨?_, ⟨?_, ?_⟩, ?_⟩, fun ht _ => ⟨?_, ⟨?_, hj.2⟩, ?_⟩⟩⟩, fun hc => hj.2⟩⟩, fun b hb => hb⟩, fun b _ hb => ⟨?_, ?_⟩⟩, fun hch => hi⟩⟩
  all_goals (try simp only [decide_eq_true_eq, decide_eq_false_iff_not, List.length_append, List.length_cons, List.length_nil, List.length_set, List.length_replicate, Bool.not_eq_true, Bool.not_eq_false, Int.not_lt, Int.not_le, Bool.and_eq_true, Bool.or_eq_true, Bool.and_eq_false_iff, Bool.or_eq_false_iff, Bool.not_eq_eq_eq_not, Bool.not_true, Bool.not_false, beq_iff_eq, bne_iff_ne, beq_eq_false_iff_ne, bne_eq_false_iff_eq, ne_eq, subL_length] at hc)
  all_goals (try simp only [decide_eq_true_eq, decide_eq_false_iff_not, List.length_append, List.length_cons, List.length_nil, List.length_set, List.length_replicate, Bool.not_eq_true, Bool.not_eq_false, Int.not_lt, Int.not_le, Bool.and_eq_true, Bool.or_eq_true, Bool.and_eq_false_iff, Bool.or_eq_false_iff, Bool.not_eq_eq_eq_not, Bool.not_true, Bool.not_false, beq_iff_eq, bne_iff_ne, beq_eq_false_iff_ne, bne_eq_false_iff_eq, ne_eq, subL_length] at ht)
  · exact w64_id (by omega) (by omega)
  · omega
  · have h2 := hh j.2.2 (by omega)
    rw [w64_id (by omega) (by omega)]
    omega
  · omega
  · exact w64_id (by omega) (by omega)
  · omega
  · omega
  · omega
  · rw [if_pos hch]
    cases hb2 : b.2.1 with
    | true => have := hb.2.2.1 hb2; simp only [if_true]; omega
    | false => have := hb.2.2.2 hb2; simp only [Bool.false_eq_true, if_false]; omega

theorem tenor_skip_fn (r : Realm) (order : Int) (day : Int) (hh : r.HaltOK) (hd : 0 ≤ day ∧ day ≤ 100001) : FnA Tryz.prog 130 [av r.cells, iv order, iv day] [] (iv (tenor_skip r order day)) [] :=
  FnA.sk tok mixed (fun x => iv x) (fun _ => []) Tryz.func130 rfl (by kernel_rfl) 3000 (tenor_skip_sk r order day) (by kernel_rfl) (tenor_skip_ok r order day hh hd)
noncomputable def tenor_skip_k (r : Realm) (order : Int) (day : Int) : Ctr (Int) := ⟨Tryz.prog, 130, [av r.cells, iv order, iv day], fun x => iv x, true, tenor_skip r order day, (r.HaltOK) ∧ (0 ≤ day ∧ day ≤ 100001), fun h => tenor_skip_fn r order day h.1 h.2, fun (x : Int) => (r.HaltOK ∧ 0 ≤ day ∧ day ≤ 100001) → (day ≤ x ∧ x ≤ 100001), tenor_skip_post r order day⟩
noncomputable def calendar_open_sk (c_ : City) (day : Int) : Sk (Bool) :=
 .r 1 ((calendar_civil_k day).c) fun x1 =>
 .r 2 (.andl (.p ((7 : Int) ≠ 0)) (.dep ((slices_Contains_k c_.rest ((w64 (day + 5)).tmod 7)).c) fun x2 => .dep (.wh (!x2) true ((slices_Contains_k c_.feasts (w64 ((w64 ((100 : Int) * x1.2.1)) + x1.2.2))).c)) fun x3 => .wh ((!x2) && (!x3)) true ((slices_Contains_k c_.shut day).c))) fun p5 =>
 .fin (((!p5.1) && (!p5.2.1)) && (!p5.2.2))
noncomputable def calendar_open (c_ : City) (day : Int) : Bool := (calendar_open_sk c_ day).val
theorem calendar_open_ok (c_ : City) (day : Int) : (calendar_open_sk c_ day).obs (fun _ => True) := by
  refine Sk.obs_of _ ?_
  unfold calendar_open_sk
  simp only [Sk.obq, Sk.isLoop, reduceCtorEq, leafB, leafJ, Cal.z, Cal.p, Cal.t, Cal.pt, Cal.o, Cal.and, Cal.andl, Cal.andr, Cal.wh, Cal.dep, Cal.depr, Ctr.c, Ctr.nil, Ctr.nilc, CtrO.c, CtrO.nil, calendar_civil_k, slices_Contains_k, maxLen, implies_true, true_and, and_true, and_self, true_implies, false_implies, ixP, szP, mkP]
  all_goals (repeat' first | assumption | (apply And.intro) | (intro h))
  all_goals first | trivial | assumption | omega | ((try simp only [decide_eq_true_eq, decide_eq_false_iff_not, List.length_append, List.length_cons, List.length_nil, List.length_set, List.length_replicate, Bool.not_eq_true, Bool.not_eq_false, Int.not_lt, Int.not_le, Bool.and_eq_true, Bool.or_eq_true, Bool.and_eq_false_iff, Bool.or_eq_false_iff, Bool.not_eq_eq_eq_not, Bool.not_true, Bool.not_false, beq_iff_eq, bne_iff_ne, beq_eq_false_iff_ne, bne_eq_false_iff_eq, ne_eq, subL_length] at *) <;> first | omega | (refine (w64_id ?_ ?_).trans ?_ <;> omega) | (simp (disch := omega) only [w64_id] at *; omega) | (grind) | (simp_all; done) | (simp_all; omega))

theorem calendar_open_fn (c_ : City) (day : Int) : FnA Tryz.prog 198 [av c_.cells, iv day] [] (bv (calendar_open c_ day)) [] :=
  FnA.sk tok mixed (fun x => bv x) (fun _ => []) Tryz.func198 rfl (by kernel_rfl) 3000 (calendar_open_sk c_ day) (by kernel_rfl) (calendar_open_ok c_ day)
noncomputable def calendar_open_k (c_ : City) (day : Int) : Ctr (Bool) := ⟨Tryz.prog, 198, [av c_.cells, iv day], fun x => bv x, true, calendar_open c_ day, True, fun _ => calendar_open_fn c_ day, fun _ => True, trivial⟩
end Go.Proofs.YtggilgghigileaaGreatDoor
