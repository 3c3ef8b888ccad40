/- Functions, as sketches. -/
import Derived.Test.YtggilgghigileaaGreatDoorRk6
namespace Go.Proofs.YtggilgghigileaaGreatDoor
open Go Go.Av
set_option linter.unusedSimpArgs false
set_option linter.unusedVariables false
set_option maxHeartbeats 1000000
set_option maxRecDepth 100000
noncomputable def record_Seen_sk (f : File) : Sk (Int) :=
 .bind true (fun b1 => b1.length ≤ 0 + f.signs.length)
 (.loop (default : Sum (Int) ((List Int))) (fun i2 => i2.2 ≤ f.signs.length ∧ i2.1.length ≤ 0 + i2.2) (fun i2 => f.signs.length - i2.2) (([], 0) : (List Int) × Nat)
 (fun (i2 : (List Int) × Nat) => ⟨[(3, ow 100002 i2.1), (16, iv ((i2.2 : Nat) : Int))], [(100002, rowB 3 1 intC i2.1)]⟩) fun i2 =>
 .bnd 14 0 f.signs.length <|
 .br (decide (((i2.2 : Nat) : Int) < ((f.signs.length : Nat) : Int)))
 (.r 5 (.p (ixP ((i2.2 : Nat) : Int) f.signs.length)) fun _ =>
 .br ((f.bill.tenor.kind == 1) && (((f.signs.getD i2.2 default).kind) == 1))
 (.r 7 (.andl (.o [.nrm (litC intE [(f.signs.getD i2.2 default).day])]) (.andl (.o [.nrm (catC intE i2.1 [(f.signs.getD i2.2 default).day])]) (.andl (.t (intE.ones [(f.signs.getD i2.2 default).day])) (.p (szP i2.1.length [(f.signs.getD i2.2 default).day].length 8))))) fun _ =>
 .r 8 .z fun _ =>
 .wi 16 (w64 (((i2.2 : Nat) : Int) + 1)) ((i2.2 + 1 : Nat) : Int) <|
 .fin (.inr (i2.1 ++ [(f.signs.getD i2.2 default).day], i2.2 + 1)))
 (.r 8 .z fun _ =>
 .wi 16 (w64 (((i2.2 : Nat) : Int) + 1)) ((i2.2 + 1 : Nat) : Int) <|
 .fin (.inr (i2.1, i2.2 + 1))))
 (.fin (.inl (.inr i2.1))))
 (fun (b1 : (List Int)) => ⟨[(3, ow 100001 b1)], [(100001, rowB 3 1 intC b1)]⟩) fun b1 =>
 .bind true (fun b3 => b3.length ≤ b1.length + f.acts.length)
 (.loop (default : Sum (Int) ((List Int))) (fun i4 => i4.2 ≤ f.acts.length ∧ i4.1.length ≤ b1.length + i4.2) (fun i4 => f.acts.length - i4.2) ((b1, 0) : (List Int) × Nat)
 (fun (i4 : (List Int) × Nat) => ⟨[(3, ow 100005 i4.1), (36, iv ((i4.2 : Nat) : Int))], [(100005, rowB 3 1 intC i4.1)]⟩) fun i4 =>
 .bnd 34 0 f.acts.length <|
 .br (decide (((i4.2 : Nat) : Int) < ((f.acts.length : Nat) : Int)))
 (.r 11 (.p (ixP ((i4.2 : Nat) : Int) f.acts.length)) fun _ =>
 .br ((f.bill.tenor.kind == 0) && (((f.acts.getD i4.2 default).kind) == 2))
 (.fin (.inl (.inl ((f.acts.getD i4.2 default).day))))
 (.br ((f.bill.tenor.kind == 1) && (((f.acts.getD i4.2 default).kind) == 1))
 (.r 15 (.andl (.o [.nrm (litC intE [(f.acts.getD i4.2 default).day])]) (.andl (.o [.nrm (catC intE i4.1 [(f.acts.getD i4.2 default).day])]) (.andl (.t (intE.ones [(f.acts.getD i4.2 default).day])) (.p (szP i4.1.length [(f.acts.getD i4.2 default).day].length 8))))) fun _ =>
 .r 16 .z fun _ =>
 .wi 36 (w64 (((i4.2 : Nat) : Int) + 1)) ((i4.2 + 1 : Nat) : Int) <|
 .fin (.inr (i4.1 ++ [(f.acts.getD i4.2 default).day], i4.2 + 1)))
 (.r 16 .z fun _ =>
 .wi 36 (w64 (((i4.2 : Nat) : Int) + 1)) ((i4.2 + 1 : Nat) : Int) <|
 .fin (.inr (i4.1, i4.2 + 1)))))
 (.fin (.inl (.inr i4.1))))
 (fun (b3 : (List Int)) => ⟨[(3, ow 100004 b3)], [(100004, rowB 3 1 intC b3)]⟩) fun b3 =>
 .br (((b3.length : Nat) : Int) == 0)
 (.fin (-1))
 (.r 19 ((slices_Min_k b3).c) fun x5 =>
 .fin x5)
noncomputable def record_Seen (f : File) : Int := (record_Seen_sk f).val
theorem record_Seen_ok (f : File) (hf : f.Small) : (record_Seen_sk f).obs (fun _ => True) := by
  simp only [File.Small, Realm.Small] at hf
  refine Sk.obs_of _ ?_
  unfold record_Seen_sk
  simp only [Sk.obq, Sk.isLoop, reduceCtorEq, leafB, leafJ, Cal.z, Cal.p, Cal.t, Cal.pt, Cal.o, Cal.and, Cal.andl, Cal.andr, Cal.wh, Cal.dep, Cal.depr, Ctr.c, Ctr.nil, Ctr.nilc, CtrO.c, CtrO.nil, slices_Min_k, File.Small, Realm.Small, maxLen, implies_true, true_and, and_true, and_self, true_implies, false_implies, ixP, szP, mkP]
  all_goals (repeat' first | assumption | (apply And.intro) | (intro h))
  all_goals first | trivial | assumption | omega | ((try simp only [decide_eq_true_eq, decide_eq_false_iff_not, List.length_append, List.length_cons, List.length_nil, List.length_set, List.length_replicate, Bool.not_eq_true, Bool.not_eq_false, Int.not_lt, Int.not_le, Bool.and_eq_true, Bool.or_eq_true, Bool.and_eq_false_iff, Bool.or_eq_false_iff, Bool.not_eq_eq_eq_not, Bool.not_true, Bool.not_false, beq_iff_eq, bne_iff_ne, beq_eq_false_iff_ne, bne_eq_false_iff_eq, ne_eq, subL_length] at *) <;> first | omega | (refine (w64_id ?_ ?_).trans ?_ <;> omega) | (simp (disch := omega) only [w64_id] at *; omega) | (grind) | (simp_all; done) | (simp_all; omega))

theorem record_Seen_fn (f : File) (hf : f.Small) : FnA Tryz.prog 45 [av f.cells] [] (iv (record_Seen f)) [] :=
  FnA.sk tok mixed (fun x => iv x) (fun _ => []) Tryz.func45 rfl (by kernel_rfl) 3000 (record_Seen_sk f) (by kernel_rfl) (record_Seen_ok f hf)
noncomputable def record_Seen_k (f : File) : Ctr (Int) := ⟨Tryz.prog, 45, [av f.cells], fun x => iv x, true, record_Seen f, (f.Small), fun h => record_Seen_fn f h, fun _ => True, trivial⟩
noncomputable def realm_names_sk (r : Realm) : Sk ((List ByteArray) × (List ByteArray) × (List ByteArray)) :=
 .bind true (fun b1 => b1.length ≤ 0 + r.cities.length)
 (.loop (default : Sum ((List ByteArray) × (List ByteArray) × (List ByteArray)) ((List ByteArray))) (fun i2 => i2.2 ≤ r.cities.length ∧ i2.1.length ≤ 0 + i2.2) (fun i2 => r.cities.length - i2.2) (([], 0) : (List ByteArray) × Nat)
 (fun (i2 : (List ByteArray) × Nat) => ⟨[(2, ow 100002 i2.1), (14, iv ((i2.2 : Nat) : Int))], [(100002, rowB 9 1 strC i2.1)]⟩) fun i2 =>
 .bnd 12 0 r.cities.length <|
 .br (decide (((i2.2 : Nat) : Int) < ((r.cities.length : Nat) : Int)))
 (.r 3 (.p (ixP ((i2.2 : Nat) : Int) r.cities.length)) fun _ =>
 .r 4 (.andl (.o [.nrm (litC strE [(r.cities.getD i2.2 default).name])]) (.andl (.o [.nrm (catC strE i2.1 [(r.cities.getD i2.2 default).name])]) (.andl (.t (strE.ones [(r.cities.getD i2.2 default).name])) (.p (szP i2.1.length [(r.cities.getD i2.2 default).name].length 16))))) fun _ =>
 .r 5 .z fun _ =>
 .wi 14 (w64 (((i2.2 : Nat) : Int) + 1)) ((i2.2 + 1 : Nat) : Int) <|
 .fin (.inr (i2.1 ++ [(r.cities.getD i2.2 default).name], i2.2 + 1)))
 (.fin (.inl (.inr i2.1))))
 (fun (b1 : (List ByteArray)) => ⟨[(2, ow 100001 b1)], [(100001, rowB 9 1 strC b1)]⟩) fun b1 =>
 .bind true (fun b3 => b3.length ≤ 0 + r.firms.length)
 (.loop (default : Sum ((List ByteArray) × (List ByteArray) × (List ByteArray)) ((List ByteArray))) (fun i4 => i4.2 ≤ r.firms.length ∧ i4.1.length ≤ 0 + i4.2) (fun i4 => r.firms.length - i4.2) (([], 0) : (List ByteArray) × Nat)
 (fun (i4 : (List ByteArray) × Nat) => ⟨[(3, ow 100005 i4.1), (27, iv ((i4.2 : Nat) : Int))], [(100005, rowB 9 1 strC i4.1)]⟩) fun i4 =>
 .bnd 25 0 r.firms.length <|
 .br (decide (((i4.2 : Nat) : Int) < ((r.firms.length : Nat) : Int)))
 (.r 8 (.p (ixP ((i4.2 : Nat) : Int) r.firms.length)) fun _ =>
 .r 9 (.andl (.o [.nrm (litC strE [(r.firms.getD i4.2 default).name])]) (.andl (.o [.nrm (catC strE i4.1 [(r.firms.getD i4.2 default).name])]) (.andl (.t (strE.ones [(r.firms.getD i4.2 default).name])) (.p (szP i4.1.length [(r.firms.getD i4.2 default).name].length 16))))) fun _ =>
 .r 10 .z fun _ =>
 .wi 27 (w64 (((i4.2 : Nat) : Int) + 1)) ((i4.2 + 1 : Nat) : Int) <|
 .fin (.inr (i4.1 ++ [(r.firms.getD i4.2 default).name], i4.2 + 1)))
 (.fin (.inl (.inr i4.1))))
 (fun (b3 : (List ByteArray)) => ⟨[(3, ow 100004 b3)], [(100004, rowB 9 1 strC b3)]⟩) fun b3 =>
 .bind true (fun b5 => b5.length ≤ 0 + r.orders.length)
 (.loop (default : Sum ((List ByteArray) × (List ByteArray) × (List ByteArray)) ((List ByteArray))) (fun i6 => i6.2 ≤ r.orders.length ∧ i6.1.length ≤ 0 + i6.2) (fun i6 => r.orders.length - i6.2) (([], 0) : (List ByteArray) × Nat)
 (fun (i6 : (List ByteArray) × Nat) => ⟨[(4, ow 100008 i6.1), (40, iv ((i6.2 : Nat) : Int))], [(100008, rowB 9 1 strC i6.1)]⟩) fun i6 =>
 .bnd 38 0 r.orders.length <|
 .br (decide (((i6.2 : Nat) : Int) < ((r.orders.length : Nat) : Int)))
 (.r 13 (.p (ixP ((i6.2 : Nat) : Int) r.orders.length)) fun _ =>
 .r 14 (.andl (.o [.nrm (litC strE [(r.orders.getD i6.2 default).name])]) (.andl (.o [.nrm (catC strE i6.1 [(r.orders.getD i6.2 default).name])]) (.andl (.t (strE.ones [(r.orders.getD i6.2 default).name])) (.p (szP i6.1.length [(r.orders.getD i6.2 default).name].length 16))))) fun _ =>
 .r 15 .z fun _ =>
 .wi 40 (w64 (((i6.2 : Nat) : Int) + 1)) ((i6.2 + 1 : Nat) : Int) <|
 .fin (.inr (i6.1 ++ [(r.orders.getD i6.2 default).name], i6.2 + 1)))
 (.fin (.inl (.inr i6.1))))
 (fun (b5 : (List ByteArray)) => ⟨[(4, ow 100007 b5)], [(100007, rowB 9 1 strC b5)]⟩) fun b5 =>
 .fin (b1, b3, b5)
noncomputable def realm_names (r : Realm) : (List ByteArray) × (List ByteArray) × (List ByteArray) := (realm_names_sk r).val
theorem realm_names_pst (r : Realm) : (realm_names_sk r).pst (fun (x : (List ByteArray) × (List ByteArray) × (List ByteArray)) => x.1.length ≤ r.cities.length ∧ x.2.1.length ≤ r.firms.length ∧ x.2.2.length ≤ r.orders.length) := by
  refine Sk.pst_of _ ?_
  unfold realm_names_sk
  simp only [Sk.pstq, Sk.isLoop, reduceCtorEq, leafB, leafJ, Cal.z, Cal.p, Cal.t, Cal.pt, Cal.o, Cal.and, Cal.andl, Cal.andr, Cal.wh, Cal.dep, Cal.depr, Ctr.c, Ctr.nil, Ctr.nilc, CtrO.c, CtrO.nil, File.Small, Realm.Small, maxLen, implies_true, true_and, and_true, and_self, true_implies, false_implies, ixP, szP, mkP]
  all_goals (repeat' first | assumption | (apply And.intro) | (intro h))
  all_goals first | trivial | assumption | omega | ((try simp only [decide_eq_true_eq, decide_eq_false_iff_not, List.length_append, List.length_cons, List.length_nil, List.length_set, List.length_replicate, Bool.not_eq_true, Bool.not_eq_false, Int.not_lt, Int.not_le, Bool.and_eq_true, Bool.or_eq_true, Bool.and_eq_false_iff, Bool.or_eq_false_iff, Bool.not_eq_eq_eq_not, Bool.not_true, Bool.not_false, beq_iff_eq, bne_iff_ne, beq_eq_false_iff_ne, bne_eq_false_iff_eq, ne_eq, subL_length] at *) <;> first | omega | (refine (w64_id ?_ ?_).trans ?_ <;> omega) | (simp (disch := omega) only [w64_id] at *; omega) | (grind) | (simp_all; done) | (simp_all; omega))

theorem realm_names_post (r : Realm) : (fun (x : (List ByteArray) × (List ByteArray) × (List ByteArray)) => x.1.length ≤ r.cities.length ∧ x.2.1.length ≤ r.firms.length ∧ x.2.2.length ≤ r.orders.length) (realm_names r) := Sk.pval _ (realm_names_pst r)
theorem realm_names_ok (r : Realm) (hr : r.Small) : (realm_names_sk r).obs (fun _ => True) := by
  simp only [File.Small, Realm.Small] at hr
  refine Sk.obs_of _ ?_
  unfold realm_names_sk
  simp only [Sk.obq, Sk.isLoop, reduceCtorEq, leafB, leafJ, Cal.z, Cal.p, Cal.t, Cal.pt, Cal.o, Cal.and, Cal.andl, Cal.andr, Cal.wh, Cal.dep, Cal.depr, Ctr.c, Ctr.nil, Ctr.nilc, CtrO.c, CtrO.nil, File.Small, Realm.Small, maxLen, implies_true, true_and, and_true, and_self, true_implies, false_implies, ixP, szP, mkP]
  all_goals (repeat' first | assumption | (apply And.intro) | (intro h))
  all_goals first | trivial | assumption | omega | ((try simp only [decide_eq_true_eq, decide_eq_false_iff_not, List.length_append, List.length_cons, List.length_nil, List.length_set, List.length_replicate, Bool.not_eq_true, Bool.not_eq_false, Int.not_lt, Int.not_le, Bool.and_eq_true, Bool.or_eq_true, Bool.and_eq_false_iff, Bool.or_eq_false_iff, Bool.not_eq_eq_eq_not, Bool.not_true, Bool.not_false, beq_iff_eq, bne_iff_ne, beq_eq_false_iff_ne, bne_eq_false_iff_eq, ne_eq, subL_length] at *) <;> first | omega | (refine (w64_id ?_ ?_).trans ?_ <;> omega) | (simp (disch := omega) only [w64_id] at *; omega) | (grind) | (simp_all; done) | (simp_all; omega))

theorem realm_names_fn (r : Realm) (hr : r.Small) : FnA Tryz.prog 117 [av r.cells] [] (.tup [lv strC ((realm_names r).1), lv strC ((realm_names r).2.1), lv strC ((realm_names r).2.2)]) [] :=
  FnA.sk tok mixed (fun x => .tup [lv strC x.1, lv strC x.2.1, lv strC x.2.2]) (fun _ => []) Tryz.func117 rfl (by kernel_rfl) 3000 (realm_names_sk r) (by kernel_rfl) (realm_names_ok r hr)
noncomputable def realm_names_k (r : Realm) : Ctr ((List ByteArray) × (List ByteArray) × (List ByteArray)) := ⟨Tryz.prog, 117, [av r.cells], fun x => .tup [lv strC x.1, lv strC x.2.1, lv strC x.2.2], false, realm_names r, (r.Small), fun h => realm_names_fn r h, fun (x : (List ByteArray) × (List ByteArray) × (List ByteArray)) => x.1.length ≤ r.cities.length ∧ x.2.1.length ≤ r.firms.length ∧ x.2.2.length ≤ r.orders.length, realm_names_post r⟩
noncomputable def realm_isName_sk (s : ByteArray) : Sk (Bool) :=
 .br ((s.toList == (⟨#[]⟩ : ByteArray).toList) || (decide (((s.size : Nat) : Int) > 20)))
 (.fin false)
 (.r 3 (.andl (.o [.nrm (bytesC s)]) (.p (s.size ≤ maxLen))) fun _ =>
 .bind true (fun _ => True)
 (.loop (default : Sum (Bool) (Unit)) (fun i2 => i2 ≤ (bytesL s).length) (fun i2 => (bytesL s).length - i2) (0 : Nat)
 (fun (i2 : Nat) => ⟨[(16, iv ((i2 : Nat) : Int))], []⟩) fun i2 =>
 .bnd 14 0 ((bytesL s).length) <|
 .br (decide (((i2 : Nat) : Int) < (((bytesL s).length : Nat) : Int)))
 (.r 5 (.p (ixP ((i2 : Nat) : Int) ((bytesL s).length))) fun _ =>
 .br ((!(((decide (((bytesL s).getD i2 default) ≥ 97)) && (decide (((bytesL s).getD i2 default) ≤ 122))) || ((decide (((bytesL s).getD i2 default) ≥ 65)) && (decide (((bytesL s).getD i2 default) ≤ 90))))) && ((((i2 : Nat) : Int) == 0) || ((((bytesL s).getD i2 default) != 95) && ((decide (((bytesL s).getD i2 default) < 48)) || (decide (((bytesL s).getD i2 default) > 57))))))
 (.fin (.inl (.inl false)))
 (.r 9 .z fun _ =>
 .wi 16 (w64 (((i2 : Nat) : Int) + 1)) ((i2 + 1 : Nat) : Int) <|
 .fin (.inr (i2 + 1))))
 (.fin (.inl (.inr ()))))
 (fun (_ : Unit) => ⟨[], []⟩) fun _ =>
 .fin true)
noncomputable def realm_isName (s : ByteArray) : Bool := (realm_isName_sk s).val
theorem realm_isName_ok (s : ByteArray) : (realm_isName_sk s).obs (fun _ => True) := by
  refine Sk.obs_of _ ?_
  unfold realm_isName_sk
  simp only [Sk.obq, Sk.isLoop, reduceCtorEq, leafB, leafJ, Cal.z, Cal.p, Cal.t, Cal.pt, Cal.o, Cal.and, Cal.andl, Cal.andr, Cal.wh, Cal.dep, Cal.depr, Ctr.c, Ctr.nil, Ctr.nilc, CtrO.c, CtrO.nil, maxLen, implies_true, true_and, and_true, and_self, true_implies, false_implies, ixP, szP, mkP]
  all_goals (repeat' first | assumption | (apply And.intro) | (intro h))
  all_goals first | trivial | assumption | omega | ((try simp only [decide_eq_true_eq, decide_eq_false_iff_not, List.length_append, List.length_cons, List.length_nil, List.length_set, List.length_replicate, Bool.not_eq_true, Bool.not_eq_false, Int.not_lt, Int.not_le, Bool.and_eq_true, Bool.or_eq_true, Bool.and_eq_false_iff, Bool.or_eq_false_iff, Bool.not_eq_eq_eq_not, Bool.not_true, Bool.not_false, beq_iff_eq, bne_iff_ne, beq_eq_false_iff_ne, bne_eq_false_iff_eq, ne_eq, subL_length] at *) <;> first | omega | (refine (w64_id ?_ ?_).trans ?_ <;> omega) | (simp (disch := omega) only [w64_id] at *; omega) | (grind) | (simp_all; done) | (simp_all; omega))

theorem realm_isName_fn (s : ByteArray) : FnA Tryz.prog 192 [sv s] [] (bv (realm_isName s)) [] :=
  FnA.sk tok mixed (fun x => bv x) (fun _ => []) Tryz.func192 rfl (by kernel_rfl) 3000 (realm_isName_sk s) (by kernel_rfl) (realm_isName_ok s)
noncomputable def realm_isName_k (s : ByteArray) : Ctr (Bool) := ⟨Tryz.prog, 192, [sv s], fun x => bv x, true, realm_isName s, True, fun _ => realm_isName_fn s, fun _ => True, trivial⟩
noncomputable def slices_Index_2_sk (s : List ByteArray) (v : ByteArray) : Sk (Int) :=
 .bind true (fun b1 => ∀ q, q < s.length → ((s.getD q default).toList == v.toList) = false)
 (.loop (default : Sum (Int) (Unit)) (fun i2 => ∀ q, q < i2 → ((s.getD q default).toList == v.toList) = false) (fun i2 => s.length - i2) (0 : Nat)
 (fun (i2 : Nat) => ⟨[(8, iv ((i2 : Nat) : Int))], []⟩) fun i2 =>
 .bnd 0 0 s.length <|
 .br (decide (((i2 : Nat) : Int) < ((s.length : Nat) : Int)))
 (.r 4 (.p (ixP ((i2 : Nat) : Int) s.length)) fun _ =>
 .br (v.toList == (s.getD i2 default).toList)
 (.fin (.inl (.inl ((i2 : Nat) : Int))))
 (.r 6 .z fun _ =>
 .wi 8 (w64 (((i2 : Nat) : Int) + 1)) ((i2 + 1 : Nat) : Int) <|
 .fin (.inr (i2 + 1))))
 (.fin (.inl (.inr ()))))
 (fun (_ : Unit) => ⟨[], []⟩) fun _ =>
 .fin (-1)
noncomputable def slices_Index_2 (s : List ByteArray) (v : ByteArray) : Int := (slices_Index_2_sk s v).val
theorem slices_Index_2_pst (s : List ByteArray) (v : ByteArray) : (slices_Index_2_sk s v).pst (fun (x : Int) => (x = -1 ∧ ∀ q, q < s.length → ((s.getD q default).toList == v.toList) = false) ∨ (0 ≤ x ∧ x < s.length ∧ ((s.getD x.toNat default).toList == v.toList) = true ∧ ∀ q, (q : Nat) < x.toNat → ((s.getD q default).toList == v.toList) = false)) := by
  refine Sk.pst_of _ ?_
  unfold slices_Index_2_sk
  simp only [Sk.pstq, Sk.isLoop, reduceCtorEq, leafB, leafJ, Cal.z, Cal.p, Cal.t, Cal.pt, Cal.o, Cal.and, Cal.andl, Cal.andr, Cal.wh, Cal.dep, Cal.depr, Ctr.c, Ctr.nil, Ctr.nilc, CtrO.c, CtrO.nil, maxLen, implies_true, true_and, and_true, and_self, true_implies, false_implies, ixP, szP, mkP]
  all_goals (repeat' first | assumption | (apply And.intro) | (intro h))
  all_goals first | trivial | assumption | omega | ((try simp only [decide_eq_true_eq, decide_eq_false_iff_not, List.length_append, List.length_cons, List.length_nil, List.length_set, List.length_replicate, Bool.not_eq_true, Bool.not_eq_false, Int.not_lt, Int.not_le, Bool.and_eq_true, Bool.or_eq_true, Bool.and_eq_false_iff, Bool.or_eq_false_iff, Bool.not_eq_eq_eq_not, Bool.not_true, Bool.not_false, beq_iff_eq, bne_iff_ne, beq_eq_false_iff_ne, bne_eq_false_iff_eq, ne_eq, subL_length] at *) <;> first | omega | (refine (w64_id ?_ ?_).trans ?_ <;> omega) | (simp (disch := omega) only [w64_id] at *; omega) | (grind) | (simp_all; done) | (simp_all; omega))

theorem slices_Index_2_post (s : List ByteArray) (v : ByteArray) : (fun (x : Int) => (x = -1 ∧ ∀ q, q < s.length → ((s.getD q default).toList == v.toList) = false) ∨ (0 ≤ x ∧ x < s.length ∧ ((s.getD x.toNat default).toList == v.toList) = true ∧ ∀ q, (q : Nat) < x.toNat → ((s.getD q default).toList == v.toList) = false)) (slices_Index_2 s v) := Sk.pval _ (slices_Index_2_pst s v)
theorem slices_Index_2_ok (s : List ByteArray) (v : ByteArray) : (slices_Index_2_sk s v).obs (fun _ => True) := by
  refine Sk.obs_of _ ?_
  unfold slices_Index_2_sk
  simp only [Sk.obq, Sk.isLoop, reduceCtorEq, leafB, leafJ, Cal.z, Cal.p, Cal.t, Cal.pt, Cal.o, Cal.and, Cal.andl, Cal.andr, Cal.wh, Cal.dep, Cal.depr, Ctr.c, Ctr.nil, Ctr.nilc, CtrO.c, CtrO.nil, maxLen, implies_true, true_and, and_true, and_self, true_implies, false_implies, ixP, szP, mkP]
  all_goals (repeat' first | assumption | (apply And.intro) | (intro h))
  all_goals first | trivial | assumption | omega | ((try simp only [decide_eq_true_eq, decide_eq_false_iff_not, List.length_append, List.length_cons, List.length_nil, List.length_set, List.length_replicate, Bool.not_eq_true, Bool.not_eq_false, Int.not_lt, Int.not_le, Bool.and_eq_true, Bool.or_eq_true, Bool.and_eq_false_iff, Bool.or_eq_false_iff, Bool.not_eq_eq_eq_not, Bool.not_true, Bool.not_false, beq_iff_eq, bne_iff_ne, beq_eq_false_iff_ne, bne_eq_false_iff_eq, ne_eq, subL_length] at *) <;> first | omega | (refine (w64_id ?_ ?_).trans ?_ <;> omega) | (simp (disch := omega) only [w64_id] at *; omega) | (grind) | (simp_all; done) | (simp_all; omega))

theorem slices_Index_2_fn (s : List ByteArray) (v : ByteArray) : FnA Tryz.prog 217 [lv strC s, sv v] [] (iv (slices_Index_2 s v)) [] :=
  FnA.sk tok mixed (fun x => iv x) (fun _ => []) Tryz.func217 rfl (by kernel_rfl) 3000 (slices_Index_2_sk s v) (by kernel_rfl) (slices_Index_2_ok s v)
noncomputable def slices_Index_2_k (s : List ByteArray) (v : ByteArray) : Ctr (Int) := ⟨Tryz.prog, 217, [lv strC s, sv v], fun x => iv x, true, slices_Index_2 s v, True, fun _ => slices_Index_2_fn s v, fun (x : Int) => (x = -1 ∧ ∀ q, q < s.length → ((s.getD q default).toList == v.toList) = false) ∨ (0 ≤ x ∧ x < s.length ∧ ((s.getD x.toNat default).toList == v.toList) = true ∧ ∀ q, (q : Nat) < x.toNat → ((s.getD q default).toList == v.toList) = false), slices_Index_2_post s v⟩
noncomputable def slices_Contains_2_sk (s : List ByteArray) (v : ByteArray) : Sk (Bool) :=
 .r 1 ((slices_Index_2_k s v).c) fun x1 =>
 .fin (decide (x1 ≥ 0))
noncomputable def slices_Contains_2 (s : List ByteArray) (v : ByteArray) : Bool := (slices_Contains_2_sk s v).val
theorem slices_Contains_2_pst (s : List ByteArray) (v : ByteArray) : (slices_Contains_2_sk s v).pst (fun (x : Bool) => (x = true ↔ ∃ q, q < s.length ∧ ((s.getD q default).toList == v.toList) = true)) := by
  refine Sk.pst_of _ ?_
  unfold slices_Contains_2_sk
  simp only [Sk.pstq, Sk.isLoop, reduceCtorEq, leafB, leafJ, Cal.z, Cal.p, Cal.t, Cal.pt, Cal.o, Cal.and, Cal.andl, Cal.andr, Cal.wh, Cal.dep, Cal.depr, Ctr.c, Ctr.nil, Ctr.nilc, CtrO.c, CtrO.nil, slices_Index_2_k, maxLen, implies_true, true_and, and_true, and_self, true_implies, false_implies, ixP, szP, mkP]
  all_goals (repeat' first | assumption | (apply And.intro) | (intro h))
  all_goals first | trivial | assumption | omega | ((try simp only [decide_eq_true_eq, decide_eq_false_iff_not, List.length_append, List.length_cons, List.length_nil, List.length_set, List.length_replicate, Bool.not_eq_true, Bool.not_eq_false, Int.not_lt, Int.not_le, Bool.and_eq_true, Bool.or_eq_true, Bool.and_eq_false_iff, Bool.or_eq_false_iff, Bool.not_eq_eq_eq_not, Bool.not_true, Bool.not_false, beq_iff_eq, bne_iff_ne, beq_eq_false_iff_ne, bne_eq_false_iff_eq, ne_eq, subL_length] at *) <;> first | omega | (refine (w64_id ?_ ?_).trans ?_ <;> omega) | (simp (disch := omega) only [w64_id] at *; omega) | (grind) | (simp_all; done) | (simp_all; omega))

theorem slices_Contains_2_post (s : List ByteArray) (v : ByteArray) : (fun (x : Bool) => (x = true ↔ ∃ q, q < s.length ∧ ((s.getD q default).toList == v.toList) = true)) (slices_Contains_2 s v) := Sk.pval _ (slices_Contains_2_pst s v)
theorem slices_Contains_2_ok (s : List ByteArray) (v : ByteArray) : (slices_Contains_2_sk s v).obs (fun _ => True) := by
  refine Sk.obs_of _ ?_
  unfold slices_Contains_2_sk
  simp only [Sk.obq, Sk.isLoop, reduceCtorEq, leafB, leafJ, Cal.z, Cal.p, Cal.t, Cal.pt, Cal.o, Cal.and, Cal.andl, Cal.andr, Cal.wh, Cal.dep, Cal.depr, Ctr.c, Ctr.nil, Ctr.nilc, CtrO.c, CtrO.nil, slices_Index_2_k, maxLen, implies_true, true_and, and_true, and_self, true_implies, false_implies, ixP, szP, mkP]

theorem slices_Contains_2_fn (s : List ByteArray) (v : ByteArray) : FnA Tryz.prog 193 [lv strC s, sv v] [] (bv (slices_Contains_2 s v)) [] :=
  FnA.sk tok mixed (fun x => bv x) (fun _ => []) Tryz.func193 rfl (by kernel_rfl) 3000 (slices_Contains_2_sk s v) (by kernel_rfl) (slices_Contains_2_ok s v)
noncomputable def slices_Contains_2_k (s : List ByteArray) (v : ByteArray) : Ctr (Bool) := ⟨Tryz.prog, 193, [lv strC s, sv v], fun x => bv x, true, slices_Contains_2 s v, True, fun _ => slices_Contains_2_fn s v, fun (x : Bool) => (x = true ↔ ∃ q, q < s.length ∧ ((s.getD q default).toList == v.toList) = true), slices_Contains_2_post s v⟩
noncomputable def realm_named_sk (names : List ByteArray) (i : Int) : Sk (Int) :=
 .r 1 (.andl (.p (ixP i names.length)) ((realm_isName_k (names.getD i.toNat default)).c)) fun x1 =>
 .br (!x1)
 (.fin 2)
 (.r 3 (.andl (.andl (.o [.nrm (subC strE names 0 i.toNat)]) (.pt (0 ≤ i ∧ i ≤ ((names.length : Nat) : Int)) (strE.lens names))) (.andl (.p (ixP i names.length)) ((slices_Contains_2_k (subL names 0 i.toNat) (names.getD i.toNat default)).c))) fun x2 =>
 .br x2
 (.fin 5)
 (.fin 0))
noncomputable def realm_named (names : List ByteArray) (i : Int) : Int := (realm_named_sk names i).val
theorem realm_named_ok (names : List ByteArray) (i : Int) (hi : 0 ≤ i ∧ i < (names.length : Int)) : (realm_named_sk names i).obs (fun _ => True) := by
  refine Sk.obs_of _ ?_
  unfold realm_named_sk
  simp only [Sk.obq, Sk.isLoop, reduceCtorEq, leafB, leafJ, Cal.z, Cal.p, Cal.t, Cal.pt, Cal.o, Cal.and, Cal.andl, Cal.andr, Cal.wh, Cal.dep, Cal.depr, Ctr.c, Ctr.nil, Ctr.nilc, CtrO.c, CtrO.nil, realm_isName_k, slices_Contains_2_k, maxLen, implies_true, true_and, and_true, and_self, true_implies, false_implies, ixP, szP, mkP]
  all_goals (repeat' first | assumption | (apply And.intro) | (intro h))
  all_goals first | trivial | assumption | omega | ((try simp only [decide_eq_true_eq, decide_eq_false_iff_not, List.length_append, List.length_cons, List.length_nil, List.length_set, List.length_replicate, Bool.not_eq_true, Bool.not_eq_false, Int.not_lt, Int.not_le, Bool.and_eq_true, Bool.or_eq_true, Bool.and_eq_false_iff, Bool.or_eq_false_iff, Bool.not_eq_eq_eq_not, Bool.not_true, Bool.not_false, beq_iff_eq, bne_iff_ne, beq_eq_false_iff_ne, bne_eq_false_iff_eq, ne_eq, subL_length] at *) <;> first | omega | (refine (w64_id ?_ ?_).trans ?_ <;> omega) | (simp (disch := omega) only [w64_id] at *; omega) | (grind) | (simp_all; done) | (simp_all; omega))

theorem realm_named_fn (names : List ByteArray) (i : Int) (hi : 0 ≤ i ∧ i < (names.length : Int)) : FnA Tryz.prog 158 [lv strC names, iv i] [] (iv (realm_named names i)) [] :=
  FnA.sk tok mixed (fun x => iv x) (fun _ => []) Tryz.func158 rfl (by kernel_rfl) 3000 (realm_named_sk names i) (by kernel_rfl) (realm_named_ok names i hi)
noncomputable def realm_named_k (names : List ByteArray) (i : Int) : Ctr (Int) := ⟨Tryz.prog, 158, [lv strC names, iv i], fun x => iv x, true, realm_named names i, (0 ≤ i ∧ i < (names.length : Int)), fun h => realm_named_fn names i h, fun _ => True, trivial⟩
noncomputable def realm_Check_c1_sk (p : Int) : Sk (Bool) :=
 .fin true
noncomputable def realm_Check_c1 (p : Int) : Bool := (realm_Check_c1_sk p).val
theorem realm_Check_c1_eq (p : Int) : realm_Check_c1 p = true := rfl
theorem realm_Check_c1_ok (p : Int) : (realm_Check_c1_sk p).obs (fun _ => True) := by
  refine Sk.obs_of _ ?_
  unfold realm_Check_c1_sk
  simp only [Sk.obq, Sk.isLoop, reduceCtorEq, leafB, leafJ, Cal.z, Cal.p, Cal.t, Cal.pt, Cal.o, Cal.and, Cal.andl, Cal.andr, Cal.wh, Cal.dep, Cal.depr, Ctr.c, Ctr.nil, Ctr.nilc, CtrO.c, CtrO.nil, maxLen, implies_true, true_and, and_true, and_self, true_implies, false_implies, ixP, szP, mkP]

theorem realm_Check_c1_fn (p : Int) : FnA Tryz.prog 119 [iv p] [] (bv (realm_Check_c1 p)) [] :=
  FnA.sk tok mixed (fun x => bv x) (fun _ => []) Tryz.func119 rfl (by kernel_rfl) 3000 (realm_Check_c1_sk p) (by kernel_rfl) (realm_Check_c1_ok p)
noncomputable def realm_Check_c1_k (p : Int) : Ctr (Bool) := ⟨Tryz.prog, 119, [iv p], fun x => bv x, true, realm_Check_c1 p, True, fun _ => realm_Check_c1_fn p, fun _ => True, trivial⟩
noncomputable def realm_fits_119_sk (names : List ByteArray) (most : Int) : Sk (Int) :=
 .br (decide (((names.length : Nat) : Int) > most))
 (.fin 6)
 (.bind true (fun _ => True)
 (.loop (default : Sum (Int) (Unit)) (fun i2 => i2 ≤ names.length) (fun i2 => names.length - i2) (0 : Nat)
 (fun (i2 : Nat) => ⟨[(15, iv ((i2 : Nat) : Int))], []⟩) fun i2 =>
 .bnd 0 0 names.length <|
 .br (decide (((i2 : Nat) : Int) < ((names.length : Nat) : Int)))
 (.r 6 ((realm_named_k names ((i2 : Nat) : Int)).c) fun x3 =>
 .br (x3 != 0)
 (.fin (.inl (.inl x3)))
 (.r 9 ((realm_Check_c1_k ((i2 : Nat) : Int)).c) fun x4 =>
 .br (!x4)
 (.fin (.inl (.inl 1)))
 (.r 11 .z fun _ =>
 .wi 15 (w64 (((i2 : Nat) : Int) + 1)) ((i2 + 1 : Nat) : Int) <|
 .fin (.inr (i2 + 1)))))
 (.fin (.inl (.inr ()))))
 (fun (_ : Unit) => ⟨[], []⟩) fun _ =>
 .fin 0)
noncomputable def realm_fits_119 (names : List ByteArray) (most : Int) : Int := (realm_fits_119_sk names most).val
theorem realm_fits_119_ok (names : List ByteArray) (most : Int) : (realm_fits_119_sk names most).obs (fun _ => True) := by
  refine Sk.obs_of _ ?_
  unfold realm_fits_119_sk
  simp only [Sk.obq, Sk.isLoop, reduceCtorEq, leafB, leafJ, Cal.z, Cal.p, Cal.t, Cal.pt, Cal.o, Cal.and, Cal.andl, Cal.andr, Cal.wh, Cal.dep, Cal.depr, Ctr.c, Ctr.nil, Ctr.nilc, CtrO.c, CtrO.nil, realm_Check_c1_k, realm_named_k, realm_Check_c1_eq, forall_eq, maxLen, implies_true, true_and, and_true, and_self, true_implies, false_implies, ixP, szP, mkP]
  all_goals (repeat' first | assumption | (apply And.intro) | (intro h))
  all_goals first | trivial | assumption | omega | ((try simp only [decide_eq_true_eq, decide_eq_false_iff_not, List.length_append, List.length_cons, List.length_nil, List.length_set, List.length_replicate, Bool.not_eq_true, Bool.not_eq_false, Int.not_lt, Int.not_le, Bool.and_eq_true, Bool.or_eq_true, Bool.and_eq_false_iff, Bool.or_eq_false_iff, Bool.not_eq_eq_eq_not, Bool.not_true, Bool.not_false, beq_iff_eq, bne_iff_ne, beq_eq_false_iff_ne, bne_eq_false_iff_eq, ne_eq, subL_length] at *) <;> first | omega | (refine (w64_id ?_ ?_).trans ?_ <;> omega) | (simp (disch := omega) only [w64_id] at *; omega) | (grind) | (simp_all; done) | (simp_all; omega))

theorem realm_fits_119_fn (names : List ByteArray) (most : Int) : FnA Tryz.prog 118 [lv strC names, iv most, .fn 119 []] [] (iv (realm_fits_119 names most)) [] :=
  FnA.sk tok mixed (fun x => iv x) (fun _ => []) Tryz.func118 rfl (by kernel_rfl) 3000 (realm_fits_119_sk names most) (by kernel_rfl) (realm_fits_119_ok names most)
noncomputable def realm_fits_119_k (names : List ByteArray) (most : Int) : Ctr (Int) := ⟨Tryz.prog, 118, [lv strC names, iv most, .fn 119 []], fun x => iv x, true, realm_fits_119 names most, True, fun _ => realm_fits_119_fn names most, fun _ => True, trivial⟩
noncomputable def realm_rising_sk (l : List Int) (low : Int) (high : Int) : Sk (Bool) :=
 .bind true (fun _ => True)
 (.loop (default : Sum (Bool) (Unit)) (fun i2 => i2 ≤ l.length) (fun i2 => l.length - i2) (0 : Nat)
 (fun (i2 : Nat) => ⟨[(11, iv ((i2 : Nat) : Int))], []⟩) fun i2 =>
 .bnd 0 0 l.length <|
 .br (decide (((i2 : Nat) : Int) < ((l.length : Nat) : Int)))
 (.r 3 (.p (ixP ((i2 : Nat) : Int) l.length)) fun _ =>
 .r 4 (.wh ((decide ((l.getD i2 default) < low)) || (decide ((l.getD i2 default) > high))) false (.wh (decide (((i2 : Nat) : Int) > 0)) true (.p (ixP (w64 (((i2 : Nat) : Int) - 1)) l.length)))) fun _ =>
 .br (((decide ((l.getD i2 default) < low)) || (decide ((l.getD i2 default) > high))) || ((decide (((i2 : Nat) : Int) > 0)) && (decide ((l.getD i2 default) ≤ (l.getD ((w64 (((i2 : Nat) : Int) - 1)).toNat) default)))))
 (.fin (.inl (.inl false)))
 (.r 6 .z fun _ =>
 .wi 11 (w64 (((i2 : Nat) : Int) + 1)) ((i2 + 1 : Nat) : Int) <|
 .fin (.inr (i2 + 1))))
 (.fin (.inl (.inr ()))))
 (fun (_ : Unit) => ⟨[], []⟩) fun _ =>
 .fin true
noncomputable def realm_rising (l : List Int) (low : Int) (high : Int) : Bool := (realm_rising_sk l low high).val
theorem realm_rising_ok (l : List Int) (low : Int) (high : Int) : (realm_rising_sk l low high).obs (fun _ => True) := by
  refine Sk.obs_of _ ?_
  unfold realm_rising_sk
  simp only [Sk.obq, Sk.isLoop, reduceCtorEq, leafB, leafJ, Cal.z, Cal.p, Cal.t, Cal.pt, Cal.o, Cal.and, Cal.andl, Cal.andr, Cal.wh, Cal.dep, Cal.depr, Ctr.c, Ctr.nil, Ctr.nilc, CtrO.c, CtrO.nil, maxLen, implies_true, true_and, and_true, and_self, true_implies, false_implies, ixP, szP, mkP]
  all_goals (repeat' first | assumption | (apply And.intro) | (intro h))
  all_goals first | trivial | assumption | omega | ((try simp only [decide_eq_true_eq, decide_eq_false_iff_not, List.length_append, List.length_cons, List.length_nil, List.length_set, List.length_replicate, Bool.not_eq_true, Bool.not_eq_false, Int.not_lt, Int.not_le, Bool.and_eq_true, Bool.or_eq_true, Bool.and_eq_false_iff, Bool.or_eq_false_iff, Bool.not_eq_eq_eq_not, Bool.not_true, Bool.not_false, beq_iff_eq, bne_iff_ne, beq_eq_false_iff_ne, bne_eq_false_iff_eq, ne_eq, subL_length] at *) <;> first | omega | (refine (w64_id ?_ ?_).trans ?_ <;> omega) | (simp (disch := omega) only [w64_id] at *; omega) | (grind) | (simp_all; done) | (simp_all; omega))

theorem realm_rising_fn (l : List Int) (low : Int) (high : Int) : FnA Tryz.prog 159 [lv intC l, iv low, iv high] [] (bv (realm_rising l low high)) [] :=
  FnA.sk tok mixed (fun x => bv x) (fun _ => []) Tryz.func159 rfl (by kernel_rfl) 3000 (realm_rising_sk l low high) (by kernel_rfl) (realm_rising_ok l low high)
noncomputable def realm_rising_k (l : List Int) (low : Int) (high : Int) : Ctr (Bool) := ⟨Tryz.prog, 159, [lv intC l, iv low, iv high], fun x => bv x, true, realm_rising l low high, True, fun _ => realm_rising_fn l low high, fun _ => True, trivial⟩
noncomputable def realm_city_sk (r : Realm) (c_ : City) : Sk (Bool) :=
 .bind true (fun _ => True)
 (.loop (default : Sum (Bool) (Unit)) (fun i2 => i2 ≤ c_.feasts.length) (fun i2 => c_.feasts.length - i2) (0 : Nat)
 (fun (i2 : Nat) => ⟨[(10, iv ((i2 : Nat) : Int))], []⟩) fun i2 =>
 .bnd 8 0 c_.feasts.length <|
 .br (decide (((i2 : Nat) : Int) < ((c_.feasts.length : Nat) : Int)))
 (.r 3 (.p (ixP ((i2 : Nat) : Int) c_.feasts.length)) fun _ =>
 .r 4 (.andl (.p ((100 : Int) ≠ 0)) (.wh (decide (((c_.feasts.getD i2 default).tmod 100) < 1)) false (.p ((100 : Int) ≠ 0)))) fun _ =>
 .br ((decide (((c_.feasts.getD i2 default).tmod 100) < 1)) || (decide (((c_.feasts.getD i2 default).tmod 100) > 31)))
 (.fin (.inl (.inl false)))
 (.r 6 .z fun _ =>
 .wi 10 (w64 (((i2 : Nat) : Int) + 1)) ((i2 + 1 : Nat) : Int) <|
 .fin (.inr (i2 + 1))))
 (.fin (.inl (.inr ()))))
 (fun (_ : Unit) => ⟨[], []⟩) fun _ =>
 .r 7 (.dep (.wh ((decide (((c_.feasts.length : Nat) : Int) > 60)) || (decide (((c_.shut.length : Nat) : Int) > 200))) false ((realm_in_k c_.order ((r.orders.length : Nat) : Int)).c)) fun x3 => .wh (((decide (((c_.feasts.length : Nat) : Int) > 60)) || (decide (((c_.shut.length : Nat) : Int) > 200))) || (!x3)) false ((realm_in_k c_.currency ((r.currencies.length : Nat) : Int)).c)) fun p9 =>
 .br ((((decide (((c_.feasts.length : Nat) : Int) > 60)) || (decide (((c_.shut.length : Nat) : Int) > 200))) || (!p9.1)) || (!p9.2))
 (.fin false)
 (.r 9 (.dep ((realm_rising_k c_.rest 0 6).c) fun x5 => .dep (.wh x5 true ((realm_rising_k c_.feasts 101 1231).c)) fun x6 => .wh (x5 && x6) true ((realm_rising_k c_.shut 0 100000).c)) fun p8 =>
 .fin ((p8.1 && p8.2.1) && p8.2.2))
noncomputable def realm_city (r : Realm) (c_ : City) : Bool := (realm_city_sk r c_).val
theorem realm_city_ok (r : Realm) (c_ : City) : (realm_city_sk r c_).obs (fun _ => True) := by
  refine Sk.obs_of _ ?_
  unfold realm_city_sk
  simp only [Sk.obq, Sk.isLoop, reduceCtorEq, leafB, leafJ, Cal.z, Cal.p, Cal.t, Cal.pt, Cal.o, Cal.and, Cal.andl, Cal.andr, Cal.wh, Cal.dep, Cal.depr, Ctr.c, Ctr.nil, Ctr.nilc, CtrO.c, CtrO.nil, realm_in_k, realm_rising_k, realm_in_eq, forall_eq, maxLen, implies_true, true_and, and_true, and_self, true_implies, false_implies, ixP, szP, mkP]
  all_goals (repeat' first | assumption | (apply And.intro) | (intro h))
  all_goals first | trivial | assumption | omega | ((try simp only [decide_eq_true_eq, decide_eq_false_iff_not, List.length_append, List.length_cons, List.length_nil, List.length_set, List.length_replicate, Bool.not_eq_true, Bool.not_eq_false, Int.not_lt, Int.not_le, Bool.and_eq_true, Bool.or_eq_true, Bool.and_eq_false_iff, Bool.or_eq_false_iff, Bool.not_eq_eq_eq_not, Bool.not_true, Bool.not_false, beq_iff_eq, bne_iff_ne, beq_eq_false_iff_ne, bne_eq_false_iff_eq, ne_eq, subL_length] at *) <;> first | omega | (refine (w64_id ?_ ?_).trans ?_ <;> omega) | (simp (disch := omega) only [w64_id] at *; omega) | (grind) | (simp_all; done) | (simp_all; omega))

theorem realm_city_fn (r : Realm) (c_ : City) : FnA Tryz.prog 121 [av r.cells, av c_.cells] [] (bv (realm_city r c_)) [] :=
  FnA.sk tok mixed (fun x => bv x) (fun _ => []) Tryz.func121 rfl (by kernel_rfl) 3000 (realm_city_sk r c_) (by kernel_rfl) (realm_city_ok r c_)
noncomputable def realm_city_k (r : Realm) (c_ : City) : Ctr (Bool) := ⟨Tryz.prog, 121, [av r.cells, av c_.cells], fun x => bv x, true, realm_city r c_, True, fun _ => realm_city_fn r c_, fun _ => True, trivial⟩
noncomputable def realm_Check_c2_sk (i : Int) (v : Realm) : Sk (Bool) :=
 .r 1 (.andl (.p (ixP i v.cities.length)) ((realm_city_k v (v.cities.getD i.toNat default)).c)) fun x1 =>
 .fin x1
noncomputable def realm_Check_c2 (i : Int) (v : Realm) : Bool := (realm_Check_c2_sk i v).val
theorem realm_Check_c2_ok (i : Int) (v : Realm) (hi : 0 ≤ i ∧ i < (v.cities.length : Int)) : (realm_Check_c2_sk i v).obs (fun _ => True) := by
  refine Sk.obs_of _ ?_
  unfold realm_Check_c2_sk
  simp only [Sk.obq, Sk.isLoop, reduceCtorEq, leafB, leafJ, Cal.z, Cal.p, Cal.t, Cal.pt, Cal.o, Cal.and, Cal.andl, Cal.andr, Cal.wh, Cal.dep, Cal.depr, Ctr.c, Ctr.nil, Ctr.nilc, CtrO.c, CtrO.nil, realm_city_k, maxLen, implies_true, true_and, and_true, and_self, true_implies, false_implies, ixP, szP, mkP]
  all_goals (repeat' first | assumption | (apply And.intro) | (intro h))
  all_goals first | trivial | assumption | omega | ((try simp only [decide_eq_true_eq, decide_eq_false_iff_not, List.length_append, List.length_cons, List.length_nil, List.length_set, List.length_replicate, Bool.not_eq_true, Bool.not_eq_false, Int.not_lt, Int.not_le, Bool.and_eq_true, Bool.or_eq_true, Bool.and_eq_false_iff, Bool.or_eq_false_iff, Bool.not_eq_eq_eq_not, Bool.not_true, Bool.not_false, beq_iff_eq, bne_iff_ne, beq_eq_false_iff_ne, bne_eq_false_iff_eq, ne_eq, subL_length] at *) <;> first | omega | (refine (w64_id ?_ ?_).trans ?_ <;> omega) | (simp (disch := omega) only [w64_id] at *; omega) | (grind) | (simp_all; done) | (simp_all; omega))

theorem realm_Check_c2_fn (i : Int) (v : Realm) (hi : 0 ≤ i ∧ i < (v.cities.length : Int)) : FnA Tryz.prog 120 [iv i, .ref v.cells] [] (bv (realm_Check_c2 i v)) [] :=
  FnA.sk tok mixed (fun x => bv x) (fun _ => []) Tryz.func120 rfl (by kernel_rfl) 3000 (realm_Check_c2_sk i v) (by kernel_rfl) (realm_Check_c2_ok i v hi)
noncomputable def realm_Check_c2_k (i : Int) (v : Realm) : Ctr (Bool) := ⟨Tryz.prog, 120, [iv i, .ref v.cells], fun x => bv x, true, realm_Check_c2 i v, (0 ≤ i ∧ i < (v.cities.length : Int)), fun h => realm_Check_c2_fn i v h, fun _ => True, trivial⟩
noncomputable def realm_fits_120_sk (names : List ByteArray) (most : Int) (v : Realm) : Sk (Int) :=
 .br (decide (((names.length : Nat) : Int) > most))
 (.fin 6)
 (.bind true (fun _ => True)
 (.loop (default : Sum (Int) (Unit)) (fun i2 => i2 ≤ names.length) (fun i2 => names.length - i2) (0 : Nat)
 (fun (i2 : Nat) => ⟨[(15, iv ((i2 : Nat) : Int))], []⟩) fun i2 =>
 .bnd 0 0 names.length <|
 .br (decide (((i2 : Nat) : Int) < ((names.length : Nat) : Int)))
 (.r 6 ((realm_named_k names ((i2 : Nat) : Int)).c) fun x3 =>
 .br (x3 != 0)
 (.fin (.inl (.inl x3)))
 (.r 9 ((realm_Check_c2_k ((i2 : Nat) : Int) v).c) fun x4 =>
 .br (!x4)
 (.fin (.inl (.inl 1)))
 (.r 11 .z fun _ =>
 .wi 15 (w64 (((i2 : Nat) : Int) + 1)) ((i2 + 1 : Nat) : Int) <|
 .fin (.inr (i2 + 1)))))
 (.fin (.inl (.inr ()))))
 (fun (_ : Unit) => ⟨[], []⟩) fun _ =>
 .fin 0)
noncomputable def realm_fits_120 (names : List ByteArray) (most : Int) (v : Realm) : Int := (realm_fits_120_sk names most v).val
theorem realm_fits_120_ok (names : List ByteArray) (most : Int) (v : Realm) (hv : names.length ≤ v.cities.length) : (realm_fits_120_sk names most v).obs (fun _ => True) := by
  refine Sk.obs_of _ ?_
  unfold realm_fits_120_sk
  simp only [Sk.obq, Sk.isLoop, reduceCtorEq, leafB, leafJ, Cal.z, Cal.p, Cal.t, Cal.pt, Cal.o, Cal.and, Cal.andl, Cal.andr, Cal.wh, Cal.dep, Cal.depr, Ctr.c, Ctr.nil, Ctr.nilc, CtrO.c, CtrO.nil, realm_Check_c2_k, realm_named_k, maxLen, implies_true, true_and, and_true, and_self, true_implies, false_implies, ixP, szP, mkP]
  all_goals (repeat' first | assumption | (apply And.intro) | (intro h))
  all_goals first | trivial | assumption | omega | ((try simp only [decide_eq_true_eq, decide_eq_false_iff_not, List.length_append, List.length_cons, List.length_nil, List.length_set, List.length_replicate, Bool.not_eq_true, Bool.not_eq_false, Int.not_lt, Int.not_le, Bool.and_eq_true, Bool.or_eq_true, Bool.and_eq_false_iff, Bool.or_eq_false_iff, Bool.not_eq_eq_eq_not, Bool.not_true, Bool.not_false, beq_iff_eq, bne_iff_ne, beq_eq_false_iff_ne, bne_eq_false_iff_eq, ne_eq, subL_length] at *) <;> first | omega | (refine (w64_id ?_ ?_).trans ?_ <;> omega) | (simp (disch := omega) only [w64_id] at *; omega) | (grind) | (simp_all; done) | (simp_all; omega))

theorem realm_fits_120_fn (names : List ByteArray) (most : Int) (v : Realm) (hv : names.length ≤ v.cities.length) : FnA Tryz.prog 118 [lv strC names, iv most, .fn 120 [.ref v.cells]] [] (iv (realm_fits_120 names most v)) [] :=
  FnA.sk tok mixed (fun x => iv x) (fun _ => []) Tryz.func118 rfl (by kernel_rfl) 3000 (realm_fits_120_sk names most v) (by kernel_rfl) (realm_fits_120_ok names most v hv)
noncomputable def realm_fits_120_k (names : List ByteArray) (most : Int) (v : Realm) : Ctr (Int) := ⟨Tryz.prog, 118, [lv strC names, iv most, .fn 120 [.ref v.cells]], fun x => iv x, true, realm_fits_120 names most v, (names.length ≤ v.cities.length), fun h => realm_fits_120_fn names most v h, fun _ => True, trivial⟩
noncomputable def realm_Check_c3_sk (i : Int) (v : Realm) : Sk (Bool) :=
 .r 1 (.andl (.p (ixP i v.firms.length)) (.dep ((realm_in_k ((v.firms.getD i.toNat default).city) ((v.cities.length : Nat) : Int)).c) fun x1 => .andl (.wh x1 true (.p (ixP i v.firms.length))) (.wh x1 true ((realm_in_k ((v.firms.getD i.toNat default).group) ((v.groups.length : Nat) : Int)).c)))) fun p3 =>
 .fin (p3.1 && p3.2)
noncomputable def realm_Check_c3 (i : Int) (v : Realm) : Bool := (realm_Check_c3_sk i v).val
theorem realm_Check_c3_ok (i : Int) (v : Realm) (hi : 0 ≤ i ∧ i < (v.firms.length : Int)) : (realm_Check_c3_sk i v).obs (fun _ => True) := by
  refine Sk.obs_of _ ?_
  unfold realm_Check_c3_sk
  simp only [Sk.obq, Sk.isLoop, reduceCtorEq, leafB, leafJ, Cal.z, Cal.p, Cal.t, Cal.pt, Cal.o, Cal.and, Cal.andl, Cal.andr, Cal.wh, Cal.dep, Cal.depr, Ctr.c, Ctr.nil, Ctr.nilc, CtrO.c, CtrO.nil, realm_in_k, realm_in_eq, forall_eq, maxLen, implies_true, true_and, and_true, and_self, true_implies, false_implies, ixP, szP, mkP]
  all_goals (repeat' first | assumption | (apply And.intro) | (intro h))
  all_goals first | trivial | assumption | omega | ((try simp only [decide_eq_true_eq, decide_eq_false_iff_not, List.length_append, List.length_cons, List.length_nil, List.length_set, List.length_replicate, Bool.not_eq_true, Bool.not_eq_false, Int.not_lt, Int.not_le, Bool.and_eq_true, Bool.or_eq_true, Bool.and_eq_false_iff, Bool.or_eq_false_iff, Bool.not_eq_eq_eq_not, Bool.not_true, Bool.not_false, beq_iff_eq, bne_iff_ne, beq_eq_false_iff_ne, bne_eq_false_iff_eq, ne_eq, subL_length] at *) <;> first | omega | (refine (w64_id ?_ ?_).trans ?_ <;> omega) | (simp (disch := omega) only [w64_id] at *; omega) | (grind) | (simp_all; done) | (simp_all; omega))

theorem realm_Check_c3_fn (i : Int) (v : Realm) (hi : 0 ≤ i ∧ i < (v.firms.length : Int)) : FnA Tryz.prog 123 [iv i, .ref v.cells] [] (bv (realm_Check_c3 i v)) [] :=
  FnA.sk tok mixed (fun x => bv x) (fun _ => []) Tryz.func123 rfl (by kernel_rfl) 3000 (realm_Check_c3_sk i v) (by kernel_rfl) (realm_Check_c3_ok i v hi)
noncomputable def realm_Check_c3_k (i : Int) (v : Realm) : Ctr (Bool) := ⟨Tryz.prog, 123, [iv i, .ref v.cells], fun x => bv x, true, realm_Check_c3 i v, (0 ≤ i ∧ i < (v.firms.length : Int)), fun h => realm_Check_c3_fn i v h, fun _ => True, trivial⟩
noncomputable def realm_fits_123_sk (names : List ByteArray) (most : Int) (v : Realm) : Sk (Int) :=
 .br (decide (((names.length : Nat) : Int) > most))
 (.fin 6)
 (.bind true (fun _ => True)
 (.loop (default : Sum (Int) (Unit)) (fun i2 => i2 ≤ names.length) (fun i2 => names.length - i2) (0 : Nat)
 (fun (i2 : Nat) => ⟨[(15, iv ((i2 : Nat) : Int))], []⟩) fun i2 =>
 .bnd 0 0 names.length <|
 .br (decide (((i2 : Nat) : Int) < ((names.length : Nat) : Int)))
 (.r 6 ((realm_named_k names ((i2 : Nat) : Int)).c) fun x3 =>
 .br (x3 != 0)
 (.fin (.inl (.inl x3)))
 (.r 9 ((realm_Check_c3_k ((i2 : Nat) : Int) v).c) fun x4 =>
 .br (!x4)
 (.fin (.inl (.inl 1)))
 (.r 11 .z fun _ =>
 .wi 15 (w64 (((i2 : Nat) : Int) + 1)) ((i2 + 1 : Nat) : Int) <|
 .fin (.inr (i2 + 1)))))
 (.fin (.inl (.inr ()))))
 (fun (_ : Unit) => ⟨[], []⟩) fun _ =>
 .fin 0)
noncomputable def realm_fits_123 (names : List ByteArray) (most : Int) (v : Realm) : Int := (realm_fits_123_sk names most v).val
theorem realm_fits_123_ok (names : List ByteArray) (most : Int) (v : Realm) (hv : names.length ≤ v.firms.length) : (realm_fits_123_sk names most v).obs (fun _ => True) := by
  refine Sk.obs_of _ ?_
  unfold realm_fits_123_sk
  simp only [Sk.obq, Sk.isLoop, reduceCtorEq, leafB, leafJ, Cal.z, Cal.p, Cal.t, Cal.pt, Cal.o, Cal.and, Cal.andl, Cal.andr, Cal.wh, Cal.dep, Cal.depr, Ctr.c, Ctr.nil, Ctr.nilc, CtrO.c, CtrO.nil, realm_Check_c3_k, realm_named_k, maxLen, implies_true, true_and, and_true, and_self, true_implies, false_implies, ixP, szP, mkP]
  all_goals (repeat' first | assumption | (apply And.intro) | (intro h))
  all_goals first | trivial | assumption | omega | ((try simp only [decide_eq_true_eq, decide_eq_false_iff_not, List.length_append, List.length_cons, List.length_nil, List.length_set, List.length_replicate, Bool.not_eq_true, Bool.not_eq_false, Int.not_lt, Int.not_le, Bool.and_eq_true, Bool.or_eq_true, Bool.and_eq_false_iff, Bool.or_eq_false_iff, Bool.not_eq_eq_eq_not, Bool.not_true, Bool.not_false, beq_iff_eq, bne_iff_ne, beq_eq_false_iff_ne, bne_eq_false_iff_eq, ne_eq, subL_length] at *) <;> first | omega | (refine (w64_id ?_ ?_).trans ?_ <;> omega) | (simp (disch := omega) only [w64_id] at *; omega) | (grind) | (simp_all; done) | (simp_all; omega))

theorem realm_fits_123_fn (names : List ByteArray) (most : Int) (v : Realm) (hv : names.length ≤ v.firms.length) : FnA Tryz.prog 118 [lv strC names, iv most, .fn 123 [.ref v.cells]] [] (iv (realm_fits_123 names most v)) [] :=
  FnA.sk tok mixed (fun x => iv x) (fun _ => []) Tryz.func118 rfl (by kernel_rfl) 3000 (realm_fits_123_sk names most v) (by kernel_rfl) (realm_fits_123_ok names most v hv)
noncomputable def realm_fits_123_k (names : List ByteArray) (most : Int) (v : Realm) : Ctr (Int) := ⟨Tryz.prog, 118, [lv strC names, iv most, .fn 123 [.ref v.cells]], fun x => iv x, true, realm_fits_123 names most v, (names.length ≤ v.firms.length), fun h => realm_fits_123_fn names most v h, fun _ => True, trivial⟩
noncomputable def realm_order_sk (o : Order) : Sk (Bool) :=
 .bind true (fun b1 => b1.length ≤ 0 + o.choices.length)
 (.loop (default : Sum (Bool) ((List Int))) (fun i2 => i2.2 ≤ o.choices.length ∧ i2.1.length ≤ 0 + i2.2) (fun i2 => o.choices.length - i2.2) (([], 0) : (List Int) × Nat)
 (fun (i2 : (List Int) × Nat) => ⟨[(3, ow 100002 i2.1), (12, iv ((i2.2 : Nat) : Int))], [(100002, rowB 3 1 intC i2.1)]⟩) fun i2 =>
 .bnd 10 0 o.choices.length <|
 .br (decide (((i2.2 : Nat) : Int) < ((o.choices.length : Nat) : Int)))
 (.r 4 (.p (ixP ((i2.2 : Nat) : Int) o.choices.length)) fun _ =>
 .r 5 (.andl (.o [.nrm (litC intE [(o.choices.getD i2.2 default).ask])]) (.andl (.o [.nrm (catC intE i2.1 [(o.choices.getD i2.2 default).ask])]) (.andl (.t (intE.ones [(o.choices.getD i2.2 default).ask])) (.p (szP i2.1.length [(o.choices.getD i2.2 default).ask].length 8))))) fun _ =>
 .r 6 ((realm_in_k ((o.choices.getD i2.2 default).by_) 5).c) fun x3 =>
 .br (!x3)
 (.fin (.inl (.inl false)))
 (.r 8 .z fun _ =>
 .wi 12 (w64 (((i2.2 : Nat) : Int) + 1)) ((i2.2 + 1 : Nat) : Int) <|
 .fin (.inr (i2.1 ++ [(o.choices.getD i2.2 default).ask], i2.2 + 1))))
 (.fin (.inl (.inr i2.1))))
 (fun (b1 : (List Int)) => ⟨[(3, ow 100001 b1)], [(100001, rowB 3 1 intC b1)]⟩) fun b1 =>
 .bind true (fun b4 => b4.length ≤ 0 + o.rules.length)
 (.loop (default : Sum (Bool) ((List Int))) (fun i5 => i5.2 ≤ o.rules.length ∧ i5.1.length ≤ 0 + i5.2) (fun i5 => o.rules.length - i5.2) (([], 0) : (List Int) × Nat)
 (fun (i5 : (List Int) × Nat) => ⟨[(4, ow 100005 i5.1), (29, iv ((i5.2 : Nat) : Int))], [(100005, rowB 3 1 intC i5.1)]⟩) fun i5 =>
 .bnd 27 0 o.rules.length <|
 .br (decide (((i5.2 : Nat) : Int) < ((o.rules.length : Nat) : Int)))
 (.r 11 (.p (ixP ((i5.2 : Nat) : Int) o.rules.length)) fun _ =>
 .r 12 (.andl (.o [.nrm (litC intE [(o.rules.getD i5.2 default).ask])]) (.andl (.o [.nrm (catC intE i5.1 [(o.rules.getD i5.2 default).ask])]) (.andl (.t (intE.ones [(o.rules.getD i5.2 default).ask])) (.p (szP i5.1.length [(o.rules.getD i5.2 default).ask].length 8))))) fun _ =>
 .r 13 .z fun _ =>
 .wi 29 (w64 (((i5.2 : Nat) : Int) + 1)) ((i5.2 + 1 : Nat) : Int) <|
 .fin (.inr (i5.1 ++ [(o.rules.getD i5.2 default).ask], i5.2 + 1)))
 (.fin (.inl (.inr i5.1))))
 (fun (b4 : (List Int)) => ⟨[(4, ow 100004 b4)], [(100004, rowB 3 1 intC b4)]⟩) fun b4 =>
 .r 14 (.dep ((realm_rising_k b1 0 21).c) fun x6 => .wh x6 true ((realm_rising_k b4 0 21).c)) fun p8 =>
 .fin (p8.1 && p8.2)
noncomputable def realm_order (o : Order) : Bool := (realm_order_sk o).val
theorem realm_order_ok (o : Order) (ho : o.choices.length ≤ 1000000 ∧ o.rules.length ≤ 1000000) : (realm_order_sk o).obs (fun _ => True) := by
  refine Sk.obs_of _ ?_
  unfold realm_order_sk
  simp only [Sk.obq, Sk.isLoop, reduceCtorEq, leafB, leafJ, Cal.z, Cal.p, Cal.t, Cal.pt, Cal.o, Cal.and, Cal.andl, Cal.andr, Cal.wh, Cal.dep, Cal.depr, Ctr.c, Ctr.nil, Ctr.nilc, CtrO.c, CtrO.nil, realm_in_k, realm_rising_k, realm_in_eq, forall_eq, maxLen, implies_true, true_and, and_true, and_self, true_implies, false_implies, ixP, szP, mkP]
  all_goals (repeat' first | assumption | (apply And.intro) | (intro h))
  all_goals first | trivial | assumption | omega | ((try simp only [decide_eq_true_eq, decide_eq_false_iff_not, List.length_append, List.length_cons, List.length_nil, List.length_set, List.length_replicate, Bool.not_eq_true, Bool.not_eq_false, Int.not_lt, Int.not_le, Bool.and_eq_true, Bool.or_eq_true, Bool.and_eq_false_iff, Bool.or_eq_false_iff, Bool.not_eq_eq_eq_not, Bool.not_true, Bool.not_false, beq_iff_eq, bne_iff_ne, beq_eq_false_iff_ne, bne_eq_false_iff_eq, ne_eq, subL_length] at *) <;> first | omega | (refine (w64_id ?_ ?_).trans ?_ <;> omega) | (simp (disch := omega) only [w64_id] at *; omega) | (grind) | (simp_all; done) | (simp_all; omega))

theorem realm_order_fn (o : Order) (ho : o.choices.length ≤ 1000000 ∧ o.rules.length ≤ 1000000) : FnA Tryz.prog 125 [av o.cells] [] (bv (realm_order o)) [] :=
  FnA.sk tok mixed (fun x => bv x) (fun _ => []) Tryz.func125 rfl (by kernel_rfl) 3000 (realm_order_sk o) (by kernel_rfl) (realm_order_ok o ho)
noncomputable def realm_order_k (o : Order) : Ctr (Bool) := ⟨Tryz.prog, 125, [av o.cells], fun x => bv x, true, realm_order o, (o.choices.length ≤ 1000000 ∧ o.rules.length ≤ 1000000), fun h => realm_order_fn o h, fun _ => True, trivial⟩
noncomputable def realm_Check_c4_sk (i : Int) (v : Realm) : Sk (Bool) :=
 .r 1 (.andl (.p (ixP i v.orders.length)) ((realm_order_k (v.orders.getD i.toNat default)).c)) fun x1 =>
 .fin x1
noncomputable def realm_Check_c4 (i : Int) (v : Realm) : Bool := (realm_Check_c4_sk i v).val
theorem realm_Check_c4_ok (i : Int) (v : Realm) (hi : 0 ≤ i ∧ i < (v.orders.length : Int)) (hv : v.Small) : (realm_Check_c4_sk i v).obs (fun _ => True) := by
  simp only [File.Small, Realm.Small] at hv
  refine Sk.obs_of _ ?_
  unfold realm_Check_c4_sk
  simp only [Sk.obq, Sk.isLoop, reduceCtorEq, leafB, leafJ, Cal.z, Cal.p, Cal.t, Cal.pt, Cal.o, Cal.and, Cal.andl, Cal.andr, Cal.wh, Cal.dep, Cal.depr, Ctr.c, Ctr.nil, Ctr.nilc, CtrO.c, CtrO.nil, realm_order_k, File.Small, Realm.Small, maxLen, implies_true, true_and, and_true, and_self, true_implies, false_implies, ixP, szP, mkP]
  all_goals (repeat' first | assumption | (apply And.intro) | (intro h))
  all_goals first | trivial | assumption | omega | ((try simp only [decide_eq_true_eq, decide_eq_false_iff_not, List.length_append, List.length_cons, List.length_nil, List.length_set, List.length_replicate, Bool.not_eq_true, Bool.not_eq_false, Int.not_lt, Int.not_le, Bool.and_eq_true, Bool.or_eq_true, Bool.and_eq_false_iff, Bool.or_eq_false_iff, Bool.not_eq_eq_eq_not, Bool.not_true, Bool.not_false, beq_iff_eq, bne_iff_ne, beq_eq_false_iff_ne, bne_eq_false_iff_eq, ne_eq, subL_length] at *) <;> first | omega | (refine (w64_id ?_ ?_).trans ?_ <;> omega) | (simp (disch := omega) only [w64_id] at *; omega) | (grind) | (simp_all; done) | (simp_all; omega))

theorem realm_Check_c4_fn (i : Int) (v : Realm) (hi : 0 ≤ i ∧ i < (v.orders.length : Int)) (hv : v.Small) : FnA Tryz.prog 124 [iv i, .ref v.cells] [] (bv (realm_Check_c4 i v)) [] :=
  FnA.sk tok mixed (fun x => bv x) (fun _ => []) Tryz.func124 rfl (by kernel_rfl) 3000 (realm_Check_c4_sk i v) (by kernel_rfl) (realm_Check_c4_ok i v hi hv)
noncomputable def realm_Check_c4_k (i : Int) (v : Realm) : Ctr (Bool) := ⟨Tryz.prog, 124, [iv i, .ref v.cells], fun x => bv x, true, realm_Check_c4 i v, (0 ≤ i ∧ i < (v.orders.length : Int)) ∧ (v.Small), fun h => realm_Check_c4_fn i v h.1 h.2, fun _ => True, trivial⟩
noncomputable def realm_fits_124_sk (names : List ByteArray) (most : Int) (v : Realm) : Sk (Int) :=
 .br (decide (((names.length : Nat) : Int) > most))
 (.fin 6)
 (.bind true (fun _ => True)
 (.loop (default : Sum (Int) (Unit)) (fun i2 => i2 ≤ names.length) (fun i2 => names.length - i2) (0 : Nat)
 (fun (i2 : Nat) => ⟨[(15, iv ((i2 : Nat) : Int))], []⟩) fun i2 =>
 .bnd 0 0 names.length <|
 .br (decide (((i2 : Nat) : Int) < ((names.length : Nat) : Int)))
 (.r 6 ((realm_named_k names ((i2 : Nat) : Int)).c) fun x3 =>
 .br (x3 != 0)
 (.fin (.inl (.inl x3)))
 (.r 9 ((realm_Check_c4_k ((i2 : Nat) : Int) v).c) fun x4 =>
 .br (!x4)
 (.fin (.inl (.inl 1)))
 (.r 11 .z fun _ =>
 .wi 15 (w64 (((i2 : Nat) : Int) + 1)) ((i2 + 1 : Nat) : Int) <|
 .fin (.inr (i2 + 1)))))
 (.fin (.inl (.inr ()))))
 (fun (_ : Unit) => ⟨[], []⟩) fun _ =>
 .fin 0)
noncomputable def realm_fits_124 (names : List ByteArray) (most : Int) (v : Realm) : Int := (realm_fits_124_sk names most v).val
theorem realm_fits_124_ok (names : List ByteArray) (most : Int) (v : Realm) (hv : names.length ≤ v.orders.length) (hs : v.Small) : (realm_fits_124_sk names most v).obs (fun _ => True) := by
  simp only [File.Small, Realm.Small] at hs
  refine Sk.obs_of _ ?_
  unfold realm_fits_124_sk
  simp only [Sk.obq, Sk.isLoop, reduceCtorEq, leafB, leafJ, Cal.z, Cal.p, Cal.t, Cal.pt, Cal.o, Cal.and, Cal.andl, Cal.andr, Cal.wh, Cal.dep, Cal.depr, Ctr.c, Ctr.nil, Ctr.nilc, CtrO.c, CtrO.nil, realm_Check_c4_k, realm_named_k, File.Small, Realm.Small, maxLen, implies_true, true_and, and_true, and_self, true_implies, false_implies, ixP, szP, mkP]
  all_goals (repeat' first | assumption | (apply And.intro) | (intro h))
  all_goals first | trivial | assumption | omega | ((try simp only [decide_eq_true_eq, decide_eq_false_iff_not, List.length_append, List.length_cons, List.length_nil, List.length_set, List.length_replicate, Bool.not_eq_true, Bool.not_eq_false, Int.not_lt, Int.not_le, Bool.and_eq_true, Bool.or_eq_true, Bool.and_eq_false_iff, Bool.or_eq_false_iff, Bool.not_eq_eq_eq_not, Bool.not_true, Bool.not_false, beq_iff_eq, bne_iff_ne, beq_eq_false_iff_ne, bne_eq_false_iff_eq, ne_eq, subL_length] at *) <;> first | omega | (refine (w64_id ?_ ?_).trans ?_ <;> omega) | (simp (disch := omega) only [w64_id] at *; omega) | (grind) | (simp_all; done) | (simp_all; omega))

theorem realm_fits_124_fn (names : List ByteArray) (most : Int) (v : Realm) (hv : names.length ≤ v.orders.length) (hs : v.Small) : FnA Tryz.prog 118 [lv strC names, iv most, .fn 124 [.ref v.cells]] [] (iv (realm_fits_124 names most v)) [] :=
  FnA.sk tok mixed (fun x => iv x) (fun _ => []) Tryz.func118 rfl (by kernel_rfl) 3000 (realm_fits_124_sk names most v) (by kernel_rfl) (realm_fits_124_ok names most v hv hs)
noncomputable def realm_fits_124_k (names : List ByteArray) (most : Int) (v : Realm) : Ctr (Int) := ⟨Tryz.prog, 118, [lv strC names, iv most, .fn 124 [.ref v.cells]], fun x => iv x, true, realm_fits_124 names most v, (names.length ≤ v.orders.length) ∧ (v.Small), fun h => realm_fits_124_fn names most v h.1 h.2, fun _ => True, trivial⟩
noncomputable def realm_usances_sk (r : Realm) : Sk (Int) :=
 .br (decide (((r.usances.length : Nat) : Int) > 100))
 (.fin 6)
 (.bind true (fun _ => True)
 (.loop (default : Sum (Int) (Unit)) (fun i2 => i2 ≤ r.usances.length) (fun i2 => r.usances.length - i2) (0 : Nat)
 (fun (i2 : Nat) => ⟨[(14, iv ((i2 : Nat) : Int))], []⟩) fun i2 =>
 .bnd 12 0 r.usances.length <|
 .br (decide (((i2 : Nat) : Int) < ((r.usances.length : Nat) : Int)))
 (.bind true (fun _ => True)
 (.r 5 (.p (ixP ((i2 : Nat) : Int) r.usances.length)) fun _ =>
 .r 6 (.dep ((realm_in_k ((r.usances.getD i2 default).from_) ((r.cities.length : Nat) : Int)).c) fun x4 => .wh (!x4) false ((realm_in_k ((r.usances.getD i2 default).to_) ((r.cities.length : Nat) : Int)).c)) fun p8 =>
 .br ((((!p8.1) || (!p8.2)) || (decide (((r.usances.getD i2 default).days) < 1))) || (decide (((r.usances.getD i2 default).days) > 20000)))
 (.fin (.inl (.inl (.inl 1))))
 (.r 8 (.andl (.o [.nrm (subC Usance.E r.usances 0 i2)]) (.pt (0 ≤ ((i2 : Nat) : Int) ∧ ((i2 : Nat) : Int) ≤ ((r.usances.length : Nat) : Int)) (Usance.E.lens r.usances))) fun _ =>
 .bind true (fun _ => True)
 (.loop (default : Sum (Sum (Sum (Sum (Int) (Unit)) (Nat)) (Int × Int × Usance × Int × (List City) × Int × Bool × Bool × Bool × Bool × Bool × Bool × Bool × Bool × (List Usance) × Int × (List Usance) × Int × Int × Bool)) (Int × Bool)) (fun i7 => i7 ≤ (subL r.usances 0 i2).length) (fun i7 => (subL r.usances 0 i2).length - i7) (0 : Nat)
 (fun (i7 : Nat) => ⟨[(50, iv ((i7 : Nat) : Int))], []⟩) fun i7 =>
 .bnd 48 0 ((subL r.usances 0 i2).length) <|
 .br (decide (((i7 : Nat) : Int) < (((subL r.usances 0 i2).length : Nat) : Int)))
 (.r 10 (.p (ixP ((i7 : Nat) : Int) ((subL r.usances 0 i2).length))) fun _ =>
 .br (((((subL r.usances 0 i2).getD i7 default).from_) == ((r.usances.getD i2 default).from_)) && ((((subL r.usances 0 i2).getD i7 default).to_) == ((r.usances.getD i2 default).to_)))
 (.fin (.inl (.inl (.inl (.inl (.inl 5))))))
 (.r 13 .z fun _ =>
 .wi 50 (w64 (((i7 : Nat) : Int) + 1)) ((i7 + 1 : Nat) : Int) <|
 .fin (.inr (i7 + 1))))
 (.fin (.inl (.inr (((i7 : Nat) : Int), decide (((i7 : Nat) : Int) < (((subL r.usances 0 i2).length : Nat) : Int)))))))
 (fun (b6 : Int × Bool) => ⟨[(50, iv b6.1), (51, bv b6.2)], []⟩) fun b6 =>
 .fin (.inr (((i2 : Nat) : Int), ((i2 : Nat) : Int), r.usances.getD i2 default, (r.usances.getD i2 default).from_, r.cities, ((r.cities.length : Nat) : Int), p8.1, !p8.1, !p8.1, (!p8.1) || (!p8.2), (!p8.1) || (!p8.2), ((!p8.1) || (!p8.2)) || (decide (((r.usances.getD i2 default).days) < 1)), ((!p8.1) || (!p8.2)) || (decide (((r.usances.getD i2 default).days) < 1)), (((!p8.1) || (!p8.2)) || (decide (((r.usances.getD i2 default).days) < 1))) || (decide (((r.usances.getD i2 default).days) > 20000)), r.usances, ((i2 : Nat) : Int), subL r.usances 0 i2, (((subL r.usances 0 i2).length : Nat) : Int), b6.1, b6.2))))
 (fun (b3 : Int × Int × Usance × Int × (List City) × Int × Bool × Bool × Bool × Bool × Bool × Bool × Bool × Bool × (List Usance) × Int × (List Usance) × Int × Int × Bool) => ⟨[(3, iv b3.1), (16, iv b3.2.1), (18, av b3.2.2.1.cells), (20, iv b3.2.2.2.1), (22, lv City.cells b3.2.2.2.2.1), (23, iv b3.2.2.2.2.2.1), (24, bv b3.2.2.2.2.2.2.1), (25, bv b3.2.2.2.2.2.2.2.1), (26, bv b3.2.2.2.2.2.2.2.2.1), (34, bv b3.2.2.2.2.2.2.2.2.2.1), (35, bv b3.2.2.2.2.2.2.2.2.2.2.1), (39, bv b3.2.2.2.2.2.2.2.2.2.2.2.1), (40, bv b3.2.2.2.2.2.2.2.2.2.2.2.2.1), (44, bv b3.2.2.2.2.2.2.2.2.2.2.2.2.2.1), (46, lv Usance.cells b3.2.2.2.2.2.2.2.2.2.2.2.2.2.2.1), (47, iv b3.2.2.2.2.2.2.2.2.2.2.2.2.2.2.2.1), (48, lv Usance.cells b3.2.2.2.2.2.2.2.2.2.2.2.2.2.2.2.2.1), (49, iv b3.2.2.2.2.2.2.2.2.2.2.2.2.2.2.2.2.2.1), (50, iv b3.2.2.2.2.2.2.2.2.2.2.2.2.2.2.2.2.2.2.1), (51, bv b3.2.2.2.2.2.2.2.2.2.2.2.2.2.2.2.2.2.2.2)], []⟩) fun _ =>
 .r 14 .z fun _ =>
 .wi 14 (w64 (((i2 : Nat) : Int) + 1)) ((i2 + 1 : Nat) : Int) <|
 .fin (.inr (i2 + 1)))
 (.fin (.inl (.inr ()))))
 (fun (_ : Unit) => ⟨[], []⟩) fun _ =>
 .fin 0)
noncomputable def realm_usances (r : Realm) : Int := (realm_usances_sk r).val
theorem realm_usances_ok (r : Realm) : (realm_usances_sk r).obs (fun _ => True) := by
  refine Sk.obs_of _ ?_
  unfold realm_usances_sk
  simp only [Sk.obq, Sk.isLoop, reduceCtorEq, leafB, leafJ, Cal.z, Cal.p, Cal.t, Cal.pt, Cal.o, Cal.and, Cal.andl, Cal.andr, Cal.wh, Cal.dep, Cal.depr, Ctr.c, Ctr.nil, Ctr.nilc, CtrO.c, CtrO.nil, realm_in_k, realm_in_eq, forall_eq, maxLen, implies_true, true_and, and_true, and_self, true_implies, false_implies, ixP, szP, mkP]
  all_goals (repeat' first | assumption | (apply And.intro) | (intro h))
  all_goals first | trivial | assumption | omega | ((try simp only [decide_eq_true_eq, decide_eq_false_iff_not, List.length_append, List.length_cons, List.length_nil, List.length_set, List.length_replicate, Bool.not_eq_true, Bool.not_eq_false, Int.not_lt, Int.not_le, Bool.and_eq_true, Bool.or_eq_true, Bool.and_eq_false_iff, Bool.or_eq_false_iff, Bool.not_eq_eq_eq_not, Bool.not_true, Bool.not_false, beq_iff_eq, bne_iff_ne, beq_eq_false_iff_ne, bne_eq_false_iff_eq, ne_eq, subL_length] at *) <;> first | omega | (refine (w64_id ?_ ?_).trans ?_ <;> omega) | (simp (disch := omega) only [w64_id] at *; omega) | (grind) | (simp_all; done) | (simp_all; omega))

theorem realm_usances_fn (r : Realm) : FnA Tryz.prog 126 [av r.cells] [] (iv (realm_usances r)) [] :=
  FnA.sk tok mixed (fun x => iv x) (fun _ => []) Tryz.func126 rfl (by kernel_rfl) 3000 (realm_usances_sk r) (by kernel_rfl) (realm_usances_ok r)
noncomputable def realm_usances_k (r : Realm) : Ctr (Int) := ⟨Tryz.prog, 126, [av r.cells], fun x => iv x, true, realm_usances r, True, fun _ => realm_usances_fn r, fun _ => True, trivial⟩
end Go.Proofs.YtggilgghigileaaGreatDoor
