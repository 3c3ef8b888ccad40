/- Functions, as sketches. -/
import Derived.Test.YtggilgghigileaaGreatDoorRk9
namespace Go.Proofs.YtggilgghigileaaGreatDoor
open Go Go.Av
set_option linter.unusedSimpArgs false
set_option linter.unusedVariables false
set_option maxHeartbeats 1000000
set_option maxRecDepth 100000
noncomputable def tenor_settle_sk (r : Realm) (city : Int) (day : Int) : Sk (Int × Int) :=
 .r 1 ((realm_OrderAt_k r city).c) fun x1 =>
 .loop (default : Int × Int) (fun i2 => (0 : Int) ≤ i2 ∧ i2 ≤ 100001) (fun i2 => (100001 - i2).toNat) (day : Int)
 (fun (i2 : Int) => ⟨[(2, iv i2)], []⟩) fun i2 =>
 .r 2 ((tenor_skip_k r x1 i2).c) fun x3 =>
 .r 3 (.andl (.p (ixP city r.cities.length)) ((calendar_Next_k (r.cities.getD city.toNat default) x3).c)) fun x4 =>
 .br (x4.2 != 0)
 (.fin (.inl (0, 3)))
 (.br (x4.1 == x3)
 (.fin (.inl (x3, 0)))
 (.fin (.inr x4.1)))
noncomputable def tenor_settle (r : Realm) (city : Int) (day : Int) : Int × Int := (tenor_settle_sk r city day).val
theorem tenor_settle_pst (r : Realm) (city : Int) (day : Int) (hP : (0 ≤ city ∧ city < (r.cities.length : Int)) ∧ (0 ≤ day ∧ day ≤ 100001) ∧ r.HaltOK) : (tenor_settle_sk r city day).pst (fun (x : Int × Int) => x.2 = 0 → 0 ≤ x.1 ∧ x.1 ≤ 100001) := by
  refine Sk.pst_of _ ?_
  unfold tenor_settle_sk
  simp only [Sk.pstq, Sk.isLoop, reduceCtorEq, leafB, leafJ, Cal.z, Cal.p, Cal.t, Cal.pt, Cal.o, Cal.and, Cal.andl, Cal.andr, Cal.wh, Cal.dep, Cal.depr, Ctr.c, Ctr.nil, Ctr.nilc, CtrO.c, CtrO.nil, calendar_Next_k, realm_OrderAt_k, tenor_skip_k, Realm.HaltOK, maxLen, implies_true, true_and, and_true, and_self, true_implies, false_implies, ixP, szP, mkP]
  obtain ⟨hc, hd, hh⟩ := hP
  intro _ _
  refine ⟨hd, fun i hi y hy hyp x hx hxp => ⟨fun _ h => absurd h (by decide), fun he => ⟨fun hq => ?_, fun hq => ⟨?_, ?_⟩⟩⟩⟩
  all_goals have h2 := hyp ⟨hh, hi⟩
  all_goals simp only [decide_eq_true_eq, decide_eq_false_iff_not, List.length_append, List.length_cons, List.length_nil, List.length_set, List.length_replicate, Bool.not_eq_true, Bool.not_eq_false, Int.not_lt, Int.not_le, Bool.and_eq_true, Bool.or_eq_true, Bool.and_eq_false_iff, Bool.or_eq_false_iff, Bool.not_eq_eq_eq_not, Bool.not_true, Bool.not_false, beq_iff_eq, bne_iff_ne, beq_eq_false_iff_ne, bne_eq_false_iff_eq, ne_eq, subL_length] at he hq
  all_goals have h3 := hxp he
  all_goals omega

theorem tenor_settle_post (r : Realm) (city : Int) (day : Int) : (fun (x : Int × Int) => ((0 ≤ city ∧ city < (r.cities.length : Int)) ∧ (0 ≤ day ∧ day ≤ 100001) ∧ r.HaltOK) → (x.2 = 0 → 0 ≤ x.1 ∧ x.1 ≤ 100001)) (tenor_settle r city day) := fun hP => Sk.pval _ (tenor_settle_pst r city day hP)
theorem tenor_settle_ok (r : Realm) (city : Int) (day : Int) (hc : 0 ≤ city ∧ city < (r.cities.length : Int)) (hd : 0 ≤ day ∧ day ≤ 100001) (hh : r.HaltOK) : (tenor_settle_sk r city day).obs (fun _ => True) := by
  simp only [Realm.HaltOK] at hh
  refine Sk.obs_of _ ?_
  unfold tenor_settle_sk
  simp only [Sk.obq, Sk.isLoop, reduceCtorEq, leafB, leafJ, Cal.z, Cal.p, Cal.t, Cal.pt, Cal.o, Cal.and, Cal.andl, Cal.andr, Cal.wh, Cal.dep, Cal.depr, Ctr.c, Ctr.nil, Ctr.nilc, CtrO.c, CtrO.nil, calendar_Next_k, realm_OrderAt_k, tenor_skip_k, Realm.HaltOK, maxLen, implies_true, true_and, and_true, and_self, true_implies, false_implies, ixP, szP, mkP]
  all_goals (repeat' first | assumption | (apply And.intro) | (intro h))
  all_goals first | trivial | assumption | omega | ((try simp only [decide_eq_true_eq, decide_eq_false_iff_not, List.length_append, List.length_cons, List.length_nil, List.length_set, List.length_replicate, Bool.not_eq_true, Bool.not_eq_false, Int.not_lt, Int.not_le, Bool.and_eq_true, Bool.or_eq_true, Bool.and_eq_false_iff, Bool.or_eq_false_iff, Bool.not_eq_eq_eq_not, Bool.not_true, Bool.not_false, beq_iff_eq, bne_iff_ne, beq_eq_false_iff_ne, bne_eq_false_iff_eq, ne_eq, subL_length] at *) <;> first | omega | (refine (w64_id ?_ ?_).trans ?_ <;> omega) | (simp (disch := omega) only [w64_id] at *; omega) | (grind) | (simp_all; done) | (simp_all; omega))

theorem tenor_settle_fn (r : Realm) (city : Int) (day : Int) (hc : 0 ≤ city ∧ city < (r.cities.length : Int)) (hd : 0 ≤ day ∧ day ≤ 100001) (hh : r.HaltOK) : FnA Tryz.prog 86 [av r.cells, iv city, iv day] [] (.tup [iv ((tenor_settle r city day).1), iv ((tenor_settle r city day).2)]) [] :=
  FnA.sk tok mixed (fun x => .tup [iv x.1, iv x.2]) (fun _ => []) Tryz.func86 rfl (by kernel_rfl) 3000 (tenor_settle_sk r city day) (by kernel_rfl) (tenor_settle_ok r city day hc hd hh)
noncomputable def tenor_settle_k (r : Realm) (city : Int) (day : Int) : Ctr (Int × Int) := ⟨Tryz.prog, 86, [av r.cells, iv city, iv day], fun x => .tup [iv x.1, iv x.2], true, tenor_settle r city day, (0 ≤ city ∧ city < (r.cities.length : Int)) ∧ (0 ≤ day ∧ day ≤ 100001) ∧ (r.HaltOK), fun h => tenor_settle_fn r city day h.1 h.2.1 h.2.2, fun (x : Int × Int) => ((0 ≤ city ∧ city < (r.cities.length : Int)) ∧ (0 ≤ day ∧ day ≤ 100001) ∧ r.HaltOK) → (x.2 = 0 → 0 ≤ x.1 ∧ x.1 ≤ 100001), tenor_settle_post r city day⟩
noncomputable def tenor_Due_sk (r : Realm) (b : Bill) (seen : Int) (grace : Int) : Sk (Int × Int) :=
 .r 2 (.dep ((realm_Check_k r).c) fun x1 => .dep (.wh (x1 != 0) false ((tenor_isCity_k r b.city).c)) fun x2 => .dep (.wh ((x1 != 0) || (!x2)) false ((tenor_isCity_k r b.pay).c)) fun x3 => .wh (((x1 != 0) || (!x2)) || (!x3)) false ((tenor_isDay_k b.day).c)) fun p10 =>
 .br ((((p10.1 != 0) || (!p10.2.1)) || (!p10.2.2.1)) || (!p10.2.2.2))
 (.fin (0, 1))
 (.br ((((decide (b.tenor.kind < 0)) || (decide (b.tenor.kind ≥ 5))) || (decide (b.tenor.unit < 0))) || (decide (b.tenor.unit ≥ 2)))
 (.fin (0, 1))
 (.r 6 (.wh (seen != (-1)) true ((tenor_isDay_k seen).c)) fun x5 =>
 .br ((((seen != (-1)) && (!x5)) || (decide (grace < 0))) || (decide (grace > 20000)))
 (.fin (0, 1))
 (.r 8 ((tenor_Sights_k b.tenor).c) fun x6 =>
 .br (x6 && (seen == (-1)))
 (.fin (0, 4))
 (.r 10 ((tenor_base_k r b seen).c) fun x7 =>
 .br (x7.2 != 0)
 (.fin (0, x7.2))
 (.r 13 ((tenor_isDay_k x7.1).c) fun x8 =>
 .br ((!x8) || (decide ((w64 (x7.1 + grace)) > 100000)))
 (.fin (0, 3))
 (.r 15 ((tenor_settle_k r b.pay (w64 (x7.1 + grace))).c) fun x9 =>
 .fin (x9.1, x9.2)))))))
noncomputable def tenor_Due (r : Realm) (b : Bill) (seen : Int) (grace : Int) : Int × Int := (tenor_Due_sk r b seen grace).val
theorem tenor_Due_pst (r : Realm) (b : Bill) (seen : Int) (grace : Int) : (tenor_Due_sk r b seen grace).pst (fun (x : Int × Int) => x.2 = 0 → 0 ≤ x.1 ∧ x.1 ≤ 100001) := by
  refine Sk.pst_of _ ?_
  unfold tenor_Due_sk
  simp only [Sk.pstq, Sk.isLoop, reduceCtorEq, leafB, leafJ, Cal.z, Cal.p, Cal.t, Cal.pt, Cal.o, Cal.and, Cal.andl, Cal.andr, Cal.wh, Cal.dep, Cal.depr, Ctr.c, Ctr.nil, Ctr.nilc, CtrO.c, CtrO.nil, realm_Check_k, tenor_Sights_k, tenor_base_k, tenor_isCity_k, tenor_isDay_k, tenor_settle_k, tenor_Sights_eq, tenor_isCity_eq, tenor_isDay_eq, forall_eq, File.Small, Realm.Small, Realm.HaltOK, maxLen, implies_true, true_and, and_true, and_self, true_implies, false_implies, ixP, szP, mkP]
  intro hr
  refine ⟨fun _ h => absurd h (by decide), fun h1 => ⟨fun _ h => absurd h (by decide), fun _ => ⟨fun _ h => absurd h (by decide), fun h3 => ⟨fun _ h => absurd h (by decide), fun _ => ⟨fun h h' => by rw [h'] at h; exact absurd h (by decide), fun h4 => ⟨fun _ h => absurd h (by decide), fun h5 himp => ?_⟩⟩⟩⟩⟩⟩
  simp only [decide_eq_true_eq, decide_eq_false_iff_not, List.length_append, List.length_cons, List.length_nil, List.length_set, List.length_replicate, Bool.not_eq_true, Bool.not_eq_false, Int.not_lt, Int.not_le, Bool.and_eq_true, Bool.or_eq_true, Bool.and_eq_false_iff, Bool.or_eq_false_iff, Bool.not_eq_eq_eq_not, Bool.not_true, Bool.not_false, beq_iff_eq, bne_iff_ne, beq_eq_false_iff_ne, bne_eq_false_iff_eq, ne_eq, subL_length] at h1 h5
  have e : ∀ x g : Int, 0 ≤ x ∧ x ≤ 100000 → 0 ≤ g ∧ g ≤ 20000 → 0 ≤ w64 (x + g) := fun x g h1 h2 => by rw [w64_id (by omega) (by omega)]; omega
  have h6 : 0 ≤ grace ∧ grace ≤ 20000 := by simp only [decide_eq_true_eq, decide_eq_false_iff_not, List.length_append, List.length_cons, List.length_nil, List.length_set, List.length_replicate, Bool.not_eq_true, Bool.not_eq_false, Int.not_lt, Int.not_le, Bool.and_eq_true, Bool.or_eq_true, Bool.and_eq_false_iff, Bool.or_eq_false_iff, Bool.not_eq_eq_eq_not, Bool.not_true, Bool.not_false, beq_iff_eq, bne_iff_ne, beq_eq_false_iff_ne, bne_eq_false_iff_eq, ne_eq, subL_length] at h3; omega
  refine himp ⟨by omega, ⟨e _ _ h5.1 h6, by omega⟩, hr h1.1.1.1⟩

theorem tenor_Due_post (r : Realm) (b : Bill) (seen : Int) (grace : Int) : (fun (x : Int × Int) => x.2 = 0 → 0 ≤ x.1 ∧ x.1 ≤ 100001) (tenor_Due r b seen grace) := Sk.pval _ (tenor_Due_pst r b seen grace)
theorem tenor_Due_ok (r : Realm) (b : Bill) (seen : Int) (grace : Int) (h_r_Small : r.Small) : (tenor_Due_sk r b seen grace).obs (fun _ => True) := by
  simp only [File.Small, Realm.Small, Realm.HaltOK] at h_r_Small
  refine Sk.obs_of _ ?_
  unfold tenor_Due_sk
  simp only [Sk.obq, Sk.isLoop, reduceCtorEq, leafB, leafJ, Cal.z, Cal.p, Cal.t, Cal.pt, Cal.o, Cal.and, Cal.andl, Cal.andr, Cal.wh, Cal.dep, Cal.depr, Ctr.c, Ctr.nil, Ctr.nilc, CtrO.c, CtrO.nil, realm_Check_k, tenor_Sights_k, tenor_base_k, tenor_isCity_k, tenor_isDay_k, tenor_settle_k, tenor_Sights_eq, tenor_isCity_eq, tenor_isDay_eq, forall_eq, File.Small, Realm.Small, Realm.HaltOK, maxLen, implies_true, true_and, and_true, and_self, true_implies, false_implies, ixP, szP, mkP]
  all_goals (repeat' first | assumption | (apply And.intro) | (intro h))
  all_goals first | trivial | assumption | omega | ((try simp only [decide_eq_true_eq, decide_eq_false_iff_not, List.length_append, List.length_cons, List.length_nil, List.length_set, List.length_replicate, Bool.not_eq_true, Bool.not_eq_false, Int.not_lt, Int.not_le, Bool.and_eq_true, Bool.or_eq_true, Bool.and_eq_false_iff, Bool.or_eq_false_iff, Bool.not_eq_eq_eq_not, Bool.not_true, Bool.not_false, beq_iff_eq, bne_iff_ne, beq_eq_false_iff_ne, bne_eq_false_iff_eq, ne_eq, subL_length] at *) <;> first | omega | (refine (w64_id ?_ ?_).trans ?_ <;> omega) | (simp (disch := omega) only [w64_id] at *; omega) | (grind) | (simp_all; done) | (simp_all; omega))

theorem tenor_Due_fn (r : Realm) (b : Bill) (seen : Int) (grace : Int) (h_r_Small : r.Small) : FnA Tryz.prog 44 [av r.cells, av b.cells, iv seen, iv grace] [] (.tup [iv ((tenor_Due r b seen grace).1), iv ((tenor_Due r b seen grace).2)]) [] :=
  FnA.sk tok mixed (fun x => .tup [iv x.1, iv x.2]) (fun _ => []) Tryz.func44 rfl (by kernel_rfl) 3000 (tenor_Due_sk r b seen grace) (by kernel_rfl) (tenor_Due_ok r b seen grace h_r_Small)
noncomputable def tenor_Due_k (r : Realm) (b : Bill) (seen : Int) (grace : Int) : Ctr (Int × Int) := ⟨Tryz.prog, 44, [av r.cells, av b.cells, iv seen, iv grace], fun x => .tup [iv x.1, iv x.2], true, tenor_Due r b seen grace, (r.Small), fun h => tenor_Due_fn r b seen grace h, fun (x : Int × Int) => x.2 = 0 → 0 ≤ x.1 ∧ x.1 ≤ 100001, tenor_Due_post r b seen grace⟩
noncomputable def ask_Maturity_sk (r : Realm) (forum : Int) (f : File) (day : Int) : Sk (Int) :=
 .r 1 ((record_At_k f day).c) fun x1 =>
 .br (((x1.signs.length : Nat) : Int) == 0)
 (.fin (-1))
 (.r 4 (.dep ((ask_Bill_k r forum 6 x1 day).c) fun x2 => (ask_Number_k x2).c) fun p7 =>
 .r 5 (.dep ((record_Seen_k x1).c) fun x4 => (tenor_Due_k r x1.bill x4 (maxI p7.2 0)).c) fun p6 =>
 .br (p6.2.2 != 0)
 (.fin (-1))
 (.fin p6.2.1))
noncomputable def ask_Maturity (r : Realm) (forum : Int) (f : File) (day : Int) : Int := (ask_Maturity_sk r forum f day).val
theorem ask_Maturity_ok (r : Realm) (forum : Int) (f : File) (day : Int) (h_f_Small : f.Small) (h_r_ByOK : r.ByOK) (h_r_Small : r.Small) : (ask_Maturity_sk r forum f day).obs (fun _ => True) := by
  simp only [File.Small, Realm.Small, Realm.ByOK] at h_f_Small
  simp only [File.Small, Realm.Small, Realm.ByOK] at h_r_ByOK
  simp only [File.Small, Realm.Small, Realm.ByOK] at h_r_Small
  refine Sk.obs_of _ ?_
  unfold ask_Maturity_sk
  simp only [Sk.obq, Sk.isLoop, reduceCtorEq, leafB, leafJ, Cal.z, Cal.p, Cal.t, Cal.pt, Cal.o, Cal.and, Cal.andl, Cal.andr, Cal.wh, Cal.dep, Cal.depr, Ctr.c, Ctr.nil, Ctr.nilc, CtrO.c, CtrO.nil, ask_Bill_k, ask_Number_k, record_At_k, record_Seen_k, tenor_Due_k, File.Small, Realm.Small, Realm.ByOK, maxLen, implies_true, true_and, and_true, and_self, true_implies, false_implies, ixP, szP, mkP]
  all_goals (repeat' first | assumption | (apply And.intro) | (intro h))
  all_goals first | trivial | assumption | omega | ((try simp only [decide_eq_true_eq, decide_eq_false_iff_not, List.length_append, List.length_cons, List.length_nil, List.length_set, List.length_replicate, Bool.not_eq_true, Bool.not_eq_false, Int.not_lt, Int.not_le, Bool.and_eq_true, Bool.or_eq_true, Bool.and_eq_false_iff, Bool.or_eq_false_iff, Bool.not_eq_eq_eq_not, Bool.not_true, Bool.not_false, beq_iff_eq, bne_iff_ne, beq_eq_false_iff_ne, bne_eq_false_iff_eq, ne_eq, subL_length] at *) <;> first | omega | (refine (w64_id ?_ ?_).trans ?_ <;> omega) | (simp (disch := omega) only [w64_id] at *; omega) | (grind) | (simp_all; done) | (simp_all; omega))

theorem ask_Maturity_fn (r : Realm) (forum : Int) (f : File) (day : Int) (h_f_Small : f.Small) (h_r_ByOK : r.ByOK) (h_r_Small : r.Small) : FnA Tryz.prog 13 [av r.cells, iv forum, av f.cells, iv day] [] (iv (ask_Maturity r forum f day)) [] :=
  FnA.sk tok mixed (fun x => iv x) (fun _ => []) Tryz.func13 rfl (by kernel_rfl) 3000 (ask_Maturity_sk r forum f day) (by kernel_rfl) (ask_Maturity_ok r forum f day h_f_Small h_r_ByOK h_r_Small)
noncomputable def ask_Maturity_k (r : Realm) (forum : Int) (f : File) (day : Int) : Ctr (Int) := ⟨Tryz.prog, 13, [av r.cells, iv forum, av f.cells, iv day], fun x => iv x, true, ask_Maturity r forum f day, (f.Small) ∧ (r.ByOK) ∧ (r.Small), fun h => ask_Maturity_fn r forum f day h.1 h.2.1 h.2.2, fun _ => True, trivial⟩
theorem Maturity_eq (r : Realm) (fo : Int) (f : File) (day : Int) : ask_Maturity r fo f day = 
    bif ((record_At f day).signs.length : Int) == 0 then -1 else (fun p : Int × Int => bif p.2 != 0 then -1 else p.1) (tenor_Due r (record_At f day).bill (record_Seen (record_At f day)) (maxI (ask_Number (ask_Bill r fo 6 (record_At f day) day)) 0)) := by
  kernel_rfl
noncomputable def ask_Tri_sk (s : Said) : Sk (Int) :=
 .br (s.err != 0)
 (.fin 0)
 (.br (!s.cell.known)
 (.fin 2)
 (.br (s.cell.n != 0)
 (.fin 1)
 (.fin 0)))
noncomputable def ask_Tri (s : Said) : Int := (ask_Tri_sk s).val
theorem ask_Tri_ok (s : Said) : (ask_Tri_sk s).obs (fun _ => True) := by
  refine Sk.obs_of _ ?_
  unfold ask_Tri_sk
  simp only [Sk.obq, Sk.isLoop, reduceCtorEq, leafB, leafJ, Cal.z, Cal.p, Cal.t, Cal.pt, Cal.o, Cal.and, Cal.andl, Cal.andr, Cal.wh, Cal.dep, Cal.depr, Ctr.c, Ctr.nil, Ctr.nilc, CtrO.c, CtrO.nil, maxLen, implies_true, true_and, and_true, and_self, true_implies, false_implies, ixP, szP, mkP]

theorem ask_Tri_fn (s : Said) : FnA Tryz.prog 63 [av s.cells] [] (iv (ask_Tri s)) [] :=
  FnA.sk tok mixed (fun x => iv x) (fun _ => []) Tryz.func63 rfl (by kernel_rfl) 3000 (ask_Tri_sk s) (by kernel_rfl) (ask_Tri_ok s)
noncomputable def ask_Tri_k (s : Said) : Ctr (Int) := ⟨Tryz.prog, 63, [av s.cells], fun x => iv x, true, ask_Tri s, True, fun _ => ask_Tri_fn s, fun _ => True, trivial⟩
noncomputable def recognize_Recognized_sk (r : Realm) (forum : Int) (f : File) (j : Judgment) (day : Int) : Sk (Int) :=
 .r 1 (.dep ((recognize_Check_k r f j).c) fun x1 => .wh (x1 != 0) false ((recognize_within_k forum ((r.orders.length : Nat) : Int)).c)) fun p7 =>
 .br ((((p7.1 != 0) || (!p7.2)) || (decide (day < j.day))) || (decide (day > 100000)))
 (.fin 0)
 (.br (forum == j.court)
 (.fin 1)
 (.r 5 ((ask_Maturity_k r forum f day).c) fun x3 =>
 .r 6 (.dep ((ask_Ask_k r forum 19 ({ file := f, sign := j.sign, holder := j.sign, defence := (-1), due := x3, day := day } : CaseX)).c) fun x4 => (ask_Tri_k x4).c) fun p6 =>
 .fin p6.2))
noncomputable def recognize_Recognized (r : Realm) (forum : Int) (f : File) (j : Judgment) (day : Int) : Int := (recognize_Recognized_sk r forum f j day).val
theorem recognize_Recognized_ok (r : Realm) (forum : Int) (f : File) (j : Judgment) (day : Int) (h_f_Small : f.Small) (h_r_ByOK : r.ByOK) (h_r_Small : r.Small) : (recognize_Recognized_sk r forum f j day).obs (fun _ => True) := by
  simp only [File.Small, Realm.Small, Realm.ByOK] at h_f_Small
  simp only [File.Small, Realm.Small, Realm.ByOK] at h_r_ByOK
  simp only [File.Small, Realm.Small, Realm.ByOK] at h_r_Small
  refine Sk.obs_of _ ?_
  unfold recognize_Recognized_sk
  simp only [Sk.obq, Sk.isLoop, reduceCtorEq, leafB, leafJ, Cal.z, Cal.p, Cal.t, Cal.pt, Cal.o, Cal.and, Cal.andl, Cal.andr, Cal.wh, Cal.dep, Cal.depr, Ctr.c, Ctr.nil, Ctr.nilc, CtrO.c, CtrO.nil, ask_Ask_k, ask_Maturity_k, ask_Tri_k, recognize_Check_k, recognize_within_k, recognize_within_eq, forall_eq, File.Small, Realm.Small, Realm.ByOK, maxLen, implies_true, true_and, and_true, and_self, true_implies, false_implies, ixP, szP, mkP]
  all_goals (repeat' first | assumption | (apply And.intro) | (intro h))
  all_goals first | trivial | assumption | omega | ((try simp only [decide_eq_true_eq, decide_eq_false_iff_not, List.length_append, List.length_cons, List.length_nil, List.length_set, List.length_replicate, Bool.not_eq_true, Bool.not_eq_false, Int.not_lt, Int.not_le, Bool.and_eq_true, Bool.or_eq_true, Bool.and_eq_false_iff, Bool.or_eq_false_iff, Bool.not_eq_eq_eq_not, Bool.not_true, Bool.not_false, beq_iff_eq, bne_iff_ne, beq_eq_false_iff_ne, bne_eq_false_iff_eq, ne_eq, subL_length] at *) <;> first | omega | (refine (w64_id ?_ ?_).trans ?_ <;> omega) | (simp (disch := omega) only [w64_id] at *; omega) | (grind) | (simp_all; done) | (simp_all; omega))

theorem recognize_Recognized_fn (r : Realm) (forum : Int) (f : File) (j : Judgment) (day : Int) (h_f_Small : f.Small) (h_r_ByOK : r.ByOK) (h_r_Small : r.Small) : FnA Tryz.prog 29 [av r.cells, iv forum, av f.cells, av j.cells, iv day] [] (iv (recognize_Recognized r forum f j day)) [] :=
  FnA.sk tok mixed (fun x => iv x) (fun _ => []) Tryz.func29 rfl (by kernel_rfl) 3000 (recognize_Recognized_sk r forum f j day) (by kernel_rfl) (recognize_Recognized_ok r forum f j day h_f_Small h_r_ByOK h_r_Small)
noncomputable def recognize_Recognized_k (r : Realm) (forum : Int) (f : File) (j : Judgment) (day : Int) : Ctr (Int) := ⟨Tryz.prog, 29, [av r.cells, iv forum, av f.cells, av j.cells, iv day], fun x => iv x, true, recognize_Recognized r forum f j day, (f.Small) ∧ (r.ByOK) ∧ (r.Small), fun h => recognize_Recognized_fn r forum f j day h.1 h.2.1 h.2.2, fun _ => True, trivial⟩
noncomputable def recognize_Rest_sk (r : Realm) (forum : Int) (f : File) (j : Judgment) (l : List Receipt) (day : Int) : Sk (Int × Int) :=
 .r 1 ((recognize_Received_k r f j l day).c) fun x1 =>
 .br (x1.2 != 0)
 (.fin (0, x1.2))
 (.r 4 ((recognize_within_k forum ((r.orders.length : Nat) : Int)).c) fun x2 =>
 .br ((!x2) || (decide (day < j.day)))
 (.fin (0, 1))
 (.r 6 ((recognize_Recognized_k r forum f j day).c) fun x3 =>
 .br (x3 == 0)
 (.fin (0, 4))
 (.br (x3 == 2)
 (.fin (0, 17))
 (.r 11 ((money_Convert_k r.rates j.sum j.currency f.bill.currency j.day).c) fun x4 =>
 .br (x4.2 != 0)
 (.fin (0, x4.2))
 (.fin (maxI (w64 (x4.1 - x1.1)) 0, 0))))))
noncomputable def recognize_Rest (r : Realm) (forum : Int) (f : File) (j : Judgment) (l : List Receipt) (day : Int) : Int × Int := (recognize_Rest_sk r forum f j l day).val
theorem recognize_Rest_ok (r : Realm) (forum : Int) (f : File) (j : Judgment) (l : List Receipt) (day : Int) (h_f_Small : f.Small) (h_r_ByOK : r.ByOK) (h_r_Small : r.Small) : (recognize_Rest_sk r forum f j l day).obs (fun _ => True) := by
  simp only [File.Small, Realm.Small, Realm.ByOK] at h_f_Small
  simp only [File.Small, Realm.Small, Realm.ByOK] at h_r_ByOK
  simp only [File.Small, Realm.Small, Realm.ByOK] at h_r_Small
  refine Sk.obs_of _ ?_
  unfold recognize_Rest_sk
  simp only [Sk.obq, Sk.isLoop, reduceCtorEq, leafB, leafJ, Cal.z, Cal.p, Cal.t, Cal.pt, Cal.o, Cal.and, Cal.andl, Cal.andr, Cal.wh, Cal.dep, Cal.depr, Ctr.c, Ctr.nil, Ctr.nilc, CtrO.c, CtrO.nil, money_Convert_k, recognize_Received_k, recognize_Recognized_k, recognize_within_k, recognize_within_eq, forall_eq, File.Small, Realm.Small, Realm.ByOK, maxLen, implies_true, true_and, and_true, and_self, true_implies, false_implies, ixP, szP, mkP]
  all_goals (repeat' first | assumption | (apply And.intro) | (intro h))
  all_goals first | trivial | assumption | omega | ((try simp only [decide_eq_true_eq, decide_eq_false_iff_not, List.length_append, List.length_cons, List.length_nil, List.length_set, List.length_replicate, Bool.not_eq_true, Bool.not_eq_false, Int.not_lt, Int.not_le, Bool.and_eq_true, Bool.or_eq_true, Bool.and_eq_false_iff, Bool.or_eq_false_iff, Bool.not_eq_eq_eq_not, Bool.not_true, Bool.not_false, beq_iff_eq, bne_iff_ne, beq_eq_false_iff_ne, bne_eq_false_iff_eq, ne_eq, subL_length] at *) <;> first | omega | (refine (w64_id ?_ ?_).trans ?_ <;> omega) | (simp (disch := omega) only [w64_id] at *; omega) | (grind) | (simp_all; done) | (simp_all; omega))

theorem recognize_Rest_fn (r : Realm) (forum : Int) (f : File) (j : Judgment) (l : List Receipt) (day : Int) (h_f_Small : f.Small) (h_r_ByOK : r.ByOK) (h_r_Small : r.Small) : FnA Tryz.prog 22 [av r.cells, iv forum, av f.cells, av j.cells, lv Receipt.cells l, iv day] [] (.tup [iv ((recognize_Rest r forum f j l day).1), iv ((recognize_Rest r forum f j l day).2)]) [] :=
  FnA.sk tok mixed (fun x => .tup [iv x.1, iv x.2]) (fun _ => []) Tryz.func22 rfl (by kernel_rfl) 3000 (recognize_Rest_sk r forum f j l day) (by kernel_rfl) (recognize_Rest_ok r forum f j l day h_f_Small h_r_ByOK h_r_Small)
noncomputable def recognize_Rest_k (r : Realm) (forum : Int) (f : File) (j : Judgment) (l : List Receipt) (day : Int) : Ctr (Int × Int) := ⟨Tryz.prog, 22, [av r.cells, iv forum, av f.cells, av j.cells, lv Receipt.cells l, iv day], fun x => .tup [iv x.1, iv x.2], true, recognize_Rest r forum f j l day, (f.Small) ∧ (r.ByOK) ∧ (r.Small), fun h => recognize_Rest_fn r forum f j l day h.1 h.2.1 h.2.2, fun _ => True, trivial⟩
/-- one receipt -/
noncomputable def rStep (r : Realm) (f : File) (j : Judgment) (day : Int) (x : Receipt) (n : Int) : (Int × Int) ⊕ Int :=
  bif ((x.bill != j.bill) || (x.to_ != j.creditor)) || decide (x.day > day) then .inr n
  else bif (money_Convert r.rates x.sum x.currency f.bill.currency x.day).2 != 0 then .inl (0, (money_Convert r.rates x.sum x.currency f.bill.currency x.day).2)
  else .inr (w64 (n + (money_Convert r.rates x.sum x.currency f.bill.currency x.day).1))
noncomputable def recv (r : Realm) (f : File) (j : Judgment) (day : Int) (l : List Receipt) : Int × Int := walk (rStep r f j day) (fun n => (n, 0)) l 0

theorem Received_eq (r : Realm) (f : File) (j : Judgment) (l : List Receipt) (day : Int) : recognize_Received r f j l day =
    bif (recognize_Check r f j != 0) || !(recognize_within day 100001) then (0, 1) else bif decide ((l.length : Int) > 200) then (0, 6) else bif slices_ContainsFunc_57 l r then (0, 1) else recv r f j day l := by
  simp only [recognize_Received, recognize_Received_sk, Sk.val_r, Sk.val_br, Sk.val_fin, Sk.val_bind, Sk.val_loop, Cal.dep_v, Cal.wh_v, Ctr.c_v, recognize_Check_k, recognize_within_k, slices_ContainsFunc_57_k]
  congr 1
  congr 1
  congr 1
  unfold recv
  refine pick_iter_walk l (fun s i => (s, i)) (rStep r f j day) id (fun b4 => (b4, 0)) (fun s i hi => ?_) (fun s => ?_) (by simp) 0
  · simp only [Sk.val_bnd, Sk.val_br, Sk.val_r, Sk.val_wi, Sk.val_fin, Ctr.c_v, money_Convert_k]
    rw [decide_eq_true (by omega), cond_true]
    unfold rStep
    cases (((l.getD i default).bill != j.bill || (l.getD i default).to_ != j.creditor) || decide ((l.getD i default).day > day)) with
    | true => rfl
    | false => cases ((money_Convert r.rates (l.getD i default).sum (l.getD i default).currency f.bill.currency (l.getD i default).day).2 != 0) <;> rfl
  · simp only [Sk.val_bnd, Sk.val_br, Sk.val_r, Sk.val_wi, Sk.val_fin]
    rw [decide_eq_false (by omega), cond_false]
    rfl

theorem Rest_eq (r : Realm) (forum : Int) (f : File) (j : Judgment) (l : List Receipt) (day : Int) : recognize_Rest r forum f j l day =
    bif (recognize_Received r f j l day).2 != 0 then (0, (recognize_Received r f j l day).2) else bif (!(recognize_within forum r.orders.length)) || decide (day < j.day) then (0, 1)
    else bif recognize_Recognized r forum f j day == 0 then (0, 4) else bif recognize_Recognized r forum f j day == 2 then (0, 17)
    else bif (money_Convert r.rates j.sum j.currency f.bill.currency j.day).2 != 0 then (0, (money_Convert r.rates j.sum j.currency f.bill.currency j.day).2)
    else (maxI (w64 ((money_Convert r.rates j.sum j.currency f.bill.currency j.day).1 - (recognize_Received r f j l day).1)) 0, 0) := by
  simp only [recognize_Rest, recognize_Rest_sk, Sk.val_r, Sk.val_br, Sk.val_fin, Ctr.c_v, recognize_Received_k, recognize_within_k, recognize_Recognized_k, money_Convert_k]
noncomputable def slices_Clone_sk (s : List Receipt) : Sk ((List Receipt)) :=
 .nsp 0 s.length
 (.brt <|
 .fin [])
 (.brf <|
 .r 3 (.andl (.o [.nrm (litC Receipt.E ([] : List Receipt))]) (.andl (.o [.nrm (catC Receipt.E ([] : List Receipt) s)]) (.andl (.t (Receipt.E.src s)) (.p (szP (([] : List Receipt).length) s.length 48))))) fun _ =>
 .fin (([] : List Receipt) ++ s))
noncomputable def slices_Clone (s : List Receipt) : (List Receipt) := (slices_Clone_sk s).val
theorem slices_Clone_pst (s : List Receipt) : (slices_Clone_sk s).pst (fun (x : (List Receipt)) => x.length = s.length) := by
  refine Sk.pst_of _ ?_
  unfold slices_Clone_sk
  simp only [Sk.pstq, Sk.isLoop, reduceCtorEq, leafB, leafJ, Cal.z, Cal.p, Cal.t, Cal.pt, Cal.o, Cal.and, Cal.andl, Cal.andr, Cal.wh, Cal.dep, Cal.depr, Ctr.c, Ctr.nil, Ctr.nilc, CtrO.c, CtrO.nil, maxLen, implies_true, true_and, and_true, and_self, true_implies, false_implies, ixP, szP, mkP]
  all_goals (repeat' first | assumption | (apply And.intro) | (intro h))
  all_goals first | trivial | assumption | omega | ((try simp only [decide_eq_true_eq, decide_eq_false_iff_not, List.length_append, List.length_cons, List.length_nil, List.length_set, List.length_replicate, Bool.not_eq_true, Bool.not_eq_false, Int.not_lt, Int.not_le, Bool.and_eq_true, Bool.or_eq_true, Bool.and_eq_false_iff, Bool.or_eq_false_iff, Bool.not_eq_eq_eq_not, Bool.not_true, Bool.not_false, beq_iff_eq, bne_iff_ne, beq_eq_false_iff_ne, bne_eq_false_iff_eq, ne_eq, subL_length] at *) <;> first | omega | (refine (w64_id ?_ ?_).trans ?_ <;> omega) | (simp (disch := omega) only [w64_id] at *; omega) | (grind) | (simp_all; done) | (simp_all; omega))

theorem slices_Clone_post (s : List Receipt) : (fun (x : (List Receipt)) => x.length = s.length) (slices_Clone s) := Sk.pval _ (slices_Clone_pst s)
theorem slices_Clone_ok (s : List Receipt) (hs : s.length ≤ 1000000) : (slices_Clone_sk s).obs (fun _ => True) := by
  refine Sk.obs_of _ ?_
  unfold slices_Clone_sk
  simp only [Sk.obq, Sk.isLoop, reduceCtorEq, leafB, leafJ, Cal.z, Cal.p, Cal.t, Cal.pt, Cal.o, Cal.and, Cal.andl, Cal.andr, Cal.wh, Cal.dep, Cal.depr, Ctr.c, Ctr.nil, Ctr.nilc, CtrO.c, CtrO.nil, maxLen, implies_true, true_and, and_true, and_self, true_implies, false_implies, ixP, szP, mkP]
  all_goals (repeat' first | assumption | (apply And.intro) | (intro h))
  all_goals first | trivial | assumption | omega | ((try simp only [decide_eq_true_eq, decide_eq_false_iff_not, List.length_append, List.length_cons, List.length_nil, List.length_set, List.length_replicate, Bool.not_eq_true, Bool.not_eq_false, Int.not_lt, Int.not_le, Bool.and_eq_true, Bool.or_eq_true, Bool.and_eq_false_iff, Bool.or_eq_false_iff, Bool.not_eq_eq_eq_not, Bool.not_true, Bool.not_false, beq_iff_eq, bne_iff_ne, beq_eq_false_iff_ne, bne_eq_false_iff_eq, ne_eq, subL_length] at *) <;> first | omega | (refine (w64_id ?_ ?_).trans ?_ <;> omega) | (simp (disch := omega) only [w64_id] at *; omega) | (grind) | (simp_all; done) | (simp_all; omega))

theorem slices_Clone_fn (s : List Receipt) (hs : s.length ≤ 1000000) : FnA Tryz.prog 61 [lv Receipt.cells s] [] (lv Receipt.cells (slices_Clone s)) [] :=
  FnA.sk tok mixed (fun x => lv Receipt.cells x) (fun _ => []) Tryz.func61 rfl (by kernel_rfl) 3000 (slices_Clone_sk s) (by kernel_rfl) (slices_Clone_ok s hs)
noncomputable def slices_Clone_k (s : List Receipt) : Ctr ((List Receipt)) := ⟨Tryz.prog, 61, [lv Receipt.cells s], fun x => lv Receipt.cells x, false, slices_Clone s, (s.length ≤ 1000000), fun h => slices_Clone_fn s h, fun (x : (List Receipt)) => x.length = s.length, slices_Clone_post s⟩
theorem slices_Clone_fnO (s : List Receipt) (hs : s.length ≤ 1000000) : FnA Tryz.prog 61 [lv Receipt.cells s] [] (ow 777777 (slices_Clone s)) [(777777, rowB 74 6 Receipt.cells (slices_Clone s))] :=
  FnA.sk tok mixed (fun x => ow 777777 x) (fun x => [(777777, rowB 74 6 Receipt.cells x)]) Tryz.func61 rfl (by kernel_rfl) 3000 (slices_Clone_sk s) (by kernel_rfl) (slices_Clone_ok s hs)
noncomputable def slices_Clone_ko (κ : Nat) (s : List Receipt) : CtrO ((List Receipt)) := ⟨Tryz.prog, 61, [lv Receipt.cells s], fun x => ow κ x, fun x => [(κ, rowB 74 6 Receipt.cells x)], slices_Clone s, (s.length ≤ 1000000), fun h => FnA.rekey κ (slices_Clone_fnO s h), fun (x : (List Receipt)) => x.length = s.length, slices_Clone_post s⟩
noncomputable def recognize_Enforce_sk (r : Realm) (forum : Int) (f : File) (j : Judgment) (l : List Receipt) (day : Int) (sum : Int) : Sk ((List Receipt) × Int) :=
 .r 1 ((recognize_within_k (w64 (sum - 1)) 1099511627776).c) fun x1 =>
 .br (!x1)
 (.fin ([], 1))
 (.r 3 ((recognize_Rest_k r forum f j l day).c) fun x2 =>
 .br (x2.2 != 0)
 (.fin ([], x2.2))
 (.br (x2.1 == 0)
 (.fin ([], 7))
 (.br (((l.length : Nat) : Int) == 200)
 (.fin ([], 6))
 (.r 11 (.depr ((slices_Clone_ko 59 l).c) fun x3 => .andl (.o [.nrm (litC Receipt.E [({ bill := j.bill, from_ := j.debtor, to_ := j.creditor, sum := minI sum x2.1, currency := f.bill.currency, day := day } : Receipt)])]) (.andl (.o [.nrm (catC Receipt.E x3 [({ bill := j.bill, from_ := j.debtor, to_ := j.creditor, sum := minI sum x2.1, currency := f.bill.currency, day := day } : Receipt)])]) (.andl (.t (Receipt.E.ones [({ bill := j.bill, from_ := j.debtor, to_ := j.creditor, sum := minI sum x2.1, currency := f.bill.currency, day := day } : Receipt)])) (.p (szP x3.length [({ bill := j.bill, from_ := j.debtor, to_ := j.creditor, sum := minI sum x2.1, currency := f.bill.currency, day := day } : Receipt)].length 48))))) fun x3 =>
 .fin (x3 ++ [({ bill := j.bill, from_ := j.debtor, to_ := j.creditor, sum := minI sum x2.1, currency := f.bill.currency, day := day } : Receipt)], 0)))))
noncomputable def recognize_Enforce (r : Realm) (forum : Int) (f : File) (j : Judgment) (l : List Receipt) (day : Int) (sum : Int) : (List Receipt) × Int := (recognize_Enforce_sk r forum f j l day sum).val
theorem recognize_Enforce_ok (r : Realm) (forum : Int) (f : File) (j : Judgment) (l : List Receipt) (day : Int) (sum : Int) (hl : l.length ≤ 1000000) (h_f_Small : f.Small) (h_r_ByOK : r.ByOK) (h_r_Small : r.Small) : (recognize_Enforce_sk r forum f j l day sum).obs (fun _ => True) := by
  simp only [File.Small, Realm.Small, Realm.ByOK] at h_f_Small
  simp only [File.Small, Realm.Small, Realm.ByOK] at h_r_ByOK
  simp only [File.Small, Realm.Small, Realm.ByOK] at h_r_Small
  refine Sk.obs_of _ ?_
  unfold recognize_Enforce_sk
  simp only [Sk.obq, Sk.isLoop, reduceCtorEq, leafB, leafJ, Cal.z, Cal.p, Cal.t, Cal.pt, Cal.o, Cal.and, Cal.andl, Cal.andr, Cal.wh, Cal.dep, Cal.depr, Ctr.c, Ctr.nil, Ctr.nilc, CtrO.c, CtrO.nil, recognize_Rest_k, recognize_within_k, slices_Clone_ko, recognize_within_eq, forall_eq, File.Small, Realm.Small, Realm.ByOK, maxLen, implies_true, true_and, and_true, and_self, true_implies, false_implies, ixP, szP, mkP]
  all_goals (repeat' first | assumption | (apply And.intro) | (intro h))
  all_goals first | trivial | assumption | omega | ((try simp only [decide_eq_true_eq, decide_eq_false_iff_not, List.length_append, List.length_cons, List.length_nil, List.length_set, List.length_replicate, Bool.not_eq_true, Bool.not_eq_false, Int.not_lt, Int.not_le, Bool.and_eq_true, Bool.or_eq_true, Bool.and_eq_false_iff, Bool.or_eq_false_iff, Bool.not_eq_eq_eq_not, Bool.not_true, Bool.not_false, beq_iff_eq, bne_iff_ne, beq_eq_false_iff_ne, bne_eq_false_iff_eq, ne_eq, subL_length] at *) <;> first | omega | (refine (w64_id ?_ ?_).trans ?_ <;> omega) | (simp (disch := omega) only [w64_id] at *; omega) | (grind) | (simp_all; done) | (simp_all; omega))

theorem recognize_Enforce_fn (r : Realm) (forum : Int) (f : File) (j : Judgment) (l : List Receipt) (day : Int) (sum : Int) (hl : l.length ≤ 1000000) (h_f_Small : f.Small) (h_r_ByOK : r.ByOK) (h_r_Small : r.Small) : FnA Tryz.prog 24 [av r.cells, iv forum, av f.cells, av j.cells, lv Receipt.cells l, iv day, iv sum] [] (.tup [lv Receipt.cells ((recognize_Enforce r forum f j l day sum).1), iv ((recognize_Enforce r forum f j l day sum).2)]) [] :=
  FnA.sk tok mixed (fun x => .tup [lv Receipt.cells x.1, iv x.2]) (fun _ => []) Tryz.func24 rfl (by kernel_rfl) 3000 (recognize_Enforce_sk r forum f j l day sum) (by kernel_rfl) (recognize_Enforce_ok r forum f j l day sum hl h_f_Small h_r_ByOK h_r_Small)
noncomputable def recognize_Enforce_k (r : Realm) (forum : Int) (f : File) (j : Judgment) (l : List Receipt) (day : Int) (sum : Int) : Ctr ((List Receipt) × Int) := ⟨Tryz.prog, 24, [av r.cells, iv forum, av f.cells, av j.cells, lv Receipt.cells l, iv day, iv sum], fun x => .tup [lv Receipt.cells x.1, iv x.2], false, recognize_Enforce r forum f j l day sum, (l.length ≤ 1000000) ∧ (f.Small) ∧ (r.ByOK) ∧ (r.Small), fun h => recognize_Enforce_fn r forum f j l day sum h.1 h.2.1 h.2.2.1 h.2.2.2, fun _ => True, trivial⟩
noncomputable def allongelaw47_sane_sk : Sk (Bool) :=
 .r 1 allongelaw47_example_k.c fun x1 =>
 .r 2 allongelaw47_papers_k.c fun x2 =>
 .r 4 ((recognize_Of_k 1 0 ({ debtor := 1, creditor := 2, part := 0, sign := 1, by_ := 0, turn := 0, sum := 60, currency := 1, state := 0 } : Claim) 50).c) fun x3 =>
 .r 5 (.o [.nrm (litC Receipt.E [({ bill := 0, from_ := 1, to_ := 2, sum := 30, currency := 0, day := 55 } : Receipt)])]) fun _ =>
 .r 6 (((recognize_Rest_k x1 1 x2 ({ court := 0, bill := 0, sign := 0, debtor := 0, creditor := 2, sum := 100, currency := 0, day := 50 } : Judgment) [] 60).nil 4 ⟨_, rfl⟩).c) fun x4 =>
 .r 7 ((recognize_Rest_k x1 1 x2 ({ court := 0, bill := 0, sign := 0, debtor := 0, creditor := 2, sum := 100, currency := 0, day := 50 } : Judgment) [({ bill := 0, from_ := 1, to_ := 2, sum := 30, currency := 0, day := 55 } : Receipt)] 60).c) fun x5 =>
 .r 8 (((recognize_Rest_k x1 1 x2 x3 [] 60).nil 4 ⟨_, rfl⟩).c) fun x6 =>
 .r 9 ((recognize_Rest_k x1 1 x2 x3 [({ bill := 0, from_ := 1, to_ := 2, sum := 30, currency := 0, day := 55 } : Receipt)] 60).c) fun x7 =>
 .r 10 (((recognize_Enforce_k x1 0 x2 ({ court := 0, bill := 0, sign := 0, debtor := 0, creditor := 2, sum := 100, currency := 0, day := 50 } : Judgment) [] 60 1000).nil 4 ⟨_, rfl⟩).c) fun x8 =>
 .r 11 (.dep (.wh ((((((x4.2 != 0) || (x5.2 != 0)) || (x6.2 != 0)) || (x7.2 != 0)) || (x8.2 != 0)) || (((x8.1.length : Nat) : Int) != 1)) false ((recognize_Check_k x1 x2 ({ court := 0, bill := 0, sign := 0, debtor := 0, creditor := 2, sum := 100, currency := 0, day := 50 } : Judgment)).c)) fun x9 => .wh (((((((x4.2 != 0) || (x5.2 != 0)) || (x6.2 != 0)) || (x7.2 != 0)) || (x8.2 != 0)) || (((x8.1.length : Nat) : Int) != 1)) || (x9 != 0)) false ((recognize_Check_k x1 x2 ({ court := 0, bill := 0, sign := 0, debtor := 0, creditor := 0, sum := 0, currency := 0, day := 0 } : Judgment)).c)) fun p15 =>
 .br ((((((((x4.2 != 0) || (x5.2 != 0)) || (x6.2 != 0)) || (x7.2 != 0)) || (x8.2 != 0)) || (((x8.1.length : Nat) : Int) != 1)) || (p15.1 != 0)) || (p15.2 != 1))
 (.fin false)
 (.r 13 (.wh ((((x4.1 == 100) && (x5.1 == 70)) && (x6.1 == 120)) && (x7.1 == 90)) true (.p (ixP (0 : Int) x8.1.length))) fun _ =>
 .r 14 (.dep (.wh (((((x4.1 == 100) && (x5.1 == 70)) && (x6.1 == 120)) && (x7.1 == 90)) && ((((x8.1.getD 0 default).bill) == 0) && ((((x8.1.getD 0 default).from_) == 0) && ((((x8.1.getD 0 default).to_) == 2) && ((((x8.1.getD 0 default).sum) == 100) && ((((x8.1.getD 0 default).currency) == 0) && ((((x8.1.getD 0 default).day) == 60) && true))))))) true ((recognize_Recognized_k x1 1 x2 ({ court := 0, bill := 0, sign := 0, debtor := 0, creditor := 2, sum := 100, currency := 0, day := 50 } : Judgment) 60).c)) fun x11 => .dep (.wh ((((((x4.1 == 100) && (x5.1 == 70)) && (x6.1 == 120)) && (x7.1 == 90)) && ((((x8.1.getD 0 default).bill) == 0) && ((((x8.1.getD 0 default).from_) == 0) && ((((x8.1.getD 0 default).to_) == 2) && ((((x8.1.getD 0 default).sum) == 100) && ((((x8.1.getD 0 default).currency) == 0) && ((((x8.1.getD 0 default).day) == 60) && true))))))) && (x11 == 1)) true ((recognize_Recognized_k x1 0 x2 x3 60).c)) fun x12 => .wh (((((((x4.1 == 100) && (x5.1 == 70)) && (x6.1 == 120)) && (x7.1 == 90)) && ((((x8.1.getD 0 default).bill) == 0) && ((((x8.1.getD 0 default).from_) == 0) && ((((x8.1.getD 0 default).to_) == 2) && ((((x8.1.getD 0 default).sum) == 100) && ((((x8.1.getD 0 default).currency) == 0) && ((((x8.1.getD 0 default).day) == 60) && true))))))) && (x11 == 1)) && (x12 == 0)) true ((recognize_Recognized_k x1 0 x2 ({ court := 0, bill := 0, sign := 0, debtor := 0, creditor := 2, sum := 100, currency := 0, day := 50 } : Judgment) 49).c)) fun p14 =>
 .fin ((((((((x4.1 == 100) && (x5.1 == 70)) && (x6.1 == 120)) && (x7.1 == 90)) && ((((x8.1.getD 0 default).bill) == 0) && ((((x8.1.getD 0 default).from_) == 0) && ((((x8.1.getD 0 default).to_) == 2) && ((((x8.1.getD 0 default).sum) == 100) && ((((x8.1.getD 0 default).currency) == 0) && ((((x8.1.getD 0 default).day) == 60) && true))))))) && (p14.1 == 1)) && (p14.2.1 == 0)) && (p14.2.2 == 0)))
noncomputable def allongelaw47_sane : Bool := (allongelaw47_sane_sk).val
theorem allongelaw47_sane_post : (fun (x : Bool) => x = true) (allongelaw47_sane) := (show allongelaw47_sane = true by kernel_rfl)
theorem allongelaw47_sane_ok : (allongelaw47_sane_sk).obs (fun _ => True) := by
  refine Sk.obs_of _ ?_
  unfold allongelaw47_sane_sk
  simp only [Sk.obq, Sk.isLoop, reduceCtorEq, leafB, leafJ, Cal.z, Cal.p, Cal.t, Cal.pt, Cal.o, Cal.and, Cal.andl, Cal.andr, Cal.wh, Cal.dep, Cal.depr, Ctr.c, Ctr.nil, Ctr.nilc, CtrO.c, CtrO.nil, allongelaw47_example_k, allongelaw47_papers_k, recognize_Check_k, recognize_Enforce_k, recognize_Of_k, recognize_Recognized_k, recognize_Rest_k, recognize_Of_eq, forall_eq, File.Small, Realm.Small, Realm.ByOK, maxLen, implies_true, true_and, and_true, and_self, true_implies, false_implies, ixP, szP, mkP]
  all_goals (repeat' first | assumption | (apply And.intro) | (intro h))
  all_goals first | trivial | assumption | omega | ((try simp only [decide_eq_true_eq, decide_eq_false_iff_not, List.length_append, List.length_cons, List.length_nil, List.length_set, List.length_replicate, Bool.not_eq_true, Bool.not_eq_false, Int.not_lt, Int.not_le, Bool.and_eq_true, Bool.or_eq_true, Bool.and_eq_false_iff, Bool.or_eq_false_iff, Bool.not_eq_eq_eq_not, Bool.not_true, Bool.not_false, beq_iff_eq, bne_iff_ne, beq_eq_false_iff_ne, bne_eq_false_iff_eq, ne_eq, subL_length] at *) <;> first | omega | (refine (w64_id ?_ ?_).trans ?_ <;> omega) | (simp (disch := omega) only [w64_id] at *; omega) | (grind) | (simp_all; done) | (simp_all; omega))

theorem allongelaw47_sane_fn : FnA Tryz.prog 18 [] [] (bv allongelaw47_sane) [] :=
  FnA.sk tok mixed (fun x => bv x) (fun _ => []) Tryz.func18 rfl (by kernel_rfl) 3000 (allongelaw47_sane_sk) (by kernel_rfl) (allongelaw47_sane_ok)
noncomputable def allongelaw47_sane_k : Ctr (Bool) := ⟨Tryz.prog, 18, [], fun x => bv x, true, allongelaw47_sane, True, fun _ => allongelaw47_sane_fn, fun (x : Bool) => x = true, allongelaw47_sane_post⟩
noncomputable def allongeref09_Few_sk (r : Realm) : Sk (Bool) :=
 .bind true (fun _ => True)
 (.loop (default : Sum (Bool) (Unit)) (fun i2 => i2 ≤ r.cities.length) (fun i2 => r.cities.length - i2) (0 : Nat)
 (fun (i2 : Nat) => ⟨[(3, iv ((i2 : Nat) : Int))], []⟩) fun i2 =>
 .bnd 1 1 r.cities.length <|
 .br ((decide (((i2 : Nat) : Int) < ((r.cities.length : Nat) : Int))) && (decide (((i2 : Nat) : Int) < 50)))
 (.r 4 (.andl (.p (ixP ((i2 : Nat) : Int) r.cities.length)) (.andl (.wh (decide (((((r.cities.getD i2 default).feasts).length : Nat) : Int) > 70)) false (.p (ixP ((i2 : Nat) : Int) r.cities.length))) (.wh ((decide (((((r.cities.getD i2 default).feasts).length : Nat) : Int) > 70)) || (decide (((((r.cities.getD i2 default).shut).length : Nat) : Int) > 210))) false (.p (ixP ((i2 : Nat) : Int) r.cities.length))))) fun _ =>
 .br (((decide (((((r.cities.getD i2 default).feasts).length : Nat) : Int) > 70)) || (decide (((((r.cities.getD i2 default).shut).length : Nat) : Int) > 210))) || (decide (((((r.cities.getD i2 default).rest).length : Nat) : Int) > 8)))
 (.fin (.inl (.inl false)))
 (.r 3 .z fun _ =>
 .wi 3 (w64 (((i2 : Nat) : Int) + 1)) ((i2 + 1 : Nat) : Int) <|
 .fin (.inr (i2 + 1))))
 (.fin (.inl (.inr ()))))
 (fun (_ : Unit) => ⟨[], []⟩) fun _ =>
 .bind true (fun b3 => ∀ k, k < r.orders.length → k < 50 → (r.orders.getD k default).choices.length ≤ 40 ∧ (r.orders.getD k default).rules.length ≤ 40)
 (.loop (default : Sum (Bool) (Unit)) (fun i4 => (∀ k, k < i4 → (r.orders.getD k default).choices.length ≤ 40 ∧ (r.orders.getD k default).rules.length ≤ 40) ∧ i4 ≤ r.orders.length) (fun i4 => r.orders.length - i4) (0 : Nat)
 (fun (i4 : Nat) => ⟨[(4, iv ((i4 : Nat) : Int))], []⟩) fun i4 =>
 .bnd 1 4 r.orders.length <|
 .br ((decide (((i4 : Nat) : Int) < ((r.orders.length : Nat) : Int))) && (decide (((i4 : Nat) : Int) < 50)))
 (.r 9 (.andl (.p (ixP ((i4 : Nat) : Int) r.orders.length)) (.wh (decide (((((r.orders.getD i4 default).choices).length : Nat) : Int) > 40)) false (.p (ixP ((i4 : Nat) : Int) r.orders.length)))) fun _ =>
 .br ((decide (((((r.orders.getD i4 default).choices).length : Nat) : Int) > 40)) || (decide (((((r.orders.getD i4 default).rules).length : Nat) : Int) > 40)))
 (.fin (.inl (.inl false)))
 (.r 8 .z fun _ =>
 .wi 4 (w64 (((i4 : Nat) : Int) + 1)) ((i4 + 1 : Nat) : Int) <|
 .fin (.inr (i4 + 1))))
 (.fin (.inl (.inr ()))))
 (fun (_ : Unit) => ⟨[], []⟩) fun _ =>
 .fin ((((((((decide (((r.currencies.length : Nat) : Int) < 50)) && (decide (((r.cities.length : Nat) : Int) < 50))) && (decide (((r.groups.length : Nat) : Int) < 50))) && (decide (((r.firms.length : Nat) : Int) < 210))) && (decide (((r.orders.length : Nat) : Int) < 50))) && (decide (((r.usances.length : Nat) : Int) < 110))) && (decide (((r.rates.length : Nat) : Int) < 110))) && (decide (((r.halts.length : Nat) : Int) < 50)))
noncomputable def allongeref09_Few (r : Realm) : Bool := (allongeref09_Few_sk r).val
theorem allongeref09_Few_pst (r : Realm) : (allongeref09_Few_sk r).pst (fun (x : Bool) => x = true → r.Small) := by
  refine Sk.pst_of _ ?_
  unfold allongeref09_Few_sk
  simp only [Sk.pstq, Sk.isLoop, reduceCtorEq, leafB, leafJ, Cal.z, Cal.p, Cal.t, Cal.pt, Cal.o, Cal.and, Cal.andl, Cal.andr, Cal.wh, Cal.dep, Cal.depr, Ctr.c, Ctr.nil, Ctr.nilc, CtrO.c, CtrO.nil, File.Small, Realm.Small, maxLen, implies_true, true_and, and_true, and_self, true_implies, false_implies, ixP, szP, mkP]
  all_goals (repeat' first | assumption | (apply And.intro) | (intro h))
  all_goals first | trivial | assumption | omega | ((try simp only [decide_eq_true_eq, decide_eq_false_iff_not, List.length_append, List.length_cons, List.length_nil, List.length_set, List.length_replicate, Bool.not_eq_true, Bool.not_eq_false, Int.not_lt, Int.not_le, Bool.and_eq_true, Bool.or_eq_true, Bool.and_eq_false_iff, Bool.or_eq_false_iff, Bool.not_eq_eq_eq_not, Bool.not_true, Bool.not_false, beq_iff_eq, bne_iff_ne, beq_eq_false_iff_ne, bne_eq_false_iff_eq, ne_eq, subL_length] at *) <;> first | omega | (refine (w64_id ?_ ?_).trans ?_ <;> omega) | (simp (disch := omega) only [w64_id] at *; omega) | (grind) | (simp_all; done) | (simp_all; omega))

theorem allongeref09_Few_post (r : Realm) : (fun (x : Bool) => x = true → r.Small) (allongeref09_Few r) := Sk.pval _ (allongeref09_Few_pst r)
theorem allongeref09_Few_ok (r : Realm) : (allongeref09_Few_sk r).obs (fun _ => True) := by
  refine Sk.obs_of _ ?_
  unfold allongeref09_Few_sk
  simp only [Sk.obq, Sk.isLoop, reduceCtorEq, leafB, leafJ, Cal.z, Cal.p, Cal.t, Cal.pt, Cal.o, Cal.and, Cal.andl, Cal.andr, Cal.wh, Cal.dep, Cal.depr, Ctr.c, Ctr.nil, Ctr.nilc, CtrO.c, CtrO.nil, File.Small, Realm.Small, maxLen, implies_true, true_and, and_true, and_self, true_implies, false_implies, ixP, szP, mkP]
  all_goals (repeat' first | assumption | (apply And.intro) | (intro h))
  all_goals first | trivial | assumption | omega | ((try simp only [decide_eq_true_eq, decide_eq_false_iff_not, List.length_append, List.length_cons, List.length_nil, List.length_set, List.length_replicate, Bool.not_eq_true, Bool.not_eq_false, Int.not_lt, Int.not_le, Bool.and_eq_true, Bool.or_eq_true, Bool.and_eq_false_iff, Bool.or_eq_false_iff, Bool.not_eq_eq_eq_not, Bool.not_true, Bool.not_false, beq_iff_eq, bne_iff_ne, beq_eq_false_iff_ne, bne_eq_false_iff_eq, ne_eq, subL_length] at *) <;> first | omega | (refine (w64_id ?_ ?_).trans ?_ <;> omega) | (simp (disch := omega) only [w64_id] at *; omega) | (grind) | (simp_all; done) | (simp_all; omega))

theorem allongeref09_Few_fn (r : Realm) : FnA Tryz.prog 70 [av r.cells] [] (bv (allongeref09_Few r)) [] :=
  FnA.sk tok mixed (fun x => bv x) (fun _ => []) Tryz.func70 rfl (by kernel_rfl) 3000 (allongeref09_Few_sk r) (by kernel_rfl) (allongeref09_Few_ok r)
noncomputable def allongeref09_Few_k (r : Realm) : Ctr (Bool) := ⟨Tryz.prog, 70, [av r.cells], fun x => bv x, true, allongeref09_Few r, True, fun _ => allongeref09_Few_fn r, fun (x : Bool) => x = true → r.Small, allongeref09_Few_post r⟩
noncomputable def allongeref14_Few_sk (f : File) : Sk (Bool) :=
 .fin ((((decide (((f.signs.length : Nat) : Int) ≤ 50)) && (decide (((f.alters.length : Nat) : Int) ≤ 10))) && (decide (((f.acts.length : Nat) : Int) ≤ 110))) && (decide (((f.facts.length : Nat) : Int) ≤ 220)))
noncomputable def allongeref14_Few (f : File) : Bool := (allongeref14_Few_sk f).val
theorem allongeref14_Few_eq (f : File) : allongeref14_Few f = ((((decide (((f.signs.length : Nat) : Int) ≤ 50)) && (decide (((f.alters.length : Nat) : Int) ≤ 10))) && (decide (((f.acts.length : Nat) : Int) ≤ 110))) && (decide (((f.facts.length : Nat) : Int) ≤ 220))) := rfl
theorem allongeref14_Few_pst (f : File) : (allongeref14_Few_sk f).pst (fun (x : Bool) => x = true → f.Small) := by
  refine Sk.pst_of _ ?_
  unfold allongeref14_Few_sk
  simp only [Sk.pstq, Sk.isLoop, reduceCtorEq, leafB, leafJ, Cal.z, Cal.p, Cal.t, Cal.pt, Cal.o, Cal.and, Cal.andl, Cal.andr, Cal.wh, Cal.dep, Cal.depr, Ctr.c, Ctr.nil, Ctr.nilc, CtrO.c, CtrO.nil, File.Small, Realm.Small, maxLen, implies_true, true_and, and_true, and_self, true_implies, false_implies, ixP, szP, mkP]
  all_goals (repeat' first | assumption | (apply And.intro) | (intro h))
  all_goals first | trivial | assumption | omega | ((try simp only [decide_eq_true_eq, decide_eq_false_iff_not, List.length_append, List.length_cons, List.length_nil, List.length_set, List.length_replicate, Bool.not_eq_true, Bool.not_eq_false, Int.not_lt, Int.not_le, Bool.and_eq_true, Bool.or_eq_true, Bool.and_eq_false_iff, Bool.or_eq_false_iff, Bool.not_eq_eq_eq_not, Bool.not_true, Bool.not_false, beq_iff_eq, bne_iff_ne, beq_eq_false_iff_ne, bne_eq_false_iff_eq, ne_eq, subL_length] at *) <;> first | omega | (refine (w64_id ?_ ?_).trans ?_ <;> omega) | (simp (disch := omega) only [w64_id] at *; omega) | (grind) | (simp_all; done) | (simp_all; omega))

theorem allongeref14_Few_post (f : File) : (fun (x : Bool) => x = true → f.Small) (allongeref14_Few f) := Sk.pval _ (allongeref14_Few_pst f)
theorem allongeref14_Few_ok (f : File) : (allongeref14_Few_sk f).obs (fun _ => True) := by
  refine Sk.obs_of _ ?_
  unfold allongeref14_Few_sk
  simp only [Sk.obq, Sk.isLoop, reduceCtorEq, leafB, leafJ, Cal.z, Cal.p, Cal.t, Cal.pt, Cal.o, Cal.and, Cal.andl, Cal.andr, Cal.wh, Cal.dep, Cal.depr, Ctr.c, Ctr.nil, Ctr.nilc, CtrO.c, CtrO.nil, File.Small, Realm.Small, maxLen, implies_true, true_and, and_true, and_self, true_implies, false_implies, ixP, szP, mkP]

theorem allongeref14_Few_fn (f : File) : FnA Tryz.prog 71 [av f.cells] [] (bv (allongeref14_Few f)) [] :=
  FnA.sk tok mixed (fun x => bv x) (fun _ => []) Tryz.func71 rfl (by kernel_rfl) 3000 (allongeref14_Few_sk f) (by kernel_rfl) (allongeref14_Few_ok f)
noncomputable def allongeref14_Few_k (f : File) : Ctr (Bool) := ⟨Tryz.prog, 71, [av f.cells], fun x => bv x, true, allongeref14_Few f, True, fun _ => allongeref14_Few_fn f, fun (x : Bool) => x = true → f.Small, allongeref14_Few_post f⟩
noncomputable def allongeref15_size_kr (rv : Term → Int → Int → Int) (rp : Term → Int → Int → Prop) (rf : ∀ (t : Term) (n : Int) (levels : Int), rp t n levels → FnA Tryz.prog 145 [av t.cells, iv n, iv levels] [] (iv (rv t n levels)) []) (t : Term) (n : Int) (levels : Int) : Ctr (Int) := ⟨Tryz.prog, 145, [av t.cells, iv n, iv levels], fun x => iv x, true, rv t n levels, rp t n levels, rf t n levels, fun _ => True, trivial⟩
noncomputable def allongeref15_size_sk (rv : Term → Int → Int → Int) (rp : Term → Int → Int → Prop) (rf : ∀ (t : Term) (n : Int) (levels : Int), rp t n levels → FnA Tryz.prog 145 [av t.cells, iv n, iv levels] [] (iv (rv t n levels)) []) (t : Term) (n : Int) (levels : Int) : Sk (Int) :=
 .br (decide (levels < 1))
 (.fin (-1))
 (.bind true (fun _ => True)
 (.loop (default : Sum (Int) (Int)) (fun i2 => i2.2 ≤ t.args.length) (fun i2 => t.args.length - i2.2) ((w64 (n - 1), 0) : Int × Nat)
 (fun (i2 : Int × Nat) => ⟨[(1, iv i2.1), (7, iv ((i2.2 : Nat) : Int))], []⟩) fun i2 =>
 .bnd 3 2 t.args.length <|
 .br ((decide (((i2.2 : Nat) : Int) < ((t.args.length : Nat) : Int))) && (decide (i2.1 ≥ 0)))
 (.r 7 (.andl (.andl (.p (ixP ((i2.2 : Nat) : Int) t.args.length)) (.o [.cast 26 (refC (Term.unroll (t.args.getD i2.2 default)))])) ((allongeref15_size_kr rv rp rf (t.args.getD i2.2 default) i2.1 (w64 (levels - 1))).c)) fun x3 =>
 .r 6 .z fun _ =>
 .wi 7 (w64 (((i2.2 : Nat) : Int) + 1)) ((i2.2 + 1 : Nat) : Int) <|
 .fin (.inr (x3, i2.2 + 1)))
 (.fin (.inl (.inr i2.1))))
 (fun (b1 : Int) => ⟨[(1, iv b1)], []⟩) fun b1 =>
 .fin b1)
noncomputable def allongeref15_size_n : Nat → Term → Int → Int → Int
  | 0, _, _, _ => default
  | fu + 1, t, n, levels => (allongeref15_size_sk (allongeref15_size_n fu) (fun _ _ _ => False) (fun _ _ _ => fun h => h.elim) t n levels).val
theorem allongeref15_size_ok (fu : Nat) (rf : ∀ (t : Term) (n : Int) (levels : Int), t.depth ≤ fu ∧ True → FnA Tryz.prog 145 [av t.cells, iv n, iv levels] [] (iv (allongeref15_size_n fu t n levels)) []) (t : Term) (n : Int) (levels : Int) (hm : t.depth ≤ fu + 1) : (allongeref15_size_sk (allongeref15_size_n fu) (fun t n levels => t.depth ≤ fu ∧ True) rf t n levels).obs (fun _ => True) := by
  refine Sk.obs_of _ ?_
  unfold allongeref15_size_sk
  simp only [Sk.obq, Sk.isLoop, reduceCtorEq, leafB, leafJ, Cal.z, Cal.p, Cal.t, Cal.pt, Cal.o, Cal.and, Cal.andl, Cal.andr, Cal.wh, Cal.dep, Cal.depr, Ctr.c, Ctr.nil, Ctr.nilc, CtrO.c, CtrO.nil, allongeref15_size_kr, maxLen, implies_true, true_and, and_true, and_self, true_implies, false_implies, ixP, szP, mkP]
  all_goals (repeat' first | assumption | (apply And.intro) | (intro h))
  all_goals first | trivial | assumption | omega | (refine Nat.le_of_lt_succ (Nat.lt_of_lt_of_le (Term.depth_args t _ (by (try simp only [decide_eq_true_eq, decide_eq_false_iff_not, List.length_append, List.length_cons, List.length_nil, List.length_set, List.length_replicate, Bool.not_eq_true, Bool.not_eq_false, Int.not_lt, Int.not_le, Bool.and_eq_true, Bool.or_eq_true, Bool.and_eq_false_iff, Bool.or_eq_false_iff, Bool.not_eq_eq_eq_not, Bool.not_true, Bool.not_false, beq_iff_eq, bne_iff_ne, beq_eq_false_iff_ne, bne_eq_false_iff_eq, ne_eq, subL_length] at *); omega)) hm)) | ((try simp only [decide_eq_true_eq, decide_eq_false_iff_not, List.length_append, List.length_cons, List.length_nil, List.length_set, List.length_replicate, Bool.not_eq_true, Bool.not_eq_false, Int.not_lt, Int.not_le, Bool.and_eq_true, Bool.or_eq_true, Bool.and_eq_false_iff, Bool.or_eq_false_iff, Bool.not_eq_eq_eq_not, Bool.not_true, Bool.not_false, beq_iff_eq, bne_iff_ne, beq_eq_false_iff_ne, bne_eq_false_iff_eq, ne_eq, subL_length] at *) <;> first | omega | (refine (w64_id ?_ ?_).trans ?_ <;> omega) | (simp (disch := omega) only [w64_id] at *; omega) | (grind) | (simp_all; done) | (simp_all; omega))

theorem allongeref15_size_val (fu : Nat) (rp : Term → Int → Int → Prop) (rf : ∀ (t : Term) (n : Int) (levels : Int), rp t n levels → FnA Tryz.prog 145 [av t.cells, iv n, iv levels] [] (iv (allongeref15_size_n fu t n levels)) []) (t : Term) (n : Int) (levels : Int) : (allongeref15_size_sk (allongeref15_size_n fu) rp rf t n levels).val = allongeref15_size_n (fu + 1) t n levels := by kernel_rfl
theorem allongeref15_size_fnN (fu : Nat) : ∀ (t : Term) (n : Int) (levels : Int), t.depth ≤ fu → FnA Tryz.prog 145 [av t.cells, iv n, iv levels] [] (iv (allongeref15_size_n fu t n levels)) [] := by
  induction fu with
  | zero => intro t n levels hm; exact absurd hm (by have := Term.depth_pos t; omega)
  | succ fu ih =>
    intro t n levels hm
    have h : FnA Tryz.prog 145 [av t.cells, iv n, iv levels] [] (iv ((allongeref15_size_sk (allongeref15_size_n fu) (fun t n levels => t.depth ≤ fu ∧ True) (fun t n levels h => ih t n levels h.1) t n levels).val)) [] := FnA.sk tok mixed (fun x => iv x) (fun _ => []) Tryz.func145 rfl (by kernel_rfl) 3000 (allongeref15_size_sk (allongeref15_size_n fu) (fun t n levels => t.depth ≤ fu ∧ True) (fun t n levels h => ih t n levels h.1) t n levels) (by kernel_rfl) (allongeref15_size_ok fu _ t n levels hm)
    rw [allongeref15_size_val] at h
    exact h
noncomputable def allongeref15_size (t : Term) (n : Int) (levels : Int) : Int := allongeref15_size_n (t.depth) t n levels
theorem allongeref15_size_fn (t : Term) (n : Int) (levels : Int) : FnA Tryz.prog 145 [av t.cells, iv n, iv levels] [] (iv (allongeref15_size t n levels)) [] := allongeref15_size_fnN _ t n levels (Nat.le_refl _)
noncomputable def allongeref15_size_k (t : Term) (n : Int) (levels : Int) : Ctr (Int) := ⟨Tryz.prog, 145, [av t.cells, iv n, iv levels], fun x => iv x, true, allongeref15_size t n levels, True, fun _ => allongeref15_size_fn t n levels, fun _ => True, trivial⟩
noncomputable def allongeref15_Few_sk (t : Term) : Sk (Bool) :=
 .r 1 ((allongeref15_size_k t 100 20).c) fun x1 =>
 .fin (decide (x1 ≥ 0))
noncomputable def allongeref15_Few (t : Term) : Bool := (allongeref15_Few_sk t).val
theorem allongeref15_Few_ok (t : Term) : (allongeref15_Few_sk t).obs (fun _ => True) := by
  refine Sk.obs_of _ ?_
  unfold allongeref15_Few_sk
  simp only [Sk.obq, Sk.isLoop, reduceCtorEq, leafB, leafJ, Cal.z, Cal.p, Cal.t, Cal.pt, Cal.o, Cal.and, Cal.andl, Cal.andr, Cal.wh, Cal.dep, Cal.depr, Ctr.c, Ctr.nil, Ctr.nilc, CtrO.c, CtrO.nil, allongeref15_size_k, maxLen, implies_true, true_and, and_true, and_self, true_implies, false_implies, ixP, szP, mkP]

theorem allongeref15_Few_fn (t : Term) : FnA Tryz.prog 104 [av t.cells] [] (bv (allongeref15_Few t)) [] :=
  FnA.sk tok mixed (fun x => bv x) (fun _ => []) Tryz.func104 rfl (by kernel_rfl) 3000 (allongeref15_Few_sk t) (by kernel_rfl) (allongeref15_Few_ok t)
noncomputable def allongeref15_Few_k (t : Term) : Ctr (Bool) := ⟨Tryz.prog, 104, [av t.cells], fun x => bv x, true, allongeref15_Few t, True, fun _ => allongeref15_Few_fn t, fun _ => True, trivial⟩
noncomputable def allongeref18_Few_sk (o : Order) : Sk (Bool) :=
 .br ((decide (((o.rules.length : Nat) : Int) > 60)) || (decide (((o.choices.length : Nat) : Int) > 60)))
 (.fin false)
 (.bind true (fun _ => True)
 (.loop (default : Sum (Bool) (Unit)) (fun i2 => i2 ≤ o.rules.length) (fun i2 => o.rules.length - i2) (0 : Nat)
 (fun (i2 : Nat) => ⟨[(3, iv ((i2 : Nat) : Int))], []⟩) fun i2 =>
 .bnd 1 3 o.rules.length <|
 .br (decide (((i2 : Nat) : Int) < ((o.rules.length : Nat) : Int)))
 (.r 6 (.andl (.p (ixP ((i2 : Nat) : Int) o.rules.length)) ((allongeref15_Few_k ((o.rules.getD i2 default).term)).c)) fun x3 =>
 .br (!x3)
 (.fin (.inl (.inl false)))
 (.r 5 .z fun _ =>
 .wi 3 (w64 (((i2 : Nat) : Int) + 1)) ((i2 + 1 : Nat) : Int) <|
 .fin (.inr (i2 + 1))))
 (.fin (.inl (.inr ()))))
 (fun (_ : Unit) => ⟨[], []⟩) fun _ =>
 .fin true)
noncomputable def allongeref18_Few (o : Order) : Bool := (allongeref18_Few_sk o).val
theorem allongeref18_Few_ok (o : Order) : (allongeref18_Few_sk o).obs (fun _ => True) := by
  refine Sk.obs_of _ ?_
  unfold allongeref18_Few_sk
  simp only [Sk.obq, Sk.isLoop, reduceCtorEq, leafB, leafJ, Cal.z, Cal.p, Cal.t, Cal.pt, Cal.o, Cal.and, Cal.andl, Cal.andr, Cal.wh, Cal.dep, Cal.depr, Ctr.c, Ctr.nil, Ctr.nilc, CtrO.c, CtrO.nil, allongeref15_Few_k, maxLen, implies_true, true_and, and_true, and_self, true_implies, false_implies, ixP, szP, mkP]
  all_goals (repeat' first | assumption | (apply And.intro) | (intro h))
  all_goals first | trivial | assumption | omega | ((try simp only [decide_eq_true_eq, decide_eq_false_iff_not, List.length_append, List.length_cons, List.length_nil, List.length_set, List.length_replicate, Bool.not_eq_true, Bool.not_eq_false, Int.not_lt, Int.not_le, Bool.and_eq_true, Bool.or_eq_true, Bool.and_eq_false_iff, Bool.or_eq_false_iff, Bool.not_eq_eq_eq_not, Bool.not_true, Bool.not_false, beq_iff_eq, bne_iff_ne, beq_eq_false_iff_ne, bne_eq_false_iff_eq, ne_eq, subL_length] at *) <;> first | omega | (refine (w64_id ?_ ?_).trans ?_ <;> omega) | (simp (disch := omega) only [w64_id] at *; omega) | (grind) | (simp_all; done) | (simp_all; omega))

theorem allongeref18_Few_fn (o : Order) : FnA Tryz.prog 72 [av o.cells] [] (bv (allongeref18_Few o)) [] :=
  FnA.sk tok mixed (fun x => bv x) (fun _ => []) Tryz.func72 rfl (by kernel_rfl) 3000 (allongeref18_Few_sk o) (by kernel_rfl) (allongeref18_Few_ok o)
noncomputable def allongeref18_Few_k (o : Order) : Ctr (Bool) := ⟨Tryz.prog, 72, [av o.cells], fun x => bv x, true, allongeref18_Few o, True, fun _ => allongeref18_Few_fn o, fun _ => True, trivial⟩
end Go.Proofs.YtggilgghigileaaGreatDoor
