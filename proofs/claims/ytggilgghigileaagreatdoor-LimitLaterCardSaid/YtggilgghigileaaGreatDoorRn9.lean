/- Functions, as sketches. -/
import Derived.Test.YtggilgghigileaaGreatDoorRn8
namespace Go.Proofs.YtggilgghigileaaGreatDoor
open Go Go.Av
set_option linter.unusedSimpArgs false
set_option linter.unusedVariables false
set_option maxHeartbeats 1000000
set_option maxRecDepth 100000
noncomputable def tenor_settle_sk (r : Realm) (city : Int) (day : Int) : Sk (Int × Int) :=
 .r 1 ((realm_OrderAt_k r city).c) fun x1 =>
 .loop (default : Int × Int) (fun i2 => (0 : Int) ≤ i2 ∧ i2 ≤ 100001) (fun i2 => (100001 - i2).toNat) (day : Int)
 (fun (i2 : Int) => ⟨[(2, iv i2)], []⟩) fun i2 =>
 .r 2 ((tenor_skip_k r x1 i2).c) fun x3 =>
 .r 3 (.andl (.p (ixP city r.cities.length)) ((calendar_Next_k (r.cities.getD city.toNat default) x3).c)) fun x4 =>
 .br (x4.2 != 0)
 (.fin (.inl (0, 3)))
 (.br (x4.1 == x3)
 (.fin (.inl (x3, 0)))
 (.fin (.inr x4.1)))
noncomputable def tenor_settle (r : Realm) (city : Int) (day : Int) : Int × Int := (tenor_settle_sk r city day).val
theorem tenor_settle_pst (r : Realm) (city : Int) (day : Int) (hP : (0 ≤ city ∧ city < (r.cities.length : Int)) ∧ (0 ≤ day ∧ day ≤ 100001) ∧ r.HaltOK) : (tenor_settle_sk r city day).pst (fun (x : Int × Int) => x.2 = 0 → 0 ≤ x.1 ∧ x.1 ≤ 100001) := by
  refine Sk.pst_of _ ?_
  unfold tenor_settle_sk
  simp only [Sk.pstq, Sk.isLoop, reduceCtorEq, leafB, leafJ, Cal.z, Cal.p, Cal.t, Cal.pt, Cal.o, Cal.and, Cal.andl, Cal.andr, Cal.wh, Cal.dep, Cal.depr, Ctr.c, Ctr.nil, Ctr.nilc, CtrO.c, CtrO.nil, calendar_Next_k, realm_OrderAt_k, tenor_skip_k, Realm.HaltOK, maxLen, implies_true, true_and, and_true, and_self, true_implies, false_implies, ixP, szP, mkP]
  obtain ⟨hc, hd, hh⟩ := hP
  intro _ _
  refine ⟨hd, fun i hi y hy hyp x hx hxp => ⟨fun _ h => absurd h (by decide), fun he => ⟨fun hq => ?_, fun hq => ⟨?_, ?_⟩⟩⟩⟩
  all_goals have h2 := hyp ⟨hh, hi⟩
  all_goals simp only [decide_eq_true_eq, decide_eq_false_iff_not, List.length_append, List.length_cons, List.length_nil, List.length_set, List.length_replicate, Bool.not_eq_true, Bool.not_eq_false, Int.not_lt, Int.not_le, Bool.and_eq_true, Bool.or_eq_true, Bool.and_eq_false_iff, Bool.or_eq_false_iff, Bool.not_eq_eq_eq_not, Bool.not_true, Bool.not_false, beq_iff_eq, bne_iff_ne, beq_eq_false_iff_ne, bne_eq_false_iff_eq, ne_eq, subL_length] at he hq
  all_goals have h3 := hxp he
  all_goals omega

theorem tenor_settle_post (r : Realm) (city : Int) (day : Int) : (fun (x : Int × Int) => ((0 ≤ city ∧ city < (r.cities.length : Int)) ∧ (0 ≤ day ∧ day ≤ 100001) ∧ r.HaltOK) → (x.2 = 0 → 0 ≤ x.1 ∧ x.1 ≤ 100001)) (tenor_settle r city day) := fun hP => Sk.pval _ (tenor_settle_pst r city day hP)
theorem tenor_settle_ok (r : Realm) (city : Int) (day : Int) (hc : 0 ≤ city ∧ city < (r.cities.length : Int)) (hd : 0 ≤ day ∧ day ≤ 100001) (hh : r.HaltOK) : (tenor_settle_sk r city day).obs (fun _ => True) := by
  simp only [Realm.HaltOK] at hh
  refine Sk.obs_of _ ?_
  unfold tenor_settle_sk
  simp only [Sk.obq, Sk.isLoop, reduceCtorEq, leafB, leafJ, Cal.z, Cal.p, Cal.t, Cal.pt, Cal.o, Cal.and, Cal.andl, Cal.andr, Cal.wh, Cal.dep, Cal.depr, Ctr.c, Ctr.nil, Ctr.nilc, CtrO.c, CtrO.nil, calendar_Next_k, realm_OrderAt_k, tenor_skip_k, Realm.HaltOK, maxLen, implies_true, true_and, and_true, and_self, true_implies, false_implies, ixP, szP, mkP]
  all_goals (repeat' first | assumption | (apply And.intro) | (intro h))
  all_goals first | trivial | assumption | omega | ((try simp only [decide_eq_true_eq, decide_eq_false_iff_not, List.length_append, List.length_cons, List.length_nil, List.length_set, List.length_replicate, Bool.not_eq_true, Bool.not_eq_false, Int.not_lt, Int.not_le, Bool.and_eq_true, Bool.or_eq_true, Bool.and_eq_false_iff, Bool.or_eq_false_iff, Bool.not_eq_eq_eq_not, Bool.not_true, Bool.not_false, beq_iff_eq, bne_iff_ne, beq_eq_false_iff_ne, bne_eq_false_iff_eq, ne_eq, subL_length] at *) <;> first | omega | (refine (w64_id ?_ ?_).trans ?_ <;> omega) | (simp (disch := omega) only [w64_id] at *; omega) | (grind) | (simp_all; done) | (simp_all; omega))

theorem tenor_settle_fn (r : Realm) (city : Int) (day : Int) (hc : 0 ≤ city ∧ city < (r.cities.length : Int)) (hd : 0 ≤ day ∧ day ≤ 100001) (hh : r.HaltOK) : FnA Tryz.prog 86 [av r.cells, iv city, iv day] [] (.tup [iv ((tenor_settle r city day).1), iv ((tenor_settle r city day).2)]) [] :=
  FnA.sk tok mixed (fun x => .tup [iv x.1, iv x.2]) (fun _ => []) Tryz.func86 rfl (by kernel_rfl) 3000 (tenor_settle_sk r city day) (by kernel_rfl) (tenor_settle_ok r city day hc hd hh)
noncomputable def tenor_settle_k (r : Realm) (city : Int) (day : Int) : Ctr (Int × Int) := ⟨Tryz.prog, 86, [av r.cells, iv city, iv day], fun x => .tup [iv x.1, iv x.2], true, tenor_settle r city day, (0 ≤ city ∧ city < (r.cities.length : Int)) ∧ (0 ≤ day ∧ day ≤ 100001) ∧ (r.HaltOK), fun h => tenor_settle_fn r city day h.1 h.2.1 h.2.2, fun (x : Int × Int) => ((0 ≤ city ∧ city < (r.cities.length : Int)) ∧ (0 ≤ day ∧ day ≤ 100001) ∧ r.HaltOK) → (x.2 = 0 → 0 ≤ x.1 ∧ x.1 ≤ 100001), tenor_settle_post r city day⟩
noncomputable def tenor_Due_sk (r : Realm) (b : Bill) (seen : Int) (grace : Int) : Sk (Int × Int) :=
 .r 2 (.dep ((realm_Check_k r).c) fun x1 => .dep (.wh (x1 != 0) false ((tenor_isCity_k r b.city).c)) fun x2 => .dep (.wh ((x1 != 0) || (!x2)) false ((tenor_isCity_k r b.pay).c)) fun x3 => .wh (((x1 != 0) || (!x2)) || (!x3)) false ((tenor_isDay_k b.day).c)) fun p10 =>
 .br ((((p10.1 != 0) || (!p10.2.1)) || (!p10.2.2.1)) || (!p10.2.2.2))
 (.fin (0, 1))
 (.br ((((decide (b.tenor.kind < 0)) || (decide (b.tenor.kind ≥ 5))) || (decide (b.tenor.unit < 0))) || (decide (b.tenor.unit ≥ 2)))
 (.fin (0, 1))
 (.r 6 (.wh (seen != (-1)) true ((tenor_isDay_k seen).c)) fun x5 =>
 .br ((((seen != (-1)) && (!x5)) || (decide (grace < 0))) || (decide (grace > 20000)))
 (.fin (0, 1))
 (.r 8 ((tenor_Sights_k b.tenor).c) fun x6 =>
 .br (x6 && (seen == (-1)))
 (.fin (0, 4))
 (.r 10 ((tenor_base_k r b seen).c) fun x7 =>
 .br (x7.2 != 0)
 (.fin (0, x7.2))
 (.r 13 ((tenor_isDay_k x7.1).c) fun x8 =>
 .br ((!x8) || (decide ((w64 (x7.1 + grace)) > 100000)))
 (.fin (0, 3))
 (.r 15 ((tenor_settle_k r b.pay (w64 (x7.1 + grace))).c) fun x9 =>
 .fin (x9.1, x9.2)))))))
noncomputable def tenor_Due (r : Realm) (b : Bill) (seen : Int) (grace : Int) : Int × Int := (tenor_Due_sk r b seen grace).val
theorem tenor_Due_pst (r : Realm) (b : Bill) (seen : Int) (grace : Int) : (tenor_Due_sk r b seen grace).pst (fun (x : Int × Int) => x.2 = 0 → 0 ≤ x.1 ∧ x.1 ≤ 100001) := by
  refine Sk.pst_of _ ?_
  unfold tenor_Due_sk
  simp only [Sk.pstq, Sk.isLoop, reduceCtorEq, leafB, leafJ, Cal.z, Cal.p, Cal.t, Cal.pt, Cal.o, Cal.and, Cal.andl, Cal.andr, Cal.wh, Cal.dep, Cal.depr, Ctr.c, Ctr.nil, Ctr.nilc, CtrO.c, CtrO.nil, realm_Check_k, tenor_Sights_k, tenor_base_k, tenor_isCity_k, tenor_isDay_k, tenor_settle_k, tenor_Sights_eq, tenor_isCity_eq, tenor_isDay_eq, forall_eq, File.Small, Realm.Small, Realm.HaltOK, maxLen, implies_true, true_and, and_true, and_self, true_implies, false_implies, ixP, szP, mkP]
  intro hr
  refine ⟨fun _ h => absurd h (by decide), fun h1 => ⟨fun _ h => absurd h (by decide), fun _ => ⟨fun _ h => absurd h (by decide), fun h3 => ⟨fun _ h => absurd h (by decide), fun _ => ⟨fun h h' => by rw [h'] at h; exact absurd h (by decide), fun h4 => ⟨fun _ h => absurd h (by decide), fun h5 himp => ?_⟩⟩⟩⟩⟩⟩
  simp only [decide_eq_true_eq, decide_eq_false_iff_not, List.length_append, List.length_cons, List.length_nil, List.length_set, List.length_replicate, Bool.not_eq_true, Bool.not_eq_false, Int.not_lt, Int.not_le, Bool.and_eq_true, Bool.or_eq_true, Bool.and_eq_false_iff, Bool.or_eq_false_iff, Bool.not_eq_eq_eq_not, Bool.not_true, Bool.not_false, beq_iff_eq, bne_iff_ne, beq_eq_false_iff_ne, bne_eq_false_iff_eq, ne_eq, subL_length] at h1 h5
  have e : ∀ x g : Int, 0 ≤ x ∧ x ≤ 100000 → 0 ≤ g ∧ g ≤ 20000 → 0 ≤ w64 (x + g) := fun x g h1 h2 => by rw [w64_id (by omega) (by omega)]; omega
  have h6 : 0 ≤ grace ∧ grace ≤ 20000 := by simp only [decide_eq_true_eq, decide_eq_false_iff_not, List.length_append, List.length_cons, List.length_nil, List.length_set, List.length_replicate, Bool.not_eq_true, Bool.not_eq_false, Int.not_lt, Int.not_le, Bool.and_eq_true, Bool.or_eq_true, Bool.and_eq_false_iff, Bool.or_eq_false_iff, Bool.not_eq_eq_eq_not, Bool.not_true, Bool.not_false, beq_iff_eq, bne_iff_ne, beq_eq_false_iff_ne, bne_eq_false_iff_eq, ne_eq, subL_length] at h3; omega
  refine himp ⟨by omega, ⟨e _ _ h5.1 h6, by omega⟩, hr h1.1.1.1⟩

theorem tenor_Due_post (r : Realm) (b : Bill) (seen : Int) (grace : Int) : (fun (x : Int × Int) => x.2 = 0 → 0 ≤ x.1 ∧ x.1 ≤ 100001) (tenor_Due r b seen grace) := Sk.pval _ (tenor_Due_pst r b seen grace)
theorem tenor_Due_ok (r : Realm) (b : Bill) (seen : Int) (grace : Int) (h_r_Small : r.Small) : (tenor_Due_sk r b seen grace).obs (fun _ => True) := by
  simp only [File.Small, Realm.Small, Realm.HaltOK] at h_r_Small
  refine Sk.obs_of _ ?_
  unfold tenor_Due_sk
  simp only [Sk.obq, Sk.isLoop, reduceCtorEq, leafB, leafJ, Cal.z, Cal.p, Cal.t, Cal.pt, Cal.o, Cal.and, Cal.andl, Cal.andr, Cal.wh, Cal.dep, Cal.depr, Ctr.c, Ctr.nil, Ctr.nilc, CtrO.c, CtrO.nil, realm_Check_k, tenor_Sights_k, tenor_base_k, tenor_isCity_k, tenor_isDay_k, tenor_settle_k, tenor_Sights_eq, tenor_isCity_eq, tenor_isDay_eq, forall_eq, File.Small, Realm.Small, Realm.HaltOK, maxLen, implies_true, true_and, and_true, and_self, true_implies, false_implies, ixP, szP, mkP]
  all_goals (repeat' first | assumption | (apply And.intro) | (intro h))
  all_goals first | trivial | assumption | omega | ((try simp only [decide_eq_true_eq, decide_eq_false_iff_not, List.length_append, List.length_cons, List.length_nil, List.length_set, List.length_replicate, Bool.not_eq_true, Bool.not_eq_false, Int.not_lt, Int.not_le, Bool.and_eq_true, Bool.or_eq_true, Bool.and_eq_false_iff, Bool.or_eq_false_iff, Bool.not_eq_eq_eq_not, Bool.not_true, Bool.not_false, beq_iff_eq, bne_iff_ne, beq_eq_false_iff_ne, bne_eq_false_iff_eq, ne_eq, subL_length] at *) <;> first | omega | (refine (w64_id ?_ ?_).trans ?_ <;> omega) | (simp (disch := omega) only [w64_id] at *; omega) | (grind) | (simp_all; done) | (simp_all; omega))

theorem tenor_Due_fn (r : Realm) (b : Bill) (seen : Int) (grace : Int) (h_r_Small : r.Small) : FnA Tryz.prog 44 [av r.cells, av b.cells, iv seen, iv grace] [] (.tup [iv ((tenor_Due r b seen grace).1), iv ((tenor_Due r b seen grace).2)]) [] :=
  FnA.sk tok mixed (fun x => .tup [iv x.1, iv x.2]) (fun _ => []) Tryz.func44 rfl (by kernel_rfl) 3000 (tenor_Due_sk r b seen grace) (by kernel_rfl) (tenor_Due_ok r b seen grace h_r_Small)
noncomputable def tenor_Due_k (r : Realm) (b : Bill) (seen : Int) (grace : Int) : Ctr (Int × Int) := ⟨Tryz.prog, 44, [av r.cells, av b.cells, iv seen, iv grace], fun x => .tup [iv x.1, iv x.2], true, tenor_Due r b seen grace, (r.Small), fun h => tenor_Due_fn r b seen grace h, fun (x : Int × Int) => x.2 = 0 → 0 ≤ x.1 ∧ x.1 ≤ 100001, tenor_Due_post r b seen grace⟩
noncomputable def ask_Maturity_sk (r : Realm) (forum : Int) (f : File) (day : Int) : Sk (Int) :=
 .r 1 ((record_At_k f day).c) fun x1 =>
 .br (((x1.signs.length : Nat) : Int) == 0)
 (.fin (-1))
 (.r 4 (.dep ((ask_Bill_k r forum 6 x1 day).c) fun x2 => (ask_Number_k x2).c) fun p7 =>
 .r 5 (.dep ((record_Seen_k x1).c) fun x4 => (tenor_Due_k r x1.bill x4 (maxI p7.2 0)).c) fun p6 =>
 .br (p6.2.2 != 0)
 (.fin (-1))
 (.fin p6.2.1))
noncomputable def ask_Maturity (r : Realm) (forum : Int) (f : File) (day : Int) : Int := (ask_Maturity_sk r forum f day).val
theorem ask_Maturity_ok (r : Realm) (forum : Int) (f : File) (day : Int) (h_f_Small : f.Small) (h_r_ByOK : r.ByOK) (h_r_Small : r.Small) : (ask_Maturity_sk r forum f day).obs (fun _ => True) := by
  simp only [File.Small, Realm.Small, Realm.ByOK] at h_f_Small
  simp only [File.Small, Realm.Small, Realm.ByOK] at h_r_ByOK
  simp only [File.Small, Realm.Small, Realm.ByOK] at h_r_Small
  refine Sk.obs_of _ ?_
  unfold ask_Maturity_sk
  simp only [Sk.obq, Sk.isLoop, reduceCtorEq, leafB, leafJ, Cal.z, Cal.p, Cal.t, Cal.pt, Cal.o, Cal.and, Cal.andl, Cal.andr, Cal.wh, Cal.dep, Cal.depr, Ctr.c, Ctr.nil, Ctr.nilc, CtrO.c, CtrO.nil, ask_Bill_k, ask_Number_k, record_At_k, record_Seen_k, tenor_Due_k, File.Small, Realm.Small, Realm.ByOK, maxLen, implies_true, true_and, and_true, and_self, true_implies, false_implies, ixP, szP, mkP]
  all_goals (repeat' first | assumption | (apply And.intro) | (intro h))
  all_goals first | trivial | assumption | omega | ((try simp only [decide_eq_true_eq, decide_eq_false_iff_not, List.length_append, List.length_cons, List.length_nil, List.length_set, List.length_replicate, Bool.not_eq_true, Bool.not_eq_false, Int.not_lt, Int.not_le, Bool.and_eq_true, Bool.or_eq_true, Bool.and_eq_false_iff, Bool.or_eq_false_iff, Bool.not_eq_eq_eq_not, Bool.not_true, Bool.not_false, beq_iff_eq, bne_iff_ne, beq_eq_false_iff_ne, bne_eq_false_iff_eq, ne_eq, subL_length] at *) <;> first | omega | (refine (w64_id ?_ ?_).trans ?_ <;> omega) | (simp (disch := omega) only [w64_id] at *; omega) | (grind) | (simp_all; done) | (simp_all; omega))

theorem ask_Maturity_fn (r : Realm) (forum : Int) (f : File) (day : Int) (h_f_Small : f.Small) (h_r_ByOK : r.ByOK) (h_r_Small : r.Small) : FnA Tryz.prog 13 [av r.cells, iv forum, av f.cells, iv day] [] (iv (ask_Maturity r forum f day)) [] :=
  FnA.sk tok mixed (fun x => iv x) (fun _ => []) Tryz.func13 rfl (by kernel_rfl) 3000 (ask_Maturity_sk r forum f day) (by kernel_rfl) (ask_Maturity_ok r forum f day h_f_Small h_r_ByOK h_r_Small)
noncomputable def ask_Maturity_k (r : Realm) (forum : Int) (f : File) (day : Int) : Ctr (Int) := ⟨Tryz.prog, 13, [av r.cells, iv forum, av f.cells, iv day], fun x => iv x, true, ask_Maturity r forum f day, (f.Small) ∧ (r.ByOK) ∧ (r.Small), fun h => ask_Maturity_fn r forum f day h.1 h.2.1 h.2.2, fun _ => True, trivial⟩
structure View where
  r : Realm
  forum : Int
  f : File
  sign : Int
  day : Int
  due : Int
  deriving Inhabited
def View.cells (c : View) : List D := c.r.cells ++ [dI c.forum] ++ c.f.cells ++ [dI c.sign, dI c.day, dI c.due]
def View.E : Enc View := ⟨View.cells, 31, fun _ => rfl, fun _ => rfl⟩
noncomputable def diligence_look_sk (r : Realm) (forum : Int) (f : File) (sign : Int) (day : Int) : Sk (View) :=
 .r 1 (.dep ((record_At_k f day).c) fun _ => (ask_Maturity_k r forum f day).c) fun p3 =>
 .fin ({ r := r, forum := forum, f := p3.1, sign := sign, day := day, due := p3.2 } : View)
noncomputable def diligence_look (r : Realm) (forum : Int) (f : File) (sign : Int) (day : Int) : View := (diligence_look_sk r forum f sign day).val
theorem diligence_look_ok (r : Realm) (forum : Int) (f : File) (sign : Int) (day : Int) (h_f_Small : f.Small) (h_r_ByOK : r.ByOK) (h_r_Small : r.Small) : (diligence_look_sk r forum f sign day).obs (fun _ => True) := by
  simp only [File.Small, Realm.Small, Realm.ByOK] at h_f_Small
  simp only [File.Small, Realm.Small, Realm.ByOK] at h_r_ByOK
  simp only [File.Small, Realm.Small, Realm.ByOK] at h_r_Small
  refine Sk.obs_of _ ?_
  unfold diligence_look_sk
  simp only [Sk.obq, Sk.isLoop, reduceCtorEq, leafB, leafJ, Cal.z, Cal.p, Cal.t, Cal.pt, Cal.o, Cal.and, Cal.andl, Cal.andr, Cal.wh, Cal.dep, Cal.depr, Ctr.c, Ctr.nil, Ctr.nilc, CtrO.c, CtrO.nil, ask_Maturity_k, record_At_k, File.Small, Realm.Small, Realm.ByOK, maxLen, implies_true, true_and, and_true, and_self, true_implies, false_implies, ixP, szP, mkP]
  all_goals (repeat' first | assumption | (apply And.intro) | (intro h))
  all_goals first | trivial | assumption | omega | ((try simp only [decide_eq_true_eq, decide_eq_false_iff_not, List.length_append, List.length_cons, List.length_nil, List.length_set, List.length_replicate, Bool.not_eq_true, Bool.not_eq_false, Int.not_lt, Int.not_le, Bool.and_eq_true, Bool.or_eq_true, Bool.and_eq_false_iff, Bool.or_eq_false_iff, Bool.not_eq_eq_eq_not, Bool.not_true, Bool.not_false, beq_iff_eq, bne_iff_ne, beq_eq_false_iff_ne, bne_eq_false_iff_eq, ne_eq, subL_length] at *) <;> first | omega | (refine (w64_id ?_ ?_).trans ?_ <;> omega) | (simp (disch := omega) only [w64_id] at *; omega) | (grind) | (simp_all; done) | (simp_all; omega))

theorem diligence_look_fn (r : Realm) (forum : Int) (f : File) (sign : Int) (day : Int) (h_f_Small : f.Small) (h_r_ByOK : r.ByOK) (h_r_Small : r.Small) : FnA Tryz.prog 109 [av r.cells, iv forum, av f.cells, iv sign, iv day] [] (av (diligence_look r forum f sign day).cells) [] :=
  FnA.sk tok mixed (fun x => av x.cells) (fun _ => []) Tryz.func109 rfl (by kernel_rfl) 3000 (diligence_look_sk r forum f sign day) (by kernel_rfl) (diligence_look_ok r forum f sign day h_f_Small h_r_ByOK h_r_Small)
noncomputable def diligence_look_k (r : Realm) (forum : Int) (f : File) (sign : Int) (day : Int) : Ctr (View) := ⟨Tryz.prog, 109, [av r.cells, iv forum, av f.cells, iv sign, iv day], fun x => av x.cells, false, diligence_look r forum f sign day, (f.Small) ∧ (r.ByOK) ∧ (r.Small), fun h => diligence_look_fn r forum f sign day h.1 h.2.1 h.2.2, fun _ => True, trivial⟩
noncomputable def diligence_view_first_sk (v : View) (kind : Int) (from_ : Int) : Sk (Int) :=
 .bind true (fun _ => True)
 (.loop (default : Sum (Int) (Unit)) (fun i2 => i2 ≤ v.f.acts.length) (fun i2 => v.f.acts.length - i2) (0 : Nat)
 (fun (i2 : Nat) => ⟨[(13, iv ((i2 : Nat) : Int))], []⟩) fun i2 =>
 .bnd 11 0 v.f.acts.length <|
 .br (decide (((i2 : Nat) : Int) < ((v.f.acts.length : Nat) : Int)))
 (.r 3 (.p (ixP ((i2 : Nat) : Int) v.f.acts.length)) fun _ =>
 .br (((((v.f.acts.getD i2 default).kind) == kind) && (((v.f.acts.getD i2 default).to_) == v.f.bill.drawee)) && (decide (((v.f.acts.getD i2 default).day) ≥ from_)))
 (.fin (.inl (.inl ((v.f.acts.getD i2 default).day))))
 (.r 6 .z fun _ =>
 .wi 13 (w64 (((i2 : Nat) : Int) + 1)) ((i2 + 1 : Nat) : Int) <|
 .fin (.inr (i2 + 1))))
 (.fin (.inl (.inr ()))))
 (fun (_ : Unit) => ⟨[], []⟩) fun _ =>
 .fin (-1)
noncomputable def diligence_view_first (v : View) (kind : Int) (from_ : Int) : Int := (diligence_view_first_sk v kind from_).val
theorem diligence_view_first_ok (v : View) (kind : Int) (from_ : Int) : (diligence_view_first_sk v kind from_).obs (fun _ => True) := by
  refine Sk.obs_of _ ?_
  unfold diligence_view_first_sk
  simp only [Sk.obq, Sk.isLoop, reduceCtorEq, leafB, leafJ, Cal.z, Cal.p, Cal.t, Cal.pt, Cal.o, Cal.and, Cal.andl, Cal.andr, Cal.wh, Cal.dep, Cal.depr, Ctr.c, Ctr.nil, Ctr.nilc, CtrO.c, CtrO.nil, maxLen, implies_true, true_and, and_true, and_self, true_implies, false_implies, ixP, szP, mkP]
  all_goals (repeat' first | assumption | (apply And.intro) | (intro h))
  all_goals first | trivial | assumption | omega | ((try simp only [decide_eq_true_eq, decide_eq_false_iff_not, List.length_append, List.length_cons, List.length_nil, List.length_set, List.length_replicate, Bool.not_eq_true, Bool.not_eq_false, Int.not_lt, Int.not_le, Bool.and_eq_true, Bool.or_eq_true, Bool.and_eq_false_iff, Bool.or_eq_false_iff, Bool.not_eq_eq_eq_not, Bool.not_true, Bool.not_false, beq_iff_eq, bne_iff_ne, beq_eq_false_iff_ne, bne_eq_false_iff_eq, ne_eq, subL_length] at *) <;> first | omega | (refine (w64_id ?_ ?_).trans ?_ <;> omega) | (simp (disch := omega) only [w64_id] at *; omega) | (grind) | (simp_all; done) | (simp_all; omega))

theorem diligence_view_first_fn (v : View) (kind : Int) (from_ : Int) : FnA Tryz.prog 179 [av v.cells, iv kind, iv from_] [] (iv (diligence_view_first v kind from_)) [] :=
  FnA.sk tok mixed (fun x => iv x) (fun _ => []) Tryz.func179 rfl (by kernel_rfl) 3000 (diligence_view_first_sk v kind from_) (by kernel_rfl) (diligence_view_first_ok v kind from_)
noncomputable def diligence_view_first_k (v : View) (kind : Int) (from_ : Int) : Ctr (Int) := ⟨Tryz.prog, 179, [av v.cells, iv kind, iv from_], fun x => iv x, true, diligence_view_first v kind from_, True, fun _ => diligence_view_first_fn v kind from_, fun _ => True, trivial⟩
noncomputable def diligence_view_refused_sk (v : View) : Sk (Int) :=
 .r 1 ((diligence_view_first_k v 1 0).c) fun x1 =>
 .br (decide (x1 > v.due))
 (.fin (-1))
 (.fin x1)
noncomputable def diligence_view_refused (v : View) : Int := (diligence_view_refused_sk v).val
theorem diligence_view_refused_ok (v : View) : (diligence_view_refused_sk v).obs (fun _ => True) := by
  refine Sk.obs_of _ ?_
  unfold diligence_view_refused_sk
  simp only [Sk.obq, Sk.isLoop, reduceCtorEq, leafB, leafJ, Cal.z, Cal.p, Cal.t, Cal.pt, Cal.o, Cal.and, Cal.andl, Cal.andr, Cal.wh, Cal.dep, Cal.depr, Ctr.c, Ctr.nil, Ctr.nilc, CtrO.c, CtrO.nil, diligence_view_first_k, maxLen, implies_true, true_and, and_true, and_self, true_implies, false_implies, ixP, szP, mkP]

theorem diligence_view_refused_fn (v : View) : FnA Tryz.prog 149 [av v.cells] [] (iv (diligence_view_refused v)) [] :=
  FnA.sk tok mixed (fun x => iv x) (fun _ => []) Tryz.func149 rfl (by kernel_rfl) 3000 (diligence_view_refused_sk v) (by kernel_rfl) (diligence_view_refused_ok v)
noncomputable def diligence_view_refused_k (v : View) : Ctr (Int) := ⟨Tryz.prog, 149, [av v.cells], fun x => iv x, true, diligence_view_refused v, True, fun _ => diligence_view_refused_fn v, fun _ => True, trivial⟩
noncomputable def diligence_view_dishonour_sk (v : View) : Sk (Int) :=
 .r 1 ((diligence_view_refused_k v).c) fun x1 =>
 .br (x1 != (-1))
 (.fin x1)
 (.fin v.due)
noncomputable def diligence_view_dishonour (v : View) : Int := (diligence_view_dishonour_sk v).val
theorem diligence_view_dishonour_ok (v : View) : (diligence_view_dishonour_sk v).obs (fun _ => True) := by
  refine Sk.obs_of _ ?_
  unfold diligence_view_dishonour_sk
  simp only [Sk.obq, Sk.isLoop, reduceCtorEq, leafB, leafJ, Cal.z, Cal.p, Cal.t, Cal.pt, Cal.o, Cal.and, Cal.andl, Cal.andr, Cal.wh, Cal.dep, Cal.depr, Ctr.c, Ctr.nil, Ctr.nilc, CtrO.c, CtrO.nil, diligence_view_refused_k, maxLen, implies_true, true_and, and_true, and_self, true_implies, false_implies, ixP, szP, mkP]

theorem diligence_view_dishonour_fn (v : View) : FnA Tryz.prog 110 [av v.cells] [] (iv (diligence_view_dishonour v)) [] :=
  FnA.sk tok mixed (fun x => iv x) (fun _ => []) Tryz.func110 rfl (by kernel_rfl) 3000 (diligence_view_dishonour_sk v) (by kernel_rfl) (diligence_view_dishonour_ok v)
noncomputable def diligence_view_dishonour_k (v : View) : Ctr (Int) := ⟨Tryz.prog, 110, [av v.cells], fun x => iv x, true, diligence_view_dishonour v, True, fun _ => diligence_view_dishonour_fn v, fun _ => True, trivial⟩
noncomputable def diligence_Dishonour_sk (r : Realm) (forum : Int) (f : File) (day : Int) : Sk (Int) :=
 .r 1 (.dep ((diligence_look_k r forum f 0 day).c) fun x1 => (diligence_view_dishonour_k x1).c) fun p3 =>
 .fin p3.2
noncomputable def diligence_Dishonour (r : Realm) (forum : Int) (f : File) (day : Int) : Int := (diligence_Dishonour_sk r forum f day).val
theorem diligence_Dishonour_ok (r : Realm) (forum : Int) (f : File) (day : Int) (h_f_Small : f.Small) (h_r_ByOK : r.ByOK) (h_r_Small : r.Small) : (diligence_Dishonour_sk r forum f day).obs (fun _ => True) := by
  simp only [File.Small, Realm.Small, Realm.ByOK] at h_f_Small
  simp only [File.Small, Realm.Small, Realm.ByOK] at h_r_ByOK
  simp only [File.Small, Realm.Small, Realm.ByOK] at h_r_Small
  refine Sk.obs_of _ ?_
  unfold diligence_Dishonour_sk
  simp only [Sk.obq, Sk.isLoop, reduceCtorEq, leafB, leafJ, Cal.z, Cal.p, Cal.t, Cal.pt, Cal.o, Cal.and, Cal.andl, Cal.andr, Cal.wh, Cal.dep, Cal.depr, Ctr.c, Ctr.nil, Ctr.nilc, CtrO.c, CtrO.nil, diligence_look_k, diligence_view_dishonour_k, File.Small, Realm.Small, Realm.ByOK, maxLen, implies_true, true_and, and_true, and_self, true_implies, false_implies, ixP, szP, mkP]
  all_goals (repeat' first | assumption | (apply And.intro) | (intro h))
  all_goals first | trivial | assumption | omega | ((try simp only [decide_eq_true_eq, decide_eq_false_iff_not, List.length_append, List.length_cons, List.length_nil, List.length_set, List.length_replicate, Bool.not_eq_true, Bool.not_eq_false, Int.not_lt, Int.not_le, Bool.and_eq_true, Bool.or_eq_true, Bool.and_eq_false_iff, Bool.or_eq_false_iff, Bool.not_eq_eq_eq_not, Bool.not_true, Bool.not_false, beq_iff_eq, bne_iff_ne, beq_eq_false_iff_ne, bne_eq_false_iff_eq, ne_eq, subL_length] at *) <;> first | omega | (refine (w64_id ?_ ?_).trans ?_ <;> omega) | (simp (disch := omega) only [w64_id] at *; omega) | (grind) | (simp_all; done) | (simp_all; omega))

theorem diligence_Dishonour_fn (r : Realm) (forum : Int) (f : File) (day : Int) (h_f_Small : f.Small) (h_r_ByOK : r.ByOK) (h_r_Small : r.Small) : FnA Tryz.prog 78 [av r.cells, iv forum, av f.cells, iv day] [] (iv (diligence_Dishonour r forum f day)) [] :=
  FnA.sk tok mixed (fun x => iv x) (fun _ => []) Tryz.func78 rfl (by kernel_rfl) 3000 (diligence_Dishonour_sk r forum f day) (by kernel_rfl) (diligence_Dishonour_ok r forum f day h_f_Small h_r_ByOK h_r_Small)
noncomputable def diligence_Dishonour_k (r : Realm) (forum : Int) (f : File) (day : Int) : Ctr (Int) := ⟨Tryz.prog, 78, [av r.cells, iv forum, av f.cells, iv day], fun x => iv x, true, diligence_Dishonour r forum f day, (f.Small) ∧ (r.ByOK) ∧ (r.Small), fun h => diligence_Dishonour_fn r forum f day h.1 h.2.1 h.2.2, fun _ => True, trivial⟩
noncomputable def limit_start_sk (r : Realm) (forum : Int) (f : File) (c_ : Claim) (day : Int) : Sk (Int × Int) :=
 .br (c_.turn == 0)
 (.r 2 ((ask_Maturity_k r forum f day).c) fun x1 =>
 .fin (13, x1))
 (.bind true (fun _ => True)
 (.loop (default : Sum (Int × Int) (Unit)) (fun i3 => i3 ≤ f.acts.length) (fun i3 => f.acts.length - i3) (0 : Nat)
 (fun (i3 : Nat) => ⟨[(25, iv ((i3 : Nat) : Int))], []⟩) fun i3 =>
 .bnd 23 0 f.acts.length <|
 .br (decide (((i3 : Nat) : Int) < ((f.acts.length : Nat) : Int)))
 (.r 5 (.p (ixP ((i3 : Nat) : Int) f.acts.length)) fun _ =>
 .br (((((f.acts.getD i3 default).kind) == 6) && (((f.acts.getD i3 default).who) == c_.creditor)) && (((f.acts.getD i3 default).at_) == c_.by_))
 (.fin (.inl (.inl (15, (f.acts.getD i3 default).day))))
 (.r 8 .z fun _ =>
 .wi 25 (w64 (((i3 : Nat) : Int) + 1)) ((i3 + 1 : Nat) : Int) <|
 .fin (.inr (i3 + 1))))
 (.fin (.inl (.inr ()))))
 (fun (_ : Unit) => ⟨[], []⟩) fun _ =>
 .r 9 ((diligence_Dishonour_k r forum f day).c) fun x4 =>
 .fin (14, x4))
noncomputable def limit_start (r : Realm) (forum : Int) (f : File) (c_ : Claim) (day : Int) : Int × Int := (limit_start_sk r forum f c_ day).val
theorem limit_start_ok (r : Realm) (forum : Int) (f : File) (c_ : Claim) (day : Int) (h_f_Small : f.Small) (h_r_ByOK : r.ByOK) (h_r_Small : r.Small) : (limit_start_sk r forum f c_ day).obs (fun _ => True) := by
  simp only [File.Small, Realm.Small, Realm.ByOK] at h_f_Small
  simp only [File.Small, Realm.Small, Realm.ByOK] at h_r_ByOK
  simp only [File.Small, Realm.Small, Realm.ByOK] at h_r_Small
  refine Sk.obs_of _ ?_
  unfold limit_start_sk
  simp only [Sk.obq, Sk.isLoop, reduceCtorEq, leafB, leafJ, Cal.z, Cal.p, Cal.t, Cal.pt, Cal.o, Cal.and, Cal.andl, Cal.andr, Cal.wh, Cal.dep, Cal.depr, Ctr.c, Ctr.nil, Ctr.nilc, CtrO.c, CtrO.nil, ask_Maturity_k, diligence_Dishonour_k, File.Small, Realm.Small, Realm.ByOK, maxLen, implies_true, true_and, and_true, and_self, true_implies, false_implies, ixP, szP, mkP]
  all_goals (repeat' first | assumption | (apply And.intro) | (intro h))
  all_goals first | trivial | assumption | omega | ((try simp only [decide_eq_true_eq, decide_eq_false_iff_not, List.length_append, List.length_cons, List.length_nil, List.length_set, List.length_replicate, Bool.not_eq_true, Bool.not_eq_false, Int.not_lt, Int.not_le, Bool.and_eq_true, Bool.or_eq_true, Bool.and_eq_false_iff, Bool.or_eq_false_iff, Bool.not_eq_eq_eq_not, Bool.not_true, Bool.not_false, beq_iff_eq, bne_iff_ne, beq_eq_false_iff_ne, bne_eq_false_iff_eq, ne_eq, subL_length] at *) <;> first | omega | (refine (w64_id ?_ ?_).trans ?_ <;> omega) | (simp (disch := omega) only [w64_id] at *; omega) | (grind) | (simp_all; done) | (simp_all; omega))

theorem limit_start_fn (r : Realm) (forum : Int) (f : File) (c_ : Claim) (day : Int) (h_f_Small : f.Small) (h_r_ByOK : r.ByOK) (h_r_Small : r.Small) : FnA Tryz.prog 39 [av r.cells, iv forum, av f.cells, av c_.cells, iv day] [] (.tup [iv ((limit_start r forum f c_ day).1), iv ((limit_start r forum f c_ day).2)]) [] :=
  FnA.sk tok mixed (fun x => .tup [iv x.1, iv x.2]) (fun _ => []) Tryz.func39 rfl (by kernel_rfl) 3000 (limit_start_sk r forum f c_ day) (by kernel_rfl) (limit_start_ok r forum f c_ day h_f_Small h_r_ByOK h_r_Small)
noncomputable def limit_start_k (r : Realm) (forum : Int) (f : File) (c_ : Claim) (day : Int) : Ctr (Int × Int) := ⟨Tryz.prog, 39, [av r.cells, iv forum, av f.cells, av c_.cells, iv day], fun x => .tup [iv x.1, iv x.2], true, limit_start r forum f c_ day, (f.Small) ∧ (r.ByOK) ∧ (r.Small), fun h => limit_start_fn r forum f c_ day h.1 h.2.1 h.2.2, fun _ => True, trivial⟩
noncomputable def limit_interrupts_sk (a : ActX) (c_ : Claim) : Sk (Bool) :=
 .br (a.at_ != c_.sign)
 (.fin false)
 (.fin ((a.kind == 9) || ((a.kind == 8) && ((c_.creditor == (-1)) || (a.who == c_.creditor)))))
noncomputable def limit_interrupts (a : ActX) (c_ : Claim) : Bool := (limit_interrupts_sk a c_).val
theorem limit_interrupts_ok (a : ActX) (c_ : Claim) : (limit_interrupts_sk a c_).obs (fun _ => True) := by
  refine Sk.obs_of _ ?_
  unfold limit_interrupts_sk
  simp only [Sk.obq, Sk.isLoop, reduceCtorEq, leafB, leafJ, Cal.z, Cal.p, Cal.t, Cal.pt, Cal.o, Cal.and, Cal.andl, Cal.andr, Cal.wh, Cal.dep, Cal.depr, Ctr.c, Ctr.nil, Ctr.nilc, CtrO.c, CtrO.nil, maxLen, implies_true, true_and, and_true, and_self, true_implies, false_implies, ixP, szP, mkP]

theorem limit_interrupts_fn (a : ActX) (c_ : Claim) : FnA Tryz.prog 41 [av a.cells, av c_.cells] [] (bv (limit_interrupts a c_)) [] :=
  FnA.sk tok mixed (fun x => bv x) (fun _ => []) Tryz.func41 rfl (by kernel_rfl) 3000 (limit_interrupts_sk a c_) (by kernel_rfl) (limit_interrupts_ok a c_)
noncomputable def limit_interrupts_k (a : ActX) (c_ : Claim) : Ctr (Bool) := ⟨Tryz.prog, 41, [av a.cells, av c_.cells], fun x => bv x, true, limit_interrupts a c_, True, fun _ => limit_interrupts_fn a c_, fun _ => True, trivial⟩
end Go.Proofs.YtggilgghigileaaGreatDoor
