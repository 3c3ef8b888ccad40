/- Functions, as sketches. -/
import Derived.Test.YtggilgghigileaaGreatDoorRn9
namespace Go.Proofs.YtggilgghigileaaGreatDoor
open Go Go.Av
set_option linter.unusedSimpArgs false
set_option linter.unusedVariables false
set_option maxHeartbeats 1000000
set_option maxRecDepth 100000
noncomputable def limit_End_sk (r : Realm) (forum : Int) (f : File) (c_ : Claim) (day : Int) : Sk (Int × Int) :=
 .r 1 ((record_At_k f day).c) fun x1 =>
 .br ((decide (c_.sign < 0)) || (decide (c_.sign ≥ ((x1.signs.length : Nat) : Int))))
 (.fin (0, 1))
 (.r 4 ((limit_start_k r forum x1 c_ day).c) fun x2 =>
 .r 5 ((ask_Maturity_k r forum x1 day).c) fun x3 =>
 .r 6 ((ask_Ask_k r forum x2.1 ({ file := x1, sign := c_.sign, holder := c_.sign, defence := (-1), due := x3, day := day } : CaseX)).c) fun x4 =>
 .br ((x4.err != 0) || (x2.2 == (-1)))
 (.fin (0, 4))
 (.br (!x4.cell.known)
 (.fin (0, 17))
 (.bind true (fun _ => True)
 (.loop (default : Sum (Int × Int) (Int)) (fun i6 => i6.2 ≤ x1.acts.length) (fun i6 => x1.acts.length - i6.2) ((w64 (x2.2 + x4.cell.n), 0) : Int × Nat)
 (fun (i6 : Int × Nat) => ⟨[(16, iv i6.1), (80, iv ((i6.2 : Nat) : Int))], []⟩) fun i6 =>
 .bnd 78 0 x1.acts.length <|
 .br (decide (((i6.2 : Nat) : Int) < ((x1.acts.length : Nat) : Int)))
 (.r 14 (.p (ixP ((i6.2 : Nat) : Int) x1.acts.length)) fun _ =>
 .r 15 ((limit_interrupts_k (x1.acts.getD i6.2 default) c_).c) fun x7 =>
 .br ((x7 && (decide (((x1.acts.getD i6.2 default).day) ≥ x2.2))) && (decide (((x1.acts.getD i6.2 default).day) ≤ i6.1)))
 (.r 17 .z fun _ =>
 .wi 80 (w64 (((i6.2 : Nat) : Int) + 1)) ((i6.2 + 1 : Nat) : Int) <|
 .fin (.inr (w64 (((x1.acts.getD i6.2 default).day) + x4.cell.n), i6.2 + 1)))
 (.r 17 .z fun _ =>
 .wi 80 (w64 (((i6.2 : Nat) : Int) + 1)) ((i6.2 + 1 : Nat) : Int) <|
 .fin (.inr (i6.1, i6.2 + 1))))
 (.fin (.inl (.inr i6.1))))
 (fun (b5 : Int) => ⟨[(16, iv b5)], []⟩) fun b5 =>
 .fin (b5, 0))))
noncomputable def limit_End (r : Realm) (forum : Int) (f : File) (c_ : Claim) (day : Int) : Int × Int := (limit_End_sk r forum f c_ day).val
theorem limit_End_ok (r : Realm) (forum : Int) (f : File) (c_ : Claim) (day : Int) (h_f_Small : f.Small) (h_r_ByOK : r.ByOK) (h_r_Small : r.Small) : (limit_End_sk r forum f c_ day).obs (fun _ => True) := by
  simp only [File.Small, Realm.Small, Realm.ByOK] at h_f_Small
  simp only [File.Small, Realm.Small, Realm.ByOK] at h_r_ByOK
  simp only [File.Small, Realm.Small, Realm.ByOK] at h_r_Small
  refine Sk.obs_of _ ?_
  unfold limit_End_sk
  simp only [Sk.obq, Sk.isLoop, reduceCtorEq, leafB, leafJ, Cal.z, Cal.p, Cal.t, Cal.pt, Cal.o, Cal.and, Cal.andl, Cal.andr, Cal.wh, Cal.dep, Cal.depr, Ctr.c, Ctr.nil, Ctr.nilc, CtrO.c, CtrO.nil, ask_Ask_k, ask_Maturity_k, limit_interrupts_k, limit_start_k, record_At_k, File.Small, Realm.Small, Realm.ByOK, maxLen, implies_true, true_and, and_true, and_self, true_implies, false_implies, ixP, szP, mkP]
  all_goals (repeat' first | assumption | (apply And.intro) | (intro h))
  all_goals first | trivial | assumption | omega | ((try simp only [decide_eq_true_eq, decide_eq_false_iff_not, List.length_append, List.length_cons, List.length_nil, List.length_set, List.length_replicate, Bool.not_eq_true, Bool.not_eq_false, Int.not_lt, Int.not_le, Bool.and_eq_true, Bool.or_eq_true, Bool.and_eq_false_iff, Bool.or_eq_false_iff, Bool.not_eq_eq_eq_not, Bool.not_true, Bool.not_false, beq_iff_eq, bne_iff_ne, beq_eq_false_iff_ne, bne_eq_false_iff_eq, ne_eq, subL_length] at *) <;> first | omega | (refine (w64_id ?_ ?_).trans ?_ <;> omega) | (simp (disch := omega) only [w64_id] at *; omega) | (grind) | (simp_all; done) | (simp_all; omega))

theorem limit_End_fn (r : Realm) (forum : Int) (f : File) (c_ : Claim) (day : Int) (h_f_Small : f.Small) (h_r_ByOK : r.ByOK) (h_r_Small : r.Small) : FnA Tryz.prog 12 [av r.cells, iv forum, av f.cells, av c_.cells, iv day] [] (.tup [iv ((limit_End r forum f c_ day).1), iv ((limit_End r forum f c_ day).2)]) [] :=
  FnA.sk tok mixed (fun x => .tup [iv x.1, iv x.2]) (fun _ => []) Tryz.func12 rfl (by kernel_rfl) 3000 (limit_End_sk r forum f c_ day) (by kernel_rfl) (limit_End_ok r forum f c_ day h_f_Small h_r_ByOK h_r_Small)
noncomputable def limit_End_k (r : Realm) (forum : Int) (f : File) (c_ : Claim) (day : Int) : Ctr (Int × Int) := ⟨Tryz.prog, 12, [av r.cells, iv forum, av f.cells, av c_.cells, iv day], fun x => .tup [iv x.1, iv x.2], true, limit_End r forum f c_ day, (f.Small) ∧ (r.ByOK) ∧ (r.Small), fun h => limit_End_fn r forum f c_ day h.1 h.2.1 h.2.2, fun _ => True, trivial⟩
theorem Vars_acts (r : Realm) (f : File) (A : List ActX) (s h d u y : Int) : record_Vars r ⟨{ f with acts := A }, s, h, d, u, y⟩ = record_Vars r ⟨f, s, h, d, u, y⟩ := by kernel_rfl
theorem places_acts (r : Realm) (fo : Int) (f : File) (A : List ActX) (s h d u y : Int) : ask_places r fo ⟨{ f with acts := A }, s, h, d, u, y⟩ = ask_places r fo ⟨f, s, h, d, u, y⟩ := by kernel_rfl
theorem At_facts (f : File) (day : Int) (A : List ActX) : record_At { f with acts := A } day = { record_At f day with acts := A.takeWhile (fun a => decide (a.day ≤ day)) } := by
  rw [record_At_eq, record_At_eq]
theorem of_eq (r : Realm) (c : CaseX) : ask_of r c = ({ c with file := record_At c.file c.day }, record_Vars r { c with file := record_At c.file c.day }) := rfl
theorem find_acts (r : Realm) (fo q : Int) (f : File) (A : List ActX) (s h d u y : Int) : ask_find r fo q ⟨{ f with acts := A }, s, h, d, u, y⟩ = ask_find r fo q ⟨f, s, h, d, u, y⟩ := by
  simp only [ask_find, ask_find_sk, Sk.val_r, Sk.val_br, Sk.val_fin, Ctr.c_v, ask_of_k, of_eq, At_facts, Vars_acts, ask_places_k, places_acts]
theorem Ask_acts (r : Realm) (fo q : Int) (f : File) (A : List ActX) (s h d u y : Int) : ask_Ask r fo q ⟨{ f with acts := A }, s, h, d, u, y⟩ = ask_Ask r fo q ⟨f, s, h, d, u, y⟩ := by
  simp only [ask_Ask, ask_Ask_sk, Sk.val_r, Sk.val_br, Sk.val_fin, Ctr.c_v, ask_find_k, find_acts]
theorem Bill_acts (r : Realm) (fo q : Int) (f : File) (A : List ActX) (y : Int) : ask_Bill r fo q { f with acts := A } y = ask_Bill r fo q f y := by
  have := Ask_acts r fo q { f with facts := [] } A 0 (-1) (-1) (-1) y
  simpa only [ask_Bill, ask_Bill_sk, Sk.val_r, Sk.val_fin, Ctr.c_v, ask_Ask_k, Ctr.nilc_v] using this
noncomputable def seenStep (kind : Int) (a : ActX) (s : List Int) : Int ⊕ List Int :=
  bif kind == 0 && a.kind == 2 then .inl a.day else bif kind == 1 && a.kind == 1 then .inr (s ++ [a.day]) else .inr s
noncomputable def seenFin (l : List Int) : Int := bif (l.length : Int) == 0 then -1 else slices_Min l
noncomputable def seenSigns (kind : Int) (x : Sign) (s : List Int) : List Int := bif kind == 1 && x.kind == 1 then s ++ [x.day] else s
theorem Seen_eq (f : File) : record_Seen f = walk (seenStep f.bill.tenor.kind) seenFin f.acts (f.signs.foldl (fun s x => seenSigns f.bill.tenor.kind x s) []) := by
  simp only [record_Seen, record_Seen_sk, Sk.val_bind, Sk.val_loop, Sk.val_bnd, Sk.val_br, Sk.val_r, Sk.val_wi, Sk.val_fin, Ctr.c_v, slices_Min_k]
  refine (pick_iter_walk f.signs (fun s i => (s, i)) (fun x s => .inr (seenSigns f.bill.tenor.kind x s)) id _ (fun s i hi => ?_) (fun s => ?_) (by simp) []).trans ?_
  · rw [decide_eq_true (by omega), cond_true]
    unfold seenSigns
    cases (f.bill.tenor.kind == 1 && (f.signs.getD i default).kind == 1) <;> rfl
  · rw [decide_eq_false (by omega), cond_false]; rfl
  · rw [walk_fold]
    refine (pick_iter_walk f.acts (fun s i => (s, i)) (seenStep f.bill.tenor.kind) id _ (fun s i hi => ?_) (fun s => ?_) (by simp) _).trans rfl
    · rw [decide_eq_true (by omega), cond_true]
      unfold seenStep
      cases (f.bill.tenor.kind == 0 && (f.acts.getD i default).kind == 2) <;> cases (f.bill.tenor.kind == 1 && (f.acts.getD i default).kind == 1) <;> rfl
    · rw [decide_eq_false (by omega), cond_false]; rfl
noncomputable def firstStep (kind drawee from_ : Int) (a : ActX) (s : Unit) : Int ⊕ Unit := bif (a.kind == kind && a.to_ == drawee) && decide (a.day ≥ from_) then .inl a.day else .inr ()
theorem first_eq (v : View) (kind from_ : Int) : diligence_view_first v kind from_ = walk (firstStep kind v.f.bill.drawee from_) (fun _ => -1) v.f.acts () := by
  simp only [diligence_view_first, diligence_view_first_sk, Sk.val_bind, Sk.val_loop, Sk.val_bnd, Sk.val_br, Sk.val_r, Sk.val_wi, Sk.val_fin, Ctr.c_v]
  refine (pick_iter_walk v.f.acts (fun s i => i) (firstStep kind v.f.bill.drawee from_) id _ (fun s i hi => ?_) (fun s => ?_) (by simp) ()).trans rfl
  · rw [decide_eq_true (by omega), cond_true]
    unfold firstStep
    cases (((v.f.acts.getD i default).kind == kind && (v.f.acts.getD i default).to_ == v.f.bill.drawee) && decide ((v.f.acts.getD i default).day ≥ from_)) <;> rfl
  · rw [decide_eq_false (by omega), cond_false]
noncomputable def paidStep (c : Claim) (a : ActX) (s : Unit) : (Int × Int) ⊕ Unit := bif (a.kind == 6 && a.who == c.creditor) && a.at_ == c.by_ then .inl (15, a.day) else .inr ()
theorem start_eq (r : Realm) (fo : Int) (f : File) (c : Claim) (day : Int) : limit_start r fo f c day = bif c.turn == 0 then (13, ask_Maturity r fo f day) else walk (paidStep c) (fun _ => (14, diligence_Dishonour r fo f day)) f.acts () := by
  simp only [limit_start, limit_start_sk, Sk.val_bind, Sk.val_loop, Sk.val_bnd, Sk.val_br, Sk.val_r, Sk.val_wi, Sk.val_fin, Ctr.c_v, ask_Maturity_k, diligence_Dishonour_k]
  congr 1
  refine (pick_iter_walk f.acts (fun s i => i) (paidStep c) id _ (fun s i hi => ?_) (fun s => ?_) (by simp) ()).trans rfl
  · rw [decide_eq_true (by omega), cond_true]
    unfold paidStep
    cases (((f.acts.getD i default).kind == 6 && (f.acts.getD i default).who == c.creditor) && (f.acts.getD i default).at_ == c.by_) <;> rfl
  · rw [decide_eq_false (by omega), cond_false]
theorem Maturity_eq (r : Realm) (fo : Int) (f : File) (day : Int) : ask_Maturity r fo f day = 
    bif ((record_At f day).signs.length : Int) == 0 then -1 else (fun p : Int × Int => bif p.2 != 0 then -1 else p.1) (tenor_Due r (record_At f day).bill (record_Seen (record_At f day)) (maxI (ask_Number (ask_Bill r fo 6 (record_At f day) day)) 0)) := by
  kernel_rfl
theorem Dishonour_eq (r : Realm) (fo : Int) (f : File) (day : Int) : diligence_Dishonour r fo f day = diligence_view_dishonour ⟨r, fo, record_At f day, 0, day, ask_Maturity r fo f day⟩ := by kernel_rfl
theorem dishonour_eq (v : View) : diligence_view_dishonour v = (fun n : Int => bif n != -1 then n else v.due) (bif decide (diligence_view_first v 1 0 > v.due) then -1 else diligence_view_first v 1 0) := by kernel_rfl
theorem interrupts_eq (a : ActX) (c : Claim) : limit_interrupts a c = bif a.at_ != c.sign then false else (a.kind == 9) || ((a.kind == 8) && ((c.creditor == (-1)) || (a.who == c.creditor))) := by kernel_rfl
/-- the last day, after some acts -/
noncomputable def lastStep (c : Claim) (first n : Int) (a : ActX) (last : Int) : Int := bif (limit_interrupts a c && decide (a.day ≥ first)) && decide (a.day ≤ last) then w64 (a.day + n) else last
noncomputable def lastOf (c : Claim) (first n : Int) (l : List ActX) : Int := l.foldl (fun s a => lastStep c first n a s) (w64 (first + n))
/-- what the last day is made of -/
noncomputable def saidOf (r : Realm) (fo : Int) (x : File) (c : Claim) (day : Int) : Said := ask_Ask r fo (limit_start r fo x c day).1 ⟨x, c.sign, c.sign, -1, ask_Maturity r fo x day, day⟩
noncomputable def endOf (r : Realm) (fo : Int) (x : File) (c : Claim) (day : Int) : Int × Int :=
  bif decide (c.sign < 0) || decide (c.sign ≥ (x.signs.length : Int)) then (0, 1)
  else bif (saidOf r fo x c day).err != 0 || (limit_start r fo x c day).2 == -1 then (0, 4)
  else bif !(saidOf r fo x c day).cell.known then (0, 17) else (lastOf c (limit_start r fo x c day).2 (saidOf r fo x c day).cell.n x.acts, 0)
theorem End_eq (r : Realm) (fo : Int) (f : File) (c : Claim) (day : Int) : limit_End r fo f c day = endOf r fo (record_At f day) c day := by
  unfold limit_End limit_End_sk endOf saidOf
  rw [Sk.val_r]
  have hx : (Ctr.c (record_At_k f day)).v = record_At f day := rfl
  rw [hx]
  generalize record_At f day = x
  rw [Sk.val_br, Sk.val_fin]
  congr 1
  rw [Sk.val_r]
  have hv : (Ctr.c (limit_start_k r fo x c day)).v = limit_start r fo x c day := rfl
  rw [hv]
  generalize limit_start r fo x c day = v
  simp only [Sk.val_bind, Sk.val_loop, Sk.val_bnd, Sk.val_br, Sk.val_r, Sk.val_wi, Sk.val_fin, Ctr.c_v, limit_interrupts_k, ask_Maturity_k, ask_Ask_k]
  congr 1
  congr 1
  generalize ask_Ask r fo v.1 ⟨x, c.sign, c.sign, -1, ask_Maturity r fo x day, day⟩ = w
  refine (pick_iter_walk x.acts (fun s i => (s, i)) (fun a s => .inr (lastStep c v.2 w.cell.n a s)) id _ (fun s i hi => ?_) (fun s => ?_) (by simp) _).trans ?_
  · have e : decide ((i : Int) < (x.acts.length : Int)) = true := decide_eq_true (by omega)
    simp only [e, cond_true]
    unfold lastStep
    cases ((limit_interrupts (x.acts.getD i default) c && decide ((x.acts.getD i default).day ≥ v.2)) && decide ((x.acts.getD i default).day ≤ s)) <;> rfl
  · have e : decide ((x.acts.length : Int) < (x.acts.length : Int)) = false := decide_eq_false (by omega)
    simp only [e, cond_false]; rfl
  · rw [walk_fold]; rfl
theorem takeWhile_all {α : Type} {p : α → Bool} : ∀ {l : List α}, (∀ x, x ∈ l → p x = true) → l.takeWhile p = l
  | [], _ => rfl
  | x :: r, h => by
    rw [List.takeWhile_cons, h x (by simp), if_pos rfl, takeWhile_all (fun y hy => h y (by simp [hy]))]
/-- an act more, as the last -/
noncomputable def plus (f : File) (a : ActX) : File := { f with acts := f.acts ++ [a] }
theorem At_acts_all {f : File} {D : Int} (h : ∀ x, x ∈ f.acts → x.day ≤ D) : (record_At f D).acts = f.acts := by
  rw [record_At_eq]
  exact takeWhile_all (fun x hx => decide_eq_true (h x hx))
theorem At_plus {f : File} {a : ActX} {D : Int} (h : ∀ x, x ∈ f.acts → x.day ≤ D) (ha : a.day ≤ D) : record_At (plus f a) D = plus (record_At f D) a := by
  unfold plus
  rw [At_facts, At_acts_all h, takeWhile_all]
  intro x hx
  rcases List.mem_append.1 hx with q | q
  · exact decide_eq_true (h x q)
  · simp only [List.mem_singleton] at q
    subst q
    exact decide_eq_true ha
theorem Seen_plus (f : File) {a : ActX} (ha : a.kind = 8) : record_Seen (plus f a) = record_Seen f := by
  rw [Seen_eq, Seen_eq]
  show walk (seenStep f.bill.tenor.kind) _ (f.acts ++ [a]) (f.signs.foldl (fun s x => seenSigns f.bill.tenor.kind x s) []) = _
  rw [walk_snoc]
  have h1 : (a.kind == 2) = false := by simp [ha]
  have h2 : (a.kind == 1) = false := by simp [ha]
  have : ∀ s, seenStep f.bill.tenor.kind a s = .inr s := fun s => by simp [seenStep, h1, h2]
  simp only [this]
theorem Maturity_plus (r : Realm) (fo : Int) {f : File} {a : ActX} {D : Int} (h : ∀ x, x ∈ f.acts → x.day ≤ D) (ha : a.day ≤ D) (hk : a.kind = 8) : ask_Maturity r fo (plus f a) D = ask_Maturity r fo f D := by
  rw [Maturity_eq, Maturity_eq, At_plus h ha, Seen_plus _ hk]
  unfold plus
  rw [Bill_acts]
theorem first_plus (r : Realm) (fo : Int) (f : File) (s D u : Int) {a : ActX} (hk : a.kind = 8) : diligence_view_first ⟨r, fo, plus f a, s, D, u⟩ 1 0 = diligence_view_first ⟨r, fo, f, s, D, u⟩ 1 0 := by
  rw [first_eq, first_eq]
  show walk _ _ (f.acts ++ [a]) _ = _
  rw [walk_snoc]
  have h2 : (a.kind == 1) = false := by simp [hk]
  have : ∀ d, firstStep 1 d 0 a = fun s => .inr s := fun d => funext fun s => by simp [firstStep, h2]
  rw [this]
  rfl
theorem Dishonour_plus (r : Realm) (fo : Int) {f : File} {a : ActX} {D : Int} (h : ∀ x, x ∈ f.acts → x.day ≤ D) (ha : a.day ≤ D) (hk : a.kind = 8) : diligence_Dishonour r fo (plus f a) D = diligence_Dishonour r fo f D := by
  rw [Dishonour_eq, Dishonour_eq, At_plus h ha, Maturity_plus r fo h ha hk, dishonour_eq, dishonour_eq, first_plus _ _ _ _ _ _ hk]
theorem start_plus (r : Realm) (fo : Int) {f : File} {a : ActX} (c : Claim) {D : Int} (h : ∀ x, x ∈ f.acts → x.day ≤ D) (ha : a.day ≤ D) (hk : a.kind = 8) : limit_start r fo (plus f a) c D = limit_start r fo f c D := by
  rw [start_eq, start_eq, Maturity_plus r fo h ha hk, Dishonour_plus r fo h ha hk]
  show (bif _ then _ else walk _ _ (f.acts ++ [a]) _ : Int × Int) = _
  rw [walk_snoc]
  have h2 : (a.kind == 6) = false := by simp [hk]
  have : paidStep c a = fun s => .inr s := funext fun s => by simp [paidStep, h2]
  rw [this]
theorem said_plus (r : Realm) (fo : Int) {f : File} {a : ActX} (c : Claim) {D : Int} (h : ∀ x, x ∈ f.acts → x.day ≤ D) (ha : a.day ≤ D) (hk : a.kind = 8) : saidOf r fo (plus f a) c D = saidOf r fo f c D := by
  unfold saidOf
  rw [start_plus r fo c h ha hk, Maturity_plus r fo h ha hk]
  exact Ask_acts _ _ _ _ _ _ _ _ _ _
theorem endOf_plus (r : Realm) (fo : Int) {f : File} {a : ActX} (c : Claim) {D : Int} (h : ∀ x, x ∈ f.acts → x.day ≤ D) (ha : a.day ≤ D) (hk : a.kind = 8) :
    (endOf r fo (plus f a) c D).2 = (endOf r fo f c D).2 ∧ ((endOf r fo f c D).2 = 0 → 
      (endOf r fo f c D).1 = lastOf c (limit_start r fo f c D).2 (saidOf r fo f c D).cell.n f.acts ∧
      (endOf r fo (plus f a) c D).1 = lastStep c (limit_start r fo f c D).2 (saidOf r fo f c D).cell.n a (endOf r fo f c D).1 ∧
      (saidOf r fo f c D).err = 0 ∧ (saidOf r fo f c D).cell.known = true ∧ (limit_start r fo f c D).2 ≠ -1) := by
  unfold endOf
  rw [start_plus r fo c h ha hk, said_plus r fo c h ha hk]
  generalize limit_start r fo f c D = v
  generalize saidOf r fo f c D = w
  show ((bif _ || decide (c.sign ≥ (f.signs.length : Int)) then _ else _ : Int × Int)).2 = _ ∧ (_ → _ ∧ ((bif _ || decide (c.sign ≥ (f.signs.length : Int)) then _ else _ : Int × Int)).1 = _ ∧ _)
  cases (decide (c.sign < 0) || decide (c.sign ≥ (f.signs.length : Int))) with
  | true => exact ⟨rfl, fun h => absurd (show (1 : Int) = 0 from h) (by decide)⟩
  | false =>
    simp only [cond_false]
    cases e : (w.err != 0 || v.2 == -1) with
    | true => exact ⟨rfl, fun h => absurd (show (4 : Int) = 0 from h) (by decide)⟩
    | false =>
      simp only [cond_false]
      cases e2 : w.cell.known with
      | false => exact ⟨rfl, fun h => absurd (show (17 : Int) = 0 from h) (by decide)⟩
      | true =>
        simp only [decide_eq_true_eq, decide_eq_false_iff_not, List.length_append, List.length_cons, List.length_nil, List.length_set, List.length_replicate, Bool.not_eq_true, Bool.not_eq_false, Int.not_lt, Int.not_le, Bool.and_eq_true, Bool.or_eq_true, Bool.and_eq_false_iff, Bool.or_eq_false_iff, Bool.not_eq_eq_eq_not, Bool.not_true, Bool.not_false, beq_iff_eq, bne_iff_ne, beq_eq_false_iff_ne, bne_eq_false_iff_eq, ne_eq, subL_length] at e
        refine ⟨rfl, fun _ => ⟨rfl, ?_, e.1, rfl, e.2⟩⟩
        simp only [Bool.not_true, cond_false]
        unfold plus lastOf
        rw [List.foldl_append]; rfl
theorem find_known (r : Realm) (fo q : Int) (c : CaseX) : (ask_find r fo q c).1.cell.known = false := by
  simp only [ask_find, ask_find_sk, Sk.val_r, Sk.val_br, Sk.val_cas, Sk.val_brt, Sk.val_brf, Sk.val_fin, Ctr.c_v]
  have h : ∀ (b : Bool) (x y : Said × List CellX), x.1.cell.known = false → y.1.cell.known = false → (bif b then x else y).1.cell.known = false := fun b x y hx hy => by cases b <;> assumption
  exact h _ _ _ rfl (h _ _ _ rfl (h _ _ _ rfl (h _ _ _ rfl rfl)))
theorem Answer_rng (o : Order) (q : Int) (l : List CellX) (hq : (order_Type q).1 = 0) : (order_Answer o q l).1.known = true → 0 ≤ (order_Answer o q l).1.n ∧ (order_Answer o q l).1.n ≤ 20000 := by
  have e : order_Answer o q l = bif (order_find o q).2 != 0 then (⟨false, 0⟩, (order_find o q).2) else
    bif (order_Type q).1 == 0 && (term_Eval (order_find o q).1 l).known then (⟨(term_Eval (order_find o q).1 l).known, minI (maxI (term_Eval (order_find o q).1 l).n 0) 20000⟩, 0) else (term_Eval (order_find o q).1 l, 0) := by kernel_rfl
  rw [e, hq]
  cases (order_find o q).2 != 0 with
  | true => intro h; exact absurd (show false = true from h) (by decide)
  | false =>
    cases hk : (term_Eval (order_find o q).1 l).known with
    | true => intro _; simp only [cond_false, cond_true, beq_self_eq_true, Bool.and_true]; unfold minI maxI; constructor <;> split <;> (try split) <;> omega
    | false => intro h; simp [hk] at h
theorem lastOf_fold (c : Claim) (first n d : Int) (hd : first ≤ d) (h0 : -1 ≤ first) (hd5 : d ≤ 100000) (hn : 0 ≤ n ∧ n ≤ 20000) : ∀ (l : List ActX), (∀ x, x ∈ l → 0 ≤ x.day ∧ x.day ≤ d) → ∀ s, s ≤ d + n → l.foldl (fun s a => lastStep c first n a s) s ≤ d + n
  | [], _, s, hs => hs
  | x :: r, h, s, hs => by
    rw [List.foldl_cons]
    refine lastOf_fold c first n d hd h0 hd5 hn r (fun y hy => h y (by simp [hy])) _ ?_
    have := h x (by simp)
    unfold lastStep
    cases ((limit_interrupts x c && decide (x.day ≥ first)) && decide (x.day ≤ s)) with
    | true => rw [cond_true, w64_id (by omega) (by omega)]; omega
    | false => exact hs
theorem last_more (c : Claim) (first n : Int) (a : ActX) (h0 : -1 ≤ first) (hd5 : 0 ≤ a.day ∧ a.day ≤ 100000) (hn : 0 ≤ n ∧ n ≤ 20000) (l : List ActX) (h : ∀ x, x ∈ l → 0 ≤ x.day ∧ x.day ≤ a.day) :
    lastOf c first n l ≤ lastStep c first n a (lastOf c first n l) := by
  unfold lastStep
  cases e : ((limit_interrupts a c && decide (a.day ≥ first)) && decide (a.day ≤ lastOf c first n l)) with
  | false => exact Int.le_refl _
  | true =>
    simp only [decide_eq_true_eq, decide_eq_false_iff_not, List.length_append, List.length_cons, List.length_nil, List.length_set, List.length_replicate, Bool.not_eq_true, Bool.not_eq_false, Int.not_lt, Int.not_le, Bool.and_eq_true, Bool.or_eq_true, Bool.and_eq_false_iff, Bool.or_eq_false_iff, Bool.not_eq_eq_eq_not, Bool.not_true, Bool.not_false, beq_iff_eq, bne_iff_ne, beq_eq_false_iff_ne, bne_eq_false_iff_eq, ne_eq, subL_length] at e
    rw [cond_true, w64_id (by omega) (by omega)]
    exact lastOf_fold c first n a.day e.1.2 h0 hd5.2 hn l h _ (by rw [w64_id (by omega) (by omega)]; omega)
theorem last_same (c : Claim) (first n : Int) (a : ActX) {s : Int} (h : s < a.day) : lastStep c first n a s = s := by
  unfold lastStep
  rw [decide_eq_false (show ¬ a.day ≤ s by omega), Bool.and_false, cond_false]
theorem walk_res {α σ β : Type} {step : α → σ → β ⊕ σ} {fin : σ → β} {Q : β → Prop} (hf : ∀ s, Q (fin s)) : ∀ (l : List α), (∀ x s b, x ∈ l → step x s = .inl b → Q b) → ∀ s, Q (walk step fin l s)
  | [], _, s => hf s
  | x :: r, h, s => by
    unfold walk
    cases e : step x s with
    | inl b => exact h x s b (by simp) e
    | inr s' => exact walk_res hf r (fun y t b hy => h y t b (by simp [hy])) s'
theorem first_rng (v : View) (h : ∀ x, x ∈ v.f.acts → 0 ≤ x.day) : -1 ≤ diligence_view_first v 1 0 := by
  rw [first_eq]
  refine walk_res (fun _ => by omega) _ (fun x s b hx e => ?_) _
  unfold firstStep at e
  cases hc : ((x.kind == 1 && x.to_ == v.f.bill.drawee) && decide (x.day ≥ 0)) with
  | true =>
    rw [hc] at e
    have : x.day = b := Sum.inl.inj e
    have := h x hx
    omega
  | false => rw [hc] at e; cases e
theorem start_rng (r : Realm) (fo : Int) (f : File) (c : Claim) (D : Int) (hm : -1 ≤ ask_Maturity r fo f D) (h : ∀ x, x ∈ f.acts → 0 ≤ x.day) : ((limit_start r fo f c D).1 = 13 ∨ (limit_start r fo f c D).1 = 14 ∨ (limit_start r fo f c D).1 = 15) ∧ -1 ≤ (limit_start r fo f c D).2 := by
  rw [start_eq]
  cases c.turn == 0 with
  | true => exact ⟨.inl rfl, hm⟩
  | false =>
    rw [cond_false]
    refine walk_res (Q := fun p : Int × Int => (p.1 = 13 ∨ p.1 = 14 ∨ p.1 = 15) ∧ -1 ≤ p.2) (fun _ => ⟨.inr (.inl rfl), ?_⟩) _ (fun x s b hx e => ?_) _
    · show -1 ≤ diligence_Dishonour r fo f D
      rw [Dishonour_eq, dishonour_eq]
      have := first_rng ⟨r, fo, record_At f D, 0, D, ask_Maturity r fo f D⟩ (fun x hx => h x (by rw [record_At_eq] at hx; exact (List.takeWhile_sublist _).subset hx))
      dsimp only
      cases decide (diligence_view_first ⟨r, fo, record_At f D, 0, D, ask_Maturity r fo f D⟩ 1 0 > ask_Maturity r fo f D) with
      | true => exact hm
      | false =>
        rw [cond_false]
        cases diligence_view_first ⟨r, fo, record_At f D, 0, D, ask_Maturity r fo f D⟩ 1 0 != -1 with
        | true => exact this
        | false => exact hm
    · unfold paidStep at e
      cases hc : ((x.kind == 6 && x.who == c.creditor) && x.at_ == c.by_) with
      | true =>
        rw [hc] at e
        have : (15, x.day) = b := Sum.inl.inj e
        subst this
        have := h x hx
        exact ⟨.inr (.inr rfl), by show -1 ≤ x.day; omega⟩
      | false => rw [hc] at e; cases e
theorem Type_int {q : Int} (h : q = 13 ∨ q = 14 ∨ q = 15) : (order_Type q).1 = 0 := by
  rcases h with rfl | rfl | rfl <;> kernel_rfl
theorem Ask_eq (r : Realm) (fo q : Int) (c : CaseX) : ask_Ask r fo q c = bif (ask_find r fo q c).1.order != (-1) then (⟨(order_Answer (r.orders.getD (ask_find r fo q c).1.order.toNat default) q (ask_find r fo q c).2).1, (ask_find r fo q c).1.order, (ask_find r fo q c).1.path, (order_Answer (r.orders.getD (ask_find r fo q c).1.order.toNat default) q (ask_find r fo q c).2).2⟩ : Said) else (ask_find r fo q c).1 := by
  kernel_rfl
theorem Ask_rng (r : Realm) (fo q : Int) (c : CaseX) (hq : (order_Type q).1 = 0) (hk : (ask_Ask r fo q c).cell.known = true) : 0 ≤ (ask_Ask r fo q c).cell.n ∧ (ask_Ask r fo q c).cell.n ≤ 20000 := by
  rw [Ask_eq] at hk ⊢
  cases e : (ask_find r fo q c).1.order != (-1) with
  | true => rw [e] at hk; exact Answer_rng _ q _ hq hk
  | false => rw [e, cond_false, find_known] at hk; exact absurd hk (by decide)
theorem saidOf_rng (r : Realm) (fo : Int) (f : File) (c : Claim) (D : Int) (hm : -1 ≤ ask_Maturity r fo f D) (h : ∀ x, x ∈ f.acts → 0 ≤ x.day) (hk : (saidOf r fo f c D).cell.known = true) : 0 ≤ (saidOf r fo f c D).cell.n ∧ (saidOf r fo f c D).cell.n ≤ 20000 :=
  Ask_rng _ _ _ _ (Type_int (start_rng r fo f c D hm h).1) hk
theorem Maturity_rng (r : Realm) (fo : Int) (f : File) (day : Int) : -1 ≤ ask_Maturity r fo f day := by
  rw [Maturity_eq]
  have := tenor_Due_post r (record_At f day).bill (record_Seen (record_At f day)) (maxI (ask_Number (ask_Bill r fo 6 (record_At f day) day)) 0)
  dsimp only at this ⊢
  generalize tenor_Due r (record_At f day).bill (record_Seen (record_At f day)) (maxI (ask_Number (ask_Bill r fo 6 (record_At f day) day)) 0) = p at this ⊢
  cases ((record_At f day).signs.length : Int) == 0 with
  | true => exact Int.le_refl _
  | false =>
    rw [cond_false]
    cases e : p.2 != 0 with
    | true => exact Int.le_refl _
    | false =>
      simp only [decide_eq_true_eq, decide_eq_false_iff_not, List.length_append, List.length_cons, List.length_nil, List.length_set, List.length_replicate, Bool.not_eq_true, Bool.not_eq_false, Int.not_lt, Int.not_le, Bool.and_eq_true, Bool.or_eq_true, Bool.and_eq_false_iff, Bool.or_eq_false_iff, Bool.not_eq_eq_eq_not, Bool.not_true, Bool.not_false, beq_iff_eq, bne_iff_ne, beq_eq_false_iff_ne, bne_eq_false_iff_eq, ne_eq, subL_length] at e
      have := this e
      rw [cond_false]; omega
theorem End_suit (r : Realm) (fo : Int) {f : File} {a : ActX} (c : Claim) {D : Int} (h : ∀ x, x ∈ f.acts → 0 ≤ x.day ∧ x.day ≤ a.day) (hd : 0 ≤ a.day ∧ a.day ≤ 100000) (haD : a.day ≤ D) (hk : a.kind = 8) :
    (limit_End r fo (plus f a) c D).2 = (limit_End r fo f c D).2 ∧ ((limit_End r fo f c D).2 = 0 → (limit_End r fo f c D).1 ≤ (limit_End r fo (plus f a) c D).1 ∧ ((limit_End r fo f c D).1 < a.day → (limit_End r fo (plus f a) c D).1 = (limit_End r fo f c D).1)) := by
  have hall : ∀ x, x ∈ f.acts → x.day ≤ D := fun x hx => by have := h x hx; omega
  rw [End_eq, End_eq, At_plus hall haD]
  have hF : ∀ x, x ∈ (record_At f D).acts → 0 ≤ x.day ∧ x.day ≤ a.day := fun x hx => h x (by rw [At_acts_all hall] at hx; exact hx)
  obtain ⟨h1, h2⟩ := endOf_plus r fo (f := record_At f D) (a := a) c (D := D) (fun x hx => by have := hF x hx; omega) haD hk
  refine ⟨h1, fun h0 => ?_⟩
  obtain ⟨e1, e2, e3, e4, e5⟩ := h2 h0
  have hs := start_rng r fo (record_At f D) c D (Maturity_rng _ _ _ _) (fun x hx => (hF x hx).1)
  have hn := saidOf_rng r fo (record_At f D) c D (Maturity_rng _ _ _ _) (fun x hx => (hF x hx).1) e4
  rw [e2]
  refine ⟨?_, fun hlt => last_same _ _ _ _ hlt⟩
  rw [e1]
  exact last_more _ _ _ _ hs.2 hd hn _ hF
noncomputable def limit_Lapsed_sk (r : Realm) (forum : Int) (f : File) (c_ : Claim) (day : Int) : Sk (Int) :=
 .r 1 ((limit_End_k r forum f c_ day).c) fun x1 =>
 .br (x1.2 == 17)
 (.fin 2)
 (.br ((x1.2 == 0) && (decide (day > x1.1)))
 (.fin 1)
 (.fin 0))
noncomputable def limit_Lapsed (r : Realm) (forum : Int) (f : File) (c_ : Claim) (day : Int) : Int := (limit_Lapsed_sk r forum f c_ day).val
theorem limit_Lapsed_ok (r : Realm) (forum : Int) (f : File) (c_ : Claim) (day : Int) (h_f_Small : f.Small) (h_r_ByOK : r.ByOK) (h_r_Small : r.Small) : (limit_Lapsed_sk r forum f c_ day).obs (fun _ => True) := by
  simp only [File.Small, Realm.Small, Realm.ByOK] at h_f_Small
  simp only [File.Small, Realm.Small, Realm.ByOK] at h_r_ByOK
  simp only [File.Small, Realm.Small, Realm.ByOK] at h_r_Small
  refine Sk.obs_of _ ?_
  unfold limit_Lapsed_sk
  simp only [Sk.obq, Sk.isLoop, reduceCtorEq, leafB, leafJ, Cal.z, Cal.p, Cal.t, Cal.pt, Cal.o, Cal.and, Cal.andl, Cal.andr, Cal.wh, Cal.dep, Cal.depr, Ctr.c, Ctr.nil, Ctr.nilc, CtrO.c, CtrO.nil, limit_End_k, File.Small, Realm.Small, Realm.ByOK, maxLen, implies_true, true_and, and_true, and_self, true_implies, false_implies, ixP, szP, mkP]
  all_goals (repeat' first | assumption | (apply And.intro) | (intro h))
  all_goals first | trivial | assumption | omega | ((try simp only [decide_eq_true_eq, decide_eq_false_iff_not, List.length_append, List.length_cons, List.length_nil, List.length_set, List.length_replicate, Bool.not_eq_true, Bool.not_eq_false, Int.not_lt, Int.not_le, Bool.and_eq_true, Bool.or_eq_true, Bool.and_eq_false_iff, Bool.or_eq_false_iff, Bool.not_eq_eq_eq_not, Bool.not_true, Bool.not_false, beq_iff_eq, bne_iff_ne, beq_eq_false_iff_ne, bne_eq_false_iff_eq, ne_eq, subL_length] at *) <;> first | omega | (refine (w64_id ?_ ?_).trans ?_ <;> omega) | (simp (disch := omega) only [w64_id] at *; omega) | (grind) | (simp_all; done) | (simp_all; omega))

theorem limit_Lapsed_fn (r : Realm) (forum : Int) (f : File) (c_ : Claim) (day : Int) (h_f_Small : f.Small) (h_r_ByOK : r.ByOK) (h_r_Small : r.Small) : FnA Tryz.prog 16 [av r.cells, iv forum, av f.cells, av c_.cells, iv day] [] (iv (limit_Lapsed r forum f c_ day)) [] :=
  FnA.sk tok mixed (fun x => iv x) (fun _ => []) Tryz.func16 rfl (by kernel_rfl) 3000 (limit_Lapsed_sk r forum f c_ day) (by kernel_rfl) (limit_Lapsed_ok r forum f c_ day h_f_Small h_r_ByOK h_r_Small)
noncomputable def limit_Lapsed_k (r : Realm) (forum : Int) (f : File) (c_ : Claim) (day : Int) : Ctr (Int) := ⟨Tryz.prog, 16, [av r.cells, iv forum, av f.cells, av c_.cells, iv day], fun x => iv x, true, limit_Lapsed r forum f c_ day, (f.Small) ∧ (r.ByOK) ∧ (r.Small), fun h => limit_Lapsed_fn r forum f c_ day h.1 h.2.1 h.2.2, fun _ => True, trivial⟩
noncomputable def allongelaw28_sane_sk : Sk (Bool) :=
 .r 1 allongelaw28_example_k.c fun x1 =>
 .r 2 ((allongelaw28_papers_k 8 3 1 900).c) fun x2 =>
 .r 3 ((limit_End_k x1 0 x2 ({ debtor := 1, creditor := 3, part := 0, sign := 1, by_ := 2, turn := 0, sum := 0, currency := 0, state := 0 } : Claim) 899).c) fun x3 =>
 .r 4 ((limit_End_k x1 0 x2 ({ debtor := 1, creditor := 3, part := 0, sign := 1, by_ := 2, turn := 0, sum := 0, currency := 0, state := 0 } : Claim) 900).c) fun x4 =>
 .r 5 ((limit_End_k x1 0 x2 ({ debtor := 0, creditor := 3, part := 0, sign := 0, by_ := 2, turn := 2, sum := 0, currency := 0, state := 0 } : Claim) 900).c) fun x5 =>
 .r 6 ((limit_End_k x1 0 x2 ({ debtor := 0, creditor := 2, part := 0, sign := 0, by_ := 2, turn := 1, sum := 0, currency := 0, state := 0 } : Claim) 900).c) fun x6 =>
 .r 7 (.dep ((allongelaw28_papers_k 9 0 0 376).c) fun x7 => (limit_End_k x1 0 x7 ({ debtor := 0, creditor := 3, part := 0, sign := 0, by_ := 2, turn := 2, sum := 0, currency := 0, state := 0 } : Claim) 900).c) fun p14 =>
 .r 8 (.dep ((allongelaw28_papers_k 9 0 0 375).c) fun x9 => (limit_End_k x1 0 x9 ({ debtor := 0, creditor := 3, part := 0, sign := 0, by_ := 2, turn := 2, sum := 0, currency := 0, state := 0 } : Claim) 900).c) fun p13 =>
 .r 9 ((limit_End_k x1 0 x2 ({ debtor := 0, creditor := 0, part := 0, sign := 3, by_ := 0, turn := 0, sum := 0, currency := 0, state := 0 } : Claim) 900).c) fun x11 =>
 .br (((((((x3.2 != 0) || (x4.2 != 0)) || (x5.2 != 0)) || (x6.2 != 0)) || (p14.2.2 != 0)) || (p13.2.2 != 0)) || (x11.2 != 1))
 (.fin false)
 (.r 12 ((limit_Lapsed_k x1 0 x2 ({ debtor := 0, creditor := 2, part := 0, sign := 0, by_ := 2, turn := 1, sum := 0, currency := 0, state := 0 } : Claim) 231).c) fun x12 =>
 .fin (((((((x3.1 == 1010) && (x4.1 == 1900)) && (x5.1 == 375)) && (x6.1 == 230)) && (p14.2.1 == 375)) && (p13.2.1 == 740)) && (x12 == 1)))
noncomputable def allongelaw28_sane : Bool := (allongelaw28_sane_sk).val
theorem allongelaw28_sane_post : (fun (x : Bool) => x = true) (allongelaw28_sane) := (show allongelaw28_sane = true by kernel_rfl)
theorem allongelaw28_sane_ok : (allongelaw28_sane_sk).obs (fun _ => True) := by
  refine Sk.obs_of _ ?_
  unfold allongelaw28_sane_sk
  simp only [Sk.obq, Sk.isLoop, reduceCtorEq, leafB, leafJ, Cal.z, Cal.p, Cal.t, Cal.pt, Cal.o, Cal.and, Cal.andl, Cal.andr, Cal.wh, Cal.dep, Cal.depr, Ctr.c, Ctr.nil, Ctr.nilc, CtrO.c, CtrO.nil, allongelaw28_example_k, allongelaw28_papers_k, limit_End_k, limit_Lapsed_k, File.Small, Realm.Small, Realm.ByOK, maxLen, implies_true, true_and, and_true, and_self, true_implies, false_implies, ixP, szP, mkP]
  all_goals (repeat' first | assumption | (apply And.intro) | (intro h))
  all_goals first | trivial | assumption | omega | ((try simp only [decide_eq_true_eq, decide_eq_false_iff_not, List.length_append, List.length_cons, List.length_nil, List.length_set, List.length_replicate, Bool.not_eq_true, Bool.not_eq_false, Int.not_lt, Int.not_le, Bool.and_eq_true, Bool.or_eq_true, Bool.and_eq_false_iff, Bool.or_eq_false_iff, Bool.not_eq_eq_eq_not, Bool.not_true, Bool.not_false, beq_iff_eq, bne_iff_ne, beq_eq_false_iff_ne, bne_eq_false_iff_eq, ne_eq, subL_length] at *) <;> first | omega | (refine (w64_id ?_ ?_).trans ?_ <;> omega) | (simp (disch := omega) only [w64_id] at *; omega) | (grind) | (simp_all; done) | (simp_all; omega))

theorem allongelaw28_sane_fn : FnA Tryz.prog 9 [] [] (bv allongelaw28_sane) [] :=
  FnA.sk tok mixed (fun x => bv x) (fun _ => []) Tryz.func9 rfl (by kernel_rfl) 3000 (allongelaw28_sane_sk) (by kernel_rfl) (allongelaw28_sane_ok)
noncomputable def allongelaw28_sane_k : Ctr (Bool) := ⟨Tryz.prog, 9, [], fun x => bv x, true, allongelaw28_sane, True, fun _ => allongelaw28_sane_fn, fun (x : Bool) => x = true, allongelaw28_sane_post⟩
noncomputable def allongeref09_Few_sk (r : Realm) : Sk (Bool) :=
 .bind true (fun _ => True)
 (.loop (default : Sum (Bool) (Unit)) (fun i2 => i2 ≤ r.cities.length) (fun i2 => r.cities.length - i2) (0 : Nat)
 (fun (i2 : Nat) => ⟨[(3, iv ((i2 : Nat) : Int))], []⟩) fun i2 =>
 .bnd 1 1 r.cities.length <|
 .br ((decide (((i2 : Nat) : Int) < ((r.cities.length : Nat) : Int))) && (decide (((i2 : Nat) : Int) < 50)))
 (.r 4 (.andl (.p (ixP ((i2 : Nat) : Int) r.cities.length)) (.andl (.wh (decide (((((r.cities.getD i2 default).feasts).length : Nat) : Int) > 70)) false (.p (ixP ((i2 : Nat) : Int) r.cities.length))) (.wh ((decide (((((r.cities.getD i2 default).feasts).length : Nat) : Int) > 70)) || (decide (((((r.cities.getD i2 default).shut).length : Nat) : Int) > 210))) false (.p (ixP ((i2 : Nat) : Int) r.cities.length))))) fun _ =>
 .br (((decide (((((r.cities.getD i2 default).feasts).length : Nat) : Int) > 70)) || (decide (((((r.cities.getD i2 default).shut).length : Nat) : Int) > 210))) || (decide (((((r.cities.getD i2 default).rest).length : Nat) : Int) > 8)))
 (.fin (.inl (.inl false)))
 (.r 3 .z fun _ =>
 .wi 3 (w64 (((i2 : Nat) : Int) + 1)) ((i2 + 1 : Nat) : Int) <|
 .fin (.inr (i2 + 1))))
 (.fin (.inl (.inr ()))))
 (fun (_ : Unit) => ⟨[], []⟩) fun _ =>
 .bind true (fun b3 => ∀ k, k < r.orders.length → k < 50 → (r.orders.getD k default).choices.length ≤ 40 ∧ (r.orders.getD k default).rules.length ≤ 40)
 (.loop (default : Sum (Bool) (Unit)) (fun i4 => (∀ k, k < i4 → (r.orders.getD k default).choices.length ≤ 40 ∧ (r.orders.getD k default).rules.length ≤ 40) ∧ i4 ≤ r.orders.length) (fun i4 => r.orders.length - i4) (0 : Nat)
 (fun (i4 : Nat) => ⟨[(4, iv ((i4 : Nat) : Int))], []⟩) fun i4 =>
 .bnd 1 4 r.orders.length <|
 .br ((decide (((i4 : Nat) : Int) < ((r.orders.length : Nat) : Int))) && (decide (((i4 : Nat) : Int) < 50)))
 (.r 9 (.andl (.p (ixP ((i4 : Nat) : Int) r.orders.length)) (.wh (decide (((((r.orders.getD i4 default).choices).length : Nat) : Int) > 40)) false (.p (ixP ((i4 : Nat) : Int) r.orders.length)))) fun _ =>
 .br ((decide (((((r.orders.getD i4 default).choices).length : Nat) : Int) > 40)) || (decide (((((r.orders.getD i4 default).rules).length : Nat) : Int) > 40)))
 (.fin (.inl (.inl false)))
 (.r 8 .z fun _ =>
 .wi 4 (w64 (((i4 : Nat) : Int) + 1)) ((i4 + 1 : Nat) : Int) <|
 .fin (.inr (i4 + 1))))
 (.fin (.inl (.inr ()))))
 (fun (_ : Unit) => ⟨[], []⟩) fun _ =>
 .fin ((((((((decide (((r.currencies.length : Nat) : Int) < 50)) && (decide (((r.cities.length : Nat) : Int) < 50))) && (decide (((r.groups.length : Nat) : Int) < 50))) && (decide (((r.firms.length : Nat) : Int) < 210))) && (decide (((r.orders.length : Nat) : Int) < 50))) && (decide (((r.usances.length : Nat) : Int) < 110))) && (decide (((r.rates.length : Nat) : Int) < 110))) && (decide (((r.halts.length : Nat) : Int) < 50)))
noncomputable def allongeref09_Few (r : Realm) : Bool := (allongeref09_Few_sk r).val
theorem allongeref09_Few_pst (r : Realm) : (allongeref09_Few_sk r).pst (fun (x : Bool) => x = true → r.Small) := by
  refine Sk.pst_of _ ?_
  unfold allongeref09_Few_sk
  simp only [Sk.pstq, Sk.isLoop, reduceCtorEq, leafB, leafJ, Cal.z, Cal.p, Cal.t, Cal.pt, Cal.o, Cal.and, Cal.andl, Cal.andr, Cal.wh, Cal.dep, Cal.depr, Ctr.c, Ctr.nil, Ctr.nilc, CtrO.c, CtrO.nil, File.Small, Realm.Small, maxLen, implies_true, true_and, and_true, and_self, true_implies, false_implies, ixP, szP, mkP]
  all_goals (repeat' first | assumption | (apply And.intro) | (intro h))
  all_goals first | trivial | assumption | omega | ((try simp only [decide_eq_true_eq, decide_eq_false_iff_not, List.length_append, List.length_cons, List.length_nil, List.length_set, List.length_replicate, Bool.not_eq_true, Bool.not_eq_false, Int.not_lt, Int.not_le, Bool.and_eq_true, Bool.or_eq_true, Bool.and_eq_false_iff, Bool.or_eq_false_iff, Bool.not_eq_eq_eq_not, Bool.not_true, Bool.not_false, beq_iff_eq, bne_iff_ne, beq_eq_false_iff_ne, bne_eq_false_iff_eq, ne_eq, subL_length] at *) <;> first | omega | (refine (w64_id ?_ ?_).trans ?_ <;> omega) | (simp (disch := omega) only [w64_id] at *; omega) | (grind) | (simp_all; done) | (simp_all; omega))

theorem allongeref09_Few_post (r : Realm) : (fun (x : Bool) => x = true → r.Small) (allongeref09_Few r) := Sk.pval _ (allongeref09_Few_pst r)
theorem allongeref09_Few_ok (r : Realm) : (allongeref09_Few_sk r).obs (fun _ => True) := by
  refine Sk.obs_of _ ?_
  unfold allongeref09_Few_sk
  simp only [Sk.obq, Sk.isLoop, reduceCtorEq, leafB, leafJ, Cal.z, Cal.p, Cal.t, Cal.pt, Cal.o, Cal.and, Cal.andl, Cal.andr, Cal.wh, Cal.dep, Cal.depr, Ctr.c, Ctr.nil, Ctr.nilc, CtrO.c, CtrO.nil, File.Small, Realm.Small, maxLen, implies_true, true_and, and_true, and_self, true_implies, false_implies, ixP, szP, mkP]
  all_goals (repeat' first | assumption | (apply And.intro) | (intro h))
  all_goals first | trivial | assumption | omega | ((try simp only [decide_eq_true_eq, decide_eq_false_iff_not, List.length_append, List.length_cons, List.length_nil, List.length_set, List.length_replicate, Bool.not_eq_true, Bool.not_eq_false, Int.not_lt, Int.not_le, Bool.and_eq_true, Bool.or_eq_true, Bool.and_eq_false_iff, Bool.or_eq_false_iff, Bool.not_eq_eq_eq_not, Bool.not_true, Bool.not_false, beq_iff_eq, bne_iff_ne, beq_eq_false_iff_ne, bne_eq_false_iff_eq, ne_eq, subL_length] at *) <;> first | omega | (refine (w64_id ?_ ?_).trans ?_ <;> omega) | (simp (disch := omega) only [w64_id] at *; omega) | (grind) | (simp_all; done) | (simp_all; omega))

theorem allongeref09_Few_fn (r : Realm) : FnA Tryz.prog 70 [av r.cells] [] (bv (allongeref09_Few r)) [] :=
  FnA.sk tok mixed (fun x => bv x) (fun _ => []) Tryz.func70 rfl (by kernel_rfl) 3000 (allongeref09_Few_sk r) (by kernel_rfl) (allongeref09_Few_ok r)
noncomputable def allongeref09_Few_k (r : Realm) : Ctr (Bool) := ⟨Tryz.prog, 70, [av r.cells], fun x => bv x, true, allongeref09_Few r, True, fun _ => allongeref09_Few_fn r, fun (x : Bool) => x = true → r.Small, allongeref09_Few_post r⟩
noncomputable def allongeref14_Few_sk (f : File) : Sk (Bool) :=
 .fin ((((decide (((f.signs.length : Nat) : Int) ≤ 50)) && (decide (((f.alters.length : Nat) : Int) ≤ 10))) && (decide (((f.acts.length : Nat) : Int) ≤ 110))) && (decide (((f.facts.length : Nat) : Int) ≤ 220)))
noncomputable def allongeref14_Few (f : File) : Bool := (allongeref14_Few_sk f).val
theorem allongeref14_Few_eq (f : File) : allongeref14_Few f = ((((decide (((f.signs.length : Nat) : Int) ≤ 50)) && (decide (((f.alters.length : Nat) : Int) ≤ 10))) && (decide (((f.acts.length : Nat) : Int) ≤ 110))) && (decide (((f.facts.length : Nat) : Int) ≤ 220))) := rfl
theorem allongeref14_Few_pst (f : File) : (allongeref14_Few_sk f).pst (fun (x : Bool) => x = true → f.Small) := by
  refine Sk.pst_of _ ?_
  unfold allongeref14_Few_sk
  simp only [Sk.pstq, Sk.isLoop, reduceCtorEq, leafB, leafJ, Cal.z, Cal.p, Cal.t, Cal.pt, Cal.o, Cal.and, Cal.andl, Cal.andr, Cal.wh, Cal.dep, Cal.depr, Ctr.c, Ctr.nil, Ctr.nilc, CtrO.c, CtrO.nil, File.Small, Realm.Small, maxLen, implies_true, true_and, and_true, and_self, true_implies, false_implies, ixP, szP, mkP]
  all_goals (repeat' first | assumption | (apply And.intro) | (intro h))
  all_goals first | trivial | assumption | omega | ((try simp only [decide_eq_true_eq, decide_eq_false_iff_not, List.length_append, List.length_cons, List.length_nil, List.length_set, List.length_replicate, Bool.not_eq_true, Bool.not_eq_false, Int.not_lt, Int.not_le, Bool.and_eq_true, Bool.or_eq_true, Bool.and_eq_false_iff, Bool.or_eq_false_iff, Bool.not_eq_eq_eq_not, Bool.not_true, Bool.not_false, beq_iff_eq, bne_iff_ne, beq_eq_false_iff_ne, bne_eq_false_iff_eq, ne_eq, subL_length] at *) <;> first | omega | (refine (w64_id ?_ ?_).trans ?_ <;> omega) | (simp (disch := omega) only [w64_id] at *; omega) | (grind) | (simp_all; done) | (simp_all; omega))

theorem allongeref14_Few_post (f : File) : (fun (x : Bool) => x = true → f.Small) (allongeref14_Few f) := Sk.pval _ (allongeref14_Few_pst f)
theorem allongeref14_Few_ok (f : File) : (allongeref14_Few_sk f).obs (fun _ => True) := by
  refine Sk.obs_of _ ?_
  unfold allongeref14_Few_sk
  simp only [Sk.obq, Sk.isLoop, reduceCtorEq, leafB, leafJ, Cal.z, Cal.p, Cal.t, Cal.pt, Cal.o, Cal.and, Cal.andl, Cal.andr, Cal.wh, Cal.dep, Cal.depr, Ctr.c, Ctr.nil, Ctr.nilc, CtrO.c, CtrO.nil, File.Small, Realm.Small, maxLen, implies_true, true_and, and_true, and_self, true_implies, false_implies, ixP, szP, mkP]

theorem allongeref14_Few_fn (f : File) : FnA Tryz.prog 71 [av f.cells] [] (bv (allongeref14_Few f)) [] :=
  FnA.sk tok mixed (fun x => bv x) (fun _ => []) Tryz.func71 rfl (by kernel_rfl) 3000 (allongeref14_Few_sk f) (by kernel_rfl) (allongeref14_Few_ok f)
noncomputable def allongeref14_Few_k (f : File) : Ctr (Bool) := ⟨Tryz.prog, 71, [av f.cells], fun x => bv x, true, allongeref14_Few f, True, fun _ => allongeref14_Few_fn f, fun (x : Bool) => x = true → f.Small, allongeref14_Few_post f⟩
noncomputable def allongeref15_size_kr (rv : Term → Int → Int → Int) (rp : Term → Int → Int → Prop) (rf : ∀ (t : Term) (n : Int) (levels : Int), rp t n levels → FnA Tryz.prog 145 [av t.cells, iv n, iv levels] [] (iv (rv t n levels)) []) (t : Term) (n : Int) (levels : Int) : Ctr (Int) := ⟨Tryz.prog, 145, [av t.cells, iv n, iv levels], fun x => iv x, true, rv t n levels, rp t n levels, rf t n levels, fun _ => True, trivial⟩
noncomputable def allongeref15_size_sk (rv : Term → Int → Int → Int) (rp : Term → Int → Int → Prop) (rf : ∀ (t : Term) (n : Int) (levels : Int), rp t n levels → FnA Tryz.prog 145 [av t.cells, iv n, iv levels] [] (iv (rv t n levels)) []) (t : Term) (n : Int) (levels : Int) : Sk (Int) :=
 .br (decide (levels < 1))
 (.fin (-1))
 (.bind true (fun _ => True)
 (.loop (default : Sum (Int) (Int)) (fun i2 => i2.2 ≤ t.args.length) (fun i2 => t.args.length - i2.2) ((w64 (n - 1), 0) : Int × Nat)
 (fun (i2 : Int × Nat) => ⟨[(1, iv i2.1), (7, iv ((i2.2 : Nat) : Int))], []⟩) fun i2 =>
 .bnd 3 2 t.args.length <|
 .br ((decide (((i2.2 : Nat) : Int) < ((t.args.length : Nat) : Int))) && (decide (i2.1 ≥ 0)))
 (.r 7 (.andl (.andl (.p (ixP ((i2.2 : Nat) : Int) t.args.length)) (.o [.cast 26 (refC (Term.unroll (t.args.getD i2.2 default)))])) ((allongeref15_size_kr rv rp rf (t.args.getD i2.2 default) i2.1 (w64 (levels - 1))).c)) fun x3 =>
 .r 6 .z fun _ =>
 .wi 7 (w64 (((i2.2 : Nat) : Int) + 1)) ((i2.2 + 1 : Nat) : Int) <|
 .fin (.inr (x3, i2.2 + 1)))
 (.fin (.inl (.inr i2.1))))
 (fun (b1 : Int) => ⟨[(1, iv b1)], []⟩) fun b1 =>
 .fin b1)
noncomputable def allongeref15_size_n : Nat → Term → Int → Int → Int
  | 0, _, _, _ => default
  | fu + 1, t, n, levels => (allongeref15_size_sk (allongeref15_size_n fu) (fun _ _ _ => False) (fun _ _ _ => fun h => h.elim) t n levels).val
theorem allongeref15_size_ok (fu : Nat) (rf : ∀ (t : Term) (n : Int) (levels : Int), t.depth ≤ fu ∧ True → FnA Tryz.prog 145 [av t.cells, iv n, iv levels] [] (iv (allongeref15_size_n fu t n levels)) []) (t : Term) (n : Int) (levels : Int) (hm : t.depth ≤ fu + 1) : (allongeref15_size_sk (allongeref15_size_n fu) (fun t n levels => t.depth ≤ fu ∧ True) rf t n levels).obs (fun _ => True) := by
  refine Sk.obs_of _ ?_
  unfold allongeref15_size_sk
  simp only [Sk.obq, Sk.isLoop, reduceCtorEq, leafB, leafJ, Cal.z, Cal.p, Cal.t, Cal.pt, Cal.o, Cal.and, Cal.andl, Cal.andr, Cal.wh, Cal.dep, Cal.depr, Ctr.c, Ctr.nil, Ctr.nilc, CtrO.c, CtrO.nil, allongeref15_size_kr, maxLen, implies_true, true_and, and_true, and_self, true_implies, false_implies, ixP, szP, mkP]
  all_goals (repeat' first | assumption | (apply And.intro) | (intro h))
  all_goals first | trivial | assumption | omega | (refine Nat.le_of_lt_succ (Nat.lt_of_lt_of_le (Term.depth_args t _ (by (try simp only [decide_eq_true_eq, decide_eq_false_iff_not, List.length_append, List.length_cons, List.length_nil, List.length_set, List.length_replicate, Bool.not_eq_true, Bool.not_eq_false, Int.not_lt, Int.not_le, Bool.and_eq_true, Bool.or_eq_true, Bool.and_eq_false_iff, Bool.or_eq_false_iff, Bool.not_eq_eq_eq_not, Bool.not_true, Bool.not_false, beq_iff_eq, bne_iff_ne, beq_eq_false_iff_ne, bne_eq_false_iff_eq, ne_eq, subL_length] at *); omega)) hm)) | ((try simp only [decide_eq_true_eq, decide_eq_false_iff_not, List.length_append, List.length_cons, List.length_nil, List.length_set, List.length_replicate, Bool.not_eq_true, Bool.not_eq_false, Int.not_lt, Int.not_le, Bool.and_eq_true, Bool.or_eq_true, Bool.and_eq_false_iff, Bool.or_eq_false_iff, Bool.not_eq_eq_eq_not, Bool.not_true, Bool.not_false, beq_iff_eq, bne_iff_ne, beq_eq_false_iff_ne, bne_eq_false_iff_eq, ne_eq, subL_length] at *) <;> first | omega | (refine (w64_id ?_ ?_).trans ?_ <;> omega) | (simp (disch := omega) only [w64_id] at *; omega) | (grind) | (simp_all; done) | (simp_all; omega))

theorem allongeref15_size_val (fu : Nat) (rp : Term → Int → Int → Prop) (rf : ∀ (t : Term) (n : Int) (levels : Int), rp t n levels → FnA Tryz.prog 145 [av t.cells, iv n, iv levels] [] (iv (allongeref15_size_n fu t n levels)) []) (t : Term) (n : Int) (levels : Int) : (allongeref15_size_sk (allongeref15_size_n fu) rp rf t n levels).val = allongeref15_size_n (fu + 1) t n levels := by kernel_rfl
theorem allongeref15_size_fnN (fu : Nat) : ∀ (t : Term) (n : Int) (levels : Int), t.depth ≤ fu → FnA Tryz.prog 145 [av t.cells, iv n, iv levels] [] (iv (allongeref15_size_n fu t n levels)) [] := by
  induction fu with
  | zero => intro t n levels hm; exact absurd hm (by have := Term.depth_pos t; omega)
  | succ fu ih =>
    intro t n levels hm
    have h : FnA Tryz.prog 145 [av t.cells, iv n, iv levels] [] (iv ((allongeref15_size_sk (allongeref15_size_n fu) (fun t n levels => t.depth ≤ fu ∧ True) (fun t n levels h => ih t n levels h.1) t n levels).val)) [] := FnA.sk tok mixed (fun x => iv x) (fun _ => []) Tryz.func145 rfl (by kernel_rfl) 3000 (allongeref15_size_sk (allongeref15_size_n fu) (fun t n levels => t.depth ≤ fu ∧ True) (fun t n levels h => ih t n levels h.1) t n levels) (by kernel_rfl) (allongeref15_size_ok fu _ t n levels hm)
    rw [allongeref15_size_val] at h
    exact h
noncomputable def allongeref15_size (t : Term) (n : Int) (levels : Int) : Int := allongeref15_size_n (t.depth) t n levels
theorem allongeref15_size_fn (t : Term) (n : Int) (levels : Int) : FnA Tryz.prog 145 [av t.cells, iv n, iv levels] [] (iv (allongeref15_size t n levels)) [] := allongeref15_size_fnN _ t n levels (Nat.le_refl _)
noncomputable def allongeref15_size_k (t : Term) (n : Int) (levels : Int) : Ctr (Int) := ⟨Tryz.prog, 145, [av t.cells, iv n, iv levels], fun x => iv x, true, allongeref15_size t n levels, True, fun _ => allongeref15_size_fn t n levels, fun _ => True, trivial⟩
noncomputable def allongeref15_Few_sk (t : Term) : Sk (Bool) :=
 .r 1 ((allongeref15_size_k t 100 20).c) fun x1 =>
 .fin (decide (x1 ≥ 0))
noncomputable def allongeref15_Few (t : Term) : Bool := (allongeref15_Few_sk t).val
theorem allongeref15_Few_ok (t : Term) : (allongeref15_Few_sk t).obs (fun _ => True) := by
  refine Sk.obs_of _ ?_
  unfold allongeref15_Few_sk
  simp only [Sk.obq, Sk.isLoop, reduceCtorEq, leafB, leafJ, Cal.z, Cal.p, Cal.t, Cal.pt, Cal.o, Cal.and, Cal.andl, Cal.andr, Cal.wh, Cal.dep, Cal.depr, Ctr.c, Ctr.nil, Ctr.nilc, CtrO.c, CtrO.nil, allongeref15_size_k, maxLen, implies_true, true_and, and_true, and_self, true_implies, false_implies, ixP, szP, mkP]

theorem allongeref15_Few_fn (t : Term) : FnA Tryz.prog 104 [av t.cells] [] (bv (allongeref15_Few t)) [] :=
  FnA.sk tok mixed (fun x => bv x) (fun _ => []) Tryz.func104 rfl (by kernel_rfl) 3000 (allongeref15_Few_sk t) (by kernel_rfl) (allongeref15_Few_ok t)
noncomputable def allongeref15_Few_k (t : Term) : Ctr (Bool) := ⟨Tryz.prog, 104, [av t.cells], fun x => bv x, true, allongeref15_Few t, True, fun _ => allongeref15_Few_fn t, fun _ => True, trivial⟩
noncomputable def allongeref18_Few_sk (o : Order) : Sk (Bool) :=
 .br ((decide (((o.rules.length : Nat) : Int) > 60)) || (decide (((o.choices.length : Nat) : Int) > 60)))
 (.fin false)
 (.bind true (fun _ => True)
 (.loop (default : Sum (Bool) (Unit)) (fun i2 => i2 ≤ o.rules.length) (fun i2 => o.rules.length - i2) (0 : Nat)
 (fun (i2 : Nat) => ⟨[(3, iv ((i2 : Nat) : Int))], []⟩) fun i2 =>
 .bnd 1 3 o.rules.length <|
 .br (decide (((i2 : Nat) : Int) < ((o.rules.length : Nat) : Int)))
 (.r 6 (.andl (.p (ixP ((i2 : Nat) : Int) o.rules.length)) ((allongeref15_Few_k ((o.rules.getD i2 default).term)).c)) fun x3 =>
 .br (!x3)
 (.fin (.inl (.inl false)))
 (.r 5 .z fun _ =>
 .wi 3 (w64 (((i2 : Nat) : Int) + 1)) ((i2 + 1 : Nat) : Int) <|
 .fin (.inr (i2 + 1))))
 (.fin (.inl (.inr ()))))
 (fun (_ : Unit) => ⟨[], []⟩) fun _ =>
 .fin true)
noncomputable def allongeref18_Few (o : Order) : Bool := (allongeref18_Few_sk o).val
theorem allongeref18_Few_ok (o : Order) : (allongeref18_Few_sk o).obs (fun _ => True) := by
  refine Sk.obs_of _ ?_
  unfold allongeref18_Few_sk
  simp only [Sk.obq, Sk.isLoop, reduceCtorEq, leafB, leafJ, Cal.z, Cal.p, Cal.t, Cal.pt, Cal.o, Cal.and, Cal.andl, Cal.andr, Cal.wh, Cal.dep, Cal.depr, Ctr.c, Ctr.nil, Ctr.nilc, CtrO.c, CtrO.nil, allongeref15_Few_k, maxLen, implies_true, true_and, and_true, and_self, true_implies, false_implies, ixP, szP, mkP]
  all_goals (repeat' first | assumption | (apply And.intro) | (intro h))
  all_goals first | trivial | assumption | omega | ((try simp only [decide_eq_true_eq, decide_eq_false_iff_not, List.length_append, List.length_cons, List.length_nil, List.length_set, List.length_replicate, Bool.not_eq_true, Bool.not_eq_false, Int.not_lt, Int.not_le, Bool.and_eq_true, Bool.or_eq_true, Bool.and_eq_false_iff, Bool.or_eq_false_iff, Bool.not_eq_eq_eq_not, Bool.not_true, Bool.not_false, beq_iff_eq, bne_iff_ne, beq_eq_false_iff_ne, bne_eq_false_iff_eq, ne_eq, subL_length] at *) <;> first | omega | (refine (w64_id ?_ ?_).trans ?_ <;> omega) | (simp (disch := omega) only [w64_id] at *; omega) | (grind) | (simp_all; done) | (simp_all; omega))

theorem allongeref18_Few_fn (o : Order) : FnA Tryz.prog 72 [av o.cells] [] (bv (allongeref18_Few o)) [] :=
  FnA.sk tok mixed (fun x => bv x) (fun _ => []) Tryz.func72 rfl (by kernel_rfl) 3000 (allongeref18_Few_sk o) (by kernel_rfl) (allongeref18_Few_ok o)
noncomputable def allongeref18_Few_k (o : Order) : Ctr (Bool) := ⟨Tryz.prog, 72, [av o.cells], fun x => bv x, true, allongeref18_Few o, True, fun _ => allongeref18_Few_fn o, fun _ => True, trivial⟩
end Go.Proofs.YtggilgghigileaaGreatDoor
