/- Functions, as sketches. -/
import Derived.Test.YtihmmpaalpghbaaGreatDoorRv15
namespace Go.Proofs.YtihmmpaalpghbaaGreatDoor
open Go Go.Av
set_option linter.unusedSimpArgs false
set_option linter.unusedVariables false
set_option maxHeartbeats 1000000
set_option maxRecDepth 100000
noncomputable def allongeref14_Same_sk (a : File) (b : File) : Sk (Bool) :=
 .br (((((!(eqCs (Bill.cells a.bill) (Bill.cells b.bill))) || (((a.signs.length : Nat) : Int) != ((b.signs.length : Nat) : Int))) || (((a.alters.length : Nat) : Int) != ((b.alters.length : Nat) : Int))) || (((a.acts.length : Nat) : Int) != ((b.acts.length : Nat) : Int))) || (((a.facts.length : Nat) : Int) != ((b.facts.length : Nat) : Int)))
 (.fin false)
 (.bt
 (.loop (default : Sum (Bool) (Unit)) (fun i2 => i2 ≤ a.signs.length) (fun i2 => a.signs.length - i2) (0 : Nat)
 (fun (i2 : Nat) => ⟨[(5, iv ((i2 : Nat) : Int))], []⟩) fun i2 =>
 .lt 2 15 i2 a.signs.length
 (.r 6 (.andl (.p (ixP ((i2 : Nat) : Int) a.signs.length)) (.p (ixP ((i2 : Nat) : Int) b.signs.length))) fun _ =>
 .br (!((((a.signs.getD i2 default).kind) == ((b.signs.getD i2 default).kind)) && ((((a.signs.getD i2 default).part) == ((b.signs.getD i2 default).part)) && ((((a.signs.getD i2 default).who) == ((b.signs.getD i2 default).who)) && ((((a.signs.getD i2 default).for_) == ((b.signs.getD i2 default).for_)) && ((((a.signs.getD i2 default).to_) == ((b.signs.getD i2 default).to_)) && ((((a.signs.getD i2 default).sum) == ((b.signs.getD i2 default).sum)) && ((((a.signs.getD i2 default).day) == ((b.signs.getD i2 default).day)) && ((((a.signs.getD i2 default).city) == ((b.signs.getD i2 default).city)) && ((((a.signs.getD i2 default).flags) == ((b.signs.getD i2 default).flags)) && true))))))))))
 (.fin (.inl (.inl false)))
 (.nx 5 5 i2 (i2 + 1)))
 (.fin (.inl (.inr ()))))
 (fun (_ : Unit) => ⟨[], []⟩) fun _ =>
 .bt
 (.loop (default : Sum (Bool) (Unit)) (fun i4 => i4 ≤ a.alters.length) (fun i4 => a.alters.length - i4) (0 : Nat)
 (fun (i4 : Nat) => ⟨[(6, iv ((i4 : Nat) : Int))], []⟩) fun i4 =>
 .lt 2 16 i4 a.alters.length
 (.r 11 (.andl (.p (ixP ((i4 : Nat) : Int) a.alters.length)) (.p (ixP ((i4 : Nat) : Int) b.alters.length))) fun _ =>
 .br (!((((a.alters.getD i4 default).at_) == ((b.alters.getD i4 default).at_)) && ((((a.alters.getD i4 default).sum) == ((b.alters.getD i4 default).sum)) && true)))
 (.fin (.inl (.inl false)))
 (.nx 10 6 i4 (i4 + 1)))
 (.fin (.inl (.inr ()))))
 (fun (_ : Unit) => ⟨[], []⟩) fun _ =>
 .bt
 (.loop (default : Sum (Bool) (Unit)) (fun i6 => i6 ≤ a.acts.length) (fun i6 => a.acts.length - i6) (0 : Nat)
 (fun (i6 : Nat) => ⟨[(7, iv ((i6 : Nat) : Int))], []⟩) fun i6 =>
 .lt 2 17 i6 a.acts.length
 (.r 16 (.andl (.p (ixP ((i6 : Nat) : Int) a.acts.length)) (.p (ixP ((i6 : Nat) : Int) b.acts.length))) fun _ =>
 .br (!((((a.acts.getD i6 default).kind) == ((b.acts.getD i6 default).kind)) && ((((a.acts.getD i6 default).who) == ((b.acts.getD i6 default).who)) && ((((a.acts.getD i6 default).to_) == ((b.acts.getD i6 default).to_)) && ((((a.acts.getD i6 default).part) == ((b.acts.getD i6 default).part)) && ((((a.acts.getD i6 default).at_) == ((b.acts.getD i6 default).at_)) && ((((a.acts.getD i6 default).sum) == ((b.acts.getD i6 default).sum)) && ((((a.acts.getD i6 default).day) == ((b.acts.getD i6 default).day)) && ((((a.acts.getD i6 default).city) == ((b.acts.getD i6 default).city)) && ((((a.acts.getD i6 default).form) == ((b.acts.getD i6 default).form)) && true))))))))))
 (.fin (.inl (.inl false)))
 (.nx 15 7 i6 (i6 + 1)))
 (.fin (.inl (.inr ()))))
 (fun (_ : Unit) => ⟨[], []⟩) fun _ =>
 .bt
 (.loop (default : Sum (Bool) (Unit)) (fun i8 => i8 ≤ a.facts.length) (fun i8 => a.facts.length - i8) (0 : Nat)
 (fun (i8 : Nat) => ⟨[(8, iv ((i8 : Nat) : Int))], []⟩) fun i8 =>
 .lt 2 18 i8 a.facts.length
 (.r 21 (.andl (.p (ixP ((i8 : Nat) : Int) a.facts.length)) (.p (ixP ((i8 : Nat) : Int) b.facts.length))) fun _ =>
 .br (!((((a.facts.getD i8 default).kind) == ((b.facts.getD i8 default).kind)) && ((((a.facts.getD i8 default).at_) == ((b.facts.getD i8 default).at_)) && ((((a.facts.getD i8 default).n) == ((b.facts.getD i8 default).n)) && true))))
 (.fin (.inl (.inl false)))
 (.nx 20 8 i8 (i8 + 1)))
 (.fin (.inl (.inr ()))))
 (fun (_ : Unit) => ⟨[], []⟩) fun _ =>
 .fin true)
noncomputable def allongeref14_Same a b := (allongeref14_Same_sk a b).val
theorem allongeref14_Same_pst (a : File) (b : File) : (allongeref14_Same_sk a b).pst (fun (x : Bool) => a = b → x = true) := by
  refine Sk.pst_of _ ?_
  unfold allongeref14_Same_sk
  simp only [Sk.pstq, Sk.isLoop, reduceCtorEq, ON, kk, kp, maxLen]
  have hb : ∀ x : Bill, eqCs x.cells x.cells = true := fun x => eqCs_rfl rfl
  all_goals (repeat' first | assumption | (apply And.intro) | (intro h))
  all_goals first
    | omega
    | (simp only [LN] at *; omega)
    | (subst_vars; simp_all; done)

theorem allongeref14_Same_post (a : File) (b : File) : (fun (x : Bool) => a = b → x = true) (allongeref14_Same a b) := have h := Sk.pval _ (allongeref14_Same_pst a b); h
theorem allongeref14_Same_ok (a : File) (b : File) : (allongeref14_Same_sk a b).obs (fun _ => True) := by
  unfold allongeref14_Same_sk
  exact okD

noncomputable def allongeref14_Same_k a b := kp tok mixed Tryz.func18 [av a.cells, av b.cells] (fun x => bv x) true (allongeref14_Same a b) (u0 (allongeref14_Same_ok a b)) (allongeref14_Same_pst a b)
noncomputable def report_Used_sk (r : Realm) (l : List Arrival) (bill : Int) (day : Int) : Sk ((List Body)) :=
 .r 1 ((report_build_km r l bill day).c) fun x1 =>
 .fin x1.used
noncomputable def report_Used r l bill day := (report_Used_sk r l bill day).val
theorem report_Used_ok (r : Realm) (l : List Arrival) (bill : Int) (day : Int) (hi : ∀ a, a ∈ l → a.report.I64) (h_r_Small : r.Small) : (report_Used_sk r l bill day).obs (fun _ => True) := by
  simp only [File.Small, Realm.Small] at h_r_Small
  unfold report_Used_sk
  try simp only [report_build_km, File.Small, Realm.Small]
  exact okD

noncomputable def report_Used_k r l bill day := kk tok mixed Tryz.func34 [av r.cells, lv Arrival.cells l, iv bill, iv day] (fun x => lv Body.cells x) false (report_Used_sk r l bill day) (report_Used r l bill day) (u2 (report_Used_ok r l bill day))
noncomputable def allongeref50_SameBodies_sk (a : List Body) (b : List Body) : Sk (Bool) :=
 .br (((a.length : Nat) : Int) != ((b.length : Nat) : Int))
 (.fin false)
 (.bt
 (.loop (default : Sum (Bool) (Unit)) (fun i2 => i2 ≤ a.length) (fun i2 => a.length - i2) (0 : Nat)
 (fun (i2 : Nat) => ⟨[(5, iv ((i2 : Nat) : Int))], []⟩) fun i2 =>
 .lt 0 0 i2 a.length
 (.r 6 (.andl (.p (ixP ((i2 : Nat) : Int) a.length)) (.p (ixP ((i2 : Nat) : Int) b.length))) fun _ =>
 .br (!(eqCs (Body.cells (a.getD i2 default)) (Body.cells (b.getD i2 default))))
 (.fin (.inl (.inl false)))
 (.nx 5 5 i2 (i2 + 1)))
 (.fin (.inl (.inr ()))))
 (fun (_ : Unit) => ⟨[], []⟩) fun _ =>
 .fin true)
noncomputable def allongeref50_SameBodies a b := (allongeref50_SameBodies_sk a b).val
theorem allongeref50_SameBodies_ok (a : List Body) (b : List Body) : (allongeref50_SameBodies_sk a b).obs (fun _ => True) := by
  unfold allongeref50_SameBodies_sk
  exact okD

noncomputable def allongeref50_SameBodies_k a b := kk tok mixed Tryz.func33 [lv Body.cells a, lv Body.cells b] (fun x => bv x) true (allongeref50_SameBodies_sk a b) (allongeref50_SameBodies a b) (u0 (allongeref50_SameBodies_ok a b))
noncomputable def allongelaw50_same_sk (r : Realm) (a : List Arrival) (b : List Arrival) (bill : Int) (day : Int) : Sk (Bool) :=
 .r 1 ((report_File_k r a bill day).c) fun x1 =>
 .r 2 ((report_File_k r b bill day).c) fun x2 =>
 .r 3 (.dep ((report_Known_k a day).c) fun x3 => .dep ((report_Known_k b day).c) fun x4 => .dep ((allongeref50_SameReports_k x3 x4).c) fun x5 => .dep (.wh (!x5) false ((report_Liars_k a day).c)) fun x6 => .dep (.wh (!x5) false ((report_Liars_k b day).c)) fun x7 => .wh (!x5) false ((allongeref15_Same_k x6 x7).c)) fun p14 =>
 .br ((!p14.2.2.1) || (!p14.2.2.2.2.2))
 (.fin false)
 (.r 5 (.dep (.wh (x1.2 == x2.2) true ((allongeref14_Same_k x1.1 x2.1).c)) fun x9 => .dep (.wh ((x1.2 == x2.2) && x9) true ((report_Used_k r a bill day).c)) fun x10 => .dep (.wh ((x1.2 == x2.2) && x9) true ((report_Used_k r b bill day).c)) fun x11 => .wh ((x1.2 == x2.2) && x9) true ((allongeref50_SameBodies_k x10 x11).c)) fun p13 =>
 .fin (((x1.2 == x2.2) && p13.1) && p13.2.2.2))
noncomputable def allongelaw50_same r a b bill day := (allongelaw50_same_sk r a b bill day).val
theorem allongelaw50_same_ok (r : Realm) (a : List Arrival) (b : List Arrival) (bill : Int) (day : Int) (hr : r.Small) (ha : ∀ x, x ∈ a → x.report.I64) (hb : ∀ x, x ∈ b → x.report.I64) : (allongelaw50_same_sk r a b bill day).obs (fun _ => True) := by
  unfold allongelaw50_same_sk
  refine ⟨⟨ha, hr⟩, fun x1 _ _ => ⟨⟨hb, hr⟩, fun x2 _ _ => ⟨?_, fun p14 _ _ => ⟨fun _ => trivial, fun _ => ⟨?_, fun p13 _ _ => trivial⟩⟩⟩⟩⟩
  · exact ⟨ha, fun _ _ _ => ⟨hb, fun _ _ _ => ⟨trivial, fun _ _ _ => ⟨fun _ => trivial, fun _ _ _ => ⟨fun _ => trivial, fun _ _ _ => fun _ => trivial⟩⟩⟩⟩⟩
  · exact ⟨fun _ => trivial, fun _ _ _ => ⟨fun _ => ⟨ha, hr⟩, fun _ _ _ => ⟨fun _ => ⟨hb, hr⟩, fun _ _ _ => fun _ => trivial⟩⟩⟩

noncomputable def allongelaw50_same_k r a b bill day := kk tok mixed Tryz.func35 [av r.cells, lv Arrival.cells a, lv Arrival.cells b, iv bill, iv day] (fun x => bv x) true (allongelaw50_same_sk r a b bill day) (allongelaw50_same r a b bill day) (u3 (allongelaw50_same_ok r a b bill day))
/-! equal lists are the same -/
theorem eqCs_rep (x : Report) : eqCs (Report.cells x) (Report.cells x) = true := eqRp.2 rfl
theorem eqCs_body (x : Body) : eqCs (Body.cells x) (Body.cells x) = true := eqCs_rfl rfl
theorem SameReports_refl (l : List Report) : allongeref50_SameReports l l = true := by
  have hne : (((l.length : Nat) : Int) != ((l.length : Nat) : Int)) = false := bne_self_eq_false _
  simp only [allongeref50_SameReports, allongeref50_SameReports_sk, Sk.val_br, Sk.val_bind, Sk.val_loop, Sk.val_fin]
  rw [hne, cond_false]
  refine (pick_iter_walk l (fun (s : Unit) i => i) (fun x (_ : Unit) => (.inr () : Bool ⊕ Unit)) id _ (fun s i hi => ?_) (fun s => ?_) (by simp) ()).trans ?_
  · simp only [Sk.val_bnd, Sk.val_br, Sk.val_r, Sk.val_wi, Sk.val_fin, eqCs_rep, Bool.not_true, cond_false]
    rw [decide_eq_true (by omega), cond_true]
  · simp only [Sk.val_bnd, Sk.val_br, Sk.val_r, Sk.val_wi, Sk.val_fin]
    rw [decide_eq_false (by omega), cond_false]
  · rw [walk_fold]
theorem SameBodies_refl (l : List Body) : allongeref50_SameBodies l l = true := by
  have hne : (((l.length : Nat) : Int) != ((l.length : Nat) : Int)) = false := bne_self_eq_false _
  simp only [allongeref50_SameBodies, allongeref50_SameBodies_sk, Sk.val_br, Sk.val_bind, Sk.val_loop, Sk.val_fin]
  rw [hne, cond_false]
  refine (pick_iter_walk l (fun (s : Unit) i => i) (fun x (_ : Unit) => (.inr () : Bool ⊕ Unit)) id _ (fun s i hi => ?_) (fun s => ?_) (by simp) ()).trans ?_
  · simp only [Sk.val_bnd, Sk.val_br, Sk.val_r, Sk.val_wi, Sk.val_fin, eqCs_body, Bool.not_true, cond_false]
    rw [decide_eq_true (by omega), cond_true]
  · simp only [Sk.val_bnd, Sk.val_br, Sk.val_r, Sk.val_wi, Sk.val_fin]
    rw [decide_eq_false (by omega), cond_false]
  · rw [walk_fold]
theorem Same15_refl (l : List Int) : allongeref15_Same l l = true := (allongeref15_Same_post l l) rfl
theorem Same14_refl (f : File) : allongeref14_Same f f = true := (allongeref14_Same_post f f) rfl
/-- the file depends on what is known -/
theorem r_val_congr {α β : Type} {i : Nat} {c c' : Cal β} {k : β → Sk α} (h : c.v = c'.v) : (Sk.r i c k).val = (Sk.r i c' k).val := by rw [Sk.val_r, Sk.val_r, h]
theorem stated_congr {l l' : List Arrival} {bill day day' : Int} (h : report_Known l day = report_Known l' day') : report_stated l bill day = report_stated l' bill day' := by
  unfold report_stated report_stated_sk
  simp only [Sk.val_r]
  have h' : (report_Known_k l day).c.v = (report_Known_k l' day').c.v := h
  generalize (report_Known_k l day).c.v = K at h' ⊢
  generalize (report_Known_k l' day').c.v = K' at h' ⊢
  subst h'
  rfl
theorem build_congr {r : Realm} {l l' : List Arrival} {bill day day' : Int} (h : report_Known l day = report_Known l' day') : report_build r l bill day = report_build r l' bill day' := by
  unfold report_build report_build_sk
  exact r_val_congr (c := (report_stated_km l bill day).c) (c' := (report_stated_km l' bill day').c) (stated_congr h)
theorem File_congr {r : Realm} {l l' : List Arrival} {bill day day' : Int} (h : report_Known l day = report_Known l' day') : report_File r l bill day = report_File r l' bill day' := by
  have e : ∀ l d, report_File r l bill d = ((report_build r l bill d).file, decide ((((report_build r l bill d).used.length : Nat) : Int) > 0)) := fun _ _ => rfl
  rw [e, e, build_congr h]
theorem Used_congr {r : Realm} {l l' : List Arrival} {bill day day' : Int} (h : report_Known l day = report_Known l' day') : report_Used r l bill day = report_Used r l' bill day' := by
  have e : ∀ l d, report_Used r l bill d = (report_build r l bill d).used := fun _ _ => rfl
  rw [e, e, build_congr h]
theorem same_eq (r : Realm) (a b : List Arrival) (bill day : Int) : allongelaw50_same r a b bill day = bif (!(allongeref50_SameReports (report_Known a day) (report_Known b day))) || (!(allongeref15_Same (report_Liars a day) (report_Liars b day))) then false else (((report_File r a bill day).2 == (report_File r b bill day).2) && allongeref14_Same (report_File r a bill day).1 (report_File r b bill day).1) && allongeref50_SameBodies (report_Used r a bill day) (report_Used r b bill day) := by kernel_rfl
/-- lists in which the same reports are agreed say the same -/
theorem same_true {r : Realm} {a b : List Arrival} {bill day : Int} (ha : a.length ≤ 1200) (hb : b.length ≤ 1200) (hi : ∀ x, x ∈ a → x.report.I64) (hj : ∀ x, x ∈ b → x.report.I64) (h : (agreedL a day).Perm (agreedL b day)) : allongelaw50_same r a b bill day = true := by
  have hk : report_Known a day = report_Known b day := by rw [report_Known_of ha hi, report_Known_of hb hj, knownL_congr h hi]
  rw [same_eq, File_congr hk, Used_congr hk, hk, Liars_congr ha hb h, SameReports_refl, Same15_refl, Same14_refl, SameBodies_refl, beq_self_eq_true]
  rfl
theorem okI_of {n : Int} (h : in64w n) : okI (dI n) = true := decide_eq_true h
theorem list_getD {l : List Int} {n : Nat} (h : l.length = n) : (List.range n).map (fun i => l.getD i default) = l := by
  subst h
  refine List.ext_getElem (by simp) (fun i h1 h2 => by simp [List.getD, h2])
/-- a body from its numbers -/
theorem body_eq (k bi ix : Int) (l : List Int) : report_body k bi ix l = bif ((decide (k < 0)) || (decide (k ≥ 5))) || (((l.length : Nat) : Int) != (((report_numbers { (default : Body) with kind := k, bill := bi, index := ix }).length : Nat) : Int)) then (default, false) else
    bif k == 0 then ({ (default : Body) with kind := k, bill := bi, index := ix, paper := ⟨l.getD 0 default, l.getD 1 default, l.getD 2 default, l.getD 3 default, l.getD 4 default, ⟨l.getD 5 default, l.getD 6 default, l.getD 7 default⟩, l.getD 8 default, l.getD 9 default, l.getD 10 default, l.getD 11 default, l.getD 12 default, l.getD 13 default, l.getD 14 default⟩, sign := { (default : Sign) with flags := l.getD 15 default } }, true)
    else bif k == 1 then ({ (default : Body) with kind := k, bill := bi, index := ix, sign := ⟨l.getD 0 default, l.getD 1 default, l.getD 2 default, l.getD 3 default, l.getD 4 default, l.getD 5 default, l.getD 6 default, l.getD 7 default, l.getD 8 default⟩ }, true)
    else bif k == 2 then ({ (default : Body) with kind := k, bill := bi, index := ix, act := ⟨l.getD 0 default, l.getD 1 default, l.getD 2 default, l.getD 3 default, l.getD 4 default, l.getD 5 default, l.getD 6 default, l.getD 7 default, l.getD 8 default⟩ }, true)
    else bif k == 3 then ({ (default : Body) with kind := k, bill := bi, index := ix, alter := ⟨l.getD 0 default, l.getD 1 default⟩ }, true)
    else ({ (default : Body) with kind := k, bill := bi, index := ix, fact := ⟨l.getD 0 default, l.getD 1 default, l.getD 2 default⟩ }, true) := rfl
def numN (k : Int) : Nat := bif k == 0 then 16 else bif k == 1 then 9 else bif k == 2 then 9 else bif k == 3 then 2 else 3
theorem numL_n (b : Body) : (numL b).length = numN b.kind := by
  unfold numL numN
  cases b.kind == 0 <;> cases b.kind == 1 <;> cases b.kind == 2 <;> cases b.kind == 3 <;> rfl
theorem body_two {k bi ix : Int} {l : List Int} : (report_body k bi ix l).2 = true ↔ (0 ≤ k ∧ k < 5) ∧ l.length = numN k := by
  have hn := report_numbers_post { (default : Body) with kind := k, bill := bi, index := ix }
  dsimp only at hn
  have hl := numL_n { (default : Body) with kind := k, bill := bi, index := ix }
  rw [body_eq, hn, hl]
  cases hc : (((decide (k < 0)) || (decide (k ≥ 5))) || (((l.length : Nat) : Int) != ((numN k : Nat) : Int))) with
  | true =>
    simp only [cond_true, Bool.false_eq_true, false_iff]
    simp only [Bool.or_eq_true, decide_eq_true_eq, bne_iff_ne, ne_eq] at hc
    omega
  | false =>
    simp only [Bool.or_eq_false_iff, decide_eq_false_iff_not, bne_eq_false_iff_eq] at hc
    have : (0 ≤ k ∧ k < 5) ∧ l.length = numN k := by omega
    simp only [this, and_self, iff_true, cond_false]
    cases k == 0 <;> cases k == 1 <;> cases k == 2 <;> cases k == 3 <;> rfl
theorem body_one {k bi ix : Int} {l : List Int} (h : (report_body k bi ix l).2 = true) : (report_body k bi ix l).1.kind = k ∧ (report_body k bi ix l).1.bill = bi ∧ (report_body k bi ix l).1.index = ix ∧ numL (report_body k bi ix l).1 = l ∧ ((∀ n ∈ l, in64w n) → in64w k → in64w bi → in64w ix → (report_body k bi ix l).1.I64) := by
  obtain ⟨hk, hl⟩ := body_two.1 h
  have hn := report_numbers_post { (default : Body) with kind := k, bill := bi, index := ix }
  dsimp only at hn
  have hl2 := numL_n { (default : Body) with kind := k, bill := bi, index := ix }
  have hc : (((decide (k < 0)) || (decide (k ≥ 5))) || (((l.length : Nat) : Int) != ((numN k : Nat) : Int))) = false := by
    simp only [Bool.or_eq_false_iff, decide_eq_false_iff_not, bne_eq_false_iff_eq]
    omega
  rw [body_eq, hn, hl2, hc]
  have hg : (∀ n ∈ l, in64w n) → ∀ j, okI (dI (l.getD j default)) = true := fun hi j => by
    rw [okI_dI, decide_eq_true_eq]
    by_cases hj : j < l.length
    · exact hi _ (lget_mem hj default)
    · have : l.getD j default = 0 := by simp [List.getD, hj]
      rw [this]
      decide
  have h0 : okI (dI 0) = true := by decide
  have hd : okI (dI default) = true := by decide
  unfold numN at hl
  cases h0k : k == 0 with
  | true =>
    rw [h0k] at hl
    refine ⟨rfl, rfl, rfl, ?_, fun hi hk hb hx => ?_⟩
    · have := list_getD (l := l) (n := 16) hl
      show numL _ = l
      unfold numL
      simp only [cond_false, cond_true, h0k]
      exact this
    · simp only [cond_false, cond_true, Body.I64, Body.cells, Bill.cells, Tenor.cells, Sign.cells, ActX.cells, Alter.cells, Fact.cells, List.all_append, List.all_cons, List.all_nil, hg hi, okI_of hk, okI_of hb, okI_of hx, Bool.and_true, Bool.true_and]
      rfl
  | false =>
    cases h1k : k == 1 with
    | true =>
      rw [h0k, h1k] at hl
      refine ⟨rfl, rfl, rfl, ?_, fun hi hk hb hx => ?_⟩
      · have := list_getD (l := l) (n := 9) hl
        show numL _ = l
        unfold numL
        simp only [cond_false, cond_true, h0k, h1k]
        exact this
      · simp only [cond_false, cond_true, Body.I64, Body.cells, Bill.cells, Tenor.cells, Sign.cells, ActX.cells, Alter.cells, Fact.cells, List.all_append, List.all_cons, List.all_nil, hg hi, okI_of hk, okI_of hb, okI_of hx, Bool.and_true, Bool.true_and]
        rfl
    | false =>
      cases h2k : k == 2 with
      | true =>
        rw [h0k, h1k, h2k] at hl
        refine ⟨rfl, rfl, rfl, ?_, fun hi hk hb hx => ?_⟩
        · have := list_getD (l := l) (n := 9) hl
          show numL _ = l
          unfold numL
          simp only [cond_false, cond_true, h0k, h1k, h2k]
          exact this
        · simp only [cond_false, cond_true, Body.I64, Body.cells, Bill.cells, Tenor.cells, Sign.cells, ActX.cells, Alter.cells, Fact.cells, List.all_append, List.all_cons, List.all_nil, hg hi, okI_of hk, okI_of hb, okI_of hx, Bool.and_true, Bool.true_and]
          rfl
      | false =>
        cases h3k : k == 3 with
        | true =>
          rw [h0k, h1k, h2k, h3k] at hl
          refine ⟨rfl, rfl, rfl, ?_, fun hi hk hb hx => ?_⟩
          · have := list_getD (l := l) (n := 2) hl
            show numL _ = l
            unfold numL
            simp only [cond_false, cond_true, h0k, h1k, h2k, h3k]
            exact this
          · simp only [cond_false, cond_true, Body.I64, Body.cells, Bill.cells, Tenor.cells, Sign.cells, ActX.cells, Alter.cells, Fact.cells, List.all_append, List.all_cons, List.all_nil, hg hi, okI_of hk, okI_of hb, okI_of hx, Bool.and_true, Bool.true_and]
            rfl
        | false =>
          rw [h0k, h1k, h2k, h3k] at hl
          refine ⟨rfl, rfl, rfl, ?_, fun hi hk hb hx => ?_⟩
          · have := list_getD (l := l) (n := 3) hl
            show numL _ = l
            unfold numL
            simp only [cond_false, h0k, h1k, h2k, h3k]
            exact this
          · simp only [cond_false, Body.I64, Body.cells, Bill.cells, Tenor.cells, Sign.cells, ActX.cells, Alter.cells, Fact.cells, List.all_append, List.all_cons, List.all_nil, hg hi, okI_of hk, okI_of hb, okI_of hx, Bool.and_true, Bool.true_and]
            rfl
noncomputable abbrev zeroR : Report := default
theorem read_eq (s : ByteArray) : report_Read s = bif (((!(wire_ReadInts s).2.2) || (!((wire_ReadInts s).2.1.toList == (⟨#[]⟩ : ByteArray).toList))) || (decide ((((wire_ReadInts s).1.length : Nat) : Int) < 6))) then (zeroR, false) else
    bif (!(report_body ((wire_ReadInts s).1.getD 3 default) ((wire_ReadInts s).1.getD 4 default) ((wire_ReadInts s).1.getD 5 default) (subL (wire_ReadInts s).1 6 ((wire_ReadInts s).1.length - 6))).2) || (!(report_Right ({ reporter := (wire_ReadInts s).1.getD 0 default, no := (wire_ReadInts s).1.getD 1 default, day := (wire_ReadInts s).1.getD 2 default, body := (report_body ((wire_ReadInts s).1.getD 3 default) ((wire_ReadInts s).1.getD 4 default) ((wire_ReadInts s).1.getD 5 default) (subL (wire_ReadInts s).1 6 ((wire_ReadInts s).1.length - 6))).1 } : Report))) then (zeroR, false) else
    (({ reporter := (wire_ReadInts s).1.getD 0 default, no := (wire_ReadInts s).1.getD 1 default, day := (wire_ReadInts s).1.getD 2 default, body := (report_body ((wire_ReadInts s).1.getD 3 default) ((wire_ReadInts s).1.getD 4 default) ((wire_ReadInts s).1.getD 5 default) (subL (wire_ReadInts s).1 6 ((wire_ReadInts s).1.length - 6))).1 } : Report), true) := by
  unfold report_Read report_Read_sk
  simp only [Sk.val_br, Sk.val_r]
  rfl
theorem sub6 {l : List Int} (h : 6 ≤ l.length) : l = [l.getD 0 default, l.getD 1 default, l.getD 2 default, l.getD 3 default, l.getD 4 default, l.getD 5 default] ++ subL l 6 (l.length - 6) := by
  refine List.ext_getElem (by simp [subL]; omega) (fun i h1 h2 => ?_)
  by_cases c : i < 6
  · have : i = 0 ∨ i = 1 ∨ i = 2 ∨ i = 3 ∨ i = 4 ∨ i = 5 := by omega
    rcases this with rfl | rfl | rfl | rfl | rfl | rfl <;> simp [List.getD, h1]
  · rw [List.getElem_append_right (by simp; omega)]
    simp [subL, List.getD]
    rw [List.getElem?_eq_getElem (by omega)]
    simp
    congr 1
    omega
theorem subL_6 (a b c d e f : Int) (r : List Int) : subL ([a, b, c, d, e, f] ++ r) 6 (([a, b, c, d, e, f] ++ r).length - 6) = r := by
  refine List.ext_getElem (by simp [subL]) (fun i h1 h2 => ?_)
  simp only [subL, List.getElem_map, List.getElem_range]
  rw [Nat.add_comm 6 i]
  simp [List.getD, h2]
theorem right_kind {x : Report} (h : report_Right x = true) : 0 ≤ x.body.kind ∧ x.body.kind < 5 := by
  have e : report_Right x = bif (((((!report_within x.reporter 200) || (!report_within x.no 10000)) || (!report_within x.day 100001)) || (!report_within x.body.kind 5)) || (!report_within x.body.bill 50)) then false else bif !(eqCs (Body.cells (report_body x.body.kind x.body.bill x.body.index (report_numbers x.body)).1) (Body.cells x.body)) then false else (bif x.body.kind == 0 then (x.body.index == 0) && (x.body.paper.day == x.day) else bif x.body.kind == 1 then ((decide (x.body.index > 0)) && (decide (x.body.index < 40))) && (x.body.sign.day == x.day) else bif x.body.kind == 2 then report_within x.body.index 100 && (x.body.act.day == x.day) else bif x.body.kind == 3 then report_within x.body.index 4 else x.body.index == 0) := rfl
  cases hw : report_within x.body.kind 5 with
  | false => rw [e, hw] at h; simp at h
  | true =>
    rw [report_within_eq] at hw
    simp only [Bool.and_eq_true, decide_eq_true_eq] at hw
    omega
theorem rep6 (x : Report) : 6 ≤ (repL x).length ∧ (repL x).getD 0 default = x.reporter ∧ (repL x).getD 1 default = x.no ∧ (repL x).getD 2 default = x.day ∧ (repL x).getD 3 default = x.body.kind ∧ (repL x).getD 4 default = x.body.bill ∧ (repL x).getD 5 default = x.body.index ∧ subL (repL x) 6 ((repL x).length - 6) = numL x.body :=
  ⟨by simp [repL], rfl, rfl, rfl, rfl, rfl, rfl, subL_6 _ _ _ _ _ _ _⟩
theorem text_size {x : Report} (h : x.I64) : (report_Text x).size ≤ 1000 := by
  cases hr : report_Right x with
  | false => rw [text_wrong hr]; exact Nat.zero_le _
  | true =>
    rw [text_right hr]
    have h1 := repL_I64 h
    have h2 := repL_len x
    have hf : ∀ (m : List Int), (∀ n ∈ m, in64w n) → (m.flatMap intL).length ≤ m.length * 21 := by
      intro m
      induction m with
      | nil => intro _; simp
      | cons a r ih =>
        intro h
        have h1 := intL_len a (h a (by simp)).1 (h a (by simp)).2
        have h2 := ih (fun n hn => h n (by simp [hn]))
        simp only [List.flatMap_cons, List.length_append, List.length_cons]
        omega
    have h3 := hf _ h1
    have h4 := intL_len (repL x).length (by omega) (by omega)
    show (intsL (repL x)).toArray.size ≤ 1000
    simp only [intsL, List.size_toArray, List.length_append]
    omega
/-- the text of a right report is read as its numbers -/
theorem ints_text {x : Report} (hx : x.I64) (hr : report_Right x = true) : wire_ReadInts (report_Text x) = (repL x, ⟨#[]⟩, true) := by
  have hs := text_size hx
  have hp := wire_ReadInts_post (report_Text x) (by omega)
  have h2 := repL_len x
  exact RdP.eq hp (r := []) (by omega) (repL_I64 hx) (by rw [List.append_nil]; exact rpT_right hr)
/-- and as this report -/
theorem read_text {x : Report} (hx : x.I64) (hr : report_Right x = true) : report_Read (report_Text x) = (x, true) := by
  obtain ⟨a1, a2, a3, a4, a5, a6, a7, a8⟩ := rep6 x
  have hb2 : (report_body x.body.kind x.body.bill x.body.index (numL x.body)).2 = true := body_two.2 ⟨right_kind hr, numL_n _⟩
  have hb1 := right_body hr
  rw [read_eq, ints_text hx hr]
  dsimp only
  rw [a2, a3, a4, a5, a6, a7, a8, ← hb1, hb2]
  have e : (⟨x.reporter, x.no, x.day, x.body⟩ : Report) = x := rfl
  rw [e, hr]
  have hl : decide ((((repL x).length : Nat) : Int) < 6) = false := by rw [decide_eq_false_iff_not]; omega
  rw [hl]
  simp
/-- what is read is right, and its text is what was read -/
theorem read_back {s : ByteArray} (hs : s.size ≤ 1000000) {a : Report} (h : report_Read s = (a, true)) : report_Right a = true ∧ rpT a = s.data.toList ∧ a.I64 ∧ s.data.toList ≠ [] := by
  have hp := wire_ReadInts_post s hs
  rw [read_eq] at h
  cases hc : (((!(wire_ReadInts s).2.2) || (!((wire_ReadInts s).2.1.toList == (⟨#[]⟩ : ByteArray).toList))) || (decide ((((wire_ReadInts s).1.length : Nat) : Int) < 6))) with
  | true => rw [hc] at h; simp at h
  | false =>
    rw [hc] at h
    simp only [Bool.or_eq_false_iff, Bool.not_eq_false', decide_eq_false_iff_not] at hc
    obtain ⟨⟨c1, c2⟩, c3⟩ := hc
    obtain ⟨q1, q2, q3⟩ := hp.1 c1
    have c2 : (wire_ReadInts s).2.1.data.toList = [] := by
      have := (beq_iff_eq.1 c2)
      simpa [ByteArray.toList_eq] using this
    generalize (wire_ReadInts s).1 = l at *
    have hl6 : 6 ≤ l.length := by omega
    have hl := sub6 hl6
    have hsub : ∀ n ∈ subL l 6 (l.length - 6), in64w n := fun n hn => q3 n (by rw [hl]; exact List.mem_append_right _ hn)
    generalize subL l 6 (l.length - 6) = r at *
    simp only [cond_false] at h
    cases hb : (report_body (l.getD 3 default) (l.getD 4 default) (l.getD 5 default) r).2 with
    | false => rw [hb] at h; simp at h
    | true =>
      rw [hb] at h
      cases hr : report_Right ({ reporter := l.getD 0 default, no := l.getD 1 default, day := l.getD 2 default, body := (report_body (l.getD 3 default) (l.getD 4 default) (l.getD 5 default) r).1 } : Report) with
      | false => rw [hr] at h; simp at h
      | true =>
        rw [hr] at h
        simp only [Bool.not_true, Bool.or_self, cond_false, Prod.mk.injEq, and_true] at h
        subst h
        obtain ⟨b1, b2, b3, b4, b5⟩ := body_one hb
        have hg : ∀ j, j < 6 → in64w (l.getD j default) := fun j hj => q3 _ (lget_mem (by omega) default)
        have hrep : repL ({ reporter := l.getD 0 default, no := l.getD 1 default, day := l.getD 2 default, body := (report_body (l.getD 3 default) (l.getD 4 default) (l.getD 5 default) r).1 } : Report) = l := by
          unfold repL
          dsimp only
          rw [b1, b2, b3, b4]
          exact hl.symm
        refine ⟨hr, ?_, ?_, ?_⟩
        · rw [rpT_right hr, hrep, q1, c2, List.append_nil]
        · have hbI := b5 hsub (hg 3 (by omega)) (hg 4 (by omega)) (hg 5 (by omega))
          unfold Report.I64 Report.cells
          rw [List.all_append, Bool.and_eq_true]
          refine ⟨?_, hbI⟩
          simp only [List.all_cons, List.all_nil, okI_of (hg 0 (by omega)), okI_of (hg 1 (by omega)), okI_of (hg 2 (by omega)), Bool.and_true]
        · rw [q1]
          intro e
          have := congrArg List.length e
          have h2 := intL_two l.length
          simp only [intsL, List.length_append, List.length_nil] at this
          omega
theorem sortRp_nil : sortRp [] = [] := by
  have := sortRp_perm (l := []) (fun s hs => by cases hs)
  exact List.perm_nil.1 this
theorem sortRp_one {x : Report} (h : x.I64) : sortRp [x] = [x] := by
  have := sortRp_perm (l := [x]) (fun s hs => by rw [List.mem_singleton.1 hs]; exact h)
  exact List.perm_singleton.1 this
theorem lied_no {L : List Report} {r : Int} (h : ∀ c, cnt L r c ≤ 1) : lied L r = false := by
  unfold lied
  exact @decide_eq_false _ (Classical.propDecidable _) (fun ⟨c, hc⟩ => by have := h c; omega)
theorem lied_yes {L : List Report} {r c : Int} (h : 2 ≤ cnt L r c) : lied L r = true := by
  unfold lied
  exact @decide_eq_true _ (Classical.propDecidable _) ⟨c, h⟩
theorem cnt_cons (x : Report) (L : List Report) (a c : Int) : cnt (x :: L) a c = cnt L a c + bif x.reporter == a && x.no == c then 1 else 0 := by
  unfold cnt
  rw [List.countP_cons]
  cases (x.reporter == a && x.no == c) <;> rfl
theorem sane_known9 : report_Known sL 9 = [allongelaw50_fact 0 1 1] := by
  rw [report_Known_of (by decide) sL_I64]
  unfold knownL
  have e : agreedL sL 9 = [allongelaw50_fact 0 1 1] := rfl
  rw [e]
  have h : lied [allongelaw50_fact 0 1 1] (allongelaw50_fact 0 1 1).reporter = false := lied_no fun c => by
    rw [cnt_cons]
    show 0 + _ ≤ 1
    cases ((allongelaw50_fact 0 1 1).reporter == (allongelaw50_fact 0 1 1).reporter && (allongelaw50_fact 0 1 1).no == c) <;> decide
  simp only [List.filter_cons, h, Bool.not_false, if_true, List.filter_nil]
  exact sortRp_one (fact_I64' _ _ _ rfl)
theorem sane_known10 : (report_Known sL 10).length = 2 := by
  rw [report_Known_of (by decide) sL_I64]
  unfold knownL
  have e : agreedL sL 10 = [allongelaw50_fact 0 1 1, allongelaw50_fact 2 1 1] := rfl
  rw [e]
  have h : ∀ r, lied [allongelaw50_fact 0 1 1, allongelaw50_fact 2 1 1] r = false := fun r => lied_no fun c => by
    rw [cnt_cons, cnt_cons]
    show 0 + (bif ((2 : Int) == r) && ((1 : Int) == c) then 1 else 0) + (bif ((0 : Int) == r) && ((1 : Int) == c) then 1 else 0) ≤ 1
    by_cases h0 : (0 : Int) = r
    · have h2 : ((2 : Int) == r) = false := by rw [← h0]; rfl
      rw [h2]
      cases (((0 : Int) == r) && ((1 : Int) == c)) <;> simp
    · have h2 : ((0 : Int) == r) = false := by simpa using h0
      rw [h2]
      cases (((2 : Int) == r) && ((1 : Int) == c)) <;> simp
  simp only [List.filter_cons, h, Bool.not_false, if_true, List.filter_nil]
  have hI : ∀ s, s ∈ [allongelaw50_fact 0 1 1, allongelaw50_fact 2 1 1] → s.I64 := fun s hs => by
    simp only [List.mem_cons, List.not_mem_nil, or_false] at hs
    rcases hs with rfl | rfl <;> exact fact_I64' _ _ _ rfl
  exact (sortRp_perm hI).length_eq
theorem sane_known8 : (report_Known sL 8).length = 0 := by
  rw [report_Known_of (by decide) sL_I64]
  unfold knownL
  have e : agreedL sL 8 = [] := rfl
  rw [e]
  show (sortRp []).length = 0
  rw [sortRp_nil]
  rfl
theorem sane_knownT : (report_Known sT 9).length = 0 := by
  rw [report_Known_of (by decide) sT_I64]
  unfold knownL
  have e : agreedL sT 9 = [allongelaw50_fact 0 1 1, allongelaw50_fact 0 1 0] := rfl
  rw [e]
  have h : lied [allongelaw50_fact 0 1 1, allongelaw50_fact 0 1 0] 0 = true := lied_yes (c := 1) (by decide)
  have h1 : lied [allongelaw50_fact 0 1 1, allongelaw50_fact 0 1 0] (allongelaw50_fact 0 1 1).reporter = true := h
  have h2 : lied [allongelaw50_fact 0 1 1, allongelaw50_fact 0 1 0] (allongelaw50_fact 0 1 0).reporter = true := h
  simp only [List.filter_cons, h1, h2, Bool.not_true, Bool.false_eq_true, if_false, List.filter_nil]
  rw [sortRp_nil]
  rfl
theorem sane_liarsT : report_Liars sT 9 = [0] := by
  have e : agreedL sT 9 = [allongelaw50_fact 0 1 1, allongelaw50_fact 0 1 0] := rfl
  have hq : liarQ (agreedL sT 9) [(0, true)] := by
    rw [e]
    refine ⟨by simp, by simp, fun r => ?_⟩
    constructor
    · intro hr
      simp at hr
      subst hr
      exact ⟨1, by decide⟩
    · rintro ⟨c, hc⟩
      rw [cnt_cons, cnt_cons] at hc
      have hc : 2 ≤ 0 + (bif ((0 : Int) == r) && ((1 : Int) == c) then 1 else 0) + (bif ((0 : Int) == r) && ((1 : Int) == c) then 1 else 0) := hc
      cases h0 : ((0 : Int) == r) with
      | true => simp at h0; simp [h0]
      | false => rw [h0] at hc; simp at hc
  rw [report_Liars_of (by decide) hq]
  simp [sortI]
theorem sane_liarsL : report_Liars sL 9 = [] := by
  have e : agreedL sL 9 = [allongelaw50_fact 0 1 1] := rfl
  have hq : liarQ (agreedL sL 9) [] := by
    rw [e]
    refine ⟨by simp, by simp, fun r => ?_⟩
    constructor
    · intro hr
      cases hr
    · rintro ⟨c, hc⟩
      rw [cnt_cons] at hc
      have hc : 2 ≤ 0 + (bif ((0 : Int) == r) && ((1 : Int) == c) then 1 else 0) := hc
      cases h0 : (((0 : Int) == r) && ((1 : Int) == c)) <;> rw [h0] at hc <;> simp at hc
  rw [report_Liars_of (by decide) hq]
  simp [sortI]
theorem sane_read : report_Read (report_Text (allongelaw50_fact 0 1 1)) = (allongelaw50_fact 0 1 1, true) := read_text (fact_I64' _ _ _ rfl) rfl
theorem sane_bad : (report_Read (report_Text (allongelaw50_fact 0 1 1) ++ (⟨#[48, 59]⟩ : ByteArray))).2 = false := by
  have hA : (allongelaw50_fact 0 1 1).I64 := fact_I64' _ _ _ rfl
  have hr : report_Right (allongelaw50_fact 0 1 1) = true := rfl
  cases h : (report_Read (report_Text (allongelaw50_fact 0 1 1) ++ (⟨#[48, 59]⟩ : ByteArray))).2 with
  | false => rfl
  | true =>
    have hs : (report_Text (allongelaw50_fact 0 1 1) ++ (⟨#[48, 59]⟩ : ByteArray)).size ≤ 1000000 := by rw [fact_text]; exact (by decide : (22 : Nat) ≤ 1000000)
    obtain ⟨h1, h2, h3, -⟩ := read_back hs (a := (report_Read (report_Text (allongelaw50_fact 0 1 1) ++ (⟨#[48, 59]⟩ : ByteArray))).1) (by rw [← h])
    generalize (report_Read (report_Text (allongelaw50_fact 0 1 1) ++ (⟨#[48, 59]⟩ : ByteArray))).1 = a at *
    have e : (report_Text (allongelaw50_fact 0 1 1) ++ (⟨#[48, 59]⟩ : ByteArray)).data.toList = rpT (allongelaw50_fact 0 1 1) ++ [48, 59] := by simp [rpT]
    rw [e, rpT_right h1, rpT_right hr] at h2
    have l1 := repL_len a
    have l2 := repL_len (allongelaw50_fact 0 1 1)
    have := (intsL_inj (t := []) (u := [48, 59]) (by omega) (by omega) (repL_I64 h3) (repL_I64 hA) (by rw [List.append_nil]; exact h2)).2
    cases this
theorem sane_true : allongelaw50_sane = true := by
  have e : allongelaw50_sane = (((((((((((allongeref50_SameReports (report_Known sL 9) [allongelaw50_fact 0 1 1]) && ((((report_Known sL 10).length : Nat) : Int) == 2)) && ((((report_Known sL 8).length : Nat) : Int) == 0)) && ((((((report_Known sT 9).length : Nat) : Int) == 0) && allongeref15_Same (report_Liars sT 9) [0]) && ((((report_Liars sL 9).length : Nat) : Int) == 0))) && (report_Read (report_Text (allongelaw50_fact 0 1 1))).2) && (eqCs (Report.cells (report_Read (report_Text (allongelaw50_fact 0 1 1))).1) (Report.cells (allongelaw50_fact 0 1 1)))) && (!(report_Read (report_Text (allongelaw50_fact 0 1 1) ++ (⟨#[48, 59]⟩ : ByteArray))).2)) && report_Right (allongelaw50_fact 0 1 1)) && ((report_Text (allongelaw50_fact 0 1 1)).toList == (⟨#[57, 59, 48, 59, 49, 59, 53, 59, 52, 59, 51, 59, 48, 59, 48, 59, 49, 59, 49, 59]⟩ : ByteArray).toList)) && report_Convicts (allongelaw50_fact 0 1 1) (allongelaw50_fact 0 1 0)) && (!report_Convicts (allongelaw50_fact 0 1 1) (allongelaw50_fact 1 1 1))) := by
    unfold allongelaw50_sane allongelaw50_sane_sk
    simp only [Sk.val_r, Sk.val_fz]
    rfl
  rw [e, sane_known9, sane_known10, sane_known8, sane_knownT, sane_liarsT, sane_liarsL, sane_bad, sane_read, fact_text]
  have c1 : allongeref50_SameReports [allongelaw50_fact 0 1 1] [allongelaw50_fact 0 1 1] = true := rfl
  have c2 : allongeref15_Same [0] [0] = true := rfl
  have c3 : eqCs (Report.cells (allongelaw50_fact 0 1 1)) (Report.cells (allongelaw50_fact 0 1 1)) = true := rfl
  have c4 : report_Right (allongelaw50_fact 0 1 1) = true := rfl
  have c5 : report_Convicts (allongelaw50_fact 0 1 1) (allongelaw50_fact 0 1 0) = true := rfl
  have c6 : report_Convicts (allongelaw50_fact 0 1 1) (allongelaw50_fact 1 1 1) = false := rfl
  simp only [c1, c2, c3, c4, c5, c6, List.length_nil, Int.cast_ofNat_Int, beq_self_eq_true, Bool.and_self, Bool.not_false]
/-! the law of the order of arrivals -/
abbrev notOne (one : Int) (x : Arrival) : Bool := x.registry != one
abbrev asOne (one : Int) (x : Arrival) : Arrival := { x with registry := one }
theorem take_snoc {α : Type} [Inhabited α] {l : List α} {n : Nat} (h : n < l.length) : l.take (n + 1) = l.take n ++ [l.getD n default] := take_succ_gd h
noncomputable def allongelaw50_has_sk (l : List Int) (n : Int) : Sk (Bool) :=
 .bind true (fun b1 => ∀ q, q < l.length → l.getD q default ≠ n)
 (.loop (default : Sum (Bool) (Unit)) (fun i2 => i2 ≤ l.length ∧ ∀ q, q < i2 → l.getD q default ≠ n) (fun i2 => l.length - i2) (0 : Nat)
 (fun (i2 : Nat) => ⟨[(5, iv ((i2 : Nat) : Int))], []⟩) fun i2 =>
 .lt 0 0 i2 l.length
 (.r 4 (.p (ixP ((i2 : Nat) : Int) l.length)) fun _ =>
 .br ((l.getD i2 default) == n)
 (.fin (.inl (.inl true)))
 (.nx 3 5 i2 (i2 + 1)))
 (.fin (.inl (.inr ()))))
 (fun (_ : Unit) => ⟨[], []⟩) fun _ =>
 .fin false
noncomputable def allongelaw50_has l n := (allongelaw50_has_sk l n).val
theorem allongelaw50_has_pst (l : List Int) (n : Int) : (allongelaw50_has_sk l n).pst (fun (x : Bool) => (x = true ↔ n ∈ l)) := by
  unfold allongelaw50_has_sk
  have st : ∀ {i n : Nat}, decide ((i : Int) < (n : Int)) = true → i < n := fun h => by have h := of_decide_eq_true h; omega
  have sf : ∀ {i n : Nat}, decide ((i : Int) < (n : Int)) = false → n ≤ i := fun h => by have h := of_decide_eq_false h; omega
  refine ⟨⟨⟨Nat.zero_le _, fun q hq => absurd hq (Nat.not_lt_zero _)⟩, fun i hi => ⟨fun hc => ?_, fun hc q hq => hi.2 q (by have := sf hc; omega)⟩⟩, fun _ _ h => ?_⟩
  · have hc := st hc
    refine fun _ _ _ => ⟨fun hd => ?_, fun hd => fun _ _ _ => ⟨⟨by show i + 1 ≤ l.length; omega, fun q hq => ?_⟩, by show l.length - (i + 1) < l.length - i; omega⟩⟩
    · have hd : l.getD i default = n := by simpa using hd
      exact ⟨fun _ => hd ▸ lget_mem hc _, fun _ => rfl⟩
    · have hq : q < i + 1 := hq
      by_cases e : q = i
      · subst e
        intro h
        rw [h] at hd
        simp at hd
      · exact hi.2 q (by omega)
  · refine ⟨fun h => (by cases h), fun hm => ?_⟩
    obtain ⟨q, hq, e⟩ := List.getElem_of_mem hm
    exact absurd (by simp [List.getD, hq, e]) (h q hq)

theorem allongelaw50_has_post (l : List Int) (n : Int) : (fun (x : Bool) => (x = true ↔ n ∈ l)) (allongelaw50_has l n) := have h := Sk.pval _ (allongelaw50_has_pst l n); h
theorem allongelaw50_has_ok (l : List Int) (n : Int) : (allongelaw50_has_sk l n).obs (fun _ => True) := by
  unfold allongelaw50_has_sk
  have st : ∀ {i n : Nat}, decide ((i : Int) < (n : Int)) = true → i < n := fun h => by have h := of_decide_eq_true h; omega
  have sf : ∀ {i n : Nat}, decide ((i : Int) < (n : Int)) = false → n ≤ i := fun h => by have h := of_decide_eq_false h; omega
  refine ⟨⟨⟨Nat.zero_le _, fun q hq => absurd hq (Nat.not_lt_zero _)⟩, fun i hi hb => ⟨fun hc => ?_, fun hc q hq => hi.2 q (by have := sf hc; omega)⟩⟩, fun _ _ _ => trivial⟩
  have hc := st hc
  have hb : l.length ≤ 9223372036854775807 := hb
  refine ⟨⟨by omega, by omega⟩, fun _ _ _ => ⟨fun _ => trivial, fun hd => ⟨trivial, fun _ _ _ => ⟨(by rw [w64_id (by omega) (by omega)]; omega), ⟨by show i + 1 ≤ l.length; omega, fun q hq => ?_⟩, by show l.length - (i + 1) < l.length - i; omega⟩⟩⟩⟩
  have hq : q < i + 1 := hq
  by_cases e : q = i
  · subst e
    intro h
    rw [h] at hd
    simp at hd
  · exact hi.2 q (by omega)

noncomputable def allongelaw50_has_k l n := kp tok mixed Tryz.func37 [lv intC l, iv n] (fun x => bv x) true (allongelaw50_has l n) (u0 (allongelaw50_has_ok l n)) (allongelaw50_has_pst l n)
noncomputable def allongeref50_Has_sk (l : List Report) (x_ : Report) : Sk (Bool) :=
 .bind true (fun b1 => ∀ q, q < l.length → l.getD q default ≠ x_)
 (.loop (default : Sum (Bool) (Unit)) (fun i2 => i2 ≤ l.length ∧ ∀ q, q < i2 → l.getD q default ≠ x_) (fun i2 => l.length - i2) (0 : Nat)
 (fun (i2 : Nat) => ⟨[(5, iv ((i2 : Nat) : Int))], []⟩) fun i2 =>
 .lt 0 0 i2 l.length
 (.r 4 (.p (ixP ((i2 : Nat) : Int) l.length)) fun _ =>
 .br (eqCs (Report.cells (l.getD i2 default)) (Report.cells x_))
 (.fin (.inl (.inl true)))
 (.nx 3 5 i2 (i2 + 1)))
 (.fin (.inl (.inr ()))))
 (fun (_ : Unit) => ⟨[], []⟩) fun _ =>
 .fin false
noncomputable def allongeref50_Has l x_ := (allongeref50_Has_sk l x_).val
theorem allongeref50_Has_pst (l : List Report) (x_ : Report) : (allongeref50_Has_sk l x_).pst (fun (x : Bool) => (x = true ↔ x_ ∈ l)) := by
  unfold allongeref50_Has_sk
  have st : ∀ {i n : Nat}, decide ((i : Int) < (n : Int)) = true → i < n := fun h => by have h := of_decide_eq_true h; omega
  have sf : ∀ {i n : Nat}, decide ((i : Int) < (n : Int)) = false → n ≤ i := fun h => by have h := of_decide_eq_false h; omega
  refine ⟨⟨⟨Nat.zero_le _, fun q hq => absurd hq (Nat.not_lt_zero _)⟩, fun i hi => ⟨fun hc => ?_, fun hc q hq => hi.2 q (by have := sf hc; omega)⟩⟩, fun _ _ h => ?_⟩
  · have hc := st hc
    refine fun _ _ _ => ⟨fun hd => ?_, fun hd => fun _ _ _ => ⟨⟨by show i + 1 ≤ l.length; omega, fun q hq => ?_⟩, by show l.length - (i + 1) < l.length - i; omega⟩⟩
    · have hd : l.getD i default = x_ := eqRp.1 hd
      exact ⟨fun _ => hd ▸ lget_mem hc _, fun _ => rfl⟩
    · have hq : q < i + 1 := hq
      by_cases e : q = i
      · subst e
        intro h
        rw [h] at hd
        have h2 : eqCs (Report.cells x_) (Report.cells x_) = true := eqRp.2 rfl
        have hd' : eqCs (Report.cells x_) (Report.cells x_) = false := hd
        rw [h2] at hd'
        cases hd'
      · exact hi.2 q (by omega)
  · refine ⟨fun h => (by cases h), fun hm => ?_⟩
    obtain ⟨q, hq, e⟩ := List.getElem_of_mem hm
    exact absurd (by simp [List.getD, hq, e]) (h q hq)

theorem allongeref50_Has_post (l : List Report) (x_ : Report) : (fun (x : Bool) => (x = true ↔ x_ ∈ l)) (allongeref50_Has l x_) := have h := Sk.pval _ (allongeref50_Has_pst l x_); h
theorem allongeref50_Has_ok (l : List Report) (x_ : Report) : (allongeref50_Has_sk l x_).obs (fun _ => True) := by
  unfold allongeref50_Has_sk
  have st : ∀ {i n : Nat}, decide ((i : Int) < (n : Int)) = true → i < n := fun h => by have h := of_decide_eq_true h; omega
  have sf : ∀ {i n : Nat}, decide ((i : Int) < (n : Int)) = false → n ≤ i := fun h => by have h := of_decide_eq_false h; omega
  refine ⟨⟨⟨Nat.zero_le _, fun q hq => absurd hq (Nat.not_lt_zero _)⟩, fun i hi hb => ⟨fun hc => ?_, fun hc q hq => hi.2 q (by have := sf hc; omega)⟩⟩, fun _ _ _ => trivial⟩
  have hc := st hc
  have hb : l.length ≤ 9223372036854775807 := hb
  refine ⟨⟨by omega, by omega⟩, fun _ _ _ => ⟨fun _ => trivial, fun hd => ⟨trivial, fun _ _ _ => ⟨(by rw [w64_id (by omega) (by omega)]; omega), ⟨by show i + 1 ≤ l.length; omega, fun q hq => ?_⟩, by show l.length - (i + 1) < l.length - i; omega⟩⟩⟩⟩
  have hq : q < i + 1 := hq
  by_cases e : q = i
  · subst e
    intro h
    rw [h] at hd
    have h2 : eqCs (Report.cells x_) (Report.cells x_) = true := eqRp.2 rfl
    have hd' : eqCs (Report.cells x_) (Report.cells x_) = false := hd
    rw [h2] at hd'
    cases hd'
  · exact hi.2 q (by omega)

noncomputable def allongeref50_Has_k l x_ := kp tok mixed Tryz.func38 [lv Report.cells l, av x_.cells] (fun x => bv x) true (allongeref50_Has l x_) (u0 (allongeref50_Has_ok l x_)) (allongeref50_Has_pst l x_)
end Go.Proofs.YtihmmpaalpghbaaGreatDoor

