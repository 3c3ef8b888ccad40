/- Functions, as sketches. -/
import Derived.Test.YtihmmpaalpghbaaGreatDoorRv15
namespace Go.Proofs.YtihmmpaalpghbaaGreatDoor
open Go Go.Av
set_option linter.unusedSimpArgs false
set_option linter.unusedVariables false
set_option maxHeartbeats 1000000
set_option maxRecDepth 100000
noncomputable def allongeref14_Same_sk (a : File) (b : File) : Sk (Bool) :=
 .br (((((!(eqCs (Bill.cells a.bill) (Bill.cells b.bill))) || (((a.signs.length : Nat) : Int) != ((b.signs.length : Nat) : Int))) || (((a.alters.length : Nat) : Int) != ((b.alters.length : Nat) : Int))) || (((a.acts.length : Nat) : Int) != ((b.acts.length : Nat) : Int))) || (((a.facts.length : Nat) : Int) != ((b.facts.length : Nat) : Int)))
 (.fin false)
 (.bt
 (.loop (default : Sum (Bool) (Unit)) (fun i2 => i2 ≤ a.signs.length) (fun i2 => a.signs.length - i2) (0 : Nat)
 (fun (i2 : Nat) => ⟨[(5, iv ((i2 : Nat) : Int))], []⟩) fun i2 =>
 .lt 2 15 i2 a.signs.length
 (.r 6 (.andl (.p (ixP ((i2 : Nat) : Int) a.signs.length)) (.p (ixP ((i2 : Nat) : Int) b.signs.length))) fun _ =>
 .br (!((((a.signs.getD i2 default).kind) == ((b.signs.getD i2 default).kind)) && ((((a.signs.getD i2 default).part) == ((b.signs.getD i2 default).part)) && ((((a.signs.getD i2 default).who) == ((b.signs.getD i2 default).who)) && ((((a.signs.getD i2 default).for_) == ((b.signs.getD i2 default).for_)) && ((((a.signs.getD i2 default).to_) == ((b.signs.getD i2 default).to_)) && ((((a.signs.getD i2 default).sum) == ((b.signs.getD i2 default).sum)) && ((((a.signs.getD i2 default).day) == ((b.signs.getD i2 default).day)) && ((((a.signs.getD i2 default).city) == ((b.signs.getD i2 default).city)) && ((((a.signs.getD i2 default).flags) == ((b.signs.getD i2 default).flags)) && true))))))))))
 (.fin (.inl (.inl false)))
 (.nx 5 5 i2 (i2 + 1)))
 (.fin (.inl (.inr ()))))
 (fun (_ : Unit) => ⟨[], []⟩) fun _ =>
 .bt
 (.loop (default : Sum (Bool) (Unit)) (fun i4 => i4 ≤ a.alters.length) (fun i4 => a.alters.length - i4) (0 : Nat)
 (fun (i4 : Nat) => ⟨[(6, iv ((i4 : Nat) : Int))], []⟩) fun i4 =>
 .lt 2 16 i4 a.alters.length
 (.r 11 (.andl (.p (ixP ((i4 : Nat) : Int) a.alters.length)) (.p (ixP ((i4 : Nat) : Int) b.alters.length))) fun _ =>
 .br (!((((a.alters.getD i4 default).at_) == ((b.alters.getD i4 default).at_)) && ((((a.alters.getD i4 default).sum) == ((b.alters.getD i4 default).sum)) && true)))
 (.fin (.inl (.inl false)))
 (.nx 10 6 i4 (i4 + 1)))
 (.fin (.inl (.inr ()))))
 (fun (_ : Unit) => ⟨[], []⟩) fun _ =>
 .bt
 (.loop (default : Sum (Bool) (Unit)) (fun i6 => i6 ≤ a.acts.length) (fun i6 => a.acts.length - i6) (0 : Nat)
 (fun (i6 : Nat) => ⟨[(7, iv ((i6 : Nat) : Int))], []⟩) fun i6 =>
 .lt 2 17 i6 a.acts.length
 (.r 16 (.andl (.p (ixP ((i6 : Nat) : Int) a.acts.length)) (.p (ixP ((i6 : Nat) : Int) b.acts.length))) fun _ =>
 .br (!((((a.acts.getD i6 default).kind) == ((b.acts.getD i6 default).kind)) && ((((a.acts.getD i6 default).who) == ((b.acts.getD i6 default).who)) && ((((a.acts.getD i6 default).to_) == ((b.acts.getD i6 default).to_)) && ((((a.acts.getD i6 default).part) == ((b.acts.getD i6 default).part)) && ((((a.acts.getD i6 default).at_) == ((b.acts.getD i6 default).at_)) && ((((a.acts.getD i6 default).sum) == ((b.acts.getD i6 default).sum)) && ((((a.acts.getD i6 default).day) == ((b.acts.getD i6 default).day)) && ((((a.acts.getD i6 default).city) == ((b.acts.getD i6 default).city)) && ((((a.acts.getD i6 default).form) == ((b.acts.getD i6 default).form)) && true))))))))))
 (.fin (.inl (.inl false)))
 (.nx 15 7 i6 (i6 + 1)))
 (.fin (.inl (.inr ()))))
 (fun (_ : Unit) => ⟨[], []⟩) fun _ =>
 .bt
 (.loop (default : Sum (Bool) (Unit)) (fun i8 => i8 ≤ a.facts.length) (fun i8 => a.facts.length - i8) (0 : Nat)
 (fun (i8 : Nat) => ⟨[(8, iv ((i8 : Nat) : Int))], []⟩) fun i8 =>
 .lt 2 18 i8 a.facts.length
 (.r 21 (.andl (.p (ixP ((i8 : Nat) : Int) a.facts.length)) (.p (ixP ((i8 : Nat) : Int) b.facts.length))) fun _ =>
 .br (!((((a.facts.getD i8 default).kind) == ((b.facts.getD i8 default).kind)) && ((((a.facts.getD i8 default).at_) == ((b.facts.getD i8 default).at_)) && ((((a.facts.getD i8 default).n) == ((b.facts.getD i8 default).n)) && true))))
 (.fin (.inl (.inl false)))
 (.nx 20 8 i8 (i8 + 1)))
 (.fin (.inl (.inr ()))))
 (fun (_ : Unit) => ⟨[], []⟩) fun _ =>
 .fin true)
noncomputable def allongeref14_Same a b := (allongeref14_Same_sk a b).val
theorem allongeref14_Same_pst (a : File) (b : File) : (allongeref14_Same_sk a b).pst (fun (x : Bool) => a = b → x = true) := by
  refine Sk.pst_of _ ?_
  unfold allongeref14_Same_sk
  simp only [Sk.pstq, Sk.isLoop, reduceCtorEq, ON, kk, kp, maxLen]
  have hb : ∀ x : Bill, eqCs x.cells x.cells = true := fun x => eqCs_rfl rfl
  all_goals (repeat' first | assumption | (apply And.intro) | (intro h))
  all_goals first
    | omega
    | (simp only [LN] at *; omega)
    | (subst_vars; simp_all; done)

theorem allongeref14_Same_post (a : File) (b : File) : (fun (x : Bool) => a = b → x = true) (allongeref14_Same a b) := have h := Sk.pval _ (allongeref14_Same_pst a b); h
theorem allongeref14_Same_ok (a : File) (b : File) : (allongeref14_Same_sk a b).obs (fun _ => True) := by
  unfold allongeref14_Same_sk
  exact okD

noncomputable def allongeref14_Same_k a b := kp tok mixed Tryz.func18 [av a.cells, av b.cells] (fun x => bv x) true (allongeref14_Same a b) (u0 (allongeref14_Same_ok a b)) (allongeref14_Same_pst a b)
noncomputable def report_Used_sk (r : Realm) (l : List Arrival) (bill : Int) (day : Int) : Sk ((List Body)) :=
 .r 1 ((report_build_km r l bill day).c) fun x1 =>
 .fin x1.used
noncomputable def report_Used r l bill day := (report_Used_sk r l bill day).val
theorem report_Used_ok (r : Realm) (l : List Arrival) (bill : Int) (day : Int) (hi : ∀ a, a ∈ l → a.report.I64) (h_r_Small : r.Small) : (report_Used_sk r l bill day).obs (fun _ => True) := by
  simp only [File.Small, Realm.Small] at h_r_Small
  unfold report_Used_sk
  try simp only [report_build_km, File.Small, Realm.Small]
  exact okD

noncomputable def report_Used_k r l bill day := kk tok mixed Tryz.func34 [av r.cells, lv Arrival.cells l, iv bill, iv day] (fun x => lv Body.cells x) false (report_Used_sk r l bill day) (report_Used r l bill day) (u2 (report_Used_ok r l bill day))
noncomputable def allongeref50_SameBodies_sk (a : List Body) (b : List Body) : Sk (Bool) :=
 .br (((a.length : Nat) : Int) != ((b.length : Nat) : Int))
 (.fin false)
 (.bt
 (.loop (default : Sum (Bool) (Unit)) (fun i2 => i2 ≤ a.length) (fun i2 => a.length - i2) (0 : Nat)
 (fun (i2 : Nat) => ⟨[(5, iv ((i2 : Nat) : Int))], []⟩) fun i2 =>
 .lt 0 0 i2 a.length
 (.r 6 (.andl (.p (ixP ((i2 : Nat) : Int) a.length)) (.p (ixP ((i2 : Nat) : Int) b.length))) fun _ =>
 .br (!(eqCs (Body.cells (a.getD i2 default)) (Body.cells (b.getD i2 default))))
 (.fin (.inl (.inl false)))
 (.nx 5 5 i2 (i2 + 1)))
 (.fin (.inl (.inr ()))))
 (fun (_ : Unit) => ⟨[], []⟩) fun _ =>
 .fin true)
noncomputable def allongeref50_SameBodies a b := (allongeref50_SameBodies_sk a b).val
theorem allongeref50_SameBodies_ok (a : List Body) (b : List Body) : (allongeref50_SameBodies_sk a b).obs (fun _ => True) := by
  unfold allongeref50_SameBodies_sk
  exact okD

noncomputable def allongeref50_SameBodies_k a b := kk tok mixed Tryz.func33 [lv Body.cells a, lv Body.cells b] (fun x => bv x) true (allongeref50_SameBodies_sk a b) (allongeref50_SameBodies a b) (u0 (allongeref50_SameBodies_ok a b))
noncomputable def allongelaw50_same_sk (r : Realm) (a : List Arrival) (b : List Arrival) (bill : Int) (day : Int) : Sk (Bool) :=
 .r 1 ((report_File_k r a bill day).c) fun x1 =>
 .r 2 ((report_File_k r b bill day).c) fun x2 =>
 .r 3 (.dep ((report_Known_k a day).c) fun x3 => .dep ((report_Known_k b day).c) fun x4 => .dep ((allongeref50_SameReports_k x3 x4).c) fun x5 => .dep (.wh (!x5) false ((report_Liars_k a day).c)) fun x6 => .dep (.wh (!x5) false ((report_Liars_k b day).c)) fun x7 => .wh (!x5) false ((allongeref15_Same_k x6 x7).c)) fun p14 =>
 .br ((!p14.2.2.1) || (!p14.2.2.2.2.2))
 (.fin false)
 (.r 5 (.dep (.wh (x1.2 == x2.2) true ((allongeref14_Same_k x1.1 x2.1).c)) fun x9 => .dep (.wh ((x1.2 == x2.2) && x9) true ((report_Used_k r a bill day).c)) fun x10 => .dep (.wh ((x1.2 == x2.2) && x9) true ((report_Used_k r b bill day).c)) fun x11 => .wh ((x1.2 == x2.2) && x9) true ((allongeref50_SameBodies_k x10 x11).c)) fun p13 =>
 .fin (((x1.2 == x2.2) && p13.1) && p13.2.2.2))
noncomputable def allongelaw50_same r a b bill day := (allongelaw50_same_sk r a b bill day).val
theorem allongelaw50_same_ok (r : Realm) (a : List Arrival) (b : List Arrival) (bill : Int) (day : Int) (hr : r.Small) (ha : ∀ x, x ∈ a → x.report.I64) (hb : ∀ x, x ∈ b → x.report.I64) : (allongelaw50_same_sk r a b bill day).obs (fun _ => True) := by
  unfold allongelaw50_same_sk
  refine ⟨⟨ha, hr⟩, fun x1 _ _ => ⟨⟨hb, hr⟩, fun x2 _ _ => ⟨?_, fun p14 _ _ => ⟨fun _ => trivial, fun _ => ⟨?_, fun p13 _ _ => trivial⟩⟩⟩⟩⟩
  · exact ⟨ha, fun _ _ _ => ⟨hb, fun _ _ _ => ⟨trivial, fun _ _ _ => ⟨fun _ => trivial, fun _ _ _ => ⟨fun _ => trivial, fun _ _ _ => fun _ => trivial⟩⟩⟩⟩⟩
  · exact ⟨fun _ => trivial, fun _ _ _ => ⟨fun _ => ⟨ha, hr⟩, fun _ _ _ => ⟨fun _ => ⟨hb, hr⟩, fun _ _ _ => fun _ => trivial⟩⟩⟩

noncomputable def allongelaw50_same_k r a b bill day := kk tok mixed Tryz.func35 [av r.cells, lv Arrival.cells a, lv Arrival.cells b, iv bill, iv day] (fun x => bv x) true (allongelaw50_same_sk r a b bill day) (allongelaw50_same r a b bill day) (u3 (allongelaw50_same_ok r a b bill day))
noncomputable def allongeref50_in_sk (n : Int) (low : Int) (high : Int) : Sk (Bool) :=
 .fin ((decide (n ≥ low)) && (decide (n ≤ high)))
noncomputable def allongeref50_in n low high := (allongeref50_in_sk n low high).val
theorem allongeref50_in_eq (n : Int) (low : Int) (high : Int) : allongeref50_in n low high = ((decide (n ≥ low)) && (decide (n ≤ high))) := rfl
theorem allongeref50_in_ok (n : Int) (low : Int) (high : Int) : (allongeref50_in_sk n low high).obs (fun _ => True) := by
  unfold allongeref50_in_sk
  exact okE

noncomputable def allongeref50_in_k n low high := kk tok mixed Tryz.func65 [iv n, iv low, iv high] (fun x => bv x) true (allongeref50_in_sk n low high) (allongeref50_in n low high) (u0 (allongeref50_in_ok n low high))
noncomputable def allongeref50_Right_sk (x_ : Report) : Sk (Bool) :=
 .r 2 (.dep ((allongeref50_in_k x_.reporter 0 199).c) fun x1 => .dep (.wh (!x1) false ((allongeref50_in_k x_.no 0 9999).c)) fun x2 => .dep (.wh ((!x1) || (!x2)) false ((allongeref50_in_k x_.day 0 100000).c)) fun x3 => .wh (((!x1) || (!x2)) || (!x3)) false ((allongeref50_in_k x_.body.bill 0 49).c)) fun p8 =>
 .br ((((!p8.1) || (!p8.2.1)) || (!p8.2.2.1)) || (!p8.2.2.2))
 (.fin false)
 (.br (((((x_.body.kind != 0) && (!(eqCs (Bill.cells x_.body.paper) (Bill.cells ({ drawer := 0, drawee := 0, payee := 0, sum := 0, currency := 0, tenor := ({ kind := 0, n := 0, unit := 0 } : Tenor), day := 0, city := 0, pay := 0, need := 0, rate := 0, flags := 0, parts := 0 } : Bill))))) || ((x_.body.kind != 2) && (!((x_.body.act.kind == 0) && ((x_.body.act.who == 0) && ((x_.body.act.to_ == 0) && ((x_.body.act.part == 0) && ((x_.body.act.at_ == 0) && ((x_.body.act.sum == 0) && ((x_.body.act.day == 0) && ((x_.body.act.city == 0) && ((x_.body.act.form == 0) && true)))))))))))) || ((x_.body.kind != 3) && (!((x_.body.alter.at_ == 0) && ((x_.body.alter.sum == 0) && true))))) || ((x_.body.kind != 4) && (!((x_.body.fact.kind == 0) && ((x_.body.fact.at_ == 0) && ((x_.body.fact.n == 0) && true))))))
 (.fin false)
 (.br (x_.body.kind == 0)
 (.fin (((x_.body.index == 0) && ((x_.body.sign.kind == 0) && ((x_.body.sign.part == 0) && ((x_.body.sign.who == 0) && ((x_.body.sign.for_ == 0) && ((x_.body.sign.to_ == 0) && ((x_.body.sign.sum == 0) && ((x_.body.sign.day == 0) && ((x_.body.sign.city == 0) && ((x_.body.sign.flags == x_.body.sign.flags) && true)))))))))) && (x_.body.paper.day == x_.day)))
 (.br (x_.body.kind == 1)
 (.r 9 ((allongeref50_in_k x_.body.index 1 39).c) fun x5 =>
 .fin (x5 && (x_.body.sign.day == x_.day)))
 (.br (!((x_.body.sign.kind == 0) && ((x_.body.sign.part == 0) && ((x_.body.sign.who == 0) && ((x_.body.sign.for_ == 0) && ((x_.body.sign.to_ == 0) && ((x_.body.sign.sum == 0) && ((x_.body.sign.day == 0) && ((x_.body.sign.city == 0) && ((x_.body.sign.flags == 0) && true))))))))))
 (.fin false)
 (.br (x_.body.kind == 2)
 (.r 13 ((allongeref50_in_k x_.body.index 0 99).c) fun x6 =>
 .fin (x6 && (x_.body.act.day == x_.day)))
 (.br (x_.body.kind == 3)
 (.r 15 ((allongeref50_in_k x_.body.index 0 3).c) fun x7 =>
 .fin x7)
 (.fin ((x_.body.kind == 4) && (x_.body.index == 0)))))))))
noncomputable def allongeref50_Right x_ := (allongeref50_Right_sk x_).val
theorem allongeref50_Right_ok (x_ : Report) : (allongeref50_Right_sk x_).obs (fun _ => True) := by
  unfold allongeref50_Right_sk
  try simp only [allongeref50_in_k, allongeref50_in_eq]
  exact okG

noncomputable def allongeref50_Right_k x_ := kk tok mixed Tryz.func23 [av x_.cells] (fun x => bv x) true (allongeref50_Right_sk x_) (allongeref50_Right x_) (u0 (allongeref50_Right_ok x_))
noncomputable def allongeref50_Counts_sk (x_ : Arrival) (day : Int) : Sk (Bool) :=
 .r 1 (.dep ((allongeref50_in_k x_.registry 0 2).c) fun x1 => .wh ((x1 && (decide (x_.day ≥ x_.report.day))) && (decide (x_.day ≤ day))) true ((allongeref50_Right_k x_.report).c)) fun p3 =>
 .fin (((p3.1 && (decide (x_.day ≥ x_.report.day))) && (decide (x_.day ≤ day))) && p3.2)
noncomputable def allongeref50_Counts x_ day := (allongeref50_Counts_sk x_ day).val
theorem allongeref50_Counts_ok (x_ : Arrival) (day : Int) : (allongeref50_Counts_sk x_ day).obs (fun _ => True) := by
  unfold allongeref50_Counts_sk
  try simp only [allongeref50_Right_k, allongeref50_in_k, allongeref50_in_eq]
  exact okG

noncomputable def allongeref50_Counts_k x_ day := kk tok mixed Tryz.func36 [av x_.cells, iv day] (fun x => bv x) true (allongeref50_Counts_sk x_ day) (allongeref50_Counts x_ day) (u0 (allongeref50_Counts_ok x_ day))
/-! equal lists are the same -/
theorem eqCs_rep (x : Report) : eqCs (Report.cells x) (Report.cells x) = true := eqRp.2 rfl
theorem eqCs_body (x : Body) : eqCs (Body.cells x) (Body.cells x) = true := eqCs_rfl rfl
theorem SameReports_refl (l : List Report) : allongeref50_SameReports l l = true := by
  have hne : (((l.length : Nat) : Int) != ((l.length : Nat) : Int)) = false := bne_self_eq_false _
  simp only [allongeref50_SameReports, allongeref50_SameReports_sk, Sk.val_br, Sk.val_bind, Sk.val_loop, Sk.val_fin]
  rw [hne, cond_false]
  refine (pick_iter_walk l (fun (s : Unit) i => i) (fun x (_ : Unit) => (.inr () : Bool ⊕ Unit)) id _ (fun s i hi => ?_) (fun s => ?_) (by simp) ()).trans ?_
  · simp only [Sk.val_bnd, Sk.val_br, Sk.val_r, Sk.val_wi, Sk.val_fin, eqCs_rep, Bool.not_true, cond_false]
    rw [decide_eq_true (by omega), cond_true]
  · simp only [Sk.val_bnd, Sk.val_br, Sk.val_r, Sk.val_wi, Sk.val_fin]
    rw [decide_eq_false (by omega), cond_false]
  · rw [walk_fold]
theorem SameBodies_refl (l : List Body) : allongeref50_SameBodies l l = true := by
  have hne : (((l.length : Nat) : Int) != ((l.length : Nat) : Int)) = false := bne_self_eq_false _
  simp only [allongeref50_SameBodies, allongeref50_SameBodies_sk, Sk.val_br, Sk.val_bind, Sk.val_loop, Sk.val_fin]
  rw [hne, cond_false]
  refine (pick_iter_walk l (fun (s : Unit) i => i) (fun x (_ : Unit) => (.inr () : Bool ⊕ Unit)) id _ (fun s i hi => ?_) (fun s => ?_) (by simp) ()).trans ?_
  · simp only [Sk.val_bnd, Sk.val_br, Sk.val_r, Sk.val_wi, Sk.val_fin, eqCs_body, Bool.not_true, cond_false]
    rw [decide_eq_true (by omega), cond_true]
  · simp only [Sk.val_bnd, Sk.val_br, Sk.val_r, Sk.val_wi, Sk.val_fin]
    rw [decide_eq_false (by omega), cond_false]
  · rw [walk_fold]
theorem Same15_refl (l : List Int) : allongeref15_Same l l = true := (allongeref15_Same_post l l) rfl
theorem Same14_refl (f : File) : allongeref14_Same f f = true := (allongeref14_Same_post f f) rfl
/-- the file depends on what is known -/
theorem r_val_congr {α β : Type} {i : Nat} {c c' : Cal β} {k : β → Sk α} (h : c.v = c'.v) : (Sk.r i c k).val = (Sk.r i c' k).val := by rw [Sk.val_r, Sk.val_r, h]
theorem stated_congr {l l' : List Arrival} {bill day day' : Int} (h : report_Known l day = report_Known l' day') : report_stated l bill day = report_stated l' bill day' := by
  unfold report_stated report_stated_sk
  simp only [Sk.val_r]
  have h' : (report_Known_k l day).c.v = (report_Known_k l' day').c.v := h
  generalize (report_Known_k l day).c.v = K at h' ⊢
  generalize (report_Known_k l' day').c.v = K' at h' ⊢
  subst h'
  rfl
theorem build_congr {r : Realm} {l l' : List Arrival} {bill day day' : Int} (h : report_Known l day = report_Known l' day') : report_build r l bill day = report_build r l' bill day' := by
  unfold report_build report_build_sk
  exact r_val_congr (c := (report_stated_km l bill day).c) (c' := (report_stated_km l' bill day').c) (stated_congr h)
theorem File_congr {r : Realm} {l l' : List Arrival} {bill day day' : Int} (h : report_Known l day = report_Known l' day') : report_File r l bill day = report_File r l' bill day' := by
  have e : ∀ l d, report_File r l bill d = ((report_build r l bill d).file, decide ((((report_build r l bill d).used.length : Nat) : Int) > 0)) := fun _ _ => rfl
  rw [e, e, build_congr h]
theorem Used_congr {r : Realm} {l l' : List Arrival} {bill day day' : Int} (h : report_Known l day = report_Known l' day') : report_Used r l bill day = report_Used r l' bill day' := by
  have e : ∀ l d, report_Used r l bill d = (report_build r l bill d).used := fun _ _ => rfl
  rw [e, e, build_congr h]
theorem same_eq (r : Realm) (a b : List Arrival) (bill day : Int) : allongelaw50_same r a b bill day = bif (!(allongeref50_SameReports (report_Known a day) (report_Known b day))) || (!(allongeref15_Same (report_Liars a day) (report_Liars b day))) then false else (((report_File r a bill day).2 == (report_File r b bill day).2) && allongeref14_Same (report_File r a bill day).1 (report_File r b bill day).1) && allongeref50_SameBodies (report_Used r a bill day) (report_Used r b bill day) := by kernel_rfl
/-- lists in which the same reports are agreed say the same -/
theorem same_true {r : Realm} {a b : List Arrival} {bill day : Int} (ha : a.length ≤ 1200) (hb : b.length ≤ 1200) (hi : ∀ x, x ∈ a → x.report.I64) (hj : ∀ x, x ∈ b → x.report.I64) (h : (agreedL a day).Perm (agreedL b day)) : allongelaw50_same r a b bill day = true := by
  have hk : report_Known a day = report_Known b day := by rw [report_Known_of ha hi, report_Known_of hb hj, knownL_congr h hi]
  rw [same_eq, File_congr hk, Used_congr hk, hk, Liars_congr ha hb h, SameReports_refl, Same15_refl, Same14_refl, SameBodies_refl, beq_self_eq_true]
  rfl
theorem okI_of {n : Int} (h : in64w n) : okI (dI n) = true := decide_eq_true h
theorem list_getD {l : List Int} {n : Nat} (h : l.length = n) : (List.range n).map (fun i => l.getD i default) = l := by
  subst h
  refine List.ext_getElem (by simp) (fun i h1 h2 => by simp [List.getD, h2])
/-- a body from its numbers -/
theorem body_eq (k bi ix : Int) (l : List Int) : report_body k bi ix l = bif ((decide (k < 0)) || (decide (k ≥ 5))) || (((l.length : Nat) : Int) != (((report_numbers { (default : Body) with kind := k, bill := bi, index := ix }).length : Nat) : Int)) then (default, false) else
    bif k == 0 then ({ (default : Body) with kind := k, bill := bi, index := ix, paper := ⟨l.getD 0 default, l.getD 1 default, l.getD 2 default, l.getD 3 default, l.getD 4 default, ⟨l.getD 5 default, l.getD 6 default, l.getD 7 default⟩, l.getD 8 default, l.getD 9 default, l.getD 10 default, l.getD 11 default, l.getD 12 default, l.getD 13 default, l.getD 14 default⟩, sign := { (default : Sign) with flags := l.getD 15 default } }, true)
    else bif k == 1 then ({ (default : Body) with kind := k, bill := bi, index := ix, sign := ⟨l.getD 0 default, l.getD 1 default, l.getD 2 default, l.getD 3 default, l.getD 4 default, l.getD 5 default, l.getD 6 default, l.getD 7 default, l.getD 8 default⟩ }, true)
    else bif k == 2 then ({ (default : Body) with kind := k, bill := bi, index := ix, act := ⟨l.getD 0 default, l.getD 1 default, l.getD 2 default, l.getD 3 default, l.getD 4 default, l.getD 5 default, l.getD 6 default, l.getD 7 default, l.getD 8 default⟩ }, true)
    else bif k == 3 then ({ (default : Body) with kind := k, bill := bi, index := ix, alter := ⟨l.getD 0 default, l.getD 1 default⟩ }, true)
    else ({ (default : Body) with kind := k, bill := bi, index := ix, fact := ⟨l.getD 0 default, l.getD 1 default, l.getD 2 default⟩ }, true) := rfl
def numN (k : Int) : Nat := bif k == 0 then 16 else bif k == 1 then 9 else bif k == 2 then 9 else bif k == 3 then 2 else 3
theorem numL_n (b : Body) : (numL b).length = numN b.kind := by
  unfold numL numN
  cases b.kind == 0 <;> cases b.kind == 1 <;> cases b.kind == 2 <;> cases b.kind == 3 <;> rfl
theorem body_two {k bi ix : Int} {l : List Int} : (report_body k bi ix l).2 = true ↔ (0 ≤ k ∧ k < 5) ∧ l.length = numN k := by
  have hn := report_numbers_post { (default : Body) with kind := k, bill := bi, index := ix }
  dsimp only at hn
  have hl := numL_n { (default : Body) with kind := k, bill := bi, index := ix }
  rw [body_eq, hn, hl]
  cases hc : (((decide (k < 0)) || (decide (k ≥ 5))) || (((l.length : Nat) : Int) != ((numN k : Nat) : Int))) with
  | true =>
    simp only [cond_true, Bool.false_eq_true, false_iff]
    simp only [Bool.or_eq_true, decide_eq_true_eq, bne_iff_ne, ne_eq] at hc
    omega
  | false =>
    simp only [Bool.or_eq_false_iff, decide_eq_false_iff_not, bne_eq_false_iff_eq] at hc
    have : (0 ≤ k ∧ k < 5) ∧ l.length = numN k := by omega
    simp only [this, and_self, iff_true, cond_false]
    cases k == 0 <;> cases k == 1 <;> cases k == 2 <;> cases k == 3 <;> rfl
theorem body_one {k bi ix : Int} {l : List Int} (h : (report_body k bi ix l).2 = true) : (report_body k bi ix l).1.kind = k ∧ (report_body k bi ix l).1.bill = bi ∧ (report_body k bi ix l).1.index = ix ∧ numL (report_body k bi ix l).1 = l ∧ ((∀ n ∈ l, in64w n) → in64w k → in64w bi → in64w ix → (report_body k bi ix l).1.I64) := by
  obtain ⟨hk, hl⟩ := body_two.1 h
  have hn := report_numbers_post { (default : Body) with kind := k, bill := bi, index := ix }
  dsimp only at hn
  have hl2 := numL_n { (default : Body) with kind := k, bill := bi, index := ix }
  have hc : (((decide (k < 0)) || (decide (k ≥ 5))) || (((l.length : Nat) : Int) != ((numN k : Nat) : Int))) = false := by
    simp only [Bool.or_eq_false_iff, decide_eq_false_iff_not, bne_eq_false_iff_eq]
    omega
  rw [body_eq, hn, hl2, hc]
  have hg : (∀ n ∈ l, in64w n) → ∀ j, okI (dI (l.getD j default)) = true := fun hi j => by
    rw [okI_dI, decide_eq_true_eq]
    by_cases hj : j < l.length
    · exact hi _ (lget_mem hj default)
    · have : l.getD j default = 0 := by simp [List.getD, hj]
      rw [this]
      decide
  have h0 : okI (dI 0) = true := by decide
  have hd : okI (dI default) = true := by decide
  unfold numN at hl
  cases h0k : k == 0 with
  | true =>
    rw [h0k] at hl
    refine ⟨rfl, rfl, rfl, ?_, fun hi hk hb hx => ?_⟩
    · have := list_getD (l := l) (n := 16) hl
      show numL _ = l
      unfold numL
      simp only [cond_false, cond_true, h0k]
      exact this
    · simp only [cond_false, cond_true, Body.I64, Body.cells, Bill.cells, Tenor.cells, Sign.cells, ActX.cells, Alter.cells, Fact.cells, List.all_append, List.all_cons, List.all_nil, hg hi, okI_of hk, okI_of hb, okI_of hx, Bool.and_true, Bool.true_and]
      rfl
  | false =>
    cases h1k : k == 1 with
    | true =>
      rw [h0k, h1k] at hl
      refine ⟨rfl, rfl, rfl, ?_, fun hi hk hb hx => ?_⟩
      · have := list_getD (l := l) (n := 9) hl
        show numL _ = l
        unfold numL
        simp only [cond_false, cond_true, h0k, h1k]
        exact this
      · simp only [cond_false, cond_true, Body.I64, Body.cells, Bill.cells, Tenor.cells, Sign.cells, ActX.cells, Alter.cells, Fact.cells, List.all_append, List.all_cons, List.all_nil, hg hi, okI_of hk, okI_of hb, okI_of hx, Bool.and_true, Bool.true_and]
        rfl
    | false =>
      cases h2k : k == 2 with
      | true =>
        rw [h0k, h1k, h2k] at hl
        refine ⟨rfl, rfl, rfl, ?_, fun hi hk hb hx => ?_⟩
        · have := list_getD (l := l) (n := 9) hl
          show numL _ = l
          unfold numL
          simp only [cond_false, cond_true, h0k, h1k, h2k]
          exact this
        · simp only [cond_false, cond_true, Body.I64, Body.cells, Bill.cells, Tenor.cells, Sign.cells, ActX.cells, Alter.cells, Fact.cells, List.all_append, List.all_cons, List.all_nil, hg hi, okI_of hk, okI_of hb, okI_of hx, Bool.and_true, Bool.true_and]
          rfl
      | false =>
        cases h3k : k == 3 with
        | true =>
          rw [h0k, h1k, h2k, h3k] at hl
          refine ⟨rfl, rfl, rfl, ?_, fun hi hk hb hx => ?_⟩
          · have := list_getD (l := l) (n := 2) hl
            show numL _ = l
            unfold numL
            simp only [cond_false, cond_true, h0k, h1k, h2k, h3k]
            exact this
          · simp only [cond_false, cond_true, Body.I64, Body.cells, Bill.cells, Tenor.cells, Sign.cells, ActX.cells, Alter.cells, Fact.cells, List.all_append, List.all_cons, List.all_nil, hg hi, okI_of hk, okI_of hb, okI_of hx, Bool.and_true, Bool.true_and]
            rfl
        | false =>
          rw [h0k, h1k, h2k, h3k] at hl
          refine ⟨rfl, rfl, rfl, ?_, fun hi hk hb hx => ?_⟩
          · have := list_getD (l := l) (n := 3) hl
            show numL _ = l
            unfold numL
            simp only [cond_false, h0k, h1k, h2k, h3k]
            exact this
          · simp only [cond_false, Body.I64, Body.cells, Bill.cells, Tenor.cells, Sign.cells, ActX.cells, Alter.cells, Fact.cells, List.all_append, List.all_cons, List.all_nil, hg hi, okI_of hk, okI_of hb, okI_of hx, Bool.and_true, Bool.true_and]
            rfl
noncomputable abbrev zeroR : Report := default
theorem read_eq (s : ByteArray) : report_Read s = bif (((!(wire_ReadInts s).2.2) || (!((wire_ReadInts s).2.1.toList == (⟨#[]⟩ : ByteArray).toList))) || (decide ((((wire_ReadInts s).1.length : Nat) : Int) < 6))) then (zeroR, false) else
    bif (!(report_body ((wire_ReadInts s).1.getD 3 default) ((wire_ReadInts s).1.getD 4 default) ((wire_ReadInts s).1.getD 5 default) (subL (wire_ReadInts s).1 6 ((wire_ReadInts s).1.length - 6))).2) || (!(report_Right ({ reporter := (wire_ReadInts s).1.getD 0 default, no := (wire_ReadInts s).1.getD 1 default, day := (wire_ReadInts s).1.getD 2 default, body := (report_body ((wire_ReadInts s).1.getD 3 default) ((wire_ReadInts s).1.getD 4 default) ((wire_ReadInts s).1.getD 5 default) (subL (wire_ReadInts s).1 6 ((wire_ReadInts s).1.length - 6))).1 } : Report))) then (zeroR, false) else
    (({ reporter := (wire_ReadInts s).1.getD 0 default, no := (wire_ReadInts s).1.getD 1 default, day := (wire_ReadInts s).1.getD 2 default, body := (report_body ((wire_ReadInts s).1.getD 3 default) ((wire_ReadInts s).1.getD 4 default) ((wire_ReadInts s).1.getD 5 default) (subL (wire_ReadInts s).1 6 ((wire_ReadInts s).1.length - 6))).1 } : Report), true) := by
  unfold report_Read report_Read_sk
  simp only [Sk.val_br, Sk.val_r]
  rfl
theorem sub6 {l : List Int} (h : 6 ≤ l.length) : l = [l.getD 0 default, l.getD 1 default, l.getD 2 default, l.getD 3 default, l.getD 4 default, l.getD 5 default] ++ subL l 6 (l.length - 6) := by
  refine List.ext_getElem (by simp [subL]; omega) (fun i h1 h2 => ?_)
  by_cases c : i < 6
  · have : i = 0 ∨ i = 1 ∨ i = 2 ∨ i = 3 ∨ i = 4 ∨ i = 5 := by omega
    rcases this with rfl | rfl | rfl | rfl | rfl | rfl <;> simp [List.getD, h1]
  · rw [List.getElem_append_right (by simp; omega)]
    simp [subL, List.getD]
    rw [List.getElem?_eq_getElem (by omega)]
    simp
    congr 1
    omega
theorem subL_6 (a b c d e f : Int) (r : List Int) : subL ([a, b, c, d, e, f] ++ r) 6 (([a, b, c, d, e, f] ++ r).length - 6) = r := by
  refine List.ext_getElem (by simp [subL]) (fun i h1 h2 => ?_)
  simp only [subL, List.getElem_map, List.getElem_range]
  rw [Nat.add_comm 6 i]
  simp [List.getD, h2]
theorem right_kind {x : Report} (h : report_Right x = true) : 0 ≤ x.body.kind ∧ x.body.kind < 5 := by
  have e : report_Right x = bif (((((!report_within x.reporter 200) || (!report_within x.no 10000)) || (!report_within x.day 100001)) || (!report_within x.body.kind 5)) || (!report_within x.body.bill 50)) then false else bif !(eqCs (Body.cells (report_body x.body.kind x.body.bill x.body.index (report_numbers x.body)).1) (Body.cells x.body)) then false else (bif x.body.kind == 0 then (x.body.index == 0) && (x.body.paper.day == x.day) else bif x.body.kind == 1 then ((decide (x.body.index > 0)) && (decide (x.body.index < 40))) && (x.body.sign.day == x.day) else bif x.body.kind == 2 then report_within x.body.index 100 && (x.body.act.day == x.day) else bif x.body.kind == 3 then report_within x.body.index 4 else x.body.index == 0) := rfl
  cases hw : report_within x.body.kind 5 with
  | false => rw [e, hw] at h; simp at h
  | true =>
    rw [report_within_eq] at hw
    simp only [Bool.and_eq_true, decide_eq_true_eq] at hw
    omega
theorem rep6 (x : Report) : 6 ≤ (repL x).length ∧ (repL x).getD 0 default = x.reporter ∧ (repL x).getD 1 default = x.no ∧ (repL x).getD 2 default = x.day ∧ (repL x).getD 3 default = x.body.kind ∧ (repL x).getD 4 default = x.body.bill ∧ (repL x).getD 5 default = x.body.index ∧ subL (repL x) 6 ((repL x).length - 6) = numL x.body :=
  ⟨by simp [repL], rfl, rfl, rfl, rfl, rfl, rfl, subL_6 _ _ _ _ _ _ _⟩
theorem text_size {x : Report} (h : x.I64) : (report_Text x).size ≤ 1000 := by
  cases hr : report_Right x with
  | false => rw [text_wrong hr]; exact Nat.zero_le _
  | true =>
    rw [text_right hr]
    have h1 := repL_I64 h
    have h2 := repL_len x
    have hf : ∀ (m : List Int), (∀ n ∈ m, in64w n) → (m.flatMap intL).length ≤ m.length * 21 := by
      intro m
      induction m with
      | nil => intro _; simp
      | cons a r ih =>
        intro h
        have h1 := intL_len a (h a (by simp)).1 (h a (by simp)).2
        have h2 := ih (fun n hn => h n (by simp [hn]))
        simp only [List.flatMap_cons, List.length_append, List.length_cons]
        omega
    have h3 := hf _ h1
    have h4 := intL_len (repL x).length (by omega) (by omega)
    show (intsL (repL x)).toArray.size ≤ 1000
    simp only [intsL, List.size_toArray, List.length_append]
    omega
/-- the text of a right report is read as its numbers -/
theorem ints_text {x : Report} (hx : x.I64) (hr : report_Right x = true) : wire_ReadInts (report_Text x) = (repL x, ⟨#[]⟩, true) := by
  have hs := text_size hx
  have hp := wire_ReadInts_post (report_Text x) (by omega)
  have h2 := repL_len x
  exact RdP.eq hp (r := []) (by omega) (repL_I64 hx) (by rw [List.append_nil]; exact rpT_right hr)
/-- and as this report -/
theorem read_text {x : Report} (hx : x.I64) (hr : report_Right x = true) : report_Read (report_Text x) = (x, true) := by
  obtain ⟨a1, a2, a3, a4, a5, a6, a7, a8⟩ := rep6 x
  have hb2 : (report_body x.body.kind x.body.bill x.body.index (numL x.body)).2 = true := body_two.2 ⟨right_kind hr, numL_n _⟩
  have hb1 := right_body hr
  rw [read_eq, ints_text hx hr]
  dsimp only
  rw [a2, a3, a4, a5, a6, a7, a8, ← hb1, hb2]
  have e : (⟨x.reporter, x.no, x.day, x.body⟩ : Report) = x := rfl
  rw [e, hr]
  have hl : decide ((((repL x).length : Nat) : Int) < 6) = false := by rw [decide_eq_false_iff_not]; omega
  rw [hl]
  simp
/-- what is read is right, and its text is what was read -/
theorem read_back {s : ByteArray} (hs : s.size ≤ 1000000) {a : Report} (h : report_Read s = (a, true)) : report_Right a = true ∧ rpT a = s.data.toList ∧ a.I64 ∧ s.data.toList ≠ [] := by
  have hp := wire_ReadInts_post s hs
  rw [read_eq] at h
  cases hc : (((!(wire_ReadInts s).2.2) || (!((wire_ReadInts s).2.1.toList == (⟨#[]⟩ : ByteArray).toList))) || (decide ((((wire_ReadInts s).1.length : Nat) : Int) < 6))) with
  | true => rw [hc] at h; simp at h
  | false =>
    rw [hc] at h
    simp only [Bool.or_eq_false_iff, Bool.not_eq_false', decide_eq_false_iff_not] at hc
    obtain ⟨⟨c1, c2⟩, c3⟩ := hc
    obtain ⟨q1, q2, q3⟩ := hp.1 c1
    have c2 : (wire_ReadInts s).2.1.data.toList = [] := by
      have := (beq_iff_eq.1 c2)
      simpa [ByteArray.toList_eq] using this
    generalize (wire_ReadInts s).1 = l at *
    have hl6 : 6 ≤ l.length := by omega
    have hl := sub6 hl6
    have hsub : ∀ n ∈ subL l 6 (l.length - 6), in64w n := fun n hn => q3 n (by rw [hl]; exact List.mem_append_right _ hn)
    generalize subL l 6 (l.length - 6) = r at *
    simp only [cond_false] at h
    cases hb : (report_body (l.getD 3 default) (l.getD 4 default) (l.getD 5 default) r).2 with
    | false => rw [hb] at h; simp at h
    | true =>
      rw [hb] at h
      cases hr : report_Right ({ reporter := l.getD 0 default, no := l.getD 1 default, day := l.getD 2 default, body := (report_body (l.getD 3 default) (l.getD 4 default) (l.getD 5 default) r).1 } : Report) with
      | false => rw [hr] at h; simp at h
      | true =>
        rw [hr] at h
        simp only [Bool.not_true, Bool.or_self, cond_false, Prod.mk.injEq, and_true] at h
        subst h
        obtain ⟨b1, b2, b3, b4, b5⟩ := body_one hb
        have hg : ∀ j, j < 6 → in64w (l.getD j default) := fun j hj => q3 _ (lget_mem (by omega) default)
        have hrep : repL ({ reporter := l.getD 0 default, no := l.getD 1 default, day := l.getD 2 default, body := (report_body (l.getD 3 default) (l.getD 4 default) (l.getD 5 default) r).1 } : Report) = l := by
          unfold repL
          dsimp only
          rw [b1, b2, b3, b4]
          exact hl.symm
        refine ⟨hr, ?_, ?_, ?_⟩
        · rw [rpT_right hr, hrep, q1, c2, List.append_nil]
        · have hbI := b5 hsub (hg 3 (by omega)) (hg 4 (by omega)) (hg 5 (by omega))
          unfold Report.I64 Report.cells
          rw [List.all_append, Bool.and_eq_true]
          refine ⟨?_, hbI⟩
          simp only [List.all_cons, List.all_nil, okI_of (hg 0 (by omega)), okI_of (hg 1 (by omega)), okI_of (hg 2 (by omega)), Bool.and_true]
        · rw [q1]
          intro e
          have := congrArg List.length e
          have h2 := intL_two l.length
          simp only [intsL, List.length_append, List.length_nil] at this
          omega
theorem sortRp_nil : sortRp [] = [] := by
  have := sortRp_perm (l := []) (fun s hs => by cases hs)
  exact List.perm_nil.1 this
theorem sortRp_one {x : Report} (h : x.I64) : sortRp [x] = [x] := by
  have := sortRp_perm (l := [x]) (fun s hs => by rw [List.mem_singleton.1 hs]; exact h)
  exact List.perm_singleton.1 this
theorem lied_no {L : List Report} {r : Int} (h : ∀ c, cnt L r c ≤ 1) : lied L r = false := by
  unfold lied
  exact @decide_eq_false _ (Classical.propDecidable _) (fun ⟨c, hc⟩ => by have := h c; omega)
theorem lied_yes {L : List Report} {r c : Int} (h : 2 ≤ cnt L r c) : lied L r = true := by
  unfold lied
  exact @decide_eq_true _ (Classical.propDecidable _) ⟨c, h⟩
theorem cnt_cons (x : Report) (L : List Report) (a c : Int) : cnt (x :: L) a c = cnt L a c + bif x.reporter == a && x.no == c then 1 else 0 := by
  unfold cnt
  rw [List.countP_cons]
  cases (x.reporter == a && x.no == c) <;> rfl
theorem sane_known9 : report_Known sL 9 = [allongelaw50_fact 0 1 1] := by
  rw [report_Known_of (by decide) sL_I64]
  unfold knownL
  have e : agreedL sL 9 = [allongelaw50_fact 0 1 1] := rfl
  rw [e]
  have h : lied [allongelaw50_fact 0 1 1] (allongelaw50_fact 0 1 1).reporter = false := lied_no fun c => by
    rw [cnt_cons]
    show 0 + _ ≤ 1
    cases ((allongelaw50_fact 0 1 1).reporter == (allongelaw50_fact 0 1 1).reporter && (allongelaw50_fact 0 1 1).no == c) <;> decide
  simp only [List.filter_cons, h, Bool.not_false, if_true, List.filter_nil]
  exact sortRp_one (fact_I64' _ _ _ rfl)
theorem sane_known10 : (report_Known sL 10).length = 2 := by
  rw [report_Known_of (by decide) sL_I64]
  unfold knownL
  have e : agreedL sL 10 = [allongelaw50_fact 0 1 1, allongelaw50_fact 2 1 1] := rfl
  rw [e]
  have h : ∀ r, lied [allongelaw50_fact 0 1 1, allongelaw50_fact 2 1 1] r = false := fun r => lied_no fun c => by
    rw [cnt_cons, cnt_cons]
    show 0 + (bif ((2 : Int) == r) && ((1 : Int) == c) then 1 else 0) + (bif ((0 : Int) == r) && ((1 : Int) == c) then 1 else 0) ≤ 1
    by_cases h0 : (0 : Int) = r
    · have h2 : ((2 : Int) == r) = false := by rw [← h0]; rfl
      rw [h2]
      cases (((0 : Int) == r) && ((1 : Int) == c)) <;> simp
    · have h2 : ((0 : Int) == r) = false := by simpa using h0
      rw [h2]
      cases (((2 : Int) == r) && ((1 : Int) == c)) <;> simp
  simp only [List.filter_cons, h, Bool.not_false, if_true, List.filter_nil]
  have hI : ∀ s, s ∈ [allongelaw50_fact 0 1 1, allongelaw50_fact 2 1 1] → s.I64 := fun s hs => by
    simp only [List.mem_cons, List.not_mem_nil, or_false] at hs
    rcases hs with rfl | rfl <;> exact fact_I64' _ _ _ rfl
  exact (sortRp_perm hI).length_eq
theorem sane_known8 : (report_Known sL 8).length = 0 := by
  rw [report_Known_of (by decide) sL_I64]
  unfold knownL
  have e : agreedL sL 8 = [] := rfl
  rw [e]
  show (sortRp []).length = 0
  rw [sortRp_nil]
  rfl
theorem sane_knownT : (report_Known sT 9).length = 0 := by
  rw [report_Known_of (by decide) sT_I64]
  unfold knownL
  have e : agreedL sT 9 = [allongelaw50_fact 0 1 1, allongelaw50_fact 0 1 0] := rfl
  rw [e]
  have h : lied [allongelaw50_fact 0 1 1, allongelaw50_fact 0 1 0] 0 = true := lied_yes (c := 1) (by decide)
  have h1 : lied [allongelaw50_fact 0 1 1, allongelaw50_fact 0 1 0] (allongelaw50_fact 0 1 1).reporter = true := h
  have h2 : lied [allongelaw50_fact 0 1 1, allongelaw50_fact 0 1 0] (allongelaw50_fact 0 1 0).reporter = true := h
  simp only [List.filter_cons, h1, h2, Bool.not_true, Bool.false_eq_true, if_false, List.filter_nil]
  rw [sortRp_nil]
  rfl
theorem sane_liarsT : report_Liars sT 9 = [0] := by
  have e : agreedL sT 9 = [allongelaw50_fact 0 1 1, allongelaw50_fact 0 1 0] := rfl
  have hq : liarQ (agreedL sT 9) [(0, true)] := by
    rw [e]
    refine ⟨by simp, by simp, fun r => ?_⟩
    constructor
    · intro hr
      simp at hr
      subst hr
      exact ⟨1, by decide⟩
    · rintro ⟨c, hc⟩
      rw [cnt_cons, cnt_cons] at hc
      have hc : 2 ≤ 0 + (bif ((0 : Int) == r) && ((1 : Int) == c) then 1 else 0) + (bif ((0 : Int) == r) && ((1 : Int) == c) then 1 else 0) := hc
      cases h0 : ((0 : Int) == r) with
      | true => simp at h0; simp [h0]
      | false => rw [h0] at hc; simp at hc
  rw [report_Liars_of (by decide) hq]
  simp [sortI]
theorem sane_liarsL : report_Liars sL 9 = [] := by
  have e : agreedL sL 9 = [allongelaw50_fact 0 1 1] := rfl
  have hq : liarQ (agreedL sL 9) [] := by
    rw [e]
    refine ⟨by simp, by simp, fun r => ?_⟩
    constructor
    · intro hr
      cases hr
    · rintro ⟨c, hc⟩
      rw [cnt_cons] at hc
      have hc : 2 ≤ 0 + (bif ((0 : Int) == r) && ((1 : Int) == c) then 1 else 0) := hc
      cases h0 : (((0 : Int) == r) && ((1 : Int) == c)) <;> rw [h0] at hc <;> simp at hc
  rw [report_Liars_of (by decide) hq]
  simp [sortI]
theorem sane_read : report_Read (report_Text (allongelaw50_fact 0 1 1)) = (allongelaw50_fact 0 1 1, true) := read_text (fact_I64' _ _ _ rfl) rfl
theorem sane_bad : (report_Read (report_Text (allongelaw50_fact 0 1 1) ++ (⟨#[48, 59]⟩ : ByteArray))).2 = false := by
  have hA : (allongelaw50_fact 0 1 1).I64 := fact_I64' _ _ _ rfl
  have hr : report_Right (allongelaw50_fact 0 1 1) = true := rfl
  cases h : (report_Read (report_Text (allongelaw50_fact 0 1 1) ++ (⟨#[48, 59]⟩ : ByteArray))).2 with
  | false => rfl
  | true =>
    have hs : (report_Text (allongelaw50_fact 0 1 1) ++ (⟨#[48, 59]⟩ : ByteArray)).size ≤ 1000000 := by rw [fact_text]; exact (by decide : (22 : Nat) ≤ 1000000)
    obtain ⟨h1, h2, h3, -⟩ := read_back hs (a := (report_Read (report_Text (allongelaw50_fact 0 1 1) ++ (⟨#[48, 59]⟩ : ByteArray))).1) (by rw [← h])
    generalize (report_Read (report_Text (allongelaw50_fact 0 1 1) ++ (⟨#[48, 59]⟩ : ByteArray))).1 = a at *
    have e : (report_Text (allongelaw50_fact 0 1 1) ++ (⟨#[48, 59]⟩ : ByteArray)).data.toList = rpT (allongelaw50_fact 0 1 1) ++ [48, 59] := by simp [rpT]
    rw [e, rpT_right h1, rpT_right hr] at h2
    have l1 := repL_len a
    have l2 := repL_len (allongelaw50_fact 0 1 1)
    have := (intsL_inj (t := []) (u := [48, 59]) (by omega) (by omega) (repL_I64 h3) (repL_I64 hA) (by rw [List.append_nil]; exact h2)).2
    cases this
theorem sane_true : allongelaw50_sane = true := by
  have e : allongelaw50_sane = (((((((((((allongeref50_SameReports (report_Known sL 9) [allongelaw50_fact 0 1 1]) && ((((report_Known sL 10).length : Nat) : Int) == 2)) && ((((report_Known sL 8).length : Nat) : Int) == 0)) && ((((((report_Known sT 9).length : Nat) : Int) == 0) && allongeref15_Same (report_Liars sT 9) [0]) && ((((report_Liars sL 9).length : Nat) : Int) == 0))) && (report_Read (report_Text (allongelaw50_fact 0 1 1))).2) && (eqCs (Report.cells (report_Read (report_Text (allongelaw50_fact 0 1 1))).1) (Report.cells (allongelaw50_fact 0 1 1)))) && (!(report_Read (report_Text (allongelaw50_fact 0 1 1) ++ (⟨#[48, 59]⟩ : ByteArray))).2)) && report_Right (allongelaw50_fact 0 1 1)) && ((report_Text (allongelaw50_fact 0 1 1)).toList == (⟨#[57, 59, 48, 59, 49, 59, 53, 59, 52, 59, 51, 59, 48, 59, 48, 59, 49, 59, 49, 59]⟩ : ByteArray).toList)) && report_Convicts (allongelaw50_fact 0 1 1) (allongelaw50_fact 0 1 0)) && (!report_Convicts (allongelaw50_fact 0 1 1) (allongelaw50_fact 1 1 1))) := by
    unfold allongelaw50_sane allongelaw50_sane_sk
    simp only [Sk.val_r, Sk.val_fz]
    rfl
  rw [e, sane_known9, sane_known10, sane_known8, sane_knownT, sane_liarsT, sane_liarsL, sane_bad, sane_read, fact_text]
  have c1 : allongeref50_SameReports [allongelaw50_fact 0 1 1] [allongelaw50_fact 0 1 1] = true := rfl
  have c2 : allongeref15_Same [0] [0] = true := rfl
  have c3 : eqCs (Report.cells (allongelaw50_fact 0 1 1)) (Report.cells (allongelaw50_fact 0 1 1)) = true := rfl
  have c4 : report_Right (allongelaw50_fact 0 1 1) = true := rfl
  have c5 : report_Convicts (allongelaw50_fact 0 1 1) (allongelaw50_fact 0 1 0) = true := rfl
  have c6 : report_Convicts (allongelaw50_fact 0 1 1) (allongelaw50_fact 1 1 1) = false := rfl
  simp only [c1, c2, c3, c4, c5, c6, List.length_nil, Int.cast_ofNat_Int, beq_self_eq_true, Bool.and_self, Bool.not_false]
/-! the law of the order of arrivals -/
def OrdH (l : List Arrival) (swaps : List Int) (liar : Int) (lies : List Arrival) : Prop := (∀ a, a ∈ l → a.report.I64) ∧ (∀ a, a ∈ lies → a.report.I64) ∧ (∀ s, s ∈ swaps → 0 ≤ s ∧ s < 256) ∧ 0 ≤ liar ∧ liar < 256
def SwI (l o : List Arrival) (i : Int) : Prop := 0 ≤ i ∧ i ≤ 200 ∧ o.length ≤ 150 ∧ ∀ x, x ∈ o ↔ x ∈ l
def FoundAt (two : List Arrival) (day : Int) (x : Arrival) : Prop := agC day x = true → ∃ y, y ∈ two ∧ y.report = x.report ∧ y.registry ≠ x.registry ∧ agC day y = true
abbrev notOne (one : Int) (x : Arrival) : Bool := x.registry != one
abbrev asOne (one : Int) (x : Arrival) : Arrival := { x with registry := one }
theorem within_iff (i n : Int) : report_within i n = true ↔ 0 ≤ i ∧ i < n := by
  have e : report_within i n = ((decide (i ≥ 0)) && (decide (i < n))) := rfl
  rw [e, Bool.and_eq_true, decide_eq_true_eq, decide_eq_true_eq]
theorem in50_iff (i a b : Int) : allongeref50_in i a b = true ↔ a ≤ i ∧ i ≤ b := by
  have e : allongeref50_in i a b = ((decide (i ≥ a)) && (decide (i ≤ b))) := rfl
  rw [e, Bool.and_eq_true, decide_eq_true_eq, decide_eq_true_eq]
theorem right_eq (x : Report) : report_Right x = bif (((((!report_within x.reporter 200) || (!report_within x.no 10000)) || (!report_within x.day 100001)) || (!report_within x.body.kind 5)) || (!report_within x.body.bill 50)) then false else bif !(eqCs (Body.cells (report_body x.body.kind x.body.bill x.body.index (numL x.body)).1) (Body.cells x.body)) then false else (bif x.body.kind == 0 then (x.body.index == 0) && (x.body.paper.day == x.day) else bif x.body.kind == 1 then ((decide (x.body.index > 0)) && (decide (x.body.index < 40))) && (x.body.sign.day == x.day) else bif x.body.kind == 2 then report_within x.body.index 100 && (x.body.act.day == x.day) else bif x.body.kind == 3 then report_within x.body.index 4 else x.body.index == 0) := by
  have hn := report_numbers_post x.body
  dsimp only at hn
  rw [← hn]
  rfl
/-- a right report, part by part -/
def RightP (x : Report) : Prop := (0 ≤ x.reporter ∧ x.reporter < 200) ∧ (0 ≤ x.no ∧ x.no < 10000) ∧ (0 ≤ x.day ∧ x.day < 100001) ∧ (0 ≤ x.body.bill ∧ x.body.bill < 50) ∧
  ((x.body.kind = 0 ∧ x.body = { (default : Body) with kind := 0, bill := x.body.bill, index := 0, paper := x.body.paper, sign := { (default : Sign) with flags := x.body.sign.flags } } ∧ x.body.paper.day = x.day) ∨
   (x.body.kind = 1 ∧ x.body = { (default : Body) with kind := 1, bill := x.body.bill, index := x.body.index, sign := x.body.sign } ∧ (0 < x.body.index ∧ x.body.index < 40) ∧ x.body.sign.day = x.day) ∨
   (x.body.kind = 2 ∧ x.body = { (default : Body) with kind := 2, bill := x.body.bill, index := x.body.index, act := x.body.act } ∧ (0 ≤ x.body.index ∧ x.body.index < 100) ∧ x.body.act.day = x.day) ∨
   (x.body.kind = 3 ∧ x.body = { (default : Body) with kind := 3, bill := x.body.bill, index := x.body.index, alter := x.body.alter } ∧ 0 ≤ x.body.index ∧ x.body.index < 4) ∨
   (x.body.kind = 4 ∧ x.body = { (default : Body) with kind := 4, bill := x.body.bill, index := 0, fact := x.body.fact }))
theorem condF {c y : Bool} : ((bif c then false else y) = true) ↔ (c = false ∧ y = true) := by cases c <;> simp
theorem eqBody {a b : Body} : (!(eqCs (Body.cells a) (Body.cells b))) = false ↔ a = b := by
  rw [Bool.not_eq_false']
  exact ⟨fun h => Body.cells_inj (eqCs_eq rfl rfl h), fun h => by subst h; exact eqCs_rfl rfl⟩
theorem body_own {B : Body} (hk : 0 ≤ B.kind ∧ B.kind < 5) : (report_body B.kind B.bill B.index (numL B)).1 = bif B.kind == 0 then { (default : Body) with kind := B.kind, bill := B.bill, index := B.index, paper := B.paper, sign := { (default : Sign) with flags := B.sign.flags } } else bif B.kind == 1 then { (default : Body) with kind := B.kind, bill := B.bill, index := B.index, sign := B.sign } else bif B.kind == 2 then { (default : Body) with kind := B.kind, bill := B.bill, index := B.index, act := B.act } else bif B.kind == 3 then { (default : Body) with kind := B.kind, bill := B.bill, index := B.index, alter := B.alter } else { (default : Body) with kind := B.kind, bill := B.bill, index := B.index, fact := B.fact } := by
  have hn := report_numbers_post { (default : Body) with kind := B.kind, bill := B.bill, index := B.index }
  dsimp only at hn
  have hl := numL_n { (default : Body) with kind := B.kind, bill := B.bill, index := B.index }
  have hc : (((decide (B.kind < 0)) || (decide (B.kind ≥ 5))) || ((((numL B).length : Nat) : Int) != ((numN B.kind : Nat) : Int))) = false := by
    rw [numL_n, bne_self_eq_false, Bool.or_false, Bool.or_eq_false_iff, decide_eq_false_iff_not, decide_eq_false_iff_not]
    omega
  rw [body_eq, hn, hl]
  rw [hc, cond_false]
  unfold numL
  cases B.kind == 0 <;> cases B.kind == 1 <;> cases B.kind == 2 <;> cases B.kind == 3 <;> rfl
theorem right_iff (x : Report) : report_Right x = true ↔ RightP x := by
  rw [right_eq, condF, condF, eqBody]
  simp only [Bool.or_eq_false_iff, Bool.not_eq_false', within_iff]
  unfold RightP
  constructor
  · rintro ⟨⟨⟨⟨⟨h1, h2⟩, h3⟩, h4⟩, h5⟩, hb, hf⟩
    rw [body_own h4] at hb
    refine ⟨h1, h2, h3, h5, ?_⟩
    have h6 : x.body.kind = 0 ∨ x.body.kind = 1 ∨ x.body.kind = 2 ∨ x.body.kind = 3 ∨ x.body.kind = 4 := by omega
    rcases h6 with k | k | k | k | k <;> rw [k] at hb hf
    · obtain ⟨f1, f2⟩ : x.body.index = 0 ∧ x.body.paper.day = x.day := by simpa using hf
      refine .inl ⟨k, ?_, f2⟩
      rw [f1] at hb
      exact hb.symm
    · have hf : (decide (x.body.index > 0) && decide (x.body.index < 40) && (x.body.sign.day == x.day)) = true := hf
      simp only [Bool.and_eq_true, decide_eq_true_eq, beq_iff_eq] at hf
      exact .inr (.inl ⟨k, hb.symm, ⟨hf.1.1, hf.1.2⟩, hf.2⟩)
    · have hf : (report_within x.body.index 100 && (x.body.act.day == x.day)) = true := hf
      simp only [Bool.and_eq_true, within_iff, beq_iff_eq] at hf
      exact .inr (.inr (.inl ⟨k, hb.symm, hf.1, hf.2⟩))
    · have hf : report_within x.body.index 4 = true := hf
      exact .inr (.inr (.inr (.inl ⟨k, hb.symm, (within_iff _ _).1 hf⟩)))
    · have hf : (x.body.index == 0) = true := hf
      have f1 : x.body.index = 0 := by simpa using hf
      rw [f1] at hb
      exact .inr (.inr (.inr (.inr ⟨k, hb.symm⟩)))
  · rintro ⟨h1, h2, h3, h5, h⟩
    rcases h with ⟨k, hb, f2⟩ | ⟨k, hb, f1, f2⟩ | ⟨k, hb, f1, f2⟩ | ⟨k, hb, f1⟩ | ⟨k, hb⟩
    all_goals refine ⟨⟨⟨⟨⟨h1, h2⟩, h3⟩, by omega⟩, h5⟩, ?_, ?_⟩
    all_goals first | rw [body_own (by omega)] | skip
    all_goals rw [k]
    · have f1 : x.body.index = 0 := by rw [hb]
      rw [f1]
      exact hb.symm
    · have f1 : x.body.index = 0 := by rw [hb]
      simp [f1, f2]
    · exact hb.symm
    · show (decide (x.body.index > 0) && decide (x.body.index < 40) && (x.body.sign.day == x.day)) = true
      simp only [Bool.and_eq_true, decide_eq_true_eq, beq_iff_eq]
      exact ⟨f1, f2⟩
    · exact hb.symm
    · show (report_within x.body.index 100 && (x.body.act.day == x.day)) = true
      simp only [Bool.and_eq_true, within_iff, beq_iff_eq]
      exact ⟨f1, f2⟩
    · exact hb.symm
    · show report_within x.body.index 4 = true
      exact (within_iff _ _).2 f1
    · have f1 : x.body.index = 0 := by rw [hb]
      rw [f1]
      exact hb.symm
    · have f1 : x.body.index = 0 := by rw [hb]
      show (x.body.index == 0) = true
      simp [f1]
theorem right_ref {x : Report} (h : RightP x) : allongeref50_Right x = true := by
  obtain ⟨rep, no, day, bo⟩ := x
  obtain ⟨h1, h2, h3, h5, h⟩ := h
  simp only at h1 h2 h3 h5 h
  have i1 : allongeref50_in rep 0 199 = true := (in50_iff _ _ _).2 (by omega)
  have i2 : allongeref50_in no 0 9999 = true := (in50_iff _ _ _).2 (by omega)
  have i3 : allongeref50_in day 0 100000 = true := (in50_iff _ _ _).2 (by omega)
  have i4 : allongeref50_in bo.bill 0 49 = true := (in50_iff _ _ _).2 (by omega)
  unfold allongeref50_Right allongeref50_Right_sk
  simp only [Sk.val_r, Sk.val_br, Sk.val_fin, Ctr.c_v, kk, kp, allongeref50_in_k, kk, kp, Cal.dep, Cal.wh, i1, i2, i3, i4, Bool.not_true, Bool.or_false, cond_false]
  rcases h with ⟨k, hb, f2⟩ | ⟨k, hb, f1, f2⟩ | ⟨k, hb, f1, f2⟩ | ⟨k, hb, f1⟩ | ⟨k, hb⟩
  · obtain ⟨b, p, fl, rfl⟩ : ∃ b p fl, bo = ({ (default : Body) with kind := 0, bill := b, index := 0, paper := p, sign := { (default : Sign) with flags := fl } } : Body) := ⟨_, _, _, hb⟩
    have f2 : p.day = day := f2
    subst f2
    simp
    decide
  · obtain ⟨b, ix, s, rfl⟩ : ∃ b ix s, bo = ({ (default : Body) with kind := 1, bill := b, index := ix, sign := s } : Body) := ⟨_, _, _, hb⟩
    have f2 : s.day = day := f2
    have i5 : allongeref50_in ix 1 39 = true := (in50_iff _ _ _).2 (by have f1 : 0 < ix ∧ ix < 40 := f1; omega)
    subst f2
    simp [i5]
    decide
  · obtain ⟨b, ix, s, rfl⟩ : ∃ b ix s, bo = ({ (default : Body) with kind := 2, bill := b, index := ix, act := s } : Body) := ⟨_, _, _, hb⟩
    have f2 : s.day = day := f2
    have i5 : allongeref50_in ix 0 99 = true := (in50_iff _ _ _).2 (by have f1 : 0 ≤ ix ∧ ix < 100 := f1; omega)
    subst f2
    simp [i5]
    decide
  · obtain ⟨b, ix, s, rfl⟩ : ∃ b ix s, bo = ({ (default : Body) with kind := 3, bill := b, index := ix, alter := s } : Body) := ⟨_, _, _, hb⟩
    have i5 : allongeref50_in ix 0 3 = true := (in50_iff _ _ _).2 (by have f1 : 0 ≤ ix ∧ ix < 4 := f1; omega)
    simp [i5]
    decide
  · obtain ⟨b, s, rfl⟩ : ∃ b s, bo = ({ (default : Body) with kind := 4, bill := b, index := 0, fact := s } : Body) := ⟨_, _, hb⟩
    simp
    decide
theorem counts_eq (x : Arrival) (day : Int) : allongeref50_Counts x day = (((allongeref50_in x.registry 0 2 && (decide (x.day ≥ x.report.day))) && (decide (x.day ≤ day))) && allongeref50_Right x.report) := rfl
theorem counts_of {x : Arrival} {day : Int} (h : agC day x = true) : allongeref50_Counts x day = true := by
  unfold agC at h
  simp only [Bool.and_eq_true, decide_eq_true_eq] at h
  rw [counts_eq, right_ref ((right_iff _).1 h.2), (in50_iff _ _ _).2 (by omega : (0 : Int) ≤ x.registry ∧ x.registry ≤ 2), decide_eq_true h.1.2, decide_eq_true h.1.1.2]
  rfl
theorem counts_ag {x y : Arrival} {day : Int} (h : agC day x = true) (e : y.report = x.report) (hy : allongeref50_Counts y day = true) : agC day y = true := by
  rw [counts_eq] at hy
  unfold agC at h ⊢
  simp only [Bool.and_eq_true, decide_eq_true_eq, in50_iff] at h hy ⊢
  rw [e]
  rw [e] at hy
  exact ⟨⟨⟨⟨by omega, by omega⟩, by omega⟩, by omega⟩, h.2⟩
/-- what one registry says does not matter, if the two others agree -/
theorem two_agreed {l : List Arrival} {day one : Int} (h : ∀ x, x ∈ l.filter (notOne one) → FoundAt (l.filter (notOne one)) day x) {o : List Arrival} (h1 : ∀ x, x ∈ l.filter (notOne one) → x ∈ o) (h2 : ∀ x, x ∈ o → x.registry ≠ one → x ∈ l.filter (notOne one)) : (agreedL (l.filter (notOne one)) day).Perm (agreedL o day) := by
  refine agreedL_congr fun x => ?_
  rw [agreedL_iff, agreedL_iff]
  constructor
  · rintro ⟨a, b, ha, hb, r⟩
    exact ⟨a, b, h1 a ha, h1 b hb, r⟩
  · rintro ⟨a, b, ha, hb, ca, cb, ra, rb, hab⟩
    have key : ∀ c, c ∈ o → c.registry ≠ one → agC day c = true → c.report = x → ∃ a b, a ∈ l.filter (notOne one) ∧ b ∈ l.filter (notOne one) ∧ agC day a = true ∧ agC day b = true ∧ a.report = x ∧ b.report = x ∧ a.registry ≠ b.registry := fun c hc hn cc rc => by
      obtain ⟨y, hy, e, hne, cy⟩ := h c (h2 c hc hn) cc
      exact ⟨c, y, h2 c hc hn, hy, cc, cy, rc, e.trans rc, fun e => hne e.symm⟩
    by_cases e : a.registry = one
    · exact key b hb (fun e' => hab (e.trans e'.symm)) cb rb
    · exact key a ha e ca ra
theorem take_snoc {α : Type} [Inhabited α] {l : List α} {n : Nat} (h : n < l.length) : l.take (n + 1) = l.take n ++ [l.getD n default] := take_succ_gd h
theorem swap_mem {α : Type} [Inhabited α] {l o : List α} {p q : Nat} (hp : p < o.length) (hq : q < o.length) (h : ∀ x, x ∈ o ↔ x ∈ l) : ∀ x, x ∈ (o.set p (o.getD q default)).set q (o.getD p default) ↔ x ∈ l := by
  intro x
  rw [← h]
  have e : ((o.set p (o.getD q default)).set q (o.getD p default)).Perm o := by
    have := List.set_set_perm (i := p) (j := q) hp hq
    simpa [List.getD, hp, hq] using this
  exact e.mem_iff
theorem sw_at {swaps : List Int} (hs : ∀ s, s ∈ swaps → 0 ≤ s ∧ s < 256) (k : Nat) {n : Nat} (hn : 0 < n) : 0 ≤ (w64 (swaps.getD k default)).tmod (n : Int) ∧ (w64 (swaps.getD k default)).tmod (n : Int) < (n : Int) ∧ ((w64 (swaps.getD k default)).tmod (n : Int)).toNat < n := by
  have h : 0 ≤ swaps.getD k default ∧ swaps.getD k default < 256 := by
    by_cases c : k < swaps.length
    · exact hs _ (lget_mem c _)
    · have : swaps.getD k default = 0 := by simp [List.getD, List.getElem?_eq_none (by omega : swaps.length ≤ k)]
      rw [this]; omega
  rw [w64_id (by omega) (by omega)]
  have h1 := Int.tmod_nonneg (n : Int) h.1
  have h2 := Int.tmod_lt_of_pos (swaps.getD k default) (b := (n : Int)) (by omega)
  exact ⟨h1, h2, by omega⟩
theorem SwI.step {l o : List Arrival} {i : Int} {p q : Nat} (h : SwI l o i) (hi : i + 1 ≤ 200) (hp : p < o.length) (hq : q < o.length) : SwI l ((o.set p (o.getD q default)).set q (o.getD p default)) (w64 (i + 1)) ∧ (200 - w64 (i + 1)).toNat < (200 - i).toNat := by
  obtain ⟨h1, h2, h3, h4⟩ := h
  rw [w64_id (by omega) (by omega)]
  exact ⟨⟨by omega, by omega, by simpa using h3, swap_mem hp hq h4⟩, by omega⟩
theorem SwI.more {l o : List Arrival} {i : Int} {x : Arrival} (h : SwI l o i) (hx : x ∈ l) (ho : o.length < 150) : SwI l (o ++ [x]) i :=
  ⟨h.1, h.2.1, by simp; omega, fun y => by rw [List.mem_append, h.2.2.2, List.mem_singleton]; exact ⟨fun h => h.elim id (fun e => e ▸ hx), .inl⟩⟩

noncomputable def allongelaw50_ReportOrder_sk (r : Realm) (l : List Arrival) (bill : Int) (day : Int) (swaps : List Int) (liar : Int) (lies : List Arrival) : Sk (Bool) :=
 .r 1 allongelaw50_sane_k.c fun x1 =>
 .r 2 (.dep ((allongelaw50_few_k l).c) fun x2 => .dep (.wh (((!x2) || (decide (((swaps.length : Nat) : Int) > 200))) || (decide (((lies.length : Nat) : Int) > 60))) false ((allongeref09_Few_k r).c)) fun x3 => .wh ((((!x2) || (decide (((swaps.length : Nat) : Int) > 200))) || (decide (((lies.length : Nat) : Int) > 60))) || (!x3)) false ((allongeref09_Check_k r).c)) fun p22 =>
 .br (((((!p22.1) || (decide (((swaps.length : Nat) : Int) > 200))) || (decide (((lies.length : Nat) : Int) > 60))) || (!p22.2.1)) || (p22.2.2 != 0))
 (.fin x1)
 (.r 4 (.andl (.o [.nrm (litC Arrival.E ([] : List Arrival))]) (.andl (.o [.nrm (catC Arrival.E ([] : List Arrival) l)]) (.andl (.t (Arrival.E.src l)) (.p (szP (([] : List Arrival).length) l.length 368))))) fun _ =>
 .bind true (fun b5 => b5.length ≤ 150 ∧ ∀ x, x ∈ b5 ↔ x ∈ l)
 (.loop (default : Sum (Bool) ((List Arrival))) (fun i6 => SwI l i6.1 i6.2) (fun i6 => (200 - i6.2).toNat) ((([] : List Arrival) ++ l, 0) : (List Arrival) × Int)
 (fun (i6 : (List Arrival) × Int) => ⟨[(16, ow 100002 i6.1), (17, iv i6.2)], [(100002, rowB 70 46 Arrival.cells i6.1)]⟩) fun i6 =>
 .br ((decide ((w64 (i6.2 + 1)) < ((swaps.length : Nat) : Int))) && (decide (((i6.1.length : Nat) : Int) > 0)))
 (.r 8 (.andl (.p (ixP i6.2 swaps.length)) (.p (((i6.1.length : Nat) : Int) ≠ 0))) fun _ =>
 .r 9 (.andl (.p (ixP (w64 (i6.2 + 1)) swaps.length)) (.p (((i6.1.length : Nat) : Int) ≠ 0))) fun _ =>
 .r 10 (.andl (.p (ixP ((w64 (swaps.getD i6.2.toNat default)).tmod ((i6.1.length : Nat) : Int)) i6.1.length)) (.p (((w64 (swaps.getD i6.2.toNat default)).tmod ((i6.1.length : Nat) : Int)).toNat < i6.1.length))) fun _ =>
 .r 11 (.andl (.p (ixP ((w64 (swaps.getD ((w64 (i6.2 + 1)).toNat) default)).tmod ((i6.1.length : Nat) : Int)) i6.1.length)) (.andl (.p (((w64 (swaps.getD ((w64 (i6.2 + 1)).toNat) default)).tmod ((i6.1.length : Nat) : Int)).toNat < i6.1.length)) (.andl (.p (ixP ((w64 (swaps.getD i6.2.toNat default)).tmod ((i6.1.length : Nat) : Int)) i6.1.length)) (.andl (.o [.nrm (setC Arrival.E i6.1 (((w64 (swaps.getD i6.2.toNat default)).tmod ((i6.1.length : Nat) : Int)).toNat) (i6.1.getD (((w64 (swaps.getD ((w64 (i6.2 + 1)).toNat) default)).tmod ((i6.1.length : Nat) : Int)).toNat) default))]) (.p (((w64 (swaps.getD i6.2.toNat default)).tmod ((i6.1.length : Nat) : Int)).toNat < i6.1.length)))))) fun _ =>
 .wn 100002 i6.1.length (i6.1.set (((w64 (swaps.getD i6.2.toNat default)).tmod ((i6.1.length : Nat) : Int)).toNat) (i6.1.getD (((w64 (swaps.getD ((w64 (i6.2 + 1)).toNat) default)).tmod ((i6.1.length : Nat) : Int)).toNat) default)).length <|
 .r 12 (.andl (.p (ixP ((w64 (swaps.getD ((w64 (i6.2 + 1)).toNat) default)).tmod ((i6.1.length : Nat) : Int)) ((i6.1.set (((w64 (swaps.getD i6.2.toNat default)).tmod ((i6.1.length : Nat) : Int)).toNat) (i6.1.getD (((w64 (swaps.getD ((w64 (i6.2 + 1)).toNat) default)).tmod ((i6.1.length : Nat) : Int)).toNat) default)).length))) (.andl (.o [.nrm (setC Arrival.E (i6.1.set (((w64 (swaps.getD i6.2.toNat default)).tmod ((i6.1.length : Nat) : Int)).toNat) (i6.1.getD (((w64 (swaps.getD ((w64 (i6.2 + 1)).toNat) default)).tmod ((i6.1.length : Nat) : Int)).toNat) default)) (((w64 (swaps.getD ((w64 (i6.2 + 1)).toNat) default)).tmod ((i6.1.length : Nat) : Int)).toNat) (i6.1.getD (((w64 (swaps.getD i6.2.toNat default)).tmod ((i6.1.length : Nat) : Int)).toNat) default))]) (.p (((w64 (swaps.getD ((w64 (i6.2 + 1)).toNat) default)).tmod ((i6.1.length : Nat) : Int)).toNat < (i6.1.set (((w64 (swaps.getD i6.2.toNat default)).tmod ((i6.1.length : Nat) : Int)).toNat) (i6.1.getD (((w64 (swaps.getD ((w64 (i6.2 + 1)).toNat) default)).tmod ((i6.1.length : Nat) : Int)).toNat) default)).length)))) fun _ =>
 .wn 100002 (i6.1.set (((w64 (swaps.getD i6.2.toNat default)).tmod ((i6.1.length : Nat) : Int)).toNat) (i6.1.getD (((w64 (swaps.getD ((w64 (i6.2 + 1)).toNat) default)).tmod ((i6.1.length : Nat) : Int)).toNat) default)).length ((i6.1.set (((w64 (swaps.getD i6.2.toNat default)).tmod ((i6.1.length : Nat) : Int)).toNat) (i6.1.getD (((w64 (swaps.getD ((w64 (i6.2 + 1)).toNat) default)).tmod ((i6.1.length : Nat) : Int)).toNat) default)).set (((w64 (swaps.getD ((w64 (i6.2 + 1)).toNat) default)).tmod ((i6.1.length : Nat) : Int)).toNat) (i6.1.getD (((w64 (swaps.getD i6.2.toNat default)).tmod ((i6.1.length : Nat) : Int)).toNat) default)).length <|
 .r 13 (.p ((5 : Int) ≠ 0)) fun _ =>
 .br (((i6.2.tmod 5) == 0) && (decide (((((i6.1.set (((w64 (swaps.getD i6.2.toNat default)).tmod ((i6.1.length : Nat) : Int)).toNat) (i6.1.getD (((w64 (swaps.getD ((w64 (i6.2 + 1)).toNat) default)).tmod ((i6.1.length : Nat) : Int)).toNat) default)).set (((w64 (swaps.getD ((w64 (i6.2 + 1)).toNat) default)).tmod ((i6.1.length : Nat) : Int)).toNat) (i6.1.getD (((w64 (swaps.getD i6.2.toNat default)).tmod ((i6.1.length : Nat) : Int)).toNat) default)).length : Nat) : Int) < 150)))
 (.r 14 (.andl (.o [.nrm (litC Arrival.E [i6.1.getD (((w64 (swaps.getD i6.2.toNat default)).tmod ((i6.1.length : Nat) : Int)).toNat) default])]) (.andl (.o [.nrm (catC Arrival.E ((i6.1.set (((w64 (swaps.getD i6.2.toNat default)).tmod ((i6.1.length : Nat) : Int)).toNat) (i6.1.getD (((w64 (swaps.getD ((w64 (i6.2 + 1)).toNat) default)).tmod ((i6.1.length : Nat) : Int)).toNat) default)).set (((w64 (swaps.getD ((w64 (i6.2 + 1)).toNat) default)).tmod ((i6.1.length : Nat) : Int)).toNat) (i6.1.getD (((w64 (swaps.getD i6.2.toNat default)).tmod ((i6.1.length : Nat) : Int)).toNat) default)) [i6.1.getD (((w64 (swaps.getD i6.2.toNat default)).tmod ((i6.1.length : Nat) : Int)).toNat) default])]) (.andl (.t (Arrival.E.ones [i6.1.getD (((w64 (swaps.getD i6.2.toNat default)).tmod ((i6.1.length : Nat) : Int)).toNat) default])) (.p (szP (((i6.1.set (((w64 (swaps.getD i6.2.toNat default)).tmod ((i6.1.length : Nat) : Int)).toNat) (i6.1.getD (((w64 (swaps.getD ((w64 (i6.2 + 1)).toNat) default)).tmod ((i6.1.length : Nat) : Int)).toNat) default)).set (((w64 (swaps.getD ((w64 (i6.2 + 1)).toNat) default)).tmod ((i6.1.length : Nat) : Int)).toNat) (i6.1.getD (((w64 (swaps.getD i6.2.toNat default)).tmod ((i6.1.length : Nat) : Int)).toNat) default)).length) [i6.1.getD (((w64 (swaps.getD i6.2.toNat default)).tmod ((i6.1.length : Nat) : Int)).toNat) default].length 368))))) fun _ =>
 .fin (.inr (((i6.1.set (((w64 (swaps.getD i6.2.toNat default)).tmod ((i6.1.length : Nat) : Int)).toNat) (i6.1.getD (((w64 (swaps.getD ((w64 (i6.2 + 1)).toNat) default)).tmod ((i6.1.length : Nat) : Int)).toNat) default)).set (((w64 (swaps.getD ((w64 (i6.2 + 1)).toNat) default)).tmod ((i6.1.length : Nat) : Int)).toNat) (i6.1.getD (((w64 (swaps.getD i6.2.toNat default)).tmod ((i6.1.length : Nat) : Int)).toNat) default)) ++ [i6.1.getD (((w64 (swaps.getD i6.2.toNat default)).tmod ((i6.1.length : Nat) : Int)).toNat) default], w64 (i6.2 + 1))))
 (.fin (.inr ((i6.1.set (((w64 (swaps.getD i6.2.toNat default)).tmod ((i6.1.length : Nat) : Int)).toNat) (i6.1.getD (((w64 (swaps.getD ((w64 (i6.2 + 1)).toNat) default)).tmod ((i6.1.length : Nat) : Int)).toNat) default)).set (((w64 (swaps.getD ((w64 (i6.2 + 1)).toNat) default)).tmod ((i6.1.length : Nat) : Int)).toNat) (i6.1.getD (((w64 (swaps.getD i6.2.toNat default)).tmod ((i6.1.length : Nat) : Int)).toNat) default), w64 (i6.2 + 1)))))
 (.fin (.inl (.inr i6.1))))
 (fun (b5 : (List Arrival)) => ⟨[(16, ow 100001 b5)], [(100001, rowB 70 46 Arrival.cells b5)]⟩) fun b5 =>
 .r 15 ((allongelaw50_same_k r l b5 bill day).c) fun x7 =>
 .br (!x7)
 (.fin false)
 (.r 17 (.p ((3 : Int) ≠ 0)) fun _ =>
 .bind true (fun b8 => b8 = l.filter (notOne (w64 (liar.tmod 3))))
 (.loop (default : Sum (Bool) ((List Arrival))) (fun i9 => i9.2 ≤ l.length ∧ i9.1 = (l.take i9.2).filter (notOne (w64 (liar.tmod 3)))) (fun i9 => l.length - i9.2) (([], 0) : (List Arrival) × Nat)
 (fun (i9 : (List Arrival) × Nat) => ⟨[(22, ow 100005 i9.1), (23, iv ((i9.2 : Nat) : Int))], [(100005, rowB 70 46 Arrival.cells i9.1)]⟩) fun i9 =>
 .lt 1 0 i9.2 l.length
 (.r 22 (.p (ixP ((i9.2 : Nat) : Int) l.length)) fun _ =>
 .br (((l.getD i9.2 default).registry) != (w64 (liar.tmod 3)))
 (.r 23 (.andl (.p (ixP ((i9.2 : Nat) : Int) l.length)) (.andl (.o [.nrm (litC Arrival.E [l.getD i9.2 default])]) (.andl (.o [.nrm (catC Arrival.E i9.1 [l.getD i9.2 default])]) (.andl (.t (Arrival.E.ones [l.getD i9.2 default])) (.p (szP i9.1.length [l.getD i9.2 default].length 368)))))) fun _ =>
 .nx 21 23 i9.2 (i9.1 ++ [l.getD i9.2 default], i9.2 + 1))
 (.nx 21 23 i9.2 (i9.1, i9.2 + 1)))
 (.fin (.inl (.inr i9.1))))
 (fun (b8 : (List Arrival)) => ⟨[(22, ow 100004 b8)], [(100004, rowB 70 46 Arrival.cells b8)]⟩) fun b8 =>
 .bind true (fun b10 => ∀ x, x ∈ b8 → FoundAt b8 day x)
 (.loop (default : Sum (Bool) (Unit)) (fun i11 => i11 ≤ b8.length ∧ ∀ q, q < i11 → FoundAt b8 day (b8.getD q default)) (fun i11 => b8.length - i11) (0 : Nat)
 (fun (i11 : Nat) => ⟨[(24, iv ((i11 : Nat) : Int))], []⟩) fun i11 =>
 .lt 22 0 i11 b8.length
 (.bind true (fun b12 => FoundAt b8 day (b8.getD i11 default))
 (.r 27 (.andl (.p (ixP ((i11 : Nat) : Int) b8.length)) (.andl (.p (i11 < b8.length)) ((allongeref50_Counts_k (b8.getD i11 default) day).c))) fun x13 =>
 .bind true (fun b14 => b14.1 = true → FoundAt b8 day (b8.getD i11 default))
 (.loop (default : Sum (Sum (Sum (Sum (Bool) (Unit)) (Nat)) (Unit)) (Bool × Int)) (fun i15 => i15.2 ≤ b8.length ∧ (i15.1 = true → FoundAt b8 day (b8.getD i11 default))) (fun i15 => b8.length - i15.2) ((!x13, 0) : Bool × Nat)
 (fun (i15 : Bool × Nat) => ⟨[(25, bv i15.1), (26, iv ((i15.2 : Nat) : Int))], []⟩) fun i15 =>
 .lt 22 0 i15.2 b8.length
 (.r 31 (.andl (.p (ixP ((i15.2 : Nat) : Int) b8.length)) (.andl (.p (i15.2 < b8.length)) (.andl (.p (ixP ((i11 : Nat) : Int) b8.length)) (.andl (.p (i11 < b8.length)) (.andl (.wh (eqCs (Report.cells ((b8.getD i15.2 default).report)) (Report.cells ((b8.getD i11 default).report))) true (.p (ixP ((i15.2 : Nat) : Int) b8.length))) (.andl (.wh (eqCs (Report.cells ((b8.getD i15.2 default).report)) (Report.cells ((b8.getD i11 default).report))) true (.p (i15.2 < b8.length))) (.andl (.wh (eqCs (Report.cells ((b8.getD i15.2 default).report)) (Report.cells ((b8.getD i11 default).report))) true (.p (ixP ((i11 : Nat) : Int) b8.length))) (.andl (.wh (eqCs (Report.cells ((b8.getD i15.2 default).report)) (Report.cells ((b8.getD i11 default).report))) true (.p (i11 < b8.length))) (.andl (.wh ((eqCs (Report.cells ((b8.getD i15.2 default).report)) (Report.cells ((b8.getD i11 default).report))) && (((b8.getD i15.2 default).registry) != ((b8.getD i11 default).registry))) true (.p (ixP ((i15.2 : Nat) : Int) b8.length))) (.andl (.wh ((eqCs (Report.cells ((b8.getD i15.2 default).report)) (Report.cells ((b8.getD i11 default).report))) && (((b8.getD i15.2 default).registry) != ((b8.getD i11 default).registry))) true (.p (i15.2 < b8.length))) (.wh ((eqCs (Report.cells ((b8.getD i15.2 default).report)) (Report.cells ((b8.getD i11 default).report))) && (((b8.getD i15.2 default).registry) != ((b8.getD i11 default).registry))) true ((allongeref50_Counts_k (b8.getD i15.2 default) day).c)))))))))))) fun x16 =>
 .br (((eqCs (Report.cells ((b8.getD i15.2 default).report)) (Report.cells ((b8.getD i11 default).report))) && (((b8.getD i15.2 default).registry) != ((b8.getD i11 default).registry))) && x16)
 (.nx 30 26 i15.2 (true, i15.2 + 1))
 (.nx 30 26 i15.2 (i15.1, i15.2 + 1)))
 (.fin (.inl (.inr (i15.1, ((i15.2 : Nat) : Int))))))
 (fun (b14 : Bool × Int) => ⟨[(25, bv b14.1), (26, iv b14.2)], []⟩) fun b14 =>
 .br (!b14.1)
 (.fin (.inl (.inl (.inl x1))))
 (.fin (.inr ())))
 (fun (_ : Unit) => ⟨[], []⟩) fun _ =>
 .nx 26 24 i11 (i11 + 1))
 (.fin (.inl (.inr ()))))
 (fun (_ : Unit) => ⟨[], []⟩) fun _ =>
 .r 35 (.andl (.o [.nrm (litC Arrival.E ([] : List Arrival))]) (.andl (.o [.nrm (catC Arrival.E ([] : List Arrival) b8)]) (.andl (.t (Arrival.E.ones b8)) (.p (szP (([] : List Arrival).length) b8.length 368))))) fun _ =>
 .bind true (fun b17 => b17 = b8 ++ lies.map (asOne (w64 (liar.tmod 3))))
 (.loop (default : Sum (Bool) ((List Arrival))) (fun i18 => i18.2 ≤ lies.length ∧ i18.1 = b8 ++ (lies.take i18.2).map (asOne (w64 (liar.tmod 3)))) (fun i18 => lies.length - i18.2) ((([] : List Arrival) ++ b8, 0) : (List Arrival) × Nat)
 (fun (i18 : (List Arrival) × Nat) => ⟨[(27, ow 100008 i18.1), (28, iv ((i18.2 : Nat) : Int))], [(100008, rowB 70 46 Arrival.cells i18.1)]⟩) fun i18 =>
 .lt 6 0 i18.2 lies.length
 (.r 39 (.p (ixP ((i18.2 : Nat) : Int) lies.length)) fun _ =>
 .r 41 (.andl (.o [.nrm (litC Arrival.E [{ lies.getD i18.2 default with registry := w64 (liar.tmod 3) }])]) (.andl (.o [.nrm (catC Arrival.E i18.1 [{ lies.getD i18.2 default with registry := w64 (liar.tmod 3) }])]) (.andl (.t (Arrival.E.ones [{ lies.getD i18.2 default with registry := w64 (liar.tmod 3) }])) (.p (szP i18.1.length [{ lies.getD i18.2 default with registry := w64 (liar.tmod 3) }].length 368))))) fun _ =>
 .nx 38 28 i18.2 (i18.1 ++ [{ lies.getD i18.2 default with registry := w64 (liar.tmod 3) }], i18.2 + 1))
 (.fin (.inl (.inr i18.1))))
 (fun (b17 : (List Arrival)) => ⟨[(27, ow 100007 b17)], [(100007, rowB 70 46 Arrival.cells b17)]⟩) fun b17 =>
 .r 42 (.dep (.wh x1 true ((allongelaw50_same_k r l b8 bill day).c)) fun x19 => .wh (x1 && x19) true ((allongelaw50_same_k r b8 b17 bill day).c)) fun p21 =>
 .fin ((x1 && p21.1) && p21.2)))
noncomputable def allongelaw50_ReportOrder r l bill day swaps liar lies := (allongelaw50_ReportOrder_sk r l bill day swaps liar lies).val
theorem allongelaw50_ReportOrder_pst (r : Realm) (l : List Arrival) (bill : Int) (day : Int) (swaps : List Int) (liar : Int) (lies : List Arrival) (hP : OrdH l swaps liar lies) : (allongelaw50_ReportOrder_sk r l bill day swaps liar lies).pst (fun (x : Bool) => x = true) := by
  unfold allongelaw50_ReportOrder_sk
  obtain ⟨hl, hi, hs, hw⟩ := hP
  have st : ∀ {i n : Nat}, decide ((i : Int) < (n : Int)) = true → i < n := fun h => by have h := of_decide_eq_true h; omega
  have sf : ∀ {i n : Nat}, decide ((i : Int) < (n : Int)) = false → n ≤ i := fun h => by have h := of_decide_eq_false h; omega
  refine fun x1 e1 _ => fun p22 hp _ => ⟨fun _ => ?_, fun hc => ?_⟩
  · have e1 : x1 = allongelaw50_sane := e1
    show x1 = true
    rw [e1, sane_true]
  have hp : p22 = (allongelaw50_few l, allongeref09_Few r, allongeref09_Check r) := hp
  subst hp
  simp only [Bool.or_eq_false_iff, Bool.not_eq_false', decide_eq_false_iff_not, allongelaw50_few_eq, decide_eq_true_eq] at hc
  obtain ⟨⟨⟨⟨hl1, hl2⟩, hl3⟩, hf⟩, -⟩ := hc
  have l1 : l.length ≤ 120 := by omega
  have l2 : swaps.length ≤ 200 := by omega
  have l3 : lies.length ≤ 60 := by omega
  refine fun _ _ _ => ⟨⟨⟨by show (0 : Int) ≤ 0; decide, by show (0 : Int) ≤ 200; decide, by show (([] : List Arrival) ++ l).length ≤ 150; simp; omega, fun x => by show x ∈ ([] : List Arrival) ++ l ↔ x ∈ l; simp⟩, fun i6 h6 => ⟨fun hc => ?_, fun _ => ⟨h6.2.2.1, h6.2.2.2⟩⟩⟩, fun b5 _ h5 => ?_⟩
  · simp only [Bool.and_eq_true, decide_eq_true_eq] at hc
    obtain ⟨c1, c2⟩ := hc
    have c1' := c1
    have g1 := h6.1
    have g2 := h6.2.1
    rw [w64_id (by omega) (by omega)] at c1'
    have c3 : 0 < i6.1.length := by omega
    have P := sw_at hs i6.2.toNat c3
    have Q := sw_at hs (w64 (i6.2 + 1)).toNat c3
    have S := h6.step (by omega) P.2.2 Q.2.2
    refine fun _ _ _ => fun _ _ _ => fun _ _ _ => fun _ _ _ => fun _ _ _ => fun _ _ _ => ⟨fun hc => ?_, fun hc => S⟩
    simp only [Bool.and_eq_true, decide_eq_true_eq] at hc
    have c4 := hc.2
    have hx := (h6.2.2.2 (i6.1.getD ((w64 (swaps.getD i6.2.toNat default)).tmod ((i6.1.length : Nat) : Int)).toNat default)).1 (lget_mem P.2.2 _)
    exact fun _ _ _ => ⟨S.1.more hx (by omega), S.2⟩
  have i5 : ∀ x, x ∈ b5 → x.report.I64 := fun x hx => hl x ((h5.2 x).1 hx)
  refine fun x7 e7 _ => ⟨fun h7 => ?_, fun _ => fun _ _ _ => ⟨⟨⟨Nat.zero_le _, rfl⟩, fun i9 h9 => ⟨fun hc => ?_, fun hc => ?_⟩⟩, fun b8 _ h8 => ?_⟩⟩
  · have e7 : x7 = allongelaw50_same r l b5 bill day := e7
    rw [same_true (by omega) (by have := h5.1; omega) hl i5 (agreedL_set day fun x => (h5.2 x).symm)] at e7
    rw [e7] at h7
    cases h7
  · have hc := st hc
    have et := take_snoc hc
    refine fun _ _ _ => ⟨fun hd => fun _ _ _ => fun _ _ _ => ⟨⟨by show i9.2 + 1 ≤ l.length; omega, ?_⟩, by show l.length - (i9.2 + 1) < l.length - i9.2; omega⟩, fun hd => fun _ _ _ => ⟨⟨by show i9.2 + 1 ≤ l.length; omega, ?_⟩, by show l.length - (i9.2 + 1) < l.length - i9.2; omega⟩⟩
    · show i9.1 ++ [l.getD i9.2 default] = (l.take (i9.2 + 1)).filter _
      rw [et, List.filter_append, ← h9.2, List.filter_cons, if_pos hd]
      rfl
    · show i9.1 = (l.take (i9.2 + 1)).filter _
      rw [et, List.filter_append, ← h9.2, List.filter_cons, if_neg (by rw [show notOne (w64 (liar.tmod 3)) (l.getD i9.2 default) = false from hd]; decide)]
      simp
  · have hc := sf hc
    have h9' := h9.2
    rw [List.take_of_length_le hc] at h9'
    exact h9'
  have h8 : b8 = l.filter (notOne (w64 (liar.tmod 3))) := h8
  have l8 : b8.length ≤ 120 := by rw [h8]; have := List.length_filter_le (notOne (w64 (liar.tmod 3))) l; omega
  have i8 : ∀ x, x ∈ b8 → x.report.I64 := fun x hx => by rw [h8] at hx; exact hl x (List.mem_filter.1 hx).1
  refine ⟨⟨⟨Nat.zero_le _, fun q hq => absurd hq (Nat.not_lt_zero _)⟩, fun i11 h11 => ⟨fun hc => ?_, fun hc => ?_⟩⟩, fun _ _ h2 => ?_⟩
  · have hc := st hc
    refine ⟨fun x13 e13 _ => ⟨⟨⟨Nat.zero_le _, fun hx ha => ?_⟩, fun i15 h15 => ⟨fun hd => ?_, fun _ => h15.2⟩⟩, fun b14 _ h14 => ⟨fun _ => ?_, fun hb => h14 (by simpa using hb)⟩⟩, fun _ _ h3 => fun _ _ _ => ⟨⟨by show i11 + 1 ≤ b8.length; omega, fun q hq => ?_⟩, by show b8.length - (i11 + 1) < b8.length - i11; omega⟩⟩
    · have e13 : x13 = allongeref50_Counts (b8.getD i11 default) day := e13
      rw [counts_of ha] at e13
      rw [e13] at hx
      cases hx
    · have hd := st hd
      have hm : b8.length - (i15.2 + 1) < b8.length - i15.2 := by omega
      refine fun x16 e16 _ => ⟨fun hb => fun _ _ _ => ⟨⟨by show i15.2 + 1 ≤ b8.length; omega, fun _ ha => ?_⟩, hm⟩, fun _ => fun _ _ _ => ⟨⟨by show i15.2 + 1 ≤ b8.length; omega, h15.2⟩, hm⟩⟩
      simp only [Bool.and_eq_true, bne_iff_ne, ne_eq] at hb
      have e16 : x16 = allongeref50_Counts (b8.getD i15.2 default) day := e16
      have e := Report.cells_inj (eqCs_eq rfl rfl hb.1.1)
      exact ⟨_, lget_mem hd _, e, hb.1.2, counts_ag ha e (by rw [← e16]; exact hb.2)⟩
    · have e1 : x1 = allongelaw50_sane := e1
      show x1 = true
      rw [e1, sane_true]
    · by_cases e : q = i11
      · subst e; exact h3
      · exact h11.2 q (by have hq : q < i11 + 1 := hq; omega)
  · have hc := sf hc
    intro x hx
    obtain ⟨q, hq, rfl⟩ := List.getElem_of_mem hx
    have := h11.2 q (by omega)
    rwa [show b8.getD q default = b8[q] by simp [List.getD, hq]] at this
  refine fun _ _ _ => ⟨⟨⟨Nat.zero_le _, by show ([] : List Arrival) ++ b8 = b8 ++ (lies.take 0).map _; simp⟩, fun i18 h18 => ⟨fun hc => ?_, fun hc => ?_⟩⟩, fun b17 _ h17 => fun p21 e21 _ => ?_⟩
  · have hc := st hc
    refine fun _ _ _ => fun _ _ _ => fun _ _ _ => ⟨⟨by show i18.2 + 1 ≤ lies.length; omega, ?_⟩, by show lies.length - (i18.2 + 1) < lies.length - i18.2; omega⟩
    show i18.1 ++ [asOne (w64 (liar.tmod 3)) (lies.getD i18.2 default)] = b8 ++ (lies.take (i18.2 + 1)).map _
    rw [take_snoc hc, List.map_append, ← List.append_assoc, ← h18.2]
    rfl
  · have hc := sf hc
    have h := h18.2
    rw [List.take_of_length_le hc] at h
    exact h
  have h17 : b17 = b8 ++ lies.map (asOne (w64 (liar.tmod 3))) := h17
  have i17 : ∀ x, x ∈ b17 → x.report.I64 := fun x hx => by
    rw [h17, List.mem_append] at hx
    rcases hx with hx | hx
    · exact i8 x hx
    · obtain ⟨y, hy, rfl⟩ := List.mem_map.1 hx
      exact hi y hy
  have l17 : b17.length ≤ 180 := by rw [h17]; simp; omega
  have e1 : x1 = allongelaw50_sane := e1
  have e21 : p21 = (allongelaw50_same r l b8 bill day, allongelaw50_same r b8 b17 bill day) := e21
  have h2 : ∀ x, x ∈ b8 → FoundAt b8 day x := h2
  have s1 : allongelaw50_same r l b8 bill day = true := by
    rw [h8] at h2 i8 l8 ⊢
    exact same_true (by omega) (by omega) hl i8 (two_agreed h2 (fun x hx => (List.mem_filter.1 hx).1) (fun x hx hn => List.mem_filter.2 ⟨hx, by simpa using hn⟩)).symm
  have s2 : allongelaw50_same r b8 b17 bill day = true := by
    refine same_true (by omega) (by omega) i8 i17 ?_
    rw [h17]
    rw [h8] at h2 ⊢
    refine two_agreed h2 (fun x hx => List.mem_append_left _ hx) (fun x hx hn => ?_)
    rcases List.mem_append.1 hx with hx | hx
    · exact hx
    · obtain ⟨y, hy, rfl⟩ := List.mem_map.1 hx
      exact absurd rfl hn
  rw [e1, e21]
  show ((allongelaw50_sane && allongelaw50_same r l b8 bill day) && allongelaw50_same r b8 b17 bill day) = true
  rw [sane_true, s1, s2]
  rfl

theorem allongelaw50_ReportOrder_post (r : Realm) (l : List Arrival) (bill : Int) (day : Int) (swaps : List Int) (liar : Int) (lies : List Arrival) : (fun (x : Bool) => (OrdH l swaps liar lies) → (x = true)) (allongelaw50_ReportOrder r l bill day swaps liar lies) := fun hP => have h := Sk.pval _ (allongelaw50_ReportOrder_pst r l bill day swaps liar lies hP); h
theorem allongelaw50_ReportOrder_ok (r : Realm) (l : List Arrival) (bill : Int) (day : Int) (swaps : List Int) (liar : Int) (lies : List Arrival) (hH : OrdH l swaps liar lies) : (allongelaw50_ReportOrder_sk r l bill day swaps liar lies).obs (fun _ => True) := by
  unfold allongelaw50_ReportOrder_sk
  obtain ⟨hl, hi, hs, hw⟩ := hH
  have st : ∀ {i n : Nat}, decide ((i : Int) < (n : Int)) = true → i < n := fun h => by have h := of_decide_eq_true h; omega
  have sf : ∀ {i n : Nat}, decide ((i : Int) < (n : Int)) = false → n ≤ i := fun h => by have h := of_decide_eq_false h; omega
  have w : ∀ {i : Nat}, i ≤ 1000 → w64 ((i : Int) + 1) = ((i + 1 : Nat) : Int) := fun h => by rw [w64_id (by omega) (by omega)]; omega
  have sz : ∀ {n m : Nat}, n + m ≤ 1000 → szP n m 368 := fun h => by simp only [szP, maxLen]; omega
  refine ⟨trivial, fun x1 _ _ => ⟨⟨trivial, fun _ _ _ => ⟨fun _ => trivial, fun _ _ _ => fun _ => trivial⟩⟩, fun p22 hp _ => ⟨fun _ => trivial, fun hc => ?_⟩⟩⟩
  have hp : p22 = (allongelaw50_few l, allongeref09_Few r, allongeref09_Check r) := hp
  subst hp
  simp only [Bool.or_eq_false_iff, Bool.not_eq_false', decide_eq_false_iff_not, allongelaw50_few_eq, decide_eq_true_eq] at hc
  obtain ⟨⟨⟨⟨hl1, hl2⟩, hl3⟩, hf⟩, -⟩ := hc
  have hr : r.Small := allongeref09_Few_post r hf
  have l1 : l.length ≤ 120 := by omega
  have l2 : swaps.length ≤ 200 := by omega
  have l3 : lies.length ≤ 60 := by omega
  refine ⟨⟨trivial, trivial, trivial, sz (by simp; omega)⟩, fun _ _ _ => ⟨⟨⟨by show (0 : Int) ≤ 0; decide, by show (0 : Int) ≤ 200; decide, by show (([] : List Arrival) ++ l).length ≤ 150; simp; omega, fun x => by show x ∈ ([] : List Arrival) ++ l ↔ x ∈ l; simp⟩, fun i6 h6 => ⟨fun hc => ?_, fun _ => ⟨h6.2.2.1, h6.2.2.2⟩⟩⟩, fun b5 _ h5 => ?_⟩⟩
  · simp only [Bool.and_eq_true, decide_eq_true_eq] at hc
    obtain ⟨c1, c2⟩ := hc
    have c1' := c1
    have g1 := h6.1
    have g2 := h6.2.1
    rw [w64_id (by omega) (by omega)] at c1'
    have c3 : 0 < i6.1.length := by omega
    have P := sw_at hs i6.2.toNat c3
    have Q := sw_at hs (w64 (i6.2 + 1)).toNat c3
    have ne : ((i6.1.length : Nat) : Int) ≠ 0 := by omega
    have S := h6.step (by omega) P.2.2 Q.2.2
    have ix1 : ixP i6.2 swaps.length := ⟨by omega, by omega⟩
    have ix2 : ixP (w64 (i6.2 + 1)) swaps.length := by rw [w64_id (by omega) (by omega)]; exact ⟨by omega, by omega⟩
    refine ⟨⟨ix1, ne⟩, fun _ _ _ => ⟨⟨ix2, ne⟩, fun _ _ _ => ⟨⟨⟨P.1, P.2.1⟩, P.2.2⟩, fun _ _ _ => ⟨⟨⟨Q.1, Q.2.1⟩, Q.2.2, ⟨P.1, P.2.1⟩, trivial, P.2.2⟩, fun _ _ _ => ⟨by simp, ⟨⟨⟨Q.1, by simpa using Q.2.1⟩, trivial, by simpa using Q.2.2⟩, fun _ _ _ => ⟨by simp, ⟨(show (5 : Int) ≠ 0 by decide), fun _ _ _ => ⟨fun hc => ?_, fun hc => S⟩⟩⟩⟩⟩⟩⟩⟩⟩
    simp only [Bool.and_eq_true, decide_eq_true_eq] at hc
    have c4 := hc.2
    have hx := (h6.2.2.2 (i6.1.getD ((w64 (swaps.getD i6.2.toNat default)).tmod ((i6.1.length : Nat) : Int)).toNat default)).1 (lget_mem P.2.2 _)
    exact ⟨⟨trivial, trivial, trivial, sz (by simp at c4 ⊢; omega)⟩, fun _ _ _ => ⟨S.1.more hx (by omega), S.2⟩⟩
  have i5 : ∀ x, x ∈ b5 → x.report.I64 := fun x hx => hl x ((h5.2 x).1 hx)
  refine ⟨⟨hr, hl, i5⟩, fun x7 _ _ => ⟨fun _ => trivial, fun _ => ⟨(show (3 : Int) ≠ 0 by decide), fun _ _ _ => ⟨⟨⟨Nat.zero_le _, rfl⟩, fun i9 h9 _ => ⟨fun hc => ?_, fun hc => ?_⟩⟩, fun b8 _ h8 => ?_⟩⟩⟩⟩
  · have hc := st hc
    have e9 : i9.1.length ≤ 120 := by rw [h9.2]; have := List.length_filter_le (notOne (w64 (liar.tmod 3))) (l.take i9.2); simp at this; omega
    have ix : ixP (i9.2 : Int) l.length := ⟨by omega, by omega⟩
    have et := take_snoc hc
    refine ⟨ix, fun _ _ _ => ⟨fun hd => ⟨⟨ix, trivial, trivial, trivial, sz (by simp; omega)⟩, fun _ _ _ => ⟨trivial, fun _ _ _ => ⟨w (by omega), ⟨by show i9.2 + 1 ≤ l.length; omega, ?_⟩, by show l.length - (i9.2 + 1) < l.length - i9.2; omega⟩⟩⟩, fun hd => ⟨trivial, fun _ _ _ => ⟨w (by omega), ⟨by show i9.2 + 1 ≤ l.length; omega, ?_⟩, by show l.length - (i9.2 + 1) < l.length - i9.2; omega⟩⟩⟩⟩
    · show i9.1 ++ [l.getD i9.2 default] = (l.take (i9.2 + 1)).filter _
      rw [et, List.filter_append, ← h9.2, List.filter_cons, if_pos hd]
      rfl
    · show i9.1 = (l.take (i9.2 + 1)).filter _
      rw [et, List.filter_append, ← h9.2, List.filter_cons, if_neg (by rw [show notOne (w64 (liar.tmod 3)) (l.getD i9.2 default) = false from hd]; decide)]
      simp
  · have hc := sf hc
    have h9' := h9.2
    rw [List.take_of_length_le hc] at h9'
    exact h9'
  have l8 : b8.length ≤ 120 := by rw [h8]; have := List.length_filter_le (notOne (w64 (liar.tmod 3))) l; omega
  have i8 : ∀ x, x ∈ b8 → x.report.I64 := fun x hx => by rw [h8] at hx; exact hl x (List.mem_filter.1 hx).1
  refine ⟨⟨⟨Nat.zero_le _, fun q hq => absurd hq (Nat.not_lt_zero _)⟩, fun i11 h11 _ => ⟨fun hc => ?_, fun hc => ?_⟩⟩, fun _ _ h2 => ?_⟩
  · have hc := st hc
    have ix : ixP (i11 : Int) b8.length := ⟨by omega, by omega⟩
    refine ⟨⟨⟨ix, hc, trivial⟩, fun x13 e13 _ => ⟨⟨⟨Nat.zero_le _, fun hx ha => ?_⟩, fun i15 h15 _ => ⟨fun hd => ?_, fun _ => h15.2⟩⟩, fun b14 _ h14 => ⟨fun _ => trivial, fun hb => h14 (by simpa using hb)⟩⟩⟩, fun _ _ h3 => ⟨trivial, fun _ _ _ => ⟨w (by omega), ⟨by show i11 + 1 ≤ b8.length; omega, fun q hq => ?_⟩, by show b8.length - (i11 + 1) < b8.length - i11; omega⟩⟩⟩
    · have e13 : x13 = allongeref50_Counts (b8.getD i11 default) day := e13
      rw [counts_of ha] at e13
      rw [e13] at hx
      cases hx
    · have hd := st hd
      have ix2 : ixP (i15.2 : Int) b8.length := ⟨by omega, by omega⟩
      have hm : b8.length - (i15.2 + 1) < b8.length - i15.2 := by omega
      refine ⟨⟨ix2, hd, ix, hc, fun _ => ix2, fun _ => hd, fun _ => ix, fun _ => hc, fun _ => ix2, fun _ => hd, fun _ => trivial⟩, fun x16 e16 _ => ⟨fun hb => ⟨trivial, fun _ _ _ => ⟨w (by omega), ⟨by show i15.2 + 1 ≤ b8.length; omega, fun _ ha => ?_⟩, hm⟩⟩, fun _ => ⟨trivial, fun _ _ _ => ⟨w (by omega), ⟨by show i15.2 + 1 ≤ b8.length; omega, h15.2⟩, hm⟩⟩⟩⟩
      simp only [Bool.and_eq_true, bne_iff_ne, ne_eq] at hb
      have e16 : x16 = allongeref50_Counts (b8.getD i15.2 default) day := e16
      have e := Report.cells_inj (eqCs_eq rfl rfl hb.1.1)
      exact ⟨_, lget_mem hd _, e, hb.1.2, counts_ag ha e (by rw [← e16]; exact hb.2)⟩
    · by_cases e : q = i11
      · subst e; exact h3
      · exact h11.2 q (by have hq : q < i11 + 1 := hq; omega)
  · have hc := sf hc
    intro x hx
    obtain ⟨q, hq, rfl⟩ := List.getElem_of_mem hx
    have := h11.2 q (by omega)
    rwa [show b8.getD q default = b8[q] by simp [List.getD, hq]] at this
  refine ⟨⟨trivial, trivial, trivial, sz (by simp; omega)⟩, fun _ _ _ => ⟨⟨⟨Nat.zero_le _, by show ([] : List Arrival) ++ b8 = b8 ++ (lies.take 0).map _; simp⟩, fun i18 h18 _ => ⟨fun hc => ?_, fun hc => ?_⟩⟩, fun b17 _ h17 => ⟨⟨fun _ => ⟨hr, hl, i8⟩, fun _ _ _ => fun _ => ⟨hr, i8, fun x hx => ?_⟩⟩, fun _ _ _ => trivial⟩⟩⟩
  · have hc := st hc
    have e18 : i18.1.length ≤ 180 := by rw [h18.2]; simp; omega
    refine ⟨⟨by omega, by omega⟩, fun _ _ _ => ⟨⟨trivial, trivial, trivial, sz (by simp; omega)⟩, fun _ _ _ => ⟨trivial, fun _ _ _ => ⟨w (by omega), ⟨by show i18.2 + 1 ≤ lies.length; omega, ?_⟩, by show lies.length - (i18.2 + 1) < lies.length - i18.2; omega⟩⟩⟩⟩
    show i18.1 ++ [asOne (w64 (liar.tmod 3)) (lies.getD i18.2 default)] = b8 ++ (lies.take (i18.2 + 1)).map _
    rw [take_snoc hc, List.map_append, ← List.append_assoc, ← h18.2]
    rfl
  · have hc := sf hc
    have h := h18.2
    rw [List.take_of_length_le hc] at h
    exact h
  · have h17 : b17 = b8 ++ lies.map (asOne (w64 (liar.tmod 3))) := h17
    rw [h17, List.mem_append] at hx
    rcases hx with hx | hx
    · exact i8 x hx
    · obtain ⟨y, hy, rfl⟩ := List.mem_map.1 hx
      exact hi y hy

noncomputable def allongelaw50_ReportOrder_k r l bill day swaps liar lies := kk tok mixed Tryz.func6 [av r.cells, lv Arrival.cells l, iv bill, iv day, lv u8C swaps, .d (.v (.int .u8 liar)), lv Arrival.cells lies] (fun x => bv x) true (allongelaw50_ReportOrder_sk r l bill day swaps liar lies) (allongelaw50_ReportOrder r l bill day swaps liar lies) (allongelaw50_ReportOrder_ok r l bill day swaps liar lies) (fun (x : Bool) => (OrdH l swaps liar lies) → (x = true)) (allongelaw50_ReportOrder_post r l bill day swaps liar lies)
theorem allongelaw50_ReportOrder_fn (r : Realm) (l : List Arrival) (bill : Int) (day : Int) (swaps : List Int) (liar : Int) (lies : List Arrival) (hH : OrdH l swaps liar lies) : FnA Tryz.prog 6 [av r.cells, lv Arrival.cells l, iv bill, iv day, lv u8C swaps, .d (.v (.int .u8 liar)), lv Arrival.cells lies] [] (bv (allongelaw50_ReportOrder r l bill day swaps liar lies)) [] := (allongelaw50_ReportOrder_k r l bill day swaps liar lies).pf hH
end Go.Proofs.YtihmmpaalpghbaaGreatDoor

