/- A function by hand. -/
import Derived.Test.YtihmmpaalpghbaaGreatDoorRx12
namespace Go.Proofs.YtihmmpaalpghbaaGreatDoor
open Go Go.Av
set_option linter.unusedSimpArgs false
set_option linter.unusedVariables false
set_option maxHeartbeats 1000000
set_option maxRecDepth 100000
/-- those of a list whose mark is set -/
def maskL {α : Type} : List α → List Bool → List α
  | x :: b, true :: g => x :: maskL b g
  | _ :: b, false :: g => maskL b g
  | _, _ => []
theorem maskL_set {α : Type} [Inhabited α] : ∀ (b : List α) (g : List Bool) (i : Nat), g.length = b.length → i < b.length → g.getD i false = false → (maskL b (g.set i true)).Perm (maskL b g ++ [b.getD i default])
  | [], _, i, _, h, _ => absurd h (by simp)
  | p :: b, [], i, hl, _, _ => by simp at hl
  | p :: b, x :: g, 0, hl, _, hx => by
    have hx : x = false := by simpa using hx
    subst hx
    show (p :: maskL b g).Perm (maskL b g ++ [p])
    exact (List.perm_append_singleton p (maskL b g)).symm
  | p :: b, x :: g, i + 1, hl, hi, hx => by
    have ih := maskL_set b g i (by simpa using hl) (by simpa using hi) (by simpa using hx)
    cases x with
    | true =>
      show (p :: maskL b (g.set i true)).Perm (p :: (maskL b g ++ [b.getD i default]))
      exact ih.cons _
    | false => exact ih
theorem maskL_len {α : Type} : ∀ (b : List α) (g : List Bool), (maskL b g).length ≤ b.length
  | [], _ => by simp [maskL]
  | p :: b, [] => by simp [maskL]
  | p :: b, true :: g => by have := maskL_len b g; simp only [maskL, List.length_cons]; omega
  | p :: b, false :: g => by have := maskL_len b g; simp only [maskL, List.length_cons]; omega
theorem maskL_nil {α : Type} : ∀ (b : List α), maskL b (List.replicate b.length false) = []
  | [] => rfl
  | p :: b => maskL_nil b
theorem maskL_all {α : Type} : ∀ (b : List α) (g : List Bool), g.length = b.length → (∀ j, j < b.length → g.getD j false = true) → maskL b g = b
  | [], g, _, _ => by simp [maskL]
  | p :: b, [], h, _ => by simp at h
  | p :: b, x :: g, h, hj => by
    have ih := maskL_all b g (by simpa using h) (fun j h' => by have := hj (j + 1) (by simpa using h'); simpa using this)
    have h0 : x = true := by have := hj 0 (by simp); simpa using this
    subst h0
    show p :: maskL b g = p :: b
    rw [ih]
def numQ (L : List Int) (y : List Int) : Prop := y.Perm L
abbrev keyL (m : List (Int × Bool)) (g : List Bool) : List Int := (maskL m g).map Prod.fst
noncomputable def liBody (m2 : List (Int × Bool)) (g4 : List Bool) (i5 : Nat) : Sk (List Bool) :=
 .brt <|
 .r 7 (.p (i5 < m2.length)) fun _ =>
 .orr 100002 (numQ (keyL m2 g4)) (rowE intC) [] fun y =>
 .wr 100002 (keyL m2 g4).length y.length <|
 .r 8 (.andl (.o [.nrm (litC intE [(m2.getD i5 default).1])]) (.andl (.o [.nrm (catC intE y [(m2.getD i5 default).1])]) (.andl (.t (intE.ones [(m2.getD i5 default).1])) (.p (szP y.length [(m2.getD i5 default).1].length 8))))) fun _ =>
 .wr 27 (y ++ [(m2.getD i5 default).1]).length (keyL m2 (g4.set i5 true)).length <|
 .cr 27 (keyL m2 (g4.set i5 true)).length (numQ (keyL m2 (g4.set i5 true))) (rowE intC) (y ++ [(m2.getD i5 default).1]) <|
 .fin (g4.set i5 true)
noncomputable def report_Liars_sk (l : List Arrival) (day : Int) : Sk (List Int) :=
 .br (decide (((l.length : Nat) : Int) > 1200))
 (.fin [])
 (.r 3 ((report_agreed_km l day).c) fun _ =>
 .orr 777777 (report_agreed_Q l day) (rowE Report.cells) [] fun y1 =>
 .wr 777777 (report_agreed_N l day) y1.length <|
 .ot 777778 (report_agreed_M l day) List.length (mpf dB) [] fun m2 =>
 .r 4 .z fun _ =>
 .nr 7 100002 3 1 (rowE intC []) <|
 .wr 100002 0 (keyL m2 (List.replicate m2.length false)).length <|
 .cr 100002 (keyL m2 (List.replicate m2.length false)).length (numQ (keyL m2 (List.replicate m2.length false))) (rowE intC) [] <|
 .bind true (fun b => b.length = m2.length ∧ ∀ j, j < m2.length → b.getD j false = true)
 (.mr m2.length (fun s g => g.length = m2.length ∧ ∀ j, j < m2.length → g.getD j false = decide (j ∈ s)) (List.replicate m2.length false)
 (fun g4 s6 => ⟨[(7, .own 100002 (keyL m2 g4).length)], [(100002, .rx 3 1 (keyL m2 g4).length (rxQ (numQ (keyL m2 g4)) (rowE intC))), (19, .it 777778 m2.length s6)]⟩)
 (fun g7 => ⟨[(7, .own 100002 (keyL m2 g7).length)], [(100002, .rx 3 1 (keyL m2 g7).length (rxQ (numQ (keyL m2 g7)) (rowE intC)))]⟩)
 (fun g4 i5 => liBody m2 g4 i5) fun g7 =>
 .brf <|
 .fin (.inr g7))
 (fun (b3 : List Bool) => ⟨[(19, .any), (7, .own 100001 (keyL m2 b3).length)], [(100001, .rx 3 1 (keyL m2 b3).length (rxQ (numQ (keyL m2 b3)) (rowE intC)))]⟩) fun b3 =>
 .orr 100001 (numQ (keyL m2 b3)) (rowE intC) [] fun z =>
 .wr 100001 (keyL m2 b3).length z.length <|
 .r 9 ((slices_Sort_s 100001 z).c) fun x8 =>
 .wn 100001 z.length x8.length <|
 .fin x8)
theorem sortI_congr {a b : List Int} (h : a.Perm b) : sortI a = sortI b := by
  have hp : ∀ l : List Int, (sortI l).Pairwise (fun x y : Int => x ≤ y) := fun l => by
    have := List.pairwise_mergeSort (le := fun x y : Int => decide (x ≤ y)) (by intro a b c h1 h2; simp only [decide_eq_true_eq] at *; omega) (by intro a b; simp only [Bool.or_eq_true, decide_eq_true_eq]; omega) l
    exact this.imp (by intro x y h; simpa using h)
  refine List.Perm.eq_of_pairwise (fun x y _ _ h1 h2 => by omega) (hp a) (hp b) ?_
  exact ((List.mergeSort_perm a _).trans h).trans (List.mergeSort_perm b _).symm
theorem liBody_val (m : List (Int × Bool)) (g : List Bool) (i : Nat) : (liBody m g i).val = g.set i true := rfl
theorem liBody_pst (m : List (Int × Bool)) (g : List Bool) (i : Nat) (L : List Bool → Prop) (hL : L (g.set i true)) : (liBody m g i).pst L :=
  fun _ _ _ => ⟨⟨_, List.Perm.refl _⟩, fun _ _ _ _ _ => hL⟩
theorem liBody_obs (m : List (Int × Bool)) (g : List Bool) (i : Nat) (hb : m.length ≤ 1000000) (hg : g.length = m.length) (hi : i < m.length) (hgi : g.getD i false = false) : (liBody m g i).obs fun _ => True := by
  have hp := (maskL_set m g i hg hi hgi).map Prod.fst
  rw [List.map_append] at hp
  have hsz : ∀ y, numQ (keyL m g) y → szP y.length [(m.getD i default).1].length 8 := fun y hy => by
    have h1 := maskL_len m g
    have h2 := hy.length_eq
    simp only [keyL, List.length_map] at h2
    simp only [szP, maxLen, List.length_cons, List.length_nil]
    omega
  refine ⟨hi, fun _ _ _ y hy => ⟨rfl, hy.length_eq.symm, ⟨trivial, trivial, trivial, hsz y hy⟩, fun _ _ _ => ⟨?_, ?_, trivial⟩⟩⟩
  · exact ((hy.append_right _).trans hp.symm).length_eq
  · exact (hy.append_right _).trans hp.symm
theorem liV_step {m : List (Int × Bool)} {s : List Nat} {g : List Bool} {i : Nat} (hi : i < m.length) (h : g.length = m.length ∧ ∀ j, j < m.length → g.getD j false = decide (j ∈ s)) : (g.set i true).length = m.length ∧ ∀ j, j < m.length → (g.set i true).getD j false = decide (j ∈ i :: s) := by
  refine ⟨by simp [h.1], fun j hj => ?_⟩
  have h2 := h.2 j hj
  by_cases e : j = i
  · subst e
    simp [List.getD, h.1, hj]
  · rw [show (g.set i true).getD j false = g.getD j false by simp [List.getD, List.getElem?_set_ne (fun e' => e e'.symm)], h2]
    simp [e]
theorem liV_init (m : List (Int × Bool)) : (List.replicate m.length false).length = m.length ∧ ∀ j, j < m.length → (List.replicate m.length false).getD j false = decide (j ∈ ([] : List Nat)) :=
  ⟨by simp, fun j hj => by simp [List.getD, hj]⟩
theorem liV_all {m : List (Int × Bool)} {g : List Bool} (h : g.length = m.length ∧ ∀ j, j < m.length → g.getD j false = decide (j ∈ List.range m.length)) : g.length = m.length ∧ ∀ j, j < m.length → g.getD j false = true :=
  ⟨h.1, fun j hj => by rw [h.2 j hj]; simp [hj]⟩
/-- all marks set -/
noncomputable def liG (m : List (Int × Bool)) : List Bool := (List.range m.length).foldr (fun i g => (liBody m g i).val) (List.replicate m.length false)
theorem liG_all (m : List (Int × Bool)) : (liG m).length = m.length ∧ ∀ j, j < m.length → (liG m).getD j false = true :=
  liV_all (foldr_inv (V := fun s g => g.length = m.length ∧ ∀ j, j < m.length → g.getD j false = decide (j ∈ s)) (f := fun g i => (liBody m g i).val) (n := m.length) (fun s g i hg hi hn => by rw [liBody_val]; exact liV_step hi hg) (liV_init m) (List.range m.length) List.nodup_range (fun i hi => List.mem_range.1 hi))
theorem keyL_all {m : List (Int × Bool)} {g : List Bool} (h : g.length = m.length ∧ ∀ j, j < m.length → g.getD j false = true) : keyL m g = m.map Prod.fst := by
  show (maskL m g).map Prod.fst = _
  rw [maskL_all m g h.1 h.2]
theorem liarQ_perm {L : List Report} {m m' : List (Int × Bool)} (h : liarQ L m) (h' : liarQ L m') : (m.map Prod.fst).Perm (m'.map Prod.fst) :=
  (List.perm_ext_iff_of_nodup h.1 h'.1).2 fun r => (h.2.2 r).trans (h'.2.2 r).symm
theorem canonI {Q : List Int} : numQ Q (canonY (numQ Q) []) := canonY_spec ⟨Q, List.Perm.refl _⟩
/-- no more liars than reports -/
theorem liarQ_len {L : List Report} {m : List (Int × Bool)} (h : liarQ L m) : m.length ≤ L.length := by
  have h1 : ∀ r, r ∈ m.map Prod.fst → r ∈ L.map Report.reporter := fun r hr => by
    obtain ⟨c, hc⟩ := (h.2.2 r).1 hr
    unfold cnt at hc
    have : 0 < L.countP fun x => x.reporter == r && x.no == c := by omega
    obtain ⟨x, hx, hx2⟩ := List.countP_pos_iff.1 this
    simp only [Bool.and_eq_true, beq_iff_eq] at hx2
    exact List.mem_map.2 ⟨x, hx, hx2.1⟩
  have := List.Nodup.length_le_of_subset h.1 (fun r hr => h1 r hr)
  simpa using this
theorem report_Liars_ok (l : List Arrival) (day : Int) : (report_Liars_sk l day).obs (fun _ => True) := by
  unfold report_Liars_sk
  refine ⟨fun _ => trivial, fun hl => ?_⟩
  have hl : l.length ≤ 1200 := by simp only [decide_eq_false_iff_not] at hl; omega
  refine ⟨hl, fun _ _ _ y1 hy1 => ⟨rfl, hy1.length_eq.symm, fun m2 hm2 => ⟨?_, ?_⟩⟩⟩
  · have hm0 : liarQ (agreedL l day) (canonY (report_agreed_M l day) []) := canonY_spec ⟨m2, hm2⟩
    have e : ∀ m, liarQ (agreedL l day) m → sortI (canonY (numQ (keyL m (liG m))) []) = sortI (m.map Prod.fst) := fun m hm => by
      refine sortI_congr ?_
      have h := canonI (Q := keyL m (liG m))
      rw [keyL_all (liG_all m)] at h
      rw [keyL_all (liG_all m)]
      exact h
    show sortI (canonY (numQ (keyL m2 (liG m2))) []) = sortI (canonY (numQ (keyL (canonY (report_agreed_M l day) []) (liG (canonY (report_agreed_M l day) [])))) [])
    rw [e _ hm2, e _ hm0]
    exact sortI_congr (liarQ_perm hm2 hm0)
  · have hmlen : m2.length ≤ 1200 := by
      have h1 := liarQ_len hm2
      have h2 := agreedL_len l day
      omega
    refine ⟨trivial, fun _ _ _ => ⟨by show 0 = ((maskL m2 (List.replicate m2.length false)).map Prod.fst).length; rw [maskL_nil]; rfl, ?_, ⟨⟨liV_init m2, fun s g i hV hi hn => ⟨liBody_pst m2 g i _ (liV_step hi hV), ?_⟩, fun s g i j hV hi hj hne hni hnj => ?_, fun g hg hV => liV_all hV⟩, fun b3 _ hb3 z hz => ⟨?_, hz.length_eq.symm, ?_, fun x8 hx8 hp8 => ⟨hp8.symm, trivial⟩⟩⟩⟩⟩
    · show ([] : List Int).Perm ((maskL m2 (List.replicate m2.length false)).map Prod.fst)
      rw [maskL_nil]
      exact List.Perm.refl _
    · refine liBody_obs m2 g i (by omega) hV.1 hi ?_
      rw [hV.2 i hi]
      simpa using hn
    · rw [liBody_val, liBody_val, liBody_val, liBody_val]
      exact List.set_comm _ _ (fun e => hne e.symm)
    · show sortI z = sortI (canonY (numQ (keyL m2 b3)) [])
      exact sortI_congr (hz.trans (canonI (Q := keyL m2 b3)).symm)
    · show z.length < _
      have := hz.length_eq
      have h2 := maskL_len m2 b3
      simp only [keyL, List.length_map] at this
      omega
noncomputable def report_Liars l day := (report_Liars_sk l day).val
theorem report_Liars_fn (l : List Arrival) (day : Int) : FnA Tryz.prog 29 [lv Arrival.cells l, iv day] [] (lv intC (report_Liars l day)) [] :=
  FnA.sk tok mixed (fun x => lv intC x) (fun x => []) Tryz.func29 rfl (by kernel_rfl) 3000 (report_Liars_sk l day) (by kernel_rfl) (report_Liars_ok l day)
/-- who has lied, sorted -/
theorem report_Liars_of {l : List Arrival} {day : Int} (hl : l.length ≤ 1200) {m : List (Int × Bool)} (hm : liarQ (agreedL l day) m) : report_Liars l day = sortI (m.map Prod.fst) := by
  have hd : decide (((l.length : Nat) : Int) > 1200) = false := by rw [decide_eq_false_iff_not]; omega
  have hm0 : liarQ (agreedL l day) (canonY (report_agreed_M l day) []) := canonY_spec ⟨m, hm⟩
  have e0 : report_Liars l day = bif decide (((l.length : Nat) : Int) > 1200) then [] else sortI (canonY (numQ (keyL (canonY (report_agreed_M l day) []) (liG (canonY (report_agreed_M l day) [])))) []) := rfl
  rw [e0, hd]
  refine sortI_congr ?_
  have h := canonI (Q := keyL (canonY (report_agreed_M l day) []) (liG (canonY (report_agreed_M l day) [])))
  refine h.trans ?_
  rw [keyL_all (liG_all _)]
  exact liarQ_perm hm0 hm
noncomputable def report_Liars_k (l : List Arrival) (day : Int) : Ctr (List Int) := ⟨Tryz.prog, 29, [lv Arrival.cells l, iv day], fun x => lv intC x, false, report_Liars l day, True, fun _ => report_Liars_fn l day, fun _ => True, trivial⟩
end Go.Proofs.YtihmmpaalpghbaaGreatDoor

