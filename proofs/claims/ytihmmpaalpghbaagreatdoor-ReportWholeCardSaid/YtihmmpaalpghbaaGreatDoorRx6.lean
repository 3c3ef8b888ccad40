/- A function by hand. -/
import Derived.Test.YtihmmpaalpghbaaGreatDoorRx5
namespace Go.Proofs.YtihmmpaalpghbaaGreatDoor
open Go Go.Av
set_option linter.unusedSimpArgs false
set_option linter.unusedVariables false
set_option maxHeartbeats 1000000
set_option maxRecDepth 100000
structure Number where
  reporter : Int
  no : Int
  deriving Inhabited
def Number.cells (c : Number) : List D := [dI c.reporter, dI c.no]
def Number.K : KE Number := ⟨Number.cells, 2, fun _ => ⟨rfl, rfl⟩⟩
def Report.K : KE Report := ⟨Report.cells, 44, fun _ => ⟨rfl, rfl⟩⟩
/-- an arrival that counts by a day -/
noncomputable def agC (day : Int) (x : Arrival) : Bool := (((decide (0 ≤ x.registry) && decide (x.registry < 3)) && decide (x.day ≤ day)) && decide (x.day ≥ x.report.day)) && report_Right x.report
noncomputable def agStep (day : Int) (m : List (Report × Int)) (x : Arrival) : List (Report × Int) := bif agC day x then kupd Report.K m x.report (orK .i64 (kget Report.K m x.report (0 : Int)) (shlK .i64 1 x.registry)) else m
/-- the registries of each report, as bits -/
noncomputable def agMap (l : List Arrival) (day : Int) : List (Report × Int) := l.foldl (agStep day) []
/-- at two registries at least -/
def agBit (n : Int) : Bool := !((andK .i64 n (w64 (n - 1))) == 0)
/-- how many reports of a list are agreed so far -/
def agL : List (Report × Int) → List Bool → List Report
  | p :: b, true :: g => p.1 :: agL b g
  | _ :: b, false :: g => agL b g
  | _, _ => []
/-- how many of a list have a reporter and a running number -/
def cnt (L : List Report) (a c : Int) : Nat := L.countP fun x => x.reporter == a && x.no == c
def rowQ (L : List Report) (y : List Report) : Prop := y.Perm L
def seenQ (L : List Report) (m : List (Number × Bool)) : Prop := ∀ k, kget Number.K m k false = true ↔ 1 ≤ cnt L k.reporter k.no
def liarQ (L : List Report) (m : List (Int × Bool)) : Prop := (m.map Prod.fst).Nodup ∧ (∀ e, e ∈ m → e.2 = true) ∧ ∀ r, r ∈ m.map Prod.fst ↔ ∃ c, 2 ≤ cnt L r c
abbrev agRx (b : List (Report × Int)) (g : List Bool) : Blk := .rx 37 44 (agL b g).length (rxQ (rowQ (agL b g)) (rowE Report.cells))
abbrev agS (b : List (Report × Int)) (g : List Bool) : Blk := .tx (txQ (seenQ (agL b g)) List.length (kpf Number.K dB))
abbrev agLi (b : List (Report × Int)) (g : List Bool) : Blk := .tx (txQ (liarQ (agL b g)) List.length (mpf dB))
/-- by whom, and the running number -/
abbrev numOf (x : Report) : Number := { reporter := x.reporter, no := x.no }
theorem eqCs_rp {a b : Number} : eqCs (Number.cells a) (Number.cells b) = true ↔ a = b := by
  constructor
  · intro h
    have h1 := eqCs_eq (a := Number.cells a) (b := Number.cells b) rfl rfl h
    cases a; cases b
    simp [Number.cells, dI] at h1
    simp [h1]
  · rintro rfl
    exact eqCs_rfl rfl
theorem kfind_kupd {κ α : Type} (K : KE κ) (hK : ∀ a b : κ, eqCs (K.C a) (K.C b) = true ↔ a = b) (k : κ) (v : α) (q : κ) (hd : Decidable (q = k)) : ∀ (m : List (κ × α)), kfind K (kupd K m k v) q = if q = k then some v else kfind K m q
  | [] => by
    simp only [kupd, kfind]
    by_cases h : q = k
    · subst h; simp [(hK q q).2 rfl]
    · have : eqCs (K.C q) (K.C k) = false := by
        cases e : eqCs (K.C q) (K.C k) with
        | true => exact absurd ((hK q k).1 e) h
        | false => rfl
      simp [h, this]
  | p :: r => by
    have ih := kfind_kupd K hK k v q hd r
    simp only [kupd]
    cases hk : eqCs (K.C k) (K.C p.1) with
    | true =>
      have e := (hK _ _).1 hk
      simp only [cond_true, kfind]
      by_cases h : q = k
      · subst h; simp [hk]
      · have : eqCs (K.C q) (K.C p.1) = false := by
          cases e2 : eqCs (K.C q) (K.C p.1) with
          | true => exact absurd (((hK _ _).1 e2).trans e.symm) h
          | false => rfl
        simp [this, h]
    | false =>
      simp only [cond_false, kfind]
      cases hq : eqCs (K.C q) (K.C p.1) with
      | true =>
        have e := (hK _ _).1 hq
        have h : q ≠ k := fun h => by
          rw [h] at hq
          rw [hq] at hk
          cases hk
        simp [h]
      | false => simp only [cond_false]; exact ih
theorem kupd_len {κ α : Type} (K : KE κ) (k : κ) (v : α) : ∀ (m : List (κ × α)), (kupd K m k v).length ≤ m.length + 1
  | [] => by simp [kupd]
  | p :: r => by
    have := kupd_len K k v r
    simp only [kupd]
    cases eqCs (K.C k) (K.C p.1) <;> simp only [cond_true, cond_false, List.length_cons] <;> omega
theorem agStep_len (day : Int) (m : List (Report × Int)) (x : Arrival) : (agStep day m x).length ≤ m.length + 1 := by
  unfold agStep
  cases agC day x with
  | true => exact kupd_len _ _ _ _
  | false => simp only [cond_false]; omega
theorem take_succ_gd {α : Type} [Inhabited α] {l : List α} {n : Nat} (h : n < l.length) : l.take (n + 1) = l.take n ++ [l.getD n default] := by
  rw [List.take_add_one]
  simp [List.getD, h]
theorem agMap_succ (l : List Arrival) (day : Int) {n : Nat} (h : n < l.length) : agMap (l.take (n + 1)) day = agStep day (agMap (l.take n) day) (l.getD n default) := by
  unfold agMap
  rw [take_succ_gd h, List.foldl_append]
  rfl
theorem agL_set : ∀ (b : List (Report × Int)) (g : List Bool) (i : Nat), g.length = b.length → i < b.length → g.getD i false = false → (agL b (g.set i true)).Perm (agL b g ++ [(b.getD i default).1])
  | [], _, i, _, h, _ => absurd h (by simp)
  | p :: b, [], i, hl, _, _ => by simp at hl
  | p :: b, x :: g, 0, hl, _, hx => by
    have hx : x = false := by simpa using hx
    subst hx
    show (p.1 :: agL b g).Perm (agL b g ++ [p.1])
    exact (List.perm_append_singleton p.1 (agL b g)).symm
  | p :: b, x :: g, i + 1, hl, hi, hx => by
    have ih := agL_set b g i (by simpa using hl) (by simpa using hi) (by simpa using hx)
    cases x with
    | true =>
      show (p.1 :: agL b (g.set i true)).Perm (p.1 :: (agL b g ++ [(b.getD i default).1]))
      exact ih.cons _
    | false => exact ih
theorem agL_len : ∀ (b : List (Report × Int)) (g : List Bool), (agL b g).length ≤ b.length
  | [], _ => by simp [agL]
  | p :: b, [] => by simp [agL]
  | p :: b, true :: g => by have := agL_len b g; simp only [agL, List.length_cons]; omega
  | p :: b, false :: g => by have := agL_len b g; simp only [agL, List.length_cons]; omega
theorem agL_nil : ∀ (b : List (Report × Int)), agL b (List.replicate b.length false) = []
  | [] => rfl
  | p :: b => agL_nil b
theorem cnt_append (L : List Report) (x : Report) (a c : Int) : cnt (L ++ [x]) a c = cnt L a c + bif x.reporter == a && x.no == c then 1 else 0 := by
  unfold cnt
  rw [List.countP_append]
  cases h : (x.reporter == a && x.no == c) <;> simp [List.countP_cons, h]
theorem rowQ.snoc {L L' y : List Report} {x : Report} (h : rowQ L y) (hL : L'.Perm (L ++ [x])) : rowQ L' (y ++ [x]) := (h.append_right [x]).trans hL.symm
theorem cnt_perm {L L' : List Report} (h : L'.Perm L) (a c : Int) : cnt L' a c = cnt L a c := h.countP_eq _
theorem seenQ.snoc {L L' : List Report} {x : Report} {m : List (Number × Bool)} (h : seenQ L m) (hL : L'.Perm (L ++ [x])) : seenQ L' (kupd Number.K m (numOf x) true) := by
  intro k
  rw [cnt_perm hL, cnt_append]
  have hd : Decidable (k = numOf x) := Classical.propDecidable _
  unfold kget
  rw [kfind_kupd Number.K (fun _ _ => eqCs_rp) _ _ _ hd]
  by_cases hk : k = numOf x
  · subst hk
    simp
  · have hb : (x.reporter == k.reporter && x.no == k.no) = false := by
      cases e : (x.reporter == k.reporter && x.no == k.no) with
      | false => rfl
      | true =>
        simp only [Bool.and_eq_true, beq_iff_eq] at e
        exact absurd (by cases k; simp only [numOf] at e ⊢; rw [e.1, e.2]) hk
    rw [if_neg hk, hb]
    exact h k
theorem mupd_keys {α : Type} (k : Int) (v : α) : ∀ (m : List (Int × α)), (mupd m k v).map Prod.fst = if k ∈ m.map Prod.fst then m.map Prod.fst else m.map Prod.fst ++ [k]
  | [] => rfl
  | p :: r => by
    have ih := mupd_keys k v r
    simp only [mupd]
    by_cases h : k = p.1
    · subst h; simp
    · have h1 : (k == p.1) = false := by simpa using h
      simp only [h1, cond_false, List.map_cons, ih, List.mem_cons, h, false_or]
      split <;> rfl
theorem mupd_vals (k : Int) : ∀ (m : List (Int × Bool)), (∀ e, e ∈ m → e.2 = true) → ∀ e, e ∈ mupd m k true → e.2 = true
  | [], _, e, he => by simp [mupd] at he; rw [he]
  | p :: r, h, e, he => by
    have ih := mupd_vals k r (fun e he => h e (List.mem_cons_of_mem _ he))
    simp only [mupd] at he
    cases hk : (k == p.1) with
    | true =>
      rw [hk] at he
      simp only [cond_true, List.mem_cons] at he
      rcases he with rfl | he
      · rfl
      · exact h e (List.mem_cons_of_mem _ he)
    | false =>
      rw [hk] at he
      simp only [cond_false, List.mem_cons] at he
      rcases he with rfl | he
      · exact h _ List.mem_cons_self
      · exact ih e he
theorem liarQ.same {L L' : List Report} {x : Report} {m : List (Int × Bool)} (h : liarQ L m) (hL : L'.Perm (L ++ [x])) (h0 : cnt L x.reporter x.no = 0) : liarQ L' m := by
  obtain ⟨h1, h2, h3⟩ := h
  refine ⟨h1, h2, fun r => ?_⟩
  rw [h3]
  refine exists_congr fun c => ?_
  rw [cnt_perm hL, cnt_append]
  cases e : (x.reporter == r && x.no == c) with
  | false => simp
  | true =>
    simp only [Bool.and_eq_true, beq_iff_eq] at e
    rw [← e.1, ← e.2, h0]
    simp
theorem liarQ.more {L L' : List Report} {x : Report} {m : List (Int × Bool)} (h : liarQ L m) (hL : L'.Perm (L ++ [x])) (h0 : 1 ≤ cnt L x.reporter x.no) : liarQ L' (mupd m x.reporter true) := by
  obtain ⟨h1, h2, h3⟩ := h
  refine ⟨?_, mupd_vals _ _ h2, fun r => ?_⟩
  · rw [mupd_keys]
    split
    · exact h1
    · rename_i hn
      exact List.nodup_append.2 ⟨h1, by simp, fun a ha b hb => by
        have : b = x.reporter := by simpa using hb
        subst this
        exact fun e => hn (e ▸ ha)⟩
  · have e1 : r ∈ (mupd m x.reporter true).map Prod.fst ↔ (r ∈ m.map Prod.fst ∨ r = x.reporter) := by
      rw [mupd_keys]
      split
      · rename_i hm
        exact ⟨.inl, fun h => h.elim id (fun e => e ▸ hm)⟩
      · simp [or_comm]
    rw [e1, h3]
    constructor
    · rintro (⟨c, hc⟩ | rfl)
      · exact ⟨c, by rw [cnt_perm hL, cnt_append]; omega⟩
      · exact ⟨x.no, by rw [cnt_perm hL, cnt_append]; simp; omega⟩
    · rintro ⟨c, hc⟩
      rw [cnt_perm hL, cnt_append] at hc
      cases e : (x.reporter == r && x.no == c) with
      | false => rw [e] at hc; exact .inl ⟨c, by simpa using hc⟩
      | true =>
        simp only [Bool.and_eq_true, beq_iff_eq] at e
        exact .inr e.1.symm
theorem bif_same {α : Type} (c : Bool) (x : α) : (bif c then x else x) = x := by cases c <;> rfl
theorem seenQ_ex : ∀ (L : List Report), ∃ m, seenQ L m
  | [] => ⟨[], fun k => by simp [kget, kfind, cnt]⟩
  | x :: L => by
    obtain ⟨m, hm⟩ := seenQ_ex L
    exact ⟨_, hm.snoc (List.perm_append_singleton x L).symm⟩
theorem liarQ_ex : ∀ (L : List Report), ∃ m, liarQ L m
  | [] => ⟨[], by simp, by simp, fun k => by simp [cnt]⟩
  | x :: L => by
    obtain ⟨m, hm⟩ := liarQ_ex L
    by_cases h : cnt L x.reporter x.no = 0
    · exact ⟨_, hm.same (List.perm_append_singleton x L).symm h⟩
    · exact ⟨_, hm.more (List.perm_append_singleton x L).symm (by omega)⟩
noncomputable def agBody (b1 : List (Report × Int)) (g7 : List Bool) (i8 : Nat) : Sk (List Bool) :=
 .brt <|
 .r 13 (.p (i8 < b1.length)) fun _ =>
 .br ((andK .i64 ((b1.getD i8 default).2) (w64 (((b1.getD i8 default).2) - 1))) == 0)
 (.fin g7)
 (.orr 100002 (rowQ (agL b1 g7)) (rowE Report.cells) [] fun y =>
 .wr 100002 (agL b1 g7).length y.length <|
 .ot 55 (seenQ (agL b1 g7)) List.length (kpf Number.K dB) [] fun sm =>
 .ot 56 (liarQ (agL b1 g7)) List.length (mpf dB) [] fun lm =>
 .r 16 (.andl (.t (keysK Number.K dB sm)) (.o [.cast 76 (getK Number.K dB sm (numOf (b1.getD i8 default).1) false)])) fun _ =>
 .br (kget Number.K sm (numOf (b1.getD i8 default).1) false)
 (.r 17 (.andl (.t (keysM dB lm)) (.o [.nrmm (updM dB lm (((b1.getD i8 default).1).reporter) true)])) fun _ =>
 .r 18 (.andl (.t (keysK Number.K dB sm)) (.o [.nrmm (updK Number.K dB sm (numOf (b1.getD i8 default).1) true)])) fun _ =>
 .r 19 (.andl (.o [.nrm (litC Report.E [(b1.getD i8 default).1])]) (.andl (.o [.nrm (catC Report.E y [(b1.getD i8 default).1])]) (.andl (.t (Report.E.ones [(b1.getD i8 default).1])) (.p (szP y.length [(b1.getD i8 default).1].length 352))))) fun _ =>
 .wr 85 (y ++ [(b1.getD i8 default).1]).length (agL b1 (g7.set i8 true)).length <|
 .cr 85 (agL b1 (g7.set i8 true)).length (rowQ (agL b1 (g7.set i8 true))) (rowE Report.cells) (y ++ [(b1.getD i8 default).1]) <|
 .ct 55 (seenQ (agL b1 (g7.set i8 true))) List.length (kpf Number.K dB) (kupd Number.K sm (numOf (b1.getD i8 default).1) true) <|
 .ct 56 (liarQ (agL b1 (g7.set i8 true))) List.length (mpf dB) (mupd lm (((b1.getD i8 default).1).reporter) true) <|
 .fin (g7.set i8 true))
 (.r 18 (.andl (.t (keysK Number.K dB sm)) (.o [.nrmm (updK Number.K dB sm (numOf (b1.getD i8 default).1) true)])) fun _ =>
 .r 19 (.andl (.o [.nrm (litC Report.E [(b1.getD i8 default).1])]) (.andl (.o [.nrm (catC Report.E y [(b1.getD i8 default).1])]) (.andl (.t (Report.E.ones [(b1.getD i8 default).1])) (.p (szP y.length [(b1.getD i8 default).1].length 352))))) fun _ =>
 .wr 85 (y ++ [(b1.getD i8 default).1]).length (agL b1 (g7.set i8 true)).length <|
 .cr 85 (agL b1 (g7.set i8 true)).length (rowQ (agL b1 (g7.set i8 true))) (rowE Report.cells) (y ++ [(b1.getD i8 default).1]) <|
 .ct 55 (seenQ (agL b1 (g7.set i8 true))) List.length (kpf Number.K dB) (kupd Number.K sm (numOf (b1.getD i8 default).1) true) <|
 .ct 56 (liarQ (agL b1 (g7.set i8 true))) List.length (mpf dB) lm <|
 .fin (g7.set i8 true)))
noncomputable def report_agreed_sk (l : List Arrival) (day : Int) : Sk ((List (Report × Int)) × List Bool) :=
 .r 1 (.o [.nrmm (mkK Report.K dI)]) fun _ =>
 .bind true (fun b => b = agMap l day ∧ b.length ≤ l.length)
 (.loop (default : Sum ((List (Report × Int)) × List Bool) (List (Report × Int))) (fun i2 => i2.1 ≤ l.length ∧ i2.2 = agMap (l.take i2.1) day ∧ i2.2.length ≤ i2.1) (fun i2 => l.length - i2.1) ((0, ([] : List (Report × Int))) : Nat × (List (Report × Int)))
 (fun (i2 : Nat × (List (Report × Int))) => ⟨[(18, iv ((i2.1 : Nat) : Int))], [(15, kpM Report.K dI i2.2)]⟩) fun i2 =>
 .lt 16 0 i2.1 l.length
 (.r 4 (.p (ixP ((i2.1 : Nat) : Int) l.length)) fun _ =>
 .r 5 (.dep ((report_within_k ((l.getD i2.1 default).registry) 3).c) fun x3 => .wh ((x3 && (decide (((l.getD i2.1 default).day) ≤ day))) && (decide (((l.getD i2.1 default).day) ≥ (((l.getD i2.1 default).report).day)))) true ((report_Right_k ((l.getD i2.1 default).report)).c)) fun p5 =>
 .br (((p5.1 && (decide (((l.getD i2.1 default).day) ≤ day))) && (decide (((l.getD i2.1 default).day) ≥ (((l.getD i2.1 default).report).day)))) && p5.2)
 (.r 6 (.andl (.andl (.andl (.t (keysK Report.K dI i2.2)) (.o [.cast 47 (getK Report.K dI i2.2 ((l.getD i2.1 default).report) (0 : Int))])) (.andl (.p (0 ≤ ((l.getD i2.1 default).registry))) (.andl (.andl (.t (keysK Report.K dI i2.2)) (.o [.nrmm (entK Report.K dI i2.2 ((l.getD i2.1 default).report) (0 : Int))])) (.andl (.t (mpAt_lt Report.K dI i2.2 ((l.getD i2.1 default).report) (kget Report.K i2.2 ((l.getD i2.1 default).report) (0 : Int)))) (.o [.nrmm (stK Report.K dI i2.2 ((l.getD i2.1 default).report) (kget Report.K i2.2 ((l.getD i2.1 default).report) (0 : Int)) (orK .i64 (kget Report.K i2.2 ((l.getD i2.1 default).report) (0 : Int)) (shlK .i64 1 ((l.getD i2.1 default).registry))))]))))) (.andl (.o [.alt 3 8 47 (altK Report.K dI i2.2 ((l.getD i2.1 default).report) (0 : Int))]) (.t (keysK Report.K dI (kupd Report.K i2.2 ((l.getD i2.1 default).report) (kget Report.K i2.2 ((l.getD i2.1 default).report) (0 : Int))))))) fun _ =>
 .r 7 .z fun _ =>
 .wi 18 (w64 (((i2.1 : Nat) : Int) + 1)) ((i2.1 + 1 : Nat) : Int) <|
 .fin (.inr (i2.1 + 1, kupd Report.K i2.2 ((l.getD i2.1 default).report) (orK .i64 (kget Report.K i2.2 ((l.getD i2.1 default).report) (0 : Int)) (shlK .i64 1 ((l.getD i2.1 default).registry))))))
 (.nx 7 18 i2.1 (i2.1 + 1, i2.2)))
 (.fin (.inl (.inr i2.2))))
 (fun (b1 : (List (Report × Int))) => ⟨[], [(15, kpM Report.K dI b1)]⟩) fun b1 =>
 .r 8 (.o [.nrmm (mkK Number.K dB)]) fun _ =>
 .r 9 (.o [.nrmm (mkM dB)]) fun _ =>
 .r 10 .z fun _ =>
 .nr 11 100002 37 44 (rowE Report.cells []) <|
 .wr 100002 0 (agL b1 (List.replicate b1.length false)).length <|
 .cr 100002 (agL b1 (List.replicate b1.length false)).length (rowQ (agL b1 (List.replicate b1.length false))) (rowE Report.cells) [] <|
 .ct 55 (seenQ (agL b1 (List.replicate b1.length false))) List.length (kpf Number.K dB) [] <|
 .ct 56 (liarQ (agL b1 (List.replicate b1.length false))) List.length (mpf dB) [] <|
 .bt
 (.mr b1.length (fun s g => g.length = b1.length ∧ ∀ j, j < b1.length → g.getD j false = (decide (j ∈ s) && agBit (b1.getD j default).2)) (List.replicate b1.length false)
 (fun g7 s9 => ⟨[(11, .own 100002 (agL b1 g7).length)], [(100002, agRx b1 g7), (55, agS b1 g7), (56, agLi b1 g7), (58, .it 15 b1.length s9)]⟩)
 (fun g10 => ⟨[(11, .own 100002 (agL b1 g10).length)], [(100002, agRx b1 g10), (55, agS b1 g10), (56, agLi b1 g10)]⟩)
 (fun g7 i8 =>
 agBody b1 g7 i8) fun g10 =>
 .brf <|
 .fin (.inr g10))
 (fun (b6 : List Bool) => ⟨[(58, .any), (11, .own 100001 (agL b1 b6).length)], [(100001, agRx b1 b6), (56, agLi b1 b6)]⟩) fun b6 =>
 .fin (b1, b6)
theorem agBody_val (b : List (Report × Int)) (g : List Bool) (i : Nat) : (agBody b g i).val = bif agBit (b.getD i default).2 then g.set i true else g := by
  have h : (agBody b g i).val = bif (andK .i64 ((b.getD i default).2) (w64 (((b.getD i default).2) - 1))) == 0 then g else (bif kget Number.K (canonY (seenQ (agL b g)) []) (numOf (b.getD i default).1) false then g.set i true else g.set i true) := rfl
  rw [h, bif_same]
  unfold agBit
  cases ((andK .i64 ((b.getD i default).2) (w64 (((b.getD i default).2) - 1))) == 0) <;> rfl
theorem agBody_pst (b : List (Report × Int)) (g : List Bool) (i : Nat) (L : List Bool → Prop) (hL : L (bif agBit (b.getD i default).2 then g.set i true else g)) (h1 : ∃ y, rowQ (agL b g) y) (h2 : ∃ y, seenQ (agL b g) y) (h3 : ∃ y, liarQ (agL b g) y) : (agBody b g i).pst L := by
  unfold agBit at hL
  unfold agBody
  refine fun _ _ _ => ⟨fun hb => ?_, fun hb => ?_⟩
  · rw [hb] at hL
    exact hL
  · rw [hb] at hL
    exact ⟨h1, fun y hy => ⟨h2, fun sm hs => ⟨h3, fun lm hl _ _ _ => ⟨fun hk _ _ _ _ _ _ _ _ _ => hL, fun hk _ _ _ _ _ _ => hL⟩⟩⟩⟩
theorem agBody_obs (b : List (Report × Int)) (g : List Bool) (i : Nat) (hb : b.length ≤ 1200) (hg : g.length = b.length) (hi : i < b.length) (hgi : g.getD i false = false) : (agBody b g i).obs fun _ => True := by
  have hp := agL_set b g i hg hi hgi
  have hlen : ∀ y, rowQ (agL b g) y → (agL b g).length = y.length := fun y hy => hy.length_eq.symm
  have hlen2 : ∀ y, rowQ (agL b g) y → (y ++ [(b.getD i default).1]).length = (agL b (g.set i true)).length := fun y hy => (hy.snoc hp).length_eq
  have hsz : ∀ y, rowQ (agL b g) y → szP y.length [(b.getD i default).1].length 352 := fun y hy => by
    have h1 := agL_len b g
    have h2 := hlen y hy
    simp only [szP, maxLen, List.length_cons, List.length_nil]
    omega
  unfold agBody
  refine ⟨hi, fun _ _ _ => ⟨fun _ => trivial, fun _ => fun y hy => ⟨?_, hlen y hy, fun sm hs => ⟨?_, fun lm hl => ⟨?_, ⟨⟨trivial, trivial⟩, fun _ _ _ => ⟨fun hk => ?_, fun hk => ?_⟩⟩⟩⟩⟩⟩⟩
  · exact (bif_same _ _).trans (bif_same _ _).symm
  · exact (bif_same _ _).trans (bif_same _ _).symm
  · rfl
  · have h1 := (hs (numOf (b.getD i default).1)).1 hk
    exact ⟨⟨trivial, trivial⟩, fun _ _ _ => ⟨⟨trivial, trivial⟩, fun _ _ _ => ⟨⟨trivial, trivial, trivial, hsz y hy⟩, fun _ _ _ => ⟨hlen2 y hy, hy.snoc hp, hs.snoc hp, hl.more hp h1, trivial⟩⟩⟩⟩
  · have h1 : cnt (agL b g) (b.getD i default).1.reporter (b.getD i default).1.no = 0 := by
      have h2 := hs (numOf (b.getD i default).1)
      rw [hk] at h2
      simp only [Bool.false_eq_true, false_iff] at h2
      have h3 : ¬ 1 ≤ cnt (agL b g) (b.getD i default).1.reporter (b.getD i default).1.no := h2
      omega
    exact ⟨⟨trivial, trivial⟩, fun _ _ _ => ⟨⟨trivial, trivial, trivial, hsz y hy⟩, fun _ _ _ => ⟨hlen2 y hy, hy.snoc hp, hs.snoc hp, hl.same hp h1, trivial⟩⟩⟩
theorem agV_step {b : List (Report × Int)} {s : List Nat} {g : List Bool} {i : Nat} (hi : i < b.length) (h : g.length = b.length ∧ ∀ j, j < b.length → g.getD j false = (decide (j ∈ s) && agBit (b.getD j default).2)) :
    (bif agBit (b.getD i default).2 then g.set i true else g).length = b.length ∧ ∀ j, j < b.length → (bif agBit (b.getD i default).2 then g.set i true else g).getD j false = (decide (j ∈ i :: s) && agBit (b.getD j default).2) := by
  refine ⟨?_, fun j hj => ?_⟩
  · cases agBit (b.getD i default).2 <;> simp [h.1]
  · have h2 := h.2 j hj
    by_cases e : j = i
    · subst e
      cases ha : agBit (b.getD j default).2 with
      | true => simp [List.getD, h.1, hj]
      | false => simp only [cond_false]; rw [h2, ha]; simp
    · cases ha : agBit (b.getD i default).2 with
      | true =>
        simp only [cond_true]
        rw [show (g.set i true).getD j false = g.getD j false by simp [List.getD, List.getElem?_set_ne (fun e' => e e'.symm)], h2]
        simp [e]
      | false =>
        simp only [cond_false]
        rw [h2]
        simp [e]
theorem agV_not {b : List (Report × Int)} {s : List Nat} {g : List Bool} {i : Nat} (hi : i < b.length) (hn : i ∉ s) (h : g.length = b.length ∧ ∀ j, j < b.length → g.getD j false = (decide (j ∈ s) && agBit (b.getD j default).2)) : g.getD i false = false := by
  rw [h.2 i hi]
  simp [hn]
theorem agV_init (b : List (Report × Int)) : (List.replicate b.length false).length = b.length ∧ ∀ j, j < b.length → (List.replicate b.length false).getD j false = (decide (j ∈ ([] : List Nat)) && agBit (b.getD j default).2) := by
  refine ⟨by simp, fun j hj => by simp [List.getD, hj]⟩
theorem agC_eq (day : Int) (x : Arrival) : ((((report_within x.registry 3) && (decide (x.day ≤ day))) && (decide (x.day ≥ x.report.day))) && report_Right x.report) = agC day x := by
  unfold agC
  rw [report_within_eq]
theorem report_agreed_ok (l : List Arrival) (day : Int) (hl : l.length ≤ 1200) : (report_agreed_sk l day).obs (fun _ => True) := by
  unfold report_agreed_sk
  refine ⟨trivial, fun _ _ _ => ⟨⟨⟨Nat.zero_le _, rfl, Nat.le_refl _⟩, fun i2 hI => ?_⟩, fun b1 _ hb1 => ?_⟩⟩
  · obtain ⟨h1, h2, h3⟩ := hI
    refine fun _ => ⟨fun hlt => ?_, fun hge => ?_⟩
    · have hlt : i2.1 < l.length := by simpa using hlt
      have hs := agMap_succ l day hlt
      rw [← h2] at hs
      have hw : w64 ((i2.1 : Int) + 1) = ((i2.1 + 1 : Nat) : Int) := (w64_id (by omega) (by omega)).trans (by omega)
      have hsl := agStep_len day i2.2 (l.getD i2.1 default)
      rw [← hs] at hsl
      have hnext : ∀ m, agStep day i2.2 (l.getD i2.1 default) = m → (i2.1 + 1 ≤ l.length ∧ m = agMap (l.take (i2.1 + 1)) day ∧ m.length ≤ i2.1 + 1) ∧ l.length - (i2.1 + 1) < l.length - i2.1 := fun m e => by
        rw [← e, ← hs]
        exact ⟨⟨by omega, rfl, by omega⟩, by omega⟩
      refine ⟨(show (0 : Int) ≤ (i2.1 : Int) ∧ (i2.1 : Int) < (l.length : Int) from ⟨by omega, by omega⟩), fun _ _ _ => ⟨⟨trivial, fun x hx _ hc => trivial⟩, fun p5 hp _ => ⟨fun hc => ?_, fun hc => ?_⟩⟩⟩
      · have hc' : agC day (l.getD i2.1 default) = true := by rw [← agC_eq, ← hc, hp]; rfl
        refine ⟨⟨⟨⟨trivial, trivial⟩, ?_, ⟨trivial, trivial⟩, trivial, trivial⟩, trivial, trivial⟩, fun _ _ _ => ⟨trivial, fun _ _ _ => ⟨hw, hnext _ ?_⟩⟩⟩
        · unfold agC at hc'
          simp only [Bool.and_eq_true, decide_eq_true_eq] at hc'
          exact hc'.1.1.1.1
        · unfold agStep
          rw [hc']
          rfl
      · have hc' : agC day (l.getD i2.1 default) = false := by rw [← agC_eq, ← hc, hp]; rfl
        refine ⟨trivial, fun _ _ _ => ⟨hw, hnext _ ?_⟩⟩
        unfold agStep
        rw [hc']
        rfl
    · have hge : ¬ i2.1 < l.length := by simpa using hge
      have e : i2.1 = l.length := by omega
      rw [e, List.take_length] at h2
      exact ⟨h2, by omega⟩
  · obtain ⟨hb2, hb3⟩ := hb1
    have hbl : b1.length ≤ 1200 := by omega
    have hex := fun g => agBody_pst b1 g
    refine ⟨trivial, fun _ _ _ => ⟨trivial, fun _ _ _ => ⟨trivial, fun _ _ _ => ?_⟩⟩⟩
    refine ⟨by rw [agL_nil]; rfl, ?_, ?_, ?_, ⟨⟨agV_init b1, fun s g i hV hi hn => ⟨?_, ?_⟩, fun s g i j hV hi hj hne hni hnj => ?_, fun g hg hV => trivial⟩, fun _ _ _ => trivial⟩⟩
    · show ([] : List Report).Perm _
      rw [agL_nil]
    · rw [agL_nil]
      intro k
      simp [kget, kfind, cnt]
    · rw [agL_nil]
      exact ⟨by simp, by simp, fun k => by simp [cnt]⟩
    · exact agBody_pst b1 g i _ (agV_step hi hV) ⟨_, List.Perm.refl _⟩ (seenQ_ex _) (liarQ_ex _)
    · exact agBody_obs b1 g i hbl hV.1 hi (agV_not hi hn hV)
    · rw [agBody_val, agBody_val, agBody_val, agBody_val]
      cases agBit (b1.getD i default).2 <;> cases agBit (b1.getD j default).2 <;> simp only [cond_true, cond_false]
      exact List.set_comm _ _ (fun e => hne e.symm)
noncomputable def report_agreed l day := (report_agreed_sk l day).val
theorem report_agreed_fn (l : List Arrival) (day : Int) (hl : l.length ≤ 1200) : FnA Tryz.prog 52 [lv Arrival.cells l, iv day] [] (.tup [.own 777777 (agL (report_agreed l day).1 (report_agreed l day).2).length, .mpv 777778]) [(777777, agRx (report_agreed l day).1 (report_agreed l day).2), (777778, agLi (report_agreed l day).1 (report_agreed l day).2)] :=
  FnA.sk tok mixed (fun x => .tup [.own 777777 (agL x.1 x.2).length, .mpv 777778]) (fun x => [(777777, agRx x.1 x.2), (777778, agLi x.1 x.2)]) Tryz.func52 rfl (by kernel_rfl) 3000 (report_agreed_sk l day) (by kernel_rfl) (report_agreed_ok l day hl)
theorem report_agreed_pst (l : List Arrival) (day : Int) : (report_agreed_sk l day).pst (fun x => x.1 = agMap l day ∧ x.2.length = x.1.length ∧ ∀ j, j < x.1.length → x.2.getD j false = agBit (x.1.getD j default).2) := by
  unfold report_agreed_sk
  refine fun _ _ _ => ⟨⟨⟨Nat.zero_le _, rfl, Nat.le_refl _⟩, fun i2 hI => ?_⟩, fun b1 _ hb1 => ?_⟩
  · obtain ⟨h1, h2, h3⟩ := hI
    refine ⟨fun hlt => ?_, fun hge => ?_⟩
    · have hlt : i2.1 < l.length := by simpa using hlt
      have hs := agMap_succ l day hlt
      rw [← h2] at hs
      have hsl := agStep_len day i2.2 (l.getD i2.1 default)
      rw [← hs] at hsl
      have hnext : ∀ m, agStep day i2.2 (l.getD i2.1 default) = m → (i2.1 + 1 ≤ l.length ∧ m = agMap (l.take (i2.1 + 1)) day ∧ m.length ≤ i2.1 + 1) ∧ l.length - (i2.1 + 1) < l.length - i2.1 := fun m e => by
        rw [← e, ← hs]
        exact ⟨⟨by omega, rfl, by omega⟩, by omega⟩
      refine fun _ _ _ p5 hp _ => ⟨fun hc => ?_, fun hc => ?_⟩
      · have hc' : agC day (l.getD i2.1 default) = true := by rw [← agC_eq, ← hc, hp]; rfl
        refine fun _ _ _ _ _ _ => hnext _ ?_
        unfold agStep
        rw [hc']
        rfl
      · have hc' : agC day (l.getD i2.1 default) = false := by rw [← agC_eq, ← hc, hp]; rfl
        refine fun _ _ _ => hnext _ ?_
        unfold agStep
        rw [hc']
        rfl
    · have hge : ¬ i2.1 < l.length := by simpa using hge
      have e : i2.1 = l.length := by omega
      rw [e, List.take_length] at h2
      exact ⟨h2, by omega⟩
  · obtain ⟨hb2, hb3⟩ := hb1
    refine fun _ _ _ _ _ _ _ _ _ => ⟨⟨agV_init b1, fun s g i hV hi hn => agBody_pst b1 g i _ (agV_step hi hV) ⟨_, List.Perm.refl _⟩ (seenQ_ex _) (liarQ_ex _), fun g hg hV => trivial⟩, ?_⟩
    intro b6 hb6 _
    refine ⟨hb2, ?_⟩
    have e : b6 = (List.range b1.length).foldr (fun i g => (agBody b1 g i).val) (List.replicate b1.length false) := (Sum.inr.inj hb6).symm
    have hV := foldr_inv (V := fun s g => g.length = b1.length ∧ ∀ j, j < b1.length → g.getD j false = (decide (j ∈ s) && agBit (b1.getD j default).2)) (f := fun g i => (agBody b1 g i).val) (n := b1.length) (fun s g i hg hi hn => by rw [agBody_val]; exact agV_step hi hg) (agV_init b1) (List.range b1.length) List.nodup_range (fun i hi => List.mem_range.1 hi)
    rw [← e] at hV
    refine ⟨hV.1, fun j hj => ?_⟩
    rw [hV.2 j hj]
    simp [hj]
/-- those at two registries at least -/
def agAll (b : List (Report × Int)) : List Report := (b.filter fun p => agBit p.2).map Prod.fst
theorem agL_all : ∀ (b : List (Report × Int)) (g : List Bool), g.length = b.length → (∀ j, j < b.length → g.getD j false = agBit (b.getD j default).2) → agL b g = agAll b
  | [], g, _, _ => by simp [agL, agAll]
  | p :: b, [], h, _ => by simp at h
  | p :: b, x :: g, h, hj => by
    have ih := agL_all b g (by simpa using h) (fun j h' => by have := hj (j + 1) (by simpa using h'); simpa using this)
    have h0 : x = agBit p.2 := by have := hj 0 (by simp); simpa using this
    subst h0
    cases hb : agBit p.2 with
    | true => simp only [agL, agAll, List.filter_cons, hb, if_true, List.map_cons, ih]
    | false => simp only [agL, agAll, List.filter_cons, hb, ih]; rfl
/-- the reports that are agreed by a day -/
noncomputable def agreedL (l : List Arrival) (day : Int) : List Report := agAll (agMap l day)
theorem report_agreed_L (l : List Arrival) (day : Int) : agL (report_agreed l day).1 (report_agreed l day).2 = agreedL l day := by
  have h := Sk.pval _ (report_agreed_pst l day)
  obtain ⟨h1, h2, h3⟩ := h
  have e : agL (report_agreed l day).1 (report_agreed l day).2 = agAll (report_agreed l day).1 := agL_all _ _ h2 h3
  rw [e]
  exact congrArg agAll h1
noncomputable def report_agreed_N (l : List Arrival) (day : Int) : Nat := (agreedL l day).length
noncomputable def report_agreed_Q (l : List Arrival) (day : Int) : List Report → Prop := rowQ (agreedL l day)
noncomputable def report_agreed_M (l : List Arrival) (day : Int) : List (Int × Bool) → Prop := liarQ (agreedL l day)
noncomputable def report_agreed_km (l : List Arrival) (day : Int) : CtrO Unit := ⟨Tryz.prog, 52, [lv Arrival.cells l, iv day], fun _ => .tup [.own 777777 (report_agreed_N l day), .mpv 777778], fun _ => [(777777, .rx 37 44 (report_agreed_N l day) (rxQ (report_agreed_Q l day) (rowE Report.cells))), (777778, .tx (txQ (report_agreed_M l day) List.length (mpf dB)))], (), l.length ≤ 1200, fun h => by
  have := report_agreed_fn l day h
  rw [agRx, agLi, report_agreed_L] at this
  exact this, fun _ => True, trivial⟩
theorem agMap_len (l : List Arrival) (day : Int) : (agMap l day).length ≤ l.length := by
  have : ∀ n, n ≤ l.length → (agMap (l.take n) day).length ≤ n := by
    intro n
    induction n with
    | zero => intro _; simp [agMap]
    | succ n ih =>
      intro hn
      have h1 := ih (by omega)
      rw [agMap_succ l day (by omega)]
      have h2 := agStep_len day (agMap (l.take n) day) (l.getD n default)
      omega
  have h := this l.length (Nat.le_refl _)
  rwa [List.take_length] at h
theorem agreedL_len (l : List Arrival) (day : Int) : (agreedL l day).length ≤ l.length := by
  have h1 := agMap_len l day
  have h2 := List.length_filter_le (fun p : Report × Int => agBit p.2) (agMap l day)
  simp only [agreedL, agAll, List.length_map]
  omega
end Go.Proofs.YtihmmpaalpghbaaGreatDoor

