/- Functions, as sketches. -/
import Derived.Test.YtggilgghigileaaGreatDoorRo12
namespace Go.Proofs.YtggilgghigileaaGreatDoor
open Go Go.Av
set_option linter.unusedSimpArgs false
set_option linter.unusedVariables false
set_option maxHeartbeats 1000000
set_option maxRecDepth 100000
/-- one receipt -/
noncomputable def rStep (r : Realm) (f : File) (j : Judgment) (day : Int) (x : Receipt) (n : Int) : (Int × Int) ⊕ Int :=
  bif ((x.bill != j.bill) || (x.to_ != j.creditor)) || decide (x.day > day) then .inr n
  else bif (money_Convert r.rates x.sum x.currency f.bill.currency x.day).2 != 0 then .inl (0, (money_Convert r.rates x.sum x.currency f.bill.currency x.day).2)
  else .inr (w64 (n + (money_Convert r.rates x.sum x.currency f.bill.currency x.day).1))
noncomputable def recv (r : Realm) (f : File) (j : Judgment) (day : Int) (l : List Receipt) : Int × Int := walk (rStep r f j day) (fun n => (n, 0)) l 0

theorem Received_eq (r : Realm) (f : File) (j : Judgment) (l : List Receipt) (day : Int) : recognize_Received r f j l day =
    bif (recognize_Check r f j != 0) || !(recognize_within day 100001) then (0, 1) else bif decide ((l.length : Int) > 200) then (0, 6) else bif slices_ContainsFunc_57 l r then (0, 1) else recv r f j day l := by
  simp only [recognize_Received, recognize_Received_sk, Sk.val_r, Sk.val_br, Sk.val_fin, Sk.val_bind, Sk.val_loop, Cal.dep_v, Cal.wh_v, Ctr.c_v, recognize_Check_k, recognize_within_k, slices_ContainsFunc_57_k]
  congr 1
  congr 1
  congr 1
  unfold recv
  refine pick_iter_walk l (fun s i => (s, i)) (rStep r f j day) id (fun b4 => (b4, 0)) (fun s i hi => ?_) (fun s => ?_) (by simp) 0
  · simp only [Sk.val_bnd, Sk.val_br, Sk.val_r, Sk.val_wi, Sk.val_fin, Ctr.c_v, money_Convert_k]
    rw [decide_eq_true (by omega), cond_true]
    unfold rStep
    cases (((l.getD i default).bill != j.bill || (l.getD i default).to_ != j.creditor) || decide ((l.getD i default).day > day)) with
    | true => rfl
    | false => cases ((money_Convert r.rates (l.getD i default).sum (l.getD i default).currency f.bill.currency (l.getD i default).day).2 != 0) <;> rfl
  · simp only [Sk.val_bnd, Sk.val_br, Sk.val_r, Sk.val_wi, Sk.val_fin]
    rw [decide_eq_false (by omega), cond_false]
    rfl

theorem Rest_eq (r : Realm) (forum : Int) (f : File) (j : Judgment) (l : List Receipt) (day : Int) : recognize_Rest r forum f j l day =
    bif (recognize_Received r f j l day).2 != 0 then (0, (recognize_Received r f j l day).2) else bif (!(recognize_within forum r.orders.length)) || decide (day < j.day) then (0, 1)
    else bif recognize_Recognized r forum f j day == 0 then (0, 4) else bif recognize_Recognized r forum f j day == 2 then (0, 17)
    else bif (money_Convert r.rates j.sum j.currency f.bill.currency j.day).2 != 0 then (0, (money_Convert r.rates j.sum j.currency f.bill.currency j.day).2)
    else (maxI (w64 ((money_Convert r.rates j.sum j.currency f.bill.currency j.day).1 - (recognize_Received r f j l day).1)) 0, 0) := by
  simp only [recognize_Rest, recognize_Rest_sk, Sk.val_r, Sk.val_br, Sk.val_fin, Ctr.c_v, recognize_Received_k, recognize_within_k, recognize_Recognized_k, money_Convert_k]

/-- how a walk over receipts ends -/
theorem recv_split (r : Realm) (f : File) (j : Judgment) (day : Int) (l : List Receipt) (hl : l.length ≤ 1000) :
    (∃ e, e ≠ 0 ∧ ∀ fin, walk (rStep r f j day) fin l 0 = (0, e)) ∨ ∃ n : Int, 0 ≤ n ∧ n ≤ l.length * 1099511627776 ∧ ∀ fin, walk (rStep r f j day) fin l 0 = fin n := by
  have h := walk_split (step := rStep r f j day) (I := fun k n => k ≤ l.length → 0 ≤ n ∧ n ≤ k * 1099511627776) (Q := fun b => b.1 = 0 ∧ b.2 ≠ 0) l 0 0 (fun k x s hx hI => ?_) (fun _ => ⟨by omega, by omega⟩)
  · rcases h with ⟨b, hq, e⟩ | ⟨n, hI, e⟩
    · exact .inl ⟨b.2, hq.2, fun fin => by rw [e fin]; exact Prod.ext hq.1 rfl⟩
    · have := hI (by omega)
      exact .inr ⟨n, this.1, by simpa using this.2, e⟩
  · unfold rStep
    cases (((x.bill != j.bill) || (x.to_ != j.creditor)) || decide (x.day > day)) with
    | true =>
      intro hk
      have := hI (by omega)
      omega
    | false =>
      cases hc : ((money_Convert r.rates x.sum x.currency f.bill.currency x.day).2 != 0) with
      | true => exact ⟨rfl, by simpa using hc⟩
      | false =>
        have hp := money_Convert_post r.rates x.sum x.currency f.bill.currency x.day (by simpa using hc)
        intro hk
        have := hI (by omega)
        rw [w64_id (by omega) (by omega)]
        omega

theorem c1_eq (x : Receipt) (r : Realm) : recognize_Received_c1 x r = !(recognize_receipt r x) := by
  simp only [recognize_Received_c1, recognize_Received_c1_sk, Sk.val_r, Sk.val_fin, Ctr.c_v, recognize_receipt_k]
theorem CF_snoc {r : Realm} {l : List Receipt} {x : Receipt} (h : recognize_receipt r x = true) : slices_ContainsFunc_57 (l ++ [x]) r = slices_ContainsFunc_57 l r := by
  have h1 := slices_ContainsFunc_57_post (l ++ [x]) r
  have h2 := slices_ContainsFunc_57_post l r
  refine Bool.eq_iff_iff.2 (Iff.trans h1 (Iff.trans ?_ (Iff.symm h2)))
  constructor
  · rintro ⟨q, hq, e⟩
    by_cases c : q < l.length
    · exact ⟨q, c, by simpa [List.getD, List.getElem?_append_left c] using e⟩
    · have : q = l.length := by simp at hq; omega
      subst this
      rw [c1_eq] at e
      simp [List.getD, h] at e
  · rintro ⟨q, hq, e⟩
    exact ⟨q, by simp; omega, by simpa [List.getD, List.getElem?_append_left hq] using e⟩

noncomputable def rateBad (s : Bool) (x : RateX) : Bool := (s || !(money_within (w64 (x.num - 1)) 1073741823)) || !(money_within (w64 (x.den - 1)) 1073741823)
noncomputable def convBad (rates : List RateX) (sum day : Int) : Bool := rates.foldl rateBad (((decide ((rates.length : Int) > 100)) || (!(money_within sum 1099511627776))) || (!(money_within day 100000)))
theorem foldl_bad : ∀ (l : List RateX) (s : Bool), l.foldl rateBad s = (s || l.foldl rateBad false)
  | [], s => by simp
  | x :: r, s => by
    simp only [List.foldl_cons]
    rw [foldl_bad r (rateBad s x), foldl_bad r (rateBad false x)]
    unfold rateBad
    cases s <;> simp
theorem Convert_ex (rates : List RateX) (sum a b day : Int) : ∃ rest : Int × Int, money_Convert rates sum a b day = bif convBad rates sum day then (0, 1) else bif a == b then (sum, 0) else rest := by
  simp only [money_Convert, money_Convert_sk, Sk.val_r, Cal.dep_v, Cal.wh_v, Ctr.c_v, money_within_k]
  rw [Sk.val_bind]
  have h : ∀ (k : Bool → Sk (Int × Int)) (m : Nat → Nat), True := fun _ _ => trivial
  rw [Sk.val_loop, iter_walk0 rates (fun s i => (s, i)) (fun x s => Sum.inr (rateBad s x)) (fun s => Sum.inr s) (fun s i hi => ?_) (fun s => ?_) (by simp) _]
  · rw [walk_fold (fun (x : RateX) s => rateBad s x)]
    show ∃ rest : Int × Int, pickS (Sum.inr (convBad rates sum day)) _ = _
    simp only [pickS_inr, Sk.val_br, Sk.val_fin]
    exact ⟨_, rfl⟩
  · simp only [Sk.val_bnd, Sk.val_br, Sk.val_r, Sk.val_wi, Sk.val_fin, Cal.dep_v, Cal.wh_v, Ctr.c_v]
    rw [decide_eq_true (by omega), cond_true]
    rfl
  · simp only [Sk.val_bnd, Sk.val_br, Sk.val_r, Sk.val_wi, Sk.val_fin]
    rw [decide_eq_false (by omega), cond_false]
theorem Convert_same {rates : List RateX} {sum a b day : Int} (h : (money_Convert rates sum a b day).2 = 0) {s c d : Int} (hs : 0 ≤ s ∧ s ≤ 1099511627776) (hd : 0 ≤ d ∧ d ≤ 100000) : money_Convert rates s c c d = (s, 0) := by
  obtain ⟨rest, e⟩ := Convert_ex rates sum a b day
  obtain ⟨rest2, e2⟩ := Convert_ex rates s c c d
  rw [e] at h
  rw [e2]
  cases hb : convBad rates sum day with
  | true => rw [hb] at h; exact absurd (show (1 : Int) = 0 from h) (by decide)
  | false =>
    have hb2 : convBad rates s d = false := by
      unfold convBad at hb ⊢
      rw [foldl_bad] at hb ⊢
      simp only [Bool.or_eq_false_iff, money_within_eq] at hb ⊢
      refine ⟨⟨⟨hb.1.1.1, ?_⟩, ?_⟩, hb.2⟩
      · simp; omega
      · simp; omega
    rw [hb2]
    simp

theorem walk_congr {α σ β : Type} {step step' : α → σ → β ⊕ σ} {fin : σ → β} : ∀ (l : List α) (s : σ), (∀ x s, x ∈ l → step x s = step' x s) → walk step fin l s = walk step' fin l s
  | [], _, _ => rfl
  | x :: r, s, h => by
    simp only [walk]
    rw [h x s (by simp)]
    cases step' x s with
    | inl b => rfl
    | inr s' => exact walk_congr r s' (fun y t hy => h y t (List.mem_cons_of_mem _ hy))
theorem recv_later {r : Realm} {f : File} {j : Judgment} {d1 d2 : Int} {l : List Receipt} (h : ∀ x, x ∈ l → x.day ≤ d1) (hd : d1 ≤ d2) : recv r f j d2 l = recv r f j d1 l := by
  unfold recv
  refine walk_congr l 0 (fun x s hx => ?_)
  have := h x hx
  unfold rStep
  rw [decide_eq_false (show ¬ x.day > d1 by omega), decide_eq_false (show ¬ x.day > d2 by omega)]
theorem recv_dep {r : Realm} {f : File} {j j' : Judgment} (hb : j.bill = j'.bill) (hc : j.creditor = j'.creditor) (d : Int) (l : List Receipt) : recv r f j d l = recv r f j' d l := by
  unfold recv
  refine walk_congr l 0 (fun x s _ => ?_)
  unfold rStep
  rw [hb, hc]
/-- what it takes to have received something -/
theorem Received_ok {r : Realm} {f : File} {j : Judgment} {l : List Receipt} {d n : Int} (h : recognize_Received r f j l d = (n, 0)) : recognize_Check r f j = 0 ∧ (0 ≤ d ∧ d ≤ 100000) ∧ l.length ≤ 200 ∧ slices_ContainsFunc_57 l r = false ∧ recv r f j d l = (n, 0) := by
  rw [Received_eq] at h
  cases h1 : (recognize_Check r f j != 0 || !recognize_within d 100001) with
  | true => rw [h1] at h; exact absurd (show (1 : Int) = 0 from congrArg Prod.snd h) (by decide)
  | false =>
    rw [h1, cond_false] at h
    by_cases h2 : (l.length : Int) > 200
    · rw [decide_eq_true h2] at h; exact absurd (show (6 : Int) = 0 from congrArg Prod.snd h) (by decide)
    · rw [decide_eq_false h2, cond_false] at h
      cases h3 : slices_ContainsFunc_57 l r with
      | true => rw [h3] at h; exact absurd (show (1 : Int) = 0 from congrArg Prod.snd h) (by decide)
      | false =>
        rw [h3, cond_false] at h
        rw [recognize_within_eq] at h1
        simp only [decide_eq_true_eq, decide_eq_false_iff_not, List.length_append, List.length_cons, List.length_nil, List.length_set, List.length_replicate, Bool.not_eq_true, Bool.not_eq_false, Int.not_lt, Int.not_le, Bool.and_eq_true, Bool.or_eq_true, Bool.and_eq_false_iff, Bool.or_eq_false_iff, Bool.not_eq_eq_eq_not, Bool.not_true, Bool.not_false, beq_iff_eq, bne_iff_ne, beq_eq_false_iff_ne, bne_eq_false_iff_eq, ne_eq, subL_length] at h1
        exact ⟨h1.1, by omega, by omega, rfl, h⟩
theorem Received_of {r : Realm} {f : File} {j : Judgment} {l : List Receipt} {d : Int} {v : Int × Int} (h1 : recognize_Check r f j = 0) (h2 : 0 ≤ d ∧ d ≤ 100000) (h3 : l.length ≤ 200) (h4 : slices_ContainsFunc_57 l r = false) (h5 : recv r f j d l = v) : recognize_Received r f j l d = v := by
  rw [Received_eq, h1, h4, h5, recognize_within_eq, decide_eq_false (show ¬ (l.length : Int) > 200 by omega), decide_eq_true (show d ≥ 0 by omega), decide_eq_true (show d < 100001 by omega)]
  rfl

/-- what the creditor has, on this day and later -/
def OnceNow (r : Realm) (f : File) (j0 : Judgment) (had top day : Int) (now : List Receipt) : Prop :=
  (∀ x, x ∈ now → x.day ≤ day) ∧ ∃ n, had ≤ n ∧ n ≤ top ∧ ∀ d, day ≤ d → d ≤ 100000 → recognize_Received r f j0 now d = (n, 0)
theorem OnceNow.later {r : Realm} {f : File} {j0 : Judgment} {had top day day2 : Int} {now : List Receipt} (h : OnceNow r f j0 had top day now) (hd : day ≤ day2) : OnceNow r f j0 had top day2 now := by
  obtain ⟨h1, n, h2, h3, h4⟩ := h
  exact ⟨fun x hx => by have := h1 x hx; omega, n, h2, h3, fun d hd1 hd2 => h4 d (by omega) hd2⟩
theorem OnceNow.first {r : Realm} {f : File} {j0 : Judgment} {had top day : Int} {l : List Receipt} (h1 : ∀ x, x ∈ l → x.day ≤ day) (hh : had ≤ top) (h : recognize_Received r f j0 l day = (had, 0)) : OnceNow r f j0 had top day l := by
  obtain ⟨a1, a2, a3, a4, a5⟩ := Received_ok h
  exact ⟨h1, had, Int.le_refl _, hh, fun d hd1 hd2 => Received_of a1 ⟨by omega, hd2⟩ a3 a4 (by rw [recv_later h1 hd1]; exact a5)⟩

/-- a judgment that can be enforced -/
def OnceJ (r : Realm) (f : File) (b c most : Int) (j : Judgment) : Prop :=
  recognize_Check r f j = 0 ∧ j.bill = b ∧ j.creditor = c ∧ (money_Convert r.rates j.sum j.currency f.bill.currency j.day).2 = 0 ∧ (money_Convert r.rates j.sum j.currency f.bill.currency j.day).1 ≤ most
theorem OnceJ.more {r : Realm} {f : File} {b c most most2 : Int} {j : Judgment} (h : OnceJ r f b c most j) (hm : most ≤ most2) : OnceJ r f b c most2 j := ⟨h.1, h.2.1, h.2.2.1, h.2.2.2.1, by have := h.2.2.2.2; omega⟩

theorem Enforce_eq (r : Realm) (forum : Int) (f : File) (j : Judgment) (l : List Receipt) (day sum : Int) : recognize_Enforce r forum f j l day sum =
    bif !(recognize_within (w64 (sum - 1)) 1099511627776) then ([], 1) else bif (recognize_Rest r forum f j l day).2 != 0 then ([], (recognize_Rest r forum f j l day).2) else bif (recognize_Rest r forum f j l day).1 == 0 then ([], 7)
    else bif ((l.length : Nat) : Int) == 200 then ([], 6)
    else (slices_Clone l ++ [({ bill := j.bill, from_ := j.debtor, to_ := j.creditor, sum := minI sum (recognize_Rest r forum f j l day).1, currency := f.bill.currency, day := day } : Receipt)], 0) := by kernel_rfl
theorem Clone_eq (l : List Receipt) : slices_Clone l = l := by
  simp [slices_Clone, slices_Clone_sk]
/-- a file of a day -/
theorem filter_fold {α : Type} (p : α → Bool) : ∀ (l s : List α), l.foldl (fun s x => bif p x then s ++ [x] else s) s = s ++ l.filter p
  | [], s => by simp
  | x :: r, s => by
    simp only [List.foldl_cons, List.filter_cons]
    cases h : p x with
    | true => simp [filter_fold p r]
    | false => simp [filter_fold p r]
theorem walk_while {α β : Type} (p : α → Bool) (g : List α → β) : ∀ (l s : List α), walk (fun x s => bif !(p x) then Sum.inl (g s) else Sum.inr (s ++ [x])) g l s = g (s ++ l.takeWhile p)
  | [], s => by simp [walk]
  | x :: r, s => by
    simp only [walk, List.takeWhile_cons]
    cases h : p x with
    | true =>
      show walk (fun x s => bif !(p x) then Sum.inl (g s) else Sum.inr (s ++ [x])) g r (s ++ [x]) = _
      rw [walk_while p g r (s ++ [x])]
      simp
    | false => simp
theorem record_At_eq (f : File) (day : Int) : record_At f day = File.mk f.bill (f.signs.takeWhile (fun s => decide (s.day ≤ day)))
    (f.alters.filter (fun a => decide (a.at_ ≤ ((f.signs.takeWhile (fun s => decide (s.day ≤ day))).length : Int)))) (f.acts.takeWhile (fun a => decide (a.day ≤ day)))
    (f.facts.filter (fun x => decide (x.at_ ≥ 0) && decide (x.at_ < ((f.signs.takeWhile (fun s => decide (s.day ≤ day))).length : Int)))) := by
  simp only [record_At, record_At_sk, Sk.val_bind, Sk.val_loop, Sk.val_bnd, Sk.val_br, Sk.val_r, Sk.val_wi, Sk.val_fin, Ctr.c_v, record_within_k, record_within_eq]
  have h1 : ∀ (n : Nat) (d : File ⊕ List Sign), f.signs.length < n → iter (fun i2 : Nat × List Sign => bif decide ((i2.1 : Int) < (f.signs.length : Int)) then (bif decide ((f.signs.getD i2.1 default).day > day) then (Sum.inl (Sum.inr i2.2)) else (Sum.inr (i2.1 + 1, i2.2 ++ [f.signs.getD i2.1 default]))) else Sum.inl (Sum.inr i2.2)) d n (0, []) = (Sum.inr (f.signs.takeWhile (fun s => decide (s.day ≤ day))) : File ⊕ List Sign) := by
    intro n d hn
    rw [iter_walk0 f.signs (fun s i => (i, s)) (fun x s => bif !(decide (x.day ≤ day)) then Sum.inl (Sum.inr s) else Sum.inr (s ++ [x])) (fun s => Sum.inr s) (fun s i hi => ?_) (fun s => ?_) hn []]
    · exact walk_while _ (fun s => (Sum.inr s : File ⊕ List Sign)) f.signs []
    · rw [decide_eq_true (by omega), cond_true]
      by_cases c : (f.signs.getD i default).day > day
      · rw [decide_eq_true c, decide_eq_false (by omega)]; rfl
      · rw [decide_eq_false c, decide_eq_true (by omega)]; rfl
    · rw [decide_eq_false (by omega), cond_false]
  rw [h1 _ _ (by simp)]
  have h2 : ∀ (n : Nat) (d : File ⊕ List ActX), f.acts.length < n → iter (fun i2 : Nat × List ActX => bif decide ((i2.1 : Int) < (f.acts.length : Int)) then (bif decide ((f.acts.getD i2.1 default).day > day) then (Sum.inl (Sum.inr i2.2)) else (Sum.inr (i2.1 + 1, i2.2 ++ [f.acts.getD i2.1 default]))) else Sum.inl (Sum.inr i2.2)) d n (0, []) = (Sum.inr (f.acts.takeWhile (fun s => decide (s.day ≤ day))) : File ⊕ List ActX) := by
    intro n d hn
    rw [iter_walk0 f.acts (fun s i => (i, s)) (fun x s => bif !(decide (x.day ≤ day)) then Sum.inl (Sum.inr s) else Sum.inr (s ++ [x])) (fun s => Sum.inr s) (fun s i hi => ?_) (fun s => ?_) hn []]
    · exact walk_while _ (fun s => (Sum.inr s : File ⊕ List ActX)) f.acts []
    · rw [decide_eq_true (by omega), cond_true]
      by_cases c : (f.acts.getD i default).day > day
      · rw [decide_eq_true c, decide_eq_false (by omega)]; rfl
      · rw [decide_eq_false c, decide_eq_true (by omega)]; rfl
    · rw [decide_eq_false (by omega), cond_false]
  simp only [pickS_inr]
  rw [h2 _ _ (by simp)]
  simp only [pickS_inr]
  generalize f.signs.takeWhile (fun s => decide (s.day ≤ day)) = b1
  have h3 : ∀ (n : Nat) (d : File ⊕ List Alter), f.alters.length < n → iter (fun i2 : Nat × List Alter => bif decide ((i2.1 : Int) < (f.alters.length : Int)) then (bif decide ((f.alters.getD i2.1 default).at_ ≤ (b1.length : Int)) then (Sum.inr (i2.1 + 1, i2.2 ++ [f.alters.getD i2.1 default])) else (Sum.inr (i2.1 + 1, i2.2))) else Sum.inl (Sum.inr i2.2)) d n (0, []) = (Sum.inr (f.alters.filter (fun a => decide (a.at_ ≤ (b1.length : Int)))) : File ⊕ List Alter) := by
    intro n d hn
    rw [iter_walk0 f.alters (fun s i => (i, s)) (fun x s => Sum.inr (bif decide (x.at_ ≤ (b1.length : Int)) then s ++ [x] else s)) (fun s => Sum.inr s) (fun s i hi => ?_) (fun s => ?_) hn []]
    · rw [walk_fold (fun (x : Alter) s => bif decide (x.at_ ≤ (b1.length : Int)) then s ++ [x] else s), filter_fold]; rfl
    · rw [decide_eq_true (by omega), cond_true]
      cases decide ((f.alters.getD i default).at_ ≤ (b1.length : Int)) <;> rfl
    · rw [decide_eq_false (by omega), cond_false]
  rw [h3 _ _ (by simp)]
  simp only [pickS_inr]
  have h4 : ∀ (n : Nat) (d : File ⊕ List Fact), f.facts.length < n → iter (fun i2 : Nat × List Fact => bif decide ((i2.1 : Int) < (f.facts.length : Int)) then (bif (decide ((f.facts.getD i2.1 default).at_ ≥ 0) && decide ((f.facts.getD i2.1 default).at_ < (b1.length : Int))) then (Sum.inr (i2.1 + 1, i2.2 ++ [f.facts.getD i2.1 default])) else (Sum.inr (i2.1 + 1, i2.2))) else Sum.inl (Sum.inr i2.2)) d n (0, []) = (Sum.inr (f.facts.filter (fun a => decide (a.at_ ≥ 0) && decide (a.at_ < (b1.length : Int)))) : File ⊕ List Fact) := by
    intro n d hn
    rw [iter_walk0 f.facts (fun s i => (i, s)) (fun x s => Sum.inr (bif (decide (x.at_ ≥ 0) && decide (x.at_ < (b1.length : Int))) then s ++ [x] else s)) (fun s => Sum.inr s) (fun s i hi => ?_) (fun s => ?_) hn []]
    · rw [walk_fold (fun (x : Fact) s => bif (decide (x.at_ ≥ 0) && decide (x.at_ < (b1.length : Int))) then s ++ [x] else s), filter_fold]; rfl
    · rw [decide_eq_true (by omega), cond_true]
      cases (decide ((f.facts.getD i default).at_ ≥ 0) && decide ((f.facts.getD i default).at_ < (b1.length : Int))) <;> rfl
    · rw [decide_eq_false (by omega), cond_false]
  rw [h4 _ _ (by simp)]
  rfl

theorem takeWhile_getD {α : Type} [Inhabited α] (p : α → Bool) : ∀ (l : List α) (i : Nat), i < (l.takeWhile p).length → (l.takeWhile p).getD i default = l.getD i default ∧ i < l.length ∧ p (l.getD i default) = true
  | [], i, h => by simp at h
  | x :: r, i, h => by
    rw [List.takeWhile_cons] at h ⊢
    cases hp : p x with
    | false => rw [hp] at h; simp at h
    | true =>
      rw [hp] at h
      simp only [if_true, List.length_cons] at h ⊢
      cases i with
      | zero => exact ⟨rfl, by simp, hp⟩
      | succ i =>
        have := takeWhile_getD p r i (by omega)
        exact ⟨by simpa using this.1, by simpa using this.2.1, by simpa using this.2.2⟩
theorem record_who {r : Realm} {f : File} {j : Judgment} (hwho : ∀ q, q < f.signs.length → 0 ≤ (f.signs.getD q default).who ∧ (f.signs.getD q default).who < r.firms.length)
    (h8 : j.sign ≥ 0 ∧ j.sign < (record_At f j.day).signs.length) (h9 : ((record_At f j.day).signs.getD j.sign.toNat default).who = j.debtor) : 0 ≤ j.debtor ∧ j.debtor < r.firms.length := by
  rw [record_At_eq] at h8 h9
  simp only at h8 h9
  obtain ⟨h1, h2, _⟩ := takeWhile_getD (fun s => decide (s.day ≤ j.day)) f.signs j.sign.toNat (by omega)
  rw [h1] at h9
  rw [← h9]
  exact hwho _ h2
/-- a receipt that is made of a judgment is right -/
theorem rec_right {r : Realm} {f : File} {j : Judgment} {a day : Int} (hcur : 0 ≤ f.bill.currency ∧ f.bill.currency < r.currencies.length) (hwho : ∀ q, q < f.signs.length → 0 ≤ (f.signs.getD q default).who ∧ (f.signs.getD q default).who < r.firms.length) (h : recognize_Check r f j = 0)
    (ha : 0 ≤ a ∧ a ≤ 1099511627776) (hd : 0 ≤ day ∧ day ≤ 100000) : recognize_receipt r { bill := j.bill, from_ := j.debtor, to_ := j.creditor, sum := a, currency := f.bill.currency, day := day } = true := by
  have hc : recognize_Check r f j = (bif (((!((((((recognize_within j.court r.orders.length && recognize_within j.bill 50) && recognize_within j.sum 1099511627777) && recognize_within j.currency r.currencies.length) && recognize_within j.day 100001) && recognize_within j.creditor r.firms.length) && (j.creditor != j.debtor))) || (!recognize_within j.sign (record_At f j.day).signs.length)) || ((((record_At f j.day).signs.getD j.sign.toNat default).who) != j.debtor)) then 1 else 0) := by kernel_rfl
  rw [h] at hc
  cases hb : (((!((((((recognize_within j.court r.orders.length && recognize_within j.bill 50) && recognize_within j.sum 1099511627777) && recognize_within j.currency r.currencies.length) && recognize_within j.day 100001) && recognize_within j.creditor r.firms.length) && (j.creditor != j.debtor))) || (!recognize_within j.sign (record_At f j.day).signs.length)) || ((((record_At f j.day).signs.getD j.sign.toNat default).who) != j.debtor)) with
  | true => rw [hb] at hc; exact absurd (show (0 : Int) = 1 from hc) (by decide)
  | false =>
    simp only [decide_eq_true_eq, decide_eq_false_iff_not, List.length_append, List.length_cons, List.length_nil, List.length_set, List.length_replicate, Bool.not_eq_true, Bool.not_eq_false, Int.not_lt, Int.not_le, Bool.and_eq_true, Bool.or_eq_true, Bool.and_eq_false_iff, Bool.or_eq_false_iff, Bool.not_eq_eq_eq_not, Bool.not_true, Bool.not_false, beq_iff_eq, bne_iff_ne, beq_eq_false_iff_ne, bne_eq_false_iff_eq, ne_eq, subL_length, recognize_within_eq] at hb
    obtain ⟨⟨⟨⟨⟨⟨⟨⟨h1, h2⟩, h3⟩, h4⟩, h5⟩, h6⟩, h7⟩, h8⟩, h9⟩ := hb
    have hw := record_who hwho h8 h9
    simp only [recognize_receipt, recognize_receipt_sk, recognize_within_k, recognize_within_eq, Sk.val_r, Sk.val_fin, Cal.dep_v, Cal.wh_v, Ctr.c_v, decide_eq_true_eq, decide_eq_false_iff_not, List.length_append, List.length_cons, List.length_nil, List.length_set, List.length_replicate, Bool.not_eq_true, Bool.not_eq_false, Int.not_lt, Int.not_le, Bool.and_eq_true, Bool.or_eq_true, Bool.and_eq_false_iff, Bool.or_eq_false_iff, Bool.not_eq_eq_eq_not, Bool.not_true, Bool.not_false, beq_iff_eq, bne_iff_ne, beq_eq_false_iff_ne, bne_eq_false_iff_eq, ne_eq, subL_length]
    omega
theorem once_step {r : Realm} {f : File} {j0 j : Judgment} {had top most day day2 forum sum b c : Int} {now : List Receipt}
    (hcur : 0 ≤ f.bill.currency ∧ f.bill.currency < r.currencies.length) (hwho : ∀ q, q < f.signs.length → 0 ≤ (f.signs.getD q default).who ∧ (f.signs.getD q default).who < r.firms.length)
    (hj0 : OnceJ r f b c most j0) (hj : OnceJ r f b c most j) (hmt : most ≤ top) (hnow : OnceNow r f j0 had top day now) (h0 : 0 ≤ had) (hd : day ≤ day2) (hd0 : 0 ≤ day) (hd2 : day2 ≤ 100000) (hl : now.length ≤ 150)
    (hs : -9223372036854775808 ≤ sum ∧ sum ≤ 9223372036854775807) (he : (recognize_Enforce r forum f j now day2 sum).2 = 0) :
    (recognize_Enforce r forum f j now day2 sum).1.length = now.length + 1 ∧ 1 ≤ ((recognize_Enforce r forum f j now day2 sum).1.getD now.length default).sum ∧ ((recognize_Enforce r forum f j now day2 sum).1.getD now.length default).sum ≤ sum ∧
      OnceNow r f j0 had top day2 (recognize_Enforce r forum f j now day2 sum).1 := by
  obtain ⟨n1, n, n2, n3, n4⟩ := hnow
  have hr0 := n4 day2 hd hd2
  obtain ⟨a1, a2, a3, a4, a5⟩ := Received_ok hr0
  have hrj : recognize_Received r f j now day2 = (n, 0) := Received_of hj.1 a2 a3 a4 (by rw [recv_dep (j' := j0) (by rw [hj.2.1, hj0.2.1]) (by rw [hj.2.2.1, hj0.2.2.1])]; exact a5)
  have hn : 0 ≤ n ∧ n ≤ 164926744166400 := by
    have := recv_split r f j0 day2 now (by omega)
    unfold recv at a5
    rcases this with ⟨e, q, w⟩ | ⟨m, q1, q2, w⟩
    · rw [w] at a5; exact absurd (congrArg Prod.snd a5) q
    · rw [w] at a5
      have : m = n := congrArg Prod.fst a5
      omega
  have hR := Rest_eq r forum f j now day2
  have hE := Enforce_eq r forum f j now day2 sum
  rw [hrj] at hR
  rw [show ((0 : Int) != 0) = false from rfl] at hR
  simp only [cond_false] at hR
  rw [hE] at he
  cases c1 : (!(recognize_within (w64 (sum - 1)) 1099511627776)) with
  | true => rw [c1] at he; exact absurd (show (1 : Int) = 0 from he) (by decide)
  | false =>
    rw [c1, cond_false] at he hE
    cases c2 : ((recognize_Rest r forum f j now day2).2 != 0) with
    | true =>
      rw [c2, cond_true] at he
      have he' : (recognize_Rest r forum f j now day2).2 = 0 := he
      rw [he'] at c2
      exact absurd c2 (by decide)
    | false =>
      rw [c2, cond_false] at he hE
      cases c3 : ((recognize_Rest r forum f j now day2).1 == 0) with
      | true => rw [c3] at he; exact absurd (show (7 : Int) = 0 from he) (by decide)
      | false =>
        rw [c3, cond_false] at he hE
        cases c4 : (((now.length : Nat) : Int) == 200) with
        | true => rw [c4] at he; exact absurd (show (6 : Int) = 0 from he) (by decide)
        | false =>
          rw [c4, cond_false, Clone_eq] at hE
          -- what can still be enforced
          have hw := hj.2.2.2
          have hwp := money_Convert_post r.rates j.sum j.currency f.bill.currency j.day hw.1
          have hrest : (recognize_Rest r forum f j now day2).1 = (money_Convert r.rates j.sum j.currency f.bill.currency j.day).1 - n ∧ 1 ≤ (recognize_Rest r forum f j now day2).1 := by
            rw [hR] at c2 c3 ⊢
            cases d1 : (!(recognize_within forum r.orders.length) || decide (day2 < j.day)) with
            | true => rw [d1] at c2; exact absurd (show ((1 : Int) != 0) = false from c2) (by decide)
            | false =>
              rw [d1, cond_false] at c2 c3
              rw [cond_false]
              cases d2 : (recognize_Recognized r forum f j day2 == 0) with
              | true => rw [d2] at c2; exact absurd (show ((4 : Int) != 0) = false from c2) (by decide)
              | false =>
                rw [d2, cond_false] at c2 c3
                rw [cond_false]
                cases d3 : (recognize_Recognized r forum f j day2 == 2) with
                | true => rw [d3] at c2; exact absurd (show ((17 : Int) != 0) = false from c2) (by decide)
                | false =>
                  rw [d3, cond_false] at c2 c3
                  rw [cond_false]
                  rw [hw.1, show ((0 : Int) != 0) = false from rfl, cond_false] at c3 ⊢
                  generalize (money_Convert r.rates j.sum j.currency f.bill.currency j.day).1 = w at hwp c3 ⊢
                  rw [w64_id (by omega) (by omega)] at c3 ⊢
                  simp only [beq_eq_false_iff_ne, ne_eq, maxI] at c3 ⊢
                  omega
          obtain ⟨e1, e2⟩ := hrest
          generalize (recognize_Rest r forum f j now day2).1 = rest at e1 e2 hE
          simp only [recognize_within_eq, decide_eq_true_eq, decide_eq_false_iff_not, List.length_append, List.length_cons, List.length_nil, List.length_set, List.length_replicate, Bool.not_eq_true, Bool.not_eq_false, Int.not_lt, Int.not_le, Bool.and_eq_true, Bool.or_eq_true, Bool.and_eq_false_iff, Bool.or_eq_false_iff, Bool.not_eq_eq_eq_not, Bool.not_true, Bool.not_false, beq_iff_eq, bne_iff_ne, beq_eq_false_iff_ne, bne_eq_false_iff_eq, ne_eq, subL_length] at c1
          have hsum : 1 ≤ sum ∧ sum ≤ 1099511627776 := by
            by_cases q : sum = -9223372036854775808
            · rw [q] at c1
              exact absurd c1 (by decide)
            · rw [w64_id (by omega) (by omega)] at c1
              omega
          have hmin : minI sum rest = min sum rest := by unfold minI; omega
          rw [hmin] at hE
          have ha : 1 ≤ min sum rest ∧ min sum rest ≤ sum ∧ min sum rest ≤ rest ∧ min sum rest ≤ 1099511627776 := by omega
          generalize min sum rest = a at ha hE
          rw [hE]
          have hgr := rec_right (a := a) (day := day2) hcur hwho hj.1 (by omega) ⟨by omega, hd2⟩
          refine ⟨by simp, by simp; omega, by simp; omega, ?_, n + a, by omega, by omega, fun d q1 q2 => ?_⟩
          · intro x hx
            rcases List.mem_append.1 hx with h | h
            · have := n1 x h; omega
            · simp only [List.mem_singleton] at h; subst h; simp
          · have hrd := n4 d (by omega) q2
            obtain ⟨b1, b2, b3, b4, b5⟩ := Received_ok hrd
            refine Received_of b1 b2 (by simp; omega) (by rw [CF_snoc hgr]; exact b4) ?_
            have hsplit := recv_split r f j0 d now (by omega)
            unfold recv at b5 ⊢
            rw [walk_snoc]
            rcases hsplit with ⟨e, q, w⟩ | ⟨m, q1', q2', w⟩
            · rw [w] at b5; exact absurd (congrArg Prod.snd b5) q
            · rw [w] at b5 ⊢
              have hm : m = n := congrArg Prod.fst b5
              subst hm
              have hconv : money_Convert r.rates a f.bill.currency f.bill.currency day2 = (a, 0) := Convert_same hw.1 (by omega) ⟨by omega, hd2⟩
              unfold rStep
              simp only [hj.2.1, hj0.2.1, hj.2.2.1, hj0.2.2.1, bne_self_eq_false, Bool.false_or, hconv]
              rw [decide_eq_false (show ¬ day2 > d by omega)]
              simp only [cond_false]
              rw [w64_id (by omega) (by omega)]
theorem tmod_rng (x : Int) {n : Int} (h : 0 < n) (h8 : n ≤ 400) : 0 ≤ (w64 (x.tmod n + n)).tmod n ∧ (w64 (x.tmod n + n)).tmod n < n := by
  have h1 := Int.tmod_lt_of_pos x h
  have h2 : -n < x.tmod n := by
    rcases Int.lt_or_le x 0 with c | c
    · have := Int.tmod_lt_of_pos (-x) h
      rw [Int.neg_tmod] at this
      omega
    · have := Int.tmod_nonneg n c
      omega
  rw [w64_id (by omega) (by omega)]
  exact ⟨Int.tmod_nonneg _ (by omega), Int.tmod_lt_of_pos _ h⟩
/-- a day some days later -/
theorem day2_rng (x : Int) {d : Int} (h0 : 0 ≤ d) (h : d ≤ 98000) : d ≤ w64 (d + (w64 (x.tmod 400 + 400)).tmod 400) ∧ w64 (d + (w64 (x.tmod 400 + 400)).tmod 400) ≤ d + 399 := by
  have := tmod_rng x (n := 400) (by omega) (by omega)
  rw [w64_id (n := d + _) (by omega) (by omega)]
  omega
/-- an attempt -/
theorem once_try {r : Realm} {f : File} {all : List Judgment} {b c most had d : Int} {now : List Receipt} (t : Try) (hp : PaperOK r f) (hne : 0 < all.length) (h8 : all.length ≤ 8) (hall : ∀ j, j ∈ all → OnceJ r f b c most j)
    (hnow : OnceNow r f (all.getD 0 default) had (maxI most had) d now) (h0 : 0 ≤ had) (hd0 : 0 ≤ d) (hd : d ≤ 98000) (hl : now.length ≤ 150) (ht : -9223372036854775808 ≤ t.sum ∧ t.sum ≤ 9223372036854775807)
    {x : List Receipt × Int} (hx : x = recognize_Enforce r t.court f (all.getD ((w64 (t.judgment.tmod (all.length : Int) + (all.length : Int))).tmod (all.length : Int)).toNat default) now (w64 (d + (w64 (t.days.tmod 400 + 400)).tmod 400)) t.sum) (he : x.2 = 0) :
    x.1.length = now.length + 1 ∧ 1 ≤ (x.1.getD now.length default).sum ∧ (x.1.getD now.length default).sum ≤ t.sum ∧ OnceNow r f (all.getD 0 default) had (maxI most had) (w64 (d + (w64 (t.days.tmod 400 + 400)).tmod 400)) x.1 := by
  subst hx
  have hday := day2_rng t.days hd0 hd
  have hix := tmod_rng t.judgment (n := (all.length : Int)) (by omega) (by omega)
  have hj := hall _ (lget_mem (l := all) (i := ((w64 (t.judgment.tmod (all.length : Int) + (all.length : Int))).tmod (all.length : Int)).toNat) (by omega) default)
  have hj0 := hall _ (lget_mem hne default)
  exact once_step ⟨hp.1.1, hp.1.2.1⟩ (fun q hq => ⟨(hp.2.1 q hq).1, (hp.2.1 q hq).2.1⟩) hj0 hj (by unfold maxI; split <;> omega) hnow h0 hday.1 hd0 (by omega) hl ht he
theorem Received_err {r : Realm} {f : File} {j : Judgment} {l : List Receipt} {d : Int} (h : (recognize_Received r f j l d).2 ≠ 0) : (recognize_Received r f j l d).1 = 0 := by
  rw [Received_eq] at h ⊢
  cases h1 : (recognize_Check r f j != 0 || !recognize_within d 100001) with
  | true => rfl
  | false =>
    rw [h1, cond_false] at h
    rw [cond_false]
    by_cases h2 : (l.length : Int) > 200
    · rw [decide_eq_true h2]; rfl
    · rw [decide_eq_false h2, cond_false] at h
      rw [decide_eq_false h2, cond_false]
      cases h3 : slices_ContainsFunc_57 l r with
      | true => rfl
      | false =>
        rw [h3, cond_false] at h
        rw [cond_false]
        have := recv_split r f j d l (by omega)
        unfold recv at h ⊢
        rcases this with ⟨e, q, w⟩ | ⟨m, q1, q2, w⟩
        · rw [w]
        · rw [w] at h; exact absurd rfl h
theorem Received_nonneg {r : Realm} {f : File} {j : Judgment} {l : List Receipt} {d : Int} {v : Int × Int} (hv : v = recognize_Received r f j l d) (hok : v.2 = 0) : 0 ≤ v.1 := by
  obtain ⟨_, _, hl, _, hr⟩ := Received_ok (n := v.1) (by rw [← hv]; exact Prod.ext rfl hok)
  have := recv_split r f j d l (by omega)
  unfold recv at hr
  rcases this with ⟨e, q, w⟩ | ⟨m, q1, q2, w⟩
  · rw [w] at hr; exact absurd (congrArg Prod.snd hr) q
  · rw [w] at hr
    have : m = v.1 := congrArg Prod.fst hr
    omega
noncomputable def allongelaw47_RecognizeOnce_sk (r : Realm) (f : File) (judgments : List Judgment) (creditor : Int) (l : List Receipt) (day : Int) (tries : List Try) : Sk (Bool) :=
 .r 1 allongelaw47_sane_k.c fun x1 =>
 .r 2 ((allongelaw47_bounded_k r f).c) fun x2 =>
 .br ((((((!x2) || (decide (((judgments.length : Nat) : Int) > 8))) || (decide (((l.length : Nat) : Int) > 100))) || (decide (((tries.length : Nat) : Int) > 20))) || (decide (day < 0))) || (decide (day > 90000)))
 (.fin x1)
 (.bind true (fun b3 => ∀ q, q < l.length → (l.getD q default).day ≤ day)
 (.loop (default : Sum (Bool) (Unit)) (fun i4 => i4 ≤ l.length ∧ ∀ q, q < i4 → (l.getD q default).day ≤ day) (fun i4 => l.length - i4) (0 : Nat)
 (fun (i4 : Nat) => ⟨[(16, iv ((i4 : Nat) : Int))], []⟩) fun i4 =>
 .bnd 4 0 l.length <|
 .br (decide (((i4 : Nat) : Int) < ((l.length : Nat) : Int)))
 (.r 7 (.p (ixP ((i4 : Nat) : Int) l.length)) fun _ =>
 .br (decide (((l.getD i4 default).day) > day))
 (.fin (.inl (.inl x1)))
 (.r 6 .z fun _ =>
 .wi 16 (w64 (((i4 : Nat) : Int) + 1)) ((i4 + 1 : Nat) : Int) <|
 .fin (.inr (i4 + 1))))
 (.fin (.inl (.inr ()))))
 (fun (_ : Unit) => ⟨[], []⟩) fun _ =>
 .bind true (fun b5 => b5.1.length ≤ judgments.length ∧ 0 ≤ b5.2 ∧ b5.2 ≤ 1099511627776 ∧ ∀ j, j ∈ b5.1 → OnceJ r f (judgments.getD 0 default).bill creditor b5.2 j)
 (.loop (default : Sum (Bool) ((List Judgment) × Int)) (fun i6 => i6.1.length ≤ i6.2.2 ∧ i6.2.2 ≤ judgments.length ∧ 0 ≤ i6.2.1 ∧ i6.2.1 ≤ 1099511627776 ∧ ∀ j, j ∈ i6.1 → OnceJ r f (judgments.getD 0 default).bill creditor i6.2.1 j) (fun i6 => judgments.length - i6.2.2) (([], 0, 0) : (List Judgment) × Int × Nat)
 (fun (i6 : (List Judgment) × Int × Nat) => ⟨[(17, ow 100002 i6.1), (18, iv i6.2.1), (19, iv ((i6.2.2 : Nat) : Int))], [(100002, rowB 61 8 Judgment.cells i6.1)]⟩) fun i6 =>
 .bnd 2 0 judgments.length <|
 .br (decide (((i6.2.2 : Nat) : Int) < ((judgments.length : Nat) : Int)))
 (.r 14 (.p (ixP ((i6.2.2 : Nat) : Int) judgments.length)) fun _ =>
 .r 16 (.p (ixP (0 : Int) judgments.length)) fun _ =>
 .r 17 ((money_Convert_k r.rates ((judgments.getD i6.2.2 default).sum) ((judgments.getD i6.2.2 default).currency) f.bill.currency ((judgments.getD i6.2.2 default).day)).c) fun x7 =>
 .r 18 (.wh (x7.2 == 0) true ((recognize_Check_k r f ({ judgments.getD i6.2.2 default with bill := (judgments.getD 0 default).bill, creditor := creditor })).c)) fun x8 =>
 .br ((x7.2 == 0) && (x8 == 0))
 (.r 19 (.andl (.o [.nrm (litC Judgment.E [{ judgments.getD i6.2.2 default with bill := (judgments.getD 0 default).bill, creditor := creditor }])]) (.andl (.o [.nrm (catC Judgment.E i6.1 [{ judgments.getD i6.2.2 default with bill := (judgments.getD 0 default).bill, creditor := creditor }])]) (.andl (.t (Judgment.E.ones [{ judgments.getD i6.2.2 default with bill := (judgments.getD 0 default).bill, creditor := creditor }])) (.p (szP i6.1.length [{ judgments.getD i6.2.2 default with bill := (judgments.getD 0 default).bill, creditor := creditor }].length 64))))) fun _ =>
 .r 13 .z fun _ =>
 .wi 19 (w64 (((i6.2.2 : Nat) : Int) + 1)) ((i6.2.2 + 1 : Nat) : Int) <|
 .fin (.inr (i6.1 ++ [{ judgments.getD i6.2.2 default with bill := (judgments.getD 0 default).bill, creditor := creditor }], maxI i6.2.1 x7.1, i6.2.2 + 1)))
 (.r 13 .z fun _ =>
 .wi 19 (w64 (((i6.2.2 : Nat) : Int) + 1)) ((i6.2.2 + 1 : Nat) : Int) <|
 .fin (.inr (i6.1, i6.2.1, i6.2.2 + 1))))
 (.fin (.inl (.inr (i6.1, i6.2.1)))))
 (fun (b5 : (List Judgment) × Int) => ⟨[(17, ow 100001 b5.1), (18, iv b5.2)], [(100001, rowB 61 8 Judgment.cells b5.1)]⟩) fun b5 =>
 .br (((b5.1.length : Nat) : Int) == 0)
 (.fin x1)
 (.r 23 (.andl (.p (ixP (0 : Int) b5.1.length)) (.andl (.p (0 < b5.1.length)) ((recognize_Received_k r f (b5.1.getD 0 default) l day).c))) fun x9 =>
 .br (x9.2 != 0)
 (.fin (x1 && (x9.1 == 0)))
 (.bind true (fun _ => True)
 (.loop (default : Sum (Bool) (Unit)) (fun i11 => i11.2.2 ≤ tries.length ∧ day ≤ i11.1 ∧ i11.1 ≤ day + 399 * (i11.2.2 : Int) ∧ i11.2.1.length ≤ l.length + i11.2.2 ∧ OnceNow r f (b5.1.getD 0 default) x9.1 (maxI b5.2 x9.1) i11.1 i11.2.1) (fun i11 => tries.length - i11.2.2) ((day, l, 0) : Int × (List Receipt) × Nat)
 (fun (i11 : Int × (List Receipt) × Nat) => ⟨[(5, iv i11.1), (25, lv Receipt.cells i11.2.1), (26, iv ((i11.2.2 : Nat) : Int))], []⟩) fun i11 =>
 .bnd 6 0 tries.length <|
 .br (decide (((i11.2.2 : Nat) : Int) < ((tries.length : Nat) : Int)))
 (.r 30 (.p (ixP ((i11.2.2 : Nat) : Int) tries.length)) fun _ =>
 .r 31 (.andl (.p ((400 : Int) ≠ 0)) (.p ((400 : Int) ≠ 0))) fun _ =>
 .r 32 (.andl (.p (((b5.1.length : Nat) : Int) ≠ 0)) (.andl (.p (((b5.1.length : Nat) : Int) ≠ 0)) (.andl (.p (ixP ((w64 ((((tries.getD i11.2.2 default).judgment).tmod ((b5.1.length : Nat) : Int)) + ((b5.1.length : Nat) : Int))).tmod ((b5.1.length : Nat) : Int)) b5.1.length)) (.p (((w64 ((((tries.getD i11.2.2 default).judgment).tmod ((b5.1.length : Nat) : Int)) + ((b5.1.length : Nat) : Int))).tmod ((b5.1.length : Nat) : Int)).toNat < b5.1.length))))) fun _ =>
 .r 33 ((recognize_Enforce_k r ((tries.getD i11.2.2 default).court) f (b5.1.getD (((w64 ((((tries.getD i11.2.2 default).judgment).tmod ((b5.1.length : Nat) : Int)) + ((b5.1.length : Nat) : Int))).tmod ((b5.1.length : Nat) : Int)).toNat) default) i11.2.1 (w64 (i11.1 + ((w64 ((((tries.getD i11.2.2 default).days).tmod 400) + 400)).tmod 400))) ((tries.getD i11.2.2 default).sum)).c) fun x12 =>
 .bind false (fun b13 => b13.length ≤ i11.2.1.length + 1 ∧ OnceNow r f (b5.1.getD 0 default) x9.1 (maxI b5.2 x9.1) (w64 (i11.1 + ((w64 ((((tries.getD i11.2.2 default).days).tmod 400) + 400)).tmod 400))) b13)
 (.br (x12.2 == 0)
 (.r 35 (.andl (.wh (((x12.1.length : Nat) : Int) != (w64 (((i11.2.1.length : Nat) : Int) + 1))) false (.p (ixP ((i11.2.1.length : Nat) : Int) x12.1.length))) (.wh ((((x12.1.length : Nat) : Int) != (w64 (((i11.2.1.length : Nat) : Int) + 1))) || (decide (((x12.1.getD i11.2.1.length default).sum) < 1))) false (.p (ixP ((i11.2.1.length : Nat) : Int) x12.1.length)))) fun _ =>
 .br (((((x12.1.length : Nat) : Int) != (w64 (((i11.2.1.length : Nat) : Int) + 1))) || (decide (((x12.1.getD i11.2.1.length default).sum) < 1))) || (decide (((x12.1.getD i11.2.1.length default).sum) > ((tries.getD i11.2.2 default).sum))))
 (.fin (.inl (.inl (.inl false))))
 (.fin (.inr x12.1)))
 (.fin (.inr i11.2.1)))
 (fun (b13 : (List Receipt)) => ⟨[(25, lv Receipt.cells b13)], []⟩) fun b13 =>
 .r 38 (.andl (.p (ixP (0 : Int) b5.1.length)) (.andl (.p (0 < b5.1.length)) ((recognize_Received_k r f (b5.1.getD 0 default) b13 (w64 (i11.1 + ((w64 ((((tries.getD i11.2.2 default).days).tmod 400) + 400)).tmod 400)))).c))) fun x14 =>
 .br (((x14.2 != 0) || (decide (x14.1 > (maxI b5.2 x9.1)))) || (decide (x14.1 < x9.1)))
 (.fin (.inl (.inl false)))
 (.r 29 .z fun _ =>
 .wi 26 (w64 (((i11.2.2 : Nat) : Int) + 1)) ((i11.2.2 + 1 : Nat) : Int) <|
 .fin (.inr (w64 (i11.1 + ((w64 ((((tries.getD i11.2.2 default).days).tmod 400) + 400)).tmod 400)), b13, i11.2.2 + 1))))
 (.fin (.inl (.inr ()))))
 (fun (_ : Unit) => ⟨[], []⟩) fun _ =>
 .fin x1)))
noncomputable def allongelaw47_RecognizeOnce (r : Realm) (f : File) (judgments : List Judgment) (creditor : Int) (l : List Receipt) (day : Int) (tries : List Try) : Bool := (allongelaw47_RecognizeOnce_sk r f judgments creditor l day tries).val
theorem allongelaw47_RecognizeOnce_pst (r : Realm) (f : File) (judgments : List Judgment) (creditor : Int) (l : List Receipt) (day : Int) (tries : List Try) (hP : ∀ x, x ∈ tries → -9223372036854775808 ≤ x.sum ∧ x.sum ≤ 9223372036854775807) : (allongelaw47_RecognizeOnce_sk r f judgments creditor l day tries).pst (fun (x : Bool) => x = true) := by
  refine Sk.pst_of _ ?_
  unfold allongelaw47_RecognizeOnce_sk
  simp only [Sk.pstq, Sk.isLoop, reduceCtorEq, leafB, leafJ, Cal.z, Cal.p, Cal.t, Cal.pt, Cal.o, Cal.and, Cal.andl, Cal.andr, Cal.wh, Cal.dep, Cal.depr, Ctr.c, Ctr.nil, Ctr.nilc, CtrO.c, CtrO.nil, allongelaw47_bounded_k, allongelaw47_sane_k, money_Convert_k, recognize_Check_k, recognize_Enforce_k, recognize_Received_k, File.Small, Realm.Small, Realm.ByOK, maxLen, implies_true, true_and, and_true, and_self, true_implies, false_implies, ixP, szP, mkP]
  intro x _ hxt y _ hb
  subst hxt
  refine ⟨fun _ => rfl, fun hc => ?_⟩
  simp only [decide_eq_true_eq, decide_eq_false_iff_not, List.length_append, List.length_cons, List.length_nil, List.length_set, List.length_replicate, Bool.not_eq_true, Bool.not_eq_false, Int.not_lt, Int.not_le, Bool.and_eq_true, Bool.or_eq_true, Bool.and_eq_false_iff, Bool.or_eq_false_iff, Bool.not_eq_eq_eq_not, Bool.not_true, Bool.not_false, beq_iff_eq, bne_iff_ne, beq_eq_false_iff_ne, bne_eq_false_iff_eq, ne_eq, subL_length] at hc
  obtain ⟨-, -, -, hP2⟩ := hb hc.1.1.1.1.1
  refine ⟨⟨⟨by omega, fun q hq => absurd hq (by omega)⟩, fun k hk => ⟨fun hkc _ => ⟨fun _ => rfl, fun hd _ => ⟨⟨?_, fun q hq => ?_⟩, ?_⟩⟩, fun hkc q hq => hk.2 q ?_⟩⟩, fun _ hld => ⟨⟨⟨by simp, by omega, by omega, by omega, fun j hj => by cases hj⟩, fun k hk => ⟨fun hkc _ _ v hv hvp w hw => ⟨fun hok _ _ => ⟨⟨?_, ?_, ?_, ?_, fun j hj => ?_⟩, ?_⟩, fun _ _ => ⟨⟨?_, ?_, hk.2.2.1, hk.2.2.2.1, hk.2.2.2.2⟩, ?_⟩⟩, fun hkc => ⟨?_, hk.2.2.1, hk.2.2.2.1, hk.2.2.2.2⟩⟩⟩, fun all hall => ⟨fun _ => rfl, fun hne v hv => ⟨fun herr => ?_, fun hok => ⟨⟨⟨by omega, by omega, by omega, by omega, ?_⟩, fun k hk hkc _ _ _ z hz => ⟨⟨fun hz0 _ => ⟨fun hbad => ?_, fun _ => ⟨?_, ?_⟩⟩, fun hz0 => ⟨?_, ?_⟩⟩, fun b13 _ hb13 u hu => ⟨fun hbad => ?_, fun _ _ => ⟨⟨?_, ?_, ?_, ?_, ?_⟩, ?_⟩⟩⟩⟩, ?_⟩⟩⟩⟩⟩
  all_goals (try simp only [decide_eq_true_eq, decide_eq_false_iff_not, List.length_append, List.length_cons, List.length_nil, List.length_set, List.length_replicate, Bool.not_eq_true, Bool.not_eq_false, Int.not_lt, Int.not_le, Bool.and_eq_true, Bool.or_eq_true, Bool.and_eq_false_iff, Bool.or_eq_false_iff, Bool.not_eq_eq_eq_not, Bool.not_true, Bool.not_false, beq_iff_eq, bne_iff_ne, beq_eq_false_iff_ne, bne_eq_false_iff_eq, ne_eq, subL_length] at hkc)
  · omega
  · simp only [decide_eq_true_eq, decide_eq_false_iff_not, List.length_append, List.length_cons, List.length_nil, List.length_set, List.length_replicate, Bool.not_eq_true, Bool.not_eq_false, Int.not_lt, Int.not_le, Bool.and_eq_true, Bool.or_eq_true, Bool.and_eq_false_iff, Bool.or_eq_false_iff, Bool.not_eq_eq_eq_not, Bool.not_true, Bool.not_false, beq_iff_eq, bne_iff_ne, beq_eq_false_iff_ne, bne_eq_false_iff_eq, ne_eq, subL_length] at hd
    by_cases e : q = k
    · subst e; omega
    · exact hk.2 q (by omega)
  · omega
  · omega
  -- the judgments
  · simp; omega
  · omega
  · unfold maxI; split <;> omega
  · simp only [decide_eq_true_eq, decide_eq_false_iff_not, List.length_append, List.length_cons, List.length_nil, List.length_set, List.length_replicate, Bool.not_eq_true, Bool.not_eq_false, Int.not_lt, Int.not_le, Bool.and_eq_true, Bool.or_eq_true, Bool.and_eq_false_iff, Bool.or_eq_false_iff, Bool.not_eq_eq_eq_not, Bool.not_true, Bool.not_false, beq_iff_eq, bne_iff_ne, beq_eq_false_iff_ne, bne_eq_false_iff_eq, ne_eq, subL_length] at hok
    have := hvp hok.1
    unfold maxI; split <;> omega
  · simp only [decide_eq_true_eq, decide_eq_false_iff_not, List.length_append, List.length_cons, List.length_nil, List.length_set, List.length_replicate, Bool.not_eq_true, Bool.not_eq_false, Int.not_lt, Int.not_le, Bool.and_eq_true, Bool.or_eq_true, Bool.and_eq_false_iff, Bool.or_eq_false_iff, Bool.not_eq_eq_eq_not, Bool.not_true, Bool.not_false, beq_iff_eq, bne_iff_ne, beq_eq_false_iff_ne, bne_eq_false_iff_eq, ne_eq, subL_length] at hok
    rcases List.mem_append.1 hj with h | h
    · exact (hk.2.2.2.2 j h).more (by unfold maxI; split <;> omega)
    · simp only [List.mem_singleton] at h
      subst h
      refine ⟨by rw [← hw]; exact hok.2, rfl, rfl, by rw [← hv]; exact hok.1, ?_⟩
      show (money_Convert r.rates (judgments.getD k.2.2 default).sum (judgments.getD k.2.2 default).currency f.bill.currency (judgments.getD k.2.2 default).day).1 ≤ _
      rw [← hv]; unfold maxI; split <;> omega
  · omega
  · omega
  · omega
  · omega
  · omega
  -- an error
  · simp only [Bool.true_and, beq_iff_eq]
    subst hv
    simp only [decide_eq_true_eq, decide_eq_false_iff_not, List.length_append, List.length_cons, List.length_nil, List.length_set, List.length_replicate, Bool.not_eq_true, Bool.not_eq_false, Int.not_lt, Int.not_le, Bool.and_eq_true, Bool.or_eq_true, Bool.and_eq_false_iff, Bool.or_eq_false_iff, Bool.not_eq_eq_eq_not, Bool.not_true, Bool.not_false, beq_iff_eq, bne_iff_ne, beq_eq_false_iff_ne, bne_eq_false_iff_eq, ne_eq, subL_length] at herr
    exact Received_err herr
  -- the first state
  · simp only [decide_eq_true_eq, decide_eq_false_iff_not, List.length_append, List.length_cons, List.length_nil, List.length_set, List.length_replicate, Bool.not_eq_true, Bool.not_eq_false, Int.not_lt, Int.not_le, Bool.and_eq_true, Bool.or_eq_true, Bool.and_eq_false_iff, Bool.or_eq_false_iff, Bool.not_eq_eq_eq_not, Bool.not_true, Bool.not_false, beq_iff_eq, bne_iff_ne, beq_eq_false_iff_ne, bne_eq_false_iff_eq, ne_eq, subL_length] at hok
    refine OnceNow.first (fun q hq => ?_) (by unfold maxI; split <;> omega) (by rw [← hv]; exact Prod.ext rfl hok)
    obtain ⟨i, hi, rfl⟩ := List.getElem_of_mem hq
    have := hld i hi
    simpa [List.getD, hi] using this
  -- an attempt
  all_goals simp only [decide_eq_true_eq, decide_eq_false_iff_not, List.length_append, List.length_cons, List.length_nil, List.length_set, List.length_replicate, Bool.not_eq_true, Bool.not_eq_false, Int.not_lt, Int.not_le, Bool.and_eq_true, Bool.or_eq_true, Bool.and_eq_false_iff, Bool.or_eq_false_iff, Bool.not_eq_eq_eq_not, Bool.not_true, Bool.not_false, beq_iff_eq, bne_iff_ne, beq_eq_false_iff_ne, bne_eq_false_iff_eq, ne_eq, subL_length] at hok hne
  all_goals have hv0 : 0 ≤ v.1 := Received_nonneg hv hok
  all_goals (try have hday := day2_rng (tries.getD k.2.2 default).days (d := k.1) (by omega) (by omega))
  · simp only [decide_eq_true_eq, decide_eq_false_iff_not, List.length_append, List.length_cons, List.length_nil, List.length_set, List.length_replicate, Bool.not_eq_true, Bool.not_eq_false, Int.not_lt, Int.not_le, Bool.and_eq_true, Bool.or_eq_true, Bool.and_eq_false_iff, Bool.or_eq_false_iff, Bool.not_eq_eq_eq_not, Bool.not_true, Bool.not_false, beq_iff_eq, bne_iff_ne, beq_eq_false_iff_ne, bne_eq_false_iff_eq, ne_eq, subL_length] at hz0
    have ht := once_try (tries.getD k.2.2 default) hP2 (by omega) (by omega) hall.2.2.2 hk.2.2.2.2 hv0 (by omega) (by omega) (by omega) (hP _ (lget_mem (by omega) _)) hz hz0
    simp only [decide_eq_true_eq, decide_eq_false_iff_not, List.length_append, List.length_cons, List.length_nil, List.length_set, List.length_replicate, Bool.not_eq_true, Bool.not_eq_false, Int.not_lt, Int.not_le, Bool.and_eq_true, Bool.or_eq_true, Bool.and_eq_false_iff, Bool.or_eq_false_iff, Bool.not_eq_eq_eq_not, Bool.not_true, Bool.not_false, beq_iff_eq, bne_iff_ne, beq_eq_false_iff_ne, bne_eq_false_iff_eq, ne_eq, subL_length] at hbad
    rw [w64_id (by omega) (by omega)] at hbad
    omega
  · simp only [decide_eq_true_eq, decide_eq_false_iff_not, List.length_append, List.length_cons, List.length_nil, List.length_set, List.length_replicate, Bool.not_eq_true, Bool.not_eq_false, Int.not_lt, Int.not_le, Bool.and_eq_true, Bool.or_eq_true, Bool.and_eq_false_iff, Bool.or_eq_false_iff, Bool.not_eq_eq_eq_not, Bool.not_true, Bool.not_false, beq_iff_eq, bne_iff_ne, beq_eq_false_iff_ne, bne_eq_false_iff_eq, ne_eq, subL_length] at hz0
    have ht := once_try (tries.getD k.2.2 default) hP2 (by omega) (by omega) hall.2.2.2 hk.2.2.2.2 hv0 (by omega) (by omega) (by omega) (hP _ (lget_mem (by omega) _)) hz hz0
    omega
  · simp only [decide_eq_true_eq, decide_eq_false_iff_not, List.length_append, List.length_cons, List.length_nil, List.length_set, List.length_replicate, Bool.not_eq_true, Bool.not_eq_false, Int.not_lt, Int.not_le, Bool.and_eq_true, Bool.or_eq_true, Bool.and_eq_false_iff, Bool.or_eq_false_iff, Bool.not_eq_eq_eq_not, Bool.not_true, Bool.not_false, beq_iff_eq, bne_iff_ne, beq_eq_false_iff_ne, bne_eq_false_iff_eq, ne_eq, subL_length] at hz0
    exact (once_try (tries.getD k.2.2 default) hP2 (by omega) (by omega) hall.2.2.2 hk.2.2.2.2 hv0 (by omega) (by omega) (by omega) (hP _ (lget_mem (by omega) _)) hz hz0).2.2.2
  · omega
  · exact hk.2.2.2.2.later hday.1
  · obtain ⟨_, n, n1, n2, n3⟩ := hb13.2
    have := n3 _ (Int.le_refl _) (by omega)
    rw [← hu] at this
    have e1 : u.1 = n := by rw [this]
    have e2 : u.2 = 0 := by rw [this]
    simp only [decide_eq_true_eq, decide_eq_false_iff_not, List.length_append, List.length_cons, List.length_nil, List.length_set, List.length_replicate, Bool.not_eq_true, Bool.not_eq_false, Int.not_lt, Int.not_le, Bool.and_eq_true, Bool.or_eq_true, Bool.and_eq_false_iff, Bool.or_eq_false_iff, Bool.not_eq_eq_eq_not, Bool.not_true, Bool.not_false, beq_iff_eq, bne_iff_ne, beq_eq_false_iff_ne, bne_eq_false_iff_eq, ne_eq, subL_length] at hbad
    omega
  · omega
  · omega
  · omega
  · omega
  · exact hb13.2
  · omega
  · exact fun _ => rfl

theorem allongelaw47_RecognizeOnce_post (r : Realm) (f : File) (judgments : List Judgment) (creditor : Int) (l : List Receipt) (day : Int) (tries : List Try) : (fun (x : Bool) => (∀ x, x ∈ tries → -9223372036854775808 ≤ x.sum ∧ x.sum ≤ 9223372036854775807) → (x = true)) (allongelaw47_RecognizeOnce r f judgments creditor l day tries) := fun hP => Sk.pval _ (allongelaw47_RecognizeOnce_pst r f judgments creditor l day tries hP)
theorem allongelaw47_RecognizeOnce_ok (r : Realm) (f : File) (judgments : List Judgment) (creditor : Int) (l : List Receipt) (day : Int) (tries : List Try) (ht : ∀ x, x ∈ tries → -9223372036854775808 ≤ x.sum ∧ x.sum ≤ 9223372036854775807) : (allongelaw47_RecognizeOnce_sk r f judgments creditor l day tries).obs (fun _ => True) := by
  refine Sk.obs_of _ ?_
  unfold allongelaw47_RecognizeOnce_sk
  simp only [Sk.obq, Sk.isLoop, reduceCtorEq, leafB, leafJ, Cal.z, Cal.p, Cal.t, Cal.pt, Cal.o, Cal.and, Cal.andl, Cal.andr, Cal.wh, Cal.dep, Cal.depr, Ctr.c, Ctr.nil, Ctr.nilc, CtrO.c, CtrO.nil, allongelaw47_bounded_k, allongelaw47_sane_k, money_Convert_k, recognize_Check_k, recognize_Enforce_k, recognize_Received_k, File.Small, Realm.Small, Realm.ByOK, maxLen, implies_true, true_and, and_true, and_self, true_implies, false_implies, ixP, szP, mkP]
  intro _ _ _ x _ hxb hc
  simp only [decide_eq_true_eq, decide_eq_false_iff_not, List.length_append, List.length_cons, List.length_nil, List.length_set, List.length_replicate, Bool.not_eq_true, Bool.not_eq_false, Int.not_lt, Int.not_le, Bool.and_eq_true, Bool.or_eq_true, Bool.and_eq_false_iff, Bool.or_eq_false_iff, Bool.not_eq_eq_eq_not, Bool.not_true, Bool.not_false, beq_iff_eq, bne_iff_ne, beq_eq_false_iff_ne, bne_eq_false_iff_eq, ne_eq, subL_length] at hc
  obtain ⟨hSr, hSf, hBy, hP2⟩ := hxb hc.1.1.1.1.1
  refine ⟨⟨⟨by omega, fun q hq => absurd hq (by omega)⟩, fun k hk hl => ⟨fun hkc => ⟨by simp only [decide_eq_true_eq, decide_eq_false_iff_not, List.length_append, List.length_cons, List.length_nil, List.length_set, List.length_replicate, Bool.not_eq_true, Bool.not_eq_false, Int.not_lt, Int.not_le, Bool.and_eq_true, Bool.or_eq_true, Bool.and_eq_false_iff, Bool.or_eq_false_iff, Bool.not_eq_eq_eq_not, Bool.not_true, Bool.not_false, beq_iff_eq, bne_iff_ne, beq_eq_false_iff_ne, bne_eq_false_iff_eq, ne_eq, subL_length] at hkc; omega, fun _ hd _ => ⟨w64_id (by omega) (by simp only [decide_eq_true_eq, decide_eq_false_iff_not, List.length_append, List.length_cons, List.length_nil, List.length_set, List.length_replicate, Bool.not_eq_true, Bool.not_eq_false, Int.not_lt, Int.not_le, Bool.and_eq_true, Bool.or_eq_true, Bool.and_eq_false_iff, Bool.or_eq_false_iff, Bool.not_eq_eq_eq_not, Bool.not_true, Bool.not_false, beq_iff_eq, bne_iff_ne, beq_eq_false_iff_ne, bne_eq_false_iff_eq, ne_eq, subL_length] at hkc; omega), ⟨?_, fun q hq => ?_⟩, ?_⟩⟩, fun hkc q hq => hk.2 q ?_⟩⟩, fun _ hld => ⟨⟨⟨by simp, by omega, by omega, by omega, fun j hj => by cases hj⟩, fun k hk hl => ⟨fun hkc => ⟨?_, fun _ => ⟨?_, fun _ v hv hvp => ⟨fun _ => hSf, fun w hw => ⟨fun hok => ⟨?_, fun _ _ => ⟨?_, ⟨?_, ?_, ?_, ?_, fun j hj => ?_⟩, ?_⟩⟩, fun _ _ => ⟨?_, ⟨?_, ?_, hk.2.2.1, hk.2.2.2.1, hk.2.2.2.2⟩, ?_⟩⟩⟩⟩⟩, fun hkc => ⟨?_, hk.2.2.1, hk.2.2.2.1, hk.2.2.2.2⟩⟩⟩, fun all hall hne => ⟨⟨?_, ?_, hSf⟩, fun v hv hok => ⟨⟨by omega, by omega, by omega, by omega, ?_⟩, fun k hk hl hkc => ⟨?_, fun _ => ⟨by decide, fun _ => ⟨⟨?_, ?_, ?_, ?_⟩, fun _ => ⟨⟨?_, hSf, hBy, hSr⟩, fun z hz => ⟨⟨fun hz0 => ⟨⟨fun hg => ?_, fun hg => ?_⟩, fun _ hg => ⟨?_, ?_⟩⟩, fun hz0 => ⟨?_, ?_⟩⟩, fun b13 _ hb13 => ⟨⟨?_, ?_, hSf⟩, fun u hu hg _ => ⟨?_, ⟨?_, ?_, ?_, ?_, ?_⟩, ?_⟩⟩⟩⟩⟩⟩⟩⟩⟩⟩⟩
  all_goals (try simp only [decide_eq_true_eq, decide_eq_false_iff_not, List.length_append, List.length_cons, List.length_nil, List.length_set, List.length_replicate, Bool.not_eq_true, Bool.not_eq_false, Int.not_lt, Int.not_le, Bool.and_eq_true, Bool.or_eq_true, Bool.and_eq_false_iff, Bool.or_eq_false_iff, Bool.not_eq_eq_eq_not, Bool.not_true, Bool.not_false, beq_iff_eq, bne_iff_ne, beq_eq_false_iff_ne, bne_eq_false_iff_eq, ne_eq, subL_length] at hkc)
  · omega
  · simp only [decide_eq_true_eq, decide_eq_false_iff_not, List.length_append, List.length_cons, List.length_nil, List.length_set, List.length_replicate, Bool.not_eq_true, Bool.not_eq_false, Int.not_lt, Int.not_le, Bool.and_eq_true, Bool.or_eq_true, Bool.and_eq_false_iff, Bool.or_eq_false_iff, Bool.not_eq_eq_eq_not, Bool.not_true, Bool.not_false, beq_iff_eq, bne_iff_ne, beq_eq_false_iff_ne, bne_eq_false_iff_eq, ne_eq, subL_length] at hd
    by_cases e : q = k
    · subst e; omega
    · exact hk.2 q (by omega)
  · omega
  · omega
  -- the judgments
  · omega
  · omega
  · simp; omega
  · exact w64_id (by omega) (by omega)
  · simp; omega
  · omega
  · unfold maxI; split <;> omega
  · simp only [decide_eq_true_eq, decide_eq_false_iff_not, List.length_append, List.length_cons, List.length_nil, List.length_set, List.length_replicate, Bool.not_eq_true, Bool.not_eq_false, Int.not_lt, Int.not_le, Bool.and_eq_true, Bool.or_eq_true, Bool.and_eq_false_iff, Bool.or_eq_false_iff, Bool.not_eq_eq_eq_not, Bool.not_true, Bool.not_false, beq_iff_eq, bne_iff_ne, beq_eq_false_iff_ne, bne_eq_false_iff_eq, ne_eq, subL_length] at hok
    have := hvp hok.1
    unfold maxI; split <;> omega
  · simp only [decide_eq_true_eq, decide_eq_false_iff_not, List.length_append, List.length_cons, List.length_nil, List.length_set, List.length_replicate, Bool.not_eq_true, Bool.not_eq_false, Int.not_lt, Int.not_le, Bool.and_eq_true, Bool.or_eq_true, Bool.and_eq_false_iff, Bool.or_eq_false_iff, Bool.not_eq_eq_eq_not, Bool.not_true, Bool.not_false, beq_iff_eq, bne_iff_ne, beq_eq_false_iff_ne, bne_eq_false_iff_eq, ne_eq, subL_length] at hok
    rcases List.mem_append.1 hj with h | h
    · exact (hk.2.2.2.2 j h).more (by unfold maxI; split <;> omega)
    · simp only [List.mem_singleton] at h
      subst h
      refine ⟨by rw [← hw]; exact hok.2, rfl, rfl, by rw [← hv]; exact hok.1, ?_⟩
      show (money_Convert r.rates (judgments.getD k.2.2 default).sum (judgments.getD k.2.2 default).currency f.bill.currency (judgments.getD k.2.2 default).day).1 ≤ _
      rw [← hv]; unfold maxI; split <;> omega
  · omega
  · exact w64_id (by omega) (by omega)
  · omega
  · omega
  · omega
  · omega
  all_goals (try simp only [decide_eq_true_eq, decide_eq_false_iff_not, List.length_append, List.length_cons, List.length_nil, List.length_set, List.length_replicate, Bool.not_eq_true, Bool.not_eq_false, Int.not_lt, Int.not_le, Bool.and_eq_true, Bool.or_eq_true, Bool.and_eq_false_iff, Bool.or_eq_false_iff, Bool.not_eq_eq_eq_not, Bool.not_true, Bool.not_false, beq_iff_eq, bne_iff_ne, beq_eq_false_iff_ne, bne_eq_false_iff_eq, ne_eq, subL_length] at hne)
  · omega
  · omega
  -- the first state
  · simp only [decide_eq_true_eq, decide_eq_false_iff_not, List.length_append, List.length_cons, List.length_nil, List.length_set, List.length_replicate, Bool.not_eq_true, Bool.not_eq_false, Int.not_lt, Int.not_le, Bool.and_eq_true, Bool.or_eq_true, Bool.and_eq_false_iff, Bool.or_eq_false_iff, Bool.not_eq_eq_eq_not, Bool.not_true, Bool.not_false, beq_iff_eq, bne_iff_ne, beq_eq_false_iff_ne, bne_eq_false_iff_eq, ne_eq, subL_length] at hok
    refine OnceNow.first (fun q hq => ?_) (by unfold maxI; split <;> omega) (by rw [← hv]; exact Prod.ext rfl hok)
    obtain ⟨i, hi, rfl⟩ := List.getElem_of_mem hq
    have := hld i hi
    simpa [List.getD, hi] using this
  all_goals simp only [decide_eq_true_eq, decide_eq_false_iff_not, List.length_append, List.length_cons, List.length_nil, List.length_set, List.length_replicate, Bool.not_eq_true, Bool.not_eq_false, Int.not_lt, Int.not_le, Bool.and_eq_true, Bool.or_eq_true, Bool.and_eq_false_iff, Bool.or_eq_false_iff, Bool.not_eq_eq_eq_not, Bool.not_true, Bool.not_false, beq_iff_eq, bne_iff_ne, beq_eq_false_iff_ne, bne_eq_false_iff_eq, ne_eq, subL_length] at hok
  all_goals have hv0 : 0 ≤ v.1 := Received_nonneg hv hok
  all_goals (try have hday := day2_rng (tries.getD k.2.2 default).days (d := k.1) (by omega) (by omega))
  all_goals (try have hix := tmod_rng (tries.getD k.2.2 default).judgment (n := (all.1.length : Int)) (by omega) (by omega))
  · omega
  · omega
  · omega
  · omega
  · omega
  · omega
  · simp only [decide_eq_true_eq, decide_eq_false_iff_not, List.length_append, List.length_cons, List.length_nil, List.length_set, List.length_replicate, Bool.not_eq_true, Bool.not_eq_false, Int.not_lt, Int.not_le, Bool.and_eq_true, Bool.or_eq_true, Bool.and_eq_false_iff, Bool.or_eq_false_iff, Bool.not_eq_eq_eq_not, Bool.not_true, Bool.not_false, beq_iff_eq, bne_iff_ne, beq_eq_false_iff_ne, bne_eq_false_iff_eq, ne_eq, subL_length] at hz0
    have htt := once_try (tries.getD k.2.2 default) hP2 (by omega) (by omega) hall.2.2.2 hk.2.2.2.2 hv0 (by omega) (by omega) (by omega) (ht _ (lget_mem (by omega) _)) hz hz0
    omega
  · simp only [decide_eq_true_eq, decide_eq_false_iff_not, List.length_append, List.length_cons, List.length_nil, List.length_set, List.length_replicate, Bool.not_eq_true, Bool.not_eq_false, Int.not_lt, Int.not_le, Bool.and_eq_true, Bool.or_eq_true, Bool.and_eq_false_iff, Bool.or_eq_false_iff, Bool.not_eq_eq_eq_not, Bool.not_true, Bool.not_false, beq_iff_eq, bne_iff_ne, beq_eq_false_iff_ne, bne_eq_false_iff_eq, ne_eq, subL_length] at hz0
    have htt := once_try (tries.getD k.2.2 default) hP2 (by omega) (by omega) hall.2.2.2 hk.2.2.2.2 hv0 (by omega) (by omega) (by omega) (ht _ (lget_mem (by omega) _)) hz hz0
    omega
  · simp only [decide_eq_true_eq, decide_eq_false_iff_not, List.length_append, List.length_cons, List.length_nil, List.length_set, List.length_replicate, Bool.not_eq_true, Bool.not_eq_false, Int.not_lt, Int.not_le, Bool.and_eq_true, Bool.or_eq_true, Bool.and_eq_false_iff, Bool.or_eq_false_iff, Bool.not_eq_eq_eq_not, Bool.not_true, Bool.not_false, beq_iff_eq, bne_iff_ne, beq_eq_false_iff_ne, bne_eq_false_iff_eq, ne_eq, subL_length] at hz0
    have htt := once_try (tries.getD k.2.2 default) hP2 (by omega) (by omega) hall.2.2.2 hk.2.2.2.2 hv0 (by omega) (by omega) (by omega) (ht _ (lget_mem (by omega) _)) hz hz0
    omega
  · simp only [decide_eq_true_eq, decide_eq_false_iff_not, List.length_append, List.length_cons, List.length_nil, List.length_set, List.length_replicate, Bool.not_eq_true, Bool.not_eq_false, Int.not_lt, Int.not_le, Bool.and_eq_true, Bool.or_eq_true, Bool.and_eq_false_iff, Bool.or_eq_false_iff, Bool.not_eq_eq_eq_not, Bool.not_true, Bool.not_false, beq_iff_eq, bne_iff_ne, beq_eq_false_iff_ne, bne_eq_false_iff_eq, ne_eq, subL_length] at hz0
    have htt := once_try (tries.getD k.2.2 default) hP2 (by omega) (by omega) hall.2.2.2 hk.2.2.2.2 hv0 (by omega) (by omega) (by omega) (ht _ (lget_mem (by omega) _)) hz hz0
    exact htt.2.2.2
  · omega
  · exact hk.2.2.2.2.later hday.1
  · omega
  · omega
  · exact w64_id (by omega) (by omega)
  · omega
  · omega
  · omega
  · omega
  · exact hb13.2
  · omega

theorem allongelaw47_RecognizeOnce_fn (r : Realm) (f : File) (judgments : List Judgment) (creditor : Int) (l : List Receipt) (day : Int) (tries : List Try) (ht : ∀ x, x ∈ tries → -9223372036854775808 ≤ x.sum ∧ x.sum ≤ 9223372036854775807) : FnA Tryz.prog 6 [av r.cells, av f.cells, lv Judgment.cells judgments, iv creditor, lv Receipt.cells l, iv day, lv Try.cells tries] [] (bv (allongelaw47_RecognizeOnce r f judgments creditor l day tries)) [] :=
  FnA.sk tok mixed (fun x => bv x) (fun _ => []) Tryz.func6 rfl (by kernel_rfl) 3000 (allongelaw47_RecognizeOnce_sk r f judgments creditor l day tries) (by kernel_rfl) (allongelaw47_RecognizeOnce_ok r f judgments creditor l day tries ht)
noncomputable def allongelaw47_RecognizeOnce_k (r : Realm) (f : File) (judgments : List Judgment) (creditor : Int) (l : List Receipt) (day : Int) (tries : List Try) : Ctr (Bool) := ⟨Tryz.prog, 6, [av r.cells, av f.cells, lv Judgment.cells judgments, iv creditor, lv Receipt.cells l, iv day, lv Try.cells tries], fun x => bv x, true, allongelaw47_RecognizeOnce r f judgments creditor l day tries, (∀ x, x ∈ tries → -9223372036854775808 ≤ x.sum ∧ x.sum ≤ 9223372036854775807), fun h => allongelaw47_RecognizeOnce_fn r f judgments creditor l day tries h, fun (x : Bool) => (∀ x, x ∈ tries → -9223372036854775808 ≤ x.sum ∧ x.sum ≤ 9223372036854775807) → (x = true), allongelaw47_RecognizeOnce_post r f judgments creditor l day tries⟩
end Go.Proofs.YtggilgghigileaaGreatDoor
