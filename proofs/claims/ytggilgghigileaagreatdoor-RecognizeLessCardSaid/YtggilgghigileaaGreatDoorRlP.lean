/- The plain law, no program in sight. -/
import Derived.Test.YtggilgghigileaaGreatDoorRl12
import Derived.Test.YtggilgghigileaaGreatDoorAvLb
set_option linter.unusedSimpArgs false
set_option linter.unusedVariables false
set_option maxRecDepth 100000
namespace Go.Proofs.YtggilgghigileaaGreatDoor
open Go Go.Av
/-- one receipt -/
noncomputable def rStep (r : Realm) (f : File) (j : Judgment) (day : Int) (x : Receipt) (n : Int) : (Int × Int) ⊕ Int :=
  bif ((x.bill != j.bill) || (x.to_ != j.creditor)) || decide (x.day > day) then .inr n
  else bif (money_Convert r.rates x.sum x.currency f.bill.currency x.day).2 != 0 then .inl (0, (money_Convert r.rates x.sum x.currency f.bill.currency x.day).2)
  else .inr (w64 (n + (money_Convert r.rates x.sum x.currency f.bill.currency x.day).1))
noncomputable def recv (r : Realm) (f : File) (j : Judgment) (day : Int) (l : List Receipt) : Int × Int := walk (rStep r f j day) (fun n => (n, 0)) l 0

theorem Received_eq (r : Realm) (f : File) (j : Judgment) (l : List Receipt) (day : Int) : recognize_Received r f j l day =
    bif (recognize_Check r f j != 0) || !(recognize_within day 100001) then (0, 1) else bif decide ((l.length : Int) > 200) then (0, 6) else bif slices_ContainsFunc_57 l r then (0, 1) else recv r f j day l := by
  simp only [recognize_Received, recognize_Received_sk, Sk.val_r, Sk.val_br, Sk.val_fin, Sk.val_bind, Sk.val_loop, Cal.dep_v, Cal.wh_v, Ctr.c_v, recognize_Check_k, recognize_within_k, slices_ContainsFunc_57_k]
  congr 1
  congr 1
  congr 1
  unfold recv
  refine pick_iter_walk l (fun s i => (s, i)) (rStep r f j day) id (fun b4 => (b4, 0)) (fun s i hi => ?_) (fun s => ?_) (by simp) 0
  · simp only [Sk.val_bnd, Sk.val_br, Sk.val_r, Sk.val_wi, Sk.val_fin, Ctr.c_v, money_Convert_k]
    rw [decide_eq_true (by omega), cond_true]
    unfold rStep
    cases (((l.getD i default).bill != j.bill || (l.getD i default).to_ != j.creditor) || decide ((l.getD i default).day > day)) with
    | true => rfl
    | false => cases ((money_Convert r.rates (l.getD i default).sum (l.getD i default).currency f.bill.currency (l.getD i default).day).2 != 0) <;> rfl
  · simp only [Sk.val_bnd, Sk.val_br, Sk.val_r, Sk.val_wi, Sk.val_fin]
    rw [decide_eq_false (by omega), cond_false]
    rfl

theorem Rest_eq (r : Realm) (forum : Int) (f : File) (j : Judgment) (l : List Receipt) (day : Int) : recognize_Rest r forum f j l day =
    bif (recognize_Received r f j l day).2 != 0 then (0, (recognize_Received r f j l day).2) else bif (!(recognize_within forum r.orders.length)) || decide (day < j.day) then (0, 1)
    else bif recognize_Recognized r forum f j day == 0 then (0, 4) else bif recognize_Recognized r forum f j day == 2 then (0, 17)
    else bif (money_Convert r.rates j.sum j.currency f.bill.currency j.day).2 != 0 then (0, (money_Convert r.rates j.sum j.currency f.bill.currency j.day).2)
    else (maxI (w64 ((money_Convert r.rates j.sum j.currency f.bill.currency j.day).1 - (recognize_Received r f j l day).1)) 0, 0) := by
  simp only [recognize_Rest, recognize_Rest_sk, Sk.val_r, Sk.val_br, Sk.val_fin, Ctr.c_v, recognize_Received_k, recognize_within_k, recognize_Recognized_k, money_Convert_k]

/-- how a walk over receipts ends -/
theorem recv_split (r : Realm) (f : File) (j : Judgment) (day : Int) (l : List Receipt) (hl : l.length ≤ 1000) :
    (∃ e, e ≠ 0 ∧ ∀ fin, walk (rStep r f j day) fin l 0 = (0, e)) ∨ ∃ n : Int, 0 ≤ n ∧ n ≤ l.length * 1099511627776 ∧ ∀ fin, walk (rStep r f j day) fin l 0 = fin n := by
  have h := walk_split (step := rStep r f j day) (I := fun k n => k ≤ l.length → 0 ≤ n ∧ n ≤ k * 1099511627776) (Q := fun b => b.1 = 0 ∧ b.2 ≠ 0) l 0 0 (fun k x s hx hI => ?_) (fun _ => ⟨by omega, by omega⟩)
  · rcases h with ⟨b, hq, e⟩ | ⟨n, hI, e⟩
    · exact .inl ⟨b.2, hq.2, fun fin => by rw [e fin]; exact Prod.ext hq.1 rfl⟩
    · have := hI (by omega)
      exact .inr ⟨n, this.1, by simpa using this.2, e⟩
  · unfold rStep
    cases (((x.bill != j.bill) || (x.to_ != j.creditor)) || decide (x.day > day)) with
    | true =>
      intro hk
      have := hI (by omega)
      omega
    | false =>
      cases hc : ((money_Convert r.rates x.sum x.currency f.bill.currency x.day).2 != 0) with
      | true => exact ⟨rfl, by simpa using hc⟩
      | false =>
        have hp := money_Convert_post r.rates x.sum x.currency f.bill.currency x.day (by simpa using hc)
        intro hk
        have := hI (by omega)
        rw [w64_id (by omega) (by omega)]
        omega

theorem receipt_right {r : Realm} {x : Receipt} (h : allongeref47_Right r x = true) : recognize_receipt r x = true := by
  simp only [allongeref47_Right, allongeref47_Right_sk, allongeref47_in_k, allongeref47_in_eq, Sk.val_r, Sk.val_fin, Cal.dep_v, Cal.wh_v, Ctr.c_v, decide_eq_true_eq, decide_eq_false_iff_not, List.length_append, List.length_cons, List.length_nil, List.length_set, List.length_replicate, Bool.not_eq_true, Bool.not_eq_false, Int.not_lt, Int.not_le, Bool.and_eq_true, Bool.or_eq_true, Bool.and_eq_false_iff, Bool.or_eq_false_iff, Bool.not_eq_eq_eq_not, Bool.not_true, Bool.not_false, beq_iff_eq, bne_iff_ne, beq_eq_false_iff_ne, bne_eq_false_iff_eq, ne_eq, subL_length] at h
  simp only [recognize_receipt, recognize_receipt_sk, recognize_within_k, recognize_within_eq, Sk.val_r, Sk.val_fin, Cal.dep_v, Cal.wh_v, Ctr.c_v, decide_eq_true_eq, decide_eq_false_iff_not, List.length_append, List.length_cons, List.length_nil, List.length_set, List.length_replicate, Bool.not_eq_true, Bool.not_eq_false, Int.not_lt, Int.not_le, Bool.and_eq_true, Bool.or_eq_true, Bool.and_eq_false_iff, Bool.or_eq_false_iff, Bool.not_eq_eq_eq_not, Bool.not_true, Bool.not_false, beq_iff_eq, bne_iff_ne, beq_eq_false_iff_ne, bne_eq_false_iff_eq, ne_eq, subL_length]
  omega
theorem c1_eq (x : Receipt) (r : Realm) : recognize_Received_c1 x r = !(recognize_receipt r x) := by
  simp only [recognize_Received_c1, recognize_Received_c1_sk, Sk.val_r, Sk.val_fin, Ctr.c_v, recognize_receipt_k]
theorem CF_snoc {r : Realm} {l : List Receipt} {x : Receipt} (h : recognize_receipt r x = true) : slices_ContainsFunc_57 (l ++ [x]) r = slices_ContainsFunc_57 l r := by
  have h1 := slices_ContainsFunc_57_post (l ++ [x]) r
  have h2 := slices_ContainsFunc_57_post l r
  refine Bool.eq_iff_iff.2 (Iff.trans h1 (Iff.trans ?_ (Iff.symm h2)))
  constructor
  · rintro ⟨q, hq, e⟩
    by_cases c : q < l.length
    · exact ⟨q, c, by simpa [List.getD, List.getElem?_append_left c] using e⟩
    · have : q = l.length := by simp at hq; omega
      subst this
      rw [c1_eq] at e
      simp [List.getD, h] at e
  · rintro ⟨q, hq, e⟩
    exact ⟨q, by simp; omega, by simpa [List.getD, List.getElem?_append_left hq] using e⟩

theorem RecognizeLess_eq (r : Realm) (forum : Int) (f : File) (j : Judgment) (l : List Receipt) (x : Receipt) (day : Int) : allongelaw47_RecognizeLess r forum f j l x day =
  bif (((!(allongelaw47_bounded r f)) || (decide (((l.length : Nat) : Int) > 100))) || (!(allongeref47_Right r x))) then allongelaw47_sane else
    (let x4 := recognize_Rest r forum f j l day; let x5 := recognize_Received r f j l day; let x6 := recognize_Rest r forum f j (l ++ [x]) day; let x7 := recognize_Received r f j (l ++ [x]) day; let x8 := money_Convert r.rates x.sum x.currency f.bill.currency x.day
    bif (((x.bill != j.bill) || (x.to_ != j.creditor)) || (decide (x.day > day))) then ((((allongelaw47_sane && (x4.1 == x6.1)) && (x4.2 == x6.2)) && (x5.1 == x7.1)) && (x5.2 == x7.2))
    else bif ((x5.2 != 0) || (x8.2 != 0)) then ((allongelaw47_sane && (x7.2 != 0)) && (x6.2 != 0))
    else bif (((x7.2 != 0) || (x7.1 != (w64 (x5.1 + x8.1)))) || (x4.2 != x6.2)) then false
    else (allongelaw47_sane && ((x4.2 != 0) || ((decide (x6.1 ≤ x4.1)) && ((x6.1 == (w64 (x4.1 - x8.1))) || ((x6.1 == 0) && (decide (x4.1 ≤ x8.1)))))))) := by kernel_rfl

theorem RecognizeLess_law (hs : allongelaw47_sane = true) (r : Realm) (forum : Int) (f : File) (j : Judgment) (l : List Receipt) (x : Receipt) (day : Int) : allongelaw47_RecognizeLess r forum f j l x day = true := by
  rw [RecognizeLess_eq, hs]
  simp only [Bool.true_and]
  cases hp : ((!allongelaw47_bounded r f || decide ((l.length : Int) > 100)) || !allongeref47_Right r x) with
  | true => rfl
  | false =>
    simp only [cond_false]
    simp only [decide_eq_true_eq, decide_eq_false_iff_not, List.length_append, List.length_cons, List.length_nil, List.length_set, List.length_replicate, Bool.not_eq_true, Bool.not_eq_false, Int.not_lt, Int.not_le, Bool.and_eq_true, Bool.or_eq_true, Bool.and_eq_false_iff, Bool.or_eq_false_iff, Bool.not_eq_eq_eq_not, Bool.not_true, Bool.not_false, beq_iff_eq, bne_iff_ne, beq_eq_false_iff_ne, bne_eq_false_iff_eq, ne_eq, subL_length] at hp
    obtain ⟨⟨hb, hl⟩, hr⟩ := hp
    have hrec := receipt_right hr
    have hl1 : l.length ≤ 100 := by omega
    have hA := Rest_eq r forum f j l day
    have hB := Rest_eq r forum f j (l ++ [x]) day
    have hM := Received_eq r f j l day
    have hN := Received_eq r f j (l ++ [x]) day
    rw [CF_snoc hrec] at hN
    rw [decide_eq_false (by simp; omega)] at hM
    rw [decide_eq_false (by simp; omega)] at hN
    simp only [cond_false] at hM hN
    have hN2 : recv r f j day (l ++ [x]) = walk (rStep r f j day) (fun s => match rStep r f j day x s with | .inl b => b | .inr s' => (s', 0)) l 0 := by
      unfold recv
      rw [walk_snoc]
      congr 1
      funext s
      cases rStep r f j day x s <;> rfl
    cases hc : ((x.bill != j.bill || x.to_ != j.creditor) || decide (x.day > day)) with
    | true =>
      have e : recv r f j day (l ++ [x]) = recv r f j day l := by
        rw [hN2]
        unfold recv
        congr 1
        funext s
        simp only [rStep, hc, cond_true]
      rw [e] at hN
      rw [hN, ← hM] at hB
      rw [← hA] at hB
      simp [hB, hN, hM]
    | false =>
      simp only [cond_false]
      have hstep : ∀ s, rStep r f j day x s = bif (money_Convert r.rates x.sum x.currency f.bill.currency x.day).2 != 0 then .inl (0, (money_Convert r.rates x.sum x.currency f.bill.currency x.day).2)
          else .inr (w64 (s + (money_Convert r.rates x.sum x.currency f.bill.currency x.day).1)) := fun s => by simp only [rStep, hc, cond_false]
      obtain ⟨v, hv⟩ : ∃ v, money_Convert r.rates x.sum x.currency f.bill.currency x.day = v := ⟨_, rfl⟩
      simp only [hv] at hstep ⊢
      have hvp : v.2 = 0 → 0 ≤ v.1 ∧ v.1 ≤ 1099511627776 := hv ▸ money_Convert_post r.rates x.sum x.currency f.bill.currency x.day
      -- what comes of an error
      have hbad : ∀ e, e ≠ 0 → recognize_Received r f j l day = (0, e) → recognize_Received r f j (l ++ [x]) day = (0, e) → 
          (bif (recognize_Received r f j l day).2 != 0 || v.2 != 0 then (recognize_Received r f j (l ++ [x]) day).2 != 0 && (recognize_Rest r forum f j (l ++ [x]) day).2 != 0 else
            bif ((recognize_Received r f j (l ++ [x]) day).2 != 0 || (recognize_Received r f j (l ++ [x]) day).1 != w64 ((recognize_Received r f j l day).1 + v.1)) || (recognize_Rest r forum f j l day).2 != (recognize_Rest r forum f j (l ++ [x]) day).2 then false
            else (recognize_Rest r forum f j l day).2 != 0 || (decide ((recognize_Rest r forum f j (l ++ [x]) day).1 ≤ (recognize_Rest r forum f j l day).1) && ((recognize_Rest r forum f j (l ++ [x]) day).1 == w64 ((recognize_Rest r forum f j l day).1 - v.1) || ((recognize_Rest r forum f j (l ++ [x]) day).1 == 0 && decide ((recognize_Rest r forum f j l day).1 ≤ v.1))))) = true := by
        intro e he h1 h2
        rw [h2] at hB
        have e1 : ((0, e) : Int × Int).2 != 0 := by simpa using he
        rw [e1, cond_true] at hB
        rw [h1, h2, hB]
        simp [he]
      cases hck : ((recognize_Check r f j != 0) || !(recognize_within day 100001)) with
      | true =>
        rw [hck, cond_true] at hM hN
        exact hbad 1 (by decide) hM hN
      | false =>
        rw [hck, cond_false] at hM hN
        cases hcf : slices_ContainsFunc_57 l r with
        | true =>
          rw [hcf, cond_true] at hM hN
          exact hbad 1 (by decide) hM hN
        | false =>
          rw [hcf, cond_false] at hM hN
          rw [hN2] at hN
          rcases recv_split r f j day l (by omega) with ⟨e, he, hw⟩ | ⟨n, h0, h1, hw⟩
          · rw [hw] at hN
            unfold recv at hM
            rw [hw] at hM
            exact hbad e he hM hN
          · rw [hw] at hN
            unfold recv at hM
            rw [hw] at hM
            rw [hstep] at hN
            cases hvz : (v.2 != 0) with
            | true =>
              rw [hvz, cond_true] at hN
              dsimp only at hN
              rw [hN, hvz, cond_true] at hB
              rw [hN, hB]
              simp only [Bool.or_true, cond_true]
              rw [hvz]
              rfl
            | false =>
              rw [hvz, cond_false] at hN
              dsimp only at hN
              have hv2 : v.2 = 0 := by simpa using hvz
              have hv3 := hvp hv2
              have e1 : w64 (n + v.1) = n + v.1 := w64_id (by omega) (by omega)
              rw [e1] at hN
              rw [hN] at hB
              rw [hM] at hA
              rw [hM, hN]
              have z : ((0 : Int) != 0) = false := rfl
              simp only [z, cond_false, e1, bne_self_eq_false, Bool.false_or, Bool.or_false] at hA hB ⊢
              cases c1 : ((!(recognize_within forum r.orders.length)) || decide (day < j.day)) with
              | true => simp only [c1, cond_true] at hA hB; simp [hA, hB]
              | false =>
                simp only [c1, cond_false] at hA hB
                cases c2 : (recognize_Recognized r forum f j day == 0) with
                | true => simp only [c2, cond_true] at hA hB; simp [hA, hB]
                | false =>
                  simp only [c2, cond_false] at hA hB
                  cases c3 : (recognize_Recognized r forum f j day == 2) with
                  | true => simp only [c3, cond_true] at hA hB; simp [hA, hB]
                  | false =>
                    simp only [c3, cond_false] at hA hB
                    cases c4 : ((money_Convert r.rates j.sum j.currency f.bill.currency j.day).2 != 0) with
                    | true =>
                      simp only [c4, cond_true] at hA hB
                      rw [hA, hB]
                      simp [c4]
                    | false =>
                      simp only [c4, cond_false] at hA hB
                      have hw := money_Convert_post r.rates j.sum j.currency f.bill.currency j.day (by simpa using c4)
                      rw [hA, hB]
                      generalize (money_Convert r.rates j.sum j.currency f.bill.currency j.day).1 = w at hw ⊢
                      rw [w64_id (n := w - n) (by omega) (by omega), w64_id (n := w - (n + v.1)) (by omega) (by omega)]
                      have hm1 : maxI (w - n) 0 = max (w - n) 0 := by unfold maxI; omega
                      have hm2 : maxI (w - (n + v.1)) 0 = max (w - (n + v.1)) 0 := by unfold maxI; omega
                      rw [hm1, hm2, w64_id (n := max (w - n) 0 - v.1) (by omega) (by omega)]
                      simp only [bne_self_eq_false, cond_false, Bool.false_or, Bool.and_eq_true, Bool.or_eq_true, decide_eq_true_eq, beq_iff_eq]
                      omega

theorem sane47 : allongelaw47_sane = true := by kernel_rfl
theorem allongelaw47_RecognizeLess_law (r : Realm) (forum : Int) (f : File) (j : Judgment) (l : List Receipt) (x : Receipt) (day : Int) : allongelaw47_RecognizeLess r forum f j l x day = true := RecognizeLess_law sane47 r forum f j l x day

end Go.Proofs.YtggilgghigileaaGreatDoor
