/- Functions, as sketches. -/
import Derived.Test.YtjaehpinmdpmbaaGreatDoorOo14
namespace Go.Proofs.YtjaehpinmdpmbaaGreatDoor
open Go Go.Av
set_option linter.unusedSimpArgs false
set_option linter.unusedVariables false
set_option maxHeartbeats 1000000
set_option maxRecDepth 100000
/-- how many links lie from one signature to another -/
noncomputable def cntL (links : List Int) (lo hi : Int) : Nat := (links.filter fun l => decide (l ≤ hi) && decide (l ≥ lo)).length
noncomputable def allL (links : List Int) (hi : Int) : Nat := (links.filter fun l => decide (l ≤ hi)).length
theorem cntL_take (links : List Int) (lo hi : Int) {i : Nat} (h : i < links.length) : cntL (links.take (i + 1)) lo hi = cntL (links.take i) lo hi + (bif decide (links.getD i default ≤ hi) && decide (links.getD i default ≥ lo) then 1 else 0) := by
  unfold cntL
  rw [List.take_succ_eq_append_getElem h, List.filter_append, List.length_append, show links.getD i default = links[i] by simp [List.getD, h]]
  congr 1
  cases hc : decide (links[i] ≤ hi) && decide (links[i] ≥ lo) with
  | true => rw [List.filter_cons_of_pos (by simpa using hc)]; rfl
  | false => rw [List.filter_cons_of_neg (by simpa using hc)]; rfl
theorem allL_take (links : List Int) (hi : Int) {i : Nat} (h : i < links.length) : allL (links.take (i + 1)) hi = allL (links.take i) hi + (bif decide (links.getD i default ≤ hi) then 1 else 0) := by
  unfold allL
  rw [List.take_succ_eq_append_getElem h, List.filter_append, List.length_append, show links.getD i default = links[i] by simp [List.getD, h]]
  congr 1
  cases hc : decide (links[i] ≤ hi) with
  | true => rw [List.filter_cons_of_pos (by simpa using hc)]; rfl
  | false => rw [List.filter_cons_of_neg (by simpa using hc)]; rfl
theorem cntL_le (links : List Int) (lo hi : Int) : cntL links lo hi ≤ links.length := List.length_filter_le ..
theorem allL_le (links : List Int) (hi : Int) : allL links hi ≤ links.length := List.length_filter_le ..
noncomputable def payableC (c : Court) : Bool := (c.due != (-1)) && decide (c.view.day ≥ c.due)
theorem state_eq (c : Court) (o : Owner) (sign : Int) (links : List Int) (eff : List Effect) (hl : links.length ≤ 1000000) : owe_court_state c o sign links eff =
    bif (c.view.now.signs.getD (owe_view_base c.view sign).toNat default).kind == 1 then (bif !(payableC c) then (0, 0) else (owe_both o.state (eff.getD sign.toNat default).binds, 0)) else
    bif ((!(payableC c)) && (!(slices_ContainsFunc_73 c.view.now.acts))) || (!((eff.getD (owe_view_base c.view sign).toNat default).recourse)) then (0, 0) else
    (owe_both (owe_both o.state (eff.getD sign.toNat default).binds) (diligence_Kept c.r c.forum c.view.all (owe_view_base c.view sign) c.view.day).all,
      bif !(slices_Contains links (owe_view_base c.view sign)) then (1 + (allL links o.sign : Int)) else (cntL links (owe_view_base c.view sign) o.sign : Int)) := by
  unfold owe_court_state owe_court_state_sk
  dsimp +instances only [Sk.val_bind, Sk.val_loop, Sk.val_bnd, Sk.val_br, Sk.val_r, Sk.val_wi, Sk.val_fin, Ctr.c_v, kk, Cal.andl_v, Cal.wh_v, Cal.dep_v, owe_view_base_k, owe_both_k, slices_ContainsFunc_73_k, slices_Contains_k, diligence_Kept_k]
  have hloop : ∀ d : (Int × Int) ⊕ (Int × Int), iter (fun i5 : Int × Int × Nat => bif decide (((i5.2.2 : Nat) : Int) < ((links.length : Nat) : Int)) then
      (pickS (bif decide ((links.getD i5.2.2 default) ≤ o.sign) then (Sum.inr (w64 (i5.2.1 + 1)) : (((Int × Int) ⊕ (Int × Int)) ⊕ (Int × Int × Nat)) ⊕ Int) else Sum.inr i5.2.1) fun b6 => bif (decide ((links.getD i5.2.2 default) ≤ o.sign)) && (decide ((links.getD i5.2.2 default) ≥ owe_view_base c.view sign)) then Sum.inr (w64 (i5.1 + 1), b6, i5.2.2 + 1) else Sum.inr (i5.1, b6, i5.2.2 + 1))
      else Sum.inl (Sum.inr (i5.1, i5.2.1))) d (links.length - 0 + 1) (0, 1, 0) = Sum.inr ((cntL links (owe_view_base c.view sign) o.sign : Int), 1 + (allL links o.sign : Int)) := by
    intro d
    refine (iter_to links.length (fun n => ((cntL (links.take n) (owe_view_base c.view sign) o.sign : Int), 1 + (allL (links.take n) o.sign : Int))) (fun s i => (s.1, s.2, i)) (fun s => Sum.inr s) (fun i hi => ?_) ?_ (m := links.length - 0 + 1) (by omega)).trans ?_
    · dsimp only
      rw [decide_eq_true (by omega), cond_true, cntL_take links _ _ hi, allL_take links _ hi]
      have h1 := cntL_le (links.take i) (owe_view_base c.view sign) o.sign
      have h2 := allL_le (links.take i) o.sign
      have h3 : (links.take i).length ≤ links.length := by rw [List.length_take]; exact Nat.min_le_right _ _
      rw [w64_id (n := (cntL (links.take i) (owe_view_base c.view sign) o.sign : Int) + 1) (by omega) (by omega), w64_id (n := 1 + (allL (links.take i) o.sign : Int) + 1) (by omega) (by omega)]
      cases decide (links.getD i default ≤ o.sign) with
      | false => simp [pickS]
      | true =>
        cases decide (links.getD i default ≥ owe_view_base c.view sign) with
        | false => simp [pickS]; omega
        | true => simp [pickS]; omega
    · dsimp only
      rw [decide_eq_false (by omega), cond_false]
    · rw [List.take_length]
  cases (c.view.now.signs.getD (owe_view_base c.view sign).toNat default).kind == 1 with
  | true => rfl
  | false =>
    simp only [cond_false]
    show (bif ((!(payableC c)) && (!(slices_ContainsFunc_73 c.view.now.acts))) || (!((eff.getD (owe_view_base c.view sign).toNat default).recourse)) then (0, 0) else _) = _
    cases ((!(payableC c)) && (!(slices_ContainsFunc_73 c.view.now.acts))) || (!((eff.getD (owe_view_base c.view sign).toNat default).recourse)) with
    | true => rfl
    | false =>
      simp only [cond_false]
      refine (congrArg (fun q => pickS q _) (hloop _)).trans ?_
      show pickS (bif !(slices_Contains links (owe_view_base c.view sign)) then Sum.inr (1 + (allL links o.sign : Int)) else Sum.inr (cntL links (owe_view_base c.view sign) o.sign : Int)) _ = _
      cases slices_Contains links (owe_view_base c.view sign) <;> rfl
theorem both_rng (a b : Int) : owe_both a b = 0 ∨ owe_both a b = 1 ∨ owe_both a b = 2 := by
  have e : owe_both a b = bif (a == 0) || (b == 0) then 0 else bif (a == 2) || (b == 2) then 2 else 1 := by kernel_rfl
  rw [e]
  cases (a == 0) || (b == 0) <;> cases (a == 2) || (b == 2) <;> simp
theorem state_rng (c : Court) (o : Owner) (sign : Int) (links : List Int) (eff : List Effect) (hl : links.length ≤ 1000000) : (owe_court_state c o sign links eff).1 = 0 ∨ (owe_court_state c o sign links eff).1 = 1 ∨ (owe_court_state c o sign links eff).1 = 2 := by
  rw [state_eq c o sign links eff hl]
  cases (c.view.now.signs.getD (owe_view_base c.view sign).toNat default).kind == 1 with
  | true =>
    cases payableC c with
    | false => exact .inl rfl
    | true => exact both_rng _ _
  | false =>
    rw [cond_false]
    cases ((!(payableC c)) && (!(slices_ContainsFunc_73 c.view.now.acts))) || (!((eff.getD (owe_view_base c.view sign).toNat default).recourse)) with
    | true => exact .inl rfl
    | false => exact both_rng _ _
theorem try_eq {r : Realm} {forum : Int} {f : File} {day : Int} (h : (owe_try r forum f day).2 = true) : (owe_try r forum f day).1 = ⟨owe_open f day, r, forum, ask_Maturity r forum f day⟩ := (owe_try_post r forum f day h).1
theorem Liable_eq (f : File) (part by_ day : Int) : owe_Liable f part by_ day = bif !(slices_Contains (owe_open f day).lead part) then [] else owe_view_liable (owe_open f day) part by_ (owe_view_links (owe_open f day) part) := by kernel_rfl
theorem open_all (f : File) (day : Int) : (owe_open f day).all = f := by rw [open_eq]
theorem open_now (f : File) (day : Int) : (owe_open f day).now = record_At f day := by rw [open_eq]
theorem open_day (f : File) (day : Int) : (owe_open f day).day = day := by rw [open_eq]
/-- where a claim comes from -/
structure From (r : Realm) (forum : Int) (f : File) (day : Int) (c : Claim) (part : Int) (o : Owner) (sign : Int) : Prop where
  lead : part ∈ (owe_open f day).lead
  own : o ∈ owe_court_owners_c1 (owe_try r forum f day).1 (owe_view_links (owe_open f day) part)
  li : sign ∈ owe_view_liable (owe_open f day) part o.sign (owe_view_links (owe_open f day) part)
  st : (owe_court_state (owe_try r forum f day).1 o sign (owe_view_links (owe_open f day) part) (bind_Effects r forum f day)).1 ≠ 0
  ne : ((record_At f day).signs.getD sign.toNat default).who ≠ o.firm
  eq : c = { debtor := ((record_At f day).signs.getD sign.toNat default).who, creditor := o.firm, part := part, sign := sign, by_ := o.sign, turn := (owe_court_state (owe_try r forum f day).1 o sign (owe_view_links (owe_open f day) part) (bind_Effects r forum f day)).2, sum := (amount_Owed r forum f sign day).rest, currency := f.bill.currency, state := (owe_court_state (owe_try r forum f day).1 o sign (owe_view_links (owe_open f day) part) (bind_Effects r forum f day)).1 }
theorem claims_from {r : Realm} {forum : Int} {f : File} {day : Int} {c : Claim} (h : c ∈ owe_Claims r forum f day) : ((owe_try r forum f day).1 = ⟨owe_open f day, r, forum, ask_Maturity r forum f day⟩) ∧ ∃ part o sign, From r forum f day c part o sign := by
  rw [Claims_eq] at h
  cases ht : (owe_try r forum f day).2 with
  | false => rw [ht] at h; cases h
  | true =>
    rw [ht, Bool.not_true, cond_false] at h
    have he := try_eq ht
    refine ⟨he, ?_⟩
    unfold claimsOf at h
    have hv : (owe_try r forum f day).1.view = owe_open f day := by rw [he]
    rw [hv] at h
    obtain ⟨part, hp, h⟩ := List.mem_flatMap.1 h
    obtain ⟨o, ho, h⟩ := List.mem_flatMap.1 h
    obtain ⟨sign, hs, h⟩ := List.mem_flatMap.1 h
    unfold claimOf at h
    rw [hv, open_now] at h
    cases hc : (owe_court_state (owe_try r forum f day).1 o sign (owe_view_links (owe_open f day) part) (bind_Effects r forum f day)).1 == 0 || ((record_At f day).signs.getD sign.toNat default).who == o.firm with
    | true => rw [hc] at h; cases h
    | false =>
      rw [hc, cond_false, List.mem_singleton] at h
      simp only [Bool.or_eq_false_iff, beq_eq_false_iff_ne, ne_eq] at hc
      exact ⟨part, o, sign, hp, ho, hs, hc.1, hc.2, h⟩
theorem links_len {f : File} {day part : Int} : (owe_view_links (owe_open f day) part).length ≤ f.signs.length := by
  have := (owe_view_links_post (owe_open f day) part).1
  rwa [open_all] at this
theorem claim_facts {r : Realm} {forum : Int} {f : File} {day : Int} {c : Claim} (hF : RightF r f) (hR : r.RateOK) (h : c ∈ owe_Claims r forum f day) :
    (0 ≤ c.sign ∧ c.sign < f.signs.length) ∧ (-1 ≤ c.by_ ∧ c.by_ < f.signs.length) ∧ c.debtor = (f.signs.getD c.sign.toNat default).who ∧ c.creditor = (if 0 ≤ c.by_ then (f.signs.getD c.by_.toNat default).to_ else f.bill.payee) ∧
      c.debtor ≠ c.creditor ∧ (c.state = 1 ∨ c.state = 2) ∧ SumP c.sum ∧ c.currency = f.bill.currency ∧ c.sign ∈ owe_Liable f c.part c.by_ day := by
  obtain ⟨he, part, o, sign, k⟩ := claims_from h
  have hlen := signs_At_leR f day
  have hl := liable_mem k.li
  have hm := liTo_mem hl.2
  rw [open_now] at hm
  have hll : (owe_view_links (owe_open f day) part).length ≤ 1000000 := by have := links_len (f := f) (day := day) (part := part); have := hF.2.1.1; omega
  have hs := state_rng (owe_try r forum f day).1 o sign (owe_view_links (owe_open f day) part) (bind_Effects r forum f day) hll
  have hst := k.st
  have ho := (owners_mem k.own).1
  have hvn : (owe_try r forum f day).1.view.now = record_At f day := by rw [he]; exact open_now f day
  rw [hvn, bill_AtR] at ho
  have hby : (o.sign = -1 ∧ o.firm = f.bill.payee) ∨ (0 ≤ o.sign ∧ o.sign < f.signs.length ∧ o.firm = (f.signs.getD o.sign.toNat default).to_) := by
    rcases ho with ho | ⟨h1, h2⟩
    · exact .inl ho
    · have hk := links_mem h1
      rw [open_all, open_day] at hk
      have hin := hF.at_in hk.1 hk.2.1 hk.2.2.2.2.1
      rw [sign_AtR f day _ (by omega)] at h2
      exact .inr ⟨hk.1, hk.2.1, h2⟩
  have hown : amount_Owed r forum f sign day = amount_Owed r forum f sign day := rfl
  have hsum := amount_Owed_post r forum f sign day ⟨hF, hR⟩
  obtain rfl := k.eq
  refine ⟨⟨hm.1, by have := hm.2.1; show sign < _; omega⟩, ?_, ?_, ?_, k.ne, ?_, hsum, rfl, ?_⟩
  · show -1 ≤ o.sign ∧ o.sign < _
    rcases hby with hby | hby <;> omega
  · show ((record_At f day).signs.getD sign.toNat default).who = _
    rw [sign_AtR f day _ (by omega)]
  · show o.firm = if 0 ≤ o.sign then (f.signs.getD o.sign.toNat default).to_ else f.bill.payee
    rcases hby with hby | hby
    · rw [if_neg (by omega)]; exact hby.2
    · rw [if_pos hby.1]; exact hby.2.2
  · show (owe_court_state _ _ _ _ _).1 = 1 ∨ _
    rcases hs with hs | hs | hs
    · exact absurd hs hst
    · exact .inl hs
    · exact .inr hs
  · show sign ∈ owe_Liable f part o.sign day
    rw [Liable_eq, (contains_iff _ _).2 k.lead]
    exact k.li
theorem claims_once (r : Realm) (forum : Int) (f : File) (day : Int) : (owe_Claims r forum f day).Pairwise (fun a b => ¬ (a.part = b.part ∧ a.sign = b.sign ∧ a.by_ = b.by_)) := by
  rw [Claims_eq]
  cases ht : (owe_try r forum f day).2 with
  | false => exact List.Pairwise.nil
  | true =>
    rw [Bool.not_true, cond_false]
    have he := try_eq ht
    have hv : (owe_try r forum f day).1.view = owe_open f day := by rw [he]
    have key : ∀ part o sign c, c ∈ claimOf r forum f day (owe_try r forum f day).1 (bind_Effects r forum f day) (owe_view_links (owe_open f day) part) part o sign → c.part = part ∧ c.by_ = o.sign ∧ c.sign = sign := fun part o sign c h => by
      unfold claimOf at h
      cases hc : (owe_court_state (owe_try r forum f day).1 o sign (owe_view_links (owe_open f day) part) (bind_Effects r forum f day)).1 == 0 || ((owe_try r forum f day).1.view.now.signs.getD sign.toNat default).who == o.firm with
      | true => rw [hc] at h; cases h
      | false => rw [hc, cond_false, List.mem_singleton] at h; subst h; exact ⟨rfl, rfl, rfl⟩
    have key2 : ∀ part o c, c ∈ ((owe_view_liable (owe_open f day) part o.sign (owe_view_links (owe_open f day) part)).flatMap fun sign => claimOf r forum f day (owe_try r forum f day).1 (bind_Effects r forum f day) (owe_view_links (owe_open f day) part) part o sign) → c.part = part ∧ c.by_ = o.sign := fun part o c h => by
      obtain ⟨s, _, h⟩ := List.mem_flatMap.1 h
      exact ⟨(key _ _ _ _ h).1, (key _ _ _ _ h).2.1⟩
    unfold claimsOf
    rw [hv, List.pairwise_flatMap]
    refine ⟨fun part _ => ?_, (lead_sorted f day).imp (fun {a b} hab x hx y hy h => ?_)⟩
    · rw [List.pairwise_flatMap]
      refine ⟨fun o _ => ?_, (owners_signs (fun y hy => (links_mem hy).1) (links_sorted _ _)).imp (fun {a b} hab x hx y hy h => ?_)⟩
      · rw [List.pairwise_flatMap]
        refine ⟨fun s _ => ?_, (liable_sorted _ _ _ _).imp (fun {a b} hab x hx y hy h => ?_)⟩
        · unfold claimOf
          cases (owe_court_state (owe_try r forum f day).1 o s (owe_view_links (owe_open f day) part) (bind_Effects r forum f day)).1 == 0 || ((owe_try r forum f day).1.view.now.signs.getD s.toNat default).who == o.firm <;> simp
        · have h1 := (key _ _ _ _ hx).2.2
          have h2 := (key _ _ _ _ hy).2.2
          omega
      · have h1 := (key2 _ _ _ hx).2
        have h2 := (key2 _ _ _ hy).2
        omega
    · obtain ⟨o, _, hx⟩ := List.mem_flatMap.1 hx
      obtain ⟨o', _, hy⟩ := List.mem_flatMap.1 hy
      have h1 := (key2 _ _ _ hx).1
      have h2 := (key2 _ _ _ hy).1
      omega
theorem once_find {r : Realm} {forum : Int} {f : File} {day : Int} {i : Nat} (h : i < (owe_Claims r forum f day).length) : ∀ q, q < (subL (owe_Claims r forum f day) 0 i).length → ¬ (((subL (owe_Claims r forum f day) 0 i).getD q default).part = ((owe_Claims r forum f day).getD i default).part ∧ ((subL (owe_Claims r forum f day) 0 i).getD q default).sign = ((owe_Claims r forum f day).getD i default).sign ∧ ((subL (owe_Claims r forum f day) 0 i).getD q default).by_ = ((owe_Claims r forum f day).getD i default).by_) := by
  intro q hq
  rw [subL_length] at hq
  have e : (subL (owe_Claims r forum f day) 0 i).getD q default = (owe_Claims r forum f day).getD q default := by simp [subL, List.getD, hq]
  rw [e]
  have := List.pairwise_iff_getElem.1 (claims_once r forum f day) q i (by omega) h hq
  simpa [List.getD, h, show q < (owe_Claims r forum f day).length by omega] using this
noncomputable def allongelaw26_OweOnce_sk (r : Realm) (forum : Int) (f : File) (day : Int) : Sk (Bool) :=
 .r 1 allongelaw26_sane_k.c fun x1 =>
 .r 2 ((allongelaw26_few_k r f).c) fun x2 =>
 .br (!x2)
 (.fin x1)
 (.r 4 ((owe_Claims_k r forum f day).c) fun x3 =>
 .bind true (fun _ => True)
 (.loop (default : Sum (Bool) (Unit)) (fun i5 => i5 ≤ x3.length) (fun i5 => x3.length - i5) (0 : Nat)
 (fun (i5 : Nat) => ⟨[(11, iv ((i5 : Nat) : Int))], []⟩) fun i5 =>
 .bnd 10 0 x3.length <|
 .br (decide (((i5 : Nat) : Int) < ((x3.length : Nat) : Int)))
 (.bind true (fun _ => True)
 (.r 8 (.p (ixP ((i5 : Nat) : Int) x3.length)) fun _ =>
 .br ((((decide (((x3.getD i5 default).sign) < 0)) || (decide (((x3.getD i5 default).sign) ≥ ((f.signs.length : Nat) : Int)))) || (decide (((x3.getD i5 default).by_) < (-1)))) || (decide (((x3.getD i5 default).by_) ≥ ((f.signs.length : Nat) : Int))))
 (.fin (.inl (.inl (.inl false))))
 (.bind false (fun b7 => b7 = (if 0 ≤ (x3.getD i5 default).by_ then (f.signs.getD (x3.getD i5 default).by_.toNat default).to_ else f.bill.payee))
 (.br (decide (((x3.getD i5 default).by_) ≥ 0))
 (.r 13 (.p (ixP ((x3.getD i5 default).by_) f.signs.length)) fun _ =>
 .fin (.inr ((f.signs.getD (((x3.getD i5 default).by_).toNat) default).to_)))
 (.fin (.inr f.bill.payee)))
 (fun (b7 : Int) => ⟨[(13, iv b7)], []⟩) fun b7 =>
 .r 14 (.andl (.andl (.o [.nrm (subC Claim.E x3 0 i5)]) (.pt (0 ≤ ((i5 : Nat) : Int) ∧ ((i5 : Nat) : Int) ≤ ((x3.length : Nat) : Int)) (Claim.E.lens x3))) ((allongelaw26_Find_k (subL x3 0 i5) (x3.getD i5 default)).c)) fun x8 =>
 .r 15 (.wh (!((x8.1.debtor == 0) && ((x8.1.creditor == 0) && ((x8.1.part == 0) && ((x8.1.sign == 0) && ((x8.1.by_ == 0) && ((x8.1.turn == 0) && ((x8.1.sum == 0) && ((x8.1.currency == 0) && ((x8.1.state == 0) && true)))))))))) false (.p (ixP ((x3.getD i5 default).sign) f.signs.length))) fun _ =>
 .br (((((!((x8.1.debtor == 0) && ((x8.1.creditor == 0) && ((x8.1.part == 0) && ((x8.1.sign == 0) && ((x8.1.by_ == 0) && ((x8.1.turn == 0) && ((x8.1.sum == 0) && ((x8.1.currency == 0) && ((x8.1.state == 0) && true)))))))))) || (((x3.getD i5 default).debtor) != ((f.signs.getD (((x3.getD i5 default).sign).toNat) default).who))) || (((x3.getD i5 default).creditor) != b7)) || (((x3.getD i5 default).debtor) == ((x3.getD i5 default).creditor))) || ((((x3.getD i5 default).state) != 1) && (((x3.getD i5 default).state) != 2)))
 (.fin (.inl (.inl (.inl false))))
 (.br (((decide (((x3.getD i5 default).sum) < 0)) || (decide (((x3.getD i5 default).sum) > 1099511627776))) || (((x3.getD i5 default).currency) != f.bill.currency))
 (.fin (.inl (.inl (.inl false))))
 (.r 19 ((owe_Liable_k f ((x3.getD i5 default).part) ((x3.getD i5 default).by_) day).c) fun x9 =>
 .bind true (fun b10 => ∀ q, q < x9.length → x9.getD q default = (x3.getD i5 default).sign → b10.1 = true)
 (.loop (default : Sum (Sum (Sum (Sum (Bool) (Unit)) (Nat)) (Unit)) (Bool × Int)) (fun i11 => i11.2 ≤ x9.length ∧ ∀ q, q < i11.2 → x9.getD q default = (x3.getD i5 default).sign → i11.1 = true) (fun i11 => x9.length - i11.2) ((false, 0) : Bool × Nat)
 (fun (i11 : Bool × Nat) => ⟨[(17, bv i11.1), (18, iv ((i11.2 : Nat) : Int))], []⟩) fun i11 =>
 .bnd 16 0 x9.length <|
 .br (decide (((i11.2 : Nat) : Int) < ((x9.length : Nat) : Int)))
 (.r 24 (.wh i11.1 false (.p (ixP ((i11.2 : Nat) : Int) x9.length))) fun _ =>
 .r 23 .z fun _ =>
 .wi 18 (w64 (((i11.2 : Nat) : Int) + 1)) ((i11.2 + 1 : Nat) : Int) <|
 .fin (.inr (i11.1 || ((x9.getD i11.2 default) == ((x3.getD i5 default).sign)), i11.2 + 1)))
 (.fin (.inl (.inr (i11.1, ((i11.2 : Nat) : Int))))))
 (fun (b10 : Bool × Int) => ⟨[(17, bv b10.1), (18, iv b10.2)], []⟩) fun b10 =>
 .br (!b10.1)
 (.fin (.inl (.inl (.inl false))))
 (.fin (.inr ()))))))
 (fun (_ : Unit) => ⟨[], []⟩) fun _ =>
 .r 7 .z fun _ =>
 .wi 11 (w64 (((i5 : Nat) : Int) + 1)) ((i5 + 1 : Nat) : Int) <|
 .fin (.inr (i5 + 1)))
 (.fin (.inl (.inr ()))))
 (fun (_ : Unit) => ⟨[], []⟩) fun _ =>
 .fin x1)
noncomputable def allongelaw26_OweOnce (r : Realm) (forum : Int) (f : File) (day : Int) : Bool := (allongelaw26_OweOnce_sk r forum f day).val
theorem allongelaw26_OweOnce_pst (r : Realm) (forum : Int) (f : File) (day : Int) : (allongelaw26_OweOnce_sk r forum f day).pst (fun (x : Bool) => x = true) := by
  refine Sk.pst_of _ ?_
  unfold allongelaw26_OweOnce_sk
  simp only [Sk.pstq, Sk.isLoop, reduceCtorEq, ON, kk, allongelaw26_Find_k, allongelaw26_few_k, allongelaw26_sane_k, owe_Claims_k, owe_Liable_k, maxLen]
  intro x hx hs y hy hF
  refine ⟨fun _ => hs, fun h0 l hl => ⟨⟨Nat.zero_le _, fun i hi hc => ?_⟩, fun _ => hs⟩⟩
  have hF := hF (by simpa using h0)
  simp only [LN] at hc
  have hil : i < l.length := by omega
  have k := claim_facts hF.2.2.2.2.2 hF.2.2.2.2.1 (show l.getD i default ∈ owe_Claims r forum f day from hl ▸ lget_mem hil _)
  have hfi := once_find (r := r) (forum := forum) (f := f) (day := day) (i := i) (hl ▸ hil)
  rw [← hl] at hfi
  clear hl hx hy
  generalize l.getD i default = c at *
  obtain ⟨⟨k1, k2⟩, ⟨k3, k4⟩, k5, k6, k7, k8, k9, k10, k11⟩ := k
  refine ⟨fun _ => ⟨fun h => ?_, fun _ => ⟨⟨fun h _ => ?_, fun h => ?_⟩, fun b _ hb z _ hz _ => ⟨fun h => ?_, fun _ => ⟨fun h => ?_, fun _ li hli => ⟨⟨⟨Nat.zero_le _, fun q hq => absurd hq (by omega)⟩, fun j hj => ⟨fun hc2 _ _ => ⟨⟨?_, fun q hq e => ?_⟩, ?_⟩, fun hc2 q hq e => ?_⟩⟩, fun b2 hb2 h => ?_⟩⟩⟩⟩⟩, fun _ => ?_⟩
  · simp only [LN] at h
    omega
  · simp only [LN] at h
    rw [if_pos h]
  · simp only [LN] at h
    rw [if_neg (by omega)]
  · have hb := hb.trans k6.symm
    rw [hz hfi] at h
    simp only [beq_self_eq_true, Bool.and_self, Bool.and_true, Bool.not_true, Bool.false_or, Bool.true_and] at h
    simp only [LN] at h
    omega
  · simp only [LN] at h
    have := k9
    omega
  · simp only [LN] at hc2
    omega
  · simp only [LN] at hc2
    rw [Bool.or_eq_true, beq_iff_eq]
    by_cases e2 : q = j.2
    · subst e2; exact .inr e
    · exact .inl (hj.2 q (by omega) e)
  · simp only [LN] at hc2
    omega
  · simp only [LN] at hc2
    exact hj.2 q (by omega) e
  · subst hli
    obtain ⟨q, hq, e⟩ := List.getElem_of_mem k11
    have := hb2 q hq (by simp [List.getD, hq, e])
    rw [this] at h
    exact absurd h (by decide)
  · intros
    exact ⟨by omega, by omega⟩

theorem allongelaw26_OweOnce_post (r : Realm) (forum : Int) (f : File) (day : Int) : (fun (x : Bool) => x = true) (allongelaw26_OweOnce r forum f day) := have h := Sk.pval _ (allongelaw26_OweOnce_pst r forum f day); h
theorem allongelaw26_OweOnce_ok (r : Realm) (forum : Int) (f : File) (day : Int) : (allongelaw26_OweOnce_sk r forum f day).obs (fun _ => True) := by
  refine Sk.obs_of _ ?_
  unfold allongelaw26_OweOnce_sk
  simp only [Sk.obq, Sk.isLoop, reduceCtorEq, ON, kk, allongelaw26_Find_k, allongelaw26_few_k, allongelaw26_sane_k, owe_Claims_k, owe_Liable_k, maxLen]
  intro x hx hs y hy hF h0
  have hF := hF (by simpa using h0)
  refine ⟨⟨hF.2.2.2.2.2, hF.2.2.2.2.2.small, hF.2.1, hF.1, hF.2.2.2.1, hF.2.2.2.2.1⟩, fun l hl => ⟨Nat.zero_le _, fun i hi hm hc => ?_⟩⟩
  simp only [LN] at hc
  have w1 : ∀ (i : Nat) n, i < n → n ≤ 9223372036854775807 → w64 ((i : Int) + 1) = ((i + 1 : Nat) : Int) := fun i n h h2 => (w64_id (by omega) (by omega)).trans (by omega)
  refine ⟨⟨⟨by omega, by omega⟩, fun _ hr => ?_⟩, fun _ _ _ => ⟨w1 _ _ (by omega) hm, by omega, by omega⟩⟩
  simp only [LN] at hr
  refine ⟨⟨fun h => ⟨?_, fun _ => ?_⟩, fun h => ?_⟩, fun b _ hb => ⟨⟨by omega, by omega⟩, fun z _ hz => ⟨fun _ => ⟨by omega, by omega⟩, fun _ _ _ => ⟨hF.2.2.2.2.2.small, fun li hli => ⟨⟨Nat.zero_le _, fun q hq => absurd hq (by omega)⟩, fun j hj hm2 => ⟨fun hc2 => ⟨fun _ => ?_, fun _ _ => ⟨?_, ⟨?_, fun q hq e => ?_⟩, ?_⟩⟩, fun hc2 q hq e => ?_⟩⟩⟩⟩⟩⟩
  · simp only [LN] at h
    exact ⟨h, by omega⟩
  · simp only [LN] at h
    rw [if_pos h]
  · simp only [LN] at h
    rw [if_neg (by omega)]
  all_goals simp only [LN] at hc2
  · exact ⟨by omega, by omega⟩
  · exact w1 _ _ (by omega) hm2
  · omega
  · rw [Bool.or_eq_true, beq_iff_eq]
    by_cases e2 : q = j.2
    · subst e2; exact .inr e
    · exact .inl (hj.2 q (by omega) e)
  · omega
  · exact hj.2 q (by omega) e

noncomputable def allongelaw26_OweOnce_k (r : Realm) (forum : Int) (f : File) (day : Int) : Ctr (Bool) := kk tok mixed Tryz.func4 [av r.cells, iv forum, av f.cells, iv day] (fun x => bv x) true (allongelaw26_OweOnce_sk r forum f day) (allongelaw26_OweOnce r forum f day) (fun (_ : True) => allongelaw26_OweOnce_ok r forum f day) (fun (x : Bool) => x = true) (allongelaw26_OweOnce_post r forum f day)
theorem allongelaw26_OweOnce_fn (r : Realm) (forum : Int) (f : File) (day : Int) : FnA Tryz.prog 4 [av r.cells, iv forum, av f.cells, iv day] [] (bv (allongelaw26_OweOnce r forum f day)) [] := (allongelaw26_OweOnce_k r forum f day).pf trivial
end Go.Proofs.YtjaehpinmdpmbaaGreatDoor

