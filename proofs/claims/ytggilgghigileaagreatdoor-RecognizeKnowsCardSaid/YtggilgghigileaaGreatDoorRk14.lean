/- Functions, as sketches. -/
import Derived.Test.YtggilgghigileaaGreatDoorRk13
namespace Go.Proofs.YtggilgghigileaaGreatDoor
open Go Go.Av
set_option linter.unusedSimpArgs false
set_option linter.unusedVariables false
set_option maxHeartbeats 1000000
set_option maxRecDepth 100000
/-- what is known stays -/
def CellLe (a b : CellX) : Prop := a.known = true → b = a
theorem CellLe.rfl' (a : CellX) : CellLe a a := fun _ => rfl
theorem CellLe.unknown {a b : CellX} (h : a.known = false) : CellLe a b := fun h2 => by rw [h] at h2; exact absurd h2 (by decide)
theorem comb1_mono {op : Int} {cs cs' : List CellX} {ns ns' : List (List Int)} (h : CellLe (term_combine op cs) (term_combine op cs')) : CellLe (comb1 op cs ns).1 (comb1 op cs' ns').1 := by
  unfold comb1
  cases hk : (term_combine op cs).known with
  | false => exact CellLe.unknown rfl
  | true => rw [h hk, hk]; exact CellLe.rfl' _
theorem not_mono {a a' : CellX} (h : CellLe a a') : CellLe (term_combine 3 [a]) (term_combine 3 [a']) := by
  rw [comb_not, comb_not]
  cases hk : a.known with
  | false => exact CellLe.unknown rfl
  | true => rw [h hk, hk]; exact CellLe.rfl' _
theorem bool_mono {op : Int} (hop : op = 4 ∨ op = 5) {a a' b b' : CellX} (ha : CellLe a a') (hb : CellLe b b') : CellLe (term_combine op [a, b]) (term_combine op [a', b']) := by
  rw [comb_bool op hop, comb_bool op hop]
  dsimp only
  generalize (if op = 5 then (1 : Int) else 0) = z
  cases hka : a.known with
  | true =>
    have ea := ha hka
    subst ea
    cases hkb : b.known with
    | true => have eb := hb hkb; subst eb; rw [hka, hkb]; exact CellLe.rfl' _
    | false =>
      rw [hka]
      cases a'.n == z with
      | true => simp only [Bool.true_and, Bool.true_or, cond_true]; exact CellLe.rfl' _
      | false => exact CellLe.unknown rfl
  | false =>
    cases hkb : b.known with
    | false => exact CellLe.unknown rfl
    | true =>
      have eb := hb hkb
      subst eb
      rw [hkb]
      cases b'.n == z with
      | true => simp only [Bool.true_and, Bool.or_true, cond_true]; exact CellLe.rfl' _
      | false => exact CellLe.unknown rfl
theorem other_mono {op : Int} (hop : 7 ≤ op) {a a' b b' : CellX} (ha : CellLe a a') (hb : CellLe b b') : CellLe (term_combine op [a, b]) (term_combine op [a', b']) := by
  rw [comb_other op hop, comb_other op hop]
  cases hka : a.known with
  | true =>
    have ea := ha hka
    subst ea
    cases hkb : b.known with
    | true => have eb := hb hkb; subst eb; rw [hka, hkb]; exact CellLe.rfl' _
    | false => exact CellLe.unknown rfl
  | false => exact CellLe.unknown rfl
theorem value_mono {a b : CellX} (h : CellLe a b) (n : Int) : CellLe (valC a n) (valC b n) := by
  unfold valC
  cases hk : a.known with
  | false => exact CellLe.unknown rfl
  | true => rw [h hk, hk]; exact CellLe.rfl' _
theorem cell_eq {a b : CellX} (ha : a.known = true) (hb : b.known = true) (h : (a.n == b.n) = true) : a = b := by
  obtain ⟨k, n⟩ := a
  obtain ⟨k', n'⟩ := b
  simp only at ha hb h
  rw [ha, hb, beq_iff_eq.1 h]
theorem run_mono {t : Term} {k : Int} (h : TyT t k) : ∀ (fu : Nat) (m m' : Machine), (∀ q : Nat, CellLe (m.cells_.getD q default) (m'.cells_.getD q default)) → t.depth ≤ fu → t.depth ≤ 8 → CellLe (term_machine_run_n fu m t).1 (term_machine_run_n fu m' t).1 := by
  induction h with
  | int hn =>
    intro fu m m' _ hd _
    cases fu with
    | zero => exact absurd hd (by simp [Term.depth, Term.depthL])
    | succ fu => rw [run_int, run_int]; exact CellLe.rfl' _
  | @bool n hn =>
    intro fu m m' _ hd _
    cases fu with
    | zero => exact absurd hd (by simp [Term.depth, Term.depthL])
    | succ fu => rw [run_bool, run_bool]; exact CellLe.rfl' _
  | @var n hn =>
    intro fu m m' hm hd _
    cases fu with
    | zero => exact absurd hd (by simp [Term.depth, Term.depthL])
    | succ fu =>
      rw [run_var, run_var, value_eq m n hn, value_eq m' n hn]
      have h := value_mono (hm n.toNat) n
      cases hk : (valC (m.cells_.getD n.toNat default) n).known with
      | false => exact CellLe.unknown rfl
      | true => rw [h hk, hk]; exact CellLe.rfl' _
  | @not a _ ih =>
    intro fu m m' hm hd h8
    cases fu with
    | zero => exact absurd hd (by simp [Term.depth, Term.depthL])
    | succ fu =>
      rw [depth1] at hd h8
      rw [run_not, run_not]
      exact comb1_mono (not_mono (ih fu m m' hm (by omega) (by omega)))
  | @conj op a b hop _ _ iha ihb =>
    intro fu m m' hm hd h8
    cases fu with
    | zero => exact absurd hd (by simp [Term.depth, Term.depthL])
    | succ fu =>
      rw [depth2] at hd h8
      rw [run_two _ _ _ _ (by omega), run_two _ _ _ _ (by omega)]
      exact comb1_mono (bool_mono hop (iha fu m m' hm (by omega) (by omega)) (ihb fu m m' hm (by omega) (by omega)))
  | @ite a b c k ha _ _ iha ihb ihc =>
    intro fu m m' hm hd h8
    cases fu with
    | zero => exact absurd hd (by simp [Term.depth, Term.depthL])
    | succ fu =>
      rw [depth3] at hd h8
      have ia := iha fu m m' hm (by omega) (by omega)
      have ib := ihb fu m m' hm (by omega) (by omega)
      have ic := ihc fu m m' hm (by omega) (by omega)
      have t1 := (run_typed ha fu m (by omega) (by omega)).1 rfl
      have t2 := (run_typed ha fu m' (by omega) (by omega)).1 rfl
      rw [run_ite, run_ite]
      dsimp only
      cases hk : (term_machine_run_n fu m a).1.known with
      | true =>
        rw [ia hk, hk]
        simp only [cond_true]
        rcases t1 hk with e | e
        · rw [e]; exact ic
        · rw [e]; exact ib
      | false =>
        simp only [cond_false]
        unfold comb1
        rw [comb_if]
        cases hb : (term_machine_run_n fu m b).1.known with
        | false => exact CellLe.unknown rfl
        | true =>
          cases hc : (term_machine_run_n fu m c).1.known with
          | false => exact CellLe.unknown rfl
          | true =>
            cases he : ((term_machine_run_n fu m b).1.n == (term_machine_run_n fu m c).1.n) with
            | false => exact CellLe.unknown rfl
            | true =>
              have eb := ib hb
              have ec := ic hc
              have ebc := cell_eq hb hc he
              simp only [Bool.and_self, cond_true, hb]
              cases hk2 : (term_machine_run_n fu m' a).1.known with
              | true =>
                simp only [cond_true]
                rcases t2 hk2 with e | e
                · rw [e]
                  show CellLe _ (term_machine_run_n fu m' c).1
                  rw [ec, ← ebc]; exact CellLe.rfl' _
                · rw [e]
                  show CellLe _ (term_machine_run_n fu m' b).1
                  rw [eb]; exact CellLe.rfl' _
              | false =>
                simp only [cond_false]
                rw [comb_if, eb, ec, hb, hc, he]
                simp only [Bool.and_self, cond_true, hb]
                exact CellLe.rfl' _
  | _ =>
    intro fu m m' hm hd h8
    cases fu with
    | zero => exact absurd hd (by simp [Term.depth, Term.depthL])
    | succ fu =>
      rename_i a b _ _ iha ihb
      rw [depth2] at hd h8
      rw [run_two _ _ _ _ (by omega), run_two _ _ _ _ (by omega)]
      exact comb1_mono (other_mono (by omega) (iha fu m m' hm (by omega) (by omega)) (ihb fu m m' hm (by omega) (by omega)))
/-- cells of a case that know more -/
def VLe (l l' : List CellX) : Prop := l'.length = l.length ∧ ∀ q : Nat, CellLe (l.getD q default) (l'.getD q default)
theorem VLe.rfl' (l : List CellX) : VLe l l := ⟨rfl, fun _ => CellLe.rfl' _⟩
theorem VLe.set {l l' : List CellX} (h : VLe l l') {x x' : CellX} (hx : CellLe x x') (i : Nat) : VLe (l.set i x) (l'.set i x') := by
  refine ⟨by simp [h.1], fun q => ?_⟩
  by_cases hi : i < l.length
  · by_cases e : q = i
    · subst e
      rw [lget_set_eq l hi, lget_set_eq l' (by rw [h.1]; exact hi)]
      exact hx
    · rw [lget_set_ne l e, lget_set_ne l' e]
      exact h.2 q
  · rw [List.set_eq_of_length_le (by omega), List.set_eq_of_length_le (by rw [h.1]; omega)]
    exact h.2 q
theorem cond_rel {α : Type} {R : α → α → Prop} (c : Bool) {x y x' y' : α} (h1 : R x x') (h2 : R y y') : R (bif c then x else y) (bif c then x' else y') := by cases c <;> assumption
theorem pick_rel {α β : Type} {R : α → α → Prop} (hR : ∀ a, R a a) (x : α ⊕ β) {k k' : β → α} (h : ∀ b, R (k b) (k' b)) : R (pickS x k) (pickS x k') := by
  cases x with
  | inl a => exact hR a
  | inr b => exact h b
theorem CF181_any (s : List Alter) (v : CaseX) : slices_ContainsFunc_181 s v = s.any (fun a => decide (a.at_ ≤ v.sign)) := by
  refine Bool.eq_iff_iff.2 (Iff.trans (slices_ContainsFunc_181_post s v) ?_)
  simp only [record_Vars_c1_eq, List.any_eq_true]
  constructor
  · rintro ⟨q, hq, e⟩; exact ⟨_, lget_mem hq _, e⟩
  · rintro ⟨x, hx, e⟩
    obtain ⟨i, hi, rfl⟩ := List.getElem_of_mem hx
    exact ⟨i, hi, by simpa [List.getD, hi] using e⟩
theorem Vars_mono (r : Realm) (f : File) (F : List Fact) (s h e due y y' : Int) (hF : ∀ k a, CellLe (record_Fact f k a) (record_Fact { f with facts := F } k a)) :
    VLe (record_Vars r ⟨f, s, h, e, due, y⟩) (record_Vars r ⟨{ f with facts := F }, s, h, e, due, y'⟩) := by
  unfold record_Vars record_Vars_sk
  simp only [Sk.val_r, Sk.val_br, Sk.val_bind, Sk.val_fin, Sk.val_brt, Sk.val_brf, Sk.val_wn, Cal.dep_v, Cal.wh_v, Cal.depr_v, Cal.andl_v, Ctr.c_v, slices_ContainsFunc_181_k, CF181_any, record_Fact_k]
  refine cond_rel _ (VLe.rfl' _) (cond_rel _ (VLe.rfl' _) (pick_rel VLe.rfl' _ fun b => pick_rel VLe.rfl' _ fun b2 => pick_rel VLe.rfl' _ fun b3 => ?_))
  exact ((((VLe.set (VLe.rfl' _) (hF _ _) _).set (hF _ _) _).set (hF _ _) _).set (hF _ _) _).set (hF _ _) _
theorem Eval_mono (t : Term) {l l' : List CellX} (h : ∀ q : Nat, CellLe (l.getD q default) (l'.getD q default)) : CellLe (term_Eval t l) (term_Eval t l') := by
  have e : ∀ l, term_Eval t l = bif (term_Check t).2 != 0 then ⟨false, 0⟩ else (term_machine_run ⟨l⟩ t).1 := fun l => by kernel_rfl
  rw [e, e]
  cases hc : (term_Check t).2 != 0 with
  | true => exact CellLe.rfl' _
  | false =>
    simp only [decide_eq_true_eq, decide_eq_false_iff_not, List.length_append, List.length_cons, List.length_nil, List.length_set, List.length_replicate, Bool.not_eq_true, Bool.not_eq_false, Int.not_lt, Int.not_le, Bool.and_eq_true, Bool.or_eq_true, Bool.and_eq_false_iff, Bool.or_eq_false_iff, Bool.not_eq_eq_eq_not, Bool.not_true, Bool.not_false, beq_iff_eq, bne_iff_ne, beq_eq_false_iff_ne, bne_eq_false_iff_eq, ne_eq, subL_length] at hc
    have hp := term_Check_post t hc
    exact run_mono hp.1 _ _ _ h (Nat.le_refl _) hp.2
theorem Answer_mono (o : Order) (q : Int) {l l' : List CellX} (h : ∀ q : Nat, CellLe (l.getD q default) (l'.getD q default)) : (order_Answer o q l').2 = (order_Answer o q l).2 ∧ CellLe (order_Answer o q l).1 (order_Answer o q l').1 := by
  have e : ∀ l, order_Answer o q l = bif (order_find o q).2 != 0 then (⟨false, 0⟩, (order_find o q).2) else
    bif (order_Type q).1 == 0 && (term_Eval (order_find o q).1 l).known then (⟨(term_Eval (order_find o q).1 l).known, minI (maxI (term_Eval (order_find o q).1 l).n 0) 20000⟩, 0) else (term_Eval (order_find o q).1 l, 0) := fun l => by kernel_rfl
  rw [e, e]
  have hm := Eval_mono (order_find o q).1 h
  cases (order_find o q).2 != 0 with
  | true => exact ⟨rfl, CellLe.rfl' _⟩
  | false =>
    simp only [cond_false]
    generalize term_Eval (order_find o q).1 l = x at hm ⊢
    generalize term_Eval (order_find o q).1 l' = x' at hm ⊢
    cases hk : x.known with
    | true => rw [hm hk, hk]; exact ⟨rfl, CellLe.rfl' _⟩
    | false =>
      rw [Bool.and_false, cond_false]
      cases ((order_Type q).1 == 0 && x'.known) with
      | true => exact ⟨rfl, CellLe.unknown hk⟩
      | false => exact ⟨rfl, CellLe.unknown hk⟩
noncomputable def findF (r : Realm) (fo q : Int) (p : List Int) (l : List CellX) : Said × List CellX :=
  bif (l.length : Int) == 0 then ((⟨⟨false, 0⟩, -1, [], 1⟩ : Said), []) else bif !(order_Type q).2 then (⟨⟨false, 0⟩, -1, [], 1⟩, []) else
      bif p.isEmpty then ((⟨⟨false, 0⟩, -1, [], 1⟩ : Said), []) else (fun w : List Int × Int => bif w.2 == 0 then ((⟨⟨false, 0⟩, w.1.getD (w64 ((w.1.length : Int) - 1)).toNat default, w.1, w.2⟩ : Said), l) else (⟨⟨false, 0⟩, -1, w.1, w.2⟩, l)) (conflict_Law r fo q p)
theorem find_eq (r : Realm) (fo q : Int) (c : CaseX) : ask_find r fo q c = findF r fo q (ask_places r fo { c with file := record_At c.file c.day }) (record_Vars r { c with file := record_At c.file c.day }) := by kernel_rfl
theorem findF_mono (r : Realm) (fo q : Int) (p : List Int) {l l' : List CellX} (h : VLe l l') : (findF r fo q p l').1 = (findF r fo q p l).1 ∧ VLe (findF r fo q p l).2 (findF r fo q p l').2 := by
  unfold findF
  rw [h.1]
  cases (l.length : Int) == 0 with
  | true => exact ⟨rfl, VLe.rfl' _⟩
  | false =>
    cases !(order_Type q).2 with
    | true => exact ⟨rfl, VLe.rfl' _⟩
    | false =>
      cases p.isEmpty with
      | true => exact ⟨rfl, VLe.rfl' _⟩
      | false =>
        simp only [cond_false]
        cases (conflict_Law r fo q p).2 == 0 with
        | true => exact ⟨rfl, h⟩
        | false => exact ⟨rfl, h⟩
theorem places_facts (r : Realm) (fo : Int) (f : File) (F : List Fact) (s h d u y : Int) : ask_places r fo ⟨{ f with facts := F }, s, h, d, u, y⟩ = ask_places r fo ⟨f, s, h, d, u, y⟩ := by kernel_rfl
theorem At_facts2 (f : File) (F : List Fact) (d : Int) : record_At { f with facts := F } d = { record_At f d with facts := F.filter (fun x => decide (x.at_ ≥ 0) && decide (x.at_ < ((record_At f d).signs.length : Int))) } := by
  rw [record_At_eq, record_At_eq]
/-- an answer that is known stays when facts are added -/
theorem Ask_mono (r : Realm) (fo q : Int) (f : File) (F : List Fact) (s h e due y : Int) (hF : ∀ k a, CellLe (record_Fact (record_At f y) k a) (record_Fact (record_At { f with facts := F } y) k a)) :
    (ask_Ask r fo q ⟨{ f with facts := F }, s, h, e, due, y⟩).err = (ask_Ask r fo q ⟨f, s, h, e, due, y⟩).err ∧ CellLe (ask_Ask r fo q ⟨f, s, h, e, due, y⟩).cell (ask_Ask r fo q ⟨{ f with facts := F }, s, h, e, due, y⟩).cell := by
  rw [Ask_eq, Ask_eq, find_eq, find_eq]
  dsimp only
  rw [At_facts2 f F y] at hF ⊢
  rw [places_facts r fo (record_At f y)]
  have hv := Vars_mono r (record_At f y) _ s h e due y y hF
  obtain ⟨h1, h2⟩ := findF_mono r fo q (ask_places r fo ⟨record_At f y, s, h, e, due, y⟩) hv
  rw [h1]
  generalize (findF r fo q (ask_places r fo ⟨record_At f y, s, h, e, due, y⟩) (record_Vars r ⟨record_At f y, s, h, e, due, y⟩)) = w at h2 ⊢
  cases w.1.order != -1 with
  | true =>
    rw [cond_true, cond_true]
    exact Answer_mono _ q h2.2
  | false =>
    rw [cond_false, cond_false]
    exact ⟨Eq.refl _, CellLe.rfl' _⟩
noncomputable def refStep (kind at_ : Int) (x : Fact) (s : Unit) : CellX ⊕ Unit := bif (x.kind == kind) && (x.at_ == at_) then .inl (bif x.n == 0 then ⟨true, 0⟩ else ⟨true, 1⟩) else .inr ()
theorem refFact_eq (f : File) (kind at_ : Int) : allongeref14_Fact f kind at_ = walk (refStep kind at_) (fun _ => ⟨false, 0⟩) f.facts () := by
  simp only [allongeref14_Fact, allongeref14_Fact_sk, Sk.val_bind, Sk.val_loop, Sk.val_bnd, Sk.val_br, Sk.val_r, Sk.val_wi, Sk.val_fin, Ctr.c_v]
  refine (pick_iter_walk f.facts (fun s i => i) (refStep kind at_) id _ (fun s i hi => ?_) (fun s => ?_) (by simp) ()).trans rfl
  · rw [decide_eq_true (by omega), cond_true]
    unfold refStep
    cases (((f.facts.getD i default).kind == kind) && ((f.facts.getD i default).at_ == at_)) with
    | false => rfl
    | true => cases (f.facts.getD i default).n == 0 <;> rfl
  · rw [decide_eq_false (by omega), cond_false]
theorem truth_eq (b : Bool) : record_truth b = bif b then ⟨true, 1⟩ else ⟨true, 0⟩ := by cases b <;> kernel_rfl
theorem refFact_same (f : File) (kind at_ : Int) : allongeref14_Fact f kind at_ = record_Fact f kind at_ := by
  rw [refFact_eq, Fact_eq]
  congr 1
  funext x s
  unfold refStep factStep
  rw [truth_eq]
  cases hn : x.n == 0 with
  | true => have : (x.n != 0) = false := by simpa [bne] using hn
            rw [this]; rfl
  | false => have : (x.n != 0) = true := by simp [bne, hn]
             rw [this]; rfl
def factLt (x y : Fact) : Bool := decide (y.at_ < x.at_) || ((y.at_ == x.at_) && decide (y.kind < x.kind))
def factGt (x y : Fact) : Bool := decide (y.at_ > x.at_) || ((y.at_ == x.at_) && decide (y.kind > x.kind))
theorem With_eq (f : File) (x : Fact) : allongeref14_With f x = bif (record_Fact f x.kind x.at_).known then f else { f with facts := f.facts.filter (factLt x) ++ [x] ++ f.facts.filter (factGt x) } := by
  rw [← refFact_same]
  simp only [allongeref14_With, allongeref14_With_sk, Sk.val_bind, Sk.val_loop, Sk.val_bnd, Sk.val_br, Sk.val_r, Sk.val_wi, Sk.val_fin, Ctr.c_v, allongeref14_Fact_k]
  congr 1
  refine (pick_iter_walk f.facts (fun s i => (s, i)) (fun y s => .inr (bif factLt x y then s ++ [y] else s)) id _ (fun s i hi => ?_) (fun s => ?_) (by simp) []).trans ?_
  · have e : decide ((i : Int) < (f.facts.length : Int)) = true := decide_eq_true (by omega)
    simp only [e, cond_true]
    unfold factLt
    cases (decide ((f.facts.getD i default).at_ < x.at_) || (((f.facts.getD i default).at_ == x.at_) && decide ((f.facts.getD i default).kind < x.kind))) <;> rfl
  · have e : decide ((f.facts.length : Int) < (f.facts.length : Int)) = false := decide_eq_false (by omega)
    simp only [e, cond_false]; rfl
  · rw [walk_fold, filter_fold]
    simp only [id, List.nil_append]
    refine (pick_iter_walk f.facts (fun s i => (s, i)) (fun y s => .inr (bif factGt x y then s ++ [y] else s)) id _ (fun s i hi => ?_) (fun s => ?_) (by simp) _).trans ?_
    · have e : decide ((i : Int) < (f.facts.length : Int)) = true := decide_eq_true (by omega)
      simp only [e, cond_true]
      unfold factGt
      cases (decide ((f.facts.getD i default).at_ > x.at_) || (((f.facts.getD i default).at_ == x.at_) && decide ((f.facts.getD i default).kind > x.kind))) <;> rfl
    · have e : decide ((f.facts.length : Int) < (f.facts.length : Int)) = false := decide_eq_false (by omega)
      simp only [e, cond_false]; rfl
    · rw [walk_fold, filter_fold]; rfl
theorem walk_silent {α σ β : Type} (step : α → σ → β ⊕ σ) (fin : σ → β) : ∀ {l : List α}, (∀ y, y ∈ l → ∀ s, step y s = .inr s) → ∀ s, walk step fin l s = fin s
  | [], _, _ => rfl
  | y :: r, h, s => by
    unfold walk
    rw [h y (by simp)]
    exact walk_silent step fin (fun z hz => h z (by simp [hz])) s
/-- what is known of a file stays, when a fact is added -/
theorem walk_keep {p q : Fact → Bool} {k a : Int} (x : Fact) (f : List Fact) (hx : (walk (factStep x.kind x.at_) (fun _ => (⟨false, 0⟩ : CellX)) f ()).known = false)
    (hp : p = factLt x) (hq : q = factGt x) : CellLe (walk (factStep k a) (fun _ => ⟨false, 0⟩) f ()) (walk (factStep k a) (fun _ => ⟨false, 0⟩) (f.filter p ++ [x] ++ f.filter q) ()) := by
  subst hp; subst hq
  by_cases h : x.kind = k ∧ x.at_ = a
  · rw [h.1, h.2] at hx
    intro hk
    rw [hx] at hk
    exact absurd hk (by decide)
  · have hsx : ∀ s, factStep k a x s = .inr s := fun s => by
      unfold factStep
      have : ((x.kind == k) && (x.at_ == a)) = false := by
        simp only [decide_eq_true_eq, decide_eq_false_iff_not, List.length_append, List.length_cons, List.length_nil, List.length_set, List.length_replicate, Bool.not_eq_true, Bool.not_eq_false, Int.not_lt, Int.not_le, Bool.and_eq_true, Bool.or_eq_true, Bool.and_eq_false_iff, Bool.or_eq_false_iff, Bool.not_eq_eq_eq_not, Bool.not_true, Bool.not_false, beq_iff_eq, bne_iff_ne, beq_eq_false_iff_ne, bne_eq_false_iff_eq, ne_eq, subL_length]
        by_cases c : x.kind = k
        · exact .inr (fun e => h ⟨c, e⟩)
        · exact .inl c
      rw [this]; rfl
    have hfire : ∀ (y : Fact) (s : Unit), (y.kind = k → y.at_ = a → False) → factStep k a y s = .inr s := fun y s hy => by
      unfold factStep
      have : ((y.kind == k) && (y.at_ == a)) = false := by
        simp only [decide_eq_true_eq, decide_eq_false_iff_not, List.length_append, List.length_cons, List.length_nil, List.length_set, List.length_replicate, Bool.not_eq_true, Bool.not_eq_false, Int.not_lt, Int.not_le, Bool.and_eq_true, Bool.or_eq_true, Bool.and_eq_false_iff, Bool.or_eq_false_iff, Bool.not_eq_eq_eq_not, Bool.not_true, Bool.not_false, beq_iff_eq, bne_iff_ne, beq_eq_false_iff_ne, bne_eq_false_iff_eq, ne_eq, subL_length]
        by_cases c : y.kind = k
        · exact .inr (fun e => hy c e)
        · exact .inl c
      rw [this]; rfl
    have e : walk (factStep k a) (fun _ => (⟨false, 0⟩ : CellX)) (f.filter (factLt x) ++ [x] ++ f.filter (factGt x)) () = walk (factStep k a) (fun _ => ⟨false, 0⟩) f () := by
      rw [List.append_assoc, walk_append]
      by_cases c : a < x.at_ ∨ (a = x.at_ ∧ k < x.kind)
      · rw [show (fun s => walk (factStep k a) (fun _ => (⟨false, 0⟩ : CellX)) ([x] ++ f.filter (factGt x)) s) = fun _ => ⟨false, 0⟩ from funext fun s => by
          refine walk_silent _ _ (fun y hy s => ?_) s
          rcases List.mem_append.1 hy with hy | hy
          · simp only [List.mem_singleton] at hy
            subst hy
            exact hsx s
          · have := (List.mem_filter.1 hy).2
            unfold factGt at this
            simp only [decide_eq_true_eq, decide_eq_false_iff_not, List.length_append, List.length_cons, List.length_nil, List.length_set, List.length_replicate, Bool.not_eq_true, Bool.not_eq_false, Int.not_lt, Int.not_le, Bool.and_eq_true, Bool.or_eq_true, Bool.and_eq_false_iff, Bool.or_eq_false_iff, Bool.not_eq_eq_eq_not, Bool.not_true, Bool.not_false, beq_iff_eq, bne_iff_ne, beq_eq_false_iff_ne, bne_eq_false_iff_eq, ne_eq, subL_length] at this
            exact hfire y s (fun e1 e2 => by omega)]
        refine walk_filter _ _ _ _ (fun y s hy => hfire y s (fun e1 e2 => ?_)) ()
        unfold factLt at hy
        simp only [decide_eq_true_eq, decide_eq_false_iff_not, List.length_append, List.length_cons, List.length_nil, List.length_set, List.length_replicate, Bool.not_eq_true, Bool.not_eq_false, Int.not_lt, Int.not_le, Bool.and_eq_true, Bool.or_eq_true, Bool.and_eq_false_iff, Bool.or_eq_false_iff, Bool.not_eq_eq_eq_not, Bool.not_true, Bool.not_false, beq_iff_eq, bne_iff_ne, beq_eq_false_iff_ne, bne_eq_false_iff_eq, ne_eq, subL_length] at hy
        omega
      · rw [walk_silent _ _ (fun y hy s => ?_)]
        · show walk _ _ ([x] ++ _) () = _
          rw [walk_append, walk_silent _ _ (fun y hy s => ?_)]
          · refine walk_filter _ _ _ _ (fun y s hy => hfire y s (fun e1 e2 => ?_)) ()
            unfold factGt at hy
            simp only [decide_eq_true_eq, decide_eq_false_iff_not, List.length_append, List.length_cons, List.length_nil, List.length_set, List.length_replicate, Bool.not_eq_true, Bool.not_eq_false, Int.not_lt, Int.not_le, Bool.and_eq_true, Bool.or_eq_true, Bool.and_eq_false_iff, Bool.or_eq_false_iff, Bool.not_eq_eq_eq_not, Bool.not_true, Bool.not_false, beq_iff_eq, bne_iff_ne, beq_eq_false_iff_ne, bne_eq_false_iff_eq, ne_eq, subL_length] at hy
            omega
          · simp only [List.mem_singleton] at hy
            subst hy
            exact hsx s
        · have := (List.mem_filter.1 hy).2
          unfold factLt at this
          simp only [decide_eq_true_eq, decide_eq_false_iff_not, List.length_append, List.length_cons, List.length_nil, List.length_set, List.length_replicate, Bool.not_eq_true, Bool.not_eq_false, Int.not_lt, Int.not_le, Bool.and_eq_true, Bool.or_eq_true, Bool.and_eq_false_iff, Bool.or_eq_false_iff, Bool.not_eq_eq_eq_not, Bool.not_true, Bool.not_false, beq_iff_eq, bne_iff_ne, beq_eq_false_iff_ne, bne_eq_false_iff_eq, ne_eq, subL_length] at this
          exact hfire y s (fun e1 e2 => by omega)
    rw [e]
    exact CellLe.rfl' _
theorem With_known (f : File) (x : Fact) (k a : Int) : CellLe (record_Fact f k a) (record_Fact (allongeref14_With f x) k a) := by
  rw [With_eq]
  cases h : (record_Fact f x.kind x.at_).known with
  | true => exact CellLe.rfl' _
  | false =>
    rw [cond_false, Fact_eq, Fact_eq]
    rw [Fact_eq] at h
    exact walk_keep x f.facts h rfl rfl
theorem Bill_facts (r : Realm) (fo q : Int) (f : File) (F : List Fact) (y : Int) : ask_Bill r fo q { f with facts := F } y = ask_Bill r fo q f y := rfl
theorem Seen_facts (f : File) (F : List Fact) : record_Seen { f with facts := F } = record_Seen f := by kernel_rfl
theorem Maturity_facts (r : Realm) (fo : Int) (f : File) (F : List Fact) (d : Int) : ask_Maturity r fo { f with facts := F } d = ask_Maturity r fo f d := by
  rw [Maturity_eq, Maturity_eq, At_facts2 f F d, Bill_facts, Seen_facts]
theorem Check_facts (r : Realm) (f : File) (F : List Fact) (j : Judgment) : recognize_Check r { f with facts := F } j = recognize_Check r f j := by
  have e : ∀ f, recognize_Check r f j = recognize_Check r f j := fun _ => rfl
  simp only [recognize_Check, recognize_Check_sk, Sk.val_r, Sk.val_br, Sk.val_bind, Sk.val_fin, Cal.dep_v, Cal.wh_v, Cal.depr_v, Cal.andl_v, Ctr.c_v, record_At_k, At_facts2 f F]
theorem Tri_le {a b : Said} (he : b.err = a.err) (hc : CellLe a.cell b.cell) (h : ask_Tri a ≠ 2) : ask_Tri b = ask_Tri a := by
  have e : ∀ s, ask_Tri s = bif s.err != 0 then 0 else bif !s.cell.known then 2 else bif s.cell.n != 0 then 1 else 0 := fun s => by kernel_rfl
  rw [e, e] at *
  rw [he]
  cases h1 : a.err != 0 with
  | true => rfl
  | false =>
    rw [h1] at h
    cases h2 : a.cell.known with
    | false => rw [h2] at h; exact absurd rfl h
    | true => rw [hc h2, h2]
theorem Recognized_eq (r : Realm) (fo : Int) (f : File) (j : Judgment) (d : Int) : recognize_Recognized r fo f j d = bif ((recognize_Check r f j != 0 || !(recognize_within fo (r.orders.length : Int))) || decide (d < j.day)) || decide (d > 100000) then 0 else bif fo == j.court then 1 else ask_Tri (ask_Ask r fo 19 ⟨f, j.sign, j.sign, -1, ask_Maturity r fo f d, d⟩) := by kernel_rfl
theorem At_known {f : File} {F : List Fact} (y : Int) (h : ∀ k a, CellLe (record_Fact f k a) (record_Fact { f with facts := F } k a)) : ∀ k a, CellLe (record_Fact (record_At f y) k a) (record_Fact (record_At { f with facts := F } y) k a) := by
  intro k a
  by_cases c : 0 ≤ a ∧ a < (record_At f y).signs.length
  · rw [Fact_At f y k a c, Fact_At { f with facts := F } y k a (by rw [At_facts2 f F]; exact c)]
    exact h k a
  · refine CellLe.unknown ?_
    rw [Fact_eq]
    rw [walk_silent _ _ (fun x hx s => ?_)]
    rw [record_At_eq] at hx c
    dsimp only at hx c
    have := (List.mem_filter.1 hx).2
    simp only [decide_eq_true_eq, decide_eq_false_iff_not, List.length_append, List.length_cons, List.length_nil, List.length_set, List.length_replicate, Bool.not_eq_true, Bool.not_eq_false, Int.not_lt, Int.not_le, Bool.and_eq_true, Bool.or_eq_true, Bool.and_eq_false_iff, Bool.or_eq_false_iff, Bool.not_eq_eq_eq_not, Bool.not_true, Bool.not_false, beq_iff_eq, bne_iff_ne, beq_eq_false_iff_ne, bne_eq_false_iff_eq, ne_eq, subL_length] at this
    unfold factStep
    have e : (x.at_ == a) = false := by
      simp only [decide_eq_true_eq, decide_eq_false_iff_not, List.length_append, List.length_cons, List.length_nil, List.length_set, List.length_replicate, Bool.not_eq_true, Bool.not_eq_false, Int.not_lt, Int.not_le, Bool.and_eq_true, Bool.or_eq_true, Bool.and_eq_false_iff, Bool.or_eq_false_iff, Bool.not_eq_eq_eq_not, Bool.not_true, Bool.not_false, beq_iff_eq, bne_iff_ne, beq_eq_false_iff_ne, bne_eq_false_iff_eq, ne_eq, subL_length]
      intro e
      subst e
      exact c ⟨this.1, this.2⟩
    rw [e, Bool.and_false, cond_false]
theorem Recognized_mono (r : Realm) (fo : Int) {f : File} {F : List Fact} (j : Judgment) (d : Int) (h : ∀ k a, CellLe (record_Fact f k a) (record_Fact { f with facts := F } k a)) (h2 : recognize_Recognized r fo f j d ≠ 2) :
    recognize_Recognized r fo { f with facts := F } j d = recognize_Recognized r fo f j d := by
  rw [Recognized_eq] at h2
  rw [Recognized_eq, Recognized_eq, Check_facts, Maturity_facts]
  cases hc : (((recognize_Check r f j != 0 || !(recognize_within fo (r.orders.length : Int))) || decide (d < j.day)) || decide (d > 100000)) with
  | true => rw [cond_true, cond_true]
  | false =>
    rw [hc, cond_false] at h2
    rw [cond_false, cond_false]
    cases hj : fo == j.court with
    | true => rw [cond_true, cond_true]
    | false =>
      rw [hj, cond_false] at h2
      rw [cond_false, cond_false]
      have hm := Ask_mono r fo 19 f F j.sign j.sign (-1) (ask_Maturity r fo f d) d (At_known d h)
      exact Tri_le hm.1 hm.2 h2
theorem Received_facts (r : Realm) (f : File) (F : List Fact) (j : Judgment) (l : List Receipt) (d : Int) : recognize_Received r { f with facts := F } j l d = recognize_Received r f j l d := by
  rw [Received_eq, Received_eq, Check_facts]
  have : recv r { f with facts := F } j d l = recv r f j d l := by unfold recv; rfl
  rw [this]
theorem bounded_facts {r : Realm} {f : File} (h : allongelaw47_bounded r f = true) : f.facts.length ≤ 220 := by
  have h1 : allongeref21_Few r f = true := by
    cases e : allongeref21_Few r f with
    | true => rfl
    | false =>
      simp only [allongelaw47_bounded, allongelaw47_bounded_sk, Sk.val_r, Sk.val_br, Sk.val_fin, Cal.dep_v, Cal.wh_v, Ctr.c_v, allongeref21_Few_k, e, Bool.false_and] at h
      exact absurd h (by decide)
  have h2 : allongeref14_Few f = true := by
    cases e : allongeref14_Few f with
    | true => rfl
    | false =>
      simp only [allongeref21_Few, allongeref21_Few_sk, Sk.val_bind, Sk.val_r, Sk.val_br, Sk.val_fin, Cal.dep_v, Cal.wh_v, Ctr.c_v, allongeref14_Few_k, e, Bool.not_false, Bool.or_true, cond_true] at h1
      exact absurd h1 (by decide)
  simp only [allongeref14_Few, allongeref14_Few_sk, Sk.val_r, Sk.val_fin, decide_eq_true_eq, decide_eq_false_iff_not, List.length_append, List.length_cons, List.length_nil, List.length_set, List.length_replicate, Bool.not_eq_true, Bool.not_eq_false, Int.not_lt, Int.not_le, Bool.and_eq_true, Bool.or_eq_true, Bool.and_eq_false_iff, Bool.or_eq_false_iff, Bool.not_eq_eq_eq_not, Bool.not_true, Bool.not_false, beq_iff_eq, bne_iff_ne, beq_eq_false_iff_ne, bne_eq_false_iff_eq, ne_eq, subL_length] at h2
  omega
theorem iter_inl {γ δ ι : Type} {f : ι → (γ ⊕ δ) ⊕ ι} {d : γ ⊕ δ} (hf : ∀ i a, f i ≠ .inl (.inl a)) : ∀ (n : Nat) (i : ι) (a : γ), iter f d n i = .inl a → d = .inl a
  | 0, i, a, h => h
  | n + 1, i, a, h => by
    unfold iter at h
    cases e : f i with
    | inl b =>
      rw [e] at h
      have : b = .inl a := h
      subst this
      exact absurd e (hf i a)
    | inr i' =>
      rw [e] at h
      exact iter_inl hf n i' a h
theorem Convert_err {rates : List RateX} {s a b d : Int} : (money_Convert rates s a b d).2 ≠ 17 := by
  have h : ∀ {c : Bool} {x y : Int × Int}, x.2 ≠ 17 → y.2 ≠ 17 → (bif c then x else y).2 ≠ 17 := fun {c x y} hx hy => by cases c <;> assumption
  have hp : ∀ {β : Type} (x : (Int × Int) ⊕ β) (k : β → Int × Int), (∀ a, x = .inl a → a.2 ≠ 17) → (∀ b, (k b).2 ≠ 17) → (pickS x k).2 ≠ 17 := fun x k h1 h2 => by
    cases x with
    | inl a => exact h1 a rfl
    | inr b => exact h2 b
  unfold money_Convert money_Convert_sk
  simp only [Sk.val_bind, Sk.val_loop, Sk.val_bnd, Sk.val_br, Sk.val_r, Sk.val_wi, Sk.val_fin, Cal.dep_v, Cal.wh_v, Ctr.c_v]
  refine hp _ _ (fun a ha => ?_) (fun b => h (by decide) (h (by simp) (hp _ _ (fun a ha => ?_) (fun b => h (by decide) (h (by decide) (by simp))))))
  · have := iter_inl (fun i a => ?_) _ _ _ ha
    · have : a = default := (Sum.inl.inj this).symm
      subst this
      exact (by decide)
    · cases decide ((i.2 : Int) < (rates.length : Int)) <;> intro h <;> cases h
  · exfalso
    revert ha
    cases (!(money_latest_k rates _ _ d).v.2) <;> intro ha <;> cases ha
theorem walk_ends {α σ β : Type} {step : α → σ → β ⊕ σ} {fin : σ → β} {Q : β → Prop} (hf : ∀ s, Q (fin s)) : ∀ (l : List α), (∀ x s b, x ∈ l → step x s = .inl b → Q b) → ∀ s, Q (walk step fin l s)
  | [], _, s => hf s
  | x :: r, h, s => by
    unfold walk
    cases e : step x s with
    | inl b => exact h x s b (by simp) e
    | inr s' => exact walk_ends hf r (fun y t b hy => h y t b (by simp [hy])) s'
theorem Received_err17 (r : Realm) (f : File) (j : Judgment) (l : List Receipt) (d : Int) : (recognize_Received r f j l d).2 ≠ 17 := by
  have h : ∀ {c : Bool} {x y : Int × Int}, x.2 ≠ 17 → y.2 ≠ 17 → (bif c then x else y).2 ≠ 17 := fun {c x y} hx hy => by cases c <;> assumption
  rw [Received_eq]
  refine h (by simp) (h (by simp) (h (by simp) ?_))
  unfold recv
  refine walk_ends (Q := fun p : Int × Int => p.2 ≠ 17) (fun s => by simp) l (fun x s b _ e => ?_) 0
  unfold rStep at e
  cases h1 : (((x.bill != j.bill) || (x.to_ != j.creditor)) || decide (x.day > d)) with
  | true => rw [h1] at e; cases e
  | false =>
    rw [h1, cond_false] at e
    cases h2 : (money_Convert r.rates x.sum x.currency f.bill.currency x.day).2 != 0 with
    | true =>
      rw [h2, cond_true] at e
      have := Sum.inl.inj e
      subst this
      exact Convert_err
    | false => rw [h2, cond_false] at e; cases e
noncomputable def restF (v w : Int × Int) (c1 : Bool) (a : Int) : Int × Int := bif v.2 != 0 then (0, v.2) else bif c1 then (0, 1) else bif a == 0 then (0, 4) else bif a == 2 then (0, 17) else bif w.2 != 0 then (0, w.2) else (maxI (w64 (w.1 - v.1)) 0, 0)
theorem restF_mono (v w : Int × Int) (c1 : Bool) (a b : Int) (hm : a ≠ 2 → b = a) (hr : v.2 ≠ 17) (hc : w.2 ≠ 17) : (a ≠ 2 → restF v w c1 b = restF v w c1 a) ∧ ((restF v w c1 a).2 ≠ 17 → restF v w c1 b = restF v w c1 a) ∧ ((restF v w c1 a).2 = 17 → a = 2) := by
  unfold restF
  cases v.2 != 0 with
  | true => exact ⟨fun _ => rfl, fun _ => rfl, fun h => absurd h hr⟩
  | false =>
    simp only [cond_false]
    cases c1 with
    | true => exact ⟨fun _ => rfl, fun _ => rfl, fun h => absurd (show (1 : Int) = 17 from h) (by decide)⟩
    | false =>
      simp only [cond_false]
      by_cases e2 : a = 2
      · subst e2
        refine ⟨fun h => absurd rfl h, fun h => absurd rfl h, fun _ => rfl⟩
      · rw [hm e2]
        refine ⟨fun _ => rfl, fun _ => rfl, fun h => ?_⟩
        exfalso
        have e3 : (a == 2) = false := by simpa using e2
        rw [e3] at h
        cases h4 : a == 0 with
        | true => rw [h4] at h; exact absurd (show (4 : Int) = 17 from h) (by decide)
        | false =>
          rw [h4] at h
          simp only [cond_false] at h
          cases h5 : w.2 != 0 with
          | true => rw [h5] at h; exact hc h
          | false => rw [h5] at h; exact absurd (show (0 : Int) = 17 from h) (by decide)
theorem Rest_eqF (r : Realm) (fo : Int) (f : File) (j : Judgment) (l : List Receipt) (d : Int) : recognize_Rest r fo f j l d = restF (recognize_Received r f j l d) (money_Convert r.rates j.sum j.currency f.bill.currency j.day) ((!(recognize_within fo r.orders.length)) || decide (d < j.day)) (recognize_Recognized r fo f j d) := by
  rw [Rest_eq]; unfold restF; with_reducible rfl
/-- what is left, when facts are added -/
theorem Rest_mono (r : Realm) (fo : Int) {f : File} {F : List Fact} (j : Judgment) (l : List Receipt) (d : Int) (h : ∀ k a, CellLe (record_Fact f k a) (record_Fact { f with facts := F } k a)) :
    (recognize_Recognized r fo f j d ≠ 2 → recognize_Rest r fo { f with facts := F } j l d = recognize_Rest r fo f j l d) ∧
    ((recognize_Rest r fo f j l d).2 ≠ 17 → recognize_Rest r fo { f with facts := F } j l d = recognize_Rest r fo f j l d) ∧
    ((recognize_Rest r fo f j l d).2 = 17 → recognize_Recognized r fo f j d = 2) := by
  rw [Rest_eqF, Rest_eqF, Received_facts]
  exact restF_mono _ _ _ _ _ (fun h2 => Recognized_mono r fo j d h h2) (Received_err17 r f j l d) Convert_err
theorem Recognized_own {r : Realm} {f : File} {j : Judgment} {d : Int} (hc : recognize_Check r f j = 0) (h1 : j.day ≤ d) (h2 : d ≤ 100000) (hj : 0 ≤ j.court ∧ j.court < (r.orders.length : Int)) : recognize_Recognized r j.court f j d = 1 := by
  rw [Recognized_eq, hc]
  have e : recognize_within j.court (r.orders.length : Int) = true := by rw [recognize_within_eq]; simp; omega
  rw [e, decide_eq_false (by omega), decide_eq_false (by omega)]
  simp
/-- a file with facts added -/
def Adds (f g : File) : Prop := ∃ F, g = { f with facts := F } ∧ ∀ k a, CellLe (record_Fact f k a) (record_Fact { f with facts := F } k a)
theorem Adds.refl (f : File) : Adds f f := ⟨f.facts, rfl, fun _ _ => CellLe.rfl' _⟩
theorem CellLe.trans' {a b c : CellX} (h : CellLe a b) (h2 : CellLe b c) : CellLe a c := fun hk => by
  have e := h hk
  rw [h2 (by rw [e]; exact hk), e]
theorem With_facts (f : File) (x : Fact) : ∃ F, allongeref14_With f x = { f with facts := F } := by
  rw [With_eq]
  cases (record_Fact f x.kind x.at_).known with
  | true => exact ⟨f.facts, rfl⟩
  | false => exact ⟨_, rfl⟩
theorem filter_two {x : Fact} : ∀ (l : List Fact), (l.filter (factLt x)).length + (l.filter (factGt x)).length ≤ l.length
  | [] => by simp
  | y :: l => by
    have ih := filter_two (x := x) l
    have hd : factLt x y = true → factGt x y = true → False := by
      unfold factLt factGt
      simp only [decide_eq_true_eq, decide_eq_false_iff_not, List.length_append, List.length_cons, List.length_nil, List.length_set, List.length_replicate, Bool.not_eq_true, Bool.not_eq_false, Int.not_lt, Int.not_le, Bool.and_eq_true, Bool.or_eq_true, Bool.and_eq_false_iff, Bool.or_eq_false_iff, Bool.not_eq_eq_eq_not, Bool.not_true, Bool.not_false, beq_iff_eq, bne_iff_ne, beq_eq_false_iff_ne, bne_eq_false_iff_eq, ne_eq, subL_length]
      omega
    simp only [List.filter_cons]
    split <;> split <;> simp only [List.length_cons] <;> first | omega | (exfalso; apply hd <;> assumption)
theorem With_len (f : File) (x : Fact) : (allongeref14_With f x).facts.length ≤ f.facts.length + 1 := by
  rw [With_eq]
  cases (record_Fact f x.kind x.at_).known with
  | true => exact Nat.le_succ _
  | false =>
    have := filter_two (x := x) f.facts
    simp only [cond_false, List.length_append, List.length_cons, List.length_nil]
    omega
theorem Adds.step {f g : File} (h : Adds f g) (x : Fact) : Adds f (allongeref14_With g x) := by
  obtain ⟨F, rfl, hF⟩ := h
  obtain ⟨G, hG⟩ := With_facts { f with facts := F } x
  refine ⟨G, hG, fun k a => (hF k a).trans' ?_⟩
  have := With_known { f with facts := F } x k a
  rw [hG] at this
  exact this
theorem Check_court {r : Realm} {f : File} {j : Judgment} (h : recognize_Check r f j = 0) : 0 ≤ j.court ∧ j.court < (r.orders.length : Int) := by
  have hc : recognize_Check r f j = (bif (((!((((((recognize_within j.court r.orders.length && recognize_within j.bill 50) && recognize_within j.sum 1099511627777) && recognize_within j.currency r.currencies.length) && recognize_within j.day 100001) && recognize_within j.creditor r.firms.length) && (j.creditor != j.debtor))) || (!recognize_within j.sign (record_At f j.day).signs.length)) || ((((record_At f j.day).signs.getD j.sign.toNat default).who) != j.debtor)) then 1 else 0) := by kernel_rfl
  rw [h] at hc
  cases hb : (((!((((((recognize_within j.court r.orders.length && recognize_within j.bill 50) && recognize_within j.sum 1099511627777) && recognize_within j.currency r.currencies.length) && recognize_within j.day 100001) && recognize_within j.creditor r.firms.length) && (j.creditor != j.debtor))) || (!recognize_within j.sign (record_At f j.day).signs.length)) || ((((record_At f j.day).signs.getD j.sign.toNat default).who) != j.debtor)) with
  | true => rw [hb] at hc; exact absurd (show (0 : Int) = 1 from hc) (by decide)
  | false =>
    simp only [decide_eq_true_eq, decide_eq_false_iff_not, List.length_append, List.length_cons, List.length_nil, List.length_set, List.length_replicate, Bool.not_eq_true, Bool.not_eq_false, Int.not_lt, Int.not_le, Bool.and_eq_true, Bool.or_eq_true, Bool.and_eq_false_iff, Bool.or_eq_false_iff, Bool.not_eq_eq_eq_not, Bool.not_true, Bool.not_false, beq_iff_eq, bne_iff_ne, beq_eq_false_iff_ne, bne_eq_false_iff_eq, ne_eq, subL_length, recognize_within_eq] at hb
    exact ⟨hb.1.1.1.1.1.1.1.1.1, hb.1.1.1.1.1.1.1.1.2⟩
theorem Recognized_bad {r : Realm} {fo : Int} {f : File} {j : Judgment} {d : Int} (h : recognize_Check r f j ≠ 0 ∨ d < j.day ∨ 100000 < d) : recognize_Recognized r fo f j d = 0 := by
  rw [Recognized_eq]
  have : (((recognize_Check r f j != 0 || !(recognize_within fo (r.orders.length : Int))) || decide (d < j.day)) || decide (d > 100000)) = true := by
    simp only [decide_eq_true_eq, decide_eq_false_iff_not, List.length_append, List.length_cons, List.length_nil, List.length_set, List.length_replicate, Bool.not_eq_true, Bool.not_eq_false, Int.not_lt, Int.not_le, Bool.and_eq_true, Bool.or_eq_true, Bool.and_eq_false_iff, Bool.or_eq_false_iff, Bool.not_eq_eq_eq_not, Bool.not_true, Bool.not_false, beq_iff_eq, bne_iff_ne, beq_eq_false_iff_ne, bne_eq_false_iff_eq, ne_eq, subL_length]
    omega
  rw [this]; rfl
noncomputable def allongelaw47_RecognizeKnows_sk (r : Realm) (forum : Int) (f : File) (j : Judgment) (l : List Receipt) (day : Int) (more : List Fact) : Sk (Bool) :=
 .r 1 allongelaw47_sane_k.c fun x1 =>
 .r 2 ((allongelaw47_bounded_k r f).c) fun x2 =>
 .br (((!x2) || (decide (((l.length : Nat) : Int) > 100))) || (decide (((more.length : Nat) : Int) > 20)))
 (.fin x1)
 (.bind true (fun b3 => Adds f b3 ∧ b3.facts.length ≤ f.facts.length + more.length)
 (.loop (default : Sum (Bool) (File)) (fun i4 => i4.1 ≤ more.length ∧ Adds f i4.2 ∧ i4.2.facts.length ≤ f.facts.length + i4.1) (fun i4 => more.length - i4.1) ((0, f) : Nat × File)
 (fun (i4 : Nat × File) => ⟨[(17, iv ((i4.1 : Nat) : Int))], [(16, .box (i4.2.cells.map .d))]⟩) fun i4 =>
 .bnd 6 0 more.length <|
 .br (decide (((i4.1 : Nat) : Int) < ((more.length : Nat) : Int)))
 (.r 8 (.p (ixP ((i4.1 : Nat) : Int) more.length)) fun _ =>
 .br ((((((decide (((more.getD i4.1 default).kind) ≥ 0)) && (decide (((more.getD i4.1 default).kind) < 5))) && (decide (((more.getD i4.1 default).at_) ≥ 0))) && (decide (((more.getD i4.1 default).at_) < ((f.signs.length : Nat) : Int)))) && (decide (((more.getD i4.1 default).n) ≥ 0))) && (decide (((more.getD i4.1 default).n) ≤ 1)))
 (.r 10 ((allongeref14_With_k i4.2 (more.getD i4.1 default)).c) fun x5 =>
 .r 7 .z fun _ =>
 .wi 17 (w64 (((i4.1 : Nat) : Int) + 1)) ((i4.1 + 1 : Nat) : Int) <|
 .fin (.inr (i4.1 + 1, x5)))
 (.r 7 .z fun _ =>
 .wi 17 (w64 (((i4.1 : Nat) : Int) + 1)) ((i4.1 + 1 : Nat) : Int) <|
 .fin (.inr (i4.1 + 1, i4.2))))
 (.fin (.inl (.inr i4.2))))
 (fun (b3 : File) => ⟨[], [(16, .box (b3.cells.map .d))]⟩) fun b3 =>
 .r 11 ((recognize_Recognized_k r forum f j day).c) fun x6 =>
 .r 12 ((recognize_Recognized_k r forum b3 j day).c) fun x7 =>
 .r 13 ((recognize_Rest_k r forum f j l day).c) fun x8 =>
 .r 14 ((recognize_Rest_k r forum b3 j l day).c) fun x9 =>
 .br ((((x6 != 2) && (x6 != x7)) || ((x8.2 != 17) && ((x8.1 != x9.1) || (x8.2 != x9.2)))) || ((x8.2 == 17) && (x6 != 2)))
 (.fin false)
 (.r 17 ((recognize_Check_k r f j).c) fun x10 =>
 .br (((x10 != 0) || (decide (day < j.day))) || (decide (day > 100000)))
 (.fin (x1 && (x6 == 0)))
 (.r 19 (.wh x1 true ((recognize_Recognized_k r j.court f j day).c)) fun x11 =>
 .fin (x1 && (x11 == 1)))))
noncomputable def allongelaw47_RecognizeKnows (r : Realm) (forum : Int) (f : File) (j : Judgment) (l : List Receipt) (day : Int) (more : List Fact) : Bool := (allongelaw47_RecognizeKnows_sk r forum f j l day more).val
theorem allongelaw47_RecognizeKnows_pst (r : Realm) (forum : Int) (f : File) (j : Judgment) (l : List Receipt) (day : Int) (more : List Fact) : (allongelaw47_RecognizeKnows_sk r forum f j l day more).pst (fun (x : Bool) => x = true) := by
  refine Sk.pst_of _ ?_
  unfold allongelaw47_RecognizeKnows_sk
  simp only [Sk.pstq, Sk.isLoop, reduceCtorEq, leafB, leafJ, Cal.z, Cal.p, Cal.t, Cal.pt, Cal.o, Cal.and, Cal.andl, Cal.andr, Cal.wh, Cal.dep, Cal.depr, Ctr.c, Ctr.nil, Ctr.nilc, CtrO.c, CtrO.nil, allongelaw47_bounded_k, allongelaw47_sane_k, allongeref14_With_k, recognize_Check_k, recognize_Recognized_k, recognize_Rest_k, File.Small, Realm.Small, Realm.ByOK, maxLen, implies_true, true_and, and_true, and_self, true_implies, false_implies, ixP, szP, mkP]
  intro x _ hxt x1 _ hb
  refine ⟨fun _ => hxt, fun hc => ⟨⟨⟨Nat.zero_le _, Adds.refl f, by omega⟩, fun i hi => ⟨fun hl _ => ⟨fun _ y hy _ => ?_, fun _ _ => ?_⟩, fun _ => ⟨hi.2.1, by omega⟩⟩⟩, fun g hg a ha b hb2 u hu v hv => ?_⟩⟩
  · simp only [decide_eq_true_eq, decide_eq_false_iff_not, List.length_append, List.length_cons, List.length_nil, List.length_set, List.length_replicate, Bool.not_eq_true, Bool.not_eq_false, Int.not_lt, Int.not_le, Bool.and_eq_true, Bool.or_eq_true, Bool.and_eq_false_iff, Bool.or_eq_false_iff, Bool.not_eq_eq_eq_not, Bool.not_true, Bool.not_false, beq_iff_eq, bne_iff_ne, beq_eq_false_iff_ne, bne_eq_false_iff_eq, ne_eq, subL_length] at hl
    subst hy
    have := With_len i.2 (more.getD i.1 default)
    exact ⟨⟨by omega, hi.2.1.step _, by omega⟩, by omega⟩
  · simp only [decide_eq_true_eq, decide_eq_false_iff_not, List.length_append, List.length_cons, List.length_nil, List.length_set, List.length_replicate, Bool.not_eq_true, Bool.not_eq_false, Int.not_lt, Int.not_le, Bool.and_eq_true, Bool.or_eq_true, Bool.and_eq_false_iff, Bool.or_eq_false_iff, Bool.not_eq_eq_eq_not, Bool.not_true, Bool.not_false, beq_iff_eq, bne_iff_ne, beq_eq_false_iff_ne, bne_eq_false_iff_eq, ne_eq, subL_length] at hl
    exact ⟨⟨by omega, hi.2.1, by omega⟩, by omega⟩
  · obtain ⟨⟨F, rfl, hF⟩, -⟩ := hg
    have hm := Rest_mono r forum j l day hF
    have hr := fun h => Recognized_mono r forum j day hF h
    rw [← ha] at hr hm
    rw [← hb2] at hr
    rw [← hu, ← hv] at hm
    refine ⟨fun h => ?_, fun h w hw => ⟨fun h2 => ?_, fun h2 z hz => ?_⟩⟩
    · simp only [decide_eq_true_eq, decide_eq_false_iff_not, List.length_append, List.length_cons, List.length_nil, List.length_set, List.length_replicate, Bool.not_eq_true, Bool.not_eq_false, Int.not_lt, Int.not_le, Bool.and_eq_true, Bool.or_eq_true, Bool.and_eq_false_iff, Bool.or_eq_false_iff, Bool.not_eq_eq_eq_not, Bool.not_true, Bool.not_false, beq_iff_eq, bne_iff_ne, beq_eq_false_iff_ne, bne_eq_false_iff_eq, ne_eq, subL_length] at h
      rcases h with (h | h) | h
      · exact h.2 (hr h.1).symm
      · rw [hm.2.1 h.1] at h
        rcases h.2 with h | h <;> exact h rfl
      · exact h.2 (hm.2.2 h.1)
    · subst hxt
      simp only [decide_eq_true_eq, decide_eq_false_iff_not, List.length_append, List.length_cons, List.length_nil, List.length_set, List.length_replicate, Bool.not_eq_true, Bool.not_eq_false, Int.not_lt, Int.not_le, Bool.and_eq_true, Bool.or_eq_true, Bool.and_eq_false_iff, Bool.or_eq_false_iff, Bool.not_eq_eq_eq_not, Bool.not_true, Bool.not_false, beq_iff_eq, bne_iff_ne, beq_eq_false_iff_ne, bne_eq_false_iff_eq, ne_eq, subL_length] at h2
      rw [ha, Recognized_bad (by rw [← hw]; omega)]
      rfl
    · subst hxt
      simp only [decide_eq_true_eq, decide_eq_false_iff_not, List.length_append, List.length_cons, List.length_nil, List.length_set, List.length_replicate, Bool.not_eq_true, Bool.not_eq_false, Int.not_lt, Int.not_le, Bool.and_eq_true, Bool.or_eq_true, Bool.and_eq_false_iff, Bool.or_eq_false_iff, Bool.not_eq_eq_eq_not, Bool.not_true, Bool.not_false, beq_iff_eq, bne_iff_ne, beq_eq_false_iff_ne, bne_eq_false_iff_eq, ne_eq, subL_length] at h2
      have hck : recognize_Check r f j = 0 := by rw [← hw]; exact h2.1.1
      rw [hz, Recognized_own hck (by omega) (by omega) (Check_court hck)]
      rfl

theorem allongelaw47_RecognizeKnows_post (r : Realm) (forum : Int) (f : File) (j : Judgment) (l : List Receipt) (day : Int) (more : List Fact) : (fun (x : Bool) => x = true) (allongelaw47_RecognizeKnows r forum f j l day more) := Sk.pval _ (allongelaw47_RecognizeKnows_pst r forum f j l day more)
theorem allongelaw47_RecognizeKnows_ok (r : Realm) (forum : Int) (f : File) (j : Judgment) (l : List Receipt) (day : Int) (more : List Fact) : (allongelaw47_RecognizeKnows_sk r forum f j l day more).obs (fun _ => True) := by
  refine Sk.obs_of _ ?_
  unfold allongelaw47_RecognizeKnows_sk
  simp only [Sk.obq, Sk.isLoop, reduceCtorEq, leafB, leafJ, Cal.z, Cal.p, Cal.t, Cal.pt, Cal.o, Cal.and, Cal.andl, Cal.andr, Cal.wh, Cal.dep, Cal.depr, Ctr.c, Ctr.nil, Ctr.nilc, CtrO.c, CtrO.nil, allongelaw47_bounded_k, allongelaw47_sane_k, allongeref14_With_k, recognize_Check_k, recognize_Recognized_k, recognize_Rest_k, File.Small, Realm.Small, Realm.ByOK, maxLen, implies_true, true_and, and_true, and_self, true_implies, false_implies, ixP, szP, mkP]
  intro x _ hxt x1 hx1 hb hc
  simp only [decide_eq_true_eq, decide_eq_false_iff_not, List.length_append, List.length_cons, List.length_nil, List.length_set, List.length_replicate, Bool.not_eq_true, Bool.not_eq_false, Int.not_lt, Int.not_le, Bool.and_eq_true, Bool.or_eq_true, Bool.and_eq_false_iff, Bool.or_eq_false_iff, Bool.not_eq_eq_eq_not, Bool.not_true, Bool.not_false, beq_iff_eq, bne_iff_ne, beq_eq_false_iff_ne, bne_eq_false_iff_eq, ne_eq, subL_length] at hc
  have hb1 := hc.1.1
  obtain ⟨hSr, hSf, hBy, -⟩ := hb hb1
  rw [hb1] at hx1
  have hfc := bounded_facts hx1.symm
  refine ⟨⟨⟨Nat.zero_le _, Adds.refl f, by omega⟩, fun i hi hm => ⟨fun hl => ⟨by simp only [decide_eq_true_eq, decide_eq_false_iff_not, List.length_append, List.length_cons, List.length_nil, List.length_set, List.length_replicate, Bool.not_eq_true, Bool.not_eq_false, Int.not_lt, Int.not_le, Bool.and_eq_true, Bool.or_eq_true, Bool.and_eq_false_iff, Bool.or_eq_false_iff, Bool.not_eq_eq_eq_not, Bool.not_true, Bool.not_false, beq_iff_eq, bne_iff_ne, beq_eq_false_iff_ne, bne_eq_false_iff_eq, ne_eq, subL_length] at hl; omega, fun _ => ⟨fun _ => ⟨by omega, fun y hy _ => ⟨?_, ?_⟩⟩, fun _ _ => ⟨?_, ?_⟩⟩⟩, fun _ => ⟨hi.2.1, by simp only [decide_eq_true_eq, decide_eq_false_iff_not, List.length_append, List.length_cons, List.length_nil, List.length_set, List.length_replicate, Bool.not_eq_true, Bool.not_eq_false, Int.not_lt, Int.not_le, Bool.and_eq_true, Bool.or_eq_true, Bool.and_eq_false_iff, Bool.or_eq_false_iff, Bool.not_eq_eq_eq_not, Bool.not_true, Bool.not_false, beq_iff_eq, bne_iff_ne, beq_eq_false_iff_ne, bne_eq_false_iff_eq, ne_eq, subL_length] at *; omega⟩⟩⟩, fun g hg => ?_⟩
  all_goals (try simp only [decide_eq_true_eq, decide_eq_false_iff_not, List.length_append, List.length_cons, List.length_nil, List.length_set, List.length_replicate, Bool.not_eq_true, Bool.not_eq_false, Int.not_lt, Int.not_le, Bool.and_eq_true, Bool.or_eq_true, Bool.and_eq_false_iff, Bool.or_eq_false_iff, Bool.not_eq_eq_eq_not, Bool.not_true, Bool.not_false, beq_iff_eq, bne_iff_ne, beq_eq_false_iff_ne, bne_eq_false_iff_eq, ne_eq, subL_length] at hl)
  · exact w64_id (by omega) (by omega)
  · subst hy
    have := With_len i.2 (more.getD i.1 default)
    exact ⟨⟨by omega, hi.2.1.step _, by omega⟩, by omega⟩
  · exact w64_id (by omega) (by omega)
  · exact ⟨⟨by omega, hi.2.1, by omega⟩, by omega⟩
  · have hSg : g.signs.length ≤ 1000000 ∧ g.alters.length ≤ 1000000 ∧ g.acts.length ≤ 1000000 ∧ g.facts.length ≤ 1000000 := by
      obtain ⟨⟨F, rfl, -⟩, hl⟩ := hg
      refine ⟨hSf.1, hSf.2.1, hSf.2.2.1, ?_⟩
      simp only at hl ⊢
      omega
    repeat' first | exact hSf | exact hSg | exact hBy | exact hSr | omega | (apply And.intro) | intro _

theorem allongelaw47_RecognizeKnows_fn (r : Realm) (forum : Int) (f : File) (j : Judgment) (l : List Receipt) (day : Int) (more : List Fact) : FnA Tryz.prog 7 [av r.cells, iv forum, av f.cells, av j.cells, lv Receipt.cells l, iv day, lv Fact.cells more] [] (bv (allongelaw47_RecognizeKnows r forum f j l day more)) [] :=
  FnA.sk tok mixed (fun x => bv x) (fun _ => []) Tryz.func7 rfl (by kernel_rfl) 3000 (allongelaw47_RecognizeKnows_sk r forum f j l day more) (by kernel_rfl) (allongelaw47_RecognizeKnows_ok r forum f j l day more)
noncomputable def allongelaw47_RecognizeKnows_k (r : Realm) (forum : Int) (f : File) (j : Judgment) (l : List Receipt) (day : Int) (more : List Fact) : Ctr (Bool) := ⟨Tryz.prog, 7, [av r.cells, iv forum, av f.cells, av j.cells, lv Receipt.cells l, iv day, lv Fact.cells more], fun x => bv x, true, allongelaw47_RecognizeKnows r forum f j l day more, True, fun _ => allongelaw47_RecognizeKnows_fn r forum f j l day more, fun (x : Bool) => x = true, allongelaw47_RecognizeKnows_post r forum f j l day more⟩
end Go.Proofs.YtggilgghigileaaGreatDoor
