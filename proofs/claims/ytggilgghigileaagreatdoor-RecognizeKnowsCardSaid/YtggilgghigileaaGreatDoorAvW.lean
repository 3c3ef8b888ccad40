/- Weaker contracts, nil tests, own rows that turn into data. -/
import Derived.Test.YtggilgghigileaaGreatDoorAvV
import Derived.Lib.SliceRun
namespace Go.Av
open Go
set_option linter.unusedSectionVars false
variable [Globs]

def AvLeL : List AV → List AV → Prop
  | [], [] => True
  | x :: r, y :: s => AvLe x y ∧ AvLeL r s
  | _, _ => False

theorem AvLeL.rel {w : World} {S : Nat → Prop} {μ : Mu} {ν : Nat → Bool} : ∀ {l l' : List AV} {vs : List Value}, AvLeL l l' → RelL w S μ ν l vs → RelL w S μ ν l' vs
  | [], [], _, _, h => h
  | x :: r, y :: s, vs, h, hr => by
    obtain ⟨h1, h2⟩ := h
    cases vs with
    | nil => exact absurd hr.1 (by simp)
    | cons v vs =>
      have ht : RelL w S μ ν r vs := ⟨by simpa using hr.1, fun i hi => by simpa using hr.2 (i + 1) (by simpa using hi)⟩
      have := AvLeL.rel h2 ht
      refine ⟨by simpa using this.1, fun i hi => ?_⟩
      cases i with
      | zero => exact h1 _ _ _ _ _ (by simpa using hr.2 0 (by simp))
      | succ i => simpa using this.2 i (by simpa using hi)
  | [], _ :: _, _, h, _ => h.elim
  | _ :: _, [], _, h, _ => h.elim

theorem FnA.argLe {P : Program} {f : FuncId} {args args' : List AV} {lbs lbs' : List (Nat × Blk)} {res : AV} (h : FnA P f args' lbs res lbs') (hle : AvLeL args args') : FnA P f args lbs res lbs' :=
  ⟨h.1, fun w S μ vs h1 hg h2 h3 h4 => h.2 w S μ vs h1 hg (fun ν => hle.rel (h2 ν)) h3 h4⟩

theorem row_cat0 {α : Type} [Inhabited α] (cells : α → List D) (M : List α) (k : Nat) (ds : List D) :
    (0 + M.length = M.length) ∧ ∀ i, i < 0 + M.length → (if i < 0 then rowF k 0 ds i else cells (M.getD (i - 0) default)) = cells (M.getD i default) :=
  ⟨Nat.zero_add _, fun i hi => by simp⟩

theorem row_catnil {α : Type} [Inhabited α] (cells : α → List D) (M : List α) :
    (0 + M.length = M.length) ∧ ∀ i, i < 0 + M.length → (if i < 0 then [] else cells (M.getD (i - 0) default)) = cells (M.getD i default) :=
  ⟨Nat.zero_add _, fun i hi => by simp⟩

/-- is a slice nil? -/
theorem G.isNil {g : Goal} {k : List Item} {st : St} (hT : TOk g.P g.T) {id : Nat} {t s d ty e yt : Nat} {t1 t2 : TypeId} {p1 p2 : String} {e1 e2 : Array Edge} {n : Nat} {f : Nat → List D}
    (hty : g.P.underlying ty = some (.slice e)) (hget : St.get st.sl t = .d (.sl n f)) (hs : s < g.nt) (hd : d < g.nt)
    (hg : ∀ b : Bool, (b = true → n = 0) → G g k ⟨(d, .d (.v (.bool b))) :: delKeys [d, s] st.sl, st.lb⟩) :
    G g (.code (.region id #[⟨some s, .move (.tmp t), t1, p1, e1, none⟩, ⟨some d, .binOp .eql ty (.tmp s) (.const (.slice none 0 0)) yt, t2, p2, e2, none⟩] false) :: k) st := by
  intro C h1 h2 a w hsim b cs hb1 hb2
  obtain ⟨S, μ, hsim⟩ := hsim
  obtain ⟨v, hv⟩ : ∃ v, a.tmps.getD t undef = v := ⟨_, rfl⟩
  have hr := (hsim fun _ => false).slots t
  simp only [St.toM, hget, hv] at hr
  obtain ⟨ad, cap, rfl, hn⟩ : ∃ ad cap, v = .slice ad n cap ∧ (ad.isNone = true → n = 0) := by
    cases rel_d.1 hr with
    | nil => exact ⟨none, 0, rfl, fun _ => rfl⟩
    | sl _ _ ad cap => exact ⟨some ad, cap, rfl, fun h => by cases h⟩
  have hw : (Code.region id #[⟨some s, .move (.tmp t), t1, p1, e1, none⟩, ⟨some d, .binOp .eql ty (.tmp s) (.const (.slice none 0 0)) yt, t2, p2, e2, none⟩] false).wp C.P (fun e a' w' => e = .normal ∧ SimB C ⟨(d, .d (.v (.bool ad.isNone))) :: delKeys [d, s] st.sl, st.lb⟩ a' w') a w := by
    refine wp_region ?_
    have hss : s < a.tmps.size := by rw [(hsim fun _ => false).tmps, h2]; exact hs
    have ev : a.eval (.tmp t) = .slice ad n cap := hv
    have ev2 : (a.put (some s) (.slice ad n cap)).eval (.tmp s) = .slice ad n cap := by simp [Act.put, Act.eval, hss]
    have ev3 : (a.put (some s) (.slice ad n cap)).eval (.const (.slice none 0 0)) = .slice none 0 0 := rfl
    have rb : (binOp .eql ty (.slice ad n cap) (.slice none 0 0)).run C.P w = .ok (.bool ad.isNone) w := Lib.run_eql_slice_nil w ty e ad n cap 0 0 (by rw [h1]; exact hty)
    have hsA : ∀ ν, Sim C (St.toM ⟨(d, .d (.v (.bool ad.isNone))) :: delKeys [d, s] st.sl, st.lb⟩) ((a.put (some s) (.slice ad n cap)).put (some d) (.bool ad.isNone)) w S μ ν := fun ν => by
      have q1 := (hsim ν).put (dst := some s) (x := .any) (v := .slice ad n cap) (fun t ht => by cases ht; rw [h2]; exact hs) (.any _)
      have q2 := q1.put (dst := some d) (x := .d (.v (.bool ad.isNone))) (v := .bool ad.isNone) (fun t ht => by cases ht; rw [h2]; exact hd) (.d (.v _ rfl))
      refine ⟨q2.tmps, q2.defers, fun u => ?_, q2.mem, q2.inj, q2.own, q2.stable, q2.fresh, q2.bound, q2.kept⟩
      have hu := q2.slots u
      simp only [St.toM, St.get, look_cons, look_del]
      simp only [M.putO, M.put] at hu
      by_cases hud : d = u
      · simp only [hud, if_true] at hu ⊢; exact hu
      · rw [if_neg hud]
        by_cases hus : u ∈ [d, s]
        · rw [if_pos hus]; exact .any _
        · rw [if_neg hus]
          simp only [List.mem_cons, List.not_mem_nil, or_false, not_or] at hus
          rw [if_neg hus.1, if_neg hus.2] at hu
          exact hu
    show wpOps _ _ _ [0, 1] a w
    simp [wpOps, Region.wanted, Oper.wp, execOp, Oper.upon, ev]
    left
    rw [ev2, ev3]
    simp [eqGuard, rb]
    left
    exact ⟨S, μ, hsA⟩
  obtain ⟨e, a', w', ⟨rfl, hs'⟩, harr⟩ := hw b k cs
  obtain ⟨e2, w2, fr, q1, q2, q3⟩ := hg ad.isNone hn C h1 h2 a' w' hs' b cs hb1 hb2
  refine ⟨e2, w2, fr, q1, .of_steps ?_ q2, q3⟩
  rw [← h1]
  exact harr

/-- a contract under other keys, for arguments that say more and a result that says less -/
theorem FnA.ren {P : Program} {f : FuncId} {args args' : List AV} {lbs lbs' back back' : List (Nat × Blk)} {res res' : AV} (h : FnA P f args' lbs' res' back') (ρ ρ2 : Ren) {ob1 ob2 ob3 ob4 : Prop}
    (h1 : injB ρ = true) (h2 : avLeL ρ args args' = some ob1) (o1 : ob1) (h3 : lbLe ρ lbs lbs' = some ob2) (o2 : ob2)
    (h4 : injB ρ2 = true) (h5 : avLe ρ2 res' res = some ob3) (o3 : ob3) (h6 : lbLe ρ2 back' back = some ob4) (o4 : ob4) : FnA P f args lbs res back := by
  refine ⟨h.1, fun w S μ vs hb hgl ha hm hi => ?_⟩
  have old : ∀ κ b, look lbs' κ = some b → ∀ g c, muOf ρ μ κ = some (some (g, c)) → ∃ o d, look ρ κ = some (some o) ∧ look lbs o = some d ∧ μ o = some (some (g, c)) := by
    intro κ b hb g c hm
    obtain ⟨o, ho, hμ⟩ := muOf_some hm
    rcases lbLe_spec h3 o2 κ b hb with ⟨o', d, q, q1, q2, _⟩ | ⟨q1, _⟩
    · rw [ho] at q1
      simp only [Option.some.injEq] at q1
      subst q1
      exact ⟨o, d, ho, q2, hμ⟩
    · rw [ho] at q1; cases q1
  have hH : ∀ g, Handed lbs' (muOf ρ μ) g → Handed lbs μ g := fun g ⟨κ, b, c, q1, q2⟩ => by
    obtain ⟨o, d, _, x2, x3⟩ := old κ b q1 g c q2
    exact ⟨o, d, c, x2, x3⟩
  refine Calls.mono (h.2 w S (muOf ρ μ) vs hb hgl (fun ν => ?_) (fun κ b hb' => ?_) (fun κ κ' b b' g c c' hb hb' hm hm' => ?_)) ?_
  · obtain ⟨q1, q2⟩ := avLeL_rel (w := w) (S := S) (μ := μ) (ν := ν) args args' ob1 h2 o1
    have := ha ν
    exact ⟨this.1.trans q1, fun i hi => q2 i hi _ (this.2 i (by omega))⟩
  · rcases lbLe_spec h3 o2 κ b hb' with ⟨o, d, q, q1, q2, q3, q4⟩ | ⟨q1, e, k, f, rfl⟩
    · have e : muOf ρ μ κ = μ o := by simp [muOf, q1]
      rw [e]
      exact blLe_ok q3 q4 (hm o d q2)
    · have e : muOf ρ μ κ = some none := by simp [muOf, q1]
      rw [e]
      rfl
  · obtain ⟨o, d, x1, x2, x3⟩ := old κ b hb g c hm
    obtain ⟨o', d', y1, y2, y3⟩ := old κ' b' hb' g c' hm'
    have := hi o o' d d' g c c' x2 y2 x3 y3
    subst this
    exact injB_spec h1 κ κ' o x1 y1
  · rintro e w' ⟨v, S', μ', rfl, B⟩
    have old2 : ∀ κ b, look back κ = some b → ∀ g c, muOf ρ2 μ' κ = some (some (g, c)) → ∃ o d, look ρ2 κ = some (some o) ∧ look back' o = some d ∧ μ' o = some (some (g, c)) := by
      intro κ b hb g c hm
      obtain ⟨o, ho, hμ⟩ := muOf_some hm
      rcases lbLe_spec h6 o4 κ b hb with ⟨o', d, q, q1, q2, _⟩ | ⟨q1, _⟩
      · rw [ho] at q1
        simp only [Option.some.injEq] at q1
        subst q1
        exact ⟨o, d, ho, q2, hμ⟩
      · rw [ho] at q1; cases q1
    refine ⟨v, S', muOf ρ2 μ', rfl, ⟨fun ν => avLe_rel _ _ ob3 h5 o3 _ (B.res ν), fun κ b hb' => ?_, fun κ κ' b b' g c c' hb hb' hm hm' => ?_, fun κ b g c hb hm => ?_, B.sub, fun b hb => ?_, B.bound, ?_⟩⟩
    · rcases lbLe_spec h6 o4 κ b hb' with ⟨o, d, q, q1, q2, q3, q4⟩ | ⟨q1, e, k, f, rfl⟩
      · have e : muOf ρ2 μ' κ = μ' o := by simp [muOf, q1]
        rw [e]
        exact blLe_ok q3 q4 (B.mem o d q2)
      · have e : muOf ρ2 μ' κ = some none := by simp [muOf, q1]
        rw [e]
        rfl
    · obtain ⟨o, d, x1, x2, x3⟩ := old2 κ b hb g c hm
      obtain ⟨o', d', y1, y2, y3⟩ := old2 κ' b' hb' g c' hm'
      have := B.inj o o' d d' g c c' x2 y2 x3 y3
      subst this
      exact injB_spec h4 κ κ' o x1 y1
    · obtain ⟨o, d, x1, x2, x3⟩ := old2 κ b hb g c hm
      rcases B.own o d g c x2 x3 with q | q
      · exact .inl q
      · exact .inr (hH g q)
    · rcases B.new b hb with q | q | q
      · exact .inl q
      · exact .inr (.inl q)
      · exact .inr (.inr (hH b q))
    · exact ⟨B.kept.os, B.kept.tape, B.kept.output, B.kept.size, fun b hb ht => B.kept.block b hb (fun q => ht (hH b q))⟩

/-- what is put behind a row -/
theorem row_catg {α : Type} [Inhabited α] (cells : α → List D) (L M : List α) (f g : Nat → List D) {n m : Nat} (hn : n = L.length) (hf : ∀ i, i < n → f i = cells (L.getD i default)) (hm : m = M.length) (hg : ∀ i, i < m → g i = cells (M.getD i default)) :
    (n + m = (L ++ M).length) ∧ ∀ i, i < n + m → (if i < n then f i else g (i - n)) = cells ((L ++ M).getD i default) := by
  subst hn; subst hm
  refine ⟨by simp, fun i hi => ?_⟩
  split
  · rename_i h
    rw [hf i h]
    simp [List.getD, List.getElem?_append_left h]
  · rename_i h
    rw [hg _ (by omega)]
    simp [List.getD, List.getElem?_append_right (Nat.le_of_not_lt h)]

theorem Ob.pr_den {p : Prop} (h : p) : (Ob.pr p).den := h

theorem cond_or_false {a b : Bool} : (bif a then true else b) = false ↔ a = false ∧ b = false := by cases a <;> simp
theorem cond_or_true {a b : Bool} : (bif a then true else b) = true ↔ a = true ∨ b = true := by cases a <;> simp
theorem cond_and_true {a b : Bool} : (bif a then b else false) = true ↔ a = true ∧ b = true := by cases a <;> simp
theorem cond_and_false {a b : Bool} : (bif a then b else false) = false ↔ a = false ∨ b = false := by cases a <;> simp
end Go.Av
