/- Calls by contract, in general: blocks are handed over and come back. -/
import Derived.Test.YtihmmpaalpghbaaGreatDoorAvM
set_option linter.unusedSimpArgs false
set_option linter.unusedVariables false
namespace Go.Av
open Go
set_option linter.unusedSectionVars false
variable [Globs]
section
variable {C : Cx} {A : M} {a : Act} {w : World} {S : Nat → Prop} {μ : Mu} {ν : Nat → Bool}
theorem AV.keysL_mem {k : Nat} : ∀ (l : List AV) (i : Nat), i < l.length → k ∈ (l.getD i default).keys → k ∈ AV.keysL l
 | [], i, hi, _ => absurd hi (by simp)
 | a :: r, 0, _, h => by simp only [AV.keysL, List.mem_append]; exact .inl (by simpa using h)
 | a :: r, i + 1, hi, h => by simp only [AV.keysL, List.mem_append]; exact .inr (AV.keysL_mem r i (by simpa using hi) (by simpa using h))
theorem Rel.agree {μ' : Mu} {x : AV} {v : Value} (h : Rel w S μ ν x v) (hk : ∀ k, k ∈ x.keys → μ' k = μ k) : Rel w S μ' ν x v := by
 induction h with
 | any x => exact .any x
 | d h => exact .d h
 | @ownNil key _ h => exact .ownNil (by rw [hk key (by simp [AV.keys])]; exact h)
 | @own key _ _ _ h => exact .own (by rw [hk key (by simp [AV.keys])]; exact h)
 | @ptr key _ _ _ h => exact .ptr (by rw [hk key (by simp [AV.keys])]; exact h)
 | @elt key _ _ _ _ _ h => exact .elt (by rw [hk key (by simp [AV.keys])]; exact h)
 | ref vals hcell h => exact .ref vals hcell h
 | nns h => exact .nns h
 | @mpv key _ _ h => exact .mpv (by rw [hk key (by simp [AV.keys])]; exact h)
 | pmp h => exact .pmp h
 | @fn _ caps _ hl _ ih => exact .fn hl (fun i hi => ih i hi (fun k hk' => hk k (by simp only [AV.keys]; exact AV.keysL_mem caps i hi hk')))
 | @tup l _ hl _ ih => exact .tup hl (fun i hi => ih i hi (fun k hk' => hk k (by simp only [AV.keys]; exact AV.keysL_mem l i hi hk')))
 | @ag l _ hl _ ih => exact .ag hl (fun i hi => ih i hi (fun k hk' => hk k (by simp only [AV.keys]; exact AV.keysL_mem l i hi hk')))
 | g _ h0 ih => exact .g (fun hp => ih hp (fun k hk' => hk k (by simpa [AV.keys] using hk'))) h0
theorem BlkAt.agree {μ' : Mu} {b : Blk} {g cap : Nat} (h : BlkAt w S μ b g cap) (hk : ∀ k, k ∈ b.keys → μ' k = μ k) : BlkAt w S μ' b g cap := by
 cases b with
 | box cs =>
  obtain ⟨cur, e, h1, h0, h2, h6⟩ := h
  refine ⟨cur, e, h1, h0, h2, fun j hj => ?_⟩
  obtain ⟨x, hx, hr⟩ := h6 j hj
  exact ⟨x, hx, fun ν => (hr ν).agree (fun k hk' => hk k (AV.keysL_mem _ j hj hk'))⟩
 | row e k n f => exact h
 | mp n f => exact h
 | it mk n seen =>
  obtain ⟨mg, c, h0, h1⟩ := h
  exact ⟨mg, c, by rw [hk mk (by simp [Blk.keys])]; exact h0, h1⟩
 | mx => exact h
 | tx => exact h
 | rx => exact h
 | ml => exact h
theorem BlkOK.agree {μ' : Mu} {b : Blk} {y : Option (Option (Nat × Nat))} (h : BlkOK w S μ b y) (hk : ∀ k, k ∈ b.keys → μ' k = μ k) : BlkOK w S μ' b y := by
 cases y with
 | none => cases b <;> exact h
 | some y =>
  cases y with
  | none => cases b <;> exact h
  | some gc => obtain ⟨g, c⟩ := gc; exact (h.at.agree hk).ok
theorem RelL.nu {ν' : Nat → Bool} {l : List AV} {vs : List Value} (h : RelL w S μ ν l vs) (hn : noG.noGL l = true) : RelL w S μ ν' l vs := ⟨h.1, fun i hi => (h.2 i hi).nu (noGL_getD l i hn hi)⟩
theorem core_call {o : Oper} {cf : Operand} {xs : Array Operand} {ts : Array TypeId} {f : FuncId} {args caps : List AV} {res : AV} {lbs lbs' : List (Nat × Blk)} {need : List (Nat × AV)} {ro : List (Nat × Blk)} {gs : List (Nat × Bool)}
  (hs : Sim C A a w S μ ν) (hd : ∀ t, o.dst = some t → t < C.nt) (ho : o.op = .call { callee := .value cf, args := xs, argTypes := ts }) (hcf : Rel w S μ ν (.fn f caps) (a.eval cf)) (hargs : RelL w S μ ν args (xs.toList.map a.eval)) (hn : noG.noGL (args ++ caps) = true)
  (hfn : FnA C.P f (args ++ caps) lbs res lbs') (hlb : ∀ p, p ∈ lbs → A.lb p.1 = some p.2) (hfr : ∀ k, k ∈ lbs'.map (·.1) → Fresh A k) (hc1 : ∀ k, k ∈ res.keys → k ∈ lbs'.map (·.1)) (hc2 : ∀ p, p ∈ lbs' → ∀ k, k ∈ p.2.keys → k ∈ lbs'.map (·.1)) :
  o.wp C.P a w (fun a' w' => ∃ S' μ', Sim C ((Tr.mk need o.dst res ro lbs lbs' gs).apply A) a' w' S' μ' ν) (fun _ _ _ => False) := by
 generalize hcv : a.eval cf = cv at hcf
 cases hcf with
 | @fn _ _ cvs hl hh =>
  unfold Oper.wp
  rw [run_callOp ho hcv hfn.1]
  have hall : RelL w S μ ν (args ++ caps) (xs.map a.eval ++ cvs).toList := by
   rw [Array.toList_append, Array.toList_map]
   exact hargs.append ⟨by simpa using hl, fun i hi => by rw [← getD_toList]; exact hh i hi⟩
  have hlk : ∀ κ b, look lbs κ = some b → A.lb κ = some b := fun κ b h => hlb (κ, b) (look_mem h)
  refine (hfn.2 w S μ (xs.map a.eval ++ cvs) hs.bound hs.glob (fun ν' => hall.nu hn) (fun κ b hk => hs.mem κ b (hlk κ b hk)) (fun κ κ' b b' g c c' h1 h2 h3 h4 => hs.inj κ κ' b b' g c c' (hlk _ _ h1) (hlk _ _ h2) h3 h4)).mono ?_
  rintro e w' ⟨v, S', μ', rfl, B⟩
  have hT : ∀ q, Handed lbs μ q → C.w0.heap.size ≤ q ∨ C.T0 q := fun q ⟨κ, b, c, h1, h2⟩ => hs.own κ b q c (hlk κ b h1) h2
  have hTs : ∀ q, Handed lbs μ q → ¬ S q := fun q ⟨κ, b, c, h1, h2⟩ => by
   have := hs.mem κ b (hlk κ b h1)
   rw [h2] at this
   exact this.at.not
  have hw : ∀ q, S q → w'.heap[q]? = w.heap[q]? := fun q hq => B.kept.block q (hs.bound q hq) (fun ht => hTs q ht hq)
  let μ'' : Mu := fun k => if k ∈ lbs'.map (·.1) then μ' k else μ k
  have ag : ∀ k, k ∉ lbs'.map (·.1) → μ'' k = μ k := fun k hk => by simp only [μ'', hk, if_false]
  have ag' : ∀ k, k ∈ lbs'.map (·.1) → μ'' k = μ' k := fun k hk => by simp only [μ'', hk, if_true]
  have old : ∀ x v, Rel w S μ ν x v → (∀ k, k ∈ lbs'.map (·.1) → k ∉ x.keys) → Rel w' S' μ'' ν x v := fun x v hr hk =>
   (hr.mono B.sub hw (fun _ _ e => e)).agree (fun k hkx => ag k (fun hk' => hk k hk' hkx))
  refine ⟨S', μ'', ?_⟩
  have hlb2 : ∀ κ b, ((Tr.mk need o.dst res ro lbs lbs' gs).apply A).lb κ = some b → (look lbs' κ = some b ∧ κ ∈ lbs'.map (·.1)) ∨ (κ ∉ lbs'.map (·.1) ∧ κ ∉ lbs.map (·.1) ∧ A.lb κ = some b) := by
   intro κ b hb
   simp only [Tr.apply] at hb
   cases hl' : look lbs' κ with
   | some b' =>
    rw [hl'] at hb
    simp only [Option.some.injEq] at hb
    subst hb
    exact .inl ⟨rfl, look_keys hl'⟩
   | none =>
    rw [hl'] at hb
    simp only at hb
    have hnk : κ ∉ lbs'.map (·.1) := fun hk => by
     obtain ⟨p, hp, e⟩ := List.mem_map.1 hk
     have : ∀ (l : List (Nat × Blk)), p ∈ l → look l κ ≠ none := by
      intro l
      induction l with
      | nil => intro h; cases h
      | cons q r ih =>
       intro h hn
       obtain ⟨q1, q2⟩ := q
       simp only [look] at hn
       cases hq : Nat.beq q1 κ with
       | true => rw [hq] at hn; cases hn
       | false =>
        rw [hq] at hn
        rcases List.mem_cons.1 h with h' | h'
        ·subst h'
         simp only at e
         rw [e, Nat.beq_refl] at hq
         cases hq
        ·exact ih h' (by simpa using hn)
     exact this lbs' hp hl'
    split at hb
    ·cases hb
    ·rename_i hnm
     exact .inr ⟨hnk, hnm, hb⟩
  have hgT : ∀ κ b g c, κ ∉ lbs.map (·.1) → A.lb κ = some b → μ κ = some (some (g, c)) → ¬ Handed lbs μ g ∧ g < w.heap.size ∧ ¬ S g := by
   intro κ b g c hnm hb hμ
   have hm := hs.mem κ b hb
   rw [hμ] at hm
   refine ⟨fun ⟨κ2, b2, c2, h1, h2⟩ => ?_, hm.at.lt, hm.at.not⟩
   have := hs.inj κ κ2 b b2 g c c2 hb (hlk _ _ h1) hμ h2
   rw [this] at hnm
   exact hnm (look_keys h1)
  refine ⟨?_, ?_, fun t => ?_, fun κ b hb => ?_, fun κ1 κ2 b1 b2 g c c' h1 h2 h3 h4 => ?_, fun κ b g c hb hμ => ?_, fun b hb => B.sub b (hs.stable b hb), fun b hb => ?_, B.bound, ?_⟩
  ·simp only [Act.put]; split <;> simp [hs.tmps]
  ·simp only [Act.put]; split <;> exact hs.defers
  ·simp only [Tr.apply]
   by_cases c : o.dst = some t
   ·simp only [c, if_true, Act.put]
    rw [getD_set_self _ _ _ (by rw [hs.tmps]; exact hd t c)]
    exact (B.res ν).agree (fun k hk => ag' k (hc1 k hk))
   ·simp only [c, if_false]
    have e : (a.put o.dst v).tmps.getD t undef = a.tmps.getD t undef := by
     cases hdst : o.dst with
     | none => rfl
     | some d =>
      simp only [Act.put]
      exact getD_set_other _ _ _ _ (fun e => c (by rw [hdst, e]))
    rw [e]
    exact old _ _ (hs.slots t) (fun k hk => (hfr k hk).sl t)
  ·rcases hlb2 κ b hb with ⟨h1, h2⟩ | ⟨h1, h2, h3⟩
   ·rw [ag' κ h2]
    exact (B.mem κ b h1).agree (fun k hk => ag' k (hc2 (κ, b) (look_mem h1) k hk))
   ·rw [ag κ h1]
    have hm := hs.mem κ b h3
    refine (hm.mono B.sub hw (fun _ _ e => e) (fun g c e => ?_)).agree (fun k hk => ag k (fun hk' => (hfr k hk').bl κ b h3 hk))
    obtain ⟨q1, q2, q3⟩ := hgT κ b g c h2 h3 e
    refine ⟨B.kept.block g q2 q1, fun hs' => ?_⟩
    rcases B.new g hs' with h | h | h
    ·exact q3 h
    ·omega
    ·exact q1 h
  ·rcases hlb2 κ1 b1 h1 with ⟨x1, x2⟩ | ⟨x1, x2, x3⟩
   ·rw [ag' κ1 x2] at h3
    rcases hlb2 κ2 b2 h2 with ⟨y1, y2⟩ | ⟨y1, y2, y3⟩
    ·rw [ag' κ2 y2] at h4
     exact B.inj κ1 κ2 b1 b2 g c c' x1 y1 h3 h4
    ·rw [ag κ2 y1] at h4
     obtain ⟨q1, q2, q3⟩ := hgT κ2 b2 g c' y2 y3 h4
     rcases B.own κ1 b1 g c x1 h3 with h | h
     ·omega
     ·exact absurd h q1
   ·rw [ag κ1 x1] at h3
    obtain ⟨q1, q2, q3⟩ := hgT κ1 b1 g c x2 x3 h3
    rcases hlb2 κ2 b2 h2 with ⟨y1, y2⟩ | ⟨y1, y2, y3⟩
    ·rw [ag' κ2 y2] at h4
     rcases B.own κ2 b2 g c' y1 h4 with h | h
     ·omega
     ·exact absurd h q1
    ·rw [ag κ2 y1] at h4
     exact hs.inj κ1 κ2 b1 b2 g c c' x3 y3 h3 h4
  ·rcases hlb2 κ b hb with ⟨h1, h2⟩ | ⟨h1, h2, h3⟩
   ·rw [ag' κ h2] at hμ
    rcases B.own κ b g c h1 hμ with h | h
    ·exact .inl (Nat.le_trans hs.kept.size h)
    ·exact hT g h
   ·rw [ag κ h1] at hμ
    exact hs.own κ b g c h3 hμ
  ·rcases B.new b hb with h | h | h
   ·exact hs.fresh b h
   ·exact .inr (.inl (Nat.le_trans hs.kept.size h))
   ·rcases hT b h with h' | h'
    ·exact .inr (.inl h')
    ·exact .inr (.inr h')
  ·refine hs.kept.trans B.kept (fun b hb h => ?_)
   rcases hT b h with h' | h'
   ·omega
   ·exact h'
def FnB (P : Program) (f : FuncId) (args : List AV) (lbs : List (Nat × Blk)) (res : AV) (lbs' : List (Nat × Blk)) (anc : List (Nat × Nat)) : Prop :=
 callable P f = true ∧ ∀ (w : World) (S : Nat → Prop) (μ : Mu) (vs : Array Value), (∀ b, S b → b < w.heap.size) → GlobOK w S → (∀ ν, RelL w S μ ν args vs.toList) → (∀ κ b, look lbs κ = some b → BlkOK w S μ b (μ κ)) → InjOn lbs μ →
  Calls P f vs w fun e w' => ∃ v S' μ', e = .returned v ∧ Back w S (Handed lbs μ) res lbs' v S' μ' w' ∧ ∀ p, p ∈ anc → ∀ ν, Rel w' S' μ' ν (.ptr p.2 0) (vs.toList.getD p.1 undef)
theorem core_call_bx {anc : List (Nat × Nat)} {o : Oper} {cf : Operand} {xs : Array Operand} {ts : Array TypeId} {f : FuncId} {args caps : List AV} {res : AV} {lbs lbs' : List (Nat × Blk)} {need : List (Nat × AV)} {ro : List (Nat × Blk)} {gs : List (Nat × Bool)}
  (hs : Sim C A a w S μ ν) (hd : ∀ t, o.dst = some t → t < C.nt) (ho : o.op = .call { callee := .value cf, args := xs, argTypes := ts }) (hcf : Rel w S μ ν (.fn f caps) (a.eval cf)) (hargs : RelL w S μ ν args (xs.toList.map a.eval)) (hn : noG.noGL (args ++ caps) = true)
  (hfn : FnB C.P f (args ++ caps) lbs res lbs' anc) (hanc : ∀ p, p ∈ anc → p.1 < (args ++ caps).length ∧ (args ++ caps).getD p.1 default = .ptr p.2 0 ∧ (∃ cs, look lbs p.2 = some (.box cs)) ∧ ∃ cs, look lbs' p.2 = some (.box cs)) (hlb : ∀ p, p ∈ lbs → A.lb p.1 = some p.2) (hfr : ∀ k, k ∈ lbs'.map (·.1) → k ∉ anc.map (·.2) → Fresh A k) (hc1 : ∀ k, k ∈ res.keys → k ∈ lbs'.map (·.1) ∧ k ∉ anc.map (·.2)) (hc2 : ∀ p, p ∈ lbs' → ∀ k, k ∈ p.2.keys → k ∈ lbs'.map (·.1) ∧ k ∉ anc.map (·.2)) :
  o.wp C.P a w (fun a' w' => ∃ S' μ', Sim C ((Tr.mk need o.dst res ro lbs lbs' gs).apply A) a' w' S' μ' ν) (fun _ _ _ => False) := by
 generalize hcv : a.eval cf = cv at hcf
 cases hcf with
 | @fn _ _ cvs hl hh =>
  unfold Oper.wp
  rw [run_callOp ho hcv hfn.1]
  have hall : RelL w S μ ν (args ++ caps) (xs.map a.eval ++ cvs).toList := by
   rw [Array.toList_append, Array.toList_map]
   exact hargs.append ⟨by simpa using hl, fun i hi => by rw [← getD_toList]; exact hh i hi⟩
  have hlk : ∀ κ b, look lbs κ = some b → A.lb κ = some b := fun κ b h => hlb (κ, b) (look_mem h)
  refine (hfn.2 w S μ (xs.map a.eval ++ cvs) hs.bound hs.glob (fun ν' => hall.nu hn) (fun κ b hk => hs.mem κ b (hlk κ b hk)) (fun κ κ' b b' g c c' h1 h2 h3 h4 => hs.inj κ κ' b b' g c c' (hlk _ _ h1) (hlk _ _ h2) h3 h4)).mono ?_
  rintro e w' ⟨v, S', μ', rfl, B, ha⟩
  have hadr : ∀ κ, κ ∈ anc.map (·.2) → κ ∈ lbs'.map (·.1) ∧ (∃ cs, look lbs' κ = some (.box cs)) ∧ ∃ g c c', μ κ = some (some (g, c)) ∧ μ' κ = some (some (g, c')) := by
   intro κ hκ
   obtain ⟨p, hp, rfl⟩ := List.mem_map.1 hκ
   obtain ⟨h1, h2, -, cs, h4⟩ := hanc p hp
   have h5 := hall.2 p.1 h1
   rw [h2] at h5
   have h6 := ha p hp ν
   generalize (xs.map a.eval ++ cvs).toList.getD p.1 undef = u at h5 h6
   refine ⟨look_keys h4, ⟨cs, h4⟩, ?_⟩
   cases h5 with
   | @ptr _ _ g c hμ =>
    cases h6 with
    | @ptr _ _ _ c' hμ' => exact ⟨g, c, c', hμ, hμ'⟩
  have hT : ∀ q, Handed lbs μ q → C.w0.heap.size ≤ q ∨ C.T0 q := fun q ⟨κ, b, c, h1, h2⟩ => hs.own κ b q c (hlk κ b h1) h2
  have hTs : ∀ q, Handed lbs μ q → ¬ S q := fun q ⟨κ, b, c, h1, h2⟩ => by
   have := hs.mem κ b (hlk κ b h1)
   rw [h2] at this
   exact this.at.not
  have hw : ∀ q, S q → w'.heap[q]? = w.heap[q]? := fun q hq => B.kept.block q (hs.bound q hq) (fun ht => hTs q ht hq)
  let μ'' : Mu := fun k => if k ∈ anc.map (·.2) then μ k else if k ∈ lbs'.map (·.1) then μ' k else μ k
  have ag : ∀ k, (k ∈ lbs'.map (·.1) → k ∈ anc.map (·.2)) → μ'' k = μ k := fun k hk => by
   simp only [μ'']
   by_cases h1 : k ∈ anc.map (·.2)
   ·rw [if_pos h1]
   ·rw [if_neg h1, if_neg (fun h => h1 (hk h))]
  have ag' : ∀ k, k ∈ lbs'.map (·.1) → k ∉ anc.map (·.2) → μ'' k = μ' k := fun k hk hn => by simp only [μ'']; rw [if_neg hn, if_pos hk]
  have tr : ∀ k g c, k ∈ lbs'.map (·.1) → μ'' k = some (some (g, c)) → ∃ c', μ' k = some (some (g, c')) := fun k g c hk h => by
   by_cases h1 : k ∈ anc.map (·.2)
   ·obtain ⟨-, -, g', c1, c2, e1, e2⟩ := hadr k h1
    rw [ag k (fun _ => h1), e1] at h
    simp only [Option.some.injEq, Prod.mk.injEq] at h
    obtain ⟨rfl, rfl⟩ := h
    exact ⟨c2, e2⟩
   ·rw [ag' k hk h1] at h
    exact ⟨c, h⟩
  have old : ∀ x v, Rel w S μ ν x v → (∀ k, k ∈ lbs'.map (·.1) → k ∉ anc.map (·.2) → k ∉ x.keys) → Rel w' S' μ'' ν x v := fun x v hr hk =>
   (hr.mono B.sub hw (fun _ _ e => e)).agree (fun k hkx => ag k (fun hk' => Classical.byContradiction (fun hn => hk k hk' hn hkx)))
  refine ⟨S', μ'', ?_⟩
  have hlb2 : ∀ κ b, ((Tr.mk need o.dst res ro lbs lbs' gs).apply A).lb κ = some b → (look lbs' κ = some b ∧ κ ∈ lbs'.map (·.1)) ∨ (κ ∉ lbs'.map (·.1) ∧ κ ∉ lbs.map (·.1) ∧ A.lb κ = some b) := by
   intro κ b hb
   simp only [Tr.apply] at hb
   cases hl' : look lbs' κ with
   | some b' =>
    rw [hl'] at hb
    simp only [Option.some.injEq] at hb
    subst hb
    exact .inl ⟨rfl, look_keys hl'⟩
   | none =>
    rw [hl'] at hb
    simp only at hb
    have hnk : κ ∉ lbs'.map (·.1) := fun hk => by
     obtain ⟨p, hp, e⟩ := List.mem_map.1 hk
     have : ∀ (l : List (Nat × Blk)), p ∈ l → look l κ ≠ none := by
      intro l
      induction l with
      | nil => intro h; cases h
      | cons q r ih =>
       intro h hn
       obtain ⟨q1, q2⟩ := q
       simp only [look] at hn
       cases hq : Nat.beq q1 κ with
       | true => rw [hq] at hn; cases hn
       | false =>
        rw [hq] at hn
        rcases List.mem_cons.1 h with h' | h'
        ·subst h'
         simp only at e
         rw [e, Nat.beq_refl] at hq
         cases hq
        ·exact ih h' (by simpa using hn)
     exact this lbs' hp hl'
    split at hb
    ·cases hb
    ·rename_i hnm
     exact .inr ⟨hnk, hnm, hb⟩
  have hgT : ∀ κ b g c, κ ∉ lbs.map (·.1) → A.lb κ = some b → μ κ = some (some (g, c)) → ¬ Handed lbs μ g ∧ g < w.heap.size ∧ ¬ S g := by
   intro κ b g c hnm hb hμ
   have hm := hs.mem κ b hb
   rw [hμ] at hm
   refine ⟨fun ⟨κ2, b2, c2, h1, h2⟩ => ?_, hm.at.lt, hm.at.not⟩
   have := hs.inj κ κ2 b b2 g c c2 hb (hlk _ _ h1) hμ h2
   rw [this] at hnm
   exact hnm (look_keys h1)
  refine ⟨?_, ?_, fun t => ?_, fun κ b hb => ?_, fun κ1 κ2 b1 b2 g c c' h1 h2 h3 h4 => ?_, fun κ b g c hb hμ => ?_, fun b hb => B.sub b (hs.stable b hb), fun b hb => ?_, B.bound, ?_⟩
  ·simp only [Act.put]; split <;> simp [hs.tmps]
  ·simp only [Act.put]; split <;> exact hs.defers
  ·simp only [Tr.apply]
   by_cases c : o.dst = some t
   ·simp only [c, if_true, Act.put]
    rw [getD_set_self _ _ _ (by rw [hs.tmps]; exact hd t c)]
    exact (B.res ν).agree (fun k hk => ag' k (hc1 k hk).1 (hc1 k hk).2)
   ·simp only [c, if_false]
    have e : (a.put o.dst v).tmps.getD t undef = a.tmps.getD t undef := by
     cases hdst : o.dst with
     | none => rfl
     | some d =>
      simp only [Act.put]
      exact getD_set_other _ _ _ _ (fun e => c (by rw [hdst, e]))
    rw [e]
    exact old _ _ (hs.slots t) (fun k hk hn => (hfr k hk hn).sl t)
  ·rcases hlb2 κ b hb with ⟨h1, h2⟩ | ⟨h1, h2, h3⟩
   ·have hm := B.mem κ b h1
    have hk2 : ∀ k, k ∈ b.keys → μ'' k = μ' k := fun k hk => ag' k (hc2 (κ, b) (look_mem h1) k hk).1 (hc2 (κ, b) (look_mem h1) k hk).2
    by_cases hn : κ ∈ anc.map (·.2)
    ·obtain ⟨-, ⟨cs, e0⟩, g', c1, c2, e1, e2⟩ := hadr κ hn
     rw [h1] at e0
     simp only [Option.some.injEq] at e0
     subst e0
     rw [ag κ (fun _ => hn), e1]
     rw [e2] at hm
     have h3 : BlkAt w' S' μ' (.box cs) g' c1 := hm.at
     exact BlkAt.ok (b := .box cs) (h3.agree hk2)
    ·rw [ag' κ h2 hn]
     exact hm.agree hk2
   ·rw [ag κ (fun h => absurd h h1)]
    have hm := hs.mem κ b h3
    refine (hm.mono B.sub hw (fun _ _ e => e) (fun g c e => ?_)).agree (fun k hk => ag k (fun hk' => Classical.byContradiction (fun hn => (hfr k hk' hn).bl κ b h3 hk)))
    obtain ⟨q1, q2, q3⟩ := hgT κ b g c h2 h3 e
    refine ⟨B.kept.block g q2 q1, fun hs' => ?_⟩
    rcases B.new g hs' with h | h | h
    ·exact q3 h
    ·omega
    ·exact q1 h
  ·rcases hlb2 κ1 b1 h1 with ⟨x1, x2⟩ | ⟨x1, x2, x3⟩
   ·obtain ⟨d1, h3⟩ := tr κ1 g c x2 h3
    rcases hlb2 κ2 b2 h2 with ⟨y1, y2⟩ | ⟨y1, y2, y3⟩
    ·obtain ⟨d2, h4⟩ := tr κ2 g c' y2 h4
     exact B.inj κ1 κ2 b1 b2 g d1 d2 x1 y1 h3 h4
    ·rw [ag κ2 (fun h => absurd h y1)] at h4
     obtain ⟨q1, q2, q3⟩ := hgT κ2 b2 g c' y2 y3 h4
     rcases B.own κ1 b1 g d1 x1 h3 with h | h
     ·omega
     ·exact absurd h q1
   ·rw [ag κ1 (fun h => absurd h x1)] at h3
    obtain ⟨q1, q2, q3⟩ := hgT κ1 b1 g c x2 x3 h3
    rcases hlb2 κ2 b2 h2 with ⟨y1, y2⟩ | ⟨y1, y2, y3⟩
    ·obtain ⟨d2, h4⟩ := tr κ2 g c' y2 h4
     rcases B.own κ2 b2 g d2 y1 h4 with h | h
     ·omega
     ·exact absurd h q1
    ·rw [ag κ2 (fun h => absurd h y1)] at h4
     exact hs.inj κ1 κ2 b1 b2 g c c' x3 y3 h3 h4
  ·rcases hlb2 κ b hb with ⟨h1, h2⟩ | ⟨h1, h2, h3⟩
   ·obtain ⟨d1, hμ⟩ := tr κ g c h2 hμ
    rcases B.own κ b g d1 h1 hμ with h | h
    ·exact .inl (Nat.le_trans hs.kept.size h)
    ·exact hT g h
   ·rw [ag κ (fun h => absurd h h1)] at hμ
    exact hs.own κ b g c h3 hμ
  ·rcases B.new b hb with h | h | h
   ·exact hs.fresh b h
   ·exact .inr (.inl (Nat.le_trans hs.kept.size h))
   ·rcases hT b h with h' | h'
    ·exact .inr (.inl h')
    ·exact .inr (.inr h')
  ·refine hs.kept.trans B.kept (fun b hb h => ?_)
   rcases hT b h with h' | h'
   ·omega
   ·exact h'
def FnS (P : Program) (f : FuncId) (args : List AV) (κ : Nat) (b b' : Blk) : Prop :=
 callable P f = true ∧ ∀ (w : World) (S : Nat → Prop) (μ : Mu) (vs : Array Value), (∀ b, S b → b < w.heap.size) → GlobOK w S → (∀ ν, RelL w S μ ν args vs.toList) → BlkOK w S μ b (μ κ) →
  Calls P f vs w fun e w' => (∃ v, e = .returned v) ∧ BlkOK w' S μ b' (μ κ) ∧ Kept w w' (fun q => ∃ c, μ κ = some (some (q, c)))
theorem core_call_same {o : Oper} {cf : Operand} {xs : Array Operand} {ts : Array TypeId} {f : FuncId} {args caps : List AV} {κ : Nat} {b b' : Blk} {need : List (Nat × AV)} {ro : List (Nat × Blk)} {gs : List (Nat × Bool)}
  (hs : Sim C A a w S μ ν) (hd : ∀ t, o.dst = some t → t < C.nt) (ho : o.op = .call { callee := .value cf, args := xs, argTypes := ts }) (hcf : Rel w S μ ν (.fn f caps) (a.eval cf)) (hargs : RelL w S μ ν args (xs.toList.map a.eval)) (hn : noG.noGL (args ++ caps) = true)
  (hfn : FnS C.P f (args ++ caps) κ b b') (hκ : A.lb κ = some b) :
  o.wp C.P a w (fun a' w' => ∃ S' μ', Sim C ((Tr.mk need o.dst .any ro [(κ, b)] [(κ, b')] gs).apply A) a' w' S' μ' ν) (fun _ _ _ => False) := by
 generalize hcv : a.eval cf = cv at hcf
 cases hcf with
 | @fn _ _ cvs hl hh =>
  unfold Oper.wp
  rw [run_callOp ho hcv hfn.1]
  have hall : RelL w S μ ν (args ++ caps) (xs.map a.eval ++ cvs).toList := by
   rw [Array.toList_append, Array.toList_map]
   exact hargs.append ⟨by simpa using hl, fun i hi => by rw [← getD_toList]; exact hh i hi⟩
  refine (hfn.2 w S μ (xs.map a.eval ++ cvs) hs.bound hs.glob (fun ν' => hall.nu hn) (hs.mem κ b hκ)).mono ?_
  rintro e w' ⟨⟨v, rfl⟩, hb', hk⟩
  have hg : ∀ q, (∃ c, μ κ = some (some (q, c))) → ¬ S q := fun q ⟨c, hc⟩ => by
   have := hs.mem κ b hκ
   rw [hc] at this
   exact this.at.not
  have hw : ∀ q, S q → w'.heap[q]? = w.heap[q]? := fun q hq => hk.block q (hs.bound q hq) (fun h => hg q h hq)
  have h1 : Sim C (A.set κ (some b')) a w' S μ ν := by
   refine ⟨hs.tmps, hs.defers, fun t => (hs.slots t).mono (fun _ x => x) hw (fun _ _ e => e), fun κ' bk hbk => ?_, fun κ1 κ2 b1 b2 g c c' h1 h2 h3 h4 => ?_, fun κ' bk g c h1 h2 => ?_, hs.stable, hs.fresh, fun q hq => Nat.lt_of_lt_of_le (hs.bound q hq) hk.size, ?_⟩
   ·simp only [M.set] at hbk
    by_cases e : κ' = κ
    ·subst e
     simp only [if_true, Option.some.injEq] at hbk
     subst hbk
     exact hb'
    ·simp only [e, if_false] at hbk
     have hm := hs.mem κ' bk hbk
     refine hm.mono (fun _ x => x) hw (fun _ _ e => e) (fun g c hgc => ?_)
     rw [hgc] at hm
     exact ⟨hk.block g hm.at.lt (fun ⟨c', hc'⟩ => e (hs.inj κ' κ bk b g c c' hbk hκ hgc hc')), hm.at.not⟩
   ·have get : ∀ k bk, (A.set κ (some b')).lb k = some bk → ∃ bk', A.lb k = some bk' := fun k bk h => by
     simp only [M.set] at h
     by_cases e : k = κ
     ·subst e; exact ⟨b, hκ⟩
     ·simp only [e, if_false] at h; exact ⟨bk, h⟩
    obtain ⟨b1', q1⟩ := get _ _ h1
    obtain ⟨b2', q2⟩ := get _ _ h2
    exact hs.inj κ1 κ2 b1' b2' g c c' q1 q2 h3 h4
   ·simp only [M.set] at h1
    by_cases e : κ' = κ
    ·subst e; exact hs.own κ' b g c hκ h2
    ·simp only [e, if_false] at h1; exact hs.own κ' bk g c h1 h2
   ·exact hs.kept.trans hk (fun q hq ⟨c, hc⟩ => by
     rcases hs.own κ b q c hκ hc with h | h
     ·omega
     ·exact h)
  refine ⟨S, μ, ?_⟩
  have e : (Tr.mk need o.dst .any ro [(κ, b)] [(κ, b')] gs).apply A = (A.set κ (some b')).putO o.dst .any := by
   cases hdst : o.dst with
   | none => exact apply_write _
   | some d =>
    have := apply_write (A := A) (κ := κ) (b := b) (b' := b') (need := need) (ro := ro) (gs := gs) .any
    unfold Tr.apply at this ⊢
    simp only [M.putO, M.put, M.set, M.mk.injEq, Option.some.injEq] at this ⊢
    refine ⟨?_, this.2⟩
    funext t
    by_cases c : t = d
    ·simp [c]
    ·have : ¬ d = t := fun e => c e.symm
     simp [c, this]
  rw [e]
  exact h1.put hd (.any _)
end
end Go.Av
