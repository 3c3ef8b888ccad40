/- Regions: one evaluation for every order. -/
import Derived.Test.YtihmmpaalpghbaaGreatDoorAvQ
import Derived.OrdersIn
import Derived.RangeFuncCalls
import Derived.RangeFuncLeaves
import Derived.RangeFuncRecord
set_option linter.unusedSimpArgs false
set_option linter.unusedVariables false
namespace Go.Av
open Go
set_option linter.unusedSectionVars false
variable [Globs]
def SimB (C : Cx) (st : St) (a : Act) (w : World) : Prop := ∃ S μ, ∀ ν, Sim C st.toM a w S μ ν
section
variable {C : Cx} {a : Act} {w : World} {S : Nat → Prop} {μ : Mu} {ν : Nat → Bool}
theorem evOps_sound {T : List (Nat × TI)} (hT : TOk C.P T) {ops : Array Oper} : ∀ {l : List Oper} {st st' : St} {gl gl' : List (Nat × Bool)} {orc orc' : List Orc} {trs : List Tr} {ob : Ob},
  evOps C.P T C.nt ops l st gl orc = some (trs, st', gl', orc', ob) → ob.den → (∀ s e, look gl' s = some e → ν s = e) →
  trs.length = l.length ∧ (∀ (i : Nat) (τ : Tr) (o : Oper), trs[i]? = some τ → l[i]? = some o → OpSound C ν ops o τ ∧ ∀ p, p ∈ τ.gs → ν p.1 = p.2) ∧ Exec trs st.toM st'.toM ∧ ∀ t x, look gl t = some x → look gl' t = some x
 | [], st, st', gl, gl', orc, orc', trs, ob, h, _, _ => by
  simp only [evOps, Option.some.injEq, Prod.mk.injEq] at h
  obtain ⟨rfl, rfl, rfl, -, -⟩ := h
  exact ⟨rfl, fun i τ o h => by simp at h, rfl, fun _ _ h => h⟩
 | o :: r, st, st', gl, gl', orc, orc', trs, ob, h, hob, hν => by
  simp only [evOps] at h
  split at h
  ·rename_i τ gl1 orc1 ob1 hstep
   split at h
   ·rename_i l1 st1 gl2 orc2 ob2 hrest
    simp only [Option.some.injEq, Prod.mk.injEq] at h
    obtain ⟨rfl, rfl, rfl, rfl, rfl⟩ := h
    obtain ⟨i1, i2, i3, i4⟩ := evOps_sound hT hrest (Ob.and_den hob).2 hν
    obtain ⟨s1, s2, s3, s4⟩ := stepOp_sound hT hstep (Ob.and_den hob).1 (fun s e hl => hν s e (i4 s e hl))
    refine ⟨by simp [i1], fun i τ' o' h1 h2 => ?_, ⟨s3, by rw [← St.apply_toM]; exact i3⟩, fun t x hx => i4 t x (s4 t x hx)⟩
    cases i with
    | zero =>
     simp only [List.getElem?_cons_zero, Option.some.injEq] at h1 h2
     subst h1; subst h2
     exact ⟨s1, s2⟩
    | succ i => exact i2 i τ' o' (by simpa using h1) (by simpa using h2)
   ·cases h
  ·cases h
theorem freshB_spec {st : St} {κ : Nat} (h : freshB st κ = true) : Fresh st.toM κ := by
 simp only [freshB, Bool.and_eq_true, List.all_eq_true, Bool.not_eq_true'] at h
 obtain ⟨h1, h2⟩ := h
 have notin : ∀ l : List Nat, (l.any fun k => Nat.beq k κ) = false → κ ∉ l := fun l hl hc => by
  have : (l.any fun k => Nat.beq k κ) = true := List.any_eq_true.2 ⟨κ, hc, Nat.beq_refl κ⟩
  rw [this] at hl
  cases hl
 refine ⟨fun t => ?_, ?_, fun κ' b hb => ?_⟩
 ·simp only [St.toM, St.get]
  cases hl : look st.sl t with
  | none => simp [AV.keys]
  | some x => exact notin _ (h1 (t, x) (look_mem hl))
 ·simp only [St.toM]
  cases hl : look st.lb κ with
  | none => rfl
  | some b =>
   have := (h2 (κ, b) (look_mem hl)).1
   rw [Nat.beq_refl] at this
   cases this
 ·exact notin _ (h2 (κ', b) (look_mem hb)).2
theorem keepG_look {keep : Option (List Nat)} : ∀ {sl : List (Nat × AV)} {t : Nat} {x : AV}, distinctB sl = true → look (keepG keep sl) t = some x → look sl t = some x ∧ noG x = true
 | [], t, x, _, h => by simp [keepG, look] at h
 | (k, y) :: r, t, x, hd, h => by
  simp only [distinctB, Bool.and_eq_true, List.all_eq_true, Bool.not_eq_true'] at hd
  simp only [keepG] at h
  rw [Bool.cond_eq_ite] at h
  by_cases hb : (noG y && keptB keep k) = true
  ·rw [if_pos hb] at h
   simp only [look_cons] at h
   simp only [Bool.and_eq_true] at hb
   rw [look_cons]
   split
   ·rename_i e
    simp only [e, if_true, Option.some.injEq] at h
    subst h
    exact ⟨rfl, hb.1⟩
   ·rename_i e
    simp only [e, if_false] at h
    exact keepG_look hd.2 h
  ·rw [if_neg hb] at h
   obtain ⟨h1, h2⟩ := keepG_look hd.2 h
   refine ⟨?_, h2⟩
   rw [look_cons]
   split
   ·rename_i e
    subst e
    have := hd.1 (k, x) (look_mem h1)
    rw [Nat.beq_refl] at this
    cases this
   ·exact h1
theorem Sim.keepG {st : St} {keep : Option (List Nat)} (h : Sim C st.toM a w S μ ν) (hd : distinctB st.sl = true) (ν' : Nat → Bool) : Sim C (St.toM ⟨keepG keep st.sl, st.lb⟩) a w S μ ν' := by
 refine ⟨h.tmps, h.defers, fun t => ?_, h.mem, h.inj, h.own, h.stable, h.fresh, h.bound, h.kept⟩
 simp only [St.toM, St.get]
 cases hl : look (Go.Av.keepG keep st.sl) t with
 | none => exact .any _
 | some x =>
  obtain ⟨h1, h2⟩ := keepG_look hd hl
  have := h.slots t
  simp only [St.toM, St.get, h1] at this
  exact this.nu h2
def PutOK (ops : Array Oper) (K : Array Value → Prop) : Prop := ∀ (i : Nat) (o : Oper) (a : Act) (v : Value), ops[i]? = some o → K a.tmps → K (a.put o.dst v).tmps
theorem oper_act {P : Program} {o : Oper} {a : Act} {w : World} {next : Act → World → Prop} {Q : Exit → Act → World → Prop} {K : Array Value → Prop} (hK : ∀ (a : Act) (v : Value), K a.tmps → K (a.put o.dst v).tmps) (hq : ∀ e a w, Q e a w → e = .normal) (ha : K a.tmps)
  (h : o.wp P a w next Q) : o.wp P a w (fun a' w' => next a' w' ∧ K a'.tmps) (fun e a' w' => Q e a' w' ∧ K a'.tmps) := by
 unfold Oper.wp at *
 generalize (execOp a.eval o).run P w = r at *
 have no : ¬ LetsOut Q := fun ⟨_, _, q⟩ => by cases hq _ _ _ q
 cases r with
 | ok n w' =>
  cases n <;> simp only [Oper.upon] at h ⊢ <;>
   first
    | exact ⟨h, hK _ _ ha⟩
    | exact ⟨h, hK { a with defers := _ :: a.defers } _ ha⟩
    | exact Calls.mono h (fun e w'' he => by cases e <;> first | exact ⟨he, hK _ _ ha⟩ | exact absurd (hq _ _ _ he) (by simp) | exact absurd he no)
    | exact Rows.mono h (fun _ _ he => ⟨he, hK _ _ ha⟩)
 | halt x w' => cases x <;> simp only [Oper.upon] at h ⊢ <;> first | exact h.elim | exact absurd (hq _ _ _ h) (by simp)
theorem wpOps_act {P : Program} {ops : Array Oper} {Q : Exit → Act → World → Prop} {K : Array Value → Prop} (hK : PutOK ops K) (hq : ∀ e a w, Q e a w → e = .normal) : ∀ (is : List Nat) (a : Act) (w : World), K a.tmps → wpOps P ops Q is a w → wpOps P ops (fun e a' w' => Q e a' w' ∧ K a'.tmps) is a w
 | [], a, w, ha, h => ⟨h, ha⟩
 | i :: is, a, w, ha, h => by
  simp only [wpOps] at h ⊢
  cases ho : ops[i]? with
  | none => rw [ho] at h; exact wpOps_act hK hq is a w ha h
  | some o =>
   rw [ho] at h
   simp only at h ⊢
   split
   ·rename_i hw
    rw [if_pos hw] at h
    rcases h with h | ⟨_, _, _, q⟩
    ·exact .inl (Oper.wp_mono (fun a' w' hh => wpOps_act hK hq is a' w' hh.2 hh.1) (oper_act (fun a v => hK i o a v ho) hq ha h))
    ·cases hq _ _ _ q
   ·rename_i hw
    rw [if_neg hw] at h
    exact wpOps_act hK hq is _ w (hK i o a undef ho ha) h
theorem wpAny_act {P : Program} {md : Region.Mode} {ops : Array Oper} {Q : Exit → Act → World → Prop} {K : Array Value → Prop} (hK : PutOK ops K) (hq : ∀ e a w, Q e a w → e = .normal) : ∀ (n : Nat) (listed : Array Bool) (a : Act) (w : World), K a.tmps → wpAny P md ops Q n listed a w → wpAny P md ops (fun e a' w' => Q e a' w' ∧ K a'.tmps) n listed a w
 | 0, listed, a, w, ha, h => ⟨h.1, h.2, ha⟩
 | n + 1, listed, a, w, ha, h => by
  refine ⟨fun hr => ⟨h.1 hr, ha⟩, fun i hi => ?_⟩
  have h := h.2 i hi
  unfold wpOp at *
  split
  ·rename_i ho
   simp only [ho] at h
   exact wpAny_act hK hq n _ a w ha h
  ·rename_i o ho
   simp only [ho] at h
   split
   ·rename_i hw
    rw [if_pos hw] at h
    rcases h with h | ⟨_, _, _, q⟩
    ·exact .inl (Oper.wp_mono (fun a' w' hh => wpAny_act hK hq n _ a' w' hh.2 hh.1) (oper_act (fun a v => hK i o a v ho) hq ha h))
    ·cases hq _ _ _ q
   ·rename_i hw
    rw [if_neg hw] at h
    exact wpAny_act hK hq n _ _ w (hK i o a undef ho ha) h
def noDefer (ops : Array Oper) : Bool := ops.toList.all fun o => match o.op with | .defer _ => false | _ => true
theorem noDefer_at {ops : Array Oper} (h : noDefer ops = true) {i : Nat} {o : Oper} (ho : ops[i]? = some o) : ∀ c, o.op ≠ .defer c := by
 simp only [noDefer, List.all_eq_true] at h
 have := h o (by have := Array.getElem?_eq_some_iff.1 ho; obtain ⟨hi, rfl⟩ := this; simp)
 intro c hc
 rw [hc] at this
 cases this
theorem oper_round {P : Program} {o : Oper} {a : Act} {w : World} {next next' : Act → World → Prop} {Q : Exit → Act → World → Prop} {l n : Nat} (hd : ∀ c, o.op ≠ .defer c) (hn : ∀ a w, next a w → next' a w) (hq : ∀ e a w, Q e a w → e = .normal) (h : o.wp P a w next Q) : o.wpIn (Fence.wide.inRound l) n P a w next' Q := by
 refine ⟨fun _ _ => trivial, ?_⟩
 rw [Oper.semAt_eq _ _ _ hd]
 unfold Oper.wp at h
 generalize (execOp a.eval o).run P w = r at *
 have no : ¬ LetsOut Q := fun ⟨_, _, q⟩ => by cases hq _ _ _ q
 have hdp : ((Fence.wide.inRound l).depth.isSome = true → 1 ≤ n) := fun h => by simp [Fence.wide] at h
 cases r with
 | ok x w' =>
  cases x <;> simp only [Oper.upon, Oper.uponIn] at h ⊢ <;>
   first
    | exact hn _ _ h
    | exact ⟨hdp, (CallsIn.inRound l (callsIn_wide.2 h)).mono (fun e w'' he => by cases e <;> first | exact hn _ _ he | exact he)⟩
    | exact ⟨hdp, fun c cs _ => by obtain ⟨v, w'', q, s⟩ := h c cs; exact ⟨v, w'', hn _ _ q, stepsIn_wide.2 s⟩⟩
 | halt x w' => cases x <;> simp only [Oper.upon, Oper.uponIn] at h ⊢ <;> exact h
theorem wpOps_round {P : Program} {ops : Array Oper} {Q : Exit → Act → World → Prop} {l n : Nat} (hd : noDefer ops = true) (hq : ∀ e a w, Q e a w → e = .normal) : ∀ (is : List Nat) (a : Act) (w : World), wpOps P ops Q is a w → wpOpsIn (Fence.wide.inRound l) n P ops Q is a w
 | [], a, w, h => h
 | i :: is, a, w, h => by
  simp only [wpOps, wpOpsIn] at h ⊢
  cases ho : ops[i]? with
  | none => rw [ho] at h; exact wpOps_round hd hq is a w h
  | some o =>
   rw [ho] at h
   simp only at h ⊢
   split
   ·rename_i hw
    rw [if_pos hw] at h
    rcases h with h | ⟨_, _, _, q⟩
    ·exact oper_round (noDefer_at hd ho) (fun a' w' => wpOps_round hd hq is a' w') hq h
    ·cases hq _ _ _ q
   ·rename_i hw
    rw [if_neg hw] at h
    exact ⟨fun _ _ => trivial, wpOps_round hd hq is _ w h⟩
theorem wpAny_round {P : Program} {md : Region.Mode} {ops : Array Oper} {Q : Exit → Act → World → Prop} {l m : Nat} (hd : noDefer ops = true) (hq : ∀ e a w, Q e a w → e = .normal) : ∀ (n : Nat) (listed : Array Bool) (a : Act) (w : World), wpAny P md ops Q n listed a w → wpAnyIn (Fence.wide.inRound l) m P md ops Q n listed a w
 | 0, listed, a, w, h => h
 | n + 1, listed, a, w, h => by
  refine ⟨h.1, fun i hi => ?_⟩
  have h := h.2 i hi
  unfold wpOp at h
  unfold wpOpIn
  split
  ·rename_i ho
   simp only [ho] at h
   exact wpAny_round hd hq n _ a w h
  ·rename_i o ho
   simp only [ho] at h
   split
   ·rename_i hw
    rw [if_pos hw] at h
    rcases h with h | ⟨_, _, _, q⟩
    ·exact oper_round (noDefer_at hd ho) (fun a' w' => wpAny_round hd hq n _ a' w') hq h
    ·cases hq _ _ _ q
   ·rename_i hw
    rw [if_neg hw] at h
    exact ⟨fun _ _ => trivial, wpAny_round hd hq n _ _ w h⟩
theorem arr_of {P : Program} {id : Nat} {ops : Array Oper} {draw : Bool} {Q : Exit → Act → World → Prop} {K : Array Value → Prop} {a : Act} {w : World} (hm : P.follows .mixedOrders = true) (hK : PutOK ops K) (hq : ∀ e a w, Q e a w → e = .normal) (ha : K a.tmps)
  (h : (draw = false ∧ wpOps P ops Q (List.range ops.size) a w) ∨ (draw = true ∧ wpAny P .any ops Q ops.size (Array.replicate ops.size false) a { w with drawn := w.drawn + 1 })) (b : Frame) (hb : b.roundOf = none ∨ noDefer ops = true) (k : List Item) (cs : List Frame) :
  ∃ a' w', Q .normal a' w' ∧ K a'.tmps ∧ Steps P (lone (b.atR a (.code (.region id ops draw) :: k)) cs w) (lone (b.atR a' k) cs w') := by
 have hq' : ∀ e a w, (Q e a w ∧ K a.tmps) → e = .normal := fun e a w h => hq e a w h.1
 have h' : (draw = false ∧ wpOps P ops (fun e a' w' => Q e a' w' ∧ K a'.tmps) (List.range ops.size) a w) ∨ (draw = true ∧ wpAny P .any ops (fun e a' w' => Q e a' w' ∧ K a'.tmps) ops.size (Array.replicate ops.size false) a { w with drawn := w.drawn + 1 }) := by
  rcases h with ⟨e, h⟩ | ⟨e, h⟩
  ·exact .inl ⟨e, wpOps_act hK hq _ a w ha h⟩
  ·exact .inr ⟨e, wpAny_act hK hq _ _ a _ ha h⟩
 cases hr : b.roundOf with
 | none =>
  have hw : (Code.region id ops draw).wp P (fun e a' w' => Q e a' w' ∧ K a'.tmps) a w := by
   rcases h' with ⟨rfl, h2⟩ | ⟨rfl, h2⟩
   ·exact wp_region h2
   ·exact wp_region_any hm h2
  obtain ⟨e, a', w', ⟨q1, q2⟩, harr⟩ := hw b k cs
  have he := hq _ _ _ q1
  subst he
  refine ⟨a', w', q1, q2, ?_⟩
  rw [Frame.atR_of_none hr, Frame.atR_of_none hr]
  exact harr
 | some l =>
  have hd : noDefer ops = true := hb.resolve_left (by rw [hr]; simp)
  have hw : (Code.region id ops draw).wpIn (Fence.wide.inRound l) 0 P (fun e a' w' => Q e a' w' ∧ K a'.tmps) a w := by
   rcases h' with ⟨rfl, h2⟩ | ⟨rfl, h2⟩
   ·exact wpIn_region (wpOps_round hd hq' _ a w h2)
   ·exact wpIn_region_any hm (wpAny_round hd hq' _ _ a _ h2)
  obtain ⟨e, a', w', ⟨q1, q2⟩, harr⟩ := hw b k cs hr trivial (room_wide _)
  have he := hq _ _ _ q1
  subst he
  exact ⟨a', w', q1, q2, StepsIn.steps harr⟩
theorem condS {α : Type} {c : Bool} {a b : α} (h : (bif c then some a else none) = some b) : c = true ∧ a = b := by
 cases c with
 | true => exact ⟨rfl, by simpa using h⟩
 | false => cases h
theorem altTr_sound {T : List (Nat × TI)} (hT : TOk C.P T) {ops : Array Oper} {trs : List Tr} {gl : List (Nat × Bool)} {i0 j0 d : Nat} {c : CastC} {τ' : Tr} {ob : Ob} {ν : Nat → Bool} (h : altTr C.P T C.nt ops trs gl i0 j0 d c = some (τ', ob)) (hob : ob.den) :
  gl = [] ∧ i0 < j0 ∧ (∀ o, ops[i0]? = some o → OpSound C ν ops o τ' ∧ ∀ p, p ∈ τ'.gs → ν p.1 = p.2) ∧ ordOK trs = true ∧ (∀ f, regOKf i0 j0 ops (tfOf trs i0 τ' f) = true) ∧ Swap (trs.getD i0 dfT) (trs.getD j0 dfT) τ' ∧ (trs.getD i0 dfT).created = [] ∧ τ'.created = (trs.getD i0 dfT).created ∧ τ'.men = (trs.getD i0 dfT).men := by
 unfold altTr at h
 split at h
 ·rename_i τ σ o hτ hσ ho
  split at h
  ·rename_i τ2 ob2 hst
   obtain ⟨hc, h⟩ := condS h
   simp only [Prod.mk.injEq] at h
   obtain ⟨rfl, rfl⟩ := h
   obtain ⟨ho1, ho2⟩ := Ob.and_den hob
   have ho2 : τ2.v = τ.v := ho2
   simp only [Bool.and_eq_true] at hc
   obtain ⟨⟨⟨⟨⟨⟨⟨⟨⟨⟨⟨⟨c1, c2⟩, c3⟩, c4⟩, c5⟩, c6⟩, c7⟩, c8⟩, c9⟩, c10⟩, c11⟩, c12⟩, c13⟩ := hc
   have e1 : trs.getD i0 dfT = τ := by simp [List.getD, hτ]
   have e2 : trs.getD j0 dfT = σ := by simp [List.getD, hσ]
   obtain ⟨s1, s2, s3, _⟩ := stepOp_sound (C := C) (ν := ν) hT hst ho1 (fun s e hl => by cases hl)
   have m1 : τ.mem = [] := by simpa using c3
   have m2 : τ.mem' = [] := by simpa using c4
   have m3 : τ2.mem = [] := by simpa using c5
   have m4 : τ2.mem' = [] := by simpa using c6
   rw [e1, e2]
   have cr : ∀ t : Tr, t.mem' = [] → t.created = [] := fun t h => by simp [Tr.created, h]
   refine ⟨by simpa using c1, by simpa [Nat.blt_eq] using c2, fun o' ho' => ?_, c11, fun f => ?_, ⟨fun A h1 h2 => ?_⟩, cr _ m2, by rw [cr _ m2, cr _ m4], by simp [Tr.men, m2, m4, ho2]⟩
   ·rw [ho] at ho'
    cases ho'
    exact ⟨s1, s2⟩
   ·cases f
    ·exact c12
    ·exact c13
   ·have hlbA : ∀ (t : Tr) (B : M), t.mem = [] → t.mem' = [] → (t.apply B).lb = B.lb := fun t B q1 q2 => by
     funext k
     exact Tr.apply_lb (by simp [Tr.wk, q1, q2])
    split at c9
    ·rename_i a a' b hd1 hd2 hd3
     simp only [Bool.and_eq_true, Bool.not_eq_true', List.contains_eq_mem, decide_eq_false_iff_not] at c9
     obtain ⟨⟨⟨d1, d2⟩, d3⟩, d4⟩ := c9
     have d1 := Nat.eq_of_beq_eq_true d1
     subst d1
     have d2 : a ≠ b := fun e => by rw [e, Nat.beq_refl] at d2; cases d2
     refine ⟨⟨fun p hp => ?_, fun p hp => ?_, fun p hp => ?_⟩, ⟨fun p hp => ?_, fun p hp => ?_, fun p hp => ?_⟩, ?_⟩
     ·rw [← h2.need p hp, Tr.apply_sl]
      rw [hd1]
      intro e
      cases e
      exact d3 (List.mem_map.2 ⟨p, hp, rfl⟩)
     ·rw [← h2.ro p hp, hlbA _ _ m1 m2]
     ·rw [← h2.mem p hp, hlbA _ _ m1 m2]
     ·have q1 := s3.need p hp
      have q2 : (look τ.need p.1).isSome = true := List.all_eq_true.1 c10 p hp
      rw [Tr.apply_sl (by rw [hd3]; intro e; cases e; exact d4 (List.mem_map.2 ⟨p, hp, rfl⟩))]
      simp only [St.toM, St.get] at q1
      cases hl : look τ.need p.1 with
      | none => rw [hl] at q2; cases q2
      | some x =>
       rw [hl] at q1
       rw [← q1]
       exact h1.need (p.1, x) (look_mem hl)
     ·have q1 : look σ.mem' p.1 = some p.2 := s3.ro p hp
      simp only [Tr.apply, q1]
     ·rw [m3] at hp
      cases hp
     ·have e1 : (σ.apply (τ.apply A)).sl = (τ2.apply (σ.apply A)).sl := by
       funext t
       simp only [Tr.apply, hd1, hd2, hd3, Option.some.injEq, ho2]
       by_cases ca : a = t
       ·subst ca
        have hba : ¬ b = a := fun e => d2 e.symm
        simp [hba]
       ·simp [ca]
      have e2 : (σ.apply (τ.apply A)).lb = (τ2.apply (σ.apply A)).lb := by
       rw [hlbA τ2 _ m3 m4]
       funext k
       simp only [Tr.apply]
       have := congrFun (hlbA τ A m1 m2) k
       simp only [Tr.apply] at this
       rw [this]
      show M.mk _ _ = M.mk _ _
      rw [show (σ.apply (τ.apply A)) = ⟨(σ.apply (τ.apply A)).sl, (σ.apply (τ.apply A)).lb⟩ from rfl] at *
      exact congr (congrArg M.mk e1) e2
    ·cases c9
  ·cases h
 ·cases h
theorem region_ops {T : List (Nat × TI)} (hT : TOk C.P T) (hm : C.P.follows .mixedOrders = true) {ops : Array Oper} {draw : Bool} {keep : Option (List Nat)} {st st' : St} {orc : List Orc} {ob : Ob}
  (h : evRegion C.P T C.nt ops draw keep st orc = some (st', ob)) (hob : ob.den) (hs : SimB C st a w) : (draw = false ∧ wpOps C.P ops (fun e a' w' => e = .normal ∧ SimB C st' a' w') (List.range ops.size) a w) ∨ (draw = true ∧ wpAny C.P .any ops (fun e a' w' => e = .normal ∧ SimB C st' a' w') ops.size (Array.replicate ops.size false) a { w with drawn := w.drawn + 1 }) := by
 unfold evRegion at h
 split at h
 ·rename_i trs st1 gl ob1 hev
  rw [Bool.cond_eq_ite] at h
  by_cases hb : (drawOK draw ops trs && trs.all (fun τ => τ.created.all (freshB st)) && distinctB st1.sl) = true
  case neg => rw [if_neg hb] at h; cases h
  case pos =>
   rw [if_pos hb] at h
   simp only [Option.some.injEq, Prod.mk.injEq] at h
   obtain ⟨rfl, rfl⟩ := h
   simp only [Bool.and_eq_true] at hb
   obtain ⟨⟨hok, hfr⟩, hdis⟩ := hb
   let ν : Nat → Bool := fun s => (look gl s).getD false
   have hν : ∀ s e, look gl s = some e → ν s = e := fun s e hl => by simp [ν, hl]
   obtain ⟨i1, i2, i3, _⟩ := evOps_sound (C := C) (ν := ν) hT hev hob hν
   obtain ⟨S, μ, hsim⟩ := hs
   have hfa : FreshAll trs st.toM := fun τ hτ κ hκ => by
    simp only [List.all_eq_true] at hfr
    exact freshB_spec (hfr τ hτ κ hκ)
   have hQ : ∀ a' w' S' μ', Sim C st1.toM a' w' S' μ' ν → (Exit.normal = .normal ∧ SimB C ⟨Go.Av.keepG keep st1.sl, st1.lb⟩ a' w') := fun a' w' S' μ' hs' => ⟨rfl, S', μ', fun ν' => hs'.keepG hdis ν'⟩
   have hlen : trs.length = ops.size := by rw [i1]; simp
   cases draw with
   | false =>
    refine .inl ⟨rfl, ?_⟩
    have := wpOps_seq (C := C) (ν := ν) (ops := ops) (Q := fun e a' w' => e = .normal ∧ SimB C ⟨Go.Av.keepG keep st1.sl, st1.lb⟩ a' w') trs 0 st.toM st1.toM a w S μ (by omega) (fun i τ o h1 h2 => i2 i τ o h1 (by simpa using h2)) i3 hfa hok (hsim ν) hQ
    rw [hlen] at this
    rw [List.range_eq_range']
    exact this
   | true =>
    refine .inr ⟨rfl, ?_⟩
    have hw' : Sim C st.toM a { w with drawn := w.drawn + 1 } S μ ν := (hsim ν).world (fun _ x => x) (fun _ x => .inl x) ⟨rfl, rfl, rfl, Nat.le_refl _, fun _ _ _ => rfl⟩
    have hmap : ((List.range ops.size).map fun i => trs.getD i ⟨[], none, .any, [], [], [], []⟩) = trs := by
     apply List.ext_getElem?
     intro i
     by_cases hi : i < ops.size
     ·simp [hi, List.getD, List.getElem?_eq_getElem (by omega : i < trs.length)]
     ·simp [hi, List.getElem?_eq_none (by omega : trs.length ≤ i)]
    refine wpAny_trs (C := C) (ν := ν) trs hok (fun i τ o h1 h2 => i2 i τ o h1 (by simpa using h2)) st1.toM hQ ops.size (List.range ops.size) _ st.toM a _ S μ (by simp) List.pairwise_lt_range (by simp) (fun i => ?_) (by rw [hmap]; exact i3) (by rw [hmap]; exact hfa) ?_ (fun m o hm hl => ?_) hw'
    ·simp only [List.mem_range]
     refine ⟨fun hi => ⟨hi, by simp [Array.getD, hi]⟩, fun hi => hi.1⟩
    ·rw [hmap]
     have hok' : regOK ops trs = true := hok
     simp only [regOK, Bool.and_eq_true] at hok'
     exact hok'.1.2
    ·exfalso
     have hm' : m < ops.size := (Array.getElem?_eq_some_iff.1 hm).1
     simp [Array.getD, hm'] at hl
 ·rename_i trs st1 gl i0 j0 d c ob1 hev
  split at h
  ·rename_i τ' ob2 halt
   rw [Bool.cond_eq_ite] at h
   split at h
   ·rename_i hb
    simp only [Option.some.injEq, Prod.mk.injEq] at h
    obtain ⟨rfl, rfl⟩ := h
    simp only [Bool.and_eq_true] at hb
    obtain ⟨hfr, hdis⟩ := hb
    obtain ⟨hob1, hob2⟩ := Ob.and_den hob
    obtain ⟨rfl, hij, hs1, hok, hreg, hsw, hcr, hc1, hc2⟩ := altTr_sound (C := C) (ν := fun _ => false) hT halt hob2
    obtain ⟨i1, i2, i3, _⟩ := evOps_sound (C := C) (ν := fun _ => false) hT hev hob1 (fun s e hl => by cases hl)
    obtain ⟨S, μ, hsim⟩ := hs
    have hfa : FreshAll trs st.toM := fun τ hτ κ hκ => by
     simp only [List.all_eq_true] at hfr
     exact freshB_spec (hfr τ hτ κ hκ)
    have hQ : ∀ a' w' S' μ', Sim C st1.toM a' w' S' μ' (fun _ => false) → (Exit.normal = .normal ∧ SimB C ⟨Go.Av.keepG keep st1.sl, st1.lb⟩ a' w') := fun a' w' S' μ' hs' => ⟨rfl, S', μ', fun ν' => hs'.keepG hdis ν'⟩
    have hlen : trs.length = ops.size := by rw [i1]; simp
    refine .inr ⟨rfl, ?_⟩
    have hw' : Sim C st.toM a { w with drawn := w.drawn + 1 } S μ (fun _ => false) := (hsim _).world (fun _ x => x) (fun _ x => .inl x) ⟨rfl, rfl, rfl, Nat.le_refl _, fun _ _ _ => rfl⟩
    have tf0 : ∀ i, tfOf trs i0 τ' false i = trs.getD i dfT := fun i => rfl
    have tf1 : tfOf trs i0 τ' true i0 = τ' := by simp [tfOf, Nat.beq_refl]
    have tf2 : ∀ i, i ≠ i0 → tfOf trs i0 τ' true i = trs.getD i dfT := fun i hi => by
     have : Nat.beq i i0 = false := by
      cases hb : Nat.beq i i0 with
      | true => exact absurd (Nat.eq_of_beq_eq_true hb) hi
      | false => rfl
     simp [tfOf, this]
    have hmap : ((List.range ops.size).map (tfOf trs i0 τ' false)) = trs := by
     apply List.ext_getElem?
     intro i
     by_cases hi : i < ops.size
     ·simp [hi, tf0, List.getD, List.getElem?_eq_getElem (by omega : i < trs.length)]
     ·simp [hi, List.getElem?_eq_none (by omega : trs.length ≤ i)]
    have hop0 : ∀ (i : Nat) (o : Oper), ops[i]? = some o → OpSound C (fun _ => false) ops o (trs.getD i dfT) ∧ ∀ p, p ∈ (trs.getD i dfT).gs → false = p.2 := fun i o ho => by
     have hi : i < trs.length := by rw [hlen]; exact (Array.getElem?_eq_some_iff.1 ho).1
     have ht : trs[i]? = some (trs.getD i dfT) := by simp [List.getD, hi]
     exact i2 i _ o ht (by simpa using ho)
    refine wpAny_tf (C := C) (ν := fun _ => false) (tfOf trs i0 τ') i0 j0 hij (fun f i o ho => ?_) (fun f i hi => ?_) (fun i hi => (tf2 i hi).trans (tf0 i).symm) (by rw [tf1]; exact hsw) hcr (by rw [tf1]; exact ⟨hc1, hc2⟩) st1.toM hQ ops.size (List.range ops.size) false _ st.toM a _ S μ (fun h => by cases h) (by simp) List.pairwise_lt_range (by simp) (fun i => ?_) (by rw [hmap]; exact i3) (by rw [hmap]; exact hfa) (by rw [hmap]; exact hok) (fun m o hm hl => ?_) hw'
    ·cases f with
     | false => exact hop0 i o ho
     | true =>
      by_cases ci : i = i0
      ·subst ci
       rw [tf1]
       exact hs1 o ho
      ·rw [tf2 i ci]
       exact hop0 i o ho
    ·have hr := hreg f
     simp only [regOKf, List.all_eq_true, List.mem_range] at hr
     have h1 := hr i hi
     have ho : ops[i]? = some ops[i] := Array.getElem?_eq_getElem hi
     rw [ho] at h1
     simp only [Bool.and_eq_true, Array.all_eq_true', Bool.or_eq_true, Bool.not_eq_true', decide_eq_true_eq, List.all_eq_true, List.mem_range] at h1
     refine ⟨_, ho, fun e he hb => ?_, fun j hj => ?_⟩
     ·rcases h1.1 e he with h' | h'
      ·rw [hb] at h'; cases h'
      ·exact h'
     ·rcases h1.2 j hj with ((h' | h') | h') | h'
      ·exact .inl (.inl h')
      ·exact .inr (.inl ⟨Nat.eq_of_beq_eq_true h'.1, Nat.eq_of_beq_eq_true h'.2⟩)
      ·exact .inr (.inr (Tr.indep_spec h'))
      ·exact .inl (.inr h')
    ·simp only [List.mem_range]
     refine ⟨fun hi => ⟨hi, by simp [Array.getD, hi]⟩, fun hi => hi.1⟩
    ·exfalso
     have hm' : m < ops.size := (Array.getElem?_eq_some_iff.1 hm).1
     simp [Array.getD, hm'] at hl
   ·cases h
  ·cases h
 ·cases h
end
end Go.Av
