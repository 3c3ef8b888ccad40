/- Regions: one evaluation for every order. -/
import Derived.Test.YtggilgghigileaaGreatDoorAvQ
namespace Go.Av
open Go
set_option linter.unusedSectionVars false
variable [Globs]

def SimB (C : Cx) (st : St) (a : Act) (w : World) : Prop := ∃ S μ, ∀ ν, Sim C st.toM a w S μ ν

section
variable {C : Cx} {a : Act} {w : World} {S : Nat → Prop} {μ : Mu} {ν : Nat → Bool}

theorem evOps_sound {T : List (Nat × TI)} (hT : TOk C.P T) {ops : Array Oper} : ∀ {l : List Oper} {st st' : St} {gl gl' : List (Nat × Bool)} {orc orc' : List Orc} {trs : List Tr} {ob : Ob},
    evOps C.P T C.nt ops l st gl orc = some (trs, st', gl', orc', ob) → ob.den → (∀ s e, look gl' s = some e → ν s = e) →
    trs.length = l.length ∧ (∀ (i : Nat) (τ : Tr) (o : Oper), trs[i]? = some τ → l[i]? = some o → OpSound C ν ops o τ ∧ ∀ p, p ∈ τ.gs → ν p.1 = p.2) ∧ Exec trs st.toM st'.toM ∧ ∀ t x, look gl t = some x → look gl' t = some x
  | [], st, st', gl, gl', orc, orc', trs, ob, h, _, _ => by
    simp only [evOps, Option.some.injEq, Prod.mk.injEq] at h
    obtain ⟨rfl, rfl, rfl, -, -⟩ := h
    exact ⟨rfl, fun i τ o h => by simp at h, rfl, fun _ _ h => h⟩
  | o :: r, st, st', gl, gl', orc, orc', trs, ob, h, hob, hν => by
    simp only [evOps] at h
    split at h
    · rename_i τ gl1 orc1 ob1 hstep
      split at h
      · rename_i l1 st1 gl2 orc2 ob2 hrest
        simp only [Option.some.injEq, Prod.mk.injEq] at h
        obtain ⟨rfl, rfl, rfl, rfl, rfl⟩ := h
        obtain ⟨i1, i2, i3, i4⟩ := evOps_sound hT hrest (Ob.and_den hob).2 hν
        obtain ⟨s1, s2, s3, s4⟩ := stepOp_sound hT hstep (Ob.and_den hob).1 (fun s e hl => hν s e (i4 s e hl))
        refine ⟨by simp [i1], fun i τ' o' h1 h2 => ?_, ⟨s3, by rw [← St.apply_toM]; exact i3⟩, fun t x hx => i4 t x (s4 t x hx)⟩
        cases i with
        | zero =>
          simp only [List.getElem?_cons_zero, Option.some.injEq] at h1 h2
          subst h1; subst h2
          exact ⟨s1, s2⟩
        | succ i => exact i2 i τ' o' (by simpa using h1) (by simpa using h2)
      · cases h
    · cases h

theorem freshB_spec {st : St} {κ : Nat} (h : freshB st κ = true) : Fresh st.toM κ := by
  simp only [freshB, Bool.and_eq_true, List.all_eq_true, Bool.not_eq_true'] at h
  obtain ⟨h1, h2⟩ := h
  have notin : ∀ l : List Nat, (l.any fun k => Nat.beq k κ) = false → κ ∉ l := fun l hl hc => by
    have : (l.any fun k => Nat.beq k κ) = true := List.any_eq_true.2 ⟨κ, hc, Nat.beq_refl κ⟩
    rw [this] at hl
    cases hl
  refine ⟨fun t => ?_, ?_, fun κ' b hb => ?_⟩
  · simp only [St.toM, St.get]
    cases hl : look st.sl t with
    | none => simp [AV.keys]
    | some x => exact notin _ (h1 (t, x) (look_mem hl))
  · simp only [St.toM]
    cases hl : look st.lb κ with
    | none => rfl
    | some b =>
      have := (h2 (κ, b) (look_mem hl)).1
      rw [Nat.beq_refl] at this
      cases this
  · exact notin _ (h2 (κ', b) (look_mem hb)).2

theorem keepG_look {keep : Option (List Nat)} : ∀ {sl : List (Nat × AV)} {t : Nat} {x : AV}, distinctB sl = true → look (keepG keep sl) t = some x → look sl t = some x ∧ noG x = true
  | [], t, x, _, h => by simp [keepG, look] at h
  | (k, y) :: r, t, x, hd, h => by
    simp only [distinctB, Bool.and_eq_true, List.all_eq_true, Bool.not_eq_true'] at hd
    simp only [keepG] at h
    rw [Bool.cond_eq_ite] at h
    by_cases hb : (noG y && keptB keep k) = true
    · rw [if_pos hb] at h
      simp only [look_cons] at h
      simp only [Bool.and_eq_true] at hb
      rw [look_cons]
      split
      · rename_i e
        simp only [e, if_true, Option.some.injEq] at h
        subst h
        exact ⟨rfl, hb.1⟩
      · rename_i e
        simp only [e, if_false] at h
        exact keepG_look hd.2 h
    · rw [if_neg hb] at h
      obtain ⟨h1, h2⟩ := keepG_look hd.2 h
      refine ⟨?_, h2⟩
      rw [look_cons]
      split
      · rename_i e
        subst e
        have := hd.1 (k, x) (look_mem h1)
        rw [Nat.beq_refl] at this
        cases this
      · exact h1

/-- fewer slots may be known -/
theorem Sim.keepG {st : St} {keep : Option (List Nat)} (h : Sim C st.toM a w S μ ν) (hd : distinctB st.sl = true) (ν' : Nat → Bool) : Sim C (St.toM ⟨keepG keep st.sl, st.lb⟩) a w S μ ν' := by
  refine ⟨h.tmps, h.defers, fun t => ?_, h.mem, h.inj, h.own, h.stable, h.fresh, h.bound, h.kept⟩
  simp only [St.toM, St.get]
  cases hl : look (Go.Av.keepG keep st.sl) t with
  | none => exact .any _
  | some x =>
    obtain ⟨h1, h2⟩ := keepG_look hd hl
    have := h.slots t
    simp only [St.toM, St.get, h1] at this
    exact this.nu h2

theorem region_wp {T : List (Nat × TI)} (hT : TOk C.P T) (hm : C.P.follows .mixedOrders = true) {id : Nat} {ops : Array Oper} {draw : Bool} {keep : Option (List Nat)} {st st' : St} {orc : List Orc} {ob : Ob}
    (h : evRegion C.P T C.nt ops draw keep st orc = some (st', ob)) (hob : ob.den) (hs : SimB C st a w) : (Code.region id ops draw).wp C.P (fun e a' w' => e = .normal ∧ SimB C st' a' w') a w := by
  unfold evRegion at h
  split at h
  · rename_i trs st1 gl ob1 hev
    rw [Bool.cond_eq_ite] at h
    by_cases hb : (drawOK draw ops trs && trs.all (fun τ => τ.created.all (freshB st)) && distinctB st1.sl) = true
    case neg => rw [if_neg hb] at h; cases h
    case pos =>
      rw [if_pos hb] at h
      simp only [Option.some.injEq, Prod.mk.injEq] at h
      obtain ⟨rfl, rfl⟩ := h
      simp only [Bool.and_eq_true] at hb
      obtain ⟨⟨hok, hfr⟩, hdis⟩ := hb
      let ν : Nat → Bool := fun s => (look gl s).getD false
      have hν : ∀ s e, look gl s = some e → ν s = e := fun s e hl => by simp [ν, hl]
      obtain ⟨i1, i2, i3, _⟩ := evOps_sound (C := C) (ν := ν) hT hev hob hν
      obtain ⟨S, μ, hsim⟩ := hs
      have hfa : FreshAll trs st.toM := fun τ hτ κ hκ => by
        simp only [List.all_eq_true] at hfr
        exact freshB_spec (hfr τ hτ κ hκ)
      have hQ : ∀ a' w' S' μ', Sim C st1.toM a' w' S' μ' ν → (Exit.normal = .normal ∧ SimB C ⟨Go.Av.keepG keep st1.sl, st1.lb⟩ a' w') := fun a' w' S' μ' hs' => ⟨rfl, S', μ', fun ν' => hs'.keepG hdis ν'⟩
      have hlen : trs.length = ops.size := by rw [i1]; simp
      cases draw with
      | false =>
        refine wp_region ?_
        have := wpOps_seq (C := C) (ν := ν) (ops := ops) (Q := fun e a' w' => e = .normal ∧ SimB C ⟨Go.Av.keepG keep st1.sl, st1.lb⟩ a' w') trs 0 st.toM st1.toM a w S μ (by omega) (fun i τ o h1 h2 => i2 i τ o h1 (by simpa using h2)) i3 hfa hok (hsim ν) hQ
        rw [hlen] at this
        rw [List.range_eq_range']
        exact this
      | true =>
        refine wp_region_any hm ?_
        have hw' : Sim C st.toM a { w with drawn := w.drawn + 1 } S μ ν := (hsim ν).world (fun _ x => x) (fun _ x => .inl x) ⟨rfl, rfl, rfl, Nat.le_refl _, fun _ _ _ => rfl⟩
        have hmap : ((List.range ops.size).map fun i => trs.getD i ⟨[], none, .any, [], [], [], []⟩) = trs := by
          apply List.ext_getElem?
          intro i
          by_cases hi : i < ops.size
          · simp [hi, List.getD, List.getElem?_eq_getElem (by omega : i < trs.length)]
          · simp [hi, List.getElem?_eq_none (by omega : trs.length ≤ i)]
        refine wpAny_trs (C := C) (ν := ν) trs hok (fun i τ o h1 h2 => i2 i τ o h1 (by simpa using h2)) st1.toM hQ ops.size (List.range ops.size) _ st.toM a _ S μ (by simp) List.pairwise_lt_range (by simp) (fun i => ?_) (by rw [hmap]; exact i3) (by rw [hmap]; exact hfa) ?_ hw'
        · simp only [List.mem_range]
          refine ⟨fun hi => ⟨hi, by simp [Array.getD, hi]⟩, fun hi => hi.1⟩
        · rw [hmap]
          have hok' : regOK ops trs = true := hok
          simp only [regOK, Bool.and_eq_true] at hok'
          exact hok'.1.2
  · cases h
end
end Go.Av
