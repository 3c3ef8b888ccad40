/- The law of a range over a function. -/
import Derived.Test.YtihmmpaalpghbaaGreatDoorAvUb
import Derived.RangeFuncKeeps
set_option linter.unusedSimpArgs false
set_option linter.unusedVariables false
set_option maxHeartbeats 1000000
namespace Go.Av
open Go Go.RowKit
set_option linter.unusedSectionVars false
variable [Globs]

theorem G.rf {g : Goal} {k : List Item} {st : St} (hn : g.Nrm) (hz : ∀ {C C' b cs m}, Reb C C' → g.Z C' b cs m → g.Z C b cs m) {t : Nat} {ps : Array Tmp} {asg body : Code} {gf : FuncId} {caps : List AV}
    {Y σ β : Type} (ys : List Y) (enc : Y → List AV) (step : σ → Y → β ⊕ σ) (s0 : σ) (I : Nat → σ → Prop) (sl0 : List (Nat × AV)) (Js : σ → St) (Jb : β → St) (id : Nat) (stA : σ → Y → St)
    (hsl : ∀ s, (Js s).sl = sl0) (hbl : ∀ b, (Jb b).sl = sl0) (h0 : LeS st (Js s0)) (hf : St.get sl0 t = .fn gf caps) (hcaps : noG.noGL caps = true) (hit : ItA g.P gf caps (ys.map enc))
    (hps : psOK g.nt (sl0.map (·.1)) ps.toList = true) (hpl : ∀ y, y ∈ ys → ps.toList.length = (enc y).length) (hI0 : I 0 s0) (hI : ∀ i s y, I i s → ys[i]? = some y → match step s y with | .inl _ => True | .inr s' => I (i + 1) s')
    (hasg : ∀ s y tm Z zs, y ∈ ys → G (g.round (sl0.map (·.1)) tm Z zs) [.beginRound, .code body] (stA s y) → G (g.round (sl0.map (·.1)) tm Z zs) [.code asg, .beginRound, .code body] ⟨zipSl ps.toList (enc y) ++ sl0, (Js s).lb⟩)
    (hbody : ∀ i s y tm Z zs, I i s → ys[i]? = some y → (match step s y with | .inr s' => G (g.round (sl0.map (·.1)) tm Z zs) [] (Js s') | .inl b => ∀ k', exitTo id k' = none → G (g.round (sl0.map (·.1)) tm Z zs) (.code (.exit id) :: k') (Jb b)) → G (g.round (sl0.map (·.1)) tm Z zs) [.code body] (stA s y))
    (hk : match runY step ys s0 with | .inr s => G g k (Js s) | .inl b => G g (.code (.exit id) :: k) (Jb b)) : G g (.code (.rangeFunc (.tmp t) ps asg body) :: k) st := by
  intro C c1 c2 a w hkp hs b cs hb1 hb2 hb3
  have hrd : b.roundOf = none := hb3.2 (by rw [hn.md]; decide)
  obtain ⟨S, μ, hsim⟩ := h0 C a w hs
  have hs0 := hsim fun _ => false
  have hnt : a.tmps.size = g.nt := hs0.tmps.trans c2
  have hv := hs0.slots t
  simp only [St.toM, hsl s0, hf] at hv
  obtain ⟨cvs, hfv, hrc⟩ : ∃ cvs : Array Value, a.tmps.getD t undef = .func (.func gf) #[] cvs ∧ ∀ ν, RelL w S μ ν caps cvs.toList := by
    generalize a.tmps.getD t undef = fv at hv
    cases hv with
    | @fn _ _ cvs hl hh => exact ⟨cvs, rfl, fun ν => RelL.nu ⟨by simpa using hl, fun i hi => by rw [← getD_toList]; exact hh i hi⟩ hcaps⟩
  obtain ⟨rec_, hrec⟩ : ∃ rec_ : LoopState → Option Code → Loop, rec_ = fun s pe => { state := s, pending := pe, fn := b.fn, tmps := a.tmps, params := ps, assign := asg, body := body, defers := w.heap.size } := ⟨_, rfl⟩
  obtain ⟨W1, hW1⟩ : ∃ W1, (w.alloc (.deferred (some []))).alloc (.loop (rec_ .ready none)) = W1 := ⟨_, rfl⟩
  have hsz1 : W1.heap.size = w.heap.size + 2 := by rw [← hW1]; simp
  have hk01 : Kept w W1 (fun _ => False) := by
    rw [← hW1]
    exact (kept_alloc w _ _).trans (kept_alloc _ _ _) (fun _ _ x => x)
  have hD1 : W1.heap[w.heap.size]? = some (.deferred (some [])) := by
    rw [← hW1]; exact (Below.heap_alloc _ _ _ (by simp)).trans (World.alloc_heap_new w _)
  have hL1 : W1.heap[w.heap.size + 1]? = some (.loop (rec_ .ready none)) := by
    rw [← hW1]; have := World.alloc_heap_new (w.alloc (.deferred (some []))) (.loop (rec_ .ready none)); rwa [World.size_alloc] at this
  let Own0 : Nat → Prop := OwnB (Js s0).toM μ
  let J : Nat → (Nat → Prop) → World → Prop := fun i F W => ∃ s S1 μ1, runY step (ys.take i) s0 = .inr s ∧ I i s ∧ (∀ ν, Core (Js s).toM a.tmps W S1 μ1 ν) ∧ RfInv w S Own0 S1 (Js s).toM μ1 (rec_ .ready none) F W
  let Jx : (Nat → Prop) → World → Prop := fun F W => ∃ bb S1 μ1, runY step ys s0 = .inl bb ∧ (∀ ν, Core (Jb bb).toM a.tmps W S1 μ1 ν) ∧ RfInv w S Own0 S1 (Jb bb).toM μ1 (rec_ .done (some (.exit id))) F W
  have hS1 : ∀ b, S b → W1.heap[b]? = w.heap[b]? := fun b hb => hk01.block b (hs0.bound b hb) (fun x => x)
  let F0 : Nat → Prop := fun q => OwnB (Js s0).toM μ q ∨ (S q ∧ ¬ S q) ∨ q = w.heap.size + 1 ∨ q = w.heap.size
  have hcore1 : ∀ ν, Core (Js s0).toM a.tmps W1 S μ ν := fun ν => (hsim ν).core.keep (fun _ => .inr rfl) hS1 (fun q hq => hk01.block q (by obtain ⟨_, _, hb⟩ := (hsim ν).core.ownAt hq; exact hb.lt) (fun x => x)) hk01.size
  have hinv1 : RfInv w S Own0 S (Js s0).toM μ (rec_ .ready none) F0 W1 := ⟨hs0.glob.mono (fun _ x => x) hS1, fun _ x => x, fun _ x => .inl x, fun _ x => .inl x, hk01.mono' (fun _ x => x.elim), hD1, hL1, fun h => by have := hs0.bound _ h; omega, fun h => by have := hs0.bound _ h; omega, fun q => Iff.rfl⟩
  -- ONE ROUND
  have hround : ∀ i F W (vs : Array Value), i < (ys.map enc).length → J i F W → (∀ ν, RelL W (fun _ => False) (fun _ => none) ν ((ys.map enc).getD i []) vs.toList) → YieldAt Fence.wide 0 g.P (w.heap.size + 1) vs W fun e W' => ∃ F', (∀ b, F' b → F b ∨ W.heap.size ≤ b) ∧ (∀ b, F' b → b < W'.heap.size) ∧ Kept W W' F ∧ ((e = .returned (.bool true) ∧ J (i + 1) F' W') ∨ (e = .returned (.bool false) ∧ Jx F' W')) := by
    rintro i F W vs hi ⟨s, S1, μ1, hrun, hIs, hcore, hinv⟩ hvs
    have hi' : i < ys.length := by simpa using hi
    obtain ⟨y, hy⟩ : ∃ y, ys[i] = y := ⟨_, rfl⟩
    have hym : y ∈ ys := hy ▸ List.getElem_mem hi'
    have hyi : ys[i]? = some y := by rw [List.getElem?_eq_getElem hi', hy]
    have hgy : (ys.map enc).getD i [] = enc y := by simp [List.getD, hi', hy]
    rw [hgy] at hvs
    obtain ⟨ht1, ht2⟩ := runY_take hi' hrun
    rw [hy] at ht1 ht2
    have hlen : ps.toList.length = (enc y).length := hpl y hym
    have hvl : vs.size = ps.size := by have := (hvs fun _ => false).1; simp at this hlen; omega
    have hyl := run_yield (P := g.P) (args := vs) hinv.dl (by rw [hrec]; exact hvl)
    rw [hrec] at hyl
    refine ⟨_, _, _, _, hyl, trivial, fun c cs' _ => ?_⟩
    let br : Frame := { (default : Frame) with fn := b.fn, kind := .normal, roundOf := some (w.heap.size + 1) }
    have hfr : ∀ tm, Frame.round (w.heap.size + 1) b.fn tm asg body .normal = br.atR { tmps := tm, defers := [] } [.code asg, .beginRound, .code body] := fun tm => by simp [Frame.round, Frame.atR, br]
    -- it is enough to come back with a bool
    suffices hmain : ∃ v w', (∃ F', (∀ b, F' b → F b ∨ W.heap.size ≤ b) ∧ (∀ b, F' b → b < w'.heap.size) ∧ Kept W w' F ∧ ((v = .bool true ∧ J (i + 1) F' w') ∨ (v = .bool false ∧ Jx F' w'))) ∧ Steps g.P (lone (br.atR { tmps := (ps.zip vs).foldl (fun t (p, v) => t.setIfInBounds p v) a.tmps, defers := [] } [.code asg, .beginRound, .code body]) (c :: cs') W) (lone (c.finish v) cs' w') by
      obtain ⟨v, w', ⟨F', q1, q1b, q2, q3⟩, hst⟩ := hmain
      refine ⟨.returned v, w', ⟨F', q1, q1b, q2, ?_⟩, ?_⟩
      · rcases q3 with ⟨rfl, q⟩ | ⟨rfl, q⟩
        · exact .inl ⟨rfl, q⟩
        · exact .inr ⟨rfl, q⟩
      · rw [hfr]
        exact stepsIn_wide.2 hst
    have hsp := fun ν => setP_spec (w := W) (S := fun _ => False) (μ := fun _ => none) (ν := ν) ps.toList (enc y) vs.toList a.tmps hps hlen hnt (hvs ν)
    have htm : (ps.zip vs).foldl (fun t (p, v) => t.setIfInBounds p v) a.tmps = (ps.toList.zip vs.toList).foldl (fun t (p : Nat × Value) => t.setIfInBounds p.1 p.2) a.tmps := by
      rw [← Array.foldl_toList, Array.toList_zip]
    rw [htm]
    generalize hTM : (ps.toList.zip vs.toList).foldl (fun t (p : Nat × Value) => t.setIfInBounds p.1 p.2) a.tmps = tm at hsp ⊢
    have notps : ∀ (L : List Nat) (u : Nat), psOK g.nt (sl0.map (·.1)) L = true → u ∈ sl0.map (·.1) → u ∉ L := by
      intro L
      induction L with
      | nil => intro u _ _ h; cases h
      | cons p L ih =>
        intro u h hu hm
        simp only [psOK, Bool.and_eq_true] at h
        rcases List.mem_cons.1 hm with rfl | hm
        · exact any_beq h.1.1.2 hu
        · exact ih u h.2 hu hm
    have hpr : ∀ u, u ∈ sl0.map (·.1) → tm.getD u undef = a.tmps.getD u undef := fun u hu => (hsp fun _ => false).2.1 u (notps _ u hps hu)
    -- the state behind the parameters
    have hcoreP : ∀ ν, Core (St.toM ⟨zipSl ps.toList (enc y) ++ sl0, (Js s).lb⟩) tm W S1 μ1 ν := fun ν => by
      refine ⟨fun u => ?_, (hcore ν).mem, (hcore ν).inj, (hcore ν).bound⟩
      simp only [St.toM, St.get, look_append]
      cases h1 : look (zipSl ps.toList (enc y)) u with
      | some x => exact ((hsp ν).2.2 u x h1).mono (fun _ x => x.elim) (fun _ x => x.elim) (fun _ _ e => by cases e)
      | none =>
        simp only
        cases h2 : look sl0 u with
        | none => exact .any _
        | some x =>
          have := (hcore ν).slots u
          simp only [St.toM, hsl, St.get, h2] at this
          rw [hpr u (look_keys h2)]
          exact this
    have hcore0 := hcore fun _ => false
    have nlS : ∀ {q : Nat} {r : Loop}, W.heap[q]? = some (.loop r) → ¬ OwnB (Js s).toM μ1 q := fun e h => by obtain ⟨_, _, hb⟩ := hcore0.ownAt h; exact hb.notLoop e
    have ndS : ∀ {q : Nat} {r : Option (List Deferred)}, W.heap[q]? = some (.deferred r) → ¬ OwnB (Js s).toM μ1 q := fun e h => by obtain ⟨_, _, hb⟩ := hcore0.ownAt h; exact hb.notDeferred e
    have hlW : w.heap.size + 1 < W.heap.size := (Array.getElem?_eq_some_iff.1 hinv.dl).1
    let C1 : Cx := Cx.at g.P g.nt W S1 (St.toM ⟨zipSl ps.toList (enc y) ++ sl0, (Js s).lb⟩) μ1 hinv.glob hcore0.mem hcore0.bound [] (fun d h => by cases h) List.nodup_nil
    have hsim1 : SimB C1 ⟨zipSl ps.toList (enc y) ++ sl0, (Js s).lb⟩ { tmps := tm, defers := [] } W := ⟨S1, μ1, fun ν => (hcoreP ν).sim (hsp fun _ => false).1 _ _ _ _ _ _ rfl⟩
    let Rr : Value → World → Prop := fun v w' => ∃ F', (∀ b, F' b → F b ∨ W.heap.size ≤ b) ∧ (∀ b, F' b → b < w'.heap.size) ∧ Kept W w' F ∧ ((v = .bool true ∧ J (i + 1) F' w') ∨ (v = .bool false ∧ Jx F' w'))
    let Z1 : Cx → Frame → Cx → List Frame → Machine → Prop := fun CC bb C' cs1 m => C' = CC → cs1 = c :: cs' → bb = br → ∃ v w', Rr v w' ∧ Steps g.P m (lone (c.finish v) cs' w')
    have zsc : ∀ CC : Cx, ∀ C' bb cs1 m m', Steps g.P m m' → Z1 CC bb C' cs1 m' → Z1 CC bb C' cs1 m := fun CC C' bb cs1 m m' hst hz e1 e2 e3 => by
      obtain ⟨v, w', q1, q2⟩ := hz e1 e2 e3
      exact ⟨v, w', q1, hst.trans q2⟩
    have hrbr : ∀ gg : Goal, gg.md = 1 → (br.roundOf = none ↔ gg.md ≠ 1) := fun gg h => ⟨fun e => by simp [br] at e, fun e => absurd h e⟩
    refine hasg s y a.tmps (fun C' bb cs1 m => Z1 C1 bb C' cs1 m) (fun C' bb cs1 m m' => zsc C1 C' bb cs1 m m') hym ?_ C1 rfl rfl _ W (fun u hu => hpr u hu) hsim1 br (c :: cs') hb1 rfl (hrbr _ rfl) rfl rfl rfl
    intro C' e1 e2 a1 W' hk1 hs1 bb cs1 _ _ _ hCC hcs hbb
    subst hCC; subst hcs; subst hbb
    obtain ⟨S2, μ2, hsim2⟩ := hs1
    have h2 := hsim2 fun _ => false
    have hkW : Kept W W' (OwnB (Js s).toM μ1) := h2.kept
    have hl' : W'.heap[w.heap.size + 1]? = some (.loop (rec_ .ready none)) := (hkW.block _ hlW (nlS hinv.dl)).trans hinv.dl
    have hD' : W'.heap[w.heap.size]? = some (.deferred (some [])) := (hkW.block _ (by omega) (ndS hinv.dD)).trans hinv.dD
    have hbr' := run_beginRound (P := g.P) hl' (by rw [hrec])
    have hst1 : Steps g.P (lone (br.atR a1 [.beginRound, .code body]) (c :: cs') W') (lone (br.atR a1 [.code body]) (c :: cs') (W'.putObj (w.heap.size + 1) (.loop { rec_ .ready none with state := .busy }))) := .one (stepR_beginRound rfl hbr')
    obtain ⟨W2, hW2⟩ : ∃ W2, W'.putObj (w.heap.size + 1) (.loop { rec_ .ready none with state := .busy }) = W2 := ⟨_, rfl⟩
    rw [hW2] at hst1
    have hkl : Kept W' W2 (fun q => q = w.heap.size + 1) := hW2 ▸ kept_put
    have hl2 : W2.heap[w.heap.size + 1]? = some (.loop { rec_ .ready none with state := .busy }) := by rw [← hW2]; exact World.putObj_heap_same (Array.getElem?_eq_some_iff.1 hl').1
    have new2 : ∀ q, S2 q → S1 q ∨ W.heap.size ≤ q ∨ OwnB (Js s).toM μ1 q := h2.fresh
    have nl2 : ¬ S2 (w.heap.size + 1) := fun h => by
      rcases new2 _ h with q | q | q
      · exact hinv.nl q
      · omega
      · exact nlS hinv.dl q
    have nD2 : ¬ S2 w.heap.size := fun h => by
      rcases new2 _ h with q | q | q
      · exact hinv.nD q
      · omega
      · exact ndS hinv.dD q
    have own2 : ∀ q, OwnB (stA s y).toM μ2 q → W.heap.size ≤ q ∨ OwnB (Js s).toM μ1 q := fun q hq => h2.ownB hq
    have hS2 : ∀ q, S2 q → W2.heap[q]? = W'.heap[q]? := fun q hq => hkl.block q (h2.bound q hq) (fun e => nl2 (e ▸ hq))
    have nO2 : ¬ OwnB (stA s y).toM μ2 (w.heap.size + 1) := fun h => by obtain ⟨_, _, hb⟩ := h2.core.ownAt h; exact hb.notLoop hl'
    have nOD2 : ¬ OwnB (stA s y).toM μ2 w.heap.size := fun h => by obtain ⟨_, _, hb⟩ := h2.core.ownAt h; exact hb.notDeferred hD'
    have hcore2 : ∀ ν, Core (stA s y).toM a1.tmps W2 S2 μ2 ν := fun ν => (hsim2 ν).core.keep (fun _ => .inr rfl) hS2 (fun q hq => hkl.block q (by obtain ⟨_, _, hb⟩ := (hsim2 ν).core.ownAt hq; exact hb.lt) (fun e => nO2 (e ▸ hq))) hkl.size
    have hglob2 : GlobOK W2 S2 := h2.glob.mono (fun _ x => x) hS2
    let C2 : Cx := Cx.at g.P g.nt W2 S2 (stA s y).toM μ2 hglob2 (hcore2 fun _ => false).mem (hcore2 fun _ => false).bound [] (fun d h => by cases h) List.nodup_nil
    have hsim3 : SimB C2 (stA s y) a1 W2 := ⟨S2, μ2, fun ν => (hcore2 ν).sim h2.tmps _ _ _ _ _ _ h2.defers⟩
    suffices hfin : Z1 C2 br C2 (c :: cs') (lone (br.atR a1 [.code body]) (c :: cs') W2) by
      obtain ⟨v, w', q1, q2⟩ := hfin rfl rfl rfl
      exact ⟨v, w', q1, hst1.trans q2⟩
    -- how a round ends
    have hend : ∀ (stE : St) (jump : Option Code) (a3 : Act) (W3 : World) (S3 : Nat → Prop) (μ3 : Mu), stE.sl = sl0 → (∀ u, u ∈ sl0.map (·.1) → a3.tmps.getD u undef = a.tmps.getD u undef) → (∀ ν, Sim C2 stE.toM a3 W3 S3 μ3 ν) →
        ∃ W4 F', (Instr.endRound (w.heap.size + 1) jump).run g.P W3 = .ok (.bool jump.isNone) W4 ∧ (∀ b, F' b → F b ∨ W.heap.size ≤ b) ∧ (∀ b, F' b → b < W4.heap.size) ∧ Kept W W4 F ∧ (∀ ν, Core stE.toM a.tmps W4 S3 μ3 ν) ∧ RfInv w S Own0 S3 stE.toM μ3 (rec_ (if jump.isNone then .ready else .done) jump) F' W4 := by
      intro stE jump a3 W3 S3 μ3 hE hpr3 hsim3
      have h3 := hsim3 fun _ => false
      have hk23 : Kept W2 W3 (OwnB (stA s y).toM μ2) := h3.kept
      have hl3 : W3.heap[w.heap.size + 1]? = some (.loop { rec_ .ready none with state := .busy }) := (hk23.block _ (Array.getElem?_eq_some_iff.1 hl2).1 nO2).trans hl2
      have hD2 : W2.heap[w.heap.size]? = some (.deferred (some [])) := (hkl.block _ (by have := hkW.size; omega) (by omega)).trans hD'
      have hD3 : W3.heap[w.heap.size]? = some (.deferred (some [])) := (hk23.block _ (Array.getElem?_eq_some_iff.1 hD2).1 nOD2).trans hD2
      have her := run_endRound (P := g.P) jump hl3
      obtain ⟨W4, hW4⟩ : ∃ W4, W3.putObj (w.heap.size + 1) (.loop { ({ rec_ .ready none with state := .busy } : Loop) with state := if jump.isNone then .ready else .done, pending := jump }) = W4 := ⟨_, rfl⟩
      rw [hW4] at her
      have hkl4 : Kept W3 W4 (fun q => q = w.heap.size + 1) := hW4 ▸ kept_put
      have hsz2 : W.heap.size ≤ W2.heap.size := Nat.le_trans hkW.size hkl.size
      have new3 : ∀ q, S3 q → S1 q ∨ W.heap.size ≤ q ∨ OwnB (Js s).toM μ1 q := fun q hq => by
        rcases h3.fresh q hq with h | h | h
        · exact new2 q h
        · exact .inr (.inl (Nat.le_trans hsz2 h))
        · exact .inr (own2 q h)
      have own3 : ∀ q, OwnB stE.toM μ3 q → W.heap.size ≤ q ∨ OwnB (Js s).toM μ1 q := fun q hq => by
        rcases h3.ownB hq with h | h
        · exact .inl (Nat.le_trans hsz2 h)
        · exact own2 q h
      have nl3 : ¬ S3 (w.heap.size + 1) := fun h => by
        rcases new3 _ h with q | q | q
        · exact hinv.nl q
        · omega
        · exact nlS hinv.dl q
      have nD3 : ¬ S3 w.heap.size := fun h => by
        rcases new3 _ h with q | q | q
        · exact hinv.nD q
        · omega
        · exact ndS hinv.dD q
      have nO3 : ¬ OwnB stE.toM μ3 (w.heap.size + 1) := fun h => by obtain ⟨_, _, hb⟩ := h3.core.ownAt h; exact hb.notLoop hl3
      have hS4 : ∀ q, S3 q → W4.heap[q]? = W3.heap[q]? := fun q hq => hkl4.block q (h3.bound q hq) (fun e => nl3 (e ▸ hq))
      have hwW : w.heap.size ≤ W.heap.size := hinv.kept.size
      have hKF : Kept W W4 F := by
        refine ((((hkW.mono' (fun q hq => (hinv.F q).2 (.inl hq))).trans hkl (T' := fun q => q = w.heap.size + 1) (fun q _ e => (hinv.F q).2 (.inr (.inr (.inl e))))).trans hk23 (fun q hq h => ?_)).trans hkl4 (fun q _ e => (hinv.F q).2 (.inr (.inr (.inl e)))))
        rcases own2 q h with h | h
        · omega
        · exact (hinv.F q).2 (.inl h)
      refine ⟨W4, fun q => OwnB stE.toM μ3 q ∨ (S3 q ∧ ¬ S q) ∨ q = w.heap.size + 1 ∨ q = w.heap.size, her, fun q hq => ?_, fun q hq => ?_, hKF, fun ν => ?_, ?_⟩
      · rcases hq with h | ⟨h, hns⟩ | h | h
        · exact (own3 q h).symm.imp (fun h => (hinv.F q).2 (.inl h)) (fun x => x)
        · rcases new3 q h with h | h | h
          · exact .inl ((hinv.F q).2 (.inr (.inl ⟨h, hns⟩)))
          · exact .inr h
          · exact .inl ((hinv.F q).2 (.inl h))
        · exact .inl ((hinv.F q).2 (.inr (.inr (.inl h))))
        · exact .inl ((hinv.F q).2 (.inr (.inr (.inr h))))
      · have hs34 := hkl4.size
        have h3l := (Array.getElem?_eq_some_iff.1 hl3).1
        rcases hq with h | ⟨h, _⟩ | h | h
        · obtain ⟨_, _, hb⟩ := h3.core.ownAt h
          have := hb.lt
          omega
        · have := h3.bound q h
          omega
        · omega
        · omega
      · refine (hsim3 ν).core.keep (fun u => ?_) hS4 (fun q hq => hkl4.block q (by obtain ⟨_, _, hb⟩ := (hsim3 ν).core.ownAt hq; exact hb.lt) (fun e => nO3 (e ▸ hq))) hkl4.size
        simp only [St.toM, hE, St.get]
        cases hlk : look sl0 u with
        | none => exact .inl rfl
        | some x => exact .inr (hpr3 u (look_keys hlk)).symm
      · refine ⟨h3.glob.mono (fun _ x => x) hS4, fun q hq => h3.stable q (h2.stable q (hinv.sub q hq)), fun q hq => ?_, fun q hq => ?_, ?_, (hkl4.block _ (Array.getElem?_eq_some_iff.1 hD3).1 (by omega)).trans hD3, ?_, nD3, nl3, fun q => Iff.rfl⟩
        · rcases new3 q hq with h | h | h
          · exact hinv.new q h
          · exact .inr (.inl (Nat.le_trans hwW h))
          · exact .inr (hinv.own q h).symm
        · rcases own3 q hq with h | h
          · exact .inr (Nat.le_trans hwW h)
          · exact hinv.own q h
        · refine hinv.kept.trans hKF (fun q hq h => ?_)
          rcases (hinv.F q).1 h with h | ⟨h, hns⟩ | h | h
          · exact (hinv.own q h).resolve_right (by omega)
          · rcases hinv.new q h with h | h | h
            · exact absurd h hns
            · omega
            · exact h
          · omega
          · omega
        · rw [← hW4]
          have := World.putObj_heap_same (o := .loop { ({ rec_ .ready none with state := .busy } : Loop) with state := if jump.isNone then .ready else .done, pending := jump }) (Array.getElem?_eq_some_iff.1 hl3).1
          rw [this, hrec]
    refine hbody i s y a.tmps (fun C' bb cs1 m => Z1 C2 bb C' cs1 m) (fun C' bb cs1 m m' => zsc C2 C' bb cs1 m m') hIs hyi ?_ C2 rfl rfl a1 W2 hk1 hsim3 br (c :: cs') hb1 rfl (hrbr _ rfl)
    cases hst : step s y with
    | inr s' =>
      simp only
      intro C' e1 e2 a3 W3 hk3 hs3 bb cs1 _ _ _ hCC hcs hbb
      subst hCC; subst hcs; subst hbb
      obtain ⟨S3, μ3, hsim3'⟩ := hs3
      obtain ⟨W4, F', q1, q2, q2b, q3, q4, q5⟩ := hend (Js s') none a3 W3 S3 μ3 (hsl s') (fun u hu => hk3 u hu) hsim3'
      have hIs' : I (i + 1) s' := by have := hI i s y hIs hyi; rw [hst] at this; exact this
      exact ⟨.bool true, W4, ⟨F', q2, q2b, q3, .inl ⟨rfl, s', S3, μ3, by rw [ht1, hst], hIs', q4, q5⟩⟩, .one (stepR_round_end rfl rfl q1)⟩
    | inl bv =>
      simp only
      intro k' hx C' e1 e2 a3 W3 hk3 hs3 bb cs1 _ _ _ hCC hcs hbb
      subst hCC; subst hcs; subst hbb
      obtain ⟨S3, μ3, hsim3'⟩ := hs3
      obtain ⟨W4, F', q1, q2, q2b, q3, q4, q5⟩ := hend (Jb bv) (some (.exit id)) a3 W3 S3 μ3 (hbl bv) (fun u hu => hk3 u hu) hsim3'
      exact ⟨.bool false, W4, ⟨F', q2, q2b, q3, .inr ⟨rfl, bv, S3, μ3, ht2 bv hst, q4, q5⟩⟩, .one (stepR_round_exit rfl rfl hx q1)⟩
  -- THE CALL
  have hcall := hit.2 W1 S μ cvs (w.heap.size + 1) J Jx F0 (fun b hb => Nat.lt_of_lt_of_le (hs0.bound b hb) hk01.size) hinv1.glob (fun ν => ⟨(hrc ν).1, fun i hi => ((hrc ν).2 i hi).mono (fun _ x => x) hS1 (fun _ _ e => e)⟩)
    (fun q hq h => by
      rcases h with h | ⟨_, h⟩ | h | h
      · obtain ⟨_, _, hb⟩ := hs0.core.ownAt h
        exact hb.not hq
      · exact h hq
      · have := hs0.bound q hq; omega
      · have := hs0.bound q hq; omega)
    (fun q h => by
      rcases h with h | ⟨h, h'⟩ | h | h
      · obtain ⟨_, _, hb⟩ := hs0.core.ownAt h
        have := hb.lt
        omega
      · exact absurd h h'
      · omega
      · omega)
    (fun i F W W' hJ hkk => by
      obtain ⟨s, S1, μ1, q1, q2, q3, q4⟩ := hJ
      obtain ⟨r1, r2⟩ := q4.keep q3 (n := W1.heap.size) (by omega) hkk
      exact ⟨s, S1, μ1, q1, q2, r2, r1⟩)
    (fun F W W' hJ hkk => by
      obtain ⟨s, S1, μ1, q1, q3, q4⟩ := hJ
      obtain ⟨r1, r2⟩ := q4.keep q3 (n := W1.heap.size) (by omega) hkk
      exact ⟨s, S1, μ1, q1, r2, r1⟩)
    hround ⟨s0, S, μ, by simp [runY], hI0, hcore1, hinv1⟩
  let fr1 : Frame := b.atR { a with defers := [{ target := .collected w.heap.size, args := #[] }] ++ a.defers } (.inRangeFunc (w.heap.size + 1) :: k)
  obtain ⟨e, w', fr, ⟨⟨v, rfl⟩, hJJ⟩, hcomes, hfrf, hleave⟩ := hcall (fr1 :: cs)
  have hen : (Instr.enterLoop b.fn a.tmps ps asg body b.roundOf).run g.P w = .ok (w.heap.size + 1, [{ target := .collected w.heap.size, args := #[] }]) W1 := by
    rw [hrd, ← hW1, hrec]; exact run_enterLoop_outer _ _ _ _ _
  have hres : (resolve a.eval (rangeCall (.tmp t) (w.heap.size + 1)) 0).run g.P W1 = .ok { target := .fn (.func gf) cvs, args := #[.func (.yield (w.heap.size + 1)) #[] #[]] } W1 := by
    have : a.eval (.tmp t) = .func (.func gf) #[] cvs := hfv
    simp only [resolve, this]
    simp [go_sem]
  have hinvk : (invoke (.fn (.func gf) cvs) #[.func (.yield (w.heap.size + 1)) #[] #[]]).run g.P W1 = .ok (.enter gf (#[.func (.yield (w.heap.size + 1)) #[] #[]] ++ cvs)) W1 := by
    have eg := fun args => callable_run (w := W1) hit.1 args
    simp [invoke, go_sem, eg]
  have hst0 : Steps g.P (lone (b.atR a (.code (.rangeFunc (.tmp t) ps asg body) :: k)) cs w) (lone (Frame.enter g.P gf (#[.func (.yield (w.heap.size + 1)) #[] #[]] ++ cvs) .normal) (fr1 :: cs) W1) := .one (stepR_rangeFunc hen hres hinvk)
  have hst1 : Steps g.P (lone (b.atR a (.code (.rangeFunc (.tmp t) ps asg body) :: k)) cs w) (lone (b.atR { a with defers := [{ target := .collected w.heap.size, args := #[] }] ++ a.defers } (.endRangeFunc (w.heap.size + 1) :: k)) cs w') := by
    refine hst0.trans (Steps.trans hcomes (.one ?_))
    rw [← finish_atR_inRangeFunc (w.heap.size + 1) v]
    exact step_leave_returned hleave
  -- what comes then
  have hafter : ∀ (stE : St) (S1 : Nat → Prop) (μ1 : Mu) (r : Loop) (F : Nat → Prop) (k' : List Item), (∀ ν, Core stE.toM a.tmps w' S1 μ1 ν) → RfInv w S Own0 S1 stE.toM μ1 r F w' → r.state ≠ .busy → (r.pending.map Item.code).toList ++ k = k' → G g k' stE → g.Z C b cs (lone (b.atR a (.code (.rangeFunc (.tmp t) ps asg body) :: k)) cs w) := by
    intro stE S1 μ1 r F k' hcore hinv hbusy hkk hG
    have hel := run_endLoop (P := g.P) hinv.dl hbusy
    have hst2 := Steps.trans hst1 (.one (stepR_endRangeFunc hel))
    rw [hkk] at hst2
    obtain ⟨W5, hW5⟩ : ∃ W5, w'.putObj (w.heap.size + 1) (.loop { r with state := .exhausted }) = W5 := ⟨_, rfl⟩
    rw [hW5] at hst2
    have hkl : Kept w' W5 (fun q => q = w.heap.size + 1) := hW5 ▸ kept_put
    have hc0 := hcore fun _ => false
    have nO : ¬ OwnB stE.toM μ1 (w.heap.size + 1) := fun h => by obtain ⟨_, _, hb⟩ := hc0.ownAt h; exact hb.notLoop hinv.dl
    have hS5 : ∀ q, S1 q → W5.heap[q]? = w'.heap[q]? := fun q hq => hkl.block q (hc0.bound q hq) (fun e => hinv.nl (e ▸ hq))
    have hcore5 : ∀ ν, Core stE.toM a.tmps W5 S1 μ1 ν := fun ν => (hcore ν).keep (fun _ => .inr rfl) hS5 (fun q hq => hkl.block q (by obtain ⟨_, _, hb⟩ := (hcore ν).ownAt hq; exact hb.lt) (fun e => nO (e ▸ hq))) hkl.size
    have hk5 : Kept w W5 Own0 := hinv.kept.trans hkl (fun q hq e => by omega)
    have hwsz : w.heap.size < w'.heap.size := (Array.getElem?_eq_some_iff.1 hinv.dD).1
    have hdok : ∀ d, d ∈ [({ target := .collected w.heap.size, args := #[] } : Deferred)] ++ a.defers → ∃ q, d = { target := .collected q, args := #[] } ∧ W5.heap[q]? = some (.deferred (some [])) ∧ ¬ S1 q := by
      intro d hd
      rcases List.mem_append.1 hd with hd | hd
      · simp only [List.mem_singleton] at hd
        exact ⟨w.heap.size, hd, (hkl.block _ hwsz (by omega)).trans hinv.dD, hinv.nD⟩
      · rw [hs0.defers] at hd
        obtain ⟨q, e, q1, q2⟩ := hs0.dokw d hd
        have hq := (Array.getElem?_eq_some_iff.1 q1).1
        have nq : ¬ Own0 q := fun h => by obtain ⟨_, _, hb⟩ := hs0.core.ownAt h; exact hb.notDeferred q1
        refine ⟨q, e, (hk5.block q hq nq).trans q1, fun h => ?_⟩
        rcases hinv.new q h with h | h | h
        · exact q2 h
        · omega
        · exact nq h
    have hdnd : ([({ target := .collected w.heap.size, args := #[] } : Deferred)] ++ a.defers).Nodup := by
      refine List.nodup_cons.2 ⟨fun hd => ?_, by rw [hs0.defers]; exact C.dnd⟩
      rw [hs0.defers] at hd
      obtain ⟨q, e, q1, q2⟩ := hs0.dokw _ hd
      cases e
      have := (Array.getElem?_eq_some_iff.1 q1).1
      omega
    let C5 : Cx := Cx.at g.P g.nt W5 S1 stE.toM μ1 (hinv.glob.mono (fun _ x => x) hS5) (hcore5 fun _ => false).mem (hcore5 fun _ => false).bound _ hdok hdnd
    have hsim5 : SimB C5 stE { a with defers := [{ target := .collected w.heap.size, args := #[] }] ++ a.defers } W5 := ⟨S1, μ1, fun ν => Core.sim (a := { a with defers := [{ target := .collected w.heap.size, args := #[] }] ++ a.defers }) (hcore5 ν) hnt _ _ _ _ _ _ rfl⟩
    have own0 : ∀ q, Own0 q → C.w0.heap.size ≤ q ∨ C.T0 q := fun q hq => hs0.ownB hq
    have hw0 : C.w0.heap.size ≤ w.heap.size := hs0.kept.size
    refine g.zs C b cs _ _ hst2 (hz (C' := C5) ⟨fun q hq => hinv.sub q (hs0.stable q hq), fun q hq => ?_, hs0.kept.trans hk5 (fun q hq h => (own0 q h).resolve_left (by omega)), fun q hq => ?_⟩ (hG C5 rfl rfl { a with defers := [{ target := .collected w.heap.size, args := #[] }] ++ a.defers } W5 hkp hsim5 b cs hb1 hb2 hb3))
    · rcases hinv.new q hq with h | h | h
      · exact hs0.fresh q h
      · exact .inr (.inl (Nat.le_trans hw0 h))
      · exact .inr (own0 q h)
    · rcases hq with h | h
      · rcases hinv.own q h with h | h
        · exact ((own0 q h).imp (fun x => x) .inl).symm
        · exact .inr (Nat.le_trans hw0 h)
      · rcases List.mem_append.1 h with h | h
        · simp only [List.mem_singleton, Deferred.mk.injEq, Target.collected.injEq, and_true] at h
          subst h
          exact .inr hw0
        · rw [hs0.defers] at h
          exact .inl (.inr h)
  rcases hJJ with ⟨F, s, S1, μ1, q1, q2, q3, q4⟩ | ⟨F, bv, S1, μ1, q1, q3, q4⟩
  · have q1 : runY step ys s0 = .inr s := by
      have e : ys.take (ys.map enc).length = ys := by simp
      rw [e] at q1; exact q1
    rw [q1] at hk
    exact hafter (Js s) S1 μ1 _ F k q3 q4 (by rw [hrec]; simp) (by rw [hrec]; rfl) hk
  · rw [q1] at hk
    exact hafter (Jb bv) S1 μ1 _ F _ q3 q4 (by rw [hrec]; simp) (by rw [hrec]; rfl) hk

end Go.Av

