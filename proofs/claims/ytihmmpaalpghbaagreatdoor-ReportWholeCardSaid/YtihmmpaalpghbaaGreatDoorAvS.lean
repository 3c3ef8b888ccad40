/- Control: what is left to do, from an abstract state. -/
import Derived.Test.YtihmmpaalpghbaaGreatDoorAvR
set_option linter.unusedSimpArgs false
set_option linter.unusedVariables false
namespace Go.Av
open Go
set_option linter.unusedSectionVars false
variable [Globs]
def Cx.TD (C : Cx) (q : Nat) : Prop := C.T0 q ∨ ({ target := .collected q, args := #[] } : Deferred) ∈ C.dl
def Post (C : Cx) (res : AV) (lbs : List (Nat × Blk)) (e : Ending) (w' : World) : Prop := ∃ v S' μ', e = .returned v ∧ Back C.w0 C.S0 C.TD res lbs v S' μ' w'
structure Goal where
 P : Program
 T : List (Nat × TI)
 nt : Nat
 f : FuncId
 fn : Func
 res : AV
 lbs : List (Nat × Blk)
 md : Nat
 pr : List Nat
 tm : Array Value
 Z : Cx → Frame → List Frame → Machine → Prop
 zs : ∀ C b cs m m', Steps P m m' → Z C b cs m' → Z C b cs m
def Goal.kept (g : Goal) (t : Array Value) : Prop := ∀ u, u ∈ g.pr → t.getD u undef = g.tm.getD u undef
def Runs (g : Goal) (C : Cx) (todo : List Item) (a : Act) (w : World) : Prop :=
 ∀ (b : Frame) (cs : List Frame), b.fn = g.f → b.kind = .normal → (b.roundOf = none ↔ g.md ≠ 1) → g.Z C b cs (lone (b.atR a todo) cs w)
def G (g : Goal) (todo : List Item) (st : St) : Prop := ∀ C : Cx, C.P = g.P → C.nt = g.nt → ∀ a w, g.kept a.tmps → SimB C st a w → Runs g C todo a w
def LeS (st st' : St) : Prop := ∀ C a w, SimB C st a w → SimB C st' a w
def noDst (l : List Nat) (ops : Array Oper) : Bool := l.all fun t => ops.toList.all fun o => match o.dst with | some d => !Nat.beq d t | none => true
def regR (md : Nat) (pr : List Nat) (ops : Array Oper) : Bool := noDst pr ops && (!Nat.beq md 1 || noDefer ops)
section
variable {g : Goal} {k : List Item} {st st' : St}
theorem Runs.step {C : Cx} {todo todo' : List Item} {a a' : Act} {w w' : World} (h : ∀ (b : Frame) (cs : List Frame), Steps g.P (lone (b.atR a todo) cs w) (lone (b.atR a' todo') cs w')) (hr : Runs g C todo' a' w') : Runs g C todo a w :=
 fun b cs h1 h2 h3 => g.zs C b cs _ _ (h b cs) (hr b cs h1 h2 h3)
theorem G.le (h : LeS st st') (hg : G g k st') : G g k st := fun C h1 h2 a w hk hs => hg C h1 h2 a w hk (h C a w hs)
theorem G.seq {x y : Code} (h : G g (.code x :: .code y :: k) st) : G g (.code (.seq x y) :: k) st := fun C h1 h2 a w hk hs => (h C h1 h2 a w hk hs).step fun _ _ => .one stepR_seq
theorem G.skip (h : G g k st) : G g (.code .skip :: k) st := fun C h1 h2 a w hk hs => (h C h1 h2 a w hk hs).step fun _ _ => .one stepR_skip
theorem G.label {l : Nat} (h : G g k st) : G g (.code (.label l) :: k) st := fun C h1 h2 a w hk hs => (h C h1 h2 a w hk hs).step fun _ _ => .one stepR_label
theorem G.block {id : Nat} {c : Code} (h : G g (.code c :: .inBlock id :: k) st) : G g (.code (.block id c) :: k) st := fun C h1 h2 a w hk hs => (h C h1 h2 a w hk hs).step fun _ _ => .one stepR_block
theorem G.inBlock {id : Nat} (h : G g k st) : G g (.inBlock id :: k) st := fun C h1 h2 a w hk hs => (h C h1 h2 a w hk hs).step fun _ _ => .one stepR_inBlock
theorem G.inLoop {c : Code} (h : G g (.code c :: .inLoop c :: k) st) : G g (.inLoop c :: k) st := fun C h1 h2 a w hk hs => (h C h1 h2 a w hk hs).step fun _ _ => .one stepR_inLoop
theorem G.exit {id : Nat} {k' : List Item} (he : exitTo id k = some k') (h : G g k' st) : G g (.code (.exit id) :: k) st := fun C h1 h2 a w hk hs => (h C h1 h2 a w hk hs).step fun _ _ => .one (stepR_exit he)
theorem G.cond {c : Nat} {x y : Code} {e : Bool} (hc : St.get st.sl c = .d (.v (.bool e))) (ht : e = true → G g (.code x :: k) st) (hf : e = false → G g (.code y :: k) st) : G g (.code (.cond (.tmp c) x y) :: k) st := by
 intro C h1 h2 a w hk hs
 obtain ⟨S, μ, hsim⟩ := hs
 have hr := (hsim fun _ => false).slots c
 simp only [St.toM, hc] at hr
 have he : a.eval (.tmp c) = .bool e := rel_bool hr
 cases e with
 | true => exact (ht rfl C h1 h2 a w hk ⟨S, μ, hsim⟩).step fun _ _ => .one (by simpa using stepR_cond (x := x) (y := y) he)
 | false => exact (hf rfl C h1 h2 a w hk ⟨S, μ, hsim⟩).step fun _ _ => .one (by simpa using stepR_cond (x := x) (y := y) he)
theorem G.condC {x y : Code} {e : Bool} (h : G g (.code (bif e then x else y) :: k) st) : G g (.code (.cond (.const (.bool e)) x y) :: k) st := by
 intro C h1 h2 a w hk hs
 have he : a.eval (.const (.bool e)) = .bool e := rfl
 cases e with
 | true => exact (h C h1 h2 a w hk hs).step fun _ _ => .one (by simpa using stepR_cond (x := x) (y := y) he)
 | false => exact (h C h1 h2 a w hk hs).step fun _ _ => .one (by simpa using stepR_cond (x := x) (y := y) he)
theorem Goal.putOK {ops : Array Oper} (h : regR g.md g.pr ops = true) : PutOK ops g.kept := by
 intro i o a v ho hk u hu
 unfold regR at h
 simp only [Bool.and_eq_true, noDst, List.all_eq_true] at h
 have h1 := h.1 u hu o (by obtain ⟨hi, rfl⟩ := Array.getElem?_eq_some_iff.1 ho; simp)
 rw [← hk u hu]
 cases hd : o.dst with
 | none => rfl
 | some d =>
  rw [hd] at h1
  exact getD_set_other _ _ _ _ (fun e => by subst e; simp at h1)
theorem G.ops (hm : g.P.follows .mixedOrders = true) {C : Cx} {id : Nat} {ops : Array Oper} {draw : Bool} {a : Act} {w : World} {Q : Act → World → Prop} (hr : regR g.md g.pr ops = true) (ha : g.kept a.tmps)
  (h : (draw = false ∧ wpOps g.P ops (fun e a' w' => e = .normal ∧ Q a' w') (List.range ops.size) a w) ∨ (draw = true ∧ wpAny g.P .any ops (fun e a' w' => e = .normal ∧ Q a' w') ops.size (Array.replicate ops.size false) a { w with drawn := w.drawn + 1 }))
  (hg : ∀ a' w', g.kept a'.tmps → Q a' w' → Runs g C k a' w') : Runs g C (.code (.region id ops draw) :: k) a w := by
 intro b cs h1 h2 h3
 obtain ⟨a', w', q1, q2, q3⟩ := arr_of (id := id) hm (Goal.putOK hr) (fun e a w h => h.1) ha h b (by
  by_cases hp : g.md = 1
  ·unfold regR at hr; simp only [Bool.and_eq_true, hp] at hr; exact .inr (by simpa using hr.2)
  ·exact .inl (h3.2 hp)) k cs
 exact g.zs C b cs _ _ q3 (hg a' w' q2 q1.2 b cs h1 h2 h3)
theorem G.region (hT : TOk g.P g.T) (hm : g.P.follows .mixedOrders = true) {id : Nat} {ops : Array Oper} {draw : Bool} {keep : Option (List Nat)} {orc : List Orc} {ob : Ob} (hr : regR g.md g.pr ops = true) (h : evRegion g.P g.T g.nt ops draw keep st orc = some (st', ob)) (hob : ob.den) (hg : G g k st') : G g (.code (.region id ops draw) :: k) st := by
 intro C h1 h2 a w hk hs
 have hw := region_ops (C := C) (T := g.T) (by rw [h1]; exact hT) (by rw [h1]; exact hm) (by rw [h1, h2]; exact h) hob hs
 rw [h1] at hw
 exact G.ops hm hr hk hw (fun a' w' hk' hs' => hg C h1 h2 a' w' hk' hs')
theorem G.loop {ι : Type} (I : ι → St) (m : ι → Nat) {c : Code} (i0 : ι) (h0 : LeS st (I i0)) (hr : ∀ i, (∀ j, m j < m i → G g (.inLoop c :: k) (I j)) → G g (.code c :: .inLoop c :: k) (I i)) : G g (.code (.loop c) :: k) st := by
 have key : ∀ n i, m i = n → G g (.code c :: .inLoop c :: k) (I i) := by
  intro n
  induction n using Nat.strongRecOn with
  | _ n ih =>
   intro i hi
   exact hr i (fun j hj => .inLoop (ih (m j) (hi ▸ hj) j rfl))
 intro C h1 h2 a w hk hs
 exact (key _ i0 rfl C h1 h2 a w hk (h0 C a w hs)).step fun _ _ => .one stepR_loop
end
def evRes (T : List (Nat × TI)) (st : St) : List ResultVar → Option (List AV × List (Nat × Blk) × Ob)
 | [] => some ([], [], .tt)
 | .tmp t :: r => (match evRes T st r with | some (l, ro, ob) => some (St.get st.sl t :: l, ro, ob) | none => none)
 | .cell t ty :: r => (match look T ty, ptrCells st.lb (St.get st.sl t), evRes T st r with
  | some i, some (cs, ro1, ob1), some (l, ro, ob) => (match loadC i cs with | some v => some (v :: l, ro1 ++ ro, ob1.and ob) | none => none)
  | _, _, _ => none)
section
variable {C : Cx} {a : Act} {w : World} {S : Nat → Prop} {μ : Mu} {ν : Nat → Bool}
def packV : List Value → Value
 | [v] => v
 | l => .tuple l.toArray
def resVal (tmps : Array Value) : ResultVar → Sem Value
 | .tmp t => pure (tmps.getD t undef)
 | .cell a t => do loadVar t (← asAddr (tmps.getD a undef))
theorem evRes_run {T : List (Nat × TI)} (hT : TOk C.P T) {st : St} (hs : Sim C st.toM a w S μ ν) : ∀ {rs : List ResultVar} {l : List AV} {ro : List (Nat × Blk)} {ob : Ob}, evRes T st rs = some (l, ro, ob) → ob.den → ∃ vs, (rs.mapM (resVal a.tmps)).run C.P w = .ok vs w ∧ RelL w S μ ν l vs
 | [], l, ro, ob, h, _ => by
  simp only [evRes, Option.some.injEq, Prod.mk.injEq] at h
  obtain ⟨rfl, -, -⟩ := h
  exact ⟨[], by simp, rfl, fun i hi => absurd hi (by simp)⟩
 | .tmp t :: r, l, ro, ob, h, hob => by
  simp only [evRes] at h
  split at h
  ·rename_i l' ro' ob' hr
   simp only [Option.some.injEq, Prod.mk.injEq] at h
   obtain ⟨rfl, rfl, rfl⟩ := h
   obtain ⟨vs, h1, h2⟩ := evRes_run hT hs hr hob
   refine ⟨a.tmps.getD t undef :: vs, by simp [List.mapM_cons, resVal, h1], by simp [h2.1], fun i hi => ?_⟩
   cases i with
   | zero =>
    have := hs.slots t
    simp only [St.toM] at this
    simpa using this
   | succ i => simpa using h2.2 i (by simpa using hi)
  ·cases h
 | .cell t ty :: r, l, ro, ob, h, hob => by
  simp only [evRes] at h
  split at h
  ·rename_i i cs ro1 ob1 l' ro' ob' hi hc hr
   split at h
   ·rename_i v hv
    simp only [Option.some.injEq, Prod.mk.injEq] at h
    obtain ⟨rfl, rfl, rfl⟩ := h
    obtain ⟨vs, h1, h2⟩ := evRes_run hT hs hr (Ob.and_den hob).2
    have hat := ptrCells_at hc hs (fun p hp => ptrCells_ro hc p hp) (Ob.and_den hob).1 (hs.slots t)
    obtain ⟨b, o, hp, hcells⟩ := hat
    obtain ⟨u, h3, h4⟩ := loadC_run (P := C.P) (hT _ _ hi) hv (⟨b, o, hp, hcells⟩ : AtCells w S μ ν cs _)
    have h5 : (resVal a.tmps (.cell t ty)).run C.P w = .ok u w := by
     rw [hp] at h3
     simp only [resVal, hp, asAddr, Sem.run_bind, Sem.run_pure, Result.andThen_ok]
     simpa [Instr.loadAt, Instr.sureAddr] using h3
    refine ⟨u :: vs, by simp [List.mapM_cons, h5, h1], by simp [h2.1], fun i hi => ?_⟩
    cases i with
    | zero => simpa using h4
    | succ i => simpa using h2.2 i (by simpa using hi)
   ·cases h
  ·cases h
theorem results_eq (fn : Func) (tmps : Array Value) : results fn tmps = (do let vs ← fn.results.mapM (resVal tmps); pure (if h : vs.size = 1 then vs[0] else .tuple vs) : Sem Value) := by
 unfold results
 congr 2
theorem results_run {fn : Func} {vs : List Value} (h : (fn.results.toList.mapM (resVal a.tmps)).run C.P w = .ok vs w) : (results fn a.tmps).run C.P w = .ok (packV vs) w := by
 rw [results_eq, Array.mapM_eq_mapM_toList]
 simp only [Sem.run_bind, Sem.run_map, h, Result.andThen_ok, Sem.run_pure]
 congr 1
 clear h
 match vs with
 | [] => rfl
 | [v] => rfl
 | _ :: _ :: _ => rfl
end
def AvLe (x y : AV) : Prop := ∀ w S μ ν v, Rel w S μ ν x v → Rel w S μ ν y v
theorem AvLe.rfl' {x : AV} : AvLe x x := fun _ _ _ _ _ h => h
theorem AvLe.d {x y : D} (h : DLe x y) : AvLe (.d x) (.d y) := fun w S _ _ v hr => .d (h w S v (rel_d.1 hr))
def packR : List AV → AV
 | [x] => x
 | l => .tup l
theorem packR_rel {w : World} {S : Nat → Prop} {μ : Mu} {ν : Nat → Bool} {l : List AV} {vs : List Value} (h : RelL w S μ ν l vs) : Rel w S μ ν (packR l) (packV vs) := by
 match l, vs, h with
 | [x], [v], h => simpa [packR, packV] using h.2 0 (by simp)
 | [], [], h => exact .tup rfl (fun i hi => absurd hi (by simp))
 | x :: y :: r, u :: v :: s, h => exact .tup (by simpa using h.1) (fun i hi => by rw [getD_toList]; simpa using h.2 i hi)
 | [], _ :: _, h => have := h.1; simp at this
 | [_], [], h => have := h.1; simp at this
 | [_], _ :: _ :: _, h => have := h.1; simp at this
 | _ :: _ :: _, [], h => have := h.1; simp at this
 | _ :: _ :: _, [_], h => have := h.1; simp at this
theorem step_taken {P : Program} {cs : List Frame} : ∀ (l : List Deferred) (fr : Frame) (w : World), fr.mode = .returning → fr.defers = l → l.Nodup → (∀ d, d ∈ l → ∃ q, d = { target := .collected q, args := #[] } ∧ w.heap[q]? = some (.deferred (some []))) →
  ∃ w', Steps P (lone fr cs w) (lone { fr with defers := [] } cs w') ∧ Kept w w' (fun q => ({ target := .collected q, args := #[] } : Deferred) ∈ l)
 | [], fr, w, _, hd, _, _ => ⟨w, by rw [show ({ fr with defers := [] } : Frame) = fr by rw [← hd]]; exact .refl _ _, Kept.refl _ _⟩
 | d :: l, fr, w, hm, hd, hnd, hl => by
  obtain ⟨q, rfl, hq⟩ := hl d (by simp)
  have h1 := step_collected (P := P) (cs := cs) (d := { target := .collected q, args := #[] }) (by rw [hm]; simp) hd rfl (run_takeDeferred hq)
  have hk : Kept w (w.putObj q (.deferred none)) (fun b => b = q) := ⟨rfl, rfl, rfl, by simp [World.putObj], fun b _ hb => World.putObj_heap_other hb⟩
  obtain ⟨w', h2, h3⟩ := step_taken l { fr with defers := [] ++ l } (w.putObj q (.deferred none)) hm rfl (List.nodup_cons.1 hnd).2 (fun d hd' => by
   obtain ⟨p, rfl, hp⟩ := hl d (by simp [hd'])
   refine ⟨p, rfl, ?_⟩
   have hne : p ≠ q := fun e => (List.nodup_cons.1 hnd).1 (e ▸ hd')
   rw [World.putObj_heap_other hne]; exact hp)
  refine ⟨w', .head h1 h2, (hk.mono' (fun b hb => by subst hb; simp)).trans h3 (fun b _ hb => by simp [hb])⟩
def Cx.shut (C : Cx) : Cx := { C with T0 := C.TD, dis := fun b hb h => h.elim (C.dis b hb) (fun h => (by obtain ⟨q, e, _, _, hq⟩ := C.dok _ h; cases e; exact hq hb)), dl := [], dok := fun d h => (by cases h), dnd := List.nodup_nil }
theorem BlkAt.notDeferred {w : World} {S : Nat → Prop} {μ : Mu} {b : Blk} {g cap : Nat} {o : Option (List Deferred)} (h : BlkAt w S μ b g cap) : w.heap[g]? ≠ some (.deferred o) := by
 cases b with
 | box cs => obtain ⟨cur, e, hg, _⟩ := h; rw [hg]; simp
 | row e k n f => obtain ⟨cur, hg, _⟩ := h; rw [hg]; simp
 | mp n f => obtain ⟨cur, hg, _⟩ := h; rw [hg]; simp
 | it mk n seen => obtain ⟨mg, c, _, hg, _⟩ := h; rw [hg]; simp
 | mx => obtain ⟨m, _, cur, hg, _⟩ := h; rw [hg]; simp
 | tx => obtain ⟨n, f, _, cur, hg, _⟩ := h; rw [hg]; simp
 | rx => obtain ⟨f, _, cur, hg, _⟩ := h; rw [hg]; simp
 | ml => obtain ⟨cur, c, hg, _⟩ := h; rw [hg]; simp
theorem Sim.dokw {C : Cx} {A : M} {a : Act} {w : World} {S : Nat → Prop} {μ : Mu} {ν : Nat → Bool} (h : Sim C A a w S μ ν) : ∀ d, d ∈ C.dl → ∃ q, d = { target := .collected q, args := #[] } ∧ w.heap[q]? = some (.deferred (some [])) ∧ ¬ S q := by
 intro d hd
 obtain ⟨q, e, h1, h2, h3⟩ := C.dok d hd
 have hlt := (Array.getElem?_eq_some_iff.1 h1).1
 refine ⟨q, e, (h.kept.block q hlt h2).trans h1, fun hs => ?_⟩
 rcases h.fresh q hs with h4 | h4 | h4
 ·exact h3 h4
 ·omega
 ·exact h2 h4
theorem Sim.shut {C : Cx} {A : M} {a : Act} {w w' : World} {S : Nat → Prop} {μ : Mu} {ν : Nat → Bool} (h : Sim C A a w S μ ν) (hk : Kept w w' (fun q => ({ target := .collected q, args := #[] } : Deferred) ∈ C.dl)) : Sim C.shut A { a with defers := [] } w' S μ ν := by
 have hw : ∀ b, S b → w'.heap[b]? = w.heap[b]? := fun b hb => hk.block b (h.bound b hb) (fun hd => by
  obtain ⟨q, e, _, hq⟩ := h.dokw _ hd
  cases e
  exact hq hb)
 refine ⟨h.tmps, rfl, fun t => (h.slots t).mono (fun _ x => x) hw (fun _ _ e => e), fun κ b hb => ?_, h.inj, fun κ b g c h1 h2 => ?_, h.stable, fun b hb => ?_, fun b hb => Nat.lt_of_lt_of_le (h.bound b hb) hk.size, ?_⟩
 ·have hm := h.mem κ b hb
  refine hm.mono (fun _ x => x) hw (fun _ _ e => e) (fun g c e => ?_)
  rw [e] at hm
  refine ⟨hk.block g hm.at.lt (fun hd => ?_), hm.at.not⟩
  obtain ⟨q, e', hq, _⟩ := h.dokw _ hd
  cases e'
  exact hm.at.notDeferred hq
 ·rcases h.own κ b g c h1 h2 with q | q
  ·exact .inl q
  ·exact .inr (.inl q)
 ·rcases h.fresh b hb with q | q | q
  ·exact .inl q
  ·exact .inr (.inl q)
  ·exact .inr (.inr (.inl q))
 ·exact (h.kept.mono' (fun _ x => .inl x)).trans hk (fun b _ hb => .inr hb)
structure Goal.Nrm (g : Goal) : Prop where
 md : g.md = 0
 fin : ∀ C b cs m, (∃ e w' fr, Post C g.res g.lbs e w' ∧ Comes g.P m (lone fr cs w') e ∧ fr.fn = g.f ∧ fr.leaving g.P w' e) → g.Z C b cs m
theorem Goal.Nrm.out {g : Goal} (hg : g.Nrm) (hf : g.P.funcs[g.f]? = some g.fn) {C : Cx} (h1 : C.P = g.P) {st : St} {a : Act} {w : World} (hs : SimB C st a w) (hp : ∀ w', SimB C.shut st { a with defers := [] } w' → ∃ v, (results g.fn a.tmps).run C.P w' = .ok v w' ∧ Post C.shut g.res g.lbs (.returned v) w')
  {todo : List Item} (hst : ∀ (b : Frame) (cs : List Frame), b.roundOf = none → Steps g.P (lone (b.atR a todo) cs w) (lone { b.atR a todo with mode := .returning } cs w)) : Runs g C todo a w := by
 intro b cs hb1 hb2 hb3
 refine hg.fin C b cs _ ?_
 obtain ⟨S, μ, hsim⟩ := hs
 have h0 := hsim fun _ => false
 have hrd := hb3.2 (by rw [hg.md]; decide)
 obtain ⟨w', q1, q2⟩ := step_taken (P := g.P) (cs := cs) C.dl { b.atR a todo with mode := .returning } w rfl h0.defers C.dnd (fun d hd => let ⟨q, e, h, _⟩ := h0.dokw d hd; ⟨q, e, h⟩)
 obtain ⟨v, r1, r2⟩ := hp w' ⟨S, μ, fun ν => (hsim ν).shut q2⟩
 obtain ⟨v', S', μ', e, B⟩ := r2
 refine ⟨.returned v, w', _, ⟨v', S', μ', e, B.monoT (fun q hq => ?_)⟩, Steps.trans (hst b cs hrd) q1, hb1, rfl, rfl, hb2, g.fn, ?_, ?_⟩
 ·rcases hq with hq | hq
  ·exact hq
  ·cases hq
 ·show g.P.funcs[b.fn]? = _
  rw [hb1]; exact hf
 ·rw [← h1]; exact r1
def PostB (C : Cx) (res : AV) (lbs : List (Nat × Blk)) (anc : List (Nat × Nat)) (tm : Array Value) (e : Ending) (w' : World) : Prop := ∃ v S' μ', e = .returned v ∧ Back C.w0 C.S0 C.TD res lbs v S' μ' w' ∧ ∀ p, p ∈ anc → ∀ ν, Rel w' S' μ' ν (.ptr p.2 0) (tm.getD p.1 undef)
structure Goal.NrmB (g : Goal) (anc : List (Nat × Nat)) : Prop where
 md : g.md = 3
 pr : ∀ p, p ∈ anc → p.1 ∈ g.pr
 fin : ∀ C b cs m, (∃ e w' fr, PostB C g.res g.lbs anc g.tm e w' ∧ Comes g.P m (lone fr cs w') e ∧ fr.fn = g.f ∧ fr.leaving g.P w' e) → g.Z C b cs m
theorem Goal.NrmB.out {g : Goal} {anc : List (Nat × Nat)} (hg : g.NrmB anc) (hf : g.P.funcs[g.f]? = some g.fn) {C : Cx} (h1 : C.P = g.P) {st : St} {a : Act} {w : World} (hs : SimB C st a w) (hp : ∀ w', SimB C.shut st { a with defers := [] } w' → ∃ v, (results g.fn a.tmps).run C.P w' = .ok v w' ∧ PostB C.shut g.res g.lbs anc g.tm (.returned v) w')
  {todo : List Item} (hst : ∀ (b : Frame) (cs : List Frame), b.roundOf = none → Steps g.P (lone (b.atR a todo) cs w) (lone { b.atR a todo with mode := .returning } cs w)) : Runs g C todo a w := by
 intro b cs hb1 hb2 hb3
 refine hg.fin C b cs _ ?_
 obtain ⟨S, μ, hsim⟩ := hs
 have h0 := hsim fun _ => false
 have hrd := hb3.2 (by rw [hg.md]; decide)
 obtain ⟨w', q1, q2⟩ := step_taken (P := g.P) (cs := cs) C.dl { b.atR a todo with mode := .returning } w rfl h0.defers C.dnd (fun d hd => let ⟨q, e, h, _⟩ := h0.dokw d hd; ⟨q, e, h⟩)
 obtain ⟨v, r1, r2⟩ := hp w' ⟨S, μ, fun ν => (hsim ν).shut q2⟩
 obtain ⟨v', S', μ', e, B, ha⟩ := r2
 refine ⟨.returned v, w', _, ⟨v', S', μ', e, B.monoT (fun q hq => ?_), ha⟩, Steps.trans (hst b cs hrd) q1, hb1, rfl, rfl, hb2, g.fn, ?_, ?_⟩
 ·rcases hq with hq | hq
  ·exact hq
  ·cases hq
 ·show g.P.funcs[b.fn]? = _
  rw [hb1]; exact hf
 ·rw [← h1]; exact r1
theorem G.outB {g : Goal} {st : St} {anc : List (Nat × Nat)} (hg : g.NrmB anc) (hf : g.P.funcs[g.f]? = some g.fn) (hp : ∀ (C : Cx) (a : Act) (w : World), C.P = g.P → g.kept a.tmps → SimB C st a w → ∃ v, (results g.fn a.tmps).run C.P w = .ok v w ∧ PostB C g.res g.lbs anc g.tm (.returned v) w) : G g [] st ∧ ∀ k, G g (.code .ret :: k) st :=
 ⟨fun C h1 _ a w hk hs => hg.out hf h1 hs (fun w' hs' => hp C.shut { a with defers := [] } w' h1 hk hs') (fun b cs hb => .one (stepR_end hb)),
  fun k C h1 _ a w hk hs => hg.out hf h1 hs (fun w' hs' => hp C.shut { a with defers := [] } w' h1 hk hs') (fun b cs hb => .one (stepR_ret hb))⟩
section
variable {g : Goal} {k : List Item} {st : St}
theorem post_pure {C : Cx} {a : Act} {w : World} (hs : SimB C st a w) (hT : TOk C.P g.T) (hl : g.lbs = []) {l l' : List AV} {ro ro' : List (Nat × Blk)} {ob ob' : Ob} (h : evRes g.T st g.fn.results.toList = some (l, ro, ob)) (hob : ob.den) (hb : borAL st.lb l = some (l', ro', ob')) (hob' : ob'.den) (hle : AvLe (packR l') g.res) :
  ∃ v, (results g.fn a.tmps).run C.P w = .ok v w ∧ Post C g.res g.lbs (.returned v) w := by
 obtain ⟨S, μ, hsim⟩ := hs
 have h0 := hsim fun _ => false
 obtain ⟨vs, h1, h2⟩ := evRes_run hT h0 h hob
 refine ⟨_, results_run h1, ?_⟩
 have h3 : ∀ μ' ν', RelL w (fun b => b < w.heap.size ∧ (C.S0 b ∨ C.w0.heap.size ≤ b ∨ C.T0 b)) μ' ν' l' vs := fun μ' ν' =>
  borAL_rel h0 (fun b hb => ⟨h0.bound b hb, h0.fresh b hb⟩) (fun κ b q c h1 h2 => ⟨by have := h0.mem κ b h1; rw [h2] at this; exact this.at.lt, .inr (h0.own κ b q c h1 h2)⟩) μ' ν' hb (fun p hp => borAL_ro hb p hp) hob' h2
 refine ⟨_, fun b => b < w.heap.size ∧ (C.S0 b ∨ C.w0.heap.size ≤ b ∨ C.T0 b), fun _ => none, rfl, ?_⟩
 rw [hl]
 exact ⟨fun ν' => hle _ _ _ _ _ (packR_rel (h3 _ ν')), fun κ b hk => by simp [look] at hk, fun κ κ' b b' q c c' hk => by simp [look] at hk, fun κ b q c hk => by simp [look] at hk,
  fun b hb => ⟨Nat.lt_of_lt_of_le (h0.bound b (h0.stable b hb)) (Nat.le_refl _), .inl hb⟩, fun b hb => hb.2.imp id (Or.imp id .inl), fun b hb => hb.1, h0.kept.mono' fun _ h => .inl h⟩
theorem G.out (hg : g.Nrm) (hf : g.P.funcs[g.f]? = some g.fn) (hp : ∀ (C : Cx) (a : Act) (w : World), C.P = g.P → SimB C st a w → ∃ v, (results g.fn a.tmps).run C.P w = .ok v w ∧ Post C g.res g.lbs (.returned v) w) : G g [] st ∧ ∀ k, G g (.code .ret :: k) st :=
 ⟨fun C h1 _ a w _ hs => hg.out hf h1 hs (fun w' hs' => hp C.shut { a with defers := [] } w' h1 hs') (fun b cs hb => .one (stepR_end hb)),
  fun k C h1 _ a w _ hs => hg.out hf h1 hs (fun w' hs' => hp C.shut { a with defers := [] } w' h1 hs') (fun b cs hb => .one (stepR_ret hb))⟩
theorem G.ret (hg : g.Nrm) (hT : TOk g.P g.T) (hf : g.P.funcs[g.f]? = some g.fn) (hl : g.lbs = []) {l l' : List AV} {ro ro' : List (Nat × Blk)} {ob ob' : Ob} (h : evRes g.T st g.fn.results.toList = some (l, ro, ob)) (hob : ob.den) (hb : borAL st.lb l = some (l', ro', ob')) (hob' : ob'.den) (hle : AvLe (packR l') g.res) : G g [] st ∧ ∀ k, G g (.code .ret :: k) st :=
 G.out hg hf (fun C a w h1 hs => post_pure (g := g) hs (by rw [h1]; exact hT) hl h hob hb hob' hle)
end
def argSlots : Nat → List AV → List (Nat × AV)
 | _, [] => []
 | n, x :: r => (n, x) :: argSlots (n + 1) r
theorem argSlots_look : ∀ (l : List AV) (n t : Nat), look (argSlots n l) t = if n ≤ t then l[t - n]? else none
 | [], n, t => by simp [argSlots, look]
 | x :: r, n, t => by
  simp only [argSlots, look_cons, argSlots_look r (n + 1) t]
  by_cases h : n = t
  ·subst h; simp
  ·simp only [h, if_false]
   by_cases h1 : n + 1 ≤ t
   ·rw [if_pos h1, if_pos (by omega), show t - n = t - (n + 1) + 1 by omega]
    simp
   ·rw [if_neg h1, if_neg (by omega)]
def ZN (P : Program) (f : FuncId) (res : AV) (lbs : List (Nat × Blk)) (C : Cx) (_ : Frame) (cs : List Frame) (m : Machine) : Prop :=
 ∃ e w' fr, Post C res lbs e w' ∧ Comes P m (lone fr cs w') e ∧ fr.fn = f ∧ fr.leaving P w' e
def Goal.of (P : Program) (T : List (Nat × TI)) (nt : Nat) (f : FuncId) (fn : Func) (res : AV) (lbs : List (Nat × Blk)) : Goal :=
 ⟨P, T, nt, f, fn, res, lbs, 0, [], #[], ZN P f res lbs, fun _ _ _ _ _ hs ⟨e, w', fr, q1, q2, q3⟩ => ⟨e, w', fr, q1, .of_steps hs q2, q3⟩⟩
theorem Goal.of_nrm {P : Program} {T : List (Nat × TI)} {nt : Nat} {f : FuncId} {fn : Func} {res : AV} {lbs : List (Nat × Blk)} : (Goal.of P T nt f fn res lbs).Nrm := ⟨rfl, fun _ _ _ _ h => h⟩
theorem FnA.intro {P : Program} {T : List (Nat × TI)} {f : FuncId} {fn : Func} {body : Code} {args : List AV} {lbs : List (Nat × Blk)} {res : AV} {lbs' : List (Nat × Blk)} (hf : P.funcs[f]? = some fn) (hb : fn.body = some body) (hc : callable P f = true) (hn : args.length ≤ fn.ntmps)
  (h : G (.of P T fn.ntmps f fn res lbs') [.code body] ⟨argSlots 0 args, lbs⟩) : FnA P f args lbs res lbs' := by
 refine ⟨hc, fun w S μ vs hS hgl hargs hm hi cs => ?_⟩
 let C : Cx := ⟨P, w, S, Handed lbs μ, fn.ntmps, hgl, fun b hb ⟨κ, bk, c, q1, q2⟩ => by
  have := hm κ bk q1
  rw [q2] at this
  exact this.at.not hb, hS, [], fun d h => (by cases h), List.nodup_nil⟩
 let b : Frame := { (default : Frame) with fn := f, kind := .normal, roundOf := none }
 have hl : vs.size = args.length := by have := (hargs fun _ => false).1; simpa using this
 have henter : Frame.enter P f vs .normal = b.atR { tmps := vs ++ Array.replicate (fn.ntmps - vs.size) undef, defers := [] } [.code body] := by
  simp [Frame.enter, Frame.atR, hf, hb, b]
 have hsim : SimB C ⟨argSlots 0 args, lbs⟩ { tmps := vs ++ Array.replicate (fn.ntmps - vs.size) undef, defers := [] } w := by
  refine ⟨S, μ, fun ν => ⟨by simp [C]; omega, rfl, fun t => ?_, hm, hi, fun κ bk q c h1 h2 => .inr ⟨κ, bk, c, h1, h2⟩, fun _ hb => hb, fun _ hb => .inl hb, hS, Kept.refl _ _⟩⟩
  simp only [St.toM, St.get, argSlots_look, Nat.zero_le, if_true, Nat.sub_zero]
  by_cases ht : t < args.length
  ·rw [List.getElem?_eq_getElem ht]
   have h2 := (hargs ν).2 t ht
   rw [show args.getD t default = args[t] from by simp [List.getD, ht]] at h2
   have e : (vs ++ Array.replicate (fn.ntmps - vs.size) undef).getD t undef = vs.toList.getD t undef := by
    rw [← getD_toList]
    simp only [Array.getD_eq_getD_getElem?]
    rw [Array.getElem?_append_left (by omega)]
   rw [e]
   exact h2
  ·rw [List.getElem?_eq_none (by omega)]
   exact .any _
 obtain ⟨e, w', fr, ⟨v, S', μ', e1, B⟩, q2, q3, q4⟩ := h C rfl rfl _ _ (fun u hu => by cases hu) hsim b cs rfl rfl ⟨fun _ h => (by cases h), fun _ => rfl⟩
 exact ⟨e, w', fr, ⟨v, S', μ', e1, B.monoT (fun q hq => hq.elim id (fun h => by cases h))⟩, by rw [henter]; exact q2, q3, q4⟩
def ZB (P : Program) (f : FuncId) (res : AV) (lbs : List (Nat × Blk)) (anc : List (Nat × Nat)) (tm : Array Value) (C : Cx) (_ : Frame) (cs : List Frame) (m : Machine) : Prop :=
 ∃ e w' fr, PostB C res lbs anc tm e w' ∧ Comes P m (lone fr cs w') e ∧ fr.fn = f ∧ fr.leaving P w' e
def Goal.ofB (P : Program) (T : List (Nat × TI)) (nt : Nat) (f : FuncId) (fn : Func) (res : AV) (lbs : List (Nat × Blk)) (anc : List (Nat × Nat)) (tm : Array Value) : Goal :=
 ⟨P, T, nt, f, fn, res, lbs, 3, anc.map (·.1), tm, ZB P f res lbs anc tm, fun _ _ _ _ _ hs ⟨e, w', fr, q1, q2, q3⟩ => ⟨e, w', fr, q1, .of_steps hs q2, q3⟩⟩
theorem Goal.ofB_nrm {P : Program} {T : List (Nat × TI)} {nt : Nat} {f : FuncId} {fn : Func} {res : AV} {lbs : List (Nat × Blk)} {anc : List (Nat × Nat)} {tm : Array Value} : (Goal.ofB P T nt f fn res lbs anc tm).NrmB anc := ⟨rfl, fun p hp => List.mem_map.2 ⟨p, hp, rfl⟩, fun _ _ _ _ h => h⟩
theorem FnB.intro {P : Program} {T : List (Nat × TI)} {f : FuncId} {fn : Func} {body : Code} {args : List AV} {lbs : List (Nat × Blk)} {res : AV} {lbs' : List (Nat × Blk)} {anc : List (Nat × Nat)} (hf : P.funcs[f]? = some fn) (hb : fn.body = some body) (hc : callable P f = true) (hn : args.length ≤ fn.ntmps) (hanc : ∀ p, p ∈ anc → p.1 < args.length)
  (h : ∀ tm, G (.ofB P T fn.ntmps f fn res lbs' anc tm) [.code body] ⟨argSlots 0 args, lbs⟩) : FnB P f args lbs res lbs' anc := by
 refine ⟨hc, fun w S μ vs hS hgl hargs hm hi cs => ?_⟩
 let C : Cx := ⟨P, w, S, Handed lbs μ, fn.ntmps, hgl, fun b hb ⟨κ, bk, c, q1, q2⟩ => by
  have := hm κ bk q1
  rw [q2] at this
  exact this.at.not hb, hS, [], fun d h => (by cases h), List.nodup_nil⟩
 let b : Frame := { (default : Frame) with fn := f, kind := .normal, roundOf := none }
 have hl : vs.size = args.length := by have := (hargs fun _ => false).1; simpa using this
 have henter : Frame.enter P f vs .normal = b.atR { tmps := vs ++ Array.replicate (fn.ntmps - vs.size) undef, defers := [] } [.code body] := by
  simp [Frame.enter, Frame.atR, hf, hb, b]
 have hget : ∀ t, t < args.length → (vs ++ Array.replicate (fn.ntmps - vs.size) undef).getD t undef = vs.toList.getD t undef := fun t ht => by
  rw [← getD_toList]
  simp only [Array.getD_eq_getD_getElem?]
  rw [Array.getElem?_append_left (by omega)]
 have hsim : SimB C ⟨argSlots 0 args, lbs⟩ { tmps := vs ++ Array.replicate (fn.ntmps - vs.size) undef, defers := [] } w := by
  refine ⟨S, μ, fun ν => ⟨by simp [C]; omega, rfl, fun t => ?_, hm, hi, fun κ bk q c h1 h2 => .inr ⟨κ, bk, c, h1, h2⟩, fun _ hb => hb, fun _ hb => .inl hb, hS, Kept.refl _ _⟩⟩
  simp only [St.toM, St.get, argSlots_look, Nat.zero_le, if_true, Nat.sub_zero]
  by_cases ht : t < args.length
  ·rw [List.getElem?_eq_getElem ht]
   have h2 := (hargs ν).2 t ht
   rw [show args.getD t default = args[t] from by simp [List.getD, ht]] at h2
   rw [hget t ht]
   exact h2
  ·rw [List.getElem?_eq_none (by omega)]
   exact .any _
 obtain ⟨e, w', fr, ⟨v, S', μ', e1, B, ha⟩, q2, q3, q4⟩ := h (vs ++ Array.replicate (fn.ntmps - vs.size) undef) C rfl rfl _ _ (fun u hu => rfl) hsim b cs rfl rfl ⟨fun _ h => (by cases h), fun _ => rfl⟩
 exact ⟨e, w', fr, ⟨v, S', μ', e1, B.monoT (fun q hq => hq.elim id (fun h => by cases h)), fun p hp ν => by rw [← hget p.1 (hanc p hp)]; exact ha p hp ν⟩, by rw [henter]; exact q2, q3, q4⟩
end Go.Av
