/- Control: what is left to do, from an abstract state. -/
import Derived.Test.YtggilgghigileaaGreatDoorAvR
namespace Go.Av
open Go
set_option linter.unusedSectionVars false
variable [Globs]

/-- from here the call comes back as the contract says -/
def Runs (P : Program) (f : FuncId) (R : Ending → World → Prop) (todo : List Item) (a : Act) (w : World) : Prop :=
  ∀ (b : Frame) (cs : List Frame), b.fn = f → b.kind = .normal → ∃ e w' fr, R e w' ∧ Comes P (lone (b.at a todo) cs w) (lone fr cs w') e ∧ fr.fn = f ∧ fr.leaving P w' e

def Post (C : Cx) (res : AV) (lbs : List (Nat × Blk)) (e : Ending) (w' : World) : Prop := ∃ v S' μ', e = .returned v ∧ Back C.w0 C.S0 C.T0 res lbs v S' μ' w'

structure Goal where
  P : Program
  T : List (Nat × TI)
  nt : Nat
  f : FuncId
  fn : Func
  res : AV
  lbs : List (Nat × Blk)

/-- from the state st, with this left to do, the function does what it is to do -/
def G (g : Goal) (todo : List Item) (st : St) : Prop := ∀ C : Cx, C.P = g.P → C.nt = g.nt → ∀ a w, SimB C st a w → Runs g.P g.f (Post C g.res g.lbs) todo a w

/-- st says at least as much as st' -/
def LeS (st st' : St) : Prop := ∀ C a w, SimB C st a w → SimB C st' a w

section
variable {g : Goal} {k : List Item} {st st' : St}

theorem Runs.step {P : Program} {f : FuncId} {R : Ending → World → Prop} {todo todo' : List Item} {a a' : Act} {w w' : World} (h : ∀ (b : Frame) (cs : List Frame), Steps P (lone (b.at a todo) cs w) (lone (b.at a' todo') cs w')) (hr : Runs P f R todo' a' w') : Runs P f R todo a w :=
  fun b cs h1 h2 => let ⟨e, w2, fr, q1, q2, q3⟩ := hr b cs h1 h2; ⟨e, w2, fr, q1, .of_steps (h b cs) q2, q3⟩

theorem G.le (h : LeS st st') (hg : G g k st') : G g k st := fun C h1 h2 a w hs => hg C h1 h2 a w (h C a w hs)

theorem G.seq {x y : Code} (h : G g (.code x :: .code y :: k) st) : G g (.code (.seq x y) :: k) st := fun C h1 h2 a w hs => (h C h1 h2 a w hs).step fun _ _ => .one step_seq
theorem G.skip (h : G g k st) : G g (.code .skip :: k) st := fun C h1 h2 a w hs => (h C h1 h2 a w hs).step fun _ _ => .one step_skip
theorem G.label {l : Nat} (h : G g k st) : G g (.code (.label l) :: k) st := fun C h1 h2 a w hs => (h C h1 h2 a w hs).step fun _ _ => .one step_label
theorem G.block {id : Nat} {c : Code} (h : G g (.code c :: .inBlock id :: k) st) : G g (.code (.block id c) :: k) st := fun C h1 h2 a w hs => (h C h1 h2 a w hs).step fun _ _ => .one step_block
theorem G.inBlock {id : Nat} (h : G g k st) : G g (.inBlock id :: k) st := fun C h1 h2 a w hs => (h C h1 h2 a w hs).step fun _ _ => .one step_inBlock
theorem G.inLoop {c : Code} (h : G g (.code c :: .inLoop c :: k) st) : G g (.inLoop c :: k) st := fun C h1 h2 a w hs => (h C h1 h2 a w hs).step fun _ _ => .one step_inLoop
theorem G.exit {id : Nat} {k' : List Item} (he : exitTo id k = some k') (h : G g k' st) : G g (.code (.exit id) :: k) st := fun C h1 h2 a w hs => (h C h1 h2 a w hs).step fun _ _ => .one (step_exit he)

theorem G.cond {c : Nat} {x y : Code} {e : Bool} (hc : St.get st.sl c = .d (.v (.bool e))) (ht : e = true → G g (.code x :: k) st) (hf : e = false → G g (.code y :: k) st) : G g (.code (.cond (.tmp c) x y) :: k) st := by
  intro C h1 h2 a w hs
  obtain ⟨S, μ, hsim⟩ := hs
  have hr := (hsim fun _ => false).slots c
  simp only [St.toM, hc] at hr
  have he : a.eval (.tmp c) = .bool e := rel_bool hr
  cases e with
  | true => exact (ht rfl C h1 h2 a w ⟨S, μ, hsim⟩).step fun _ _ => .one (by simpa using step_cond (x := x) (y := y) he)
  | false => exact (hf rfl C h1 h2 a w ⟨S, μ, hsim⟩).step fun _ _ => .one (by simpa using step_cond (x := x) (y := y) he)

theorem G.region (hT : TOk g.P g.T) (hm : g.P.follows .mixedOrders = true) {id : Nat} {ops : Array Oper} {draw : Bool} {keep : Option (List Nat)} {orc : List Orc} {ob : Ob} (h : evRegion g.P g.T g.nt ops draw keep st orc = some (st', ob)) (hob : ob.den) (hg : G g k st') : G g (.code (.region id ops draw) :: k) st := by
  intro C h1 h2 a w hs b cs hb1 hb2
  have hw : (Code.region id ops draw).wp C.P (fun e a' w' => e = .normal ∧ SimB C st' a' w') a w := region_wp (T := g.T) (by rw [h1]; exact hT) (by rw [h1]; exact hm) (by rw [h1, h2]; exact h) hob hs
  obtain ⟨e, a', w', ⟨rfl, hs'⟩, harr⟩ := hw b k cs
  obtain ⟨e2, w2, fr, q1, q2, q3⟩ := hg C h1 h2 a' w' hs' b cs hb1 hb2
  refine ⟨e2, w2, fr, q1, .of_steps ?_ q2, q3⟩
  rw [← h1]
  exact harr

/-- a loop: states at its head, and a number that goes down -/
theorem G.loop {ι : Type} (I : ι → St) (m : ι → Nat) {c : Code} (i0 : ι) (h0 : LeS st (I i0)) (hr : ∀ i, (∀ j, m j < m i → G g (.inLoop c :: k) (I j)) → G g (.code c :: .inLoop c :: k) (I i)) : G g (.code (.loop c) :: k) st := by
  have key : ∀ n i, m i = n → G g (.code c :: .inLoop c :: k) (I i) := by
    intro n
    induction n using Nat.strongRecOn with
    | _ n ih =>
      intro i hi
      exact hr i (fun j hj => .inLoop (ih (m j) (hi ▸ hj) j rfl))
  intro C h1 h2 a w hs
  exact (key _ i0 rfl C h1 h2 a w (h0 C a w hs)).step fun _ _ => .one step_loop

end

/-! the results -/

def evRes (T : List (Nat × TI)) (st : St) : List ResultVar → Option (List AV × List (Nat × Blk) × Ob)
  | [] => some ([], [], .tt)
  | .tmp t :: r => (match evRes T st r with | some (l, ro, ob) => some (St.get st.sl t :: l, ro, ob) | none => none)
  | .cell t ty :: r => (match look T ty, ptrCells st.lb (St.get st.sl t), evRes T st r with
    | some i, some (cs, ro1, ob1), some (l, ro, ob) => (match loadC i cs with | some v => some (v :: l, ro1 ++ ro, ob1.and ob) | none => none)
    | _, _, _ => none)

section
variable {C : Cx} {a : Act} {w : World} {S : Nat → Prop} {μ : Mu} {ν : Nat → Bool}

def packV : List Value → Value
  | [v] => v
  | l => .tuple l.toArray

def resVal (tmps : Array Value) : ResultVar → Sem Value
  | .tmp t => pure (tmps.getD t undef)
  | .cell a t => do loadVar t (← asAddr (tmps.getD a undef))

theorem evRes_run {T : List (Nat × TI)} (hT : TOk C.P T) {st : St} (hs : Sim C st.toM a w S μ ν) : ∀ {rs : List ResultVar} {l : List AV} {ro : List (Nat × Blk)} {ob : Ob}, evRes T st rs = some (l, ro, ob) → ob.den → ∃ vs, (rs.mapM (resVal a.tmps)).run C.P w = .ok vs w ∧ RelL w S μ ν l vs
  | [], l, ro, ob, h, _ => by
    simp only [evRes, Option.some.injEq, Prod.mk.injEq] at h
    obtain ⟨rfl, -, -⟩ := h
    exact ⟨[], by simp, rfl, fun i hi => absurd hi (by simp)⟩
  | .tmp t :: r, l, ro, ob, h, hob => by
    simp only [evRes] at h
    split at h
    · rename_i l' ro' ob' hr
      simp only [Option.some.injEq, Prod.mk.injEq] at h
      obtain ⟨rfl, rfl, rfl⟩ := h
      obtain ⟨vs, h1, h2⟩ := evRes_run hT hs hr hob
      refine ⟨a.tmps.getD t undef :: vs, by simp [List.mapM_cons, resVal, h1], by simp [h2.1], fun i hi => ?_⟩
      cases i with
      | zero =>
        have := hs.slots t
        simp only [St.toM] at this
        simpa using this
      | succ i => simpa using h2.2 i (by simpa using hi)
    · cases h
  | .cell t ty :: r, l, ro, ob, h, hob => by
    simp only [evRes] at h
    split at h
    · rename_i i cs ro1 ob1 l' ro' ob' hi hc hr
      split at h
      · rename_i v hv
        simp only [Option.some.injEq, Prod.mk.injEq] at h
        obtain ⟨rfl, rfl, rfl⟩ := h
        obtain ⟨vs, h1, h2⟩ := evRes_run hT hs hr (Ob.and_den hob).2
        have hat := ptrCells_at hc hs (fun p hp => ptrCells_ro hc p hp) (Ob.and_den hob).1 (hs.slots t)
        obtain ⟨b, o, hp, hcells⟩ := hat
        obtain ⟨u, h3, h4⟩ := loadC_run (P := C.P) (hT _ _ hi) hv (⟨b, o, hp, hcells⟩ : AtCells w S μ ν cs _)
        have h5 : (resVal a.tmps (.cell t ty)).run C.P w = .ok u w := by
          rw [hp] at h3
          simp only [resVal, hp, asAddr, Sem.run_bind, Sem.run_pure, Result.andThen_ok]
          simpa [Instr.loadAt, Instr.sureAddr] using h3
        refine ⟨u :: vs, by simp [List.mapM_cons, h5, h1], by simp [h2.1], fun i hi => ?_⟩
        cases i with
        | zero => simpa using h4
        | succ i => simpa using h2.2 i (by simpa using hi)
      · cases h
    · cases h

theorem results_eq (fn : Func) (tmps : Array Value) : results fn tmps = (do let vs ← fn.results.mapM (resVal tmps); pure (if h : vs.size = 1 then vs[0] else .tuple vs) : Sem Value) := by
  unfold results
  congr 2

theorem results_run {fn : Func} {vs : List Value} (h : (fn.results.toList.mapM (resVal a.tmps)).run C.P w = .ok vs w) : (results fn a.tmps).run C.P w = .ok (packV vs) w := by
  rw [results_eq, Array.mapM_eq_mapM_toList]
  simp only [Sem.run_bind, Sem.run_map, h, Result.andThen_ok, Sem.run_pure]
  congr 1
  clear h
  match vs with
  | [] => rfl
  | [v] => rfl
  | _ :: _ :: _ => rfl
end

def AvLe (x y : AV) : Prop := ∀ w S μ ν v, Rel w S μ ν x v → Rel w S μ ν y v

theorem AvLe.rfl' {x : AV} : AvLe x x := fun _ _ _ _ _ h => h
theorem AvLe.d {x y : D} (h : DLe x y) : AvLe (.d x) (.d y) := fun w S _ _ v hr => .d (h w S v (rel_d.1 hr))

/-- the results as one value -/
def packR : List AV → AV
  | [x] => x
  | l => .tup l

theorem packR_rel {w : World} {S : Nat → Prop} {μ : Mu} {ν : Nat → Bool} {l : List AV} {vs : List Value} (h : RelL w S μ ν l vs) : Rel w S μ ν (packR l) (packV vs) := by
  match l, vs, h with
  | [x], [v], h => simpa [packR, packV] using h.2 0 (by simp)
  | [], [], h => exact .tup rfl (fun i hi => absurd hi (by simp))
  | x :: y :: r, u :: v :: s, h => exact .tup (by simpa using h.1) (fun i hi => by rw [getD_toList]; simpa using h.2 i hi)
  | [], _ :: _, h => have := h.1; simp at this
  | [_], [], h => have := h.1; simp at this
  | [_], _ :: _ :: _, h => have := h.1; simp at this
  | _ :: _ :: _, [], h => have := h.1; simp at this
  | _ :: _ :: _, [_], h => have := h.1; simp at this

theorem Runs.ret {P : Program} {f : FuncId} {fn : Func} {R : Ending → World → Prop} {a : Act} {w : World} {v : Value} (hf : P.funcs[f]? = some fn) (hd : a.defers = []) (hr : (results fn a.tmps).run P w = .ok v w) (hR : R (.returned v) w) (k : List Item) : Runs P f R (.code .ret :: k) a w :=
  fun b cs h1 h2 => ⟨.returned v, w, { b.at a (.code .ret :: k) with mode := .returning }, hR, Steps.one step_ret, h1, rfl, hd, h2, fn, by rw [show ({ b.at a (.code .ret :: k) with mode := .returning } : Frame).fn = f from h1]; exact hf, hr⟩

theorem Runs.fin {P : Program} {f : FuncId} {fn : Func} {R : Ending → World → Prop} {a : Act} {w : World} {v : Value} (hf : P.funcs[f]? = some fn) (hd : a.defers = []) (hr : (results fn a.tmps).run P w = .ok v w) (hR : R (.returned v) w) : Runs P f R [] a w :=
  fun b cs h1 h2 => ⟨.returned v, w, { b.at a [] with mode := .returning }, hR, Steps.one step_end, h1, rfl, hd, h2, fn, by rw [show ({ b.at a [] with mode := .returning } : Frame).fn = f from h1]; exact hf, hr⟩

section
variable {g : Goal} {k : List Item} {st : St}

/-- the value that comes back is pure -/
theorem post_pure {C : Cx} {a : Act} {w : World} (hs : SimB C st a w) (hT : TOk C.P g.T) (hl : g.lbs = []) {l l' : List AV} {ro ro' : List (Nat × Blk)} {ob ob' : Ob} (h : evRes g.T st g.fn.results.toList = some (l, ro, ob)) (hob : ob.den) (hb : borAL st.lb l = some (l', ro', ob')) (hob' : ob'.den) (hle : AvLe (packR l') g.res) :
    ∃ v, (results g.fn a.tmps).run C.P w = .ok v w ∧ Post C g.res g.lbs (.returned v) w := by
  obtain ⟨S, μ, hsim⟩ := hs
  have h0 := hsim fun _ => false
  obtain ⟨vs, h1, h2⟩ := evRes_run hT h0 h hob
  refine ⟨_, results_run h1, ?_⟩
  have h3 : ∀ μ' ν', RelL w (fun b => b < w.heap.size ∧ (C.S0 b ∨ C.w0.heap.size ≤ b ∨ C.T0 b)) μ' ν' l' vs := fun μ' ν' =>
    borAL_rel h0 (fun b hb => ⟨h0.bound b hb, h0.fresh b hb⟩) (fun κ b q c h1 h2 => ⟨by have := h0.mem κ b h1; rw [h2] at this; exact this.at.lt, .inr (h0.own κ b q c h1 h2)⟩) μ' ν' hb (fun p hp => borAL_ro hb p hp) hob' h2
  refine ⟨_, fun b => b < w.heap.size ∧ (C.S0 b ∨ C.w0.heap.size ≤ b ∨ C.T0 b), fun _ => none, rfl, ?_⟩
  rw [hl]
  exact ⟨fun ν' => hle _ _ _ _ _ (packR_rel (h3 _ ν')), fun κ b hk => by simp [look] at hk, fun κ κ' b b' q c c' hk => by simp [look] at hk, fun κ b q c hk => by simp [look] at hk,
    fun b hb => ⟨Nat.lt_of_lt_of_le (h0.bound b (h0.stable b hb)) (Nat.le_refl _), .inl hb⟩, fun b hb => hb.2, fun b hb => hb.1, h0.kept⟩

theorem G.ret (hT : TOk g.P g.T) (hf : g.P.funcs[g.f]? = some g.fn) (hl : g.lbs = []) {l l' : List AV} {ro ro' : List (Nat × Blk)} {ob ob' : Ob} (h : evRes g.T st g.fn.results.toList = some (l, ro, ob)) (hob : ob.den) (hb : borAL st.lb l = some (l', ro', ob')) (hob' : ob'.den) (hle : AvLe (packR l') g.res) : G g (.code .ret :: k) st := by
  intro C h1 h2 a w hs
  obtain ⟨v, q1, q2⟩ := post_pure (g := g) hs (by rw [h1]; exact hT) hl h hob hb hob' hle
  obtain ⟨S, μ, hsim⟩ := hs
  exact Runs.ret hf (hsim fun _ => false).defers (by rw [← h1]; exact q1) q2 k

theorem G.fin (hT : TOk g.P g.T) (hf : g.P.funcs[g.f]? = some g.fn) (hl : g.lbs = []) {l l' : List AV} {ro ro' : List (Nat × Blk)} {ob ob' : Ob} (h : evRes g.T st g.fn.results.toList = some (l, ro, ob)) (hob : ob.den) (hb : borAL st.lb l = some (l', ro', ob')) (hob' : ob'.den) (hle : AvLe (packR l') g.res) : G g [] st := by
  intro C h1 h2 a w hs
  obtain ⟨v, q1, q2⟩ := post_pure (g := g) hs (by rw [h1]; exact hT) hl h hob hb hob' hle
  obtain ⟨S, μ, hsim⟩ := hs
  exact Runs.fin hf (hsim fun _ => false).defers (by rw [← h1]; exact q1) q2

end

def argSlots : Nat → List AV → List (Nat × AV)
  | _, [] => []
  | n, x :: r => (n, x) :: argSlots (n + 1) r

theorem argSlots_look : ∀ (l : List AV) (n t : Nat), look (argSlots n l) t = if n ≤ t then l[t - n]? else none
  | [], n, t => by simp [argSlots, look]
  | x :: r, n, t => by
    simp only [argSlots, look_cons, argSlots_look r (n + 1) t]
    by_cases h : n = t
    · subst h; simp
    · simp only [h, if_false]
      by_cases h1 : n + 1 ≤ t
      · rw [if_pos h1, if_pos (by omega), show t - n = t - (n + 1) + 1 by omega]
        simp
      · rw [if_neg h1, if_neg (by omega)]

/-- a contract out of a walk of the body -/
theorem FnA.intro {P : Program} {T : List (Nat × TI)} {f : FuncId} {fn : Func} {body : Code} {args : List AV} {lbs : List (Nat × Blk)} {res : AV} {lbs' : List (Nat × Blk)} (hf : P.funcs[f]? = some fn) (hb : fn.body = some body) (hc : callable P f = true) (hn : args.length ≤ fn.ntmps)
    (h : G ⟨P, T, fn.ntmps, f, fn, res, lbs'⟩ [.code body] ⟨argSlots 0 args, lbs⟩) : FnA P f args lbs res lbs' := by
  refine ⟨hc, fun w S μ vs hS hgl hargs hm hi cs => ?_⟩
  let C : Cx := ⟨P, w, S, Handed lbs μ, fn.ntmps, hgl, fun b hb ⟨κ, bk, c, q1, q2⟩ => by
    have := hm κ bk q1
    rw [q2] at this
    exact this.at.not hb, hS⟩
  let b : Frame := { (default : Frame) with fn := f, kind := .normal }
  have hl : vs.size = args.length := by have := (hargs fun _ => false).1; simpa using this
  have henter : Frame.enter P f vs .normal = b.at { tmps := vs ++ Array.replicate (fn.ntmps - vs.size) undef, defers := [] } [.code body] := by
    simp [Frame.enter, Frame.at, hf, hb, b]
  have hsim : SimB C ⟨argSlots 0 args, lbs⟩ { tmps := vs ++ Array.replicate (fn.ntmps - vs.size) undef, defers := [] } w := by
    refine ⟨S, μ, fun ν => ⟨by simp [C]; omega, rfl, fun t => ?_, hm, hi, fun κ bk q c h1 h2 => .inr ⟨κ, bk, c, h1, h2⟩, fun _ hb => hb, fun _ hb => .inl hb, hS, Kept.refl _ _⟩⟩
    simp only [St.toM, St.get, argSlots_look, Nat.zero_le, if_true, Nat.sub_zero]
    by_cases ht : t < args.length
    · rw [List.getElem?_eq_getElem ht]
      have h2 := (hargs ν).2 t ht
      rw [show args.getD t default = args[t] from by simp [List.getD, ht]] at h2
      have e : (vs ++ Array.replicate (fn.ntmps - vs.size) undef).getD t undef = vs.toList.getD t undef := by
        rw [← getD_toList]
        simp only [Array.getD_eq_getD_getElem?]
        rw [Array.getElem?_append_left (by omega)]
      rw [e]
      exact h2
    · rw [List.getElem?_eq_none (by omega)]
      exact .any _
  obtain ⟨e, w', fr, q1, q2, q3, q4⟩ := h C rfl rfl _ _ hsim b cs rfl rfl
  exact ⟨e, w', fr, q1, by rw [henter]; exact q2, q3, q4⟩

end Go.Av
