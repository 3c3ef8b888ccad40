/- Regions, evaluated whole. -/
import Derived.Test.YtihmmpaalpghbaaGreatDoorAvP
set_option linter.unusedSimpArgs false
set_option linter.unusedVariables false
namespace Go.Av
open Go
set_option linter.unusedSectionVars false
variable [Globs]

def subP (q p : List (Nat × Bool)) : Bool := q.all fun y => p.any fun z => Nat.beq y.1 z.1 && (y.2 == z.2)

def res1 (p : List (Nat × Bool)) : AV → Option AV
  | .g q a => bif subP q p then some a else none
  | x => some x

def rhoN (need : List (Nat × AV)) (p : List (Nat × Bool)) : Operand → Option AV
  | .tmp t => (match look need t with | some x => res1 p x | none => none)
  | .const v => ofConst v
  | .func f => some (.fn f [])
  | .global g => (match look Globs.gl g with | some cs => some (.ref cs) | none => none)

def boolOf : AV → Option (List (Nat × Bool) × Bool)
  | .d (.v (.bool e)) => some ([], e)
  | .g q (.d (.v (.bool e))) => some (q, e)
  | _ => none

structure St where
  sl : List (Nat × AV)
  lb : List (Nat × Blk)

def St.get (sl : List (Nat × AV)) (t : Nat) : AV := match look sl t with | some x => x | none => .any

def St.toM (st : St) : M := { sl := St.get st.sl, lb := look st.lb }

def slotsOf : List Operand → List Nat
  | [] => []
  | .tmp t :: r => t :: slotsOf r
  | _ :: r => slotsOf r

def needOf (sl : List (Nat × AV)) : List Nat → List (Nat × AV)
  | [] => []
  | t :: r => (t, St.get sl t) :: needOf sl r

/-- a bool on which others hang is noted -/
def regG (gl : List (Nat × Bool)) (s : Nat) (e : Bool) : List (Nat × Bool) × Ob :=
  match look gl s with
  | some e' => (gl, .be e e')
  | none => (gl ++ [(s, e)], .tt)

def gsOf (gl : List (Nat × Bool)) : List Nat → List (Nat × Bool)
  | [] => []
  | s :: r => (match look gl s with | some e => (s, e) :: gsOf gl r | none => gsOf gl r)

def pathCond (gl : List (Nat × Bool)) : List (Nat × Bool) → Ob → Ob
  | [], ob => ob
  | (s, w) :: r, ob => (match look gl s with | some e => (pathCond gl r ob).imp e w | none => pathCond gl r ob)

def wrapG (p : List (Nat × Bool)) (v : AV) : AV := match p with | [] => v | _ :: _ => .g p v

def guardSlot (ops : Array Oper) (j : Nat) : Option Nat := match ops[j]? with | some o => o.dst | none => none

/-- the tests on which an operation hangs -/
def pathOf (nt : Nat) (ops : Array Oper) (sl : List (Nat × AV)) (gl : List (Nat × Bool)) : Option (Nat × Bool) → Option (List (Nat × Bool) × List Nat × List (Nat × Bool) × Ob)
  | none => some ([], [], gl, .tt)
  | some (j, want) => (match guardSlot ops j with
    | some s => bif Nat.ble (s + 1) nt then (match boolOf (St.get sl s) with
      | some (q, e) => (match regG gl s e with | (gl', ob) => some (q ++ [(s, want)], [s], gl', ob))
      | none => none) else none
    | none => none)

def evPick (need : List (Nat × AV)) (p : List (Nat × Bool)) (c x y : Operand) : Option (Nat × Bool × Bool × Bool) :=
  match c with
  | .tmp s => (match rhoN need p c, rhoN need ((s, true) :: p) x, rhoN need ((s, false) :: p) y with
    | some (.d (.v (.bool e))), some (.d (.v (.bool ex))), some (.d (.v (.bool ey))) => some (s, e, ex, ey)
    | _, _, _ => none)
  | _ => none

def stepOp (P : Program) (T : List (Nat × TI)) (nt : Nat) (ops : Array Oper) (st : St) (gl : List (Nat × Bool)) (orc : List Orc) (o : Oper) : Option (Tr × List (Nat × Bool) × List Orc × Ob) :=
  match pathOf nt ops st.sl gl o.guard, (match o.dst with | some d => Nat.ble (d + 1) nt | none => true) with
  | some (p, ss, gl1, ob1), true =>
    (match o.op with
    | .pick c x y => (match evPick (needOf st.sl (ss ++ slotsOf [c, x, y])) p c x y with
      | some (s, e, ex, ey) => (match regG gl1 s e with
        | (gl2, ob2) => some (⟨needOf st.sl (ss ++ slotsOf [c, x, y]), o.dst, wrapG p (.d (.v (.bool (bif e then ex else ey)))), [], [], [], gsOf gl2 (s :: p.map (·.1))⟩, gl2, orc, ob1.and ob2))
      | none => none)
    | op => (match evOp P T st.lb (rhoN (needOf st.sl (ss ++ slotsOf op.operands.toList)) p) o.dst (!p.isEmpty) orc op with
      | some (r, orc') => some (⟨needOf st.sl (ss ++ slotsOf op.operands.toList), o.dst, wrapG p r.v, r.ro, r.mem, r.mem', gsOf gl1 (p.map (·.1))⟩, gl1, orc', ob1.and (pathCond gl1 p r.ob))
      | none => none))
  | _, _ => none

def delKeys {α : Type} (ks : List Nat) : List (Nat × α) → List (Nat × α)
  | [] => []
  | (k, x) :: r => bif ks.any (fun q => Nat.beq q k) then delKeys ks r else (k, x) :: delKeys ks r

def St.apply (st : St) (τ : Tr) : St :=
  { sl := match τ.dst with | some d => (d, τ.v) :: delKeys [d] st.sl | none => st.sl
    lb := match τ.mem, τ.mem' with | [], [] => st.lb | m, m' => m' ++ delKeys (m.map (·.1)) st.lb }

def evOps (P : Program) (T : List (Nat × TI)) (nt : Nat) (ops : Array Oper) : List Oper → St → List (Nat × Bool) → List Orc → Option (List Tr × St × List (Nat × Bool) × List Orc × Ob)
  | [], st, gl, orc => some ([], st, gl, orc, .tt)
  | o :: r, st, gl, orc => (match stepOp P T nt ops st gl orc o with
    | some (τ, gl', orc', ob) => (match evOps P T nt ops r (st.apply τ) gl' orc' with
      | some (l, st', gl'', orc'', ob') => some (τ :: l, st', gl'', orc'', ob.and ob')
      | none => none)
    | none => none)

def freshB (st : St) (κ : Nat) : Bool := st.sl.all (fun p => !p.2.keys.any (fun k => Nat.beq k κ)) && st.lb.all (fun p => !Nat.beq p.1 κ && !p.2.keys.any (fun k => Nat.beq k κ))

def keptB (keep : Option (List Nat)) (t : Nat) : Bool := match keep with | some l => l.any (fun k => Nat.beq k t) | none => true

def drawOK (draw : Bool) (ops : Array Oper) (trs : List Tr) : Bool := match draw with | true => regOK ops trs | false => ordOK trs

def keepG (keep : Option (List Nat)) : List (Nat × AV) → List (Nat × AV)
  | [] => []
  | (t, x) :: r => bif noG x && keptB keep t then (t, x) :: keepG keep r else keepG keep r

def distinctB : List (Nat × AV) → Bool
  | [] => true
  | (t, _) :: r => r.all (fun p => !Nat.beq p.1 t) && distinctB r

/-- edges go back; whoever is not held apart by edges is independent, but for the pair i0, j0 -/
def regOKf (i0 j0 : Nat) (ops : Array Oper) (tf : Nat → Tr) : Bool :=
  (List.range ops.size).all fun i => match ops[i]? with
    | some o => (o.after.all fun e => !Region.binds .any e || decide (e.on < i)) && (List.range i).all fun j => afterB o j || (Nat.beq j i0 && Nat.beq i j0) || (tf j).indep (tf i) || heldB ops 4 i j
    | none => false

def tfOf (trs : List Tr) (i0 : Nat) (τ' : Tr) (f : Bool) (i : Nat) : Tr := bif f && Nat.beq i i0 then τ' else trs.getD i dfT

/-- a look-up behind the making of the entry: what it is there -/
def altTr (P : Program) (T : List (Nat × TI)) (nt : Nat) (ops : Array Oper) (trs : List Tr) (gl : List (Nat × Bool)) (i0 j0 d : Nat) (c : CastC) : Option (Tr × Ob) :=
  match trs[i0]?, trs[j0]?, ops[i0]? with
  | some τ, some σ, some o => (match stepOp P T nt ops ⟨τ.need, σ.mem'⟩ [] [.cast d c] o with
    | some (τ', [], [], ob) => bif gl.isEmpty && Nat.blt i0 j0 && τ.mem.isEmpty && τ.mem'.isEmpty && τ'.mem.isEmpty && τ'.mem'.isEmpty && τ.gs.isEmpty && τ'.gs.isEmpty &&
        (match τ.dst, τ'.dst, σ.dst with | some a, some a', some b => Nat.beq a a' && !Nat.beq a b && !(σ.need.map (·.1)).contains a && !(τ'.need.map (·.1)).contains b | _, _, _ => false) &&
        τ'.need.all (fun p => (look τ.need p.1).isSome) && ordOK trs && regOKf i0 j0 ops (tfOf trs i0 τ' false) && regOKf i0 j0 ops (tfOf trs i0 τ' true) then some (τ', ob.and (.ve τ'.v τ.v)) else none
    | _ => none)
  | _, _, _ => none

/-- a region: the state behind it, and what must hold -/
def evRegion (P : Program) (T : List (Nat × TI)) (nt : Nat) (ops : Array Oper) (draw : Bool) (keep : Option (List Nat)) (st : St) (orc : List Orc) : Option (St × Ob) :=
  match evOps P T nt ops ops.toList st [] orc with
  | some (trs, st', _, [], ob) => bif drawOK draw ops trs && trs.all (fun τ => τ.created.all (freshB st)) && distinctB st'.sl then some (⟨keepG keep st'.sl, st'.lb⟩, ob) else none
  | some (trs, st', gl, [.alt i0 j0 d c], ob) => (match draw, altTr P T nt ops trs gl i0 j0 d c with
    | true, some (_, ob') => bif trs.all (fun τ => τ.created.all (freshB st)) && distinctB st'.sl then some (⟨keepG keep st'.sl, st'.lb⟩, ob.and ob') else none
    | _, _ => none)
  | _ => none

/-! soundness -/

theorem look_cons {α : Type} (k : Nat) (x : α) (r : List (Nat × α)) (t : Nat) : look ((k, x) :: r) t = if k = t then some x else look r t := by
  simp only [look]
  cases hb : Nat.beq k t with
  | true => simp [Nat.eq_of_beq_eq_true hb]
  | false =>
    have : ¬ k = t := fun e => by rw [e, Nat.beq_refl] at hb; cases hb
    simp [this]

theorem look_append {α : Type} (l r : List (Nat × α)) (t : Nat) : look (l ++ r) t = match look l t with | some x => some x | none => look r t := by
  induction l with
  | nil => rfl
  | cons p l ih =>
    obtain ⟨k, x⟩ := p
    simp only [List.cons_append, look_cons]
    split
    · rfl
    · exact ih

theorem look_del {α : Type} (ks : List Nat) (l : List (Nat × α)) (t : Nat) : look (delKeys ks l) t = if t ∈ ks then none else look l t := by
  induction l with
  | nil => simp [delKeys, look]
  | cons p l ih =>
    obtain ⟨k, x⟩ := p
    simp only [delKeys]
    cases hb : ks.any (fun q => Nat.beq q k) with
    | true =>
      simp only [cond_true]
      rw [ih, look_cons]
      have hk : k ∈ ks := by
        obtain ⟨q, hq, he⟩ := List.any_eq_true.1 hb
        rw [← Nat.eq_of_beq_eq_true he]
        exact hq
      by_cases c : k = t
      · subst c; simp [hk]
      · simp [c]
    | false =>
      simp only [cond_false, look_cons]
      have hk : k ∉ ks := fun hc => by
        have : ks.any (fun q => Nat.beq q k) = true := List.any_eq_true.2 ⟨k, hc, Nat.beq_refl k⟩
        rw [this] at hb
        cases hb
      by_cases c : k = t
      · subst c; simp [hk]
      · simp only [c, if_false]
        exact ih

theorem get_del (d : Nat) (v : AV) (sl : List (Nat × AV)) (t : Nat) : St.get ((d, v) :: delKeys [d] sl) t = if d = t then v else St.get sl t := by
  unfold St.get
  rw [look_cons]
  by_cases c : d = t
  · simp [c]
  · simp only [c, if_false]
    rw [look_del]
    have : t ∉ [d] := by simp; exact fun e => c e.symm
    simp [this]

theorem St.apply_toM (st : St) (τ : Tr) : (st.apply τ).toM = τ.apply st.toM := by
  unfold St.apply St.toM Tr.apply
  have e1 : (St.get (match τ.dst with | some d => (d, τ.v) :: delKeys [d] st.sl | none => st.sl)) = fun t => if τ.dst = some t then τ.v else St.get st.sl t := by
    funext t
    cases hd : τ.dst with
    | none => simp
    | some d =>
      simp only [Option.some.injEq]
      exact get_del d τ.v st.sl t
  have e2 : look (match τ.mem, τ.mem' with | [], [] => st.lb | m, m' => m' ++ delKeys (m.map (·.1)) st.lb) = fun k => match look τ.mem' k with | some b => some b | none => if k ∈ τ.mem.map (·.1) then none else look st.lb k := by
    funext k
    split
    · rename_i h1 h2
      simp [h1, h2, look]
    · rw [look_append, look_del]
      cases look τ.mem' k <;> simp
  show M.mk (St.get _) (look _) = _
  rw [e1, e2]
  rfl

/-! the blocks that an operation names are those that it has looked up -/

theorem ptrCells_ro {lb : List (Nat × Blk)} {x : AV} {cs : List AV} {ro : List (Nat × Blk)} {ob : Ob} (h : ptrCells lb x = some (cs, ro, ob)) : ∀ p, p ∈ ro → look lb p.1 = some p.2 := by
  unfold ptrCells at h
  split at h
  · split at h
    · rename_i hl
      simp only [Option.some.injEq, Prod.mk.injEq] at h
      obtain ⟨-, rfl, -⟩ := h
      intro p hp
      simp only [List.mem_singleton] at hp
      subst hp
      exact hl
    · cases h
  · rename_i key k i off
    split at h
    · rename_i e k' n f hl
      cases hb : Nat.beq k k' with
      | false => rw [hb] at h; cases h
      | true =>
        rw [hb] at h
        simp only [cond_true, Option.some.injEq, Prod.mk.injEq] at h
        obtain ⟨-, rfl, -⟩ := h
        intro p hp
        simp only [List.mem_singleton] at hp
        subst hp
        exact hl
    · cases h
  · simp only [Option.some.injEq, Prod.mk.injEq] at h
    obtain ⟨-, rfl, -⟩ := h
    intro p hp
    cases hp
  · cases h

theorem ro_nil {lb ro : List (Nat × Blk)} (h : ro = []) : ∀ p, p ∈ ro → look lb p.1 = some p.2 := fun p hp => by subst h; cases hp

theorem evV_ro {T : List (Nat × TI)} {lb : List (Nat × Blk)} {ρ : Operand → Option AV} {o : Op} {v : AV} {ro : List (Nat × Blk)} {ob : Ob} (h : evV T lb ρ o = some (v, ro, ob)) : ∀ p, p ∈ ro → look lb p.1 = some p.2 := by
  have okr : ∀ {x : AV}, ok x = some (v, ro, ob) → ro = [] := fun h => by simp only [ok, Option.some.injEq, Prod.mk.injEq] at h; exact h.2.1.symm
  unfold evV at h
  split at h
  · split at h
    · exact ro_nil (okr h)
    · cases h
  · split at h
    · exact ro_nil (okr h)
    · cases h
  · split at h <;> first | exact ro_nil (okr h) | cases h
  · split at h
    · split at h
      · rename_i hc
        split at h
        · simp only [Option.some.injEq, Prod.mk.injEq] at h
          obtain ⟨-, rfl, -⟩ := h
          exact ptrCells_ro hc
        · cases h
      · cases h
    · cases h
  · split at h
    · unfold evField at h
      split at h
      · split at h <;> first | exact ro_nil (okr h) | cases h
      · cases h
    · cases h
  · split at h
    · unfold evPart at h
      split at h
      · split at h
        · split at h
          · split at h
            · exact ro_nil (okr h)
            · cases h
          · cases h
        · cases h
      · cases h
    · cases h
  · split at h
    · unfold evIndexAddr at h
      split at h
      · split at h
        · split at h
          · rename_i ie _ n _ m f _ _ _
            generalize hb : Nat.beq _ _ = bb at h
            cases bb with
            | false => cases h
            | true =>
              simp only [cond_true, Option.some.injEq, Prod.mk.injEq] at h
              exact ro_nil h.2.1.symm
          · simp only [Option.some.injEq, Prod.mk.injEq] at h
            exact ro_nil h.2.1.symm
          · cases h
        · cases h
      · cases h
    · cases h
  · split at h
    · unfold evIndex at h
      split at h
      · simp only [Option.some.injEq, Prod.mk.injEq] at h
        exact ro_nil h.2.1.symm
      · cases h
    · cases h
  · split at h
    · unfold evBin at h
      split at h
      · split at h
        · simp only [Option.some.injEq, Prod.mk.injEq] at h
          exact ro_nil h.2.1.symm
        · simp only [Option.some.injEq, Prod.mk.injEq] at h
          exact ro_nil h.2.1.symm
        · cases h
      · split at h
        · simp only [Option.some.injEq, Prod.mk.injEq] at h
          exact ro_nil h.2.1.symm
        · cases h
      · split at h
        · exact ro_nil (okr h)
        · split at h
          · exact ro_nil (okr h)
          · cases h
      · cases h
    · cases h
  · split at h
    · unfold evUn at h
      split at h <;> first | exact ro_nil (okr h) | cases h
    · cases h
  · split at h
    · unfold evConv at h
      split at h
      · exact ro_nil (okr h)
      · cases h
    · cases h
  · split at h
    · unfold evExtract at h
      split at h
      · split at h
        · exact ro_nil (okr h)
        · cases h
      · cases h
    · cases h
  · unfold evBuild at h
    split at h
    · split at h
      · split at h
        · exact ro_nil (okr h)
        · cases h
      · cases h
    · cases h
  · split at h
    · exact ro_nil (okr h)
    · cases h
  · split at h
    · unfold evSlice at h
      split at h
      · unfold evSliceStr at h
        split at h <;> first | exact ro_nil (okr h) | (simp only [Option.some.injEq, Prod.mk.injEq] at h; exact ro_nil h.2.1.symm) | cases h
      · split at h
        · unfold evSliceSl at h
          split at h <;> first | (simp only [Option.some.injEq, Prod.mk.injEq] at h; exact ro_nil h.2.1.symm) | cases h
        · cases h
      · split at h
        · unfold evSliceArr at h
          split at h
          · generalize (_ && _ && _ : Bool) = bb at h
            cases bb with
            | false => cases h
            | true => exact ro_nil (okr h)
          · cases h
        · cases h
      · cases h
    · cases h
  · split at h
    · unfold evLen at h
      split at h <;> first | exact ro_nil (okr h) | cases h
    · cases h
  · split at h
    · unfold evFold at h
      split at h
      · split at h
        · exact ro_nil (okr h)
        · cases h
      · cases h
    · cases h
  · split at h
    · unfold evFold at h
      split at h
      · split at h
        · exact ro_nil (okr h)
        · cases h
      · cases h
    · cases h
  · cases h

theorem bor1_ro {lb : List (Nat × Blk)} {x : AV} {y : D} {ro : List (Nat × Blk)} {ob : Ob} (h : bor1 lb x = some (y, ro, ob)) : ∀ p, p ∈ ro → look lb p.1 = some p.2 := by
  unfold bor1 at h
  split at h
  · simp only [Option.some.injEq, Prod.mk.injEq] at h
    exact ro_nil h.2.1.symm
  · simp only [Option.some.injEq, Prod.mk.injEq] at h
    exact ro_nil h.2.1.symm
  · split at h
    · rename_i hl
      simp only [Option.some.injEq, Prod.mk.injEq] at h
      obtain ⟨-, rfl, -⟩ := h
      intro p hp
      simp only [List.mem_singleton] at hp
      subst hp
      exact hl
    · cases h
  · split at h
    · rename_i hl
      simp only [Option.some.injEq, Prod.mk.injEq] at h
      obtain ⟨-, rfl, -⟩ := h
      intro p hp
      simp only [List.mem_singleton] at hp
      subst hp
      exact hl
    · cases h
  · cases h

theorem borL1_ro {lb : List (Nat × Blk)} : ∀ {xs : List AV} {ys : List D} {ro : List (Nat × Blk)} {ob : Ob}, borL1 lb xs = some (ys, ro, ob) → ∀ p, p ∈ ro → look lb p.1 = some p.2
  | [], ys, ro, ob, h => by simp only [borL1, Option.some.injEq, Prod.mk.injEq] at h; exact ro_nil h.2.1.symm
  | x :: r, ys, ro, ob, h => by
    simp only [borL1] at h
    split at h
    · rename_i h1 h2
      simp only [Option.some.injEq, Prod.mk.injEq] at h
      obtain ⟨-, rfl, -⟩ := h
      intro p hp
      rcases List.mem_append.1 hp with hp | hp
      · exact bor1_ro h1 p hp
      · exact borL1_ro h2 p hp
    · cases h

theorem borA1_ro {lb : List (Nat × Blk)} {x y : AV} {ro : List (Nat × Blk)} {ob : Ob} (h : borA1 lb x = some (y, ro, ob)) : ∀ p, p ∈ ro → look lb p.1 = some p.2 := by
  unfold borA1 at h
  split at h
  · simp only [Option.some.injEq, Prod.mk.injEq] at h
    exact ro_nil h.2.1.symm
  · split at h
    · rename_i hl
      split at h
      · rename_i hb
        simp only [Option.some.injEq, Prod.mk.injEq] at h
        obtain ⟨-, rfl, -⟩ := h
        intro p hp
        rcases List.mem_cons.1 hp with rfl | hp
        · exact hl
        · exact borL1_ro hb p hp
      · cases h
    · cases h
  · split at h
    · rename_i hb
      simp only [Option.some.injEq, Prod.mk.injEq] at h
      obtain ⟨-, rfl, -⟩ := h
      exact borL1_ro hb
    · cases h
  · split at h
    · rename_i hl
      simp only [Option.some.injEq, Prod.mk.injEq] at h
      obtain ⟨-, rfl, -⟩ := h
      intro p hp
      simp only [List.mem_singleton] at hp
      subst hp
      exact hl
    · simp only [Option.some.injEq, Prod.mk.injEq] at h
      exact ro_nil h.2.1.symm
    · simp only [Option.some.injEq, Prod.mk.injEq] at h
      exact ro_nil h.2.1.symm
    · cases h
  · simp only [Option.some.injEq, Prod.mk.injEq] at h
    exact ro_nil h.2.1.symm
  · split at h
    · rename_i hb
      simp only [Option.some.injEq, Prod.mk.injEq] at h
      obtain ⟨-, rfl, -⟩ := h
      exact bor1_ro hb
    · cases h

theorem borAL1_ro {lb : List (Nat × Blk)} : ∀ {xs ys : List AV} {ro : List (Nat × Blk)} {ob : Ob}, borAL1 lb xs = some (ys, ro, ob) → ∀ p, p ∈ ro → look lb p.1 = some p.2
  | [], ys, ro, ob, h => by simp only [borAL1, Option.some.injEq, Prod.mk.injEq] at h; exact ro_nil h.2.1.symm
  | x :: r, ys, ro, ob, h => by
    simp only [borAL1] at h
    split at h
    · rename_i h1 h2
      simp only [Option.some.injEq, Prod.mk.injEq] at h
      obtain ⟨-, rfl, -⟩ := h
      intro p hp
      rcases List.mem_append.1 hp with hp | hp
      · exact borA1_ro h1 p hp
      · exact borAL1_ro h2 p hp
    · cases h

theorem borA_ro {lb : List (Nat × Blk)} {x y : AV} {ro : List (Nat × Blk)} {ob : Ob} (h : borA lb x = some (y, ro, ob)) : ∀ p, p ∈ ro → look lb p.1 = some p.2 := by
  unfold borA at h
  split at h
  · split at h
    · rename_i hb
      simp only [Option.some.injEq, Prod.mk.injEq] at h
      obtain ⟨-, rfl, -⟩ := h
      exact borAL1_ro hb
    · cases h
  · exact borA1_ro h

theorem borAL_ro {lb : List (Nat × Blk)} : ∀ {xs ys : List AV} {ro : List (Nat × Blk)} {ob : Ob}, borAL lb xs = some (ys, ro, ob) → ∀ p, p ∈ ro → look lb p.1 = some p.2
  | [], ys, ro, ob, h => by simp only [borAL, Option.some.injEq, Prod.mk.injEq] at h; exact ro_nil h.2.1.symm
  | x :: r, ys, ro, ob, h => by
    simp only [borAL] at h
    split at h
    · rename_i h1 h2
      simp only [Option.some.injEq, Prod.mk.injEq] at h
      obtain ⟨-, rfl, -⟩ := h
      intro p hp
      rcases List.mem_append.1 hp with hp | hp
      · exact borA_ro h1 p hp
      · exact borAL_ro h2 p hp
    · cases h

theorem looks_spec {lb : List (Nat × Blk)} : ∀ {ks : List Nat} {l : List (Nat × Blk)}, looks lb ks = some l → ∀ p, p ∈ l → look lb p.1 = some p.2
  | [], l, h => by simp only [looks, Option.some.injEq] at h; exact ro_nil h.symm
  | k :: r, l, h => by
    simp only [looks] at h
    split at h
    · rename_i h1 h2
      simp only [Option.some.injEq] at h
      subst h
      intro p hp
      rcases List.mem_cons.1 hp with rfl | hp
      · exact h1
      · exact looks_spec h2 p hp
    · cases h

theorem evOp0_looks {P : Program} {T : List (Nat × TI)} {lb : List (Nat × Blk)} {ρ : Operand → Option AV} {dst : Option Nat} {quiet : Bool} {orc orc' : List Orc} {op : Op} {r : R} (h : evOp0 P T lb ρ dst quiet orc op = some (r, orc')) :
    (∀ p, p ∈ r.ro → look lb p.1 = some p.2) ∧ (∀ p, p ∈ r.mem → look lb p.1 = some p.2) ∧ (quiet = true → r.mem = [] ∧ r.mem' = []) := by
  have one : ∀ {κ : Nat} {b : Blk}, look lb κ = some b → ∀ p, p ∈ [(κ, b)] → look lb p.1 = some p.2 := fun hl p hp => by
    simp only [List.mem_singleton] at hp
    subst hp
    exact hl
  unfold evOp0 at h
  split at h
  · split at h
    · simp only [Option.some.injEq, Prod.mk.injEq] at h
      obtain ⟨rfl, -⟩ := h
      exact ⟨ro_nil rfl, ro_nil rfl, fun hq => (by cases hq)⟩
    · cases h
  · split at h
    · split at h
      · split at h
        · simp only [Option.some.injEq, Prod.mk.injEq] at h
          obtain ⟨rfl, -⟩ := h
          exact ⟨ro_nil rfl, ro_nil rfl, fun hq => (by cases hq)⟩
        generalize (noG.noGL _ && _) = bb at h
        cases bb with
        | false => cases h
        | true =>
          simp only [cond_true, Option.some.injEq, Prod.mk.injEq] at h
          obtain ⟨rfl, -⟩ := h
          exact ⟨ro_nil rfl, ro_nil rfl, fun hq => (by cases hq)⟩
      · cases h
    · cases h
  · split at h
    · split at h
      · simp only [Option.some.injEq, Prod.mk.injEq] at h
        obtain ⟨rfl, -⟩ := h
        exact ⟨ro_nil rfl, ro_nil rfl, fun _ => ⟨rfl, rfl⟩⟩
      · split at h
        · simp only [Option.some.injEq, Prod.mk.injEq] at h
          obtain ⟨rfl, -⟩ := h
          exact ⟨ro_nil rfl, ro_nil rfl, fun hq => (by cases hq)⟩
        · cases h
    · cases h
  · split at h
    · split at h
      · rename_i r' hst
        simp only [Option.some.injEq, Prod.mk.injEq] at h
        obtain ⟨rfl, -⟩ := h
        refine ⟨?_, ?_, fun hq => (by cases hq)⟩
        all_goals
          unfold evStore at hst
          split at hst
          · rename_i i xs hi hc
            split at hst
            · rename_i κ off
              split at hst
              · rename_i cs hl
                generalize (Nat.beq _ _ && _ && _ && _) = bb at hst
                cases bb with
                | false => cases hst
                | true =>
                  simp only [cond_true, Option.some.injEq] at hst
                  subst hst
                  first | exact one hl | exact ro_nil rfl
              · cases hst
            · split at hst
              · rename_i e k' n f ds hl hp
                generalize hb : (Nat.beq _ k' && _ && _ && _) = bb at hst
                cases bb with
                | false => cases hst
                | true =>
                  simp only [Bool.and_eq_true] at hb
                  have ek := Nat.eq_of_beq_eq_true hb.1.1.1
                  subst ek
                  simp only [cond_true, Option.some.injEq] at hst
                  subst hst
                  first | exact one hl | exact ro_nil rfl
              · cases hst
            · cases hst
          · cases hst
      · cases h
    · cases h
  · split at h
    · split at h
      · split at h
        · rename_i r' hap
          simp only [Option.some.injEq, Prod.mk.injEq] at h
          obtain ⟨rfl, -⟩ := h
          have main : (∀ p, p ∈ r'.ro → look lb p.1 = some p.2) ∧ (∀ p, p ∈ r'.mem → look lb p.1 = some p.2) := by
            unfold evAppend at hap
            split at hap
            · split at hap
              · rename_i i hi
                split at hap
                · rename_i m g ro ob hsrc
                  have hro : ∀ p, p ∈ ro → look lb p.1 = some p.2 := by
                    unfold evSrc at hsrc
                    split at hsrc
                    · simp only [Option.some.injEq, Prod.mk.injEq] at hsrc
                      exact ro_nil hsrc.2.2.1.symm
                    · simp only [Option.some.injEq, Prod.mk.injEq] at hsrc
                      exact ro_nil hsrc.2.2.1.symm
                    · simp only [Option.some.injEq, Prod.mk.injEq] at hsrc
                      exact ro_nil hsrc.2.2.1.symm
                    · split at hsrc
                      · rename_i hl
                        generalize hb : Nat.beq _ _ = bb at hsrc
                        cases bb with
                        | false => cases hsrc
                        | true =>
                          simp only [cond_true, Option.some.injEq, Prod.mk.injEq] at hsrc
                          obtain ⟨-, -, rfl, -⟩ := hsrc
                          exact one hl
                      · cases hsrc
                    · cases hsrc
                  split at hap
                  · simp only [Option.some.injEq] at hap
                    subst hap
                    exact ⟨hro, ro_nil rfl⟩
                  · split at hap
                    · rename_i hl
                      generalize (Nat.beq _ _ && _ && _) = bb at hap
                      cases bb with
                      | false => cases hap
                      | true =>
                        simp only [cond_true, Option.some.injEq] at hap
                        subst hap
                        exact ⟨hro, one hl⟩
                    · cases hap
                  · cases hap
                · cases hap
              · cases hap
            · cases hap
          exact ⟨main.1, main.2, fun hq => (by cases hq)⟩
        · cases h
      · cases h
    · cases h
  · split at h
    · unfold evCall at h
      split at h
      · split at h
        · split at h
          · rename_i hb
            generalize flatA _ = bb at h
            cases bb with
            | false => cases h
            | true =>
              simp only [cond_true, Option.some.injEq, Prod.mk.injEq] at h
              obtain ⟨rfl, -⟩ := h
              exact ⟨borAL_ro hb, ro_nil rfl, fun _ => ⟨rfl, rfl⟩⟩
          · cases h
        · cases h
      · rename_i hand res back orc0
        split at h
        · split at h
          · rename_i lbs hlk
            generalize hb : (noG.noGL _ && closedB res back && noG res && (!quiet || (hand.isEmpty && back.isEmpty)) && back.all (fun p => !hand.contains p.1)) = bb at h
            cases bb with
            | false => cases h
            | true =>
              simp only [cond_true, Option.some.injEq, Prod.mk.injEq] at h
              obtain ⟨rfl, -⟩ := h
              simp only [Bool.and_eq_true, Bool.or_eq_true, Bool.not_eq_true', List.isEmpty_iff] at hb
              refine ⟨ro_nil rfl, looks_spec hlk, fun hq => ?_⟩
              rcases hb.1.2 with h1 | ⟨h1, h2⟩
              · rw [hq] at h1; cases h1
              · subst h1; subst h2
                simp only [looks, Option.some.injEq] at hlk
                exact ⟨hlk.symm, rfl⟩
          · cases h
        · cases h
      · rename_i κ b' orc0
        split at h
        · split at h
          · rename_i b hlk
            generalize hb : (noG.noGL _ && !quiet) = bb at h
            cases bb with
            | false => cases h
            | true =>
              simp only [cond_true, Option.some.injEq, Prod.mk.injEq] at h
              obtain ⟨rfl, -⟩ := h
              simp only [Bool.and_eq_true, Bool.not_eq_true'] at hb
              refine ⟨ro_nil rfl, fun p hp => ?_, fun hq => ?_⟩
              · have : p = (κ, b) := by simpa using hp
                subst this
                exact hlk
              · rw [hq] at hb; cases hb.2
          · cases h
        · cases h
      · rename_i hand anc res back orc0
        split at h
        · split at h
          · rename_i lbs hlk
            generalize hb : (noG.noGL _ && bxOK _ hand lbs anc res back && noG res && !quiet) = bb at h
            cases bb with
            | false => cases h
            | true =>
              simp only [cond_true, Option.some.injEq, Prod.mk.injEq] at h
              obtain ⟨rfl, -⟩ := h
              simp only [Bool.and_eq_true, Bool.not_eq_true'] at hb
              exact ⟨ro_nil rfl, looks_spec hlk, fun hq => by rw [hq] at hb; cases hb.2⟩
          · cases h
        · cases h
      · cases h
    · cases h
  · split at h
    · split at h
      · simp only [Option.some.injEq, Prod.mk.injEq] at h
        obtain ⟨rfl, -⟩ := h
        exact ⟨ro_nil rfl, ro_nil rfl, fun hq => (by cases hq)⟩
      · cases h
    · cases h
  · split at h
    · simp only [Option.some.injEq, Prod.mk.injEq] at h
      obtain ⟨rfl, -⟩ := h
      exact ⟨ro_nil rfl, ro_nil rfl, fun _ => ⟨rfl, rfl⟩⟩
    · split at h
      · rename_i hv
        simp only [Option.some.injEq, Prod.mk.injEq] at h
        obtain ⟨rfl, -⟩ := h
        exact ⟨evV_ro hv, ro_nil rfl, fun _ => ⟨rfl, rfl⟩⟩
      · cases h

theorem evOpM_looks {P : Program} {T : List (Nat × TI)} {lb : List (Nat × Blk)} {ρ : Operand → Option AV} {dst : Option Nat} {quiet : Bool} {orc orc' : List Orc} {op : Op} {r : R} (h : evOpM P T lb ρ dst quiet orc op = some (r, orc')) :
    (∀ p, p ∈ r.ro → look lb p.1 = some p.2) ∧ (∀ p, p ∈ r.mem → look lb p.1 = some p.2) ∧ (quiet = true → r.mem = [] ∧ r.mem' = []) := by
  unfold evOpM at h
  split at h
  · rename_i hm
    simp only [Option.some.injEq, Prod.mk.injEq] at h
    obtain ⟨rfl, -⟩ := h
    exact ⟨(evMapA_ro hm).1, (evMapA_ro hm).2.1, (evMapA_ro hm).2.2.1⟩
  split at h
  · rename_i hm
    simp only [Option.some.injEq, Prod.mk.injEq] at h
    obtain ⟨rfl, -⟩ := h
    exact evMore_ro hm
  split at h
  · simp only [Option.some.injEq, Prod.mk.injEq] at h
    obtain ⟨rfl, -⟩ := h
    exact ⟨ro_nil rfl, ro_nil rfl, fun _ => ⟨rfl, rfl⟩⟩
  · exact evOp0_looks h

theorem normR_same {c : NormC} {r r' : R} (h : normR c r = some r') : r'.ro = r.ro ∧ r'.mem = r.mem ∧ (r.mem' = [] → r'.mem' = []) := by
  unfold normR at h
  split at h
  · rename_i hm
    have nn : ∀ {x : List (Nat × Blk)}, r.mem' = [] → x = [] := fun e => by rw [hm] at e; cases e
    split at h
    · generalize Nat.beq _ _ = bb at h
      cases bb with
      | false => cases h
      | true =>
        simp only [cond_true, Option.some.injEq] at h
        subst h
        exact ⟨rfl, rfl, nn⟩
    · simp only [Option.some.injEq] at h
      subst h
      exact ⟨rfl, rfl, nn⟩
    · cases h
  · split at h
    · simp only [Option.some.injEq] at h
      subst h
      exact ⟨rfl, rfl, fun _ => rfl⟩
    · cases h
  · cases h

theorem normM_same {c : NormM} {r r' : R} (h : normM c r = some r') : r'.ro = r.ro ∧ r'.mem = r.mem ∧ (r.mem' = [] → r'.mem' = []) := by
  unfold normM at h
  split at h
  · rename_i hm
    split at h
    · simp only [Option.some.injEq] at h
      subst h
      exact ⟨rfl, rfl, fun e => by rw [hm] at e; cases e⟩
    · simp only [Option.some.injEq] at h
      subst h
      exact ⟨rfl, rfl, fun e => by rw [hm] at e; cases e⟩
    · simp only [Option.some.injEq] at h
      subst h
      exact ⟨rfl, rfl, fun e => by rw [hm] at e; cases e⟩
    · cases h
  · rename_i hm
    split at h
    · simp only [Option.some.injEq] at h
      subst h
      exact ⟨rfl, rfl, fun e => by rw [hm] at e; cases e⟩
    · cases h
  · cases h

theorem evOp_looks {P : Program} {T : List (Nat × TI)} {lb : List (Nat × Blk)} {ρ : Operand → Option AV} {dst : Option Nat} {quiet : Bool} {orc orc' : List Orc} {op : Op} {r : R} (h : evOp P T lb ρ dst quiet orc op = some (r, orc')) :
    (∀ p, p ∈ r.ro → look lb p.1 = some p.2) ∧ (∀ p, p ∈ r.mem → look lb p.1 = some p.2) ∧ (quiet = true → r.mem = [] ∧ r.mem' = []) := by
  unfold evOp at h
  split at h
  · rename_i r0 orc1 h0
    obtain ⟨q1, q2, q3⟩ := evOpM_looks h0
    split at h
    · split at h
      · rename_i r' hn
        simp only [Option.some.injEq, Prod.mk.injEq] at h
        obtain ⟨rfl, -⟩ := h
        obtain ⟨e1, e2, e3⟩ := normR_same hn
        rw [e1, e2]
        exact ⟨q1, q2, fun hq => ⟨(q3 hq).1, e3 (q3 hq).2⟩⟩
      · simp only [Option.some.injEq, Prod.mk.injEq] at h
        obtain ⟨rfl, -⟩ := h
        exact ⟨q1, q2, q3⟩
    · split at h
      · rename_i r' hn
        simp only [Option.some.injEq, Prod.mk.injEq] at h
        obtain ⟨rfl, -⟩ := h
        obtain ⟨e1, e2, e3⟩ := normM_same hn
        rw [e1, e2]
        exact ⟨q1, q2, fun hq => ⟨(q3 hq).1, e3 (q3 hq).2⟩⟩
      · simp only [Option.some.injEq, Prod.mk.injEq] at h
        obtain ⟨rfl, -⟩ := h
        exact ⟨q1, q2, q3⟩
    · split at h
      · generalize Nat.beq _ _ = bb at h
        cases bb with
        | false =>
          simp only [cond_false, Option.some.injEq, Prod.mk.injEq] at h
          obtain ⟨rfl, -⟩ := h
          exact ⟨q1, q2, q3⟩
        | true =>
          simp only [cond_true, Option.some.injEq, Prod.mk.injEq] at h
          obtain ⟨rfl, -⟩ := h
          exact ⟨q1, q2, q3⟩
      · simp only [Option.some.injEq, Prod.mk.injEq] at h
        obtain ⟨rfl, -⟩ := h
        exact ⟨q1, q2, q3⟩
    · simp only [Option.some.injEq, Prod.mk.injEq] at h
      obtain ⟨rfl, -⟩ := h
      exact ⟨q1, q2, q3⟩
  · cases h

def holdsP (ν : Nat → Bool) (p : List (Nat × Bool)) : Prop := ∀ y, y ∈ p → ν y.1 = y.2

theorem subP_holds {ν : Nat → Bool} {q p : List (Nat × Bool)} (h : subP q p = true) (hp : holdsP ν p) : holdsP ν q := by
  intro y hy
  simp only [subP, List.all_eq_true, List.any_eq_true, Bool.and_eq_true, beq_iff_eq] at h
  obtain ⟨z, hz, h1, h2⟩ := h y hy
  have := hp z hz
  rw [Nat.eq_of_beq_eq_true h1, h2]
  exact this

section
variable {C : Cx} {A : M} {a : Act} {w : World} {S : Nat → Prop} {μ : Mu} {ν : Nat → Bool}

theorem rhoN_rel (hgl : GlobOK w S) {need : List (Nat × AV)} {p : List (Nat × Bool)} (hneed : ∀ q, q ∈ need → Rel w S μ ν q.2 (a.tmps.getD q.1 undef)) (hp : holdsP ν p) (x : Operand) (y : AV) (h : rhoN need p x = some y) : Rel w S μ ν y (a.eval x) := by
  cases x with
  | tmp t =>
    simp only [rhoN] at h
    cases hl : look need t with
    | none => rw [hl] at h; cases h
    | some z =>
      rw [hl] at h
      have hr := hneed (t, z) (look_mem hl)
      show Rel w S μ ν y (a.tmps.getD t undef)
      simp only at h hr
      cases z with
      | g q b =>
        simp only [res1] at h
        cases hs : subP q p with
        | false => rw [hs] at h; cases h
        | true =>
          rw [hs] at h
          simp only [cond_true, Option.some.injEq] at h
          subst h
          cases hr with
          | g h1 _ => exact h1 (subP_holds hs hp)
      | _ => simp only [res1, Option.some.injEq] at h; subst h; exact hr
  | const v => exact ofConst_rel h
  | func f =>
    simp only [rhoN, Option.some.injEq] at h
    subst h
    exact .fn rfl (fun i hi => absurd hi (by simp))
  | global g =>
    simp only [rhoN] at h
    cases hl : look (Globs.gl) g with
    | none => rw [hl] at h; cases h
    | some cs =>
      rw [hl] at h
      simp only [Option.some.injEq] at h
      subst h
      obtain ⟨vals, h1, h2⟩ := hgl.2 (g, cs) (look_mem hl)
      exact .ref vals h1 h2

theorem needOf_mem {sl : List (Nat × AV)} : ∀ {ts : List Nat} {q : Nat × AV}, q ∈ needOf sl ts → q.2 = St.get sl q.1 ∧ q.1 ∈ ts
  | t :: r, q, h => by
    rcases List.mem_cons.1 h with rfl | h'
    · exact ⟨rfl, List.mem_cons_self⟩
    · obtain ⟨h1, h2⟩ := needOf_mem h'
      exact ⟨h1, List.mem_cons_of_mem _ h2⟩

theorem look_need {sl : List (Nat × AV)} : ∀ {ts : List Nat} {s : Nat}, s ∈ ts → (s, St.get sl s) ∈ needOf sl ts
  | t :: r, s, h => by
    rcases List.mem_cons.1 h with rfl | h'
    · exact List.mem_cons_self
    · exact List.mem_cons_of_mem _ (look_need h')

theorem gsOf_mem {gl : List (Nat × Bool)} : ∀ {ss : List Nat} {q : Nat × Bool}, q ∈ gsOf gl ss → look gl q.1 = some q.2
  | s :: r, q, h => by
    simp only [gsOf] at h
    cases hl : look gl s with
    | none => rw [hl] at h; exact gsOf_mem h
    | some e =>
      rw [hl] at h
      rcases List.mem_cons.1 h with rfl | h'
      · exact hl
      · exact gsOf_mem h'

theorem pathCond_of {gl : List (Nat × Bool)} {ob : Ob} : ∀ {p : List (Nat × Bool)}, (pathCond gl p ob).den → (∀ s e, s ∈ p.map (·.1) → look gl s = some e → ν s = e) → holdsP ν p → ob.den
  | [], h, _, _ => h
  | (s, w) :: r, h, hg, hp => by
    simp only [pathCond] at h
    have hr : ∀ s e, s ∈ r.map (·.1) → look gl s = some e → ν s = e := fun s e hs => hg s e (by simp only [List.map_cons, List.mem_cons]; exact .inr hs)
    have hp' : holdsP ν r := fun y hy => hp y (List.mem_cons_of_mem _ hy)
    cases hl : look gl s with
    | none => rw [hl] at h; exact pathCond_of h hr hp'
    | some e =>
      rw [hl] at h
      exact pathCond_of (Ob.imp_den h (by rw [← hg s e (by simp) hl]; exact hp (s, w) List.mem_cons_self)) hr hp'

theorem regG_spec {gl gl' : List (Nat × Bool)} {s : Nat} {e : Bool} {ob : Ob} (h : regG gl s e = (gl', ob)) (hob : ob.den) : look gl' s = some e ∧ ∀ t x, look gl t = some x → look gl' t = some x := by
  unfold regG at h
  cases hl : look gl s with
  | some e' =>
    rw [hl] at h
    simp only [Prod.mk.injEq] at h
    obtain ⟨rfl, rfl⟩ := h
    simp only [Ob.den] at hob
    exact ⟨by rw [hl, hob], fun t x h => h⟩
  | none =>
    rw [hl] at h
    simp only [Prod.mk.injEq] at h
    obtain ⟨rfl, rfl⟩ := h
    refine ⟨by rw [look_append, hl]; simp [look], fun t x ht => by rw [look_append, ht]⟩

theorem yield_at {ops : Array Oper} {j s : Nat} (hj : guardSlot ops j = some s) (hlt : s < a.tmps.size) : yielded ops a.tmps j = match a.tmps.getD s undef with | .bool b => some b | _ => none := by
  unfold guardSlot at hj
  cases ho : ops[j]? with
  | none => rw [ho] at hj; cases hj
  | some o =>
    rw [ho] at hj
    simp only at hj
    unfold yielded
    rw [ho]
    simp only [Option.bind_some, hj, Array.getElem?_eq_getElem hlt]
    have e : a.tmps.getD s undef = a.tmps[s] := by simp [Array.getD, hlt]
    rw [e]
    cases a.tmps[s] <;> rfl


theorem rel_wrap {p : List (Nat × Bool)} {v : AV} {x : Value} (hp : holdsP ν p) (h : Rel w S μ ν v x) : Rel w S μ ν (wrapG p v) x := by
  cases p with
  | nil => exact h
  | cons y r => exact .g (fun _ => h) (fun hn => absurd hp hn)

/-- the same transition, with another name for its result -/
theorem Sim.rename {τ τ' : Tr} {a' : Act} {w' : World} {S' : Nat → Prop} {μ' : Mu} (h : Sim C (τ.apply A) a' w' S' μ' ν) (hd : τ'.dst = τ.dst) (hm : τ'.mem = τ.mem) (hm' : τ'.mem' = τ.mem') (hv : ∀ x, Rel w' S' μ' ν τ.v x → Rel w' S' μ' ν τ'.v x) : Sim C (τ'.apply A) a' w' S' μ' ν := by
  have e : (τ'.apply A).lb = (τ.apply A).lb := by simp only [Tr.apply, hm, hm']
  refine ⟨h.tmps, h.defers, fun t => ?_, by rw [e]; exact h.mem, by rw [e]; exact h.inj, by rw [e]; exact h.own, h.stable, h.fresh, h.bound, h.kept⟩
  have h0 := h.slots t
  simp only [Tr.apply, hd] at h0 ⊢
  split
  · rename_i c
    simp only [c, if_true] at h0
    exact hv _ h0
  · rename_i c
    simp only [c, if_false] at h0
    exact h0

theorem stepOp_sound {T : List (Nat × TI)} (hT : TOk C.P T) {ops : Array Oper} {st : St} {gl gl' : List (Nat × Bool)} {orc orc' : List Orc} {o : Oper} {τ : Tr} {ob : Ob}
    (h : stepOp C.P T C.nt ops st gl orc o = some (τ, gl', orc', ob)) (hob : ob.den) (hν : ∀ s e, look gl' s = some e → ν s = e) :
    OpSound C ν ops o τ ∧ (∀ p, p ∈ τ.gs → ν p.1 = p.2) ∧ En τ st.toM ∧ ∀ t x, look gl t = some x → look gl' t = some x := by
  unfold stepOp at h
  split at h
  case h_2 => cases h
  rename_i p ss gl1 ob1 hpath hdst
  have hd : ∀ t, o.dst = some t → t < C.nt := fun t ht => by
    rw [ht] at hdst
    simp only at hdst
    exact Nat.lt_of_succ_le (Nat.le_of_ble_eq_true hdst)
  -- the path
  have path : ob1.den → (∀ s e, look gl1 s = some e → ν s = e) → (∀ t x, look gl t = some x → look gl1 t = some x) ∧
      ∀ (A : M) (a : Act) (w : World) (S : Nat → Prop) (μ : Mu), Sim C A a w S μ ν → (∀ s, s ∈ ss → A.sl s = St.get st.sl s) → (Region.wanted o (yielded ops a.tmps) = true → holdsP ν p) ∧ (Region.wanted o (yielded ops a.tmps) = false → p ≠ [] ∧ ¬ holdsP ν p) := by
    intro hob1 hν1
    unfold pathOf at hpath
    split at hpath
    · rename_i hg
      simp only [Option.some.injEq, Prod.mk.injEq] at hpath
      obtain ⟨rfl, rfl, rfl, rfl⟩ := hpath
      refine ⟨fun _ _ h => h, fun A a w S μ hs _ => ⟨fun _ y hy => (by cases hy), fun hw => ?_⟩⟩
      simp [Region.wanted, hg] at hw
    · rename_i j want hg
      split at hpath
      · rename_i s hgs
        cases hnt : Nat.ble (s + 1) C.nt with
        | false => rw [hnt] at hpath; cases hpath
        | true =>
        rw [hnt] at hpath
        simp only [cond_true] at hpath
        split at hpath
        · rename_i q e hbo
          generalize hreg : regG gl s e = rg at hpath
          obtain ⟨gl2, ob2⟩ := rg
          simp only [Option.some.injEq, Prod.mk.injEq] at hpath
          obtain ⟨rfl, rfl, rfl, rfl⟩ := hpath
          obtain ⟨g1, g2⟩ := regG_spec hreg hob1
          refine ⟨g2, fun A a w S μ hs hss => ?_⟩
          have hνs := hν1 s e g1
          have hsA := hss s (by simp)
          have hr := hs.slots s
          rw [hsA] at hr
          have hlt : s < a.tmps.size := by rw [hs.tmps]; exact Nat.lt_of_succ_le (Nat.le_of_ble_eq_true hnt)
          have hy := yield_at (a := a) hgs hlt
          have hwant : Region.wanted o (yielded ops a.tmps) = ((match a.tmps.getD s undef with | .bool b => some b | _ => none) == some want) := by
            unfold Region.wanted
            rw [hg]
            simp only [hy]
          rw [hwant]
          unfold boolOf at hbo
          split at hbo
          · rename_i hget
            simp only [Option.some.injEq, Prod.mk.injEq] at hbo
            obtain ⟨rfl, rfl⟩ := hbo
            rw [hget] at hr
            have := rel_bool hr
            rw [this]
            refine ⟨fun hw y hy => ?_, fun hw => ⟨by simp, fun hh => ?_⟩⟩
            · simp only [List.nil_append, List.mem_singleton] at hy
              subst hy
              simp only [beq_iff_eq, Option.some.injEq] at hw
              rw [hνs, hw]
            · have := hh (s, want) (by simp)
              rw [hνs] at this
              simp [this] at hw
          · rename_i hget
            simp only [Option.some.injEq, Prod.mk.injEq] at hbo
            obtain ⟨rfl, rfl⟩ := hbo
            rw [hget] at hr
            generalize a.tmps.getD s undef = xv at hr ⊢
            cases hr with
            | g h1 h0 =>
              rename_i q0 e0
              by_cases hq : holdsP ν q0
              · have := rel_bool (h1 hq)
                rw [this]
                refine ⟨fun hw y hy => ?_, fun hw => ⟨by simp, fun hh => ?_⟩⟩
                · rcases List.mem_append.1 hy with hy | hy
                  · exact hq y hy
                  · simp only [List.mem_singleton] at hy
                    subst hy
                    simp only [beq_iff_eq, Option.some.injEq] at hw
                    rw [hνs, hw]
                · have := hh (s, want) (by simp)
                  rw [hνs] at this
                  simp [this] at hw
              · have := h0 hq
                rw [this]
                refine ⟨fun hw => ?_, fun _ => ⟨by simp, fun hh => hq (fun y hy => hh y (List.mem_append.2 (.inl hy)))⟩⟩
                simp [undef] at hw
          · cases hbo
        · cases hpath
      · cases hpath
  have enN : ∀ (ts : List Nat) (τ : Tr), τ.need = needOf st.sl ts → (∀ p, p ∈ τ.ro → st.toM.lb p.1 = some p.2) → (∀ p, p ∈ τ.mem → st.toM.lb p.1 = some p.2) → En τ st.toM := fun ts τ hn h1 h2 =>
    ⟨fun q hq => by rw [hn] at hq; exact (needOf_mem hq).1.symm, h1, h2⟩
  split at h
  · -- pick
    rename_i c x y hop
    split at h
    · rename_i s e ex ey hpick
      generalize hreg : regG gl1 s e = rg at h
      obtain ⟨gl2, ob2⟩ := rg
      simp only [Option.some.injEq, Prod.mk.injEq] at h
      obtain ⟨rfl, rfl, rfl, rfl⟩ := h
      obtain ⟨hob1, hob2⟩ := Ob.and_den hob
      obtain ⟨r1, r2⟩ := regG_spec hreg hob2
      obtain ⟨mono1, hpth⟩ := path hob1 (fun s' e' hl => hν s' e' (r2 s' e' hl))
      refine ⟨?_, fun q hq => hν _ _ (gsOf_mem hq), enN _ _ rfl (fun p hp => by cases hp) (fun p hp => by cases hp), fun t x h => r2 t x (mono1 t x h)⟩
      intro A a w S μ hs hen _ _
      have hA : ∀ t, t ∈ ss ++ slotsOf [c, x, y] → A.sl t = St.get st.sl t := fun t ht => hen.need (t, St.get st.sl t) (look_need ht)
      obtain ⟨p1, p0⟩ := hpth A a w S μ hs (fun s' hs' => hA s' (List.mem_append.2 (.inl hs')))
      have hneed : ∀ q, q ∈ needOf st.sl (ss ++ slotsOf [c, x, y]) → Rel w S μ ν q.2 (a.tmps.getD q.1 undef) := fun q hq => by
        have := hs.slots q.1
        rw [hen.need q hq] at this
        exact this
      split
      · rename_i hw
        have hp := p1 hw
        have hνs : ν s = e := hν s e r1
        unfold evPick at hpick
        cases c with
        | tmp s' =>
          simp only at hpick
          split at hpick
          · rename_i e' ex' ey' h1 h2 h3
            simp only [Option.some.injEq, Prod.mk.injEq] at hpick
            obtain ⟨rfl, rfl, rfl, rfl⟩ := hpick
            have hc := rel_bool (rhoN_rel hs.glob hneed hp _ _ h1)
            refine core_value (x := .bool (bif e' then ex' else ey')) hs hd ?_ (rel_wrap hp (rel_v rfl)) rfl rfl rfl
            simp only [execOp, hop, hc, asBool, Sem.run_bind, Sem.run_pure, Result.andThen_ok]
            cases e' with
            | true =>
              have hpx : holdsP ν ((s', true) :: p) := fun y hy => by
                rcases List.mem_cons.1 hy with rfl | hy
                · exact hνs
                · exact hp y hy
              have hx := rel_bool (rhoN_rel hs.glob hneed hpx _ _ h2)
              simp [hx]
            | false =>
              have hpy : holdsP ν ((s', false) :: p) := fun y hy => by
                rcases List.mem_cons.1 hy with rfl | hy
                · exact hνs
                · exact hp y hy
              have hx := rel_bool (rhoN_rel hs.glob hneed hpy _ _ h3)
              simp [hx]
          · cases hpick
        | const => cases hpick
        | global => cases hpick
        | func => cases hpick
      · rename_i hw
        obtain ⟨hne, hnp⟩ := p0 (by simpa using hw)
        refine ⟨S, μ, ?_⟩
        have hr : Rel w S μ ν (wrapG p (.d (.v (.bool (bif e then ex else ey))))) undef := by
          cases p with
          | nil => exact absurd rfl hne
          | cons y r => exact .g (fun hh => absurd hh hnp) (fun _ => rfl)
        have h5 := hs.put (dst := o.dst) hd hr
        have e0 : (Tr.mk (needOf st.sl (ss ++ slotsOf [c, x, y])) o.dst (wrapG p (.d (.v (.bool (bif e then ex else ey))))) [] [] [] (gsOf gl2 (s :: p.map (·.1)))).apply A = A.putO o.dst (wrapG p (.d (.v (.bool (bif e then ex else ey))))) := by
          unfold Tr.apply M.putO M.put
          cases hdd : o.dst with
          | none => simp [look]
          | some d =>
            simp only [look, List.map_nil, List.not_mem_nil, if_false, Option.some.injEq]
            congr 1
            funext t
            by_cases cc : d = t
            · simp [cc]
            · have : ¬ t = d := fun e => cc e.symm
              simp [cc, this]
        rw [e0]
        exact h5
    · cases h
  · rename_i op0 hnp
    split at h
    · rename_i r orc1 hev
      simp only [Option.some.injEq, Prod.mk.injEq] at h
      obtain ⟨rfl, rfl, rfl, rfl⟩ := h
      obtain ⟨hob1, hob2⟩ := Ob.and_den hob
      obtain ⟨mono1, hpth⟩ := path hob1 hν
      have hlook : (∀ p, p ∈ r.ro → look st.lb p.1 = some p.2) ∧ (∀ p, p ∈ r.mem → look st.lb p.1 = some p.2) ∧ (p ≠ [] → r.mem = [] ∧ r.mem' = []) := by
        obtain ⟨q1, q2, q3⟩ := evOp_looks hev
        exact ⟨q1, q2, fun hne => q3 (by cases p with | nil => exact absurd rfl hne | cons _ _ => rfl)⟩
      refine ⟨?_, fun q hq => hν _ _ (gsOf_mem hq), enN _ _ rfl hlook.1 hlook.2.1, mono1⟩
      intro A a w S μ hs hen hfr _
      have hA : ∀ t, t ∈ ss ++ slotsOf o.op.operands.toList → A.sl t = St.get st.sl t := fun t ht => hen.need (t, St.get st.sl t) (look_need ht)
      obtain ⟨p1, p0⟩ := hpth A a w S μ hs (fun s' hs' => hA s' (List.mem_append.2 (.inl hs')))
      have hneed : ∀ q, q ∈ needOf st.sl (ss ++ slotsOf o.op.operands.toList) → Rel w S μ ν q.2 (a.tmps.getD q.1 undef) := fun q hq => by
        have := hs.slots q.1
        rw [hen.need q hq] at this
        exact this
      split
      · rename_i hw
        have hp := p1 hw
        have hrob : r.ob.den := pathCond_of hob2 (fun s e _ hl => hν s e hl) hp
        have := evOp_sound hT hs (fun x y hxy => rhoN_rel hs.glob hneed hp x y hxy) hd hev hen.ro hen.mem hrob (fun κ hκ => hfr κ hκ) (needOf st.sl (ss ++ slotsOf o.op.operands.toList)) (gsOf gl1 (p.map (·.1)))
        refine Oper.wp_mono (fun a' w' hh => ?_) this
        obtain ⟨S', μ', hsim⟩ := hh
        exact ⟨S', μ', hsim.rename rfl rfl rfl (fun x hx => rel_wrap hp hx)⟩
      · rename_i hw
        obtain ⟨hne, hnp'⟩ := p0 (by simpa using hw)
        obtain ⟨hm1, hm2⟩ := hlook.2.2 hne
        refine ⟨S, μ, ?_⟩
        have hr : Rel w S μ ν (wrapG p r.v) undef := by
          cases p with
          | nil => exact absurd rfl hne
          | cons y r => exact .g (fun hh => absurd hh hnp') (fun _ => rfl)
        have h5 := hs.put (dst := o.dst) hd hr
        have e0 : (Tr.mk (needOf st.sl (ss ++ slotsOf o.op.operands.toList)) o.dst (wrapG p r.v) r.ro r.mem r.mem' (gsOf gl1 (p.map (·.1)))).apply A = A.putO o.dst (wrapG p r.v) := by
          unfold Tr.apply M.putO M.put
          simp only [hm1, hm2]
          cases hdd : o.dst with
          | none => simp [look]
          | some d =>
            simp only [look, List.map_nil, List.not_mem_nil, if_false, Option.some.injEq]
            congr 1
            funext t
            by_cases cc : d = t
            · simp [cc]
            · have : ¬ t = d := fun e => cc e.symm
              simp [cc, this]
        rw [e0]
        exact h5
    · cases h

end

end Go.Av

