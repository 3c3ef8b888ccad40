/- What has been drawn grows: of every run, every step, every call. -/
import Derived.Test.YtihmmpaalpghbaaGreatDoorLa
import Derived.Sort.Grow
import Derived.Deep.Draws
set_option linter.unusedSimpArgs false
set_option linter.unusedVariables false
namespace Go.Av
open Go
theorem ask_drawn {α : Type} (a : Ask α) : ∀ w : World, w.drawn ≤ (w.ask a).2.drawn := by
  induction a with
  | done a => intro w; exact Nat.le_refl _
  | ask what range k ih =>
    intro w
    unfold World.ask
    dsimp only
    split
    · exact ih _ w
    · exact Nat.le_trans (Nat.le_succ _) (ih _ { w with drawn := w.drawn + 1 })
theorem sys_drawn (w : World) (c : Sys) : w.drawn ≤ (w.sys c).2.drawn := by
  have h := ask_drawn (Kernel.perform c w.os) w
  unfold World.sys
  split
  · exact Nat.le_refl _
  · rename_i r os w' _ e
    rw [e] at h
    exact h
theorem viewStore_drawn {p : Program} {w w' : World} {at_ : Addr} {u : TypeId} {k : Addr} {v : Value} {atomic : Bool} {l : List Addr} (h : w.viewStore p at_ u k v atomic = .ok (w', l)) : w'.drawn = w.drawn := by
  unfold World.viewStore at h
  simp only [bind, Except.bind, pure, Except.pure, throw, throwThe, MonadExceptOf.throw] at h
  repeat' (split at h)
  all_goals first
    | (cases h; done)
    | (simp only [Except.ok.injEq, Prod.mk.injEq] at h; rw [← h.1])
theorem farStore_drawn {p : Program} {w w' : World} {a : Addr} {v : Value} {atomic : Bool} {l : List Addr} (h : w.farStore p a v atomic = .ok (w', l)) : w'.drawn = w.drawn := by
  unfold World.farStore at h
  split at h
  · split at h
    · rename_i e
      simp only [Except.ok.injEq] at h
      subst h
      exact viewStore_drawn e
    · cases h
  · cases h
theorem freeze_drawn (w : World) (a : Addr) (n : Nat) : (w.freeze a n).drawn = w.drawn := by
  unfold World.freeze
  repeat' split
  all_goals rfl
def resW {α : Type} : Result α → World
  | .ok _ w => w
  | .halt _ w => w
theorem run_drawn {α : Type} (p : Program) (s : Sem α) : ∀ w : World, w.drawn ≤ (resW (s.run p w)).drawn := by
  induction s with
  | pure a => intro w; exact Nat.le_refl _
  | load m a k ih =>
    intro w
    unfold Sem.run
    split
    · exact ih _ w
    · split
      · exact ih _ w
      · exact Nat.le_refl _
  | store m a v k ih =>
    intro w
    have hset : ∀ (w : World) (a : Addr) (v : Value), (w.setCell a v).drawn = w.drawn := fun _ _ _ => rfl
    have main : (∀ l, v ≠ .agg l) → (∀ l, v ≠ .tuple l) → w.drawn ≤ (resW ((Sem.store m a v k).run p w)).drawn := fun h1 h2 => by
      rw [Sem.run.eq_def]
      split
      all_goals first
        | (rename_i e; cases e; done)
        | skip
      · rename_i e; cases e; exact absurd rfl (h1 _)
      · rename_i e; cases e; exact absurd rfl (h2 _)
      · rename_i e
        cases e
        split
        · split
          · exact Nat.le_refl _
          · exact Nat.le_trans (Nat.le_of_eq (hset _ _ _).symm) (ih _)
        · split
          · rename_i e
            rw [← farStore_drawn e]
            exact ih _
          · exact Nat.le_refl _
    by_cases h1 : ∀ l, v ≠ .agg l
    · by_cases h2 : ∀ l, v ≠ .tuple l
      · exact main h1 h2
      · obtain ⟨l, rfl⟩ := Classical.not_forall_not.1 h2
        exact Nat.le_refl _
    · obtain ⟨l, rfl⟩ := Classical.not_forall_not.1 h1
      exact Nat.le_refl _
  | new o k ih => intro w; exact ih _ { w with heap := w.heap.push o }
  | shape r k ih => intro w; exact ih _ w
  | freeze a n k ih => intro w; exact Nat.le_trans (Nat.le_of_eq (freeze_drawn w a n).symm) (ih (w.freeze a n))
  | frozen a k ih => intro w; exact ih _ w
  | getObj r k ih =>
    intro w
    unfold Sem.run
    split
    · exact Nat.le_refl _
    · exact ih _ w
    · exact Nat.le_refl _
  | setObj r o k ih =>
    intro w
    unfold Sem.run
    split
    · exact Nat.le_refl _
    · exact ih { w with heap := w.heap.setIfInBounds r o }
    · exact Nat.le_refl _
  | choose q k ih =>
    intro w
    unfold Sem.run
    split
    · exact ih _ w
    · exact Nat.le_trans (Nat.le_succ _) (ih _ { w with drawn := w.drawn + 1 })
  | sys c k ih => intro w; exact Nat.le_trans (sys_drawn w c) (ih _ _)
  | program k ih => intro w; exact ih _ w
  | mark m k ih => intro w; exact ih w
  | halt h => intro w; exact Nat.le_refl _
theorem runT_eq {α : Type} (p : Program) (s : Sem α) : ∀ (w : World) (es : Array Event), (s.runT p w es).1 = s.run p w := by
  induction s with
  | pure a => intro w es; rfl
  | load m a k ih =>
    intro w es
    unfold Sem.run Sem.runT
    split
    · exact ih _ _ _
    · split
      · exact ih _ _ _
      · rfl
  | store m a v k ih =>
    intro w es
    have main : (∀ l, v ≠ .agg l) → (∀ l, v ≠ .tuple l) → ((Sem.store m a v k).runT p w es).1 = (Sem.store m a v k).run p w := fun h1 h2 => by
      have e1 : (Sem.store m a v k).runT p w es = (match w.cell? a with
        | some _ =>
          if w.frozen? a then (.halt (.unsupported (.unsafePointer "a write to bytes that a string shares")) w, es)
          else k.runT p (w.setCell a v) (es.push ⟨.cell a, true, m == .atomic⟩)
        | none => match w.farStore p a v (m == .atomic) with
          | .ok (w, touched) => k.runT p w (es ++ touched.toArray.map (⟨.cell ·, true, m == .atomic⟩))
          | .error h => (.halt h w, es)) := by
        cases v <;> first | rfl | (exact absurd rfl (h1 _)) | (exact absurd rfl (h2 _))
      have e2 : (Sem.store m a v k).run p w = (match w.cell? a with
        | some _ => if w.frozen? a then .halt (.unsupported (.unsafePointer "a write to bytes that a string shares")) w else k.run p (w.setCell a v)
        | none => match w.farStore p a v (m == .atomic) with
          | .ok (w, _) => k.run p w
          | .error h => .halt h w) := by
        cases v <;> first | rfl | (exact absurd rfl (h1 _)) | (exact absurd rfl (h2 _))
      rw [e1, e2]
      split
      · split
        · rfl
        · exact ih _ _
      · split
        · exact ih _ _
        · rfl
    by_cases h1 : ∀ l, v ≠ .agg l
    · by_cases h2 : ∀ l, v ≠ .tuple l
      · exact main h1 h2
      · obtain ⟨l, rfl⟩ := Classical.not_forall_not.1 h2
        rfl
    · obtain ⟨l, rfl⟩ := Classical.not_forall_not.1 h1
      rfl
  | new o k ih => intro w es; exact ih _ _ _
  | shape r k ih => intro w es; exact ih _ _ _
  | freeze a n k ih => intro w es; exact ih _ _
  | frozen a k ih => intro w es; exact ih _ _ _
  | getObj r k ih =>
    intro w es
    unfold Sem.run Sem.runT
    split
    · rfl
    · exact ih _ _ _
    · rfl
  | setObj r o k ih =>
    intro w es
    unfold Sem.run Sem.runT
    split
    · rfl
    · exact ih _ _
    · rfl
  | choose q k ih =>
    intro w es
    unfold Sem.run Sem.runT
    split
    · exact ih _ _ _
    · exact ih _ _ _
  | sys c k ih => intro w es; exact ih _ _ _
  | program k ih => intro w es; exact ih _ _ _
  | mark m k ih => intro w es; exact ih _ _
  | halt h => intro w es; rfl
theorem runT_drawn {α : Type} (p : Program) (s : Sem α) (w : World) (es : Array Event) : w.drawn ≤ (resW (s.runT p w es).1).drawn := by
  rw [runT_eq]
  exact run_drawn p s w

theorem ok_le {α : Type} {p : Program} {s : Sem α} {w w' : World} {v : α} (e : s.run p w = .ok v w') : w.drawn ≤ w'.drawn := by
  have := run_drawn p s w
  rw [e] at this
  exact this
theorem halt_le {α : Type} {p : Program} {s : Sem α} {w w' : World} {v : Halt} (e : s.run p w = .halt v w') : w.drawn ≤ w'.drawn := by
  have := run_drawn p s w
  rw [e] at this
  exact this
theorem resT_le {α : Type} {p : Program} {s : Sem α} {w : World} {es es' : Array Event} {r : Result α} (e : s.runT p w es = (r, es')) : w.drawn ≤ (resW r).drawn := by
  have := runT_drawn p s w es
  rw [e] at this
  exact this
theorem okT_le {α : Type} {p : Program} {s : Sem α} {w w' : World} {es es' : Array Event} {v : α} (e : s.runT p w es = (.ok v w', es')) : w.drawn ≤ w'.drawn := resT_le e
theorem haltT_le {α : Type} {p : Program} {s : Sem α} {w w' : World} {es es' : Array Event} {v : Halt} (e : s.runT p w es = (.halt v w', es')) : w.drawn ≤ w'.drawn := resT_le e

/-! what a goroutine's step leaves -/
def gle (w : World) : GStep → Prop
  | .go _ w' _ => w.drawn ≤ w'.drawn
  | .comm _ _ _ _ w' _ => w.drawn ≤ w'.drawn
  | .spawn _ _ w' _ => w.drawn ≤ w'.drawn
  | .count _ w' _ => w.drawn ≤ w'.drawn
  | .timer _ _ w' _ => w.drawn ≤ w'.drawn
  | .alone _ _ w' _ => w.drawn ≤ w'.drawn
  | .newcoro _ _ _ w' _ => w.drawn ≤ w'.drawn
  | .coroswitch _ _ _ w' _ => w.drawn ≤ w'.drawn
  | .collect _ w' _ => w.drawn ≤ w'.drawn
  | .watch _ w' _ => w.drawn ≤ w'.drawn
  | .ended _ _ _ => True
theorem gle_after {w : World} {es : Array Event} {s : GStep} (h : gle w s) : gle w (s.after es) := by
  cases s <;> exact h
theorem gle_trans {w w' : World} {s : GStep} (h : w.drawn ≤ w'.drawn) (k : gle w' s) : gle w s := by
  cases s <;> first | trivial | exact Nat.le_trans h k
theorem throw_le (fr : Frame) (m : String) (w : World) : gle w (endThrow fr m w) := Nat.le_refl _
theorem dieOf_le (fr : Frame) (a : List ByteArray) (m : String) (b : Bool) (w : World) : gle w (dieOf fr a m b w) := Nat.le_refl _
theorem endWith_le (w : World) (fd : Nat) (text : ByteArray) (o : Outcome) : gle w (endWith w fd text o) := by
  unfold endWith
  dsimp only
  repeat' split
  all_goals trivial
theorem endPrinting_le (p : Program) (fr : Frame) (v : Value) (w : World) : gle w (endPrinting p fr v w) := by
  unfold endPrinting
  dsimp only
  split
  · exact throw_le _ _ _
  · trivial
theorem endFatal_le (p : Program) (fr : Frame) (callers : List Frame) (dying : Option Dying) (m : String) (w : World) : gle w (endFatal p fr callers dying m w) := by
  unfold endFatal
  dsimp only
  split
  · rename_i e
    exact gle_trans (ok_le e) (dieOf_le _ _ _ _ _)
  · trivial
  · trivial
theorem writeOn_le (p : Program) (fr : Frame) (d : Dying) (f : Fatal) (w : World) : gle w (writeOn p fr d f w) := by
  unfold writeOn
  dsimp only
  split
  · trivial
  · split
    all_goals first
      | trivial
      | exact okT_le ‹_›
      | exact haltT_le ‹_›
theorem die_le (p : Program) (fr : Frame) (d : Dying) (w : World) : gle w (die p fr d w) := by
  unfold die
  split
  · exact writeOn_le _ _ _ _ _
  · split
    · split
      · exact Nat.le_refl _
      · exact endWith_le _ _ _ _
    · dsimp only
      split
      · exact Nat.le_refl _
      · split
        · exact ok_le ‹_›
        · trivial
      · refine gle_after ?_
        split
        all_goals first
          | trivial
          | exact ok_le ((runT_eq _ _ _ _).symm.trans ‹_›)
          | exact gle_trans (halt_le ((runT_eq _ _ _ _).symm.trans ‹_›)) (endPrinting_le _ _ _ _)
      · trivial
theorem ite_le {c : Prop} [Decidable c] {w : World} {a b : GStep} (h1 : gle w a) (h2 : gle w b) : gle w (if c then a else b) := by
  split
  · exact h1
  · exact h2
theorem doReturn_le (p : Program) (main : Bool) (fr : Frame) (callers : List Frame) (dying : Option Dying) (v : Value) (w : World) : gle w (doReturn p main fr callers dying v w) := by
  unfold doReturn
  repeat' split
  all_goals (first | trivial | exact Nat.le_refl _ | exact ok_le ‹_› | exact halt_le ‹_› | exact ok_le ((runT_eq _ _ _ _).symm.trans ‹_›) | exact halt_le ((runT_eq _ _ _ _).symm.trans ‹_›) | exact gle_trans (halt_le ‹_›) (throw_le _ _ _) | exact gle_trans (halt_le ‹_›) (endFatal_le _ _ _ _ _ _) | exact gle_trans (halt_le ‹_›) (endPrinting_le _ _ _ _) | exact gle_trans (halt_le ((runT_eq _ _ _ _).symm.trans ‹_›)) (throw_le _ _ _) | exact gle_trans (halt_le ((runT_eq _ _ _ _).symm.trans ‹_›)) (endFatal_le _ _ _ _ _ _) | exact gle_trans (ok_le ‹_›) (throw_le _ _ _) | exact gle_trans (ok_le ((runT_eq _ _ _ _).symm.trans ‹_›)) (throw_le _ _ _))
theorem callDeferred_le (p : Program) (fr : Frame) (callers : List Frame) (dying : Option Dying) (d : Deferred) (w : World) : gle w (callDeferred p fr callers dying d w) := by
  unfold callDeferred
  dsimp only
  refine ite_le trivial ?_
  · refine gle_after ?_
    split
    all_goals try split
    all_goals (first | trivial | exact Nat.le_refl _ | exact ok_le ‹_› | exact halt_le ‹_› | exact ok_le ((runT_eq _ _ _ _).symm.trans ‹_›) | exact halt_le ((runT_eq _ _ _ _).symm.trans ‹_›) | exact gle_trans (halt_le ‹_›) (throw_le _ _ _) | exact gle_trans (halt_le ‹_›) (endFatal_le _ _ _ _ _ _) | exact gle_trans (halt_le ‹_›) (endPrinting_le _ _ _ _) | exact gle_trans (halt_le ((runT_eq _ _ _ _).symm.trans ‹_›)) (throw_le _ _ _) | exact gle_trans (halt_le ((runT_eq _ _ _ _).symm.trans ‹_›)) (endFatal_le _ _ _ _ _ _) | exact gle_trans (ok_le ‹_›) (throw_le _ _ _) | exact gle_trans (ok_le ((runT_eq _ _ _ _).symm.trans ‹_›)) (throw_le _ _ _))
theorem unwind_le (p : Program) (main : Bool) (fr : Frame) (callers : List Frame) (dying : Option Dying) (w : World) : gle w (unwind p main fr callers dying w) := by
  unfold unwind
  split
  · dsimp only
    refine gle_after ?_
    split
    all_goals (first | trivial | exact Nat.le_refl _ | exact ok_le ‹_› | exact halt_le ‹_› | exact ok_le ((runT_eq _ _ _ _).symm.trans ‹_›) | exact halt_le ((runT_eq _ _ _ _).symm.trans ‹_›) | exact gle_trans (halt_le ‹_›) (throw_le _ _ _) | exact gle_trans (halt_le ‹_›) (endFatal_le _ _ _ _ _ _) | exact gle_trans (halt_le ‹_›) (endPrinting_le _ _ _ _) | exact gle_trans (halt_le ((runT_eq _ _ _ _).symm.trans ‹_›)) (throw_le _ _ _) | exact gle_trans (halt_le ((runT_eq _ _ _ _).symm.trans ‹_›)) (endFatal_le _ _ _ _ _ _) | exact gle_trans (ok_le ‹_›) (throw_le _ _ _) | exact gle_trans (ok_le ((runT_eq _ _ _ _).symm.trans ‹_›)) (throw_le _ _ _))
  · exact callDeferred_le _ _ _ _ _ _
  · split
    · trivial
    · split
      · trivial
      · split
        · exact Nat.le_refl _
        · split
          · split
            · exact Nat.le_refl _
            · split
              all_goals (first | trivial | exact Nat.le_refl _ | exact ok_le ‹_› | exact halt_le ‹_› | exact ok_le ((runT_eq _ _ _ _).symm.trans ‹_›) | exact halt_le ((runT_eq _ _ _ _).symm.trans ‹_›) | exact gle_trans (halt_le ‹_›) (throw_le _ _ _) | exact gle_trans (halt_le ‹_›) (endFatal_le _ _ _ _ _ _) | exact gle_trans (halt_le ‹_›) (endPrinting_le _ _ _ _) | exact gle_trans (halt_le ((runT_eq _ _ _ _).symm.trans ‹_›)) (throw_le _ _ _) | exact gle_trans (halt_le ((runT_eq _ _ _ _).symm.trans ‹_›)) (endFatal_le _ _ _ _ _ _) | exact gle_trans (ok_le ‹_›) (throw_le _ _ _) | exact gle_trans (ok_le ((runT_eq _ _ _ _).symm.trans ‹_›)) (throw_le _ _ _))
          · split
            · exact endPrinting_le _ _ _ _
            · trivial
    · split
      · exact doReturn_le _ _ _ _ _ _ _
      · dsimp only
        refine gle_after ?_
        split
        · exact gle_trans (ok_le ((runT_eq _ _ _ _).symm.trans ‹_›)) (doReturn_le _ _ _ _ _ _ _)
        · trivial
        · trivial
theorem early_le (p : Program) (fr : Frame) (callers : List Frame) (dying : Option Dying) (g : Nat) (w : World) : gle w (early p fr callers dying g w) := by
  have hn : ∀ w0 w' : World, w0.drawn ≤ w'.drawn → gle w0 (match w'.heap[g]? with
    | some (.pending c elem) =>
      .go { frame := fr, callers, status := .running, dying } { w' with heap := w'.heap.setIfInBounds g (.cells c elem) }
    | _ => .ended (.stuck "early: the variable does not wait" (fr.pos p)) w') := fun w0 w' h => by
    split
    · exact h
    · trivial
  unfold early
  dsimp only
  repeat' split
  all_goals first
    | (first | trivial | exact Nat.le_refl _ | exact ok_le ‹_› | exact halt_le ‹_› | exact ok_le ((runT_eq _ _ _ _).symm.trans ‹_›) | exact halt_le ((runT_eq _ _ _ _).symm.trans ‹_›) | exact gle_trans (halt_le ‹_›) (throw_le _ _ _) | exact gle_trans (halt_le ‹_›) (endFatal_le _ _ _ _ _ _) | exact gle_trans (halt_le ‹_›) (endPrinting_le _ _ _ _) | exact gle_trans (halt_le ((runT_eq _ _ _ _).symm.trans ‹_›)) (throw_le _ _ _) | exact gle_trans (halt_le ((runT_eq _ _ _ _).symm.trans ‹_›)) (endFatal_le _ _ _ _ _ _) | exact gle_trans (ok_le ‹_›) (throw_le _ _ _) | exact gle_trans (ok_le ((runT_eq _ _ _ _).symm.trans ‹_›)) (throw_le _ _ _))
    | exact hn _ _ (Nat.le_refl _)
    | exact hn _ _ (ok_le ‹_›)
    | (have h := ok_le ‹Sem.run p _ w = Result.ok _ _›; exact h)
theorem apply_le (p : Program) (listen : Bool) (fr : Frame) (callers : List Frame) (dying : Option Dying) (s : Sem Next) (w : World) : gle w (stepG.apply p listen fr callers dying s w) := by
  have hw : w.drawn ≤ (resW (if listen = true then s.runT p w #[] else (s.run p w, #[])).1).drawn := by
    split
    · exact runT_drawn p s w #[]
    · exact run_drawn p s w
  unfold stepG.apply
  dsimp only
  generalize (if listen = true then s.runT p w #[] else (s.run p w, #[])) = r at hw ⊢
  obtain ⟨r, es⟩ := r
  dsimp only at hw ⊢
  refine gle_after ?_
  cases r with
  | ok v w' =>
    have hw : w.drawn ≤ w'.drawn := hw
    cases v
    all_goals try dsimp only
    all_goals first
      | exact hw
      | (split <;> exact hw)
      | (refine ite_le (gle_trans hw (throw_le _ _ _)) ?_; exact hw)
      | skip
  | halt h w' =>
    have hw : w.drawn ≤ w'.drawn := hw
    cases h
    all_goals try dsimp only
    all_goals first
      | exact hw
      | trivial
      | exact gle_trans hw (throw_le _ _ _)
      | exact gle_trans hw (endFatal_le _ _ _ _ _ _)
      | (rename_i u _; cases u <;> first | trivial | exact gle_trans hw (early_le _ _ _ _ _ _))
      | (rename_i u; cases u <;> first | trivial | exact gle_trans hw (early_le _ _ _ _ _ _))
theorem oper_le (p : Program) (listen : Bool) (fr : Frame) (callers : List Frame) (dying : Option Dying) (w : World) : gle w (stepG.oper p listen fr callers dying w) := by
  unfold stepG.oper
  split
  · trivial
  · split
    all_goals exact apply_le _ _ _ _ _ _ _
theorem exec_le (p : Program) (main listen : Bool) (fr : Frame) (callers : List Frame) (dying : Option Dying) (w : World) : gle w (stepG.exec p main listen fr callers dying w) := by
  have hl : ∀ jump : Option Code, gle w (match fr.roundOf with
      | none => if jump matches none | some .ret then GStep.go { frame := { fr with mode := .returning }, callers, status := .running, dying } w else .ended (.stuck "exit, goto: no such block or label" (fr.pos p)) w
      | some l =>
        let (r, es) := (Instr.endRound l jump).runT p w #[]
        GStep.after (seen p fr.fn es) <| match r with
        | .ok v w => doReturn p main fr callers dying v w
        | .halt _ w => .ended (.stuck "range over a function: no such loop" (fr.pos p)) w) := fun jump => by
    split
    · refine ite_le ?_ ?_
      · exact Nat.le_refl _
      · trivial
    · dsimp only
      refine gle_after ?_
      split
      · exact gle_trans (ok_le ((runT_eq _ _ _ _).symm.trans ‹_›)) (doReturn_le _ _ _ _ _ _ _)
      · trivial
  unfold stepG.exec
  dsimp only
  split
  all_goals first
    | exact Nat.le_refl _
    | exact hl none
    | exact hl (some .ret)
    | trivial
    | exact apply_le _ _ _ _ _ _ _
    | (split <;> first | exact Nat.le_refl _ | trivial)
    | (cases exitTo _ _ <;> first | exact Nat.le_refl _ | exact hl (some (.exit _)))
    | (cases gotoIn _ _ <;> first | exact Nat.le_refl _ | exact hl (some (.goto _)))
    | (cases Extern.next _ <;> first | trivial | exact apply_le _ _ _ _ _ _ _)
    | (refine gle_after ?_
       split
       all_goals first
         | trivial
         | exact gle_trans (ok_le ((runT_eq _ _ _ _).symm.trans ‹_›)) (apply_le _ _ _ _ _ _ _)
         | (have h := ok_le ((runT_eq _ _ _ _).symm.trans ‹(Sem.runT p _ w _).1 = Result.ok _ _›); exact h)
         | (have h := halt_le ((runT_eq _ _ _ _).symm.trans ‹(Sem.runT p _ w _).1 = Result.halt _ _›); exact h))
    | skip
  · refine ite_le (Nat.le_refl _) ?_
    split
    · have h := ok_le ‹Sem.run p _ w = Result.ok _ _›
      exact h
    · trivial
  · refine ite_le (oper_le _ _ _ _ _ _) ?_
    exact Nat.le_refl _
theorem stepG_le (p : Program) (main : Bool) (g : Goroutine) (w : World) (listen : Bool) : gle w (stepG p main g w listen) := by
  unfold stepG
  dsimp only
  split
  · exact die_le _ _ _ _
  · exact exec_le _ _ _ _ _ _ _
  · exact unwind_le _ _ _ _ _ _

/-! what a machine's step leaves -/
def sle (n : Nat) : Stepped → Prop
  | .next m => n ≤ m.world.drawn
  | .ended _ _ => True
theorem waitingAt_le {rest : Rest} {cases : Array CommCase} {w w' : World} (h : waitingAt rest cases w = some w') : w'.drawn = w.drawn := by
  unfold waitingAt at h
  split at h
  · split at h
    · simp only [Option.some.injEq] at h
      subst h
      rfl
    · cases h
  · simp only [Option.some.injEq] at h
    subst h
    rfl
theorem communicate_le (p : Program) (rest : Rest) (gs : Array Goroutine) (i : Nat) (g : Goroutine) (cases : Array CommCase) (blocking : Bool) (shape : CommShape) (w : World) : sle w.drawn (communicate p rest gs i g cases blocking shape w).1 := by
  unfold communicate
  dsimp only
  split
  · trivial
  · split
    · split
      · split
        · exact Nat.le_of_eq (waitingAt_le ‹_›).symm
        · trivial
      · exact Nat.le_refl _
    · split
      · trivial
      · have h := ok_le ‹Sem.run p _ w = Result.ok _ _›
        split
        · split
          · have h2 := halt_le ‹Sem.run p _ _ = Result.halt _ _›
            exact Nat.le_trans h h2
          · trivial
        · exact h
        · exact h
        · split
          · exact h
          · split
            · have h2 := ok_le ‹Sem.run p (choose (.extern "which waiting goroutine is the partner" _)) _ = Result.ok _ _›
              exact Nat.le_trans h h2
            · trivial
        · exact h
        · exact h
        · trivial
theorem drain_le (w : World) (c : Nat) : (drain w c).2.drawn = w.drawn := by
  unfold drain
  split <;> rfl
theorem retime_le (m : Machine) (k : Nat) (t : Timer) (when period : Nat) : (retime m k t when period).2.world.drawn = m.world.drawn := by
  unfold retime
  dsimp only
  split
  · exact drain_le _ _
  · rfl
theorem timerOp_le {m m' : Machine} {op : TimerOp} {v : Value} (h : timerOp m op = .ok (v, m')) : m'.world.drawn = m.world.drawn := by
  have hn : ∀ (m0 : Machine) (var : Addr) (f : Nat → Timer → Value × Machine), (∀ k t, (f k t).2.world.drawn = m.world.drawn) → timerOp.named m0 var f = .ok (v, m') → m'.world.drawn = m.world.drawn := fun m0 var f hf h => by
    unfold timerOp.named at h
    split at h
    · rename_i k _
      simp only [Except.ok.injEq] at h
      have := hf k (m0.rest.timers.getD k default)
      rw [h] at this
      exact this
    · cases h
  unfold timerOp at h
  split at h
  · split at h
    · simp only [Except.ok.injEq, Prod.mk.injEq] at h
      rw [← h.2]
      rfl
    · split at h
      · split at h
        · cases h
        · simp only [Except.ok.injEq, Prod.mk.injEq] at h
          rw [← h.2]
      · cases h
  · exact hn _ _ _ (fun k t => retime_le _ _ _ _ _) h
  · split at h
    · rename_i m0 ho
      have h0 : m0.world.drawn = m.world.drawn := by
        unfold timerOp.opened at ho
        split at ho
        · split at ho
          · simp only [Option.some.injEq] at ho
            subst ho
            rfl
          · cases ho
        · simp only [Option.some.injEq] at ho
          subst ho
          rfl
      exact hn _ _ _ (fun k t => (retime_le _ _ _ _ _).trans h0) h
    · cases h
  · simp only [Except.ok.injEq, Prod.mk.injEq] at h
    rw [← h.2]
    rfl
theorem look_le (p : Program) (gs : Array Goroutine) (rest : Rest) (w : World) : sle w.drawn (Go.look p gs rest w) := by
  unfold Go.look
  split
  · dsimp only
    split
    · trivial
    · split
      · trivial
      · split
        · have h := ok_le ‹Sem.run p _ w = Result.ok _ _›
          exact h
        · trivial
        · trivial
  · trivial
theorem serve_le (p : Program) (m : Machine) (k : Nat) : sle m.world.drawn (serve p m k) := by
  unfold serve
  split
  · trivial
  · exact Nat.le_refl _
  · dsimp only
    split
    · trivial
    · exact Nat.le_refl _
theorem sle_trans {a b : Nat} {s : Stepped} (h : a ≤ b) (k : sle b s) : sle a s := by
  cases s
  · exact Nat.le_trans h k
  · trivial
theorem mrunT_le (p : Program) (m : Machine) (i : Nat) (listen : Bool) : sle m.world.drawn (Go.runT p m i listen).1 := by
  unfold Go.runT
  dsimp only
  generalize hg : (m.gs.swapAt! i { (default : Goroutine) with status := .finished }) = r
  obtain ⟨g, gs⟩ := r
  dsimp only
  have h := stepG_le p (i == 0) g m.world listen
  generalize stepG p (i == 0) g m.world listen = s at h ⊢
  cases s
  all_goals try dsimp only
  all_goals first
    | trivial
    | exact h
    | exact sle_trans h (communicate_le _ _ _ _ _ _ _ _ _)
    | exact sle_trans h (look_le _ _ _ _)
    | skip
  · split
    · trivial
    · exact h
  · split
    · have h2 := timerOp_le ‹_›
      exact Nat.le_trans h (Nat.le_of_eq h2.symm)
    · exact h
    · trivial
    · trivial
  · split
    · exact h
    · exact h
    · trivial
def mvle (n : Nat) : Move → Prop
  | .goroutine m _ => n ≤ m.world.drawn
  | .machine s _ => sle n s
theorem mvle_trans {a b : Nat} {s : Move} (h : a ≤ b) (k : mvle b s) : mvle a s := by
  cases s
  · exact Nat.le_trans h k
  · exact sle_trans h k
theorem mvite_le {c : Prop} [Decidable c] {n : Nat} {a b : Move} (h1 : mvle n a) (h2 : mvle n b) : mvle n (if c then a else b) := by
  split
  · exact h1
  · exact h2
theorem pick_le (rs : List Nat) (p : Program) (n : Nat) (m' : Machine) (hm : n ≤ m'.world.drawn) : mvle n (match (choose (.sched rs.length)).run p m'.world with
      | .halt _ w => Move.machine (.ended (.stuck "sched" "") w)
      | .ok k world =>
        if rs.length ≤ 1 then .goroutine { m' with world } (rs.getD k 0) else
        match (choose (.extern "sched.slice" 65536)).run p world with
        | .halt _ w => .machine (.ended (.stuck "sched.slice" "") w)
        | .ok n world => .goroutine { m' with world, rest := { m'.rest with slice := if n = 0 then none else some (rs.getD k 0, n) } } (rs.getD k 0)) := by
  cases e : (choose (.sched rs.length)).run p m'.world with
  | halt _ _ => trivial
  | ok k world =>
    have h1 := Nat.le_trans hm (ok_le e)
    dsimp only
    refine mvite_le h1 ?_
    cases e2 : (choose (.extern "sched.slice" 65536)).run p world with
    | halt _ _ => trivial
    | ok n w2 => exact Nat.le_trans h1 (ok_le e2)
theorem askOn_le (p : Program) (m : Machine) : mvle m.world.drawn (askOn p m) := by
  unfold askOn
  dsimp only
  generalize (if (due m.rest.timers m.world.os.mono).isEmpty = true then pure 0 else choose (.extern "timer.serve" ((due m.rest.timers m.world.os.mono).length + (if ((runnable m.gs m.world.os.mono).isEmpty && (ahead m false).isNone) = true then 0 else 1))) : Sem Nat) = sm
  cases e : sm.run p m.world with
  | halt _ _ => trivial
  | ok k world =>
    have h1 := ok_le e
    dsimp only
    refine mvite_le (sle_trans h1 (serve_le p { world := world, gs := m.gs, rest := m.rest } _)) ?_
    split
    · split
      · exact h1
      · refine mvite_le h1 ?_
        split
        all_goals trivial
    · split
      · exact pick_le _ p _ { world := world, gs := m.gs, rest := m.rest } h1
      · rename_i t _
        generalize (choose (.extern "clock.wait" (t - m.world.os.mono + 1)) : Sem Nat) = sc
        cases e2 : sc.run p world with
        | halt _ _ => trivial
        | ok k2 w2 =>
          have h2 := Nat.le_trans h1 (ok_le e2)
          match k2 with
          | 0 => exact pick_le _ p _ { world := w2, gs := m.gs, rest := m.rest } h2
          | 1 => exact h2
          | k + 2 => exact pick_le _ p _ (({ world := w2, gs := m.gs, rest := m.rest } : Machine).advanceTo (t - (k + 1))) h2
theorem mask_le (p : Program) (m : Machine) : mvle m.world.drawn (Go.ask p m) := by
  unfold Go.ask
  refine mvite_le ?_ (askOn_le _ _)
  generalize (choose (.extern "collector.look" 2) : Sem Nat) = sc
  cases e : sc.run p m.world with
  | halt _ _ => trivial
  | ok k w =>
    have h1 := ok_le e
    match k with
    | 0 => exact mvle_trans h1 (askOn_le p { m with world := w })
    | 1 =>
      have h2 := look_le p m.gs m.rest w
      show mvle m.world.drawn (match Go.look p m.gs m.rest w with | .next m => askOn p m | e => .machine e)
      cases e2 : Go.look p m.gs m.rest w with
      | next m' =>
        rw [e2] at h2
        exact mvle_trans (Nat.le_trans h1 h2) (askOn_le p m')
      | ended _ _ => trivial
    | k + 2 => exact mvle_trans h1 (askOn_le p { m with world := w })
theorem move_le (p : Program) (m : Machine) : mvle m.world.drawn (move p m) := by
  unfold move
  split
  · refine mvite_le (Nat.le_refl _) trivial
  · split
    · refine mvite_le (Nat.le_refl _) ?_
      exact mask_le p { m with rest := { m.rest with slice := none } }
    · exact mask_le p m
theorem step_drawn {p : Program} {m m' : Machine} (h : step p m = .next m') : m.world.drawn ≤ m'.world.drawn := by
  have hs : sle m.world.drawn (step p m) := by
    unfold step stepT
    have h := move_le p m
    cases e : move p m with
    | goroutine m1 i =>
      rw [e] at h
      exact sle_trans h (mrunT_le p m1 i true)
    | machine s ops =>
      rw [e] at h
      exact h
  rw [h] at hs
  exact hs
theorem runN_drawn {p : Program} : ∀ (n : Nat) {m m' : Machine}, runN p n m = .next m' → m.world.drawn ≤ m'.world.drawn
  | 0, m, m', h => by
    simp only [runN, Stepped.next.injEq] at h
    rw [h]
    exact Nat.le_refl _
  | n + 1, m, m', h => by
    simp only [runN] at h
    split at h
    · exact Nat.le_trans (step_drawn ‹_›) (runN_drawn n h)
    · rename_i hne
      exact absurd h (by first | exact hne m' | skip)
/-- a call draws no less than had been drawn -/
theorem Calls.drawn {P : Program} {f : FuncId} {args : Array Value} {w : World} {R : Ending → World → Prop} (h : Calls P f args w R) (hR : ∀ w', ¬ R .outgrown w') : Calls P f args w fun e w' => R e w' ∧ w.drawn ≤ w'.drawn := by
  intro cs
  obtain ⟨e, w', fr, h1, h2, h3⟩ := h cs
  refine ⟨e, w', fr, ⟨h1, ?_⟩, h2, h3⟩
  cases e with
  | outgrown => exact absurd h1 (hR w')
  | returned v =>
    obtain ⟨n, hn⟩ := h2
    exact runN_drawn n hn
  | panicked c =>
    obtain ⟨n, hn⟩ := h2
    exact runN_drawn n hn
/-- what a call leaves that keeps all there was is what there was, with draws and new blocks -/
theorem below_grow {w w' : World} (h : Go.RowKit.Below w.heap.size w w') (hd : w.drawn ≤ w'.drawn) : ∃ q os, w' = Go.Sort.grow (w.drewN q) os := by
  refine ⟨w'.drawn - w.drawn, w'.heap.extract w.heap.size w'.heap.size, ?_⟩
  have hh : w'.heap = w.heap ++ w'.heap.extract w.heap.size w'.heap.size := by
    apply Array.ext
    · have := h.size
      simp
      omega
    · intro i h1 h2
      by_cases c : i < w.heap.size
      · have := h.block i c
        rw [Array.getElem_append_left c]
        rw [Array.getElem?_eq_getElem h1, Array.getElem?_eq_getElem c] at this
        exact Option.some.inj this
      · rw [Array.getElem_append_right (by omega)]
        simp
        congr 1
        omega
  obtain ⟨hp, tp, dr, os, out⟩ := w'
  have h1 : os = w.os := h.os
  have h2 : tp = w.tape := h.tape
  have h3 : out = w.output := h.output
  dsimp only at hd hh
  subst h1; subst h2; subst h3
  show _ = ({ heap := w.heap ++ _, tape := w.tape, drawn := w.drawn + (dr - w.drawn), os := w.os, output := w.output } : World)
  rw [show w.drawn + (dr - w.drawn) = dr by omega]
  congr 1
end Go.Av

