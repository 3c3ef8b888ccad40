/- What has been drawn grows: of every run, every step, every call. -/
import Derived.Test.YtgibnoahjhfmcaaGreatDoorLa
import Derived.Sort.Grow
import Derived.Deep.Draws
import Derived.Test.YtgibnoahjhfmcaaGreatDoorLe
import Derived.Defers
import Derived.Recover
import Derived.Sort.OwnSortedInts
set_option linter.unusedSimpArgs false
set_option linter.unusedVariables false
set_option linter.unusedSectionVars false
namespace Go.Av
open Go
theorem ask_drawn {α:Type} (a:Ask α):∀ w:World,w.drawn≤(w.ask a).2.drawn:=by
  induction a with
  | done a=>intro w; exact Nat.le_refl _
  | ask what range k ih =>
    intro w
    unfold World.ask
    dsimp only
    split
    · exact ih _ w
    · exact Nat.le_trans (Nat.le_succ _) (ih _ { w with drawn:=w.drawn+1 })
theorem sys_drawn (w:World) (c:Sys):w.drawn≤(w.sys c).2.drawn:=by
  have h:=ask_drawn (Kernel.perform c w.os) w
  unfold World.sys
  split
  · exact Nat.le_refl _
  · rename_i r os w' _ e
    rw [e] at h
    exact h
theorem viewStore_drawn {p:Program} {w w':World} {at_:Addr} {u:TypeId} {k:Addr} {v:Value} {atomic:Bool} {l:List Addr} (h:w.viewStore p at_ u k v atomic=.ok (w',l)):w'.drawn=w.drawn:=by
  unfold World.viewStore at h
  simp only [bind,Except.bind,pure,Except.pure,throw,throwThe,MonadExceptOf.throw] at h
  repeat' (split at h)
  all_goals first
    | (cases h; done)
    | (simp only [Except.ok.injEq,Prod.mk.injEq] at h; rw [← h.1])
theorem farStore_drawn {p:Program} {w w':World} {a:Addr} {v:Value} {atomic:Bool} {l:List Addr} (h:w.farStore p a v atomic=.ok (w',l)):w'.drawn=w.drawn:=by
  unfold World.farStore at h
  split at h
  · split at h
    · rename_i e
      simp only [Except.ok.injEq] at h
      subst h
      exact viewStore_drawn e
    · cases h
  · cases h
theorem freeze_drawn (w:World) (a:Addr) (n:Nat):(w.freeze a n).drawn=w.drawn:=by
  unfold World.freeze
  repeat' split
  all_goals rfl
def resW {α:Type}:Result α→World
  | .ok _ w=>w
  | .halt _ w=>w
theorem run_drawn {α:Type} (p:Program) (s:Sem α):∀ w:World,w.drawn≤(resW (s.run p w)).drawn:=by
  induction s with
  | pure a=>intro w; exact Nat.le_refl _
  | load m a k ih =>
    intro w
    unfold Sem.run
    split
    · exact ih _ w
    · split
      · exact ih _ w
      · exact Nat.le_refl _
  | store m a v k ih =>
    intro w
    have hset:∀ (w:World) (a:Addr) (v:Value),(w.setCell a v).drawn=w.drawn:=fun _ _ _=>rfl
    have main:(∀ l,v≠.agg l)→(∀ l,v≠.tuple l)→w.drawn≤(resW ((Sem.store m a v k).run p w)).drawn:=fun h1 h2=>by
      rw [Sem.run.eq_def]
      split
      all_goals first
        | (rename_i e; cases e; done)
        | skip
      · rename_i e; cases e; exact absurd rfl (h1 _)
      · rename_i e; cases e; exact absurd rfl (h2 _)
      · rename_i e
        cases e
        split
        · split
          · exact Nat.le_refl _
          · exact Nat.le_trans (Nat.le_of_eq (hset _ _ _).symm) (ih _)
        · split
          · rename_i e
            rw [← farStore_drawn e]
            exact ih _
          · exact Nat.le_refl _
    by_cases h1:∀ l,v≠.agg l
    · by_cases h2:∀ l,v≠.tuple l
      · exact main h1 h2
      · obtain ⟨l,rfl⟩:=Classical.not_forall_not.1 h2
        exact Nat.le_refl _
    · obtain ⟨l,rfl⟩:=Classical.not_forall_not.1 h1
      exact Nat.le_refl _
  | new o k ih=>intro w; exact ih _ { w with heap:=w.heap.push o }
  | shape r k ih=>intro w; exact ih _ w
  | freeze a n k ih=>intro w; exact Nat.le_trans (Nat.le_of_eq (freeze_drawn w a n).symm) (ih (w.freeze a n))
  | frozen a k ih=>intro w; exact ih _ w
  | getObj r k ih =>
    intro w
    unfold Sem.run
    split
    · exact Nat.le_refl _
    · exact ih _ w
    · exact Nat.le_refl _
  | setObj r o k ih =>
    intro w
    unfold Sem.run
    split
    · exact Nat.le_refl _
    · exact ih { w with heap:=w.heap.setIfInBounds r o }
    · exact Nat.le_refl _
  | choose q k ih =>
    intro w
    unfold Sem.run
    split
    · exact ih _ w
    · exact Nat.le_trans (Nat.le_succ _) (ih _ { w with drawn:=w.drawn+1 })
  | sys c k ih=>intro w; exact Nat.le_trans (sys_drawn w c) (ih _ _)
  | program k ih=>intro w; exact ih _ w
  | mark m k ih=>intro w; exact ih w
  | halt h=>intro w; exact Nat.le_refl _
theorem runT_eq {α:Type} (p:Program) (s:Sem α):∀ (w:World) (es:Array Event),(s.runT p w es).1=s.run p w:=by
  induction s with
  | pure a=>intro w es; rfl
  | load m a k ih =>
    intro w es
    unfold Sem.run Sem.runT
    split
    · exact ih _ _ _
    · split
      · exact ih _ _ _
      · rfl
  | store m a v k ih =>
    intro w es
    have main:(∀ l,v≠.agg l)→(∀ l,v≠.tuple l)→((Sem.store m a v k).runT p w es).1=(Sem.store m a v k).run p w:=fun h1 h2=>by
      have e1:(Sem.store m a v k).runT p w es=(match w.cell? a with
        | some _ =>
          if w.frozen? a then (.halt (.unsupported (.unsafePointer "a write to bytes that a string shares")) w,es)
          else k.runT p (w.setCell a v) (es.push ⟨.cell a,true,m == .atomic⟩)
        | none=>match w.farStore p a v (m == .atomic) with
          | .ok (w,touched)=>k.runT p w (es++touched.toArray.map (⟨.cell ·,true,m == .atomic⟩))
          | .error h=>(.halt h w,es)):=by
        cases v <;> first | rfl | (exact absurd rfl (h1 _)) | (exact absurd rfl (h2 _))
      have e2:(Sem.store m a v k).run p w=(match w.cell? a with
        | some _=>if w.frozen? a then .halt (.unsupported (.unsafePointer "a write to bytes that a string shares")) w else k.run p (w.setCell a v)
        | none=>match w.farStore p a v (m == .atomic) with
          | .ok (w,_)=>k.run p w
          | .error h=>.halt h w):=by
        cases v <;> first | rfl | (exact absurd rfl (h1 _)) | (exact absurd rfl (h2 _))
      rw [e1,e2]
      split
      · split
        · rfl
        · exact ih _ _
      · split
        · exact ih _ _
        · rfl
    by_cases h1:∀ l,v≠.agg l
    · by_cases h2:∀ l,v≠.tuple l
      · exact main h1 h2
      · obtain ⟨l,rfl⟩:=Classical.not_forall_not.1 h2
        rfl
    · obtain ⟨l,rfl⟩:=Classical.not_forall_not.1 h1
      rfl
  | new o k ih=>intro w es; exact ih _ _ _
  | shape r k ih=>intro w es; exact ih _ _ _
  | freeze a n k ih=>intro w es; exact ih _ _
  | frozen a k ih=>intro w es; exact ih _ _ _
  | getObj r k ih =>
    intro w es
    unfold Sem.run Sem.runT
    split
    · rfl
    · exact ih _ _ _
    · rfl
  | setObj r o k ih =>
    intro w es
    unfold Sem.run Sem.runT
    split
    · rfl
    · exact ih _ _
    · rfl
  | choose q k ih =>
    intro w es
    unfold Sem.run Sem.runT
    split
    · exact ih _ _ _
    · exact ih _ _ _
  | sys c k ih=>intro w es; exact ih _ _ _
  | program k ih=>intro w es; exact ih _ _ _
  | mark m k ih=>intro w es; exact ih _ _
  | halt h=>intro w es; rfl
theorem runT_drawn {α:Type} (p:Program) (s:Sem α) (w:World) (es:Array Event):w.drawn≤(resW (s.runT p w es).1).drawn:=by
  rw [runT_eq]
  exact run_drawn p s w

theorem ok_le {α:Type} {p:Program} {s:Sem α} {w w':World} {v:α} (e:s.run p w=.ok v w'):w.drawn≤w'.drawn:=by
  have:=run_drawn p s w
  rw [e] at this
  exact this
theorem halt_le {α:Type} {p:Program} {s:Sem α} {w w':World} {v:Halt} (e:s.run p w=.halt v w'):w.drawn≤w'.drawn:=by
  have:=run_drawn p s w
  rw [e] at this
  exact this
theorem resT_le {α:Type} {p:Program} {s:Sem α} {w:World} {es es':Array Event} {r:Result α} (e:s.runT p w es=(r,es')):w.drawn≤(resW r).drawn:=by
  have:=runT_drawn p s w es
  rw [e] at this
  exact this
theorem okT_le {α:Type} {p:Program} {s:Sem α} {w w':World} {es es':Array Event} {v:α} (e:s.runT p w es=(.ok v w',es')):w.drawn≤w'.drawn:=resT_le e
theorem haltT_le {α:Type} {p:Program} {s:Sem α} {w w':World} {es es':Array Event} {v:Halt} (e:s.runT p w es=(.halt v w',es')):w.drawn≤w'.drawn:=resT_le e

/-! what a goroutine's step leaves -/
def gle (w:World):GStep→Prop
  | .go _ w' _=>w.drawn≤w'.drawn
  | .comm _ _ _ _ w' _=>w.drawn≤w'.drawn
  | .spawn _ _ w' _=>w.drawn≤w'.drawn
  | .count _ w' _=>w.drawn≤w'.drawn
  | .timer _ _ w' _=>w.drawn≤w'.drawn
  | .alone _ _ w' _=>w.drawn≤w'.drawn
  | .newcoro _ _ _ w' _=>w.drawn≤w'.drawn
  | .coroswitch _ _ _ w' _=>w.drawn≤w'.drawn
  | .collect _ w' _=>w.drawn≤w'.drawn
  | .watch _ w' _=>w.drawn≤w'.drawn
  | .ended _ _ _=>True
theorem gle_after {w:World} {es:Array Event} {s:GStep} (h:gle w s):gle w (s.after es):=by
  cases s <;> exact h
theorem gle_trans {w w':World} {s:GStep} (h:w.drawn≤w'.drawn) (k:gle w' s):gle w s:=by
  cases s <;> first | trivial | exact Nat.le_trans h k
theorem throw_le (fr:Frame) (m:String) (w:World):gle w (endThrow fr m w):=Nat.le_refl _
theorem dieOf_le (fr:Frame) (a:List ByteArray) (m:String) (b:Bool) (w:World):gle w (dieOf fr a m b w):=Nat.le_refl _
theorem endWith_le (w:World) (fd:Nat) (text:ByteArray) (o:Outcome):gle w (endWith w fd text o):=by
  unfold endWith
  dsimp only
  repeat' split
  all_goals trivial
theorem endPrinting_le (p:Program) (fr:Frame) (v:Value) (w:World):gle w (endPrinting p fr v w):=by
  unfold endPrinting
  dsimp only
  split
  · exact throw_le _ _ _
  · trivial
theorem endFatal_le (p:Program) (fr:Frame) (callers:List Frame) (dying:Option Dying) (m:String) (w:World):gle w (endFatal p fr callers dying m w):=by
  unfold endFatal
  dsimp only
  split
  · rename_i e
    exact gle_trans (ok_le e) (dieOf_le _ _ _ _ _)
  · trivial
  · trivial
theorem writeOn_le (p:Program) (fr:Frame) (d:Dying) (f:Fatal) (w:World):gle w (writeOn p fr d f w):=by
  unfold writeOn
  dsimp only
  split
  · trivial
  · split
    all_goals first
      | trivial
      | exact okT_le ‹_›
      | exact haltT_le ‹_›
theorem die_le (p:Program) (fr:Frame) (d:Dying) (w:World):gle w (die p fr d w):=by
  unfold die
  split
  · exact writeOn_le _ _ _ _ _
  · split
    · split
      · exact Nat.le_refl _
      · exact endWith_le _ _ _ _
    · dsimp only
      split
      · exact Nat.le_refl _
      · split
        · exact ok_le ‹_›
        · trivial
      · refine gle_after ?_
        split
        all_goals first
          | trivial
          | exact ok_le ((runT_eq _ _ _ _).symm.trans ‹_›)
          | exact gle_trans (halt_le ((runT_eq _ _ _ _).symm.trans ‹_›)) (endPrinting_le _ _ _ _)
      · trivial
theorem ite_le {c:Prop} [Decidable c] {w:World} {a b:GStep} (h1:gle w a) (h2:gle w b):gle w (if c then a else b):=by
  split
  · exact h1
  · exact h2
theorem doReturn_le (p:Program) (main:Bool) (fr:Frame) (callers:List Frame) (dying:Option Dying) (v:Value) (w:World):gle w (doReturn p main fr callers dying v w):=by
  unfold doReturn
  repeat' split
  all_goals (first | trivial | exact Nat.le_refl _ | exact ok_le ‹_› | exact halt_le ‹_› | exact ok_le ((runT_eq _ _ _ _).symm.trans ‹_›) | exact halt_le ((runT_eq _ _ _ _).symm.trans ‹_›) | exact gle_trans (halt_le ‹_›) (throw_le _ _ _) | exact gle_trans (halt_le ‹_›) (endFatal_le _ _ _ _ _ _) | exact gle_trans (halt_le ‹_›) (endPrinting_le _ _ _ _) | exact gle_trans (halt_le ((runT_eq _ _ _ _).symm.trans ‹_›)) (throw_le _ _ _) | exact gle_trans (halt_le ((runT_eq _ _ _ _).symm.trans ‹_›)) (endFatal_le _ _ _ _ _ _) | exact gle_trans (ok_le ‹_›) (throw_le _ _ _) | exact gle_trans (ok_le ((runT_eq _ _ _ _).symm.trans ‹_›)) (throw_le _ _ _))
theorem callDeferred_le (p:Program) (fr:Frame) (callers:List Frame) (dying:Option Dying) (d:Deferred) (w:World):gle w (callDeferred p fr callers dying d w):=by
  unfold callDeferred
  dsimp only
  refine ite_le trivial ?_
  · refine gle_after ?_
    split
    all_goals try split
    all_goals (first | trivial | exact Nat.le_refl _ | exact ok_le ‹_› | exact halt_le ‹_› | exact ok_le ((runT_eq _ _ _ _).symm.trans ‹_›) | exact halt_le ((runT_eq _ _ _ _).symm.trans ‹_›) | exact gle_trans (halt_le ‹_›) (throw_le _ _ _) | exact gle_trans (halt_le ‹_›) (endFatal_le _ _ _ _ _ _) | exact gle_trans (halt_le ‹_›) (endPrinting_le _ _ _ _) | exact gle_trans (halt_le ((runT_eq _ _ _ _).symm.trans ‹_›)) (throw_le _ _ _) | exact gle_trans (halt_le ((runT_eq _ _ _ _).symm.trans ‹_›)) (endFatal_le _ _ _ _ _ _) | exact gle_trans (ok_le ‹_›) (throw_le _ _ _) | exact gle_trans (ok_le ((runT_eq _ _ _ _).symm.trans ‹_›)) (throw_le _ _ _))
theorem unwind_le (p:Program) (main:Bool) (fr:Frame) (callers:List Frame) (dying:Option Dying) (w:World):gle w (unwind p main fr callers dying w):=by
  unfold unwind
  split
  · dsimp only
    refine gle_after ?_
    split
    all_goals (first | trivial | exact Nat.le_refl _ | exact ok_le ‹_› | exact halt_le ‹_› | exact ok_le ((runT_eq _ _ _ _).symm.trans ‹_›) | exact halt_le ((runT_eq _ _ _ _).symm.trans ‹_›) | exact gle_trans (halt_le ‹_›) (throw_le _ _ _) | exact gle_trans (halt_le ‹_›) (endFatal_le _ _ _ _ _ _) | exact gle_trans (halt_le ‹_›) (endPrinting_le _ _ _ _) | exact gle_trans (halt_le ((runT_eq _ _ _ _).symm.trans ‹_›)) (throw_le _ _ _) | exact gle_trans (halt_le ((runT_eq _ _ _ _).symm.trans ‹_›)) (endFatal_le _ _ _ _ _ _) | exact gle_trans (ok_le ‹_›) (throw_le _ _ _) | exact gle_trans (ok_le ((runT_eq _ _ _ _).symm.trans ‹_›)) (throw_le _ _ _))
  · exact callDeferred_le _ _ _ _ _ _
  · split
    · trivial
    · split
      · trivial
      · split
        · exact Nat.le_refl _
        · split
          · split
            · exact Nat.le_refl _
            · split
              all_goals (first | trivial | exact Nat.le_refl _ | exact ok_le ‹_› | exact halt_le ‹_› | exact ok_le ((runT_eq _ _ _ _).symm.trans ‹_›) | exact halt_le ((runT_eq _ _ _ _).symm.trans ‹_›) | exact gle_trans (halt_le ‹_›) (throw_le _ _ _) | exact gle_trans (halt_le ‹_›) (endFatal_le _ _ _ _ _ _) | exact gle_trans (halt_le ‹_›) (endPrinting_le _ _ _ _) | exact gle_trans (halt_le ((runT_eq _ _ _ _).symm.trans ‹_›)) (throw_le _ _ _) | exact gle_trans (halt_le ((runT_eq _ _ _ _).symm.trans ‹_›)) (endFatal_le _ _ _ _ _ _) | exact gle_trans (ok_le ‹_›) (throw_le _ _ _) | exact gle_trans (ok_le ((runT_eq _ _ _ _).symm.trans ‹_›)) (throw_le _ _ _))
          · split
            · exact endPrinting_le _ _ _ _
            · trivial
    · split
      · exact doReturn_le _ _ _ _ _ _ _
      · dsimp only
        refine gle_after ?_
        split
        · exact gle_trans (ok_le ((runT_eq _ _ _ _).symm.trans ‹_›)) (doReturn_le _ _ _ _ _ _ _)
        · trivial
        · trivial
theorem early_le (p:Program) (fr:Frame) (callers:List Frame) (dying:Option Dying) (g:Nat) (w:World):gle w (early p fr callers dying g w):=by
  have hn:∀ w0 w':World,w0.drawn≤w'.drawn→gle w0 (match w'.heap[g]? with
    | some (.pending c elem) =>
      .go { frame:=fr,callers,status:=.running,dying } { w' with heap:=w'.heap.setIfInBounds g (.cells c elem) }
    | _=>.ended (.stuck "early: the variable does not wait" (fr.pos p)) w'):=fun w0 w' h=>by
    split
    · exact h
    · trivial
  unfold early
  dsimp only
  repeat' split
  all_goals first
    | (first | trivial | exact Nat.le_refl _ | exact ok_le ‹_› | exact halt_le ‹_› | exact ok_le ((runT_eq _ _ _ _).symm.trans ‹_›) | exact halt_le ((runT_eq _ _ _ _).symm.trans ‹_›) | exact gle_trans (halt_le ‹_›) (throw_le _ _ _) | exact gle_trans (halt_le ‹_›) (endFatal_le _ _ _ _ _ _) | exact gle_trans (halt_le ‹_›) (endPrinting_le _ _ _ _) | exact gle_trans (halt_le ((runT_eq _ _ _ _).symm.trans ‹_›)) (throw_le _ _ _) | exact gle_trans (halt_le ((runT_eq _ _ _ _).symm.trans ‹_›)) (endFatal_le _ _ _ _ _ _) | exact gle_trans (ok_le ‹_›) (throw_le _ _ _) | exact gle_trans (ok_le ((runT_eq _ _ _ _).symm.trans ‹_›)) (throw_le _ _ _))
    | exact hn _ _ (Nat.le_refl _)
    | exact hn _ _ (ok_le ‹_›)
    | (have h:=ok_le ‹Sem.run p _ w=Result.ok _ _›; exact h)
theorem apply_le (p:Program) (listen:Bool) (fr:Frame) (callers:List Frame) (dying:Option Dying) (s:Sem Next) (w:World):gle w (stepG.apply p listen fr callers dying s w):=by
  have hw:w.drawn≤(resW (if listen=true then s.runT p w #[] else (s.run p w,#[])).1).drawn:=by
    split
    · exact runT_drawn p s w #[]
    · exact run_drawn p s w
  unfold stepG.apply
  dsimp only
  generalize (if listen=true then s.runT p w #[] else (s.run p w,#[]))=r at hw ⊢
  obtain ⟨r,es⟩:=r
  dsimp only at hw ⊢
  refine gle_after ?_
  cases r with
  | ok v w' =>
    have hw:w.drawn≤w'.drawn:=hw
    cases v
    all_goals try dsimp only
    all_goals first
      | exact hw
      | (split <;> exact hw)
      | (refine ite_le (gle_trans hw (throw_le _ _ _)) ?_; exact hw)
      | skip
  | halt h w' =>
    have hw:w.drawn≤w'.drawn:=hw
    cases h
    all_goals try dsimp only
    all_goals first
      | exact hw
      | trivial
      | exact gle_trans hw (throw_le _ _ _)
      | exact gle_trans hw (endFatal_le _ _ _ _ _ _)
      | (rename_i u _; cases u <;> first | trivial | exact gle_trans hw (early_le _ _ _ _ _ _))
      | (rename_i u; cases u <;> first | trivial | exact gle_trans hw (early_le _ _ _ _ _ _))
theorem oper_le (p:Program) (listen:Bool) (fr:Frame) (callers:List Frame) (dying:Option Dying) (w:World):gle w (stepG.oper p listen fr callers dying w):=by
  unfold stepG.oper
  split
  · trivial
  · split
    all_goals exact apply_le _ _ _ _ _ _ _
theorem exec_le (p:Program) (main listen:Bool) (fr:Frame) (callers:List Frame) (dying:Option Dying) (w:World):gle w (stepG.exec p main listen fr callers dying w):=by
  have hl:∀ jump:Option Code,gle w (match fr.roundOf with
      | none=>if jump matches none | some .ret then GStep.go { frame:={ fr with mode:=.returning },callers,status:=.running,dying } w else .ended (.stuck "exit, goto: no such block or label" (fr.pos p)) w
      | some l =>
        let (r,es):=(Instr.endRound l jump).runT p w #[]
        GStep.after (seen p fr.fn es) <| match r with
        | .ok v w=>doReturn p main fr callers dying v w
        | .halt _ w=>.ended (.stuck "range over a function: no such loop" (fr.pos p)) w):=fun jump=>by
    split
    · refine ite_le ?_ ?_
      · exact Nat.le_refl _
      · trivial
    · dsimp only
      refine gle_after ?_
      split
      · exact gle_trans (ok_le ((runT_eq _ _ _ _).symm.trans ‹_›)) (doReturn_le _ _ _ _ _ _ _)
      · trivial
  unfold stepG.exec
  dsimp only
  split
  all_goals first
    | exact Nat.le_refl _
    | exact hl none
    | exact hl (some .ret)
    | trivial
    | exact apply_le _ _ _ _ _ _ _
    | (split <;> first | exact Nat.le_refl _ | trivial)
    | (cases exitTo _ _ <;> first | exact Nat.le_refl _ | exact hl (some (.exit _)))
    | (cases gotoIn _ _ <;> first | exact Nat.le_refl _ | exact hl (some (.goto _)))
    | (cases Extern.next _ <;> first | trivial | exact apply_le _ _ _ _ _ _ _)
    | (refine gle_after ?_
       split
       all_goals first
         | trivial
         | exact gle_trans (ok_le ((runT_eq _ _ _ _).symm.trans ‹_›)) (apply_le _ _ _ _ _ _ _)
         | (have h:=ok_le ((runT_eq _ _ _ _).symm.trans ‹(Sem.runT p _ w _).1=Result.ok _ _›); exact h)
         | (have h:=halt_le ((runT_eq _ _ _ _).symm.trans ‹(Sem.runT p _ w _).1=Result.halt _ _›); exact h))
    | skip
  · refine ite_le (Nat.le_refl _) ?_
    split
    · have h:=ok_le ‹Sem.run p _ w=Result.ok _ _›
      exact h
    · trivial
  · refine ite_le (oper_le _ _ _ _ _ _) ?_
    exact Nat.le_refl _
theorem stepG_le (p:Program) (main:Bool) (g:Goroutine) (w:World) (listen:Bool):gle w (stepG p main g w listen):=by
  unfold stepG
  dsimp only
  split
  · exact die_le _ _ _ _
  · exact exec_le _ _ _ _ _ _ _
  · exact unwind_le _ _ _ _ _ _

/-! what a machine's step leaves -/
def sle (n:Nat):Stepped→Prop
  | .next m=>n≤m.world.drawn
  | .ended _ _=>True
theorem waitingAt_le {rest:Rest} {cases:Array CommCase} {w w':World} (h:waitingAt rest cases w=some w'):w'.drawn=w.drawn:=by
  unfold waitingAt at h
  split at h
  · split at h
    · simp only [Option.some.injEq] at h
      subst h
      rfl
    · cases h
  · simp only [Option.some.injEq] at h
    subst h
    rfl
theorem communicate_le (p:Program) (rest:Rest) (gs:Array Goroutine) (i:Nat) (g:Goroutine) (cases:Array CommCase) (blocking:Bool) (shape:CommShape) (w:World):sle w.drawn (communicate p rest gs i g cases blocking shape w).1:=by
  unfold communicate
  dsimp only
  split
  · trivial
  · split
    · split
      · split
        · exact Nat.le_of_eq (waitingAt_le ‹_›).symm
        · trivial
      · exact Nat.le_refl _
    · split
      · trivial
      · have h:=ok_le ‹Sem.run p _ w=Result.ok _ _›
        split
        · split
          · have h2:=halt_le ‹Sem.run p _ _=Result.halt _ _›
            exact Nat.le_trans h h2
          · trivial
        · exact h
        · exact h
        · split
          · exact h
          · split
            · have h2:=ok_le ‹Sem.run p (choose (.extern "which waiting goroutine is the partner" _)) _=Result.ok _ _›
              exact Nat.le_trans h h2
            · trivial
        · exact h
        · exact h
        · trivial
theorem drain_le (w:World) (c:Nat):(drain w c).2.drawn=w.drawn:=by
  unfold drain
  split <;> rfl
theorem retime_le (m:Machine) (k:Nat) (t:Timer) (when period:Nat):(retime m k t when period).2.world.drawn=m.world.drawn:=by
  unfold retime
  dsimp only
  split
  · exact drain_le _ _
  · rfl
theorem timerOp_le {m m':Machine} {op:TimerOp} {v:Value} (h:timerOp m op=.ok (v,m')):m'.world.drawn=m.world.drawn:=by
  have hn:∀ (m0:Machine) (var:Addr) (f:Nat→Timer→Value × Machine),(∀ k t,(f k t).2.world.drawn=m.world.drawn)→timerOp.named m0 var f=.ok (v,m')→m'.world.drawn=m.world.drawn:=fun m0 var f hf h=>by
    unfold timerOp.named at h
    split at h
    · rename_i k _
      simp only [Except.ok.injEq] at h
      have:=hf k (m0.rest.timers.getD k default)
      rw [h] at this
      exact this
    · cases h
  unfold timerOp at h
  split at h
  · split at h
    · simp only [Except.ok.injEq,Prod.mk.injEq] at h
      rw [← h.2]
      rfl
    · split at h
      · split at h
        · cases h
        · simp only [Except.ok.injEq,Prod.mk.injEq] at h
          rw [← h.2]
      · cases h
  · exact hn _ _ _ (fun k t=>retime_le _ _ _ _ _) h
  · split at h
    · rename_i m0 ho
      have h0:m0.world.drawn=m.world.drawn:=by
        unfold timerOp.opened at ho
        split at ho
        · split at ho
          · simp only [Option.some.injEq] at ho
            subst ho
            rfl
          · cases ho
        · simp only [Option.some.injEq] at ho
          subst ho
          rfl
      exact hn _ _ _ (fun k t=>(retime_le _ _ _ _ _).trans h0) h
    · cases h
  · simp only [Except.ok.injEq,Prod.mk.injEq] at h
    rw [← h.2]
    rfl
theorem look_le (p:Program) (gs:Array Goroutine) (rest:Rest) (w:World):sle w.drawn (Go.look p gs rest w):=by
  unfold Go.look
  split
  · dsimp only
    split
    · trivial
    · split
      · trivial
      · split
        · have h:=ok_le ‹Sem.run p _ w=Result.ok _ _›
          exact h
        · trivial
        · trivial
  · trivial
theorem serve_le (p:Program) (m:Machine) (k:Nat):sle m.world.drawn (serve p m k):=by
  unfold serve
  split
  · trivial
  · exact Nat.le_refl _
  · dsimp only
    split
    · trivial
    · exact Nat.le_refl _
theorem sle_trans {a b:Nat} {s:Stepped} (h:a≤b) (k:sle b s):sle a s:=by
  cases s
  · exact Nat.le_trans h k
  · trivial
theorem mrunT_le (p:Program) (m:Machine) (i:Nat) (listen:Bool):sle m.world.drawn (Go.runT p m i listen).1:=by
  unfold Go.runT
  dsimp only
  generalize hg:(m.gs.swapAt! i { (default:Goroutine) with status:=.finished })=r
  obtain ⟨g,gs⟩:=r
  dsimp only
  have h:=stepG_le p (i == 0) g m.world listen
  generalize stepG p (i == 0) g m.world listen=s at h ⊢
  cases s
  all_goals try dsimp only
  all_goals first
    | trivial
    | exact h
    | exact sle_trans h (communicate_le _ _ _ _ _ _ _ _ _)
    | exact sle_trans h (look_le _ _ _ _)
    | skip
  · split
    · trivial
    · exact h
  · split
    · have h2:=timerOp_le ‹_›
      exact Nat.le_trans h (Nat.le_of_eq h2.symm)
    · exact h
    · trivial
    · trivial
  · split
    · exact h
    · exact h
    · trivial
def mvle (n:Nat):Move→Prop
  | .goroutine m _=>n≤m.world.drawn
  | .machine s _=>sle n s
theorem mvle_trans {a b:Nat} {s:Move} (h:a≤b) (k:mvle b s):mvle a s:=by
  cases s
  · exact Nat.le_trans h k
  · exact sle_trans h k
theorem mvite_le {c:Prop} [Decidable c] {n:Nat} {a b:Move} (h1:mvle n a) (h2:mvle n b):mvle n (if c then a else b):=by
  split
  · exact h1
  · exact h2
theorem pick_le (rs:List Nat) (p:Program) (n:Nat) (m':Machine) (hm:n≤m'.world.drawn):mvle n (match (choose (.sched rs.length)).run p m'.world with
      | .halt _ w=>Move.machine (.ended (.stuck "sched" "") w)
      | .ok k world =>
        if rs.length≤1 then .goroutine { m' with world } (rs.getD k 0) else
        match (choose (.extern "sched.slice" 65536)).run p world with
        | .halt _ w=>.machine (.ended (.stuck "sched.slice" "") w)
        | .ok n world=>.goroutine { m' with world,rest:={ m'.rest with slice:=if n=0 then none else some (rs.getD k 0,n) } } (rs.getD k 0)):=by
  cases e:(choose (.sched rs.length)).run p m'.world with
  | halt _ _=>trivial
  | ok k world =>
    have h1:=Nat.le_trans hm (ok_le e)
    dsimp only
    refine mvite_le h1 ?_
    cases e2:(choose (.extern "sched.slice" 65536)).run p world with
    | halt _ _=>trivial
    | ok n w2=>exact Nat.le_trans h1 (ok_le e2)
theorem askOn_le (p:Program) (m:Machine):mvle m.world.drawn (askOn p m):=by
  unfold askOn
  dsimp only
  generalize (if (due m.rest.timers m.world.os.mono).isEmpty=true then pure 0 else choose (.extern "timer.serve" ((due m.rest.timers m.world.os.mono).length+(if ((runnable m.gs m.world.os.mono).isEmpty&&(ahead m false).isNone)=true then 0 else 1))):Sem Nat)=sm
  cases e:sm.run p m.world with
  | halt _ _=>trivial
  | ok k world =>
    have h1:=ok_le e
    dsimp only
    refine mvite_le (sle_trans h1 (serve_le p { world:=world,gs:=m.gs,rest:=m.rest } _)) ?_
    split
    · split
      · exact h1
      · refine mvite_le h1 ?_
        split
        all_goals trivial
    · split
      · exact pick_le _ p _ { world:=world,gs:=m.gs,rest:=m.rest } h1
      · rename_i t _
        generalize (choose (.extern "clock.wait" (t - m.world.os.mono+1)):Sem Nat)=sc
        cases e2:sc.run p world with
        | halt _ _=>trivial
        | ok k2 w2 =>
          have h2:=Nat.le_trans h1 (ok_le e2)
          match k2 with
          | 0=>exact pick_le _ p _ { world:=w2,gs:=m.gs,rest:=m.rest } h2
          | 1=>exact h2
          | k+2=>exact pick_le _ p _ (({ world:=w2,gs:=m.gs,rest:=m.rest }:Machine).advanceTo (t - (k+1))) h2
theorem mask_le (p:Program) (m:Machine):mvle m.world.drawn (Go.ask p m):=by
  unfold Go.ask
  refine mvite_le ?_ (askOn_le _ _)
  generalize (choose (.extern "collector.look" 2):Sem Nat)=sc
  cases e:sc.run p m.world with
  | halt _ _=>trivial
  | ok k w =>
    have h1:=ok_le e
    match k with
    | 0=>exact mvle_trans h1 (askOn_le p { m with world:=w })
    | 1 =>
      have h2:=look_le p m.gs m.rest w
      show mvle m.world.drawn (match Go.look p m.gs m.rest w with | .next m=>askOn p m | e=>.machine e)
      cases e2:Go.look p m.gs m.rest w with
      | next m' =>
        rw [e2] at h2
        exact mvle_trans (Nat.le_trans h1 h2) (askOn_le p m')
      | ended _ _=>trivial
    | k+2=>exact mvle_trans h1 (askOn_le p { m with world:=w })
theorem move_le (p:Program) (m:Machine):mvle m.world.drawn (move p m):=by
  unfold move
  split
  · refine mvite_le (Nat.le_refl _) trivial
  · split
    · refine mvite_le (Nat.le_refl _) ?_
      exact mask_le p { m with rest:={ m.rest with slice:=none } }
    · exact mask_le p m
theorem step_drawn {p:Program} {m m':Machine} (h:step p m=.next m'):m.world.drawn≤m'.world.drawn:=by
  have hs:sle m.world.drawn (step p m):=by
    unfold step stepT
    have h:=move_le p m
    cases e:move p m with
    | goroutine m1 i =>
      rw [e] at h
      exact sle_trans h (mrunT_le p m1 i true)
    | machine s ops =>
      rw [e] at h
      exact h
  rw [h] at hs
  exact hs
theorem runN_drawn {p:Program}:∀ (n:Nat) {m m':Machine},runN p n m=.next m'→m.world.drawn≤m'.world.drawn
  | 0,m,m',h=>by
    simp only [runN,Stepped.next.injEq] at h
    rw [h]
    exact Nat.le_refl _
  | n+1,m,m',h=>by
    simp only [runN] at h
    split at h
    · exact Nat.le_trans (step_drawn ‹_›) (runN_drawn n h)
    · rename_i hne
      exact absurd h (by first | exact hne m' | skip)
/-- a call draws no less than had been drawn -/
theorem Calls.drawn {P:Program} {f:FuncId} {args:Array Value} {w:World} {R:Ending→World→Prop} (h:Calls P f args w R) (hR:∀ w',¬ R .outgrown w'):Calls P f args w fun e w'=>R e w'∧w.drawn≤w'.drawn:=by
  intro cs
  obtain ⟨e,w',fr,h1,h2,h3⟩:=h cs
  refine ⟨e,w',fr,⟨h1,?_⟩,h2,h3⟩
  cases e with
  | outgrown=>exact absurd h1 (hR w')
  | returned v =>
    obtain ⟨n,hn⟩:=h2
    exact runN_drawn n hn
  | panicked c =>
    obtain ⟨n,hn⟩:=h2
    exact runN_drawn n hn
/-- what a call leaves that keeps all there was is what there was,with draws and new blocks -/
theorem below_grow {w w':World} (h:Go.RowKit.Below w.heap.size w w') (hd:w.drawn≤w'.drawn):∃ q os,w'=Go.Sort.grow (w.drewN q) os:=by
  refine ⟨w'.drawn - w.drawn,w'.heap.extract w.heap.size w'.heap.size,?_⟩
  have hh:w'.heap=w.heap++w'.heap.extract w.heap.size w'.heap.size:=by
    apply Array.ext
    · have:=h.size
      simp
      omega
    · intro i h1 h2
      by_cases c:i < w.heap.size
      · have:=h.block i c
        rw [Array.getElem_append_left c]
        rw [Array.getElem?_eq_getElem h1,Array.getElem?_eq_getElem c] at this
        exact Option.some.inj this
      · rw [Array.getElem_append_right (by omega)]
        simp
        congr 1
        omega
  obtain ⟨hp,tp,dr,os,out⟩:=w'
  have h1:os=w.os:=h.os
  have h2:tp=w.tape:=h.tape
  have h3:out=w.output:=h.output
  dsimp only at hd hh
  subst h1; subst h2; subst h3
  show _=({ heap:=w.heap++_,tape:=w.tape,drawn:=w.drawn+(dr - w.drawn),os:=w.os,output:=w.output }:World)
  rw [show w.drawn+(dr - w.drawn)=dr by omega]
  congr 1
variable [Globs]
instance {α β:Type} [Inhabited α]:Inhabited (Sum α β):=⟨.inl default⟩
abbrev iv (n:Int):AV:=.d (.v (.int .i64 n))
abbrev bv (b:Bool):AV:=.d (.v (.bool b))
abbrev sv (s:ByteArray):AV:=.d (.v (.string s))
abbrev av (cs:List D):AV:=.d (.agg cs)
abbrev lv {α:Type} [Inhabited α] (cells:α→List D) (l:List α):AV:=.d (slD cells l)
abbrev nv:AV:=.d (.v (.slice none 0 0))
abbrev ow {α:Type} (κ:Nat) (l:List α):AV:=.own κ l.length
abbrev rowB {α:Type} [Inhabited α] (e k:Nat) (cells:α→List D) (l:List α):Blk:=.row e k l.length fun i=>cells (l.getD i default)
abbrev dI (n:Int):D:=.v (.int .i64 n)
abbrev dB (b:Bool):D:=.v (.bool b)
abbrev dS (s:ByteArray):D:=.v (.string s)
def w64 (n:Int):Int:=IntKind.i64.wrap n
theorem w64_id {n:Int} (h1 : -9223372036854775808≤n) (h2:n≤9223372036854775807):w64 n=n:=wrap64_id h1 h2
structure Enc (α:Type) where
 cells:α→List D
 k:Nat
 len:∀ x,(cells x).length=k
 one:∀ x,(cells x).all oneD=true
def intE:Enc Int:=⟨intC,1,fun _=>rfl,fun _=>rfl⟩
def strE:Enc ByteArray:=⟨strC,1,fun _=>rfl,fun _=>rfl⟩
def u8C (n:Int):List D:=[.v (.int .u8 n)]
def u8E:Enc Int:=⟨u8C,1,fun _=>rfl,fun _=>rfl⟩
def bytesS (L:List Int):ByteArray:=strB L.length fun i=>u8C (L.getD i default)
theorem bytesT (L:List Int):∀ i,i < L.length→bytQ (u8C (L.getD i default)):=fun _ _=>⟨_,rfl⟩
abbrev mpB {α:Type} [Inhabited α] (enc:α→D) (ks:List Int) (vs:List α):Blk:=.mp ks.length fun i=>(.int .i64 (ks.getD i 0),enc (vs.getD i default))
abbrev mpf {α:Type} [Inhabited α] (enc:α→D) (m:List (Int × α)):Nat→Value × D:=fun i=>(.int .i64 (m.getD i default).1,enc (m.getD i default).2)
abbrev mpM {α:Type} [Inhabited α] (enc:α→D) (m:List (Int × α)):Blk:=.mp m.length (mpf enc m)
abbrev pmM {α:Type} [Inhabited α] (enc:α→D) (m:List (Int × α)):AV:=.pmp m.length (mpf enc m)
def mupd {α:Type}:List (Int × α)→Int→α→List (Int × α)
 | [],k,v=>[(k,v)]
 | p :: r,k,v=>bif k == p.1 then (p.1,v) :: r else p :: mupd r k v
def mfind {α:Type}:List (Int × α)→Int→Option α
 | [],_=>none
 | p :: r,k=>bif k == p.1 then some p.2 else mfind r k
def mget {α:Type} (m:List (Int × α)) (k:Int) (z:α):α:=(mfind m k).getD z
theorem keysM {α:Type} [Inhabited α] (enc:α→D) (m:List (Int × α)):∀ i,i < m.length→∃ b,(mpf enc m i).1=.int .i64 b:=fun i _=>⟨_,rfl⟩
theorem mpIdx_map {α:Type} [Inhabited α] (enc:α→D) (k:Int):∀ (m:List (Int × α)),match mpIdx (.int .i64 k) m.length (mpf enc m) with
  | some p=>p < m.length∧(mpf enc m p).1=.int .i64 k∧mfind m k=some (m.getD p default).2∧∀ v,mupd m k v=m.set p ((m.getD p default).1,v)
  | none=>mfind m k=none∧∀ v,mupd m k v=m++[(k,v)]
 | []=>⟨rfl,fun _=>rfl⟩
 | p :: r=>by
  have ih:=mpIdx_map enc k r
  have e:(fun i=>mpf enc (p :: r) (i+1))=mpf enc r:=by funext i; simp [mpf]
  have e0:(mpf enc (p :: r) 0).1=.int .i64 p.1:=rfl
  simp only [List.length_cons,mpIdx,e,e0,keyEqB,decide_true,Bool.true_and,List.getD_cons_zero]
  cases hk:(k == p.1) with
  | true =>
   have hk':k=p.1:=by simpa using hk
   simp only [cond_true]
   refine ⟨by omega,by rw [hk']; rfl,by simp [mfind,hk],fun v=>by simp [mupd,hk]⟩
  | false =>
   simp only [cond_false]
   cases hq:mpIdx (.int .i64 k) r.length (mpf enc r) with
   | none =>
    rw [hq] at ih
    simp only [Option.map_none]
    exact ⟨by simp only [mfind,hk,cond_false]; exact ih.1,fun v=>by simp only [mupd,hk,cond_false,ih.2 v,List.cons_append]⟩
   | some q =>
    rw [hq] at ih
    obtain ⟨i1,i2,i3,i4⟩:=ih
    simp only [Option.map_some]
    refine ⟨by simpa using i1,?_,?_,fun v=>?_⟩
    ·rw [← i2]; rfl
    ·simp only [mfind,hk,cond_false]; rw [i3]; simp
    ·simp only [mupd,hk,cond_false,i4 v]; simp
def mkM {α:Type} [Inhabited α] (enc:α→D):NormM:=⟨0,([]:List (Int × α)).length,fun _=>(.bool false,default),mpf enc ([]:List (Int × α)),rfl,fun i hi=>absurd hi (by omega)⟩
def updM {α:Type} [Inhabited α] (enc:α→D) (m:List (Int × α)) (k:Int) (v:α):NormM:=⟨mpN (.int .i64 k) m.length (mpf enc m),(mupd m k v).length,mpF (.int .i64 k) (enc v) m.length (mpf enc m),mpf enc (mupd m k v),by
 have h:=mpIdx_map enc k m
 unfold mpN mpF
 cases hq:mpIdx (.int .i64 k) m.length (mpf enc m) with
 | none =>
  rw [hq] at h
  simp only
  rw [h.2 v]
  refine ⟨by simp,fun i hi=>?_⟩
  by_cases c:i < m.length
  ·simp [mpf,c,List.getD,List.getElem?_append_left c]
  ·obtain rfl:i=m.length:=by omega
   simp [mpf,List.getD]
 | some p =>
  rw [hq] at h
  obtain ⟨h1,h2,h3,h4⟩:=h
  simp only
  rw [h4 v]
  refine ⟨by simp,fun i hi=>?_⟩
  by_cases c:i=p
  ·subst c
   simp [mpf,List.getD,h1]
  ·simp [mpf,c,List.getD,List.getElem?_set_ne (fun e=>c e.symm)]⟩
def insL {α:Type} [Inhabited α] (enc:α→D) (m:List (Int × α)) (k:Int) (v:α):NormM:=⟨m.length+1,(m++[(k,v)]).length,fun q=>if q < m.length then mpf enc m q else (.int .i64 k,enc v),mpf enc (m++[(k,v)]),by
 refine ⟨by simp,fun i hi=>?_⟩
 by_cases c:i < m.length
 ·simp only [c,if_true,mpf,List.getD,List.getElem?_append_left c]
 ·obtain rfl:i=m.length:=by omega
  simp [mpf,List.getD]⟩
theorem mpGet_map {α:Type} [Inhabited α] (enc:α→D) (m:List (Int × α)) (k:Int) (z:α):mpGet (.int .i64 k) m.length (mpf enc m) (enc z)=enc (mget m k z):=by
 have h:=mpIdx_map enc k m
 unfold mpGet mget
 cases hq:mpIdx (.int .i64 k) m.length (mpf enc m) with
 | none=>rw [hq] at h; simp only [h.1]; rfl
 | some p=>rw [hq] at h; simp only [h.2.2.1]; rfl
def getM {α:Type} [Inhabited α] (enc:α→D) (m:List (Int × α)) (k:Int) (z:α):CastC:=⟨.d (mpGet (.int .i64 k) m.length (mpf enc m) (enc z)),.d (enc (mget m k z)),fun _ _ _ _ _ h=>by rw [← mpGet_map enc m k z]; exact h⟩
theorem nrm_eq {n n':Nat} {f f':Nat→List D} (h:n=n'∧∀ i,i < n→f i=f' i):n=n'∧∀ i,i < n→CsLe (f i) (f' i):=⟨h.1,fun i hi=>CsLe.of_eq (h.2 i hi)⟩
section
variable {α : Type} [Inhabited α] (E : Enc α)
theorem Enc.ones (M:List α):∀ i,i < M.length→(E.cells (M.getD i default)).all oneD=true:=fun _ _=>E.one _
theorem Enc.lens (M:List α):∀ i,i < M.length→(E.cells (M.getD i default)).length=E.k:=fun _ _=>E.len _
def catC (L M:List α):NormC:=⟨L.length+M.length,(L++M).length,fun q=>if q < L.length then E.cells (L.getD q default) else E.cells (M.getD (q - L.length) default),fun i=>E.cells ((L++M).getD i default),nrm_eq (row_cat E.cells L M)⟩
def setC (L:List α) (p:Nat) (y:α):NormC:=⟨L.length,(L.set p y).length,fun q=>if q=p then E.cells y else E.cells (L.getD q default),fun i=>E.cells ((L.set p y).getD i default),nrm_eq <| by
 refine ⟨by simp,fun i hi=>?_⟩
 split
 ·rename_i h
  subst h
  simp [List.getD,hi]
 ·rename_i h
  simp [List.getD,List.getElem?_set_ne (fun e=>h e.symm)]⟩
def mkC (n:Nat) (z:α):NormC:=⟨n,(List.replicate n z).length,fun _=>E.cells z,fun i=>E.cells ((List.replicate n z).getD i default),nrm_eq <| by
 refine ⟨by simp,fun i hi=>?_⟩
 simp [List.getD,hi]⟩
def subL (L:List α) (lo n:Nat):List α:=(List.range n).map fun i=>L.getD (lo+i) default
def subC (L:List α) (lo n:Nat):NormC:=⟨n,(subL L lo n).length,fun i=>E.cells (L.getD (lo+i) default),fun i=>E.cells ((subL L lo n).getD i default),nrm_eq <| by
 refine ⟨by simp [subL],fun i hi=>?_⟩
 have:(subL L lo n).getD i default=L.getD (lo+i) default:=by simp [subL,List.getD,hi]
 rw [this]⟩
theorem flat_get (k:Nat) (hk:∀ x,(E.cells x).length=k):∀ (xs:List α) (i j:Nat),i < xs.length→j < k→(xs.flatMap E.cells).getD (i * k+j) default=(E.cells (xs.getD i default)).getD j default
 | [],i,j,hi,_=>absurd hi (by simp)
 | x :: r,0,j,_,hj=>by
  simp only [List.flatMap_cons,Nat.zero_mul,Nat.zero_add,List.getD_cons_zero]
  rw [List.getD,List.getElem?_append_left (by rw [hk]; exact hj)]
  rfl
 | x :: r,i+1,j,hi,hj=>by
  have ih:=flat_get k hk r i j (by simpa using hi) hj
  simp only [List.flatMap_cons,List.getD_cons_succ]
  rw [List.getD,List.getElem?_append_right (by rw [hk,Nat.add_mul,Nat.one_mul]; omega),hk,show (i+1) * k+j - k=i * k+j by rw [Nat.add_mul,Nat.one_mul]; omega]
  exact ih
theorem flat_len (k:Nat) (hk:∀ x,(E.cells x).length=k):∀ (xs:List α),(xs.flatMap E.cells).length=xs.length * k
 | []=>by simp
 | x :: r=>by simp [List.flatMap_cons,hk,flat_len k hk r,Nat.add_mul,Nat.add_comm]
def litC (xs:List α):NormC:=⟨xs.length,xs.length,rowF E.k xs.length (xs.flatMap E.cells),fun i=>E.cells (xs.getD i default),nrm_eq <| by
 refine ⟨rfl,fun i hi=>?_⟩
 obtain ⟨h1,h2⟩:=rowF_get (k:=E.k) (len:=xs.length) (ds:=xs.flatMap E.cells) (flat_len E E.k E.len xs) hi
 apply List.ext_getElem?
 intro j
 by_cases hj:j < E.k
 ·have h3:=h2 j hj
  rw [flat_get E E.k E.len xs i j hi hj] at h3
  have l1:j < (rowF E.k xs.length (xs.flatMap E.cells) i).length:=by omega
  have l2:j < (E.cells (xs.getD i default)).length:=by rw [E.len]; exact hj
  rw [List.getD,List.getD,List.getElem?_eq_getElem l1,List.getElem?_eq_getElem l2] at h3
  rw [List.getElem?_eq_getElem l1,List.getElem?_eq_getElem l2]
  simpa using h3
 ·rw [List.getElem?_eq_none (by omega),List.getElem?_eq_none (by rw [E.len]; omega)]⟩
def litP (xs:List α) (ds:List D) (hle:CsLe ds (xs.flatMap E.cells)):NormC:=⟨xs.length,xs.length,rowF E.k xs.length ds,fun i=>E.cells (xs.getD i default),by
 refine ⟨rfl,fun i hi=>?_⟩
 have hl:ds.length=xs.length * E.k:=hle.1.trans (flat_len E E.k E.len xs)
 obtain ⟨h1,h2⟩:=rowF_get (k:=E.k) (len:=xs.length) (ds:=ds) hl hi
 refine ⟨h1.trans (E.len _).symm,fun j hj=>?_⟩
 have hj:j < E.k:=by omega
 have hb:i * E.k+j < ds.length:=by
  rw [hl]
  have q1:(i+1) * E.k≤xs.length * E.k:=Nat.mul_le_mul_right _ hi
  rw [Nat.add_mul,Nat.one_mul] at q1
  omega
 have h3:=hle.2 _ hb
 rw [flat_get E E.k E.len xs i j hi hj] at h3
 rw [h2 j hj]
 exact h3⟩
def litN (xs:List α) (ds:List D) (h:dsEq ds (xs.flatMap E.cells)=(dsEq ds (xs.flatMap E.cells)).diag):NormC:=⟨xs.length,xs.length,rowF E.k xs.length ds,fun i=>E.cells (xs.getD i default),by
 have hle:=dsEq_le (CT.ok_of h)
 refine ⟨rfl,fun i hi=>?_⟩
 have hl:ds.length=xs.length * E.k:=hle.1.trans (flat_len E E.k E.len xs)
 obtain ⟨h1,h2⟩:=rowF_get (k:=E.k) (len:=xs.length) (ds:=ds) hl hi
 refine ⟨h1.trans (E.len _).symm,fun j hj=>?_⟩
 have hj:j < E.k:=by omega
 have hb:i * E.k+j < ds.length:=by
  rw [hl]
  have q1:(i+1) * E.k≤xs.length * E.k:=Nat.mul_le_mul_right _ hi
  rw [Nat.add_mul,Nat.one_mul] at q1
  omega
 have h3:=hle.2 _ hb
 rw [flat_get E E.k E.len xs i j hi hj] at h3
 rw [h2 j hj]
 exact h3⟩
end
def refC {cs ds:List D} (h:CsLe cs ds):CastC:=⟨.ref cs,.ref ds,fun w S μ ν v hr=>by
 cases hr with
 | ref vals hcell hh=>exact .ref vals (fun j hj=>hcell j (by rw [h.1]; exact hj)) (fun j hj=>h.2 j (by rw [h.1]; exact hj) _ _ _ (hh j (by rw [h.1]; exact hj)))⟩
abbrev ixP (i:Int) (n:Nat):Prop:=0≤i∧i < (n:Int)
abbrev szP (n m bytes:Nat):Prop:=n+m≤maxLen∧(n+m) * bytes≤140737488355328
abbrev mkP (n:Int) (bytes:Nat):Prop:=0≤n∧n.toNat≤maxLen∧n.toNat * bytes≤140737488355328
def Cal.z:Cal Unit:=⟨(),fun _=>[],fun _=>none,True,fun _ _ h=>(by cases h),fun _=>True,trivial⟩
abbrev Sk.nx {α ι:Type} (id t n:Nat) (a:ι):Sk (α ⊕ ι):=.r id .z fun _=>.wi t (w64 ((n:Int)+1)) ((n+1:Nat):Int) (.fin (.inr a))
def Cal.p (p:Prop):Cal Unit:=⟨(),fun _=>[],fun _=>some p,p,fun h _ e=>by cases e; exact h,fun _=>True,trivial⟩
def Cal.t {p:Prop} (h:p):Cal Unit:=⟨(),fun _=>[],fun _=>some p,True,fun _ _ e=>by cases e; exact h,fun _=>True,trivial⟩
def Cal.pt (p:Prop) {q:Prop} (h:q):Cal Unit:=⟨(),fun _=>[],fun _=>some (p∧q),p,fun hp _ e=>by cases e; exact ⟨hp,h⟩,fun _=>True,trivial⟩
def Cal.o (l:List Orc):Cal Unit:=⟨(),fun _=>l,fun _=>none,True,fun _ _ h=>(by cases h),fun _=>True,trivial⟩
theorem andO_mk {x y:Option Prop} (h1:∀ p,x=some p→p) (h2:∀ p,y=some p→p) (p:Prop) (e:andO x y=some p):p:=by
 cases x with
 | none=>exact h2 p (by simpa [andO] using e)
 | some a =>
  cases y with
  | none=>exact h1 p (by simpa [andO] using e)
  | some b =>
   simp only [andO,Option.some.injEq] at e
   subst e
   exact ⟨h1 a rfl,h2 b rfl⟩
def impO (e w:Bool):Option Prop→Option Prop
 | none=>none
 | some p=>some (e=w→p)
theorem impO_mk {x:Option Prop} {e w:Bool} (h:e=w→∀ p,x=some p→p) (p:Prop) (hp:impO e w x=some p):p:=by
 cases x with
 | none=>cases hp
 | some a =>
  simp only [impO,Option.some.injEq] at hp
  subst hp
  exact fun he=>h he a rfl
def Cal.and {α β:Type} (a:Cal α) (b:Cal β):Cal (α × β):=⟨(a.v,b.v),fun x=>a.orc x.1++b.orc x.2,fun x=>andO (a.claim x.1) (b.claim x.2),a.pre∧b.pre,fun h=>andO_mk (a.pf h.1) (b.pf h.2),fun x=>a.post x.1∧b.post x.2,⟨a.hp,b.hp⟩⟩
def Cal.andl {β:Type} (a:Cal Unit) (b:Cal β):Cal β:=⟨b.v,fun x=>a.orc ()++b.orc x,fun x=>andO (a.claim ()) (b.claim x),a.pre∧b.pre,fun h=>andO_mk (a.pf h.1) (b.pf h.2),b.post,b.hp⟩
def Cal.andr {α:Type} (a:Cal α) (b:Cal Unit):Cal α:=⟨a.v,fun x=>a.orc x++b.orc (),fun x=>andO (a.claim x) (b.claim ()),a.pre∧b.pre,fun h=>andO_mk (a.pf h.1) (b.pf h.2),a.post,a.hp⟩
def Cal.wh {β:Type} (e w:Bool) (a:Cal β):Cal β:=⟨a.v,a.orc,fun x=>impO e w (a.claim x),e=w→a.pre,fun h=>impO_mk fun he=>a.pf (h he),a.post,a.hp⟩
def Cal.dep {α β:Type} (a:Cal α) (b:α→Cal β):Cal (α × β):=⟨(a.v,(b a.v).v),fun x=>a.orc x.1++(b x.1).orc x.2,fun x=>andO (a.claim x.1) ((b x.1).claim x.2),a.pre∧∀ x,x=a.v→a.post x→(b x).pre,fun h=>andO_mk (a.pf h.1) ((b a.v).pf (h.2 _ rfl a.hp)),fun x=>a.post x.1∧(b x.1).post x.2,⟨a.hp,(b a.v).hp⟩⟩
def Cal.depr {α:Type} (a:Cal α) (b:α→Cal Unit):Cal α:=⟨a.v,fun x=>a.orc x++(b x).orc (),fun x=>andO (a.claim x) ((b x).claim ()),a.pre∧∀ x,x=a.v→a.post x→(b x).pre,fun h=>andO_mk (a.pf h.1) ((b a.v).pf (h.2 _ rfl a.hp)),a.post,a.hp⟩
structure Ctr (β:Type) where
 P:Program
 f:FuncId
 args:List AV
 enc:β→AV
 fl:Bool
 v:β
 pre:Prop
 pf:pre→FnA P f args [] (enc v) []
 post:β→Prop:=fun _=>True
 hp:post v:=by trivial
def Ctr.c {β:Type} (c:Ctr β):Cal β:=⟨c.v,fun x=>[bif c.fl then .flat (c.enc x) else .gen [] (c.enc x) []],fun x=>some (FnA c.P c.f c.args [] (c.enc x) []),c.pre,fun hp _ e=>by cases e; exact c.pf hp,c.post,c.hp⟩
theorem AvLeL.refl:∀ (l:List AV),AvLeL l l
 | []=>trivial
 | _ :: r=>⟨AvLe.rfl',AvLeL.refl r⟩
theorem AvLeL.set:∀ (l:List AV) (i:Nat) (x y:AV),l[i]? = some y→AvLe x y→AvLeL (l.set i x) l
 | [],i,_,_,h,_=>by simp at h
 | z :: r,0,x,y,h,hle=>by
  simp only [List.getElem?_cons_zero,Option.some.injEq] at h
  subst h
  exact ⟨hle,AvLeL.refl r⟩
 | z :: r,i+1,x,y,h,hle=>⟨AvLe.rfl',AvLeL.set r i x y (by simpa using h) hle⟩
def Ctr.nil {β:Type} (c:Ctr β) (i:Nat) (h:∃ g,c.args[i]? = some (.d (.sl 0 g))):Ctr β :=
 { c with args:=c.args.set i nv,pf:=fun hp=>(c.pf hp).argLe (let ⟨g,hg⟩:=h; AvLeL.set c.args i _ _ hg (AvLe.d (DLe.nil g))) }
def Ctr.nilc {β:Type} (c:Ctr β) (i j:Nat) (cs:List D) (h:c.args[i]? = some (.d (.agg cs))) (h2:∃ g,cs[j]? = some (.sl 0 g)):Ctr β :=
 {c with args:=c.args.set i (.d (.agg (cs.set j (.v (.slice none 0 0))))),pf:=fun hp=>(c.pf hp).argLe (AvLeL.set c.args i _ _ h (AvLe.d (DLe.agg (by simp) (fun q hq=>by
   obtain ⟨g,hg⟩:=h2
   by_cases e:j=q
   ·subst e
    have hj:j < cs.length:=by simpa using hq
    have e1:(cs.set j (.v (.slice none 0 0))).getD j default=.v (.slice none 0 0):=by simp [List.getD,hj]
    have e2:cs.getD j default=.sl 0 g:=by simp [List.getD,hg]
    rw [e1,e2]
    exact DLe.nil g
   ·have e1:(cs.set j (.v (.slice none 0 0))).getD q default=cs.getD q default:=by simp [List.getD,List.getElem?_set_ne e]
    rw [e1]
    exact DLe.rfl')))) }
@[simp] theorem Cal.z_post (x:Unit):Cal.z.post x=True:=rfl
@[simp] theorem Cal.p_post (p:Prop) (x:Unit):(Cal.p p).post x=True:=rfl
@[simp] theorem Cal.t_post {p:Prop} (h:p) (x:Unit):(Cal.t h).post x=True:=rfl
@[simp] theorem Cal.pt_post (p:Prop) {q:Prop} (h:q) (x:Unit):(Cal.pt p h).post x=True:=rfl
@[simp] theorem Cal.o_post (l:List Orc) (x:Unit):(Cal.o l).post x=True:=rfl
@[simp] theorem Cal.and_post {α β:Type} (a:Cal α) (b:Cal β) (x:α × β):(a.and b).post x=(a.post x.1∧b.post x.2):=rfl
@[simp] theorem Cal.andl_post {β:Type} (a:Cal Unit) (b:Cal β) (x:β):(a.andl b).post x=b.post x:=rfl
@[simp] theorem Cal.andr_post {β:Type} (a:Cal β) (b:Cal Unit) (x:β):(a.andr b).post x=a.post x:=rfl
@[simp] theorem Cal.wh_post {β:Type} (e w:Bool) (a:Cal β) (x:β):(a.wh e w).post x=a.post x:=rfl
@[simp] theorem Cal.dep_post {α β:Type} (a:Cal α) (b:α→Cal β) (x:α × β):(a.dep b).post x=(a.post x.1∧(b x.1).post x.2):=rfl
@[simp] theorem Cal.depr_post {α:Type} (a:Cal α) (b:α→Cal Unit) (x:α):(a.depr b).post x=a.post x:=rfl
@[simp] theorem Ctr.c_post {β:Type} (c:Ctr β) (x:β):c.c.post x=c.post x:=rfl
@[simp] theorem Ctr.nil_post {β:Type} (c:Ctr β) (i:Nat) (h:∃ g,c.args[i]? = some (.d (.sl 0 g))) (x:β):(c.nil i h).post x=c.post x:=rfl
@[simp] theorem Ctr.nilc_post {β:Type} (c:Ctr β) (i j:Nat) (cs:List D) (h:c.args[i]? = some (.d (.agg cs))) (h2:∃ g,cs[j]? = some (.sl 0 g)) (x:β):(c.nilc i j cs h h2).post x=c.post x:=rfl
@[simp] theorem Cal.z_pre:Cal.z.pre=True:=rfl
@[simp] theorem Cal.p_pre (p:Prop):(Cal.p p).pre=p:=rfl
@[simp] theorem Cal.t_pre {p:Prop} (h:p):(Cal.t h).pre=True:=rfl
@[simp] theorem Cal.pt_pre (p:Prop) {q:Prop} (h:q):(Cal.pt p h).pre=p:=rfl
@[simp] theorem Cal.o_pre (l:List Orc):(Cal.o l).pre=True:=rfl
@[simp] theorem Cal.and_pre {α β:Type} (a:Cal α) (b:Cal β):(a.and b).pre=(a.pre∧b.pre):=rfl
@[simp] theorem Cal.andl_pre {β:Type} (a:Cal Unit) (b:Cal β):(a.andl b).pre=(a.pre∧b.pre):=rfl
@[simp] theorem Cal.andr_pre {β:Type} (a:Cal β) (b:Cal Unit):(a.andr b).pre=(a.pre∧b.pre):=rfl
@[simp] theorem Cal.wh_pre {β:Type} (e w:Bool) (a:Cal β):(a.wh e w).pre=(e=w→a.pre):=rfl
@[simp] theorem Cal.dep_pre {α β:Type} (a:Cal α) (b:α→Cal β):(a.dep b).pre=(a.pre∧∀ x,x=a.v→a.post x→(b x).pre):=rfl
@[simp] theorem Cal.depr_pre {α:Type} (a:Cal α) (b:α→Cal Unit):(a.depr b).pre=(a.pre∧∀ x,x=a.v→a.post x→(b x).pre):=rfl
@[simp] theorem Cal.dep_v {α β:Type} (a:Cal α) (b:α→Cal β):(a.dep b).v=(a.v,(b a.v).v):=rfl
@[simp] theorem Cal.depr_v {α:Type} (a:Cal α) (b:α→Cal Unit):(a.depr b).v=a.v:=rfl
@[simp] theorem Ctr.c_pre {β:Type} (c:Ctr β):c.c.pre=c.pre:=rfl
@[simp] theorem Ctr.c_v {β:Type} (c:Ctr β):c.c.v=c.v:=rfl
@[simp] theorem Ctr.nil_pre {β:Type} (c:Ctr β) (i:Nat) (h:∃ g,c.args[i]? = some (.d (.sl 0 g))):(c.nil i h).pre=c.pre:=rfl
@[simp] theorem Ctr.nil_v {β:Type} (c:Ctr β) (i:Nat) (h:∃ g,c.args[i]? = some (.d (.sl 0 g))):(c.nil i h).v=c.v:=rfl
@[simp] theorem Ctr.nilc_pre {β:Type} (c:Ctr β) (i j:Nat) (cs:List D) (h:c.args[i]? = some (.d (.agg cs))) (h2:∃ g,cs[j]? = some (.sl 0 g)):(c.nilc i j cs h h2).pre=c.pre:=rfl
@[simp] theorem Ctr.nilc_v {β:Type} (c:Ctr β) (i j:Nat) (cs:List D) (h:c.args[i]? = some (.d (.agg cs))) (h2:∃ g,cs[j]? = some (.sl 0 g)):(c.nilc i j cs h h2).v=c.v:=rfl
@[simp] theorem Cal.and_v {α β:Type} (a:Cal α) (b:Cal β):(a.and b).v=(a.v,b.v):=rfl
@[simp] theorem Cal.andl_v {β:Type} (a:Cal Unit) (b:Cal β):(a.andl b).v=b.v:=rfl
@[simp] theorem Cal.andr_v {β:Type} (a:Cal β) (b:Cal Unit):(a.andr b).v=a.v:=rfl
@[simp] theorem Cal.wh_v {β:Type} (e w:Bool) (a:Cal β):(a.wh e w).v=a.v:=rfl
structure CtrO (β:Type) where
 P:Program
 f:FuncId
 args:List AV
 enc:β→AV
 encB:β→List (Nat × Blk)
 v:β
 pre:Prop
 pf:pre→FnA P f args [] (enc v) (encB v)
 post:β→Prop:=fun _=>True
 hp:post v:=by trivial
def CtrO.c {β:Type} (c:CtrO β):Cal β:=⟨c.v,fun x=>[.gen [] (c.enc x) (c.encB x)],fun x=>some (FnA c.P c.f c.args [] (c.enc x) (c.encB x)),c.pre,fun hp _ e=>by cases e; exact c.pf hp,c.post,c.hp⟩
@[simp] theorem CtrO.c_pre {β:Type} (c:CtrO β):c.c.pre=c.pre:=rfl
@[simp] theorem CtrO.c_v {β:Type} (c:CtrO β):c.c.v=c.v:=rfl
def CtrO.nil {β:Type} (c:CtrO β) (i:Nat) (h:∃ g,c.args[i]? = some (.d (.sl 0 g))):CtrO β :=
 { c with args:=c.args.set i nv,pf:=fun hp=>(c.pf hp).argLe (let ⟨g,hg⟩:=h; AvLeL.set c.args i _ _ hg (AvLe.d (DLe.nil g))) }
@[simp] theorem CtrO.nil_pre {β:Type} (c:CtrO β) (i:Nat) (h:∃ g,c.args[i]? = some (.d (.sl 0 g))):(c.nil i h).pre=c.pre:=rfl
@[simp] theorem CtrO.nil_v {β:Type} (c:CtrO β) (i:Nat) (h:∃ g,c.args[i]? = some (.d (.sl 0 g))):(c.nil i h).v=c.v:=rfl
@[simp] theorem CtrO.c_post {β:Type} (c:CtrO β) (x:β):c.c.post x=c.post x:=rfl
@[simp] theorem CtrO.nil_post {β:Type} (c:CtrO β) (i:Nat) (h:∃ g,c.args[i]? = some (.d (.sl 0 g))) (x:β):(c.nil i h).post x=c.post x:=rfl
structure CtrB (β:Type) where
 P:Program
 f:FuncId
 args:List AV
 lbs:List (Nat × Blk)
 anc:List (Nat × Nat)
 enc:β→AV
 encB:β→List (Nat × Blk)
 v:β
 pre:Prop
 pf:pre→FnB P f args lbs (enc v) (encB v) anc
 post:β→Prop:=fun _=>True
 hp:post v:=by trivial
def CtrB.c {β:Type} (c:CtrB β):Cal β:=⟨c.v,fun x=>[.bx (c.lbs.map (·.1)) c.anc (c.enc x) (c.encB x)],fun x=>some (FnB c.P c.f c.args c.lbs (c.enc x) (c.encB x) c.anc),c.pre,fun hp _ e=>by cases e; exact c.pf hp,c.post,c.hp⟩
@[simp] theorem CtrB.c_pre {β:Type} (c:CtrB β):c.c.pre=c.pre:=rfl
@[simp] theorem CtrB.c_v {β:Type} (c:CtrB β):c.c.v=c.v:=rfl
@[simp] theorem CtrB.c_post {β:Type} (c:CtrB β) (x:β):c.c.post x=c.post x:=rfl
structure CtrX (E β:Type) where
 P:Program
 f:FuncId
 args:List AV
 lbs:List (Nat × Blk)
 anc:List (Nat × Nat)
 enc:β→AV
 encB:β→List (Nat × Blk)
 pv:E→Value
 v:Except E β
 pre:Prop
 pf:pre→FnX P f args lbs anc enc encB pv v
 post:Except E β→Prop:=fun _=>True
 hp:post v:=by trivial
def CtrX.c {E β:Type} (c:CtrX E β):CalX E β:=⟨c.v,c.f,c.lbs.map (·.1),fun x=>[.bx (c.lbs.map (·.1)) c.anc (c.enc x) (c.encB x)],fun x=>some (FnB c.P c.f c.args c.lbs (c.enc x) (c.encB x) c.anc),c.pv,fun e=>some (FnP c.P c.f c.args c.lbs (c.pv e)),c.pre,
 fun hp b hb p e=>by cases e; have h:=c.pf hp; unfold FnX at h; rw [hb] at h; exact h,fun hp b hb p e=>by cases e; have h:=c.pf hp; unfold FnX at h; rw [hb] at h; exact h,c.post,c.hp⟩
@[simp] theorem CtrX.c_pre {E β:Type} (c:CtrX E β):c.c.pre=c.pre:=rfl
@[simp] theorem CtrX.c_v {E β:Type} (c:CtrX E β):c.c.v=c.v:=rfl
@[simp] theorem CtrX.c_post {E β:Type} (c:CtrX E β) (x:Except E β):c.c.post x=c.post x:=rfl
structure CtrS (β:Type) where
 P:Program
 f:FuncId
 args:List AV
 κ:Nat
 b:Blk
 enc:β→Blk
 v:β
 pre:Prop
 pf:pre→FnS P f args κ b (enc v)
 post:β→Prop:=fun _=>True
 hp:post v:=by trivial
def CtrS.c {β:Type} (c:CtrS β):Cal β:=⟨c.v,fun x=>[.same c.κ (c.enc x)],fun x=>some (FnS c.P c.f c.args c.κ c.b (c.enc x)),c.pre,fun hp _ e=>by cases e; exact c.pf hp,c.post,c.hp⟩
@[simp] theorem CtrS.c_pre {β:Type} (c:CtrS β):c.c.pre=c.pre:=rfl
@[simp] theorem CtrS.c_v {β:Type} (c:CtrS β):c.c.v=c.v:=rfl
@[simp] theorem CtrS.c_post {β:Type} (c:CtrS β) (x:β):c.c.post x=c.post x:=rfl
structure CtrH (β:Type) where
 P:Program
 f:FuncId
 args:List AV
 lbs:List (Nat × Blk)
 enc:β→AV
 encB:β→List (Nat × Blk)
 v:β
 pre:Prop
 pf:pre→FnA P f args lbs (enc v) (encB v)
 post:β→Prop:=fun _=>True
 hp:post v:=by trivial
def CtrH.c {β:Type} (c:CtrH β):Cal β:=⟨c.v,fun x=>[.gen (c.lbs.map (·.1)) (c.enc x) (c.encB x)],fun x=>some (FnA c.P c.f c.args c.lbs (c.enc x) (c.encB x)),c.pre,fun hp _ e=>by cases e; exact c.pf hp,c.post,c.hp⟩
@[simp] theorem CtrH.c_pre {β:Type} (c:CtrH β):c.c.pre=c.pre:=rfl
@[simp] theorem CtrH.c_v {β:Type} (c:CtrH β):c.c.v=c.v:=rfl
@[simp] theorem CtrH.c_post {β:Type} (c:CtrH β) (x:β):c.c.post x=c.post x:=rfl
section
variable {α β ι : Type}
@[simp] theorem Sk.val_fin (a:α):(Sk.fin a).val=a:=rfl
@[simp] theorem Sk.val_br (e:Bool) (x y:Sk α):(Sk.br e x y).val=bif e then x.val else y.val:=rfl
@[simp] theorem Sk.val_r (id:Nat) (c:Cal β) (k:β→Sk α):(Sk.r id c k).val=(k c.v).val:=rfl
@[simp] theorem Sk.val_wi (t:Nat) (m n:Int) (k:Sk α):(Sk.wi t m n k).val=k.val:=rfl
@[simp] theorem Sk.val_bnd (t j n:Nat) (k:Sk α):(Sk.bnd t j n k).val=k.val:=rfl
@[simp] theorem Sk.val_wn (κ n n':Nat) (k:Sk α):(Sk.wn κ n n' k).val=k.val:=rfl
@[simp] theorem Sk.val_wr (κ n n':Nat) (k:Sk α):(Sk.wr κ n n' k).val=k.val:=rfl
@[simp] theorem Sk.val_brt (k:Sk α):(Sk.brt k).val=k.val:=rfl
@[simp] theorem Sk.val_brf (k:Sk α):(Sk.brf k).val=k.val:=rfl
@[simp] theorem Sk.val_dead (a:α):(Sk.dead a).val=a:=rfl
@[simp] theorem Sk.val_cas (t:Nat) (c:Bool) (x y:AV) (k1 k2:Sk α):(Sk.cas t c x y k1 k2).val=bif c then k1.val else k2.val:=rfl
@[simp] theorem Sk.val_nsp (t n:Nat) (k1 k2:Sk α):(Sk.nsp t n k1 k2).val=k2.val:=rfl
@[simp] theorem Sk.val_op (κ:Nat) (k:List (Int × Int)→Sk α):(Sk.op κ k).val=(k []).val:=rfl
@[simp] theorem Sk.val_cl (κ:Nat) (m:List (Int × Int)) (k:Sk α):(Sk.cl κ m k).val=k.val:=rfl
@[simp] theorem Sk.val_oq (κ:Nat) (q:List (Int × Int)→Prop) (k:List (Int × Int)→Sk α):(Sk.oq κ q k).val=(k (canon q)).val:=rfl
@[simp] theorem Sk.val_nr (t κ e q:Nat) (f:Nat→List D) (k:Sk α):(Sk.nr t κ e q f k).val=k.val:=rfl
@[simp] theorem Sk.val_fm (κ:Nat) (k:Sk α):(Sk.fm κ k).val=k.val:=rfl
@[simp] theorem Sk.val_fb (κ:Nat) (k:Sk α):(Sk.fb κ k).val=k.val:=rfl
@[simp] theorem Sk.val_up (u:Upd) (k:Sk α):(Sk.up u k).val=k.val:=rfl
@[simp] theorem Sk.val_ot {Y:Type} (κ:Nat) (Q:Y→Prop) (ln:Y→Nat) (en:Y→Nat→Value × D) (d:Y) (k:Y→Sk α):(Sk.ot κ Q ln en d k).val=(k (canonY Q d)).val:=rfl
@[simp] theorem Sk.val_ct {Y:Type} (κ:Nat) (Q:Y→Prop) (ln:Y→Nat) (en:Y→Nat→Value × D) (y:Y) (k:Sk α):(Sk.ct κ Q ln en y k).val=k.val:=rfl
@[simp] theorem Sk.val_orr {Y:Type} (κ:Nat) (Q:Y→Prop) (en:Y→Nat→List D) (d:Y) (k:Y→Sk α):(Sk.orr κ Q en d k).val=(k (canonY Q d)).val:=rfl
@[simp] theorem Sk.val_cr {Y:Type} (κ n:Nat) (Q:Y→Prop) (en:Y→Nat→List D) (y:Y) (k:Sk α):(Sk.cr κ n Q en y k).val=k.val:=rfl
@[simp] theorem Sk.val_cq (κ:Nat) (m:List (Int × Int)) (q:List (Int × Int)→Prop) (k:Sk α):(Sk.cq κ m q k).val=k.val:=rfl
@[simp] theorem Sk.val_clr (id:Nat) (x:Int) (c:NormC) (k:Sk α):(Sk.clr id x c k).val=k.val:=rfl
@[simp] theorem Sk.val_fz (κ:Nat) (k:Sk α):(Sk.fz κ k).val=k.val:=rfl
@[simp] theorem Sk.val_bind (b:Bool) (J:β→Prop) (s:Sk (α ⊕ β)) (u:β→Upd) (k:β→Sk α):(Sk.bind b J s u k).val=pickS s.val fun b=>(k b).val:=rfl
@[simp] theorem Sk.val_me {α γ:Type} (n:Nat) (g:γ) (u:γ→List Nat→Upd) (v:γ→Upd) (b:Nat→Sk (α ⊕ γ)) (k:Sk α):(Sk.me n g u v b k).val=((List.range n).findSome? fun i=>exitOf (b i).val).getD k.val:=rfl
@[simp] theorem Sk.val_pn {α:Type} (id:Nat) (c:Cal Unit) (a:α):(Sk.pn id c a).val=a:=rfl
@[simp] theorem Sk.val_rx {α γ E β δ:Type} (id:Nat) (a:Cal γ) (c:γ→CalX E β) (z:γ→β→Cal δ) (err:E→α) (k:γ→β→δ→Sk α):(Sk.rx id a c z err k).val=okX (c a.v).v (fun b=>(k a.v b (z a.v b).v).val) err:=rfl
@[simp] theorem Sk.val_rf {σ β Y:Type} (it:ItC Y) (I:Nat→σ→Prop) (B:β→Prop) (id:Nat) (s0:σ) (u:σ→List (Nat × Blk)) (v:β→List (Nat × Blk)) (b:σ→Y→Sk (β ⊕ σ)) (k:β ⊕ σ→Sk α):(Sk.rf it I B id s0 u v b k).val=(k (runY (fun s y=>(b s y).val) it.ys s0)).val:=rfl
@[simp] theorem Sk.val_loop (d:α) (I:ι→Prop) (m:ι→Nat) (i0:ι) (u:ι→Upd) (b:ι→Sk (α ⊕ ι)):(Sk.loop d I m i0 u b).val=iter (fun i=>(b i).val) d (m i0+1) i0:=rfl
variable (L : α → Prop)
@[simp] theorem Sk.obs_fin (a:α):(Sk.fin a).obs L=L a:=rfl
@[simp] theorem Sk.obs_br (e:Bool) (x y:Sk α):(Sk.br e x y).obs L=((e=true→x.obs L)∧(e=false→y.obs L)):=rfl
@[simp] theorem Sk.obs_r (id:Nat) (c:Cal β) (k:β→Sk α):(Sk.r id c k).obs L=(c.pre∧∀ x,x=c.v→c.post x→(k x).obs L):=rfl
@[simp] theorem Sk.obs_wi (t:Nat) (m n:Int) (k:Sk α):(Sk.wi t m n k).obs L=(m=n∧k.obs L):=rfl
@[simp] theorem Sk.obs_bnd (t j n:Nat) (k:Sk α):(Sk.bnd t j n k).obs L=(n≤maxLen→k.obs L):=rfl
@[simp] theorem Sk.obs_wn (κ n n':Nat) (k:Sk α):(Sk.wn κ n n' k).obs L=(n=n'∧k.obs L):=rfl
@[simp] theorem Sk.obs_wr (κ n n':Nat) (k:Sk α):(Sk.wr κ n n' k).obs L=(n=n'∧k.obs L):=rfl
@[simp] theorem Sk.obs_brt (k:Sk α):(Sk.brt k).obs L=k.obs L:=rfl
@[simp] theorem Sk.obs_brf (k:Sk α):(Sk.brf k).obs L=k.obs L:=rfl
@[simp] theorem Sk.obs_dead (a:α):(Sk.dead a).obs L=False:=rfl
@[simp] theorem Sk.obs_cas (t:Nat) (c:Bool) (x y:AV) (k1 k2:Sk α):(Sk.cas t c x y k1 k2).obs L=((c=true→k1.obs L)∧(c=false→k2.obs L)):=rfl
@[simp] theorem Sk.obs_nsp (t n:Nat) (k1 k2:Sk α):(Sk.nsp t n k1 k2).obs L=((n=0→k1.obs L∧k1.val=k2.val)∧k2.obs L):=rfl
@[simp] theorem Sk.obs_clr (id:Nat) (x:Int) (c:NormC) (k:Sk α):(Sk.clr id x c k).obs L=((0≤x∧x≤(c.n:Int))∧k.obs L):=rfl
@[simp] theorem Sk.obs_fz (κ:Nat) (k:Sk α):(Sk.fz κ k).obs L=k.obs L:=rfl
@[simp] theorem Sk.obs_bind (b:Bool) (J:β→Prop) (s:Sk (α ⊕ β)) (u:β→Upd) (k:β→Sk α):(Sk.bind b J s u k).obs L=(s.obs (leafB L J)∧∀ b,s.val=.inr b→J b→(k b).obs L):=rfl
@[simp] theorem Sk.obs_loop (d:α) (I:ι→Prop) (m:ι→Nat) (i0:ι) (u:ι→Upd) (b:ι→Sk (α ⊕ ι)):(Sk.loop d I m i0 u b).obs L=(I i0∧∀ i,I i→(b i).obs (leafJ L fun j=>I j∧m j < m i)):=rfl
end
section
variable {α β ι : Type} (L : α → Prop)
@[simp] theorem Sk.pst_fin (a:α):(Sk.fin a).pst L=L a:=rfl
@[simp] theorem Sk.pst_br (e:Bool) (x y:Sk α):(Sk.br e x y).pst L=((e=true→x.pst L)∧(e=false→y.pst L)):=rfl
@[simp] theorem Sk.pst_r (id:Nat) (c:Cal β) (k:β→Sk α):(Sk.r id c k).pst L=(∀ x,x=c.v→c.post x→(k x).pst L):=rfl
@[simp] theorem Sk.pst_wi (t:Nat) (m n:Int) (k:Sk α):(Sk.wi t m n k).pst L=k.pst L:=rfl
@[simp] theorem Sk.pst_bnd (t j n:Nat) (k:Sk α):(Sk.bnd t j n k).pst L=k.pst L:=rfl
@[simp] theorem Sk.pst_wn (κ n n':Nat) (k:Sk α):(Sk.wn κ n n' k).pst L=k.pst L:=rfl
@[simp] theorem Sk.pst_wr (κ n n':Nat) (k:Sk α):(Sk.wr κ n n' k).pst L=k.pst L:=rfl
@[simp] theorem Sk.pst_brt (k:Sk α):(Sk.brt k).pst L=k.pst L:=rfl
@[simp] theorem Sk.pst_brf (k:Sk α):(Sk.brf k).pst L=k.pst L:=rfl
@[simp] theorem Sk.pst_dead (a:α):(Sk.dead a).pst L=L a:=rfl
@[simp] theorem Sk.pst_cas (t:Nat) (c:Bool) (x y:AV) (k1 k2:Sk α):(Sk.cas t c x y k1 k2).pst L=((c=true→k1.pst L)∧(c=false→k2.pst L)):=rfl
@[simp] theorem Sk.pst_nsp (t n:Nat) (k1 k2:Sk α):(Sk.nsp t n k1 k2).pst L=k2.pst L:=rfl
@[simp] theorem Sk.pst_clr (id:Nat) (x:Int) (c:NormC) (k:Sk α):(Sk.clr id x c k).pst L=k.pst L:=rfl
@[simp] theorem Sk.pst_fz (κ:Nat) (k:Sk α):(Sk.fz κ k).pst L=k.pst L:=rfl
@[simp] theorem Sk.pst_bind (b:Bool) (J:β→Prop) (s:Sk (α ⊕ β)) (u:β→Upd) (k:β→Sk α):(Sk.bind b J s u k).pst L=(s.pst (leafB L J)∧∀ b,s.val=.inr b→J b→(k b).pst L):=rfl
@[simp] theorem Sk.pst_loop (d:α) (I:ι→Prop) (m:ι→Nat) (i0:ι) (u:ι→Upd) (b:ι→Sk (α ⊕ ι)):(Sk.loop d I m i0 u b).pst L=(I i0∧∀ i,I i→(b i).pst (leafJ L fun j=>I j∧m j < m i)):=rfl
end
@[simp] theorem leafB_inl {α β:Type} (L:α→Prop) (J:β→Prop) (a:α):leafB L J (.inl a)=L a:=rfl
@[simp] theorem leafB_inr {α β:Type} (L:α→Prop) (J:β→Prop) (b:β):leafB L J (.inr b)=J b:=rfl
@[simp] theorem leafJ_inl {α β:Type} (L:α→Prop) (J:β→Prop) (a:α):leafJ L J (.inl a)=L a:=rfl
@[simp] theorem leafJ_inr {α β:Type} (L:α→Prop) (J:β→Prop) (b:β):leafJ L J (.inr b)=J b:=rfl
@[simp] theorem pickS_inl {α β:Type} (a:α) (f:β→α):pickS (.inl a) f=a:=rfl
@[simp] theorem pickS_inr {α β:Type} (b:β) (f:β→α):pickS (.inr b) f=f b:=rfl
def ZD (P:Program) (f:FuncId) (res:AV) (C:Cx) (_:Frame) (cs:List Frame) (m:Machine):Prop :=
 C.dl=[]→C.dx=[]→∃ e w' fr,Post C res [] e w'∧Comes P m (lone fr cs w') e∧fr.fn=f∧fr.leaving P w' e
def Goal.ofD (P:Program) (T:List (Nat × TI)) (nt:Nat) (f:FuncId) (fn:Func) (res:AV):Goal :=
 ⟨P,T,nt,f,fn,res,[],3,[],#[],ZD P f res,fun _ _ _ _ _ hs hz h1 h2=>let ⟨e,w',fr,q1,q2,q3⟩:=hz h1 h2; ⟨e,w',fr,q1,.of_steps hs q2,q3⟩⟩
theorem Goal.ofD_nrm {P:Program} {T:List (Nat × TI)} {nt:Nat} {f:FuncId} {fn:Func} {res:AV}:(Goal.ofD P T nt f fn res).NrmB [] :=
 ⟨rfl,fun p hp=>(by cases hp),fun C b cs m h _ hdx=>let ⟨e,w',fr,⟨v,S',μ',e1,B,_⟩,q2⟩:=h hdx; ⟨e,w',fr,⟨v,S',μ',e1,B⟩,q2⟩⟩
theorem FnA.introD {P:Program} {T:List (Nat × TI)} {f:FuncId} {fn:Func} {body:Code} {args:List AV} {res:AV} (hf:P.funcs[f]? = some fn) (hb:fn.body=some body) (hc:callable P f=true) (hn:args.length≤fn.ntmps)
  (h:G (.ofD P T fn.ntmps f fn res) [.code body] ⟨argSlots 0 args,[]⟩):FnA P f args [] res []:=by
 refine ⟨hc,fun w S μ vs hS hgl hargs hm hi cs=>?_⟩
 let C:Cx:=⟨P,w,S,Handed [] μ,fn.ntmps,hgl,fun b hb ⟨κ,bk,c,q1,q2⟩=>(by cases q1),hS,[],[],fun d h=>(by cases h),fun d h=>(by cases h),List.nodup_nil⟩
 let b:Frame:={ (default:Frame) with fn:=f,kind:=.normal,roundOf:=none }
 have hl:vs.size=args.length:=by have:=(hargs fun _=>false).1; simpa using this
 have henter:Frame.enter P f vs .normal=b.atR { tmps:=vs++Array.replicate (fn.ntmps - vs.size) undef,defers:=[] } [.code body]:=by
  simp [Frame.enter,Frame.atR,hf,hb,b]
 have hsim:SimB C ⟨argSlots 0 args,[]⟩ { tmps:=vs++Array.replicate (fn.ntmps - vs.size) undef,defers:=[] } w:=by
  refine ⟨S,μ,fun ν=>⟨by simp [C]; omega,rfl,fun t=>?_,hm,hi,fun κ bk q c h1 h2=>.inr ⟨κ,bk,c,h1,h2⟩,fun _ hb=>hb,fun _ hb=>.inl hb,hS,Kept.refl _ _⟩⟩
  simp only [St.toM,St.get,argSlots_look,Nat.zero_le,if_true,Nat.sub_zero]
  by_cases ht:t < args.length
  ·rw [List.getElem?_eq_getElem ht]
   have h2:=(hargs ν).2 t ht
   rw [show args.getD t default=args[t] from by simp [List.getD,ht]] at h2
   have e:(vs++Array.replicate (fn.ntmps - vs.size) undef).getD t undef=vs.toList.getD t undef:=by
    rw [← getD_toList]
    simp only [Array.getD_eq_getD_getElem?]
    rw [Array.getElem?_append_left (by omega)]
   rw [e]
   exact h2
  ·rw [List.getElem?_eq_none (by omega)]
   exact .any _
 obtain ⟨e,w',fr,⟨v,S',μ',e1,B⟩,q2,q3,q4⟩:=h C rfl rfl _ _ (fun u hu=>by cases hu) hsim b cs rfl rfl ⟨fun _ h=>(by cases h),fun _=>rfl⟩ rfl rfl
 exact ⟨e,w',fr,⟨v,S',μ',e1,B.monoT (fun q hq=>hq.elim id (fun h=>by cases h))⟩,by rw [henter]; exact q2,q3,q4⟩
def Cx.wd (C:Cx) (d:Deferred) (hd:∀ q,d≠{ target:=.collected q,args:=#[] }):Cx :=
 { C with dl:=[d],dx:=[d],dxc:=fun d' h q=>(by rw [List.mem_singleton.1 h]; exact hd q),dok:=fun d' h=>.inl h,dnd:=(by simp) }
theorem Cx.wd_TD {C:Cx} {d:Deferred} {hd:∀ q,d≠{ target:=.collected q,args:=#[] }} {q:Nat} (h:(C.wd d hd).TD q):C.TD q:=by
 rcases h with h | h
 ·exact .inl h
 ·exact absurd (List.mem_singleton.1 h).symm (hd q)
theorem Post.wd {C:Cx} {d:Deferred} {hd:∀ q,d≠{ target:=.collected q,args:=#[] }} {res:AV} {lbs:List (Nat × Blk)} {e:Ending} {w:World} (h:Post (C.wd d hd) res lbs e w):Post C res lbs e w :=
 let ⟨v,S',μ',e1,B⟩:=h
 ⟨v,S',μ',e1,B.monoT fun _ hq=>Cx.wd_TD hq⟩
theorem Sim.wd {C:Cx} {A:M} {a:Act} {w:World} {S:Nat→Prop} {μ:Mu} {ν:Nat→Bool} (h:Sim C A a w S μ ν) (d:Deferred) (hd:∀ q,d≠{ target:=.collected q,args:=#[] }) (tm:Array Value) (hsz:tm.size=a.tmps.size) (htm:∀ t,A.sl t=.any∨tm.getD t undef=a.tmps.getD t undef):Sim (C.wd d hd) A ⟨tm,[d]⟩ w S μ ν :=
 ⟨hsz.trans h.tmps,rfl,fun t=>by
  rcases htm t with e | e
  ·rw [e]; exact .any _
  ·show Rel w S μ ν (A.sl t) (tm.getD t undef)
   rw [e]; exact h.slots t,h.mem,h.inj,h.own,h.stable,h.fresh,h.bound,h.kept⟩
def Goal.ofE (P:Program) (T:List (Nat × TI)) (nt:Nat) (f:FuncId) (fn:Func) (res:AV) (pr:List Nat) (tm:Array Value) (C C2:Cx):Goal :=
 ⟨P,T,nt,f,fn,res,[],3,pr,tm,fun C' _ cs m=>C'=C2→∃ e w' fr,Post C res [] e w'∧Comes P m (lone fr cs w') e∧fr.fn=f∧fr.leaving P w' e,
  fun _ _ _ _ _ hs hz h1=>let ⟨e,w',fr,q1,q2,q3⟩:=hz h1; ⟨e,w',fr,q1,.of_steps hs q2,q3⟩⟩
section
variable {P : Program} {T : List (Nat × TI)} {nt : Nat} {f : FuncId} {fn : Func} {res : AV} {pr : List Nat} {gf : FuncId} {ts : Array Value → Array Value}
abbrev dfr (gf:FuncId) (cap:Array Value):Deferred:=⟨.fn (.func gf) cap,#[]⟩
theorem dfr_nc (gf:FuncId) (cap:Array Value) (q:Nat):dfr gf cap≠{ target:=.collected q,args:=#[] }:=fun h=>by cases h
theorem G.deferD {st:St} {id:Nat} {ops:Array Oper} {K:List Item} {t0:Nat}
  (hw:∀ a w,a.tmps.size=nt→(Code.region id ops false).wp P (fun e a' w'=>e=.normal∧w'=w∧a'=⟨a.tmps.setIfInBounds t0 (.func (.func gf) #[] (ts a.tmps)),dfr gf (ts a.tmps) :: a.defers⟩) a w)
  (hts:∀ tm v,ts (Array.setIfInBounds tm t0 v)=ts tm) (h0:look st.sl t0=none)
  (hN:∀ (C:Cx) (tm cap:Array Value),C.P=P→C.nt=nt→cap=ts tm→G (.ofE P T nt f fn res pr tm C (C.wd (dfr gf cap) (dfr_nc _ _))) K st):G (.ofD P T nt f fn res) (.code (.region id ops false) :: K) st:=by
 intro C h1 h2 a w hk hs b cs hb1 hb2 hb3 hdl hdx
 have hr:b.roundOf=none:=hb3.2 (by show (3:Nat)≠1; decide)
 obtain ⟨S,μ,hsim⟩:=hs
 have h00:=hsim fun _=>false
 obtain ⟨e,a',w',⟨rfl,rfl,rfl⟩,hst⟩:=hw a w (h00.tmps.trans h2) b K cs
 have hde:a.defers=[]:=h00.defers.trans hdl
 rw [hde] at hst
 have hz:=hN C (a.tmps.setIfInBounds t0 (.func (.func gf) #[] (ts a.tmps))) (ts a.tmps) h1 h2 (hts _ _).symm (C.wd _ (dfr_nc _ _)) h1 h2 ⟨a.tmps.setIfInBounds t0 (.func (.func gf) #[] (ts a.tmps)),[dfr gf (ts a.tmps)]⟩ w' (fun u hu=>rfl)
  ⟨S,μ,fun ν=>by
   have:=(hsim ν).wd (dfr gf (ts a.tmps)) (dfr_nc _ _) (a.tmps.setIfInBounds t0 (.func (.func gf) #[] (ts a.tmps))) (by simp) (fun t=>by
    by_cases ht:t0=t
    ·subst ht
     exact .inl (by simp only [St.toM,St.get,h0])
    ·exact .inr (getD_set_other _ _ _ _ (Ne.symm ht)))
   exact this⟩ b cs hb1 hb2 ⟨fun _=>(by show (3:Nat)≠1; decide),fun _=>hr⟩ rfl
 obtain ⟨e,w'',fr,q1,q2,q3⟩:=hz
 refine ⟨e,w'',fr,q1,.of_steps ?_ q2,q3⟩
 rw [Frame.atR_of_none hr,Frame.atR_of_none hr]
 exact hst
theorem G.retD {st:St} {C:Cx} {tm cap:Array Value} (hf:P.funcs[f]? = some fn) (hgf:callable P gf=true)
  (hp:∀ a w,(∀ u,u∈pr→a.tmps.getD u undef=tm.getD u undef)→SimB (C.wd (dfr gf cap) (dfr_nc _ _)) st a w→CallsD P gf cap .returning w (fun e u' w'=>(∃ v,e=.returned v)∧u'=.returning∧w'=w) ∧
   ∃ v,(results fn a.tmps).run P w=.ok v w∧Post (C.wd (dfr gf cap) (dfr_nc _ _)) res [] (.returned v) w) (k:List Item) :
  G (.ofE P T nt f fn res pr tm C (C.wd (dfr gf cap) (dfr_nc _ _))) (.code .ret :: k) st:=by
 intro C' h1 h2 a w hk hs b cs hb1 hb2 hb3 hC
 subst hC
 obtain ⟨hc,v,hv,hP⟩:=hp a w hk hs
 obtain ⟨S,μ,hsim⟩:=hs
 have hde:a.defers=[dfr gf cap]:=(hsim fun _=>false).defers
 have hr:b.roundOf=none:=hb3.2 (by show (3:Nat)≠1; decide)
 obtain ⟨e,w',fr,hR,hst,hfn,hl⟩:=leaves_steps (P:=P) (fn:=fn) (tmps:=a.tmps) (R:=fun e w'=>e=.returned v∧w'=w) a.defers .returning w { b.atR a (.code .ret :: k) with mode:=.returning } cs rfl rfl rfl (by show P.funcs[b.fn]? = _; rw [hb1]; exact hf) hb2 (by
  rw [hde]
  refine leaves_cons (f:=gf) (args:=cap) (by simp) ?_ (hc.mono ?_)
  ·simpa [invoke] using callable_run (w:=w) hgf cap
  ·rintro e u' w' ⟨⟨v',rfl⟩,rfl,rfl⟩
   exact ⟨v,hv,rfl,rfl⟩)
 obtain ⟨rfl,rfl⟩:=hR
 exact ⟨.returned v,w',fr,hP.wd,Comes.of_steps (.one (stepR_ret hr)) hst,hfn.trans hb1,hl⟩
theorem G.panD {st:St} {C:Cx} {tm cap:Array Value} {pv:Value} (hf:P.funcs[f]? = some fn) (hgf:callable P gf=true)
  (hp:∀ a w,(∀ u,u∈pr→a.tmps.getD u undef=tm.getD u undef)→SimB (C.wd (dfr gf cap) (dfr_nc _ _)) st a w→CallsD P gf cap (.panicking (panL pv)) w (fun e u' w'=>(∃ v,e=.returned v)∧u'=.panicking [{ v:=pv,recovered:=true }] ∧
   ∃ v,(results fn a.tmps).run P w'=.ok v w'∧Post (C.wd (dfr gf cap) (dfr_nc _ _)) res [] (.returned v) w')) :
  (Goal.ofE P T nt f fn res pr tm C (C.wd (dfr gf cap) (dfr_nc _ _))).PanK st pv:=by
 intro C' a w h1 h2 hk hs b cs todo hb1 hb2 hb3 hC
 subst hC
 have hc:=hp a w hk hs
 obtain ⟨S,μ,hsim⟩:=hs
 have hde:a.defers=[dfr gf cap]:=(hsim fun _=>false).defers
 obtain ⟨e,w',fr,hR,hst,hfn,hl⟩:=leaves_steps (P:=P) (fn:=fn) (tmps:=a.tmps) (R:=fun e w'=>Post C res [] e w') a.defers (.panicking (panL pv)) w { b.at a todo with mode:=.panicking (panL pv) } cs rfl rfl rfl (by show P.funcs[b.fn]? = _; rw [hb1]; exact hf) hb2 (by
  rw [hde]
  refine leaves_cons (f:=gf) (args:=cap) (by simp) ?_ (hc.mono ?_)
  ·simpa [invoke] using callable_run (w:=w) hgf cap
  ·rintro e u' w' ⟨⟨v',rfl⟩,rfl,v,hv,hP⟩
   exact ⟨v,hv,hP.wd⟩)
 exact ⟨e,w',fr,hR,hst,hfn.trans hb1,hl⟩
end
theorem retC_post {P:Program} {T:List (Nat × TI)} {f:FuncId} {fn:Func} {res:AV} {C:Cx} {st:St} {a:Act} {w:World} (hP:C.P=P) (hT:TOk P T) (h:(retC T fn.results.toList st res []).ok) (hs:SimB C st a w):∃ v,(results fn a.tmps).run P w=.ok v w∧Post C res [] (.returned v) w:=by
 subst hP
 unfold retC at h
 split at h
 ·rename_i l ro ob hr
  replace h:(match borAL st.lb l with | some (l',_,ob')=>CT.two (noProp ob) (.two (noProp ob') (avEq [] (packR l') res)) | none=>.bad).ok:=h
  split at h
  ·rename_i l' ro' ob' hb
   obtain ⟨h1,h2,h3⟩:=h
   obtain ⟨p,q1,q2⟩:=avEq_le _ _ h3
   have hle:AvLe (packR l') res:=fun w S μ ν v hv=>by
    exact (avLe_rel (ρ:=[]) (packR l') res p q1 q2 v hv).mono (fun _ h=>h) (fun _ _=>rfl) (fun k y hk=>by simp [muOf,look] at hk)
   exact post_pure (g:=.ofD C.P T fn.ntmps f fn res) hs hT rfl hr (noProp_den h1) hb (noProp_den h2) hle
  ·exact h.elim
 ·exact h.elim
def isI64:Obj→Bool
 | .cells cs _ _=>(match (cs[0]?:Option Value) with | some (.int .i64 _)=>true | _=>false)
 | _=>false
def isCells (n:Nat):Obj→Bool
 | .cells cs _ _=>Nat.beq cs.size n
 | _=>false
theorem isCells_at {w:World} {g n:Nat} {o:Obj} (h:w.heap[g]? = some o) (ho:isCells n o=true):∃ cs t fz,w.heap[g]? = some (.cells cs t fz)∧cs.size=n∧∀ j,w.cell? ⟨g,j,none⟩=cs[j]?:=by
 unfold isCells at ho
 split at ho
 ·rename_i cs t fz
  exact ⟨cs,t,fz,h,Nat.eq_of_beq_eq_true ho,fun j=>by simp [World.cell?,h]⟩
 ·cases ho
theorem FnA.pure {P:Program} {f:FuncId} {args:List AV} {res:AV} (hc:callable P f=true)
  (h:∀ (w:World) (S:Nat→Prop) (μ:Mu) (vs:Array Value),(∀ b,S b→b < w.heap.size)→GlobOK w S→(∀ ν,RelL w S μ ν args vs.toList)→∃ v,Calls P f vs w (fun e w'=>e=.returned v∧Go.RowKit.Below w.heap.size w w')∧∀ (w':World) (S':Nat→Prop) (μ':Mu) (ν:Nat→Bool),Rel w' S' μ' ν res v):FnA P f args [] res []:=by
 refine ⟨hc,fun w S μ vs hS hg hr _ _=>?_⟩
 obtain ⟨v,h1,h2⟩:=h w S μ vs hS hg hr
 refine h1.mono ?_
 rintro e w' ⟨rfl,hb⟩
 exact ⟨v,S,fun _=>none,rfl,⟨fun ν=>h2 _ _ _ _,fun κ b hb=>by simp [look] at hb,fun κ κ' b b' g c c' hb=>by simp [look] at hb,fun κ b g c hb=>by simp [look] at hb,fun _ h=>h,fun _ h=>.inl h,fun b hb'=>Nat.lt_of_lt_of_le (hS b hb') hb.size,⟨hb.os,hb.tape,hb.output,hb.size,fun b h _=>hb.block b h⟩⟩⟩
abbrev aggD {α:Type} (cells:α→List D) (x:α):D:=.agg (cells x)
abbrev rowE {α:Type} [Inhabited α] (cells:α→List D) (l:List α):Nat→List D:=fun i=>cells (l.getD i default)
abbrev mpD {α:Type} [Inhabited α] (enc:α→D) (m:List (Int × α)):D:=.mp m.length (fun i=>(mpf enc m i).1) (fun i=>(mpf enc m i).2)
structure KE (κ:Type) where
 C:κ→List D
 c:Nat
 ok:∀ k,allI (C k)=true∧(C k).length=c
section
variable {κ α : Type} [Inhabited κ] [Inhabited α] (K : KE κ) (enc : α → D)
abbrev kpf (m:List (κ × α)):Nat→Value × D:=fun i=>(keyV (K.C (m.getD i default).1),enc (m.getD i default).2)
abbrev kpM (m:List (κ × α)):Blk:=.mp m.length (kpf K enc m)
abbrev kmM (m:List (κ × α)):AV:=.pmp m.length (kpf K enc m)
omit [Inhabited κ] [Inhabited α] in
abbrev keqb (a b:κ):Bool:=eqCs (K.C a) (K.C b)
abbrev kmD (m:List (κ × α)):D:=.mp m.length (fun i=>(kpf K enc m i).1) (fun i=>(kpf K enc m i).2)
abbrev klM (m:List (κ × α)):Blk:=.ml m.length (kpf K enc m)
end
def Sk.isLoop:{α:Type}→Sk α→Bool
 | _,.loop ..=>true
 | _,_=>false
def Sk.pstq:{α:Type}→Sk α→(α→Prop)→Prop
 | _,.fin a,L=>L a
 | _,.br e x y,L=>(e=true→x.pstq L)∧(e=false→y.pstq L)
 | _,.r _ c k,L=>∀ x,x=c.v→c.post x→(k x).pstq L
 | _,.wi _ _ _ k,L=>k.pstq L
 | _,.wn _ _ _ k,L=>k.pstq L
 | _,.wr _ _ _ k,L=>k.pstq L
 | _,.brt k,L=>k.pstq L
 | _,.brf k,L=>k.pstq L
 | _,.dead a,L=>L a
 | _,.bnd _ _ _ k,L=>k.pstq L
 | _,.cas _ c _ _ x y,L=>(c=true→x.pstq L)∧(c=false→y.pstq L)
 | _,.nsp _ _ _ k,L=>k.pstq L
 | _,.fz _ k,L=>k.pstq L
 | _,.op _ k,L=>(k []).pstq L
 | _,.cl _ _ k,L=>k.pstq L
 | _,.oq _ q k,L=>(∃ m,q m)∧∀ m,q m→(k m).pstq L
 | _,.cq _ _ _ k,L=>k.pstq L
 | _,.ot _ Q _ _ _ k,L=>(∃ m,Q m)∧∀ m,Q m→(k m).pstq L
 | _,.ct _ _ _ _ _ k,L=>k.pstq L
 | _,.orr _ Q _ _ k,L=>(∃ m,Q m)∧∀ m,Q m→(k m).pstq L
 | _,.cr _ _ _ _ _ k,L=>k.pstq L
 | _,.nr _ _ _ _ _ k,L=>k.pstq L
 | _,.fm _ k,L=>k.pstq L
 | _,.fb _ k,L=>k.pstq L
 | _,.up _ k,L=>k.pstq L
 | _,.clr _ _ _ k,L=>k.pstq L
 | _,.mr n V init _ _ b k,L=>V [] init∧(∀ s g i,V s g→i < n→i ∉ s→(b g i).pstq (V (i :: s)))∧∀ g,g=(List.range n).foldr (fun i g=>(b g i).val) init→V (List.range n) g→(k g).pstq L
 | _,.bind _ J s _ k,L=>s.pstq (leafB L J)∧∀ b,(s.isLoop=false→s.val=.inr b)→J b→(k b).pstq L
 | _,.loop _ I m i0 _ b,L=>I i0∧∀ i,I i→(b i).pstq (leafJ L fun j=>I j∧m j < m i)
 | _,.me n g _ _ b k,L=>(∀ i,i < n→(b i).pstq (leafE L g))∧((∀ i,i < n→exitOf (b i).val=none)→k.pstq L)
 | _,.pn _ _ a,L=>L a
 | _,.rx _ a c z err k,L=>∀ x,x=a.v→a.post x→∀ y,y=(c x).v→(c x).post y→leafX y (fun b=>∀ d,d=(z x b).v→(z x b).post d→(k x b d).pstq L) fun e=>L (err e)
 | _,.rf it I B _ s0 _ _ b k,L=>I 0 s0∧(∀ i s y,I i s→it.ys[i]? = some y→(b s y).pstq (leafJ B (I (i+1))))∧∀ r,leafJ B (I it.ys.length) r→(k r).pstq L
def Sk.obq:{α:Type}→Sk α→(α→Prop)→Prop
 | _,.fin a,L=>L a
 | _,.br e x y,L=>(e=true→x.obq L)∧(e=false→y.obq L)
 | _,.r _ c k,L=>c.pre∧∀ x,x=c.v→c.post x→(k x).obq L
 | _,.wi _ m n k,L=>m=n∧k.obq L
 | _,.wn _ n n' k,L=>n=n'∧k.obq L
 | _,.wr _ n n' k,L=>n=n'∧k.obq L
 | _,.brt k,L=>k.obq L
 | _,.brf k,L=>k.obq L
 | _,.dead _,_=>False
 | _,.bnd _ _ n k,L=>n≤maxLen→k.obq L
 | _,.cas _ c _ _ x y,L=>(c=true→x.obq L)∧(c=false→y.obq L)
 | _,.nsp _ n k1 k2,L=>(n=0→k1.obq L∧k1.val=k2.val)∧k2.obq L
 | _,.fz _ k,L=>k.obq L
 | _,.op _ k,L=>∀ m,(k m).val=(k []).val∧(k m).obq L
 | _,.cl _ _ k,L=>k.obq L
 | _,.oq _ q k,L=>∀ m,q m→(k m).val=(k (canon q)).val∧(k m).obq L
 | _,.cq _ m q k,L=>q m∧k.obq L
 | _,.ot _ Q _ _ d k,L=>∀ m,Q m→(k m).val=(k (canonY Q d)).val∧(k m).obq L
 | _,.ct _ Q _ _ y k,L=>Q y∧k.obq L
 | _,.orr _ Q _ d k,L=>∀ m,Q m→(k m).val=(k (canonY Q d)).val∧(k m).obq L
 | _,.cr _ _ Q _ y k,L=>Q y∧k.obq L
 | _,.nr _ _ _ _ _ k,L=>k.obq L
 | _,.fm _ k,L=>k.obq L
 | _,.fb _ k,L=>k.obq L
 | _,.up _ k,L=>k.obq L
 | _,.clr _ x c k,L=>(0≤x∧x≤(c.n:Int))∧k.obq L
 | _,.mr n V init _ _ b k,L=>V [] init∧(∀ s g i,V s g→i < n→i ∉ s→(b g i).pst (V (i :: s))∧(b g i).obq fun _=>True)∧(∀ s g i j,V s g→i < n→j < n→i≠j→i ∉ s→j ∉ s→(b (b g j).val i).val=(b (b g i).val j).val)∧∀ g,g=(List.range n).foldr (fun i g=>(b g i).val) init→V (List.range n) g→(k g).obq L
 | _,.bind _ J s _ k,L=>s.obq (leafB L J)∧∀ b,(s.isLoop=false→s.val=.inr b)→J b→(k b).obq L
 | _,.loop _ I m i0 _ b,L=>I i0∧∀ i,I i→(b i).obq (leafJ L fun j=>I j∧m j < m i)
 | _,.me n g _ _ b k,L=>(∀ i,i < n→(b i).obq (leafE L g))∧(∀ i j,i < n→j < n→i≠j→exitOf (b i).val=none∨exitOf (b j).val=none)∧((∀ i,i < n→exitOf (b i).val=none)→k.obq L)
 | _,.pn _ c a,L=>c.pre∧L a
 | _,.rx _ a c z err k,L=>a.pre∧∀ x,x=a.v→a.post x→(c x).pre∧∀ y,y=(c x).v→(c x).post y→leafX y (fun b=>(z x b).pre∧∀ d,d=(z x b).v→(z x b).post d→(k x b d).obq L) fun e=>L (err e)
 | _,.rf it I B _ s0 _ _ b k,L=>it.pre∧I 0 s0∧(∀ i s y,I i s→it.ys[i]? = some y→(b s y).pstq (leafJ B (I (i+1)))∧(b s y).obq (leafJ B (I (i+1))))∧∀ r,leafJ B (I it.ys.length) r→(k r).obq L
theorem Sk.pst_of:{α:Type}→(s:Sk α)→{L:α→Prop}→s.pstq L→s.pst L
 | _,.fin _,_,h=>h
 | _,.br _ x y,_,h=>⟨fun e=>x.pst_of (h.1 e),fun e=>y.pst_of (h.2 e)⟩
 | _,.r _ _ k,_,h=>fun x e p=>(k x).pst_of (h x e p)
 | _,.wi _ _ _ k,L,h=>k.pst_of (L:=L) h
 | _,.wn _ _ _ k,L,h=>k.pst_of (L:=L) h
 | _,.wr _ _ _ k,L,h=>k.pst_of (L:=L) h
 | _,.brt k,L,h=>k.pst_of (L:=L) h
 | _,.brf k,L,h=>k.pst_of (L:=L) h
 | _,.dead _,_,h=>h
 | _,.bnd _ _ _ k,L,h=>k.pst_of (L:=L) h
 | _,.cas _ _ _ _ x y,_,h=>⟨fun e=>x.pst_of (h.1 e),fun e=>y.pst_of (h.2 e)⟩
 | _,.nsp _ _ _ k,L,h=>k.pst_of (L:=L) h
 | _,.fz _ k,L,h=>k.pst_of (L:=L) h
 | _,.op _ k,L,h=>(k []).pst_of (L:=L) h
 | _,.cl _ _ k,L,h=>k.pst_of (L:=L) h
 | _,.oq _ _ k,L,h=>⟨h.1,fun m hm=>(k m).pst_of (L:=L) (h.2 m hm)⟩
 | _,.cq _ _ _ k,L,h=>k.pst_of (L:=L) h
 | _,.ot _ _ _ _ _ k,L,h=>⟨h.1,fun m hm=>(k m).pst_of (L:=L) (h.2 m hm)⟩
 | _,.ct _ _ _ _ _ k,L,h=>k.pst_of (L:=L) h
 | _,.orr _ _ _ _ k,L,h=>⟨h.1,fun m hm=>(k m).pst_of (L:=L) (h.2 m hm)⟩
 | _,.cr _ _ _ _ _ k,L,h=>k.pst_of (L:=L) h
 | _,.nr _ _ _ _ _ k,L,h=>k.pst_of (L:=L) h
 | _,.fm _ k,L,h=>k.pst_of (L:=L) h
 | _,.fb _ k,L,h=>k.pst_of (L:=L) h
 | _,.up _ k,L,h=>k.pst_of (L:=L) h
 | _,.clr _ _ _ k,L,h=>k.pst_of (L:=L) h
 | _,.mr _ _ _ _ _ b k,_,h=>⟨h.1,fun s g i hg hi hn=>(b g i).pst_of (h.2.1 s g i hg hi hn),fun g e hg=>(k g).pst_of (h.2.2 g e hg)⟩
 | _,.bind _ _ s _ k,_,h=>⟨s.pst_of h.1,fun b e hb=>(k b).pst_of (h.2 b (fun _=>e) hb)⟩
 | _,.loop _ _ _ _ _ b,_,h=>⟨h.1,fun i hi=>(b i).pst_of (h.2 i hi)⟩
 | _,.me _ _ _ _ b k,_,h=>⟨fun i hi=>(b i).pst_of (h.1 i hi),fun e=>k.pst_of (h.2 e)⟩
 | _,.pn _ _ _,_,h=>h
 | _,.rx _ a c z err k,_,h=>fun x e p y e2 p2=>by
  have h1:=h x e p y e2 p2
  cases y with
  | ok b=>exact fun d e3 p3=>(k x b d).pst_of (h1 d e3 p3)
  | error _=>exact h1
 | _,.rf _ _ _ _ _ _ _ b k,_,h=>⟨h.1,fun i s y hs hy=>(b s y).pst_of (h.2.1 i s y hs hy),fun r _ hr=>(k r).pst_of (h.2.2 r hr)⟩
theorem Sk.obs_of:{α:Type}→(s:Sk α)→{L:α→Prop}→s.obq L→s.obs L
 | _,.fin _,_,h=>h
 | _,.br _ x y,_,h=>⟨fun e=>x.obs_of (h.1 e),fun e=>y.obs_of (h.2 e)⟩
 | _,.r _ _ k,_,h=>⟨h.1,fun x e p=>(k x).obs_of (h.2 x e p)⟩
 | _,.wi _ _ _ k,L,h=>⟨h.1,k.obs_of (L:=L) h.2⟩
 | _,.wn _ _ _ k,L,h=>⟨h.1,k.obs_of (L:=L) h.2⟩
 | _,.wr _ _ _ k,L,h=>⟨h.1,k.obs_of (L:=L) h.2⟩
 | _,.brt k,L,h=>k.obs_of (L:=L) h
 | _,.brf k,L,h=>k.obs_of (L:=L) h
 | _,.dead _,_,h=>h.elim
 | _,.bnd _ _ _ k,L,h=>fun hn=>k.obs_of (L:=L) (h hn)
 | _,.cas _ _ _ _ x y,_,h=>⟨fun e=>x.obs_of (h.1 e),fun e=>y.obs_of (h.2 e)⟩
 | _,.nsp _ _ k1 k2,L,h=>⟨fun e=>⟨k1.obs_of (L:=L) (h.1 e).1,(h.1 e).2⟩,k2.obs_of (L:=L) h.2⟩
 | _,.fz _ k,L,h=>k.obs_of (L:=L) h
 | _,.op _ k,L,h=>fun m=>⟨(h m).1,(k m).obs_of (h m).2⟩
 | _,.cl _ _ k,L,h=>k.obs_of (L:=L) h
 | _,.oq _ _ k,L,h=>fun m hm=>⟨(h m hm).1,(k m).obs_of (h m hm).2⟩
 | _,.cq _ _ _ k,L,h=>⟨h.1,k.obs_of (L:=L) h.2⟩
 | _,.ot _ _ _ _ _ k,L,h=>fun m hm=>⟨(h m hm).1,(k m).obs_of (h m hm).2⟩
 | _,.ct _ _ _ _ _ k,L,h=>⟨h.1,k.obs_of (L:=L) h.2⟩
 | _,.orr _ _ _ _ k,L,h=>fun m hm=>⟨(h m hm).1,(k m).obs_of (h m hm).2⟩
 | _,.cr _ _ _ _ _ k,L,h=>⟨h.1,k.obs_of (L:=L) h.2⟩
 | _,.nr _ _ _ _ _ k,L,h=>k.obs_of (L:=L) h
 | _,.fm _ k,L,h=>k.obs_of (L:=L) h
 | _,.fb _ k,L,h=>k.obs_of (L:=L) h
 | _,.up _ k,L,h=>k.obs_of (L:=L) h
 | _,.clr _ _ _ k,L,h=>⟨h.1,k.obs_of (L:=L) h.2⟩
 | _,.mr _ _ _ _ _ b k,_,h=>⟨h.1,fun s g i hg hi hn=>⟨(h.2.1 s g i hg hi hn).1,(b g i).obs_of (h.2.1 s g i hg hi hn).2⟩,h.2.2.1,fun g e hg=>(k g).obs_of (h.2.2.2 g e hg)⟩
 | _,.bind _ _ s _ k,_,h=>⟨s.obs_of h.1,fun b e hb=>(k b).obs_of (h.2 b (fun _=>e) hb)⟩
 | _,.loop _ _ _ _ _ b,_,h=>⟨h.1,fun i hi=>(b i).obs_of (h.2 i hi)⟩
 | _,.me _ _ _ _ b k,_,h=>⟨fun i hi=>(b i).obs_of (h.1 i hi),h.2.1,fun e=>k.obs_of (h.2.2 e)⟩
 | _,.pn _ _ _,_,h=>h
 | _,.rx _ a c z err k,_,h=>⟨h.1,fun x e p=>⟨(h.2 x e p).1,fun y e2 p2=>by
  have h1:=(h.2 x e p).2 y e2 p2
  cases y with
  | ok b=>exact ⟨h1.1,fun d e3 p3=>(k x b d).obs_of (h1.2 d e3 p3)⟩
  | error _=>exact h1⟩⟩
 | _,.rf _ _ _ _ _ _ _ b k,_,h=>⟨h.1,h.2.1,fun i s y hs hy=>⟨(b s y).pst_of (h.2.2.1 i s y hs hy).1,(b s y).obs_of (h.2.2.1 i s y hs hy).2⟩,fun r _ hr=>(k r).obs_of (h.2.2.2 r hr)⟩
theorem lget_set_eq {α:Type} (l:List α) {i:Nat} (h:i < l.length) (x d:α):(l.set i x).getD i d=x:=by simp [List.getD,h]
theorem lget_set_ne {α:Type} (l:List α) {i j:Nat} (h:j≠i) (x d:α):(l.set i x).getD j d=l.getD j d:=by simp [List.getD,List.getElem?_set_ne (fun e=>h e.symm)]
def walk {α σ β:Type} (step:α→σ→β ⊕ σ) (fin:σ→β):List α→σ→β
 | [],s=>fin s
 | x :: r,s=>match step x s with
  | .inl b=>b
  | .inr s'=>walk step fin r s'
theorem lget_mem {α:Type} {l:List α} {i:Nat} (h:i < l.length) (d:α):l.getD i d∈l:=by
 rw [show l.getD i d=l[i] from by simp [List.getD,h]]
 exact List.getElem_mem h
theorem subL_length {α:Type} [Inhabited α] (L:List α) (lo n:Nat):(subL L lo n).length=n:=by simp [subL]
theorem LN:(∀ (p:Prop) [Decidable p],(decide p=true)=p)∧(∀ (p:Prop) [Decidable p],decide p=false↔¬ p) ∧
  (∀ (α:Type) (a b:List α),(a++b).length=a.length+b.length)∧(∀ (α:Type) (x:α) (a:List α),(x :: a).length=a.length+1)∧(∀ α:Type,([]:List α).length=0) ∧
  (∀ (α:Type) (a:List α) (i:Nat) (x:α),(a.set i x).length=a.length)∧(∀ (α:Type) (n:Nat) (x:α),(List.replicate n x).length=n) ∧
  (∀ b:Bool,(¬ b=true)=(b=false))∧(∀ b:Bool,(¬ b=false)=(b=true))∧(∀ a b:Int,¬ a < b↔b≤a)∧(∀ a b:Int,¬ a≤b↔b < a) ∧
  (∀ a b:Bool,((a&&b)=true)=(a=true∧b=true))∧(∀ a b:Bool,((a||b)=true)=(a=true∨b=true))∧(∀ a b:Bool,(a&&b)=false↔a=false∨b=false)∧(∀ a b:Bool,(a||b)=false↔a=false∧b=false) ∧
  (∀ a b:Bool,(!a)=b↔a = !b)∧((!true)=false)∧((!false)=true) ∧
  (∀ (α:Type) [BEq α] [LawfulBEq α] (a b:α),(a == b)=true↔a=b)∧(∀ (α:Type) [BEq α] [LawfulBEq α] (a b:α),(a != b)=true↔a≠b) ∧
  (∀ (α:Type) [BEq α] [LawfulBEq α] (a b:α),(a == b)=false↔a≠b)∧(∀ (α:Type) [BEq α] [LawfulBEq α] (a b:α),(a != b)=false↔a=b) ∧
  (∀ (α:Type) (a b:α),(a≠b) = ¬ a=b)∧(∀ (α:Type) [Inhabited α] (L:List α) (lo n:Nat),(subL L lo n).length=n) :=
 ⟨fun _ _=>decide_eq_true_eq,fun _ _=>decide_eq_false_iff_not,fun _ _ _=>List.length_append,fun _ _ _=>rfl,fun _=>rfl,fun _ _ _ _=>List.length_set,fun _ _ _=>List.length_replicate,
  Bool.not_eq_true,Bool.not_eq_false,fun _ _=>Int.not_lt,fun _ _=>Int.not_le,Bool.and_eq_true,Bool.or_eq_true,fun _ _=>Bool.and_eq_false_iff,fun _ _=>Bool.or_eq_false_iff,
  fun _ _=>Bool.not_eq_eq_eq_not,rfl,rfl,fun _ _ _ _ _=>beq_iff_eq,fun _ _ _ _ _=>bne_iff_ne,fun _ _ _ _ _=>beq_eq_false_iff_ne,fun _ _ _ _ _=>bne_eq_false_iff_eq,fun _ _ _=>rfl,fun _ _=>subL_length⟩
theorem ON:(∀ (x:Unit),Cal.z.post x=True) ∧
 (∀ (p:Prop) (x:Unit),(Cal.p p).post x=True) ∧
 (∀ {p:Prop} (h:p) (x:Unit),(Cal.t h).post x=True) ∧
 (∀ (p:Prop) {q:Prop} (h:q) (x:Unit),(Cal.pt p h).post x=True) ∧
 (∀ (l:List Orc) (x:Unit),(Cal.o l).post x=True) ∧
 (∀ {α β:Type} (a:Cal α) (b:Cal β) (x:α × β),(a.and b).post x=(a.post x.1∧b.post x.2)) ∧
 (∀ {β:Type} (a:Cal Unit) (b:Cal β) (x:β),(a.andl b).post x=b.post x) ∧
 (∀ {β:Type} (a:Cal β) (b:Cal Unit) (x:β),(a.andr b).post x=a.post x) ∧
 (∀ {β:Type} (e w:Bool) (a:Cal β) (x:β),(a.wh e w).post x=a.post x) ∧
 (∀ {α β:Type} (a:Cal α) (b:α→Cal β) (x:α × β),(a.dep b).post x=(a.post x.1∧(b x.1).post x.2)) ∧
 (∀ {α:Type} (a:Cal α) (b:α→Cal Unit) (x:α),(a.depr b).post x=a.post x) ∧
 (∀ {β:Type} (c:Ctr β) (x:β),c.c.post x=c.post x) ∧
 (∀ {β:Type} (c:Ctr β) (i:Nat) (h:∃ g,c.args[i]? = some (.d (.sl 0 g))) (x:β),(c.nil i h).post x=c.post x) ∧
 (∀ {β:Type} (c:Ctr β) (i j:Nat) (cs:List D) (h:c.args[i]? = some (.d (.agg cs))) (h2:∃ g,cs[j]? = some (.sl 0 g)) (x:β),(c.nilc i j cs h h2).post x=c.post x) ∧
 (Cal.z.pre=True) ∧
 (∀ (p:Prop),(Cal.p p).pre=p) ∧
 (∀ {p:Prop} (h:p),(Cal.t h).pre=True) ∧
 (∀ (p:Prop) {q:Prop} (h:q),(Cal.pt p h).pre=p) ∧
 (∀ (l:List Orc),(Cal.o l).pre=True) ∧
 (∀ {α β:Type} (a:Cal α) (b:Cal β),(a.and b).pre=(a.pre∧b.pre)) ∧
 (∀ {β:Type} (a:Cal Unit) (b:Cal β),(a.andl b).pre=(a.pre∧b.pre)) ∧
 (∀ {β:Type} (a:Cal β) (b:Cal Unit),(a.andr b).pre=(a.pre∧b.pre)) ∧
 (∀ {β:Type} (e w:Bool) (a:Cal β),(a.wh e w).pre=(e=w→a.pre)) ∧
 (∀ {α β:Type} (a:Cal α) (b:α→Cal β),(a.dep b).pre=(a.pre∧∀ x,x=a.v→a.post x→(b x).pre)) ∧
 (∀ {α:Type} (a:Cal α) (b:α→Cal Unit),(a.depr b).pre=(a.pre∧∀ x,x=a.v→a.post x→(b x).pre)) ∧
 (∀ {α β:Type} (a:Cal α) (b:α→Cal β),(a.dep b).v=(a.v,(b a.v).v)) ∧
 (∀ {α:Type} (a:Cal α) (b:α→Cal Unit),(a.depr b).v=a.v) ∧
 (∀ {β:Type} (c:Ctr β),c.c.pre=c.pre) ∧
 (∀ {β:Type} (c:Ctr β),c.c.v=c.v) ∧
 (∀ {β:Type} (c:Ctr β) (i:Nat) (h:∃ g,c.args[i]? = some (.d (.sl 0 g))),(c.nil i h).pre=c.pre) ∧
 (∀ {β:Type} (c:Ctr β) (i:Nat) (h:∃ g,c.args[i]? = some (.d (.sl 0 g))),(c.nil i h).v=c.v) ∧
 (∀ {β:Type} (c:Ctr β) (i j:Nat) (cs:List D) (h:c.args[i]? = some (.d (.agg cs))) (h2:∃ g,cs[j]? = some (.sl 0 g)),(c.nilc i j cs h h2).pre=c.pre) ∧
 (∀ {β:Type} (c:Ctr β) (i j:Nat) (cs:List D) (h:c.args[i]? = some (.d (.agg cs))) (h2:∃ g,cs[j]? = some (.sl 0 g)),(c.nilc i j cs h h2).v=c.v) ∧
 (∀ {α β:Type} (a:Cal α) (b:Cal β),(a.and b).v=(a.v,b.v)) ∧
 (∀ {β:Type} (a:Cal Unit) (b:Cal β),(a.andl b).v=b.v) ∧
 (∀ {β:Type} (a:Cal β) (b:Cal Unit),(a.andr b).v=a.v) ∧
 (∀ {β:Type} (e w:Bool) (a:Cal β),(a.wh e w).v=a.v) ∧
 (∀ {β:Type} (c:CtrO β),c.c.pre=c.pre) ∧
 (∀ {β:Type} (c:CtrO β),c.c.v=c.v) ∧
 (∀ {β:Type} (c:CtrO β) (i:Nat) (h:∃ g,c.args[i]? = some (.d (.sl 0 g))),(c.nil i h).pre=c.pre) ∧
 (∀ {β:Type} (c:CtrO β) (i:Nat) (h:∃ g,c.args[i]? = some (.d (.sl 0 g))),(c.nil i h).v=c.v) ∧
 (∀ {β:Type} (c:CtrO β) (x:β),c.c.post x=c.post x) ∧
 (∀ {β:Type} (c:CtrO β) (i:Nat) (h:∃ g,c.args[i]? = some (.d (.sl 0 g))) (x:β),(c.nil i h).post x=c.post x) ∧
 (∀ {α β:Type} (L:α→Prop) (J:β→Prop) (a:α),leafB L J (.inl a)=L a) ∧
 (∀ {α β:Type} (L:α→Prop) (J:β→Prop) (b:β),leafB L J (.inr b)=J b) ∧
 (∀ {α β:Type} (L:α→Prop) (J:β→Prop) (a:α),leafJ L J (.inl a)=L a) ∧
 (∀ {α β:Type} (L:α→Prop) (J:β→Prop) (b:β),leafJ L J (.inr b)=J b) ∧
 (∀ (i:Int) (n:Nat),ixP i n=(0≤i∧i < (n:Int))) ∧
 (∀ n m bytes:Nat,szP n m bytes=(n+m≤maxLen∧(n+m) * bytes≤140737488355328)) ∧
 (∀ (n:Int) (bytes:Nat),mkP n bytes=(0≤n∧n.toNat≤maxLen∧n.toNat * bytes≤140737488355328)) ∧
 (∀ α:Prop,(α→True)=True) ∧
 (∀ α:Type,(α→True)=True) ∧
 (∀ p:Prop,(True∧p)=p) ∧
 (∀ p:Prop,(p∧True)=p) ∧
 (∀ p:Prop,(p∧p)=p) ∧
 (∀ p:Prop,(True→p)=p) ∧
 (∀ p:Prop,(False→p)=True):=by
 refine ⟨?_,?_,?_,?_,?_,?_,?_,?_,?_,?_,?_,?_,?_,?_,?_,?_,?_,?_,?_,?_,?_,?_,?_,?_,?_,?_,?_,?_,?_,?_,?_,?_,?_,?_,?_,?_,?_,?_,?_,?_,?_,?_,?_,?_,?_,?_,?_,?_,?_,?_,?_,?_,?_,?_,?_,?_,?_⟩
 all_goals first | rfl | (intros; rfl) | (intros; simp)
def kk {P:Program} {T:List (Nat × TI)} (hT:TOk P T) (hm:P.follows .mixedOrders=true) {f:FuncId} {fn:Func} (hf:P.funcs[f]? = some fn) (args:List AV) {α:Type} (enc:α→AV) (fl:Bool) (s:Sk α) (v:α) {pre:Prop} (ok:pre→s.obs fun _=>True)
  (post:α→Prop:=fun _=>True) (hp:post v:=by trivial) (hv:v=s.val:=by exact id rfl) (n:Nat:=3000) (hb:fn.body.isSome=true:=by exact id (by kernel_rfl)) (hc:(callable P f&&Nat.ble args.length fn.ntmps)=true:=by exact id (by kernel_rfl))
  (h:chk P T fn.ntmps fn.results.toList (resM fn.results.toList) 0 [] n [.code (fn.body.get hb)] ⟨argSlots 0 args,[]⟩ (fun a=>.ret (enc a) []) s=(chk P T fn.ntmps fn.results.toList (resM fn.results.toList) 0 [] n [.code (fn.body.get hb)] ⟨argSlots 0 args,[]⟩ (fun a=>.ret (enc a) []) s).diag:=by exact id (by kernel_rfl)):Ctr α :=
 ⟨P,f,args,enc,fl,v,pre,fun hp=>hv ▸ FnA.sk hT hm enc (fun _=>[]) hf (Option.some_get hb).symm hc n s h (ok hp),post,hp⟩
def kp {P:Program} {T:List (Nat × TI)} (hT:TOk P T) (hm:P.follows .mixedOrders=true) {f:FuncId} {fn:Func} (hf:P.funcs[f]? = some fn) (args:List AV) {α:Type} (enc:α→AV) (fl:Bool) {s:Sk α} (v:α) {pre:Prop} (ok:pre→s.obs fun _=>True)
  {post:α→Prop} (hq:s.pst post) (hv:v=s.val:=by exact id rfl) (n:Nat:=3000) (hb:fn.body.isSome=true:=by exact id (by kernel_rfl)) (hc:(callable P f&&Nat.ble args.length fn.ntmps)=true:=by exact id (by kernel_rfl))
  (h:chk P T fn.ntmps fn.results.toList (resM fn.results.toList) 0 [] n [.code (fn.body.get hb)] ⟨argSlots 0 args,[]⟩ (fun a=>.ret (enc a) []) s=(chk P T fn.ntmps fn.results.toList (resM fn.results.toList) 0 [] n [.code (fn.body.get hb)] ⟨argSlots 0 args,[]⟩ (fun a=>.ret (enc a) []) s).diag:=by exact id (by kernel_rfl)):Ctr α :=
 ⟨P,f,args,enc,fl,v,pre,fun hp=>hv ▸ FnA.sk hT hm enc (fun _=>[]) hf (Option.some_get hb).symm hc n s h (ok hp),post,hv ▸ Sk.pval s hq⟩
@[simp] theorem kk_v {P:Program} {T:List (Nat × TI)} (hT:TOk P T) (hm:P.follows .mixedOrders=true) {f:FuncId} {fn:Func} (hf:P.funcs[f]? = some fn) (args:List AV) {α:Type} (enc:α→AV) (fl:Bool) (s:Sk α) (v:α) {pre:Prop} (ok:pre→s.obs fun _=>True) (post:α→Prop) (hp:post v) (hv:v=s.val) (n:Nat) (hb:fn.body.isSome=true) (hc:(callable P f&&Nat.ble args.length fn.ntmps)=true) (h:chk P T fn.ntmps fn.results.toList (resM fn.results.toList) 0 [] n [.code (fn.body.get hb)] ⟨argSlots 0 args,[]⟩ (fun a=>.ret (enc a) []) s=(chk P T fn.ntmps fn.results.toList (resM fn.results.toList) 0 [] n [.code (fn.body.get hb)] ⟨argSlots 0 args,[]⟩ (fun a=>.ret (enc a) []) s).diag):(kk hT hm hf args enc fl s v ok post hp hv n hb hc h).v=v:=rfl
@[simp] theorem kk_pre {P:Program} {T:List (Nat × TI)} (hT:TOk P T) (hm:P.follows .mixedOrders=true) {f:FuncId} {fn:Func} (hf:P.funcs[f]? = some fn) (args:List AV) {α:Type} (enc:α→AV) (fl:Bool) (s:Sk α) (v:α) {pre:Prop} (ok:pre→s.obs fun _=>True) (post:α→Prop) (hp:post v) (hv:v=s.val) (n:Nat) (hb:fn.body.isSome=true) (hc:(callable P f&&Nat.ble args.length fn.ntmps)=true) (h:chk P T fn.ntmps fn.results.toList (resM fn.results.toList) 0 [] n [.code (fn.body.get hb)] ⟨argSlots 0 args,[]⟩ (fun a=>.ret (enc a) []) s=(chk P T fn.ntmps fn.results.toList (resM fn.results.toList) 0 [] n [.code (fn.body.get hb)] ⟨argSlots 0 args,[]⟩ (fun a=>.ret (enc a) []) s).diag):(kk hT hm hf args enc fl s v ok post hp hv n hb hc h).pre=pre:=rfl
@[simp] theorem kk_post {P:Program} {T:List (Nat × TI)} (hT:TOk P T) (hm:P.follows .mixedOrders=true) {f:FuncId} {fn:Func} (hf:P.funcs[f]? = some fn) (args:List AV) {α:Type} (enc:α→AV) (fl:Bool) (s:Sk α) (v:α) {pre:Prop} (ok:pre→s.obs fun _=>True) (post:α→Prop) (hp:post v) (hv:v=s.val) (n:Nat) (hb:fn.body.isSome=true) (hc:(callable P f&&Nat.ble args.length fn.ntmps)=true) (h:chk P T fn.ntmps fn.results.toList (resM fn.results.toList) 0 [] n [.code (fn.body.get hb)] ⟨argSlots 0 args,[]⟩ (fun a=>.ret (enc a) []) s=(chk P T fn.ntmps fn.results.toList (resM fn.results.toList) 0 [] n [.code (fn.body.get hb)] ⟨argSlots 0 args,[]⟩ (fun a=>.ret (enc a) []) s).diag):(kk hT hm hf args enc fl s v ok post hp hv n hb hc h).post=post:=rfl
theorem okE {p:Prop} (h:p:=by
 refine Sk.obs_of _ ?_
 simp only [Sk.obq,Sk.isLoop,reduceCtorEq,leafB,leafJ,Cal.z,Cal.p,Cal.t,Cal.pt,Cal.o,Cal.and,Cal.andl,Cal.andr,Cal.wh,Cal.dep,Cal.depr,Ctr.c,kk,kp,Ctr.nil,Ctr.nilc,CtrO.c,CtrO.nil,Sk.pst,Sk.pstq,maxLen,implies_true,true_and,and_true,and_self,true_implies,false_implies,ixP,szP,mkP]):p:=h
theorem okD {p:Prop} (h:p:=by
 refine Sk.obs_of _ ?_
 simp only [Sk.obq,Sk.isLoop,reduceCtorEq,leafB,leafJ,Cal.z,Cal.p,Cal.t,Cal.pt,Cal.o,Cal.and,Cal.andl,Cal.andr,Cal.wh,Cal.dep,Cal.depr,Ctr.c,kk,kp,Ctr.nil,Ctr.nilc,CtrO.c,CtrO.nil,Sk.pst,Sk.pstq,maxLen,implies_true,true_and,and_true,and_self,true_implies,false_implies,ixP,szP,mkP]
 all_goals (repeat' first | assumption | (apply And.intro) | (intro h))
 all_goals first | trivial | assumption | omega | ((try simp only [LN] at *) <;> first | omega | (refine (w64_id ?_ ?_).trans ?_ <;> omega) | (simp (disch:=omega) only [w64_id] at *; omega) | (grind) | (simp_all; done) | (simp_all; omega))):p:=h
theorem okG {p:Prop} (h:p:=by
 refine Sk.obs_of _ ?_
 simp only [Sk.obq,Sk.isLoop,reduceCtorEq,leafB,leafJ,Cal.z,Cal.p,Cal.t,Cal.pt,Cal.o,Cal.and,Cal.andl,Cal.andr,Cal.wh,Cal.dep,Cal.depr,Ctr.c,kk,kp,Ctr.nil,Ctr.nilc,CtrO.c,CtrO.nil,Sk.pst,Sk.pstq,forall_eq,Sum.forall,maxLen,implies_true,true_and,and_true,and_self,true_implies,false_implies,ixP,szP,mkP]
 all_goals (repeat' first | assumption | (apply And.intro) | (intro h))
 all_goals first | trivial | assumption | omega | ((try simp only [LN] at *) <;> first | omega | (refine (w64_id ?_ ?_).trans ?_ <;> omega) | (simp (disch:=omega) only [w64_id] at *; omega) | (grind) | (simp_all; done) | (simp_all; omega))):p:=h
theorem okP {p:Prop} (h:p:=by
 refine Sk.pst_of _ ?_
 simp only [Sk.isLoop,reduceCtorEq,leafB,leafJ,Cal.z,Cal.p,Cal.t,Cal.pt,Cal.o,Cal.and,Cal.andl,Cal.andr,Cal.wh,Cal.dep,Cal.depr,Ctr.c,kk,kp,Ctr.nil,Ctr.nilc,CtrO.c,CtrO.nil,Sk.pstq,maxLen,implies_true,true_and,and_true,and_self,true_implies,false_implies,ixP,szP,mkP]
 all_goals (repeat' first | assumption | (apply And.intro) | (intro h))
 all_goals first | trivial | assumption | omega | ((try simp only [LN] at *) <;> first | omega | (refine (w64_id ?_ ?_).trans ?_ <;> omega) | (simp (disch:=omega) only [w64_id] at *; omega) | (grind) | (simp_all; done) | (simp_all; omega))):p:=h
theorem okQ {p:Prop} (h:p:=by
 refine Sk.pst_of _ ?_
 simp only [Sk.isLoop,reduceCtorEq,leafB,leafJ,Cal.z,Cal.p,Cal.t,Cal.pt,Cal.o,Cal.and,Cal.andl,Cal.andr,Cal.wh,Cal.dep,Cal.depr,Ctr.c,kk,kp,Ctr.nil,Ctr.nilc,CtrO.c,CtrO.nil,Sk.pstq,forall_eq,Sum.forall,maxLen,implies_true,true_and,and_true,and_self,true_implies,false_implies,ixP,szP,mkP]
 all_goals (repeat' first | assumption | (apply And.intro) | (intro h))
 all_goals first | trivial | assumption | omega | ((try simp only [LN] at *) <;> first | omega | (refine (w64_id ?_ ?_).trans ?_ <;> omega) | (simp (disch:=omega) only [w64_id] at *; omega) | (grind) | (simp_all; done) | (simp_all; omega))):p:=h

section
open Go Go.Sort
variable {w : World} {S : Nat → Prop} {μ : Mu} {e g c : Nat} {L : List Int}
end
def Sk.pstE:{α:Type}→Sk α→(α→Prop)→Prop
 | _,.fin a,L=>L a
 | _,.br e x y,L=>(e=true→x.pstE L)∧(e=false→y.pstE L)
 | _,.r _ c k,L=>∀ x,x=c.v→c.post x→(k x).pstE L
 | _,.wi _ _ _ k,L=>k.pstE L
 | _,.wn _ _ _ k,L=>k.pstE L
 | _,.wr _ _ _ k,L=>k.pstE L
 | _,.brt k,L=>k.pstE L
 | _,.brf k,L=>k.pstE L
 | _,.dead a,L=>L a
 | _,.bnd _ _ _ k,L=>k.pstE L
 | _,.fz _ k,L=>k.pstE L
 | _,.up _ k,L=>k.pstE L
 | _,.bind _ _ s _ k,L=>∃ J:_→Prop,s.pstE (leafB L J)∧∀ b,s.val=.inr b→J b→(k b).pstE L
 | _,.loop _ _ m i0 _ b,L=>∃ I:_→Prop,I i0∧∀ i,I i→(b i).pstE (leafJ L fun j=>I j∧m j < m i)
 | _,.me n g _ _ b k,L=>(∀ i,i < n→(b i).pstE (leafE L g))∧((∀ i,i < n→exitOf (b i).val=none)→k.pstE L)
 | _,.pn _ _ a,L=>L a
 | _,.rx _ a c z err k,L=>∀ x,x=a.v→a.post x→∀ y,y=(c x).v→(c x).post y→leafX y (fun b=>∀ d,d=(z x b).v→(z x b).post d→(k x b d).pstE L) fun e=>L (err e)
 | _,s,L=>s.pst L
theorem Sk.pvalE:{α:Type}→(s:Sk α)→{L:α→Prop}→s.pstE L→L s.val
 | _,.fin a,_,h=>h
 | _,.br e x y,L,h=>by
  cases e with
  | true=>exact x.pvalE (h.1 rfl)
  | false=>exact y.pvalE (h.2 rfl)
 | _,.r _ c k,L,h=>(k c.v).pvalE (h _ rfl c.hp)
 | _,.wi _ _ _ k,L,h=>k.pvalE (L:=L) h
 | _,.wn _ _ _ k,L,h=>k.pvalE (L:=L) h
 | _,.wr _ _ _ k,L,h=>k.pvalE (L:=L) h
 | _,.brt k,L,h=>k.pvalE (L:=L) h
 | _,.brf k,L,h=>k.pvalE (L:=L) h
 | _,.dead _,_,h=>h
 | _,.bnd _ _ n k,L,h=>k.pvalE (L:=L) h
 | _,.fz _ k,L,h=>k.pvalE (L:=L) h
 | _,.up _ k,L,h=>k.pvalE (L:=L) h
 | _,.bind _ _ s _ k,L,h=>by
  obtain ⟨J,h0,h2⟩:=h
  have h1:=s.pvalE h0
  show L (pickS s.val fun b=>(k b).val)
  cases hs:s.val with
  | inl a=>rw [hs] at h1; exact h1
  | inr b=>rw [hs] at h1; exact (k b).pvalE (h2 b hs h1)
 | _,.loop d _ m i0 _ b,L,h=>by
  obtain ⟨I,h0,h2⟩:=h
  exact iter_post (f:=fun i=>(b i).val) (fun i hi=>(b i).pvalE (h2 i hi)) (m i0+1) i0 h0 (Nat.lt_succ_self _)
 | _,.me n g _ _ b k,L,h=>by
  show L (((List.range n).findSome? fun i=>exitOf (b i).val).getD k.val)
  cases hf:(List.range n).findSome? fun i=>exitOf (b i).val with
  | none =>
   rw [List.findSome?_eq_none_iff] at hf
   exact k.pvalE (h.2 fun i hi=>hf i (List.mem_range.2 hi))
  | some a =>
   obtain ⟨j,hj,hb⟩:=List.exists_of_findSome?_eq_some hf
   have:=(b j).pvalE (h.1 j (List.mem_range.1 hj))
   cases hv:(b j).val with
   | inl x =>
    rw [hv] at hb this
    have hb:some x=some a:=hb
    cases hb
    exact this
   | inr x=>rw [hv] at hb; cases hb
 | _,.pn _ _ _,_,h=>h
 | _,.rx _ a c z err k,L,h=>by
  have h1:=h _ rfl a.hp _ rfl (c a.v).hp
  show L (okX (c a.v).v (fun b=>(k a.v b (z a.v b).v).val) err)
  cases hv:(c a.v).v with
  | ok b=>rw [hv] at h1; exact (k a.v b (z a.v b).v).pvalE (h1 _ rfl (z a.v b).hp)
  | error e=>rw [hv] at h1; exact h1
 | _,.cas _ c _ _ x y,L,h=>Sk.pval (.cas _ c _ _ x y) h
 | _,.nsp a b x y,L,h=>Sk.pval (.nsp a b x y) h
 | _,.op a k,L,h=>Sk.pval (.op a k) h
 | _,.cl a b k,L,h=>Sk.pval (.cl a b k) h
 | _,.oq a q k,L,h=>Sk.pval (.oq a q k) h
 | _,.cq a b c k,L,h=>Sk.pval (.cq a b c k) h
 | _,.ot a Q b c d k,L,h=>Sk.pval (.ot a Q b c d k) h
 | _,.ct a b c d e k,L,h=>Sk.pval (.ct a b c d e k) h
 | _,.orr a Q b d k,L,h=>Sk.pval (.orr a Q b d k) h
 | _,.cr a b c d e k,L,h=>Sk.pval (.cr a b c d e k) h
 | _,.fm a k,L,h=>Sk.pval (.fm a k) h
 | _,.fb a k,L,h=>Sk.pval (.fb a k) h
 | _,.nr a b c d e k,L,h=>Sk.pval (.nr a b c d e k) h
 | _,.clr a b c k,L,h=>Sk.pval (.clr a b c k) h
 | _,.mr a b c d e f k,L,h=>Sk.pval (.mr a b c d e f k) h
 | _,.rf a b c d e f g i k,L,h=>Sk.pval (.rf a b c d e f g i k) h
end Go.Av
