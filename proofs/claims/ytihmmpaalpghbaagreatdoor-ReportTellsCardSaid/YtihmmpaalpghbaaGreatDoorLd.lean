/- What has been drawn grows: of every run, every step, every call. -/
import Derived.Test.YtihmmpaalpghbaaGreatDoorLa
import Derived.Sort.Grow
import Derived.Deep.Draws
import Derived.Test.YtihmmpaalpghbaaGreatDoorLc
import Derived.Sort.OwnSortedInts
set_option linter.unusedSimpArgs false
set_option linter.unusedVariables false
set_option linter.unusedSectionVars false
namespace Go.Av
open Go
theorem Q1 {α:Type} (a:Ask α):∀ w:World,w.drawn≤(w.ask a).2.drawn:=by
  induction a with
  | done a=>intro w; exact Nat.le_refl _
  | ask IB range k ih =>
    intro w
    unfold World.ask
    dsimp only
    split
    · exact ih _ w
    · exact Nat.le_trans (Nat.le_succ _) (ih _ { w with drawn:=w.drawn+1 })
theorem Q2 (w:World) (c:Sys):w.drawn≤(w.sys c).2.drawn:=by
  have h:=Q1 (Kernel.perform c w.os) w
  unfold World.sys
  split
  · exact Nat.le_refl _
  · rename_i r os w' _ e
    rw [e] at h
    exact h
theorem Cn {p:Program} {w w':World} {at_:Addr} {u:TypeId} {k:Addr} {v:Value} {atomic:Bool} {l:List Addr} (h:w.viewStore p at_ u k v atomic=.ok (w',l)):w'.drawn=w.drawn:=by
  unfold World.viewStore at h
  simp only [bind,Except.bind,pure,Except.pure,throw,throwThe,MonadExceptOf.throw] at h
  repeat' (split at h)
  all_goals first
    | (cases h; done)
    | (simp only [Except.ok.injEq,Prod.mk.injEq] at h; rw [← h.1])
theorem EK {p:Program} {w w':World} {a:Addr} {v:Value} {atomic:Bool} {l:List Addr} (h:w.farStore p a v atomic=.ok (w',l)):w'.drawn=w.drawn:=by
  unfold World.farStore at h
  split at h
  · split at h
    · rename_i e
      simp only [Except.ok.injEq] at h
      subst h
      exact Cn e
    · cases h
  · cases h
theorem Jl (w:World) (a:Addr) (n:Nat):(w.freeze a n).drawn=w.drawn:=by
  unfold World.freeze
  repeat' split
  all_goals rfl
def TF {α:Type}:Result α→World
  | .ok _ w=>w
  | .halt _ w=>w
theorem wu {α:Type} (p:Program) (s:Sem α):∀ w:World,w.drawn≤(TF (s.run p w)).drawn:=by
  induction s with
  | pure a=>intro w; exact Nat.le_refl _
  | load m a k ih =>
    intro w
    unfold Sem.run
    split
    · exact ih _ w
    · split
      · exact ih _ w
      · exact Nat.le_refl _
  | store m a v k ih =>
    intro w
    have YU:∀ (w:World) (a:Addr) (v:Value),(w.setCell a v).drawn=w.drawn:=fun _ _ _=>rfl
    have main:(∀ l,v≠.agg l)→(∀ l,v≠.tuple l)→w.drawn≤(TF ((Sem.store m a v k).run p w)).drawn:=fun h1 h2=>by
      rw [Sem.run.eq_def]
      split
      all_goals first
        | (rename_i e; cases e; done)
        | skip
      · rename_i e; cases e; exact absurd rfl (h1 _)
      · rename_i e; cases e; exact absurd rfl (h2 _)
      · rename_i e
        cases e
        split
        · split
          · exact Nat.le_refl _
          · exact Nat.le_trans (Nat.le_of_eq (YU _ _ _).symm) (ih _)
        · split
          · rename_i e
            rw [← EK e]
            exact ih _
          · exact Nat.le_refl _
    by_cases h1:∀ l,v≠.agg l
    · by_cases h2:∀ l,v≠.tuple l
      · exact main h1 h2
      · obtain ⟨l,rfl⟩:=Classical.not_forall_not.1 h2
        exact Nat.le_refl _
    · obtain ⟨l,rfl⟩:=Classical.not_forall_not.1 h1
      exact Nat.le_refl _
  | new o k ih=>intro w; exact ih _ { w with heap:=w.heap.push o }
  | shape r k ih=>intro w; exact ih _ w
  | freeze a n k ih=>intro w; exact Nat.le_trans (Nat.le_of_eq (Jl w a n).symm) (ih (w.freeze a n))
  | frozen a k ih=>intro w; exact ih _ w
  | getObj r k ih =>
    intro w
    unfold Sem.run
    split
    · exact Nat.le_refl _
    · exact ih _ w
    · exact Nat.le_refl _
  | setObj r o k ih =>
    intro w
    unfold Sem.run
    split
    · exact Nat.le_refl _
    · exact ih { w with heap:=w.heap.setIfInBounds r o }
    · exact Nat.le_refl _
  | choose q k ih =>
    intro w
    unfold Sem.run
    split
    · exact ih _ w
    · exact Nat.le_trans (Nat.le_succ _) (ih _ { w with drawn:=w.drawn+1 })
  | sys c k ih=>intro w; exact Nat.le_trans (Q2 w c) (ih _ _)
  | program k ih=>intro w; exact ih _ w
  | mark m k ih=>intro w; exact ih w
  | halt h=>intro w; exact Nat.le_refl _
theorem runT_eq {α:Type} (p:Program) (s:Sem α):∀ (w:World) (es:Array Event),(s.runT p w es).1=s.run p w:=by
  induction s with
  | pure a=>intro w es; rfl
  | load m a k ih =>
    intro w es
    unfold Sem.run Sem.runT
    split
    · exact ih _ _ _
    · split
      · exact ih _ _ _
      · rfl
  | store m a v k ih =>
    intro w es
    have main:(∀ l,v≠.agg l)→(∀ l,v≠.tuple l)→((Sem.store m a v k).runT p w es).1=(Sem.store m a v k).run p w:=fun h1 h2=>by
      have e1:(Sem.store m a v k).runT p w es=(match w.cell? a with
        | some _ =>
          if w.frozen? a then (.halt (.unsupported (.unsafePointer "a write to bytes that a string shares")) w,es)
          else k.runT p (w.setCell a v) (es.push ⟨.cell a,true,m == .atomic⟩)
        | none=>match w.farStore p a v (m == .atomic) with
          | .ok (w,V1)=>k.runT p w (es++V1.toArray.map (⟨.cell ·,true,m == .atomic⟩))
          | .error h=>(.halt h w,es)):=by
        cases v <;> first | rfl | (exact absurd rfl (h1 _)) | (exact absurd rfl (h2 _))
      have e2:(Sem.store m a v k).run p w=(match w.cell? a with
        | some _=>if w.frozen? a then .halt (.unsupported (.unsafePointer "a write to bytes that a string shares")) w else k.run p (w.setCell a v)
        | none=>match w.farStore p a v (m == .atomic) with
          | .ok (w,_)=>k.run p w
          | .error h=>.halt h w):=by
        cases v <;> first | rfl | (exact absurd rfl (h1 _)) | (exact absurd rfl (h2 _))
      rw [e1,e2]
      split
      · split
        · rfl
        · exact ih _ _
      · split
        · exact ih _ _
        · rfl
    by_cases h1:∀ l,v≠.agg l
    · by_cases h2:∀ l,v≠.tuple l
      · exact main h1 h2
      · obtain ⟨l,rfl⟩:=Classical.not_forall_not.1 h2
        rfl
    · obtain ⟨l,rfl⟩:=Classical.not_forall_not.1 h1
      rfl
  | new o k ih=>intro w es; exact ih _ _ _
  | shape r k ih=>intro w es; exact ih _ _ _
  | freeze a n k ih=>intro w es; exact ih _ _
  | frozen a k ih=>intro w es; exact ih _ _ _
  | getObj r k ih =>
    intro w es
    unfold Sem.run Sem.runT
    split
    · rfl
    · exact ih _ _ _
    · rfl
  | setObj r o k ih =>
    intro w es
    unfold Sem.run Sem.runT
    split
    · rfl
    · exact ih _ _
    · rfl
  | choose q k ih =>
    intro w es
    unfold Sem.run Sem.runT
    split
    · exact ih _ _ _
    · exact ih _ _ _
  | sys c k ih=>intro w es; exact ih _ _ _
  | program k ih=>intro w es; exact ih _ _ _
  | mark m k ih=>intro w es; exact ih _ _
  | halt h=>intro w es; rfl
theorem EL {α:Type} (p:Program) (s:Sem α) (w:World) (es:Array Event):w.drawn≤(TF (s.runT p w es).1).drawn:=by
  rw [runT_eq]
  exact wu p s w

theorem eA {α:Type} {p:Program} {s:Sem α} {w w':World} {v:α} (e:s.run p w=.ok v w'):w.drawn≤w'.drawn:=by
  have:=wu p s w
  rw [e] at this
  exact this
theorem bT {α:Type} {p:Program} {s:Sem α} {w w':World} {v:Halt} (e:s.run p w=.halt v w'):w.drawn≤w'.drawn:=by
  have:=wu p s w
  rw [e] at this
  exact this
theorem PS {α:Type} {p:Program} {s:Sem α} {w:World} {es es':Array Event} {r:Result α} (e:s.runT p w es=(r,es')):w.drawn≤(TF r).drawn:=by
  have:=EL p s w es
  rw [e] at this
  exact this
theorem YW {α:Type} {p:Program} {s:Sem α} {w w':World} {es es':Array Event} {v:α} (e:s.runT p w es=(.ok v w',es')):w.drawn≤w'.drawn:=PS e
theorem TG {α:Type} {p:Program} {s:Sem α} {w w':World} {es es':Array Event} {v:Halt} (e:s.runT p w es=(.halt v w',es')):w.drawn≤w'.drawn:=PS e

/-! IB a XA step leaves -/
def DA (w:World):GStep→Prop
  | .go _ w' _=>w.drawn≤w'.drawn
  | .comm _ _ _ _ w' _=>w.drawn≤w'.drawn
  | .spawn _ _ w' _=>w.drawn≤w'.drawn
  | .count _ w' _=>w.drawn≤w'.drawn
  | .timer _ _ w' _=>w.drawn≤w'.drawn
  | .alone _ _ w' _=>w.drawn≤w'.drawn
  | .newcoro _ _ _ w' _=>w.drawn≤w'.drawn
  | .coroswitch _ _ _ w' _=>w.drawn≤w'.drawn
  | .collect _ w' _=>w.drawn≤w'.drawn
  | .watch _ w' _=>w.drawn≤w'.drawn
  | .ended _ _ _=>True
theorem ni {w:World} {es:Array Event} {s:GStep} (h:DA w s):DA w (s.after es):=by
  cases s <;> exact h
theorem aV {w w':World} {s:GStep} (h:w.drawn≤w'.drawn) (k:DA w' s):DA w s:=by
  cases s <;> first | trivial | exact Nat.le_trans h k
theorem cZ (fr:Frame) (m:String) (w:World):DA w (endThrow fr m w):=Nat.le_refl _
theorem TH (fr:Frame) (a:List ByteArray) (m:String) (b:Bool) (w:World):DA w (dieOf fr a m b w):=Nat.le_refl _
theorem Oj (w:World) (fd:Nat) (text:ByteArray) (o:Outcome):DA w (endWith w fd text o):=by
  unfold endWith
  dsimp only
  repeat' split
  all_goals trivial
theorem fQ (p:Program) (fr:Frame) (v:Value) (w:World):DA w (endPrinting p fr v w):=by
  unfold endPrinting
  dsimp only
  split
  · exact cZ _ _ _
  · trivial
theorem eU (p:Program) (fr:Frame) (callers:List Frame) (dying:Option Dying) (m:String) (w:World):DA w (endFatal p fr callers dying m w):=by
  unfold endFatal
  dsimp only
  split
  · rename_i e
    exact aV (eA e) (TH _ _ _ _ _)
  · trivial
  · trivial
theorem Ol (p:Program) (fr:Frame) (d:Dying) (f:Fatal) (w:World):DA w (writeOn p fr d f w):=by
  unfold writeOn
  dsimp only
  split
  · trivial
  · split
    all_goals first
      | trivial
      | exact YW ‹_›
      | exact TG ‹_›
theorem YX (p:Program) (fr:Frame) (d:Dying) (w:World):DA w (die p fr d w):=by
  unfold die
  split
  · exact Ol _ _ _ _ _
  · split
    · split
      · exact Nat.le_refl _
      · exact Oj _ _ _ _
    · dsimp only
      split
      · exact Nat.le_refl _
      · split
        · exact eA ‹_›
        · trivial
      · refine ni ?_
        split
        all_goals first
          | trivial
          | exact eA ((runT_eq _ _ _ _).symm.trans ‹_›)
          | exact aV (bT ((runT_eq _ _ _ _).symm.trans ‹_›)) (fQ _ _ _ _)
      · trivial
theorem EM {c:Prop} [Decidable c] {w:World} {a b:GStep} (h1:DA w a) (h2:DA w b):DA w (if c then a else b):=by
  split
  · exact h1
  · exact h2
theorem vu (p:Program) (main:Bool) (fr:Frame) (callers:List Frame) (dying:Option Dying) (v:Value) (w:World):DA w (doReturn p main fr callers dying v w):=by
  unfold doReturn
  repeat' split
  all_goals (first | trivial | exact Nat.le_refl _ | exact eA ‹_› | exact bT ‹_› | exact eA ((runT_eq _ _ _ _).symm.trans ‹_›) | exact bT ((runT_eq _ _ _ _).symm.trans ‹_›) | exact aV (bT ‹_›) (cZ _ _ _) | exact aV (bT ‹_›) (eU _ _ _ _ _ _) | exact aV (bT ‹_›) (fQ _ _ _ _) | exact aV (bT ((runT_eq _ _ _ _).symm.trans ‹_›)) (cZ _ _ _) | exact aV (bT ((runT_eq _ _ _ _).symm.trans ‹_›)) (eU _ _ _ _ _ _) | exact aV (eA ‹_›) (cZ _ _ _) | exact aV (eA ((runT_eq _ _ _ _).symm.trans ‹_›)) (cZ _ _ _))
theorem Co (p:Program) (fr:Frame) (callers:List Frame) (dying:Option Dying) (d:Deferred) (w:World):DA w (callDeferred p fr callers dying d w):=by
  unfold callDeferred
  dsimp only
  refine EM trivial ?_
  · refine ni ?_
    split
    all_goals try split
    all_goals (first | trivial | exact Nat.le_refl _ | exact eA ‹_› | exact bT ‹_› | exact eA ((runT_eq _ _ _ _).symm.trans ‹_›) | exact bT ((runT_eq _ _ _ _).symm.trans ‹_›) | exact aV (bT ‹_›) (cZ _ _ _) | exact aV (bT ‹_›) (eU _ _ _ _ _ _) | exact aV (bT ‹_›) (fQ _ _ _ _) | exact aV (bT ((runT_eq _ _ _ _).symm.trans ‹_›)) (cZ _ _ _) | exact aV (bT ((runT_eq _ _ _ _).symm.trans ‹_›)) (eU _ _ _ _ _ _) | exact aV (eA ‹_›) (cZ _ _ _) | exact aV (eA ((runT_eq _ _ _ _).symm.trans ‹_›)) (cZ _ _ _))
theorem Q3 (p:Program) (main:Bool) (fr:Frame) (callers:List Frame) (dying:Option Dying) (w:World):DA w (unwind p main fr callers dying w):=by
  unfold unwind
  split
  · dsimp only
    refine ni ?_
    split
    all_goals (first | trivial | exact Nat.le_refl _ | exact eA ‹_› | exact bT ‹_› | exact eA ((runT_eq _ _ _ _).symm.trans ‹_›) | exact bT ((runT_eq _ _ _ _).symm.trans ‹_›) | exact aV (bT ‹_›) (cZ _ _ _) | exact aV (bT ‹_›) (eU _ _ _ _ _ _) | exact aV (bT ‹_›) (fQ _ _ _ _) | exact aV (bT ((runT_eq _ _ _ _).symm.trans ‹_›)) (cZ _ _ _) | exact aV (bT ((runT_eq _ _ _ _).symm.trans ‹_›)) (eU _ _ _ _ _ _) | exact aV (eA ‹_›) (cZ _ _ _) | exact aV (eA ((runT_eq _ _ _ _).symm.trans ‹_›)) (cZ _ _ _))
  · exact Co _ _ _ _ _ _
  · split
    · trivial
    · split
      · trivial
      · split
        · exact Nat.le_refl _
        · split
          · split
            · exact Nat.le_refl _
            · split
              all_goals (first | trivial | exact Nat.le_refl _ | exact eA ‹_› | exact bT ‹_› | exact eA ((runT_eq _ _ _ _).symm.trans ‹_›) | exact bT ((runT_eq _ _ _ _).symm.trans ‹_›) | exact aV (bT ‹_›) (cZ _ _ _) | exact aV (bT ‹_›) (eU _ _ _ _ _ _) | exact aV (bT ‹_›) (fQ _ _ _ _) | exact aV (bT ((runT_eq _ _ _ _).symm.trans ‹_›)) (cZ _ _ _) | exact aV (bT ((runT_eq _ _ _ _).symm.trans ‹_›)) (eU _ _ _ _ _ _) | exact aV (eA ‹_›) (cZ _ _ _) | exact aV (eA ((runT_eq _ _ _ _).symm.trans ‹_›)) (cZ _ _ _))
          · split
            · exact fQ _ _ _ _
            · trivial
    · split
      · exact vu _ _ _ _ _ _ _
      · dsimp only
        refine ni ?_
        split
        · exact aV (eA ((runT_eq _ _ _ _).symm.trans ‹_›)) (vu _ _ _ _ _ _ _)
        · trivial
        · trivial
theorem LU (p:Program) (fr:Frame) (callers:List Frame) (dying:Option Dying) (g:Nat) (w:World):DA w (early p fr callers dying g w):=by
  have hn:∀ w0 w':World,w0.drawn≤w'.drawn→DA w0 (match w'.heap[g]? with
    | some (.pending c elem) =>
      .go { frame:=fr,callers,status:=.running,dying } { w' with heap:=w'.heap.setIfInBounds g (.cells c elem) }
    | _=>.ended (.stuck "early: the variable does not wait" (fr.pos p)) w'):=fun w0 w' h=>by
    split
    · exact h
    · trivial
  unfold early
  dsimp only
  repeat' split
  all_goals first
    | (first | trivial | exact Nat.le_refl _ | exact eA ‹_› | exact bT ‹_› | exact eA ((runT_eq _ _ _ _).symm.trans ‹_›) | exact bT ((runT_eq _ _ _ _).symm.trans ‹_›) | exact aV (bT ‹_›) (cZ _ _ _) | exact aV (bT ‹_›) (eU _ _ _ _ _ _) | exact aV (bT ‹_›) (fQ _ _ _ _) | exact aV (bT ((runT_eq _ _ _ _).symm.trans ‹_›)) (cZ _ _ _) | exact aV (bT ((runT_eq _ _ _ _).symm.trans ‹_›)) (eU _ _ _ _ _ _) | exact aV (eA ‹_›) (cZ _ _ _) | exact aV (eA ((runT_eq _ _ _ _).symm.trans ‹_›)) (cZ _ _ _))
    | exact hn _ _ (Nat.le_refl _)
    | exact hn _ _ (eA ‹_›)
    | (have h:=eA ‹Sem.run p _ w=Result.ok _ _›; exact h)
theorem zl (p:Program) (listen:Bool) (fr:Frame) (callers:List Frame) (dying:Option Dying) (s:Sem Next) (w:World):DA w (stepG.apply p listen fr callers dying s w):=by
  have hw:w.drawn≤(TF (if listen=true then s.runT p w #[] else (s.run p w,#[])).1).drawn:=by
    split
    · exact EL p s w #[]
    · exact wu p s w
  unfold stepG.apply
  dsimp only
  generalize (if listen=true then s.runT p w #[] else (s.run p w,#[]))=r at hw ⊢
  obtain ⟨r,es⟩:=r
  dsimp only at hw ⊢
  refine ni ?_
  cases r with
  | ok v w' =>
    have hw:w.drawn≤w'.drawn:=hw
    cases v
    all_goals try dsimp only
    all_goals first
      | exact hw
      | (split <;> exact hw)
      | (refine EM (aV hw (cZ _ _ _)) ?_; exact hw)
      | skip
  | halt h w' =>
    have hw:w.drawn≤w'.drawn:=hw
    cases h
    all_goals try dsimp only
    all_goals first
      | exact hw
      | trivial
      | exact aV hw (cZ _ _ _)
      | exact aV hw (eU _ _ _ _ _ _)
      | (rename_i u _; cases u <;> first | trivial | exact aV hw (LU _ _ _ _ _ _))
      | (rename_i u; cases u <;> first | trivial | exact aV hw (LU _ _ _ _ _ _))
theorem V2 (p:Program) (listen:Bool) (fr:Frame) (callers:List Frame) (dying:Option Dying) (w:World):DA w (stepG.oper p listen fr callers dying w):=by
  unfold stepG.oper
  split
  · trivial
  · split
    all_goals exact zl _ _ _ _ _ _ _
theorem V3 (p:Program) (main listen:Bool) (fr:Frame) (callers:List Frame) (dying:Option Dying) (w:World):DA w (stepG.exec p main listen fr callers dying w):=by
  have hl:∀ jump:Option Code,DA w (match fr.roundOf with
      | none=>if jump matches none | some .ret then GStep.go { frame:={ fr with mode:=.returning },callers,status:=.running,dying } w else .ended (.stuck "exit, goto: no such block or label" (fr.pos p)) w
      | some l =>
        let (r,es):=(Instr.endRound l jump).runT p w #[]
        GStep.after (seen p fr.fn es) <| match r with
        | .ok v w=>doReturn p main fr callers dying v w
        | .halt _ w=>.ended (.stuck "range over a function: no such loop" (fr.pos p)) w):=fun jump=>by
    split
    · refine EM ?_ ?_
      · exact Nat.le_refl _
      · trivial
    · dsimp only
      refine ni ?_
      split
      · exact aV (eA ((runT_eq _ _ _ _).symm.trans ‹_›)) (vu _ _ _ _ _ _ _)
      · trivial
  unfold stepG.exec
  dsimp only
  split
  all_goals first
    | exact Nat.le_refl _
    | exact hl none
    | exact hl (some .ret)
    | trivial
    | exact zl _ _ _ _ _ _ _
    | (split <;> first | exact Nat.le_refl _ | trivial)
    | (cases exitTo _ _ <;> first | exact Nat.le_refl _ | exact hl (some (.exit _)))
    | (cases gotoIn _ _ <;> first | exact Nat.le_refl _ | exact hl (some (.goto _)))
    | (cases Extern.next _ <;> first | trivial | exact zl _ _ _ _ _ _ _)
    | (refine ni ?_
       split
       all_goals first
         | trivial
         | exact aV (eA ((runT_eq _ _ _ _).symm.trans ‹_›)) (zl _ _ _ _ _ _ _)
         | (have h:=eA ((runT_eq _ _ _ _).symm.trans ‹(Sem.runT p _ w _).1=Result.ok _ _›); exact h)
         | (have h:=bT ((runT_eq _ _ _ _).symm.trans ‹(Sem.runT p _ w _).1=Result.halt _ _›); exact h))
    | skip
  · refine EM (Nat.le_refl _) ?_
    split
    · have h:=eA ‹Sem.run p _ w=Result.ok _ _›
      exact h
    · trivial
  · refine EM (V2 _ _ _ _ _ _) ?_
    exact Nat.le_refl _
theorem TJ (p:Program) (main:Bool) (g:Goroutine) (w:World) (listen:Bool):DA w (stepG p main g w listen):=by
  unfold stepG
  dsimp only
  split
  · exact YX _ _ _ _
  · exact V3 _ _ _ _ _ _ _
  · exact Q3 _ _ _ _ _ _

/-! IB a aaa step leaves -/
def sle (n:Nat):Stepped→Prop
  | .next m=>n≤m.world.drawn
  | .ended _ _=>True
theorem Jm {rest:Rest} {cases:Array CommCase} {w w':World} (h:waitingAt rest cases w=some w'):w'.drawn=w.drawn:=by
  unfold waitingAt at h
  split at h
  · split at h
    · simp only [Option.some.injEq] at h
      subst h
      rfl
    · cases h
  · simp only [Option.some.injEq] at h
    subst h
    rfl
theorem EN (p:Program) (rest:Rest) (gs:Array Goroutine) (i:Nat) (g:Goroutine) (cases:Array CommCase) (TL:Bool) (shape:CommShape) (w:World):sle w.drawn (communicate p rest gs i g cases TL shape w).1:=by
  unfold communicate
  dsimp only
  split
  · trivial
  · split
    · split
      · split
        · exact Nat.le_of_eq (Jm ‹_›).symm
        · trivial
      · exact Nat.le_refl _
    · split
      · trivial
      · have h:=eA ‹Sem.run p _ w=Result.ok _ _›
        split
        · split
          · have h2:=bT ‹Sem.run p _ _=Result.halt _ _›
            exact Nat.le_trans h h2
          · trivial
        · exact h
        · exact h
        · split
          · exact h
          · split
            · have h2:=eA ‹Sem.run p (choose (.extern "which waiting goroutine is the partner" _)) _=Result.ok _ _›
              exact Nat.le_trans h h2
            · trivial
        · exact h
        · exact h
        · trivial
theorem TM (w:World) (c:Nat):(drain w c).2.drawn=w.drawn:=by
  unfold drain
  split <;> rfl
theorem HX (m:Machine) (k:Nat) (t:Timer) (when period:Nat):(retime m k t when period).2.world.drawn=m.world.drawn:=by
  unfold retime
  dsimp only
  split
  · exact TM _ _
  · rfl
theorem Om {m m':Machine} {op:TimerOp} {v:Value} (h:timerOp m op=.ok (v,m')):m'.world.drawn=m.world.drawn:=by
  have hn:∀ (m0:Machine) (var:Addr) (f:Nat→Timer→Value × Machine),(∀ k t,(f k t).2.world.drawn=m.world.drawn)→timerOp.named m0 var f=.ok (v,m')→m'.world.drawn=m.world.drawn:=fun m0 var f hf h=>by
    unfold timerOp.named at h
    split at h
    · rename_i k _
      simp only [Except.ok.injEq] at h
      have:=hf k (m0.rest.timers.getD k default)
      rw [h] at this
      exact this
    · cases h
  unfold timerOp at h
  split at h
  · split at h
    · simp only [Except.ok.injEq,Prod.mk.injEq] at h
      rw [← h.2]
      rfl
    · split at h
      · split at h
        · cases h
        · simp only [Except.ok.injEq,Prod.mk.injEq] at h
          rw [← h.2]
      · cases h
  · exact hn _ _ _ (fun k t=>HX _ _ _ _ _) h
  · split at h
    · rename_i m0 ho
      have h0:m0.world.drawn=m.world.drawn:=by
        unfold timerOp.opened at ho
        split at ho
        · split at ho
          · simp only [Option.some.injEq] at ho
            subst ho
            rfl
          · cases ho
        · simp only [Option.some.injEq] at ho
          subst ho
          rfl
      exact hn _ _ _ (fun k t=>(HX _ _ _ _ _).trans h0) h
    · cases h
  · simp only [Except.ok.injEq,Prod.mk.injEq] at h
    rw [← h.2]
    rfl
theorem PT (p:Program) (gs:Array Goroutine) (rest:Rest) (w:World):sle w.drawn (Go.look p gs rest w):=by
  unfold Go.look
  split
  · dsimp only
    split
    · trivial
    · split
      · trivial
      · split
        · have h:=eA ‹Sem.run p _ w=Result.ok _ _›
          exact h
        · trivial
        · trivial
  · trivial
theorem TN (p:Program) (m:Machine) (k:Nat):sle m.world.drawn (serve p m k):=by
  unfold serve
  split
  · trivial
  · exact Nat.le_refl _
  · dsimp only
    split
    · trivial
    · exact Nat.le_refl _
theorem sB {a b:Nat} {s:Stepped} (h:a≤b) (k:sle b s):sle a s:=by
  cases s
  · exact Nat.le_trans h k
  · trivial
theorem TP (p:Program) (m:Machine) (i:Nat) (listen:Bool):sle m.world.drawn (Go.runT p m i listen).1:=by
  unfold Go.runT
  dsimp only
  generalize hg:(m.gs.swapAt! i { (default:Goroutine) with status:=.finished })=r
  obtain ⟨g,gs⟩:=r
  dsimp only
  have h:=TJ p (i == 0) g m.world listen
  generalize stepG p (i == 0) g m.world listen=s at h ⊢
  cases s
  all_goals try dsimp only
  all_goals first
    | trivial
    | exact h
    | exact sB h (EN _ _ _ _ _ _ _ _ _)
    | exact sB h (PT _ _ _ _)
    | skip
  · split
    · trivial
    · exact h
  · split
    · have h2:=Om ‹_›
      exact Nat.le_trans h (Nat.le_of_eq h2.symm)
    · exact h
    · trivial
    · trivial
  · split
    · exact h
    · exact h
    · trivial
def GJ (n:Nat):Move→Prop
  | .goroutine m _=>n≤m.world.drawn
  | .machine s _=>sle n s
theorem xY {a b:Nat} {s:Move} (h:a≤b) (k:GJ b s):GJ a s:=by
  cases s
  · exact Nat.le_trans h k
  · exact sB h k
theorem sC {c:Prop} [Decidable c] {n:Nat} {a b:Move} (h1:GJ n a) (h2:GJ n b):GJ n (if c then a else b):=by
  split
  · exact h1
  · exact h2
theorem Jn (rs:List Nat) (p:Program) (n:Nat) (m':Machine) (hm:n≤m'.world.drawn):GJ n (match (choose (.sched rs.length)).run p m'.world with
      | .halt _ w=>Move.machine (.ended (.stuck "sched" "") w)
      | .ok k world =>
        if rs.length≤1 then .goroutine { m' with world } (rs.getD k 0) else
        match (choose (.extern "sched.slice" 65536)).run p world with
        | .halt _ w=>.machine (.ended (.stuck "sched.slice" "") w)
        | .ok n world=>.goroutine { m' with world,rest:={ m'.rest with slice:=if n=0 then none else some (rs.getD k 0,n) } } (rs.getD k 0)):=by
  cases e:(choose (.sched rs.length)).run p m'.world with
  | halt _ _=>trivial
  | ok k world =>
    have h1:=Nat.le_trans hm (eA e)
    dsimp only
    refine sC h1 ?_
    cases e2:(choose (.extern "sched.slice" 65536)).run p world with
    | halt _ _=>trivial
    | ok n w2=>exact Nat.le_trans h1 (eA e2)
theorem zm (p:Program) (m:Machine):GJ m.world.drawn (askOn p m):=by
  unfold askOn
  dsimp only
  generalize (if (due m.rest.timers m.world.os.mono).isEmpty=true then pure 0 else choose (.extern "timer.serve" ((due m.rest.timers m.world.os.mono).length+(if ((runnable m.gs m.world.os.mono).isEmpty&&(ahead m false).isNone)=true then 0 else 1))):Sem Nat)=sm
  cases e:sm.run p m.world with
  | halt _ _=>trivial
  | ok k world =>
    have h1:=eA e
    dsimp only
    refine sC (sB h1 (TN p { world:=world,gs:=m.gs,rest:=m.rest } _)) ?_
    split
    · split
      · exact h1
      · refine sC h1 ?_
        split
        all_goals trivial
    · split
      · exact Jn _ p _ { world:=world,gs:=m.gs,rest:=m.rest } h1
      · rename_i t _
        generalize (choose (.extern "clock.wait" (t - m.world.os.mono+1)):Sem Nat)=sc
        cases e2:sc.run p world with
        | halt _ _=>trivial
        | ok k2 w2 =>
          have h2:=Nat.le_trans h1 (eA e2)
          match k2 with
          | 0=>exact Jn _ p _ { world:=w2,gs:=m.gs,rest:=m.rest } h2
          | 1=>exact h2
          | k+2=>exact Jn _ p _ (({ world:=w2,gs:=m.gs,rest:=m.rest }:Machine).advanceTo (t - (k+1))) h2
theorem PU (p:Program) (m:Machine):GJ m.world.drawn (Go.ask p m):=by
  unfold Go.ask
  refine sC ?_ (zm _ _)
  generalize (choose (.extern "collector.look" 2):Sem Nat)=sc
  cases e:sc.run p m.world with
  | halt _ _=>trivial
  | ok k w =>
    have h1:=eA e
    match k with
    | 0=>exact xY h1 (zm p { m with world:=w })
    | 1 =>
      have h2:=PT p m.gs m.rest w
      show GJ m.world.drawn (match Go.look p m.gs m.rest w with | .next m=>askOn p m | e=>.machine e)
      cases e2:Go.look p m.gs m.rest w with
      | next m' =>
        rw [e2] at h2
        exact xY (Nat.le_trans h1 h2) (zm p m')
      | ended _ _=>trivial
    | k+2=>exact xY h1 (zm p { m with world:=w })
theorem V4 (p:Program) (m:Machine):GJ m.world.drawn (move p m):=by
  unfold move
  split
  · refine sC (Nat.le_refl _) trivial
  · split
    · refine sC (Nat.le_refl _) ?_
      exact PU p { m with rest:={ m.rest with slice:=none } }
    · exact PU p m
theorem Oo {p:Program} {m m':Machine} (h:step p m=.next m'):m.world.drawn≤m'.world.drawn:=by
  have hs:sle m.world.drawn (step p m):=by
    unfold step stepT
    have h:=V4 p m
    cases e:move p m with
    | goroutine m1 i =>
      rw [e] at h
      exact sB h (TP p m1 i true)
    | machine s ops =>
      rw [e] at h
      exact h
  rw [h] at hs
  exact hs
theorem xZ {p:Program}:∀ (n:Nat) {m m':Machine},runN p n m=.next m'→m.world.drawn≤m'.world.drawn
  | 0,m,m',h=>by
    simp only [runN,Stepped.next.injEq] at h
    rw [h]
    exact Nat.le_refl _
  | n+1,m,m',h=>by
    simp only [runN] at h
    split at h
    · exact Nat.le_trans (Oo ‹_›) (xZ n h)
    · rename_i gN
      exact absurd h (by first | exact gN m' | skip)
/-- a call aa5 no less aer had aes drawn -/
theorem Calls.drawn {P:Program} {f:FuncId} {args:Array Value} {w:World} {R:Ending→World→Prop} (h:Calls P f args w R) (hR:∀ w',¬ R .outgrown w'):Calls P f args w fun e w'=>R e w'∧w.drawn≤w'.drawn:=by
  intro cs
  obtain ⟨e,w',fr,h1,h2,h3⟩:=h cs
  refine ⟨e,w',fr,⟨h1,?_⟩,h2,h3⟩
  cases e with
  | outgrown=>exact absurd h1 (hR w')
  | returned v =>
    obtain ⟨n,hn⟩:=h2
    exact xZ n hn
  | panicked c =>
    obtain ⟨n,hn⟩:=h2
    exact xZ n hn
/-- IB a call leaves NC keeps all there was is IB there was,with aa5 and new blocks -/
theorem Oq {w w':World} (h:Go.RowKit.Below w.heap.size w w') (hd:w.drawn≤w'.drawn):∃ q os,w'=Go.Sort.grow (w.drewN q) os:=by
  refine ⟨w'.drawn - w.drawn,w'.heap.extract w.heap.size w'.heap.size,?_⟩
  have hh:w'.heap=w.heap++w'.heap.extract w.heap.size w'.heap.size:=by
    apply Array.ext
    · have:=h.size
      simp
      omega
    · intro i h1 h2
      by_cases c:i < w.heap.size
      · have:=h.block i c
        rw [Array.getElem_append_left c]
        rw [Array.getElem?_eq_getElem h1,Array.getElem?_eq_getElem c] at this
        exact Option.some.inj this
      · rw [Array.getElem_append_right (by omega)]
        simp
        congr 1
        omega
  obtain ⟨hp,tp,dr,os,out⟩:=w'
  have h1:os=w.os:=h.os
  have h2:tp=w.tape:=h.tape
  have h3:out=w.output:=h.output
  dsimp only at hd hh
  subst h1; subst h2; subst h3
  show _=({ heap:=w.heap++_,tape:=w.tape,drawn:=w.drawn+(dr - w.drawn),os:=w.os,output:=w.output }:World)
  rw [show w.drawn+(dr - w.drawn)=dr by omega]
  congr 1
variable [oa]
instance {α β:Type} [Inhabited α]:Inhabited (Sum α β):=⟨.inl default⟩
abbrev iv (n:Int):AV:=.d (.v (.int .i64 n))
abbrev bv (b:Bool):AV:=.d (.v (.bool b))
abbrev sv (s:ByteArray):AV:=.d (.v (.string s))
abbrev av (cs:List D):AV:=.d (.agg cs)
abbrev lv {α:Type} [Inhabited α] (cells:α→List D) (l:List α):AV:=.d (qO cells l)
abbrev nv:AV:=.d (.v (.slice none 0 0))
abbrev ow {α:Type} (κ:Nat) (l:List α):AV:=.own κ l.length
abbrev cm {α:Type} [Inhabited α] (e k:Nat) (cells:α→List D) (l:List α):aZ:=.row e k l.length fun i=>cells (l.getD i default)
abbrev dI (n:Int):D:=.v (.int .i64 n)
abbrev dB (b:Bool):D:=.v (.bool b)
def bI (n:Int):Int:=IntKind.i64.wrap n
def Cp (k:IntKind) (a b:Int):Int:=k.wrap (BitVec.ofInt k.bits a &&& BitVec.ofInt k.bits b).toNat
def V5 (k:IntKind) (a b:Int):Int:=k.wrap (BitVec.ofInt k.bits a ||| BitVec.ofInt k.bits b).toNat
def Q4 (k:IntKind) (a b:Int):Int:=k.wrap (a * 2 ^ (min b.toNat k.bits))
theorem aD {n:Int} (h1 : -9223372036854775808≤n) (h2:n≤9223372036854775807):bI n=n:=QY h1 h2
structure Ot (α:Type) where
 cells:α→List D
 k:Nat
 len:∀ x,(cells x).length=k
 one:∀ x,(cells x).all uQ=true
def eJ:Ot Int:=⟨cw,1,fun _=>rfl,fun _=>rfl⟩
def sD:Ot ByteArray:=⟨fZ,1,fun _=>rfl,fun _=>rfl⟩
def u8C (n:Int):List D:=[.v (.int .u8 n)]
def jj (s:ByteArray):List Int:=s.data.toList.map fun b=>(b.toNat:Int)
def YY (s:ByteArray):pg:=⟨s.size,(jj s).length,fun i=>[.v (.int .u8 (s.data.toList.getD i 0).toNat)],fun i=>u8C ((jj s).getD i default),by
 refine ⟨by simp [jj],fun i hi=>?_⟩
 have eG:i < s.data.size:=hi
 have e:(jj s).getD i default=((s.data.toList.getD i 0).toNat:Int):=by
  simp only [jj,List.getD,List.getElem?_map,Array.getElem?_toList,Array.getElem?_eq_getElem eG,Option.map_some,Option.getD_some]
 rw [e]
 exact tF.rfl'⟩
abbrev mpB {α:Type} [Inhabited α] (enc:α→D) (ks:List Int) (vs:List α):aZ:=.mp ks.length fun i=>(.int .i64 (ks.getD i 0),enc (vs.getD i default))
abbrev xr {α:Type} [Inhabited α] (enc:α→D) (m:List (Int × α)):Nat→Value × D:=fun i=>(.int .i64 (m.getD i default).1,enc (m.getD i default).2)
abbrev mpM {α:Type} [Inhabited α] (enc:α→D) (m:List (Int × α)):aZ:=.mp m.length (xr enc m)
abbrev pmM {α:Type} [Inhabited α] (enc:α→D) (m:List (Int × α)):AV:=.uO m.length (xr enc m)
def wX {α:Type}:List (Int × α)→Int→α→List (Int × α)
 | [],k,v=>[(k,v)]
 | p :: r,k,v=>bif k == p.1 then (p.1,v) :: r else p :: wX r k v
def xt {α:Type}:List (Int × α)→Int→Option α
 | [],_=>none
 | p :: r,k=>bif k == p.1 then some p.2 else xt r k
def Jo {α:Type} (m:List (Int × α)) (k:Int) (z:α):α:=(xt m k).getD z
theorem XB {α:Type} [Inhabited α] (enc:α→D) (m:List (Int × α)):∀ i,i < m.length→∃ b,(xr enc m i).1=.int .i64 b:=fun i _=>⟨_,rfl⟩
theorem AO {α:Type} [Inhabited α] (enc:α→D) (k:Int):∀ (m:List (Int × α)),match cY (.int .i64 k) m.length (xr enc m) with
  | some p=>p < m.length∧(xr enc m p).1=.int .i64 k∧xt m k=some (m.getD p default).2∧∀ v,wX m k v=m.set p ((m.getD p default).1,v)
  | none=>xt m k=none∧∀ v,wX m k v=m++[(k,v)]
 | []=>⟨rfl,fun _=>rfl⟩
 | p :: r=>by
  have ih:=AO enc k r
  have e:(fun i=>xr enc (p :: r) (i+1))=xr enc r:=by funext i; simp [xr]
  have e0:(xr enc (p :: r) 0).1=.int .i64 p.1:=rfl
  simp only [List.length_cons,cY,e,e0,tV,decide_true,Bool.true_and,List.getD_cons_zero]
  cases hk:(k == p.1) with
  | true =>
   have eD:k=p.1:=by simpa using hk
   simp only [cond_true]
   refine ⟨by omega,by rw [eD]; rfl,by simp [xt,hk],fun v=>by simp [wX,hk]⟩
  | false =>
   simp only [cond_false]
   cases hq:cY (.int .i64 k) r.length (xr enc r) with
   | none =>
    rw [hq] at ih
    simp only [Option.map_none]
    exact ⟨by simp only [xt,hk,cond_false]; exact ih.1,fun v=>by simp only [wX,hk,cond_false,ih.2 v,List.cons_append]⟩
   | some q =>
    rw [hq] at ih
    obtain ⟨i1,i2,i3,i4⟩:=ih
    simp only [Option.map_some]
    refine ⟨by simpa using i1,?_,?_,fun v=>?_⟩
    ·rw [← i2]; rfl
    ·simp only [xt,hk,cond_false]; rw [i3]; simp
    ·simp only [wX,hk,cond_false,i4 v]; simp
def mkM {α:Type} [Inhabited α] (enc:α→D):vj:=⟨0,([]:List (Int × α)).length,fun _=>(.bool false,default),xr enc ([]:List (Int × α)),rfl,fun i hi=>absurd hi (by omega)⟩
def acX {α:Type} [Inhabited α] (enc:α→D) (m:List (Int × α)) (k:Int) (v:α):vj:=⟨GB (.int .i64 k) m.length (xr enc m),(wX m k v).length,Ao (.int .i64 k) (enc v) m.length (xr enc m),xr enc (wX m k v),by
 have h:=AO enc k m
 unfold GB Ao
 cases hq:cY (.int .i64 k) m.length (xr enc m) with
 | none =>
  rw [hq] at h
  simp only
  rw [h.2 v]
  refine ⟨by simp,fun i hi=>?_⟩
  by_cases c:i < m.length
  ·simp [xr,c,List.getD,List.getElem?_append_left c]
  ·obtain rfl:i=m.length:=by omega
   simp [xr,List.getD]
 | some p =>
  rw [hq] at h
  obtain ⟨h1,h2,h3,h4⟩:=h
  simp only
  rw [h4 v]
  refine ⟨by simp,fun i hi=>?_⟩
  by_cases c:i=p
  ·subst c
   simp [xr,List.getD,h1]
  ·simp [xr,c,List.getD,List.getElem?_set_ne (fun e=>c e.symm)]⟩
theorem Q5 {α:Type} [Inhabited α] (enc:α→D) (m:List (Int × α)) (k:Int) (z:α):cB (.int .i64 k) m.length (xr enc m) (enc z)=enc (Jo m k z):=by
 have h:=AO enc k m
 unfold cB Jo
 cases hq:cY (.int .i64 k) m.length (xr enc m) with
 | none=>rw [hq] at h; simp only [h.1]; rfl
 | some p=>rw [hq] at h; simp only [h.2.2.1]; rfl
def getM {α:Type} [Inhabited α] (enc:α→D) (m:List (Int × α)) (k:Int) (z:α):xo:=⟨.d (cB (.int .i64 k) m.length (xr enc m) (enc z)),.d (enc (Jo m k z)),fun _ _ _ _ _ h=>by rw [← Q5 enc m k z]; exact h⟩
theorem EO {n n':Nat} {f f':Nat→List D} (h:n=n'∧∀ i,i < n→f i=f' i):n=n'∧∀ i,i < n→tF (f i) (f' i):=⟨h.1,fun i hi=>tF.of_eq (h.2 i hi)⟩
section
variable {α : Type} [Inhabited α] (E : Ot α)
theorem Ot.src (M:List α):(∀ i,i < M.length→(E.cells (M.getD i default)).length=E.k)∧∀ i,i < M.length→(E.cells (M.getD i default)).all uQ=true:=⟨fun _ _=>E.len _,fun _ _=>E.one _⟩
theorem Ot.jz (M:List α):∀ i,i < M.length→(E.cells (M.getD i default)).all uQ=true:=fun _ _=>E.one _
theorem Ot.lens (M:List α):∀ i,i < M.length→(E.cells (M.getD i default)).length=E.k:=fun _ _=>E.len _
def fo (L M:List α):pg:=⟨L.length+M.length,(L++M).length,fun q=>if q < L.length then E.cells (L.getD q default) else E.cells (M.getD (q - L.length) default),fun i=>E.cells ((L++M).getD i default),EO (VM E.cells L M)⟩
def acY (L:List α) (p:Nat) (y:α):pg:=⟨L.length,(L.set p y).length,fun q=>if q=p then E.cells y else E.cells (L.getD q default),fun i=>E.cells ((L.set p y).getD i default),EO <| by
 refine ⟨by simp,fun i hi=>?_⟩
 split
 ·rename_i h
  subst h
  simp [List.getD,hi]
 ·rename_i h
  simp [List.getD,List.getElem?_set_ne (fun e=>h e.symm)]⟩
def dz (L:List α) (lo n:Nat):List α:=(List.range n).map fun i=>L.getD (lo+i) default
def TQ (L:List α) (lo n:Nat):pg:=⟨n,(dz L lo n).length,fun i=>E.cells (L.getD (lo+i) default),fun i=>E.cells ((dz L lo n).getD i default),EO <| by
 refine ⟨by simp [dz],fun i hi=>?_⟩
 have:(dz L lo n).getD i default=L.getD (lo+i) default:=by simp [dz,List.getD,hi]
 rw [this]⟩
def acZ (L:List α) (h:Nat):pg:=⟨h,(dz L 0 h).length,fun i=>E.cells (L.getD i default),fun i=>E.cells ((dz L 0 h).getD i default),EO <| by
 refine ⟨by simp [dz],fun i hi=>?_⟩
 have:(dz L 0 h).getD i default=L.getD i default:=by simp [dz,List.getD,hi]
 rw [this]⟩
theorem LV (k:Nat) (hk:∀ x,(E.cells x).length=k):∀ (xs:List α) (i j:Nat),i < xs.length→j < k→(xs.flatMap E.cells).getD (i * k+j) default=(E.cells (xs.getD i default)).getD j default
 | [],i,j,hi,_=>absurd hi (by simp)
 | x :: r,0,j,_,hj=>by
  simp only [List.flatMap_cons,Nat.zero_mul,Nat.zero_add,List.getD_cons_zero]
  rw [List.getD,List.getElem?_append_left (by rw [hk]; exact hj)]
  rfl
 | x :: r,i+1,j,hi,hj=>by
  have ih:=LV k hk r i j (by simpa using hi) hj
  simp only [List.flatMap_cons,List.getD_cons_succ]
  rw [List.getD,List.getElem?_append_right (by rw [hk,Nat.add_mul,Nat.one_mul]; omega),hk,show (i+1) * k+j - k=i * k+j by rw [Nat.add_mul,Nat.one_mul]; omega]
  exact ih
theorem oB (k:Nat) (hk:∀ x,(E.cells x).length=k):∀ (xs:List α),(xs.flatMap E.cells).length=xs.length * k
 | []=>by simp
 | x :: r=>by simp [List.flatMap_cons,hk,oB k hk r,Nat.add_mul,Nat.add_comm]
def dw (xs:List α):pg:=⟨xs.length,xs.length,xK E.k xs.length (xs.flatMap E.cells),fun i=>E.cells (xs.getD i default),EO <| by
 refine ⟨rfl,fun i hi=>?_⟩
 obtain ⟨h1,h2⟩:=vb (k:=E.k) (len:=xs.length) (ds:=xs.flatMap E.cells) (oB E E.k E.len xs) hi
 apply List.ext_getElem?
 intro j
 by_cases hj:j < E.k
 ·have h3:=h2 j hj
  rw [LV E E.k E.len xs i j hi hj] at h3
  have l1:j < (xK E.k xs.length (xs.flatMap E.cells) i).length:=by omega
  have l2:j < (E.cells (xs.getD i default)).length:=by rw [E.len]; exact hj
  rw [List.getD,List.getD,List.getElem?_eq_getElem l1,List.getElem?_eq_getElem l2] at h3
  rw [List.getElem?_eq_getElem l1,List.getElem?_eq_getElem l2]
  simpa using h3
 ·rw [List.getElem?_eq_none (by omega),List.getElem?_eq_none (by rw [E.len]; omega)]⟩
def EP (L:List α) (x:Nat) (z:α):List α:=L.take x++List.replicate (L.length - x) z
theorem vw (L:List α) (x:Nat) (z:α):(EP L x z).length=L.length:=by
 simp [EP]
 omega
def ac0 (L:List α) (x:Nat) (z:α) (ds:List D) (h:Ts ds (E.cells z)=(Ts ds (E.cells z)).diag):pg:=⟨L.length,(EP L x z).length,rR x (fun i=>E.cells (L.getD i default)) ds,fun i=>E.cells ((EP L x z).getD i default),by
 refine ⟨(vw L x z).symm,fun i hi=>?_⟩
 unfold rR
 split
 ·rename_i h
  have e:(EP L x z).getD i default=L.getD i default:=by
   simp only [EP,List.getD]
   rw [List.getElem?_append_left (by simp; omega),List.getElem?_take,if_pos h]
  rw [e]
  exact tF.rfl'
 ·rename_i h'
  have e:(EP L x z).getD i default=z:=by
   simp only [EP,List.getD]
   have h1:(L.take x).length=x:=by simp; omega
   have h2:i - x < L.length - x:=by omega
   rw [List.getElem?_append_right (by omega),h1,List.getElem?_replicate,if_pos h2]
   rfl
  rw [e]
  exact Dz (CT.HR h)⟩
end
abbrev cM (i:Int) (n:Nat):Prop:=0≤i∧i < (n:Int)
abbrev jH (n m bytes:Nat):Prop:=n+m≤maxLen∧(n+m) * bytes≤140737488355328
abbrev V6 (n:Int) (bytes:Nat):Prop:=0≤n∧n.toNat≤maxLen∧n.toNat * bytes≤140737488355328
def bw.z:bw Unit:=⟨(),fun _=>[],fun _=>none,True,fun _ _ h=>(by cases h),fun _=>True,trivial⟩
abbrev Sk.nx {α ι:Type} (id t n:Nat) (a:ι):Sk (α ⊕ ι):=.r id .z fun _=>.wi t (bI ((n:Int)+1)) ((n+1:Nat):Int) (.fin (.inr a))
def bw.p (p:Prop):bw Unit:=⟨(),fun _=>[],fun _=>some p,p,fun h _ e=>by cases e; exact h,fun _=>True,trivial⟩
def bw.t {p:Prop} (h:p):bw Unit:=⟨(),fun _=>[],fun _=>some p,True,fun _ _ e=>by cases e; exact h,fun _=>True,trivial⟩
def bw.pt (p:Prop) {q:Prop} (h:q):bw Unit:=⟨(),fun _=>[],fun _=>some (p∧q),p,fun hp _ e=>by cases e; exact ⟨hp,h⟩,fun _=>True,trivial⟩
def bw.o (l:List xP):bw Unit:=⟨(),fun _=>l,fun _=>none,True,fun _ _ h=>(by cases h),fun _=>True,trivial⟩
theorem zn {x y:Option Prop} (h1:∀ p,x=some p→p) (h2:∀ p,y=some p→p) (p:Prop) (e:AM x y=some p):p:=by
 cases x with
 | none=>exact h2 p (by simpa [AM] using e)
 | some a =>
  cases y with
  | none=>exact h1 p (by simpa [AM] using e)
  | some b =>
   simp only [AM,Option.some.injEq] at e
   subst e
   exact ⟨h1 a rfl,h2 b rfl⟩
def YZ (e w:Bool):Option Prop→Option Prop
 | none=>none
 | some p=>some (e=w→p)
theorem V7 {x:Option Prop} {e w:Bool} (h:e=w→∀ p,x=some p→p) (p:Prop) (hp:YZ e w x=some p):p:=by
 cases x with
 | none=>cases hp
 | some a =>
  simp only [YZ,Option.some.injEq] at hp
  subst hp
  exact fun he=>h he a rfl
def bw.and {α β:Type} (a:bw α) (b:bw β):bw (α × β):=⟨(a.v,b.v),fun x=>a.ji x.1++b.ji x.2,fun x=>AM (a.qZ x.1) (b.qZ x.2),a.pre∧b.pre,fun h=>zn (a.pf h.1) (b.pf h.2),fun x=>a.post x.1∧b.post x.2,⟨a.hp,b.hp⟩⟩
def bw.ak {β:Type} (a:bw Unit) (b:bw β):bw β:=⟨b.v,fun x=>a.ji ()++b.ji x,fun x=>AM (a.qZ ()) (b.qZ x),a.pre∧b.pre,fun h=>zn (a.pf h.1) (b.pf h.2),b.post,b.hp⟩
def bw.AP {α:Type} (a:bw α) (b:bw Unit):bw α:=⟨a.v,fun x=>a.ji x++b.ji (),fun x=>AM (a.qZ x) (b.qZ ()),a.pre∧b.pre,fun h=>zn (a.pf h.1) (b.pf h.2),a.post,a.hp⟩
def bw.wh {β:Type} (e w:Bool) (a:bw β):bw β:=⟨a.v,a.ji,fun x=>YZ e w (a.qZ x),e=w→a.pre,fun h=>V7 fun he=>a.pf (h he),a.post,a.hp⟩
def bw.dep {α β:Type} (a:bw α) (b:α→bw β):bw (α × β):=⟨(a.v,(b a.v).v),fun x=>a.ji x.1++(b x.1).ji x.2,fun x=>AM (a.qZ x.1) ((b x.1).qZ x.2),a.pre∧∀ x,x=a.v→a.post x→(b x).pre,fun h=>zn (a.pf h.1) ((b a.v).pf (h.2 _ rfl a.hp)),fun x=>a.post x.1∧(b x.1).post x.2,⟨a.hp,(b a.v).hp⟩⟩
def bw.sE {α:Type} (a:bw α) (b:α→bw Unit):bw α:=⟨a.v,fun x=>a.ji x++(b x).ji (),fun x=>AM (a.qZ x) ((b x).qZ ()),a.pre∧∀ x,x=a.v→a.post x→(b x).pre,fun h=>zn (a.pf h.1) ((b a.v).pf (h.2 _ rfl a.hp)),a.post,a.hp⟩
structure iM (β:Type) where
 P:Program
 f:FuncId
 args:List AV
 enc:β→AV
 fl:Bool
 v:β
 pre:Prop
 pf:pre→kE P f args [] (enc v) []
 post:β→Prop:=fun _=>True
 hp:post v:=by trivial
def iM.c {β:Type} (c:iM β):bw β:=⟨c.v,fun x=>[bif c.fl then .flat (c.enc x) else .gen [] (c.enc x) []],fun x=>some (kE c.P c.f c.args [] (c.enc x) []),c.pre,fun hp _ e=>by cases e; exact c.pf hp,c.post,c.hp⟩
theorem qj.refl:∀ (l:List AV),qj l l
 | []=>trivial
 | _ :: r=>⟨pF.rfl',qj.refl r⟩
theorem qj.set:∀ (l:List AV) (i:Nat) (x y:AV),l[i]? = some y→pF x y→qj (l.set i x) l
 | [],i,_,_,h,_=>by simp at h
 | z :: r,0,x,y,h,hle=>by
  simp only [List.getElem?_cons_zero,Option.some.injEq] at h
  subst h
  exact ⟨hle,qj.refl r⟩
 | z :: r,i+1,x,y,h,hle=>⟨pF.rfl',qj.set r i x y (by simpa using h) hle⟩
def iM.nil {β:Type} (c:iM β) (i:Nat) (h:∃ g,c.args[i]? = some (.d (.sl 0 g))):iM β :=
 { c with args:=c.args.set i nv,pf:=fun hp=>(c.pf hp).PF (let ⟨g,hg⟩:=h; qj.set c.args i _ _ hg (pF.d (oS.nil g))) }
def iM.ub {β:Type} (c:iM β) (i j:Nat) (cs:List D) (h:c.args[i]? = some (.d (.agg cs))) (h2:∃ g,cs[j]? = some (.sl 0 g)):iM β :=
 {c with args:=c.args.set i (.d (.agg (cs.set j (.v (.slice none 0 0))))),pf:=fun hp=>(c.pf hp).PF (qj.set c.args i _ _ h (pF.d (oS.agg (by simp) (fun q hq=>by
   obtain ⟨g,hg⟩:=h2
   by_cases e:j=q
   ·subst e
    have hj:j < cs.length:=by simpa using hq
    have e1:(cs.set j (.v (.slice none 0 0))).getD j default=.v (.slice none 0 0):=by simp [List.getD,hj]
    have e2:cs.getD j default=.sl 0 g:=by simp [List.getD,hg]
    rw [e1,e2]
    exact oS.nil g
   ·have e1:(cs.set j (.v (.slice none 0 0))).getD q default=cs.getD q default:=by simp [List.getD,List.getElem?_set_ne e]
    rw [e1]
    exact oS.rfl')))) }
@[simp] theorem bw.ac1 (x:Unit):bw.z.post x=True:=rfl
@[simp] theorem bw.ac2 (p:Prop) (x:Unit):(bw.p p).post x=True:=rfl
@[simp] theorem bw.ac3 {p:Prop} (h:p) (x:Unit):(bw.t h).post x=True:=rfl
@[simp] theorem bw.abK (p:Prop) {q:Prop} (h:q) (x:Unit):(bw.pt p h).post x=True:=rfl
@[simp] theorem bw.ac4 (l:List xP) (x:Unit):(bw.o l).post x=True:=rfl
@[simp] theorem bw.aa6 {α β:Type} (a:bw α) (b:bw β) (x:α × β):(a.and b).post x=(a.post x.1∧b.post x.2):=rfl
@[simp] theorem bw.aab {β:Type} (a:bw Unit) (b:bw β) (x:β):(a.ak b).post x=b.post x:=rfl
@[simp] theorem bw.aac {β:Type} (a:bw β) (b:bw Unit) (x:β):(a.AP b).post x=a.post x:=rfl
@[simp] theorem bw.abL {β:Type} (e w:Bool) (a:bw β) (x:β):(a.wh e w).post x=a.post x:=rfl
@[simp] theorem bw.aa7 {α β:Type} (a:bw α) (b:α→bw β) (x:α × β):(a.dep b).post x=(a.post x.1∧(b x.1).post x.2):=rfl
@[simp] theorem bw.aad {α:Type} (a:bw α) (b:α→bw Unit) (x:α):(a.sE b).post x=a.post x:=rfl
@[simp] theorem iM.Jp {β:Type} (c:iM β) (x:β):c.c.post x=c.post x:=rfl
@[simp] theorem iM.TS {β:Type} (c:iM β) (i:Nat) (h:∃ g,c.args[i]? = some (.d (.sl 0 g))) (x:β):(c.nil i h).post x=c.post x:=rfl
@[simp] theorem iM.aae {β:Type} (c:iM β) (i j:Nat) (cs:List D) (h:c.args[i]? = some (.d (.agg cs))) (h2:∃ g,cs[j]? = some (.sl 0 g)) (x:β):(c.ub i j cs h h2).post x=c.post x:=rfl
@[simp] theorem bw.ad7:bw.z.pre=True:=rfl
@[simp] theorem bw.ad8 (p:Prop):(bw.p p).pre=p:=rfl
@[simp] theorem bw.ad9 {p:Prop} (h:p):(bw.t h).pre=True:=rfl
@[simp] theorem bw.ac5 (p:Prop) {q:Prop} (h:q):(bw.pt p h).pre=p:=rfl
@[simp] theorem bw.aea (l:List xP):(bw.o l).pre=True:=rfl
@[simp] theorem bw.abM {α β:Type} (a:bw α) (b:bw β):(a.and b).pre=(a.pre∧b.pre):=rfl
@[simp] theorem bw.aa8 {β:Type} (a:bw Unit) (b:bw β):(a.ak b).pre=(a.pre∧b.pre):=rfl
@[simp] theorem bw.aa9 {β:Type} (a:bw β) (b:bw Unit):(a.AP b).pre=(a.pre∧b.pre):=rfl
@[simp] theorem bw.ac6 {β:Type} (e w:Bool) (a:bw β):(a.wh e w).pre=(e=w→a.pre):=rfl
@[simp] theorem bw.abN {α β:Type} (a:bw α) (b:α→bw β):(a.dep b).pre=(a.pre∧∀ x,x=a.v→a.post x→(b x).pre):=rfl
@[simp] theorem bw.aba {α:Type} (a:bw α) (b:α→bw Unit):(a.sE b).pre=(a.pre∧∀ x,x=a.v→a.post x→(b x).pre):=rfl
@[simp] theorem bw.PV {α β:Type} (a:bw α) (b:α→bw β):(a.dep b).v=(a.v,(b a.v).v):=rfl
@[simp] theorem bw.ac7 {α:Type} (a:bw α) (b:α→bw Unit):(a.sE b).v=a.v:=rfl
@[simp] theorem iM.PW {β:Type} (c:iM β):c.c.pre=c.pre:=rfl
@[simp] theorem iM.Cq {β:Type} (c:iM β):c.c.v=c.v:=rfl
@[simp] theorem iM.V8 {β:Type} (c:iM β) (i:Nat) (h:∃ g,c.args[i]? = some (.d (.sl 0 g))):(c.nil i h).pre=c.pre:=rfl
@[simp] theorem iM.abb {β:Type} (c:iM β) (i:Nat) (h:∃ g,c.args[i]? = some (.d (.sl 0 g))):(c.nil i h).v=c.v:=rfl
@[simp] theorem iM.abc {β:Type} (c:iM β) (i j:Nat) (cs:List D) (h:c.args[i]? = some (.d (.agg cs))) (h2:∃ g,cs[j]? = some (.sl 0 g)):(c.ub i j cs h h2).pre=c.pre:=rfl
@[simp] theorem iM.ac8 {β:Type} (c:iM β) (i j:Nat) (cs:List D) (h:c.args[i]? = some (.d (.agg cs))) (h2:∃ g,cs[j]? = some (.sl 0 g)):(c.ub i j cs h h2).v=c.v:=rfl
@[simp] theorem bw.aeb {α β:Type} (a:bw α) (b:bw β):(a.and b).v=(a.v,b.v):=rfl
@[simp] theorem bw.ac9 {β:Type} (a:bw Unit) (b:bw β):(a.ak b).v=b.v:=rfl
@[simp] theorem bw.ada {β:Type} (a:bw β) (b:bw Unit):(a.AP b).v=a.v:=rfl
@[simp] theorem bw.V9 {β:Type} (e w:Bool) (a:bw β):(a.wh e w).v=a.v:=rfl
structure gR (β:Type) where
 P:Program
 f:FuncId
 args:List AV
 enc:β→AV
 rS:β→List (Nat × aZ)
 v:β
 pre:Prop
 pf:pre→kE P f args [] (enc v) (rS v)
 post:β→Prop:=fun _=>True
 hp:post v:=by trivial
def gR.c {β:Type} (c:gR β):bw β:=⟨c.v,fun x=>[.gen [] (c.enc x) (c.rS x)],fun x=>some (kE c.P c.f c.args [] (c.enc x) (c.rS x)),c.pre,fun hp _ e=>by cases e; exact c.pf hp,c.post,c.hp⟩
@[simp] theorem gR.PW {β:Type} (c:gR β):c.c.pre=c.pre:=rfl
@[simp] theorem gR.Cq {β:Type} (c:gR β):c.c.v=c.v:=rfl
def gR.nil {β:Type} (c:gR β) (i:Nat) (h:∃ g,c.args[i]? = some (.d (.sl 0 g))):gR β :=
 { c with args:=c.args.set i nv,pf:=fun hp=>(c.pf hp).PF (let ⟨g,hg⟩:=h; qj.set c.args i _ _ hg (pF.d (oS.nil g))) }
@[simp] theorem gR.V8 {β:Type} (c:gR β) (i:Nat) (h:∃ g,c.args[i]? = some (.d (.sl 0 g))):(c.nil i h).pre=c.pre:=rfl
@[simp] theorem gR.abb {β:Type} (c:gR β) (i:Nat) (h:∃ g,c.args[i]? = some (.d (.sl 0 g))):(c.nil i h).v=c.v:=rfl
@[simp] theorem gR.Jp {β:Type} (c:gR β) (x:β):c.c.post x=c.post x:=rfl
@[simp] theorem gR.TS {β:Type} (c:gR β) (i:Nat) (h:∃ g,c.args[i]? = some (.d (.sl 0 g))) (x:β):(c.nil i h).post x=c.post x:=rfl
structure GK (β:Type) where
 P:Program
 f:FuncId
 args:List AV
 cj:List (Nat × aZ)
 fX:List (Nat × Nat)
 enc:β→AV
 rS:β→List (Nat × aZ)
 v:β
 pre:Prop
 pf:pre→SK P f args cj (enc v) (rS v) fX
 post:β→Prop:=fun _=>True
 hp:post v:=by trivial
def GK.c {β:Type} (c:GK β):bw β:=⟨c.v,fun x=>[.bx (c.cj.map (·.1)) c.fX (c.enc x) (c.rS x)],fun x=>some (SK c.P c.f c.args c.cj (c.enc x) (c.rS x) c.fX),c.pre,fun hp _ e=>by cases e; exact c.pf hp,c.post,c.hp⟩
@[simp] theorem GK.PW {β:Type} (c:GK β):c.c.pre=c.pre:=rfl
@[simp] theorem GK.Cq {β:Type} (c:GK β):c.c.v=c.v:=rfl
@[simp] theorem GK.Jp {β:Type} (c:GK β) (x:β):c.c.post x=c.post x:=rfl
theorem kE.PX {P:Program} {f:FuncId} {args:List AV} {K n e k m:Nat} {r:Nat→List D} (κ:Nat) (h:kE P f args [] (.own K n) [(K,.row e k m r)]):kE P f args [] (.own κ n) [(κ,.row e k m r)]:=by
 refine ⟨h.1,fun w S μ vs h1 h2 h3 h4 h5=>(h.2 w S μ vs h1 h2 h3 h4 h5).mono ?_⟩
 rintro e0 w' ⟨v,S',μ',rfl,B⟩
 have lk:∀ q b,look [(κ,aZ.row e k m r)] q=some b→q=κ∧b=.row e k m r:=fun q b hq=>by
  rw [bf] at hq
  split at hq
  ·rename_i e; simp only [Option.some.injEq] at hq; exact ⟨e.symm,hq.symm⟩
  ·simp [look] at hq
 have lK:look [(K,aZ.row e k m r)] K=some (.row e k m r):=by rw [bf,if_pos rfl]
 refine ⟨v,S',fun _=>μ' K,rfl,⟨fun ν=>?_,fun q b hq=>?_,fun q1 q2 b1 b2 g c c' x1 x2 _ _=>by rw [(lk q1 b1 x1).1,(lk q2 b2 x2).1],fun q b g c x1 x2=>B.own K _ g c lK x2,B.sub,B.new,B.bound,B.kept⟩⟩
 ·cases B.res ν with
  | cR hμ=>exact .cR hμ
  | own hμ=>exact .own hμ
 ·obtain ⟨rfl,rfl⟩:=lk q b hq
  exact (B.mem K _ lK).agree (fun k hk=>by simp [aZ.keys] at hk)
structure GL (β:Type) where
 P:Program
 f:FuncId
 args:List AV
 κ:Nat
 b:aZ
 enc:β→aZ
 v:β
 pre:Prop
 pf:pre→ZZ P f args κ b (enc v)
 post:β→Prop:=fun _=>True
 hp:post v:=by trivial
def GL.c {β:Type} (c:GL β):bw β:=⟨c.v,fun x=>[.same c.κ (c.enc x)],fun x=>some (ZZ c.P c.f c.args c.κ c.b (c.enc x)),c.pre,fun hp _ e=>by cases e; exact c.pf hp,c.post,c.hp⟩
@[simp] theorem GL.PW {β:Type} (c:GL β):c.c.pre=c.pre:=rfl
@[simp] theorem GL.Cq {β:Type} (c:GL β):c.c.v=c.v:=rfl
@[simp] theorem GL.Jp {β:Type} (c:GL β) (x:β):c.c.post x=c.post x:=rfl
structure Jq (β:Type) where
 P:Program
 f:FuncId
 args:List AV
 cj:List (Nat × aZ)
 enc:β→AV
 rS:β→List (Nat × aZ)
 v:β
 pre:Prop
 pf:pre→kE P f args cj (enc v) (rS v)
 post:β→Prop:=fun _=>True
 hp:post v:=by trivial
def Jq.c {β:Type} (c:Jq β):bw β:=⟨c.v,fun x=>[.gen (c.cj.map (·.1)) (c.enc x) (c.rS x)],fun x=>some (kE c.P c.f c.args c.cj (c.enc x) (c.rS x)),c.pre,fun hp _ e=>by cases e; exact c.pf hp,c.post,c.hp⟩
@[simp] theorem Jq.PW {β:Type} (c:Jq β):c.c.pre=c.pre:=rfl
@[simp] theorem Jq.Cq {β:Type} (c:Jq β):c.c.v=c.v:=rfl
@[simp] theorem Jq.Jp {β:Type} (c:Jq β) (x:β):c.c.post x=c.post x:=rfl
theorem sF {K q:Nat} {b0 b:aZ} (h:look [(K,b0)] q=some b):q=K∧b=b0:=by
 rw [bf] at h
 split at h
 ·rename_i e; simp only [Option.some.injEq] at h; exact ⟨e.symm,h.symm⟩
 ·simp [look] at h
theorem kE.Y0 {P:Program} {f:FuncId} {args:List AV} {cj:List (Nat × aZ)} {K n e k m:Nat} {r:Nat→List D} (κ:Nat) (h:kE P f args cj (.own K n) [(K,.row e k m r)]):kE P f args cj (.own κ n) [(κ,.row e k m r)]:=by
 refine ⟨h.1,fun w S μ vs h1 h2 h3 h4 h5=>(h.2 w S μ vs h1 h2 h3 h4 h5).mono ?_⟩
 rintro e0 w' ⟨v,S',μ',rfl,B⟩
 have lK:look [(K,aZ.row e k m r)] K=some (.row e k m r):=by rw [bf,if_pos rfl]
 refine ⟨v,S',fun _=>μ' K,rfl,⟨fun ν=>?_,fun q b hq=>?_,fun q1 q2 b1 b2 g c c' x1 x2 _ _=>by rw [(sF x1).1,(sF x2).1],fun q b g c x1 x2=>B.own K _ g c lK x2,B.sub,B.new,B.bound,B.kept⟩⟩
 ·cases B.res ν with
  | cR hμ=>exact .cR hμ
  | own hμ=>exact .own hμ
 ·obtain ⟨rfl,rfl⟩:=sF hq
  exact (B.mem K _ lK).agree (fun k hk=>by simp [aZ.keys] at hk)
theorem kE.Y1 {P:Program} {f:FuncId} {GF:List AV} {K n e k m:Nat} {r:Nat→List D} {res:AV} {eH:List (Nat × aZ)} (κ:Nat) (hk:AV.nZ GF=[]) (h:kE P f (.own K n :: GF) [(K,.row e k m r)] res eH):kE P f (.own κ n :: GF) [(κ,.row e k m r)] res eH:=by
 refine ⟨h.1,fun w S μ vs h1 h2 h3 h4 h5=>?_⟩
 have lK:∀ K',look [(K',aZ.row e k m r)] K'=some (.row e k m r):=fun K'=>by rw [bf,if_pos rfl]
 refine (h.2 w S (fun _=>μ κ) vs h1 h2 (fun ν=>?_) (fun q b hq=>?_) (fun q1 q2 b1 b2 g c c' x1 x2 _ _=>by rw [(sF x1).1,(sF x2).1])).mono ?_
 ·obtain ⟨hl,hi⟩:=h3 ν
  refine ⟨by simpa using hl,fun i eG=>?_⟩
  have hq:=hi i (by simpa using eG)
  cases i with
  | zero =>
   simp only [List.getD_cons_zero] at hq ⊢
   generalize vs.toList.getD 0 undef=v at hq ⊢
   cases hq with
   | cR hμ=>exact .cR hμ
   | own hμ=>exact .own hμ
  | succ i =>
   simp only [List.getD_cons_succ] at hq ⊢
   refine hq.agree (fun k' eD=>absurd eD (AV.si GF i (by rw [hk]; simp) (by simpa using eG)))
 ·obtain ⟨rfl,rfl⟩:=sF hq
  exact (h4 κ _ (lK κ)).agree (fun k hk=>by simp [aZ.keys] at hk)
 ·rintro e' w' ⟨v,S',μ',rfl,B⟩
  exact ⟨v,S',μ',rfl,B.K9 (fun b ⟨q,bk,c,x1,x2⟩=>⟨κ,_,c,lK κ,x2⟩)⟩
section
variable {α β ι : Type}
@[simp] theorem Sk.cg (a:α):(Sk.fin a).val=a:=rfl
@[simp] theorem Sk.da (e:Bool) (x y:Sk α):(Sk.br e x y).val=bif e then x.val else y.val:=rfl
@[simp] theorem Sk.fR (id:Nat) (c:bw β) (k:β→Sk α):(Sk.r id c k).val=(k c.v).val:=rfl
@[simp] theorem Sk.iC (t:Nat) (m n:Int) (k:Sk α):(Sk.wi t m n k).val=k.val:=rfl
@[simp] theorem Sk.fA (t j n:Nat) (k:Sk α):(Sk.DJ t j n k).val=k.val:=rfl
@[simp] theorem Sk.adb (κ n n':Nat) (k:Sk α):(Sk.wn κ n n' k).val=k.val:=rfl
@[simp] theorem Sk.ade (κ n n':Nat) (k:Sk α):(Sk.wr κ n n' k).val=k.val:=rfl
@[simp] theorem Sk.abO (k:Sk α):(Sk.Gr k).val=k.val:=rfl
@[simp] theorem Sk.abP (k:Sk α):(Sk.Gs k).val=k.val:=rfl
@[simp] theorem Sk.abd (a:α):(Sk.dead a).val=a:=rfl
@[simp] theorem Sk.abQ (t:Nat) (c:Bool) (x y:AV) (k1 k2:Sk α):(Sk.Q0 t c x y k1 k2).val=bif c then k1.val else k2.val:=rfl
@[simp] theorem Sk.abR (t n:Nat) (k1 k2:Sk α):(Sk.Jj t n k1 k2).val=k2.val:=rfl
@[simp] theorem Sk.adf (κ:Nat) (k:List (Int × Int)→Sk α):(Sk.op κ k).val=(k []).val:=rfl
@[simp] theorem Sk.adg (κ:Nat) (m:List (Int × Int)) (k:Sk α):(Sk.cl κ m k).val=k.val:=rfl
@[simp] theorem Sk.adh (κ:Nat) (q:List (Int × Int)→Prop) (k:List (Int × Int)→Sk α):(Sk.oq κ q k).val=(k (canon q)).val:=rfl
@[simp] theorem Sk.adi (t κ e q:Nat) (f:Nat→List D) (k:Sk α):(Sk.nr t κ e q f k).val=k.val:=rfl
@[simp] theorem Sk.adj (κ:Nat) (k:Sk α):(Sk.fm κ k).val=k.val:=rfl
@[simp] theorem Sk.adk (κ:Nat) (k:Sk α):(Sk.fb κ k).val=k.val:=rfl
@[simp] theorem Sk.Y2 (u:PI) (k:Sk α):(Sk.up u k).val=k.val:=rfl
@[simp] theorem Sk.adl {Y:Type} (κ:Nat) (Q:Y→Prop) (ln:Y→Nat) (en:Y→Nat→Value × D) (d:Y) (k:Y→Sk α):(Sk.ot κ Q ln en d k).val=(k (cT Q d)).val:=rfl
@[simp] theorem Sk.adm {Y:Type} (κ:Nat) (Q:Y→Prop) (ln:Y→Nat) (en:Y→Nat→Value × D) (y:Y) (k:Sk α):(Sk.ct κ Q ln en y k).val=k.val:=rfl
@[simp] theorem Sk.abS {Y:Type} (κ:Nat) (Q:Y→Prop) (en:Y→Nat→List D) (d:Y) (k:Y→Sk α):(Sk.Ny κ Q en d k).val=(k (cT Q d)).val:=rfl
@[simp] theorem Sk.adn {Y:Type} (κ n:Nat) (Q:Y→Prop) (en:Y→Nat→List D) (y:Y) (k:Sk α):(Sk.cr κ n Q en y k).val=k.val:=rfl
@[simp] theorem Sk.ado (κ:Nat) (m:List (Int × Int)) (q:List (Int × Int)→Prop) (k:Sk α):(Sk.cq κ m q k).val=k.val:=rfl
@[simp] theorem Sk.abT (id:Nat) (x:Int) (c:pg) (k:Sk α):(Sk.HQ id x c k).val=k.val:=rfl
@[simp] theorem Sk.TU (κ:Nat) (k:Sk α):(Sk.fz κ k).val=k.val:=rfl
@[simp] theorem Sk.cQ (b:Bool) (J:β→Prop) (s:Sk (α ⊕ β)) (u:β→PI) (k:β→Sk α):(Sk.bind b J s u k).val=bN s.val fun b=>(k b).val:=rfl
@[simp] theorem Sk.adp {σ β Y:Type} (it:ItC Y) (I:Nat→σ→Prop) (B:β→Prop) (id:Nat) (s0:σ) (u:σ→List (Nat × aZ)) (v:β→List (Nat × aZ)) (b:σ→Y→Sk (β ⊕ σ)) (k:β ⊕ σ→Sk α):(Sk.rf it I B id s0 u v b k).val=(k (qN (fun s y=>(b s y).val) it.ys s0)).val:=rfl
@[simp] theorem Sk.eV (d:α) (I:ι→Prop) (m:ι→Nat) (i0:ι) (u:ι→PI) (b:ι→Sk (α ⊕ ι)):(Sk.loop d I m i0 u b).val=iter (fun i=>(b i).val) d (m i0+1) i0:=rfl
variable (L : α → Prop)
@[simp] theorem Sk.abU (a:α):(Sk.fin a).bO L=L a:=rfl
@[simp] theorem Sk.adq (e:Bool) (x y:Sk α):(Sk.br e x y).bO L=((e=true→x.bO L)∧(e=false→y.bO L)):=rfl
@[simp] theorem Sk.aec (id:Nat) (c:bw β) (k:β→Sk α):(Sk.r id c k).bO L=(c.pre∧∀ x,x=c.v→c.post x→(k x).bO L):=rfl
@[simp] theorem Sk.adr (t:Nat) (m n:Int) (k:Sk α):(Sk.wi t m n k).bO L=(m=n∧k.bO L):=rfl
@[simp] theorem Sk.abV (t j n:Nat) (k:Sk α):(Sk.DJ t j n k).bO L=(n≤maxLen→k.bO L):=rfl
@[simp] theorem Sk.ads (κ n n':Nat) (k:Sk α):(Sk.wn κ n n' k).bO L=(n=n'∧k.bO L):=rfl
@[simp] theorem Sk.adt (κ n n':Nat) (k:Sk α):(Sk.wr κ n n' k).bO L=(n=n'∧k.bO L):=rfl
@[simp] theorem Sk.abW (k:Sk α):(Sk.Gr k).bO L=k.bO L:=rfl
@[simp] theorem Sk.abX (k:Sk α):(Sk.Gs k).bO L=k.bO L:=rfl
@[simp] theorem Sk.abe (a:α):(Sk.dead a).bO L=False:=rfl
@[simp] theorem Sk.abY (t:Nat) (c:Bool) (x y:AV) (k1 k2:Sk α):(Sk.Q0 t c x y k1 k2).bO L=((c=true→k1.bO L)∧(c=false→k2.bO L)):=rfl
@[simp] theorem Sk.abZ (t n:Nat) (k1 k2:Sk α):(Sk.Jj t n k1 k2).bO L=((n=0→k1.bO L∧k1.val=k2.val)∧k2.bO L):=rfl
@[simp] theorem Sk.ab0 (id:Nat) (x:Int) (c:pg) (k:Sk α):(Sk.HQ id x c k).bO L=((0≤x∧x≤(c.n:Int))∧k.bO L):=rfl
@[simp] theorem Sk.adu (κ:Nat) (k:Sk α):(Sk.fz κ k).bO L=k.bO L:=rfl
@[simp] theorem Sk.abf (b:Bool) (J:β→Prop) (s:Sk (α ⊕ β)) (u:β→PI) (k:β→Sk α):(Sk.bind b J s u k).bO L=(s.bO (oA L J)∧∀ b,s.val=.inr b→J b→(k b).bO L):=rfl
@[simp] theorem Sk.abg (d:α) (I:ι→Prop) (m:ι→Nat) (i0:ι) (u:ι→PI) (b:ι→Sk (α ⊕ ι)):(Sk.loop d I m i0 u b).bO L=(I i0∧∀ i,I i→(b i).bO (fP L fun j=>I j∧m j < m i)):=rfl
end
section
variable {α β ι : Type} (L : α → Prop)
@[simp] theorem Sk.ab1 (a:α):(Sk.fin a).dj L=L a:=rfl
@[simp] theorem Sk.adv (e:Bool) (x y:Sk α):(Sk.br e x y).dj L=((e=true→x.dj L)∧(e=false→y.dj L)):=rfl
@[simp] theorem Sk.aed (id:Nat) (c:bw β) (k:β→Sk α):(Sk.r id c k).dj L=(∀ x,x=c.v→c.post x→(k x).dj L):=rfl
@[simp] theorem Sk.adw (t:Nat) (m n:Int) (k:Sk α):(Sk.wi t m n k).dj L=k.dj L:=rfl
@[simp] theorem Sk.ab2 (t j n:Nat) (k:Sk α):(Sk.DJ t j n k).dj L=k.dj L:=rfl
@[simp] theorem Sk.adx (κ n n':Nat) (k:Sk α):(Sk.wn κ n n' k).dj L=k.dj L:=rfl
@[simp] theorem Sk.ady (κ n n':Nat) (k:Sk α):(Sk.wr κ n n' k).dj L=k.dj L:=rfl
@[simp] theorem Sk.ab3 (k:Sk α):(Sk.Gr k).dj L=k.dj L:=rfl
@[simp] theorem Sk.ab4 (k:Sk α):(Sk.Gs k).dj L=k.dj L:=rfl
@[simp] theorem Sk.abh (a:α):(Sk.dead a).dj L=L a:=rfl
@[simp] theorem Sk.ab5 (t:Nat) (c:Bool) (x y:AV) (k1 k2:Sk α):(Sk.Q0 t c x y k1 k2).dj L=((c=true→k1.dj L)∧(c=false→k2.dj L)):=rfl
@[simp] theorem Sk.ab6 (t n:Nat) (k1 k2:Sk α):(Sk.Jj t n k1 k2).dj L=k2.dj L:=rfl
@[simp] theorem Sk.ab7 (id:Nat) (x:Int) (c:pg) (k:Sk α):(Sk.HQ id x c k).dj L=k.dj L:=rfl
@[simp] theorem Sk.adz (κ:Nat) (k:Sk α):(Sk.fz κ k).dj L=k.dj L:=rfl
@[simp] theorem Sk.abi (b:Bool) (J:β→Prop) (s:Sk (α ⊕ β)) (u:β→PI) (k:β→Sk α):(Sk.bind b J s u k).dj L=(s.dj (oA L J)∧∀ b,s.val=.inr b→J b→(k b).dj L):=rfl
@[simp] theorem Sk.abj (d:α) (I:ι→Prop) (m:ι→Nat) (i0:ι) (u:ι→PI) (b:ι→Sk (α ⊕ ι)):(Sk.loop d I m i0 u b).dj L=(I i0∧∀ i,I i→(b i).dj (fP L fun j=>I j∧m j < m i)):=rfl
end
@[simp] theorem aaf {α β:Type} (L:α→Prop) (J:β→Prop) (a:α):oA L J (.inl a)=L a:=rfl
@[simp] theorem aag {α β:Type} (L:α→Prop) (J:β→Prop) (b:β):oA L J (.inr b)=J b:=rfl
@[simp] theorem aah {α β:Type} (L:α→Prop) (J:β→Prop) (a:α):fP L J (.inl a)=L a:=rfl
@[simp] theorem aai {α β:Type} (L:α→Prop) (J:β→Prop) (b:β):fP L J (.inr b)=J b:=rfl
@[simp] theorem Q6 {α β:Type} (a:α) (f:β→α):bN (.inl a) f=a:=rfl
@[simp] theorem wv {α β:Type} (b:β) (f:β→α):bN (.inr b) f=f b:=rfl
theorem kT:∀ {a:List D},allI a=true→bZ a a=true
 | [],_=>rfl
 | .v (.int .i64 x) :: r,h=>by
  show ((x == x)&&bZ r r)=true
  simp [kT (a:=r) h]
def LW:Obj→Bool
 | .cells cs _ _=>(match (cs[0]?:Option Value) with | some (.int .i64 _)=>true | _=>false)
 | _=>false
def ER:Obj→Bool
 | .cells cs _ _=>(match (cs[0]?:Option Value) with | some .nilIface=>true | some (.iface _ _)=>true | _=>false)
 | _=>false
def isCells (n:Nat):Obj→Bool
 | .cells cs _ _=>Nat.beq cs.size n
 | _=>false
theorem Ou {w:World} {g:Nat} {o:Obj} (h:w.heap[g]? = some o) (ho:LW o=true):∃ n,w.cell? ⟨g,0,none⟩=some (.int .i64 n):=by
 unfold LW at ho
 split at ho
 ·split at ho
  ·rename_i n hn
   exact ⟨n,by simp [World.cell?,h,hn]⟩
  ·cases ho
 ·cases ho
theorem ES {w:World} {g:Nat} {o:Obj} (h:w.heap[g]? = some o) (ho:ER o=true):∃ v,w.cell? ⟨g,0,none⟩=some v∧(v=.nilIface∨∃ te pe,v=.iface te pe):=by
 unfold ER at ho
 split at ho
 ·split at ho
  ·rename_i hn
   exact ⟨_,by simp [World.cell?,h,hn],.inl rfl⟩
  ·rename_i te pe hn
   exact ⟨.iface te pe,by simp [World.cell?,h,hn],.inr ⟨_,_,rfl⟩⟩
  ·cases ho
 ·cases ho
theorem Ov {w:World} {g n:Nat} {o:Obj} (h:w.heap[g]? = some o) (ho:isCells n o=true):∃ cs t fz,w.heap[g]? = some (.cells cs t fz)∧cs.size=n∧∀ j,w.cell? ⟨g,j,none⟩=cs[j]?:=by
 unfold isCells at ho
 split at ho
 ·rename_i cs t fz
  exact ⟨cs,t,fz,h,Nat.eq_of_beq_eq_true ho,fun j=>by simp [World.cell?,h]⟩
 ·cases ho
theorem kE.pure {P:Program} {f:FuncId} {args:List AV} {res:AV} (hc:dX P f=true)
  (h:∀ (w:World) (S:Nat→Prop) (μ:Mu) (vs:Array Value),(∀ b,S b→b < w.heap.size)→iA w S→(∀ ν,dq w S μ ν args vs.toList)→∃ v,Calls P f vs w (fun e w'=>e=.returned v∧Go.RowKit.Below w.heap.size w w')∧∀ (w':World) (S':Nat→Prop) (μ':Mu) (ν:Nat→Bool),Rel w' S' μ' ν res v):kE P f args [] res []:=by
 refine ⟨hc,fun w S μ vs hS hg hr _ _=>?_⟩
 obtain ⟨v,h1,h2⟩:=h w S μ vs hS hg hr
 refine h1.mono ?_
 rintro e w' ⟨rfl,hb⟩
 exact ⟨v,S,fun _=>none,rfl,⟨fun ν=>h2 _ _ _ _,fun κ b hb=>by simp [look] at hb,fun κ κ' b b' g c c' hb=>by simp [look] at hb,fun κ b g c hb=>by simp [look] at hb,fun _ h=>h,fun _ h=>.inl h,fun b iu=>Nat.lt_of_lt_of_le (hS b iu) hb.size,⟨hb.os,hb.tape,hb.output,hb.size,fun b h _=>hb.block b h⟩⟩⟩
abbrev vx {α:Type} (cells:α→List D) (x:α):D:=.agg (cells x)
abbrev vy {α:Type} [Inhabited α] (cells:α→List D) (l:List α):Nat→List D:=fun i=>cells (l.getD i default)
abbrev mpD {α:Type} [Inhabited α] (enc:α→D) (m:List (Int × α)):D:=.mp m.length (fun i=>(xr enc m i).1) (fun i=>(xr enc m i).2)
structure KE (κ:Type) where
 C:κ→List D
 c:Nat
 ok:∀ k,allI (C k)=true∧(C k).length=c
def adA {α:Type} [Inhabited α] (E:Ot α) (zs:List D):pg:=⟨0,([]:List α).length,fun _=>zs,fun i=>E.cells (([]:List α).getD i default),rfl,fun i hi=>absurd hi (by omega)⟩
section
variable {κ α : Type} [Inhabited κ] [Inhabited α] (K : KE κ) (enc : α → D)
abbrev jA (m:List (κ × α)):Nat→Value × D:=fun i=>(bd (K.C (m.getD i default).1),enc (m.getD i default).2)
abbrev kpM (m:List (κ × α)):aZ:=.mp m.length (jA K enc m)
abbrev kmM (m:List (κ × α)):AV:=.uO m.length (jA K enc m)
omit [Inhabited κ] [Inhabited α] in
abbrev aet (a b:κ):Bool:=bZ (K.C a) (K.C b)
def eM {α:Type}:List (κ × α)→κ→α→List (κ × α)
 | [],k,v=>[(k,v)]
 | p :: r,k,v=>bif bZ (K.C k) (K.C p.1) then (p.1,v) :: r else p :: eM r k v
def cV {α:Type}:List (κ × α)→κ→Option α
 | [],_=>none
 | p :: r,k=>bif bZ (K.C k) (K.C p.1) then some p.2 else cV r k
def gw {α:Type} (m:List (κ × α)) (k:κ) (z:α):α:=(cV K m k).getD z
def sG {α:Type} (m:List (κ × α)) (k:κ):Bool:=(cV K m k).isSome
abbrev kmD (m:List (κ × α)):D:=.mp m.length (fun i=>(jA K enc m i).1) (fun i=>(jA K enc m i).2)
theorem xu (m:List (κ × α)):lG m.length K.c (jA K enc m):=fun i _=>⟨_,rfl,K.ok _⟩
theorem pU (k:κ):∀ (m:List (κ × α)),match cY (bd (K.C k)) m.length (jA K enc m) with
  | some p=>p < m.length∧(jA K enc m p).1=bd (K.C k)∧cV K m k=some (m.getD p default).2∧∀ v,eM K m k v=m.set p ((m.getD p default).1,v)
  | none=>cV K m k=none∧∀ v,eM K m k v=m++[(k,v)]
 | []=>⟨rfl,fun _=>rfl⟩
 | p :: r=>by
  have ih:=pU k r
  have e:(fun i=>jA K enc (p :: r) (i+1))=jA K enc r:=by funext i; simp [jA]
  have e0:(jA K enc (p :: r) 0).1=bd (K.C p.1):=rfl
  simp only [List.length_cons,cY,e,e0,su (K.ok k).1 (K.ok p.1).1,List.getD_cons_zero]
  cases hk:bZ (K.C k) (K.C p.1) with
  | true =>
   have eD:=kb (K.ok k).1 (K.ok p.1).1 hk
   simp only [cond_true]
   refine ⟨by omega,by rw [eD]; rfl,by simp [cV,hk],fun v=>by simp [eM,hk]⟩
  | false =>
   simp only [cond_false]
   cases hq:cY (bd (K.C k)) r.length (jA K enc r) with
   | none =>
    rw [hq] at ih
    simp only [Option.map_none]
    exact ⟨by simp only [cV,hk,cond_false]; exact ih.1,fun v=>by simp only [eM,hk,cond_false,ih.2 v,List.cons_append]⟩
   | some q =>
    rw [hq] at ih
    obtain ⟨i1,i2,i3,i4⟩:=ih
    simp only [Option.map_some]
    refine ⟨by simpa using i1,?_,?_,fun v=>?_⟩
    ·rw [← i2]; rfl
    ·simp only [cV,hk,cond_false]; rw [i3]; simp
    ·simp only [eM,hk,cond_false,i4 v]; simp
def mkK:vj:=⟨0,([]:List (κ × α)).length,fun _=>(.bool false,default),jA K enc ([]:List (κ × α)),rfl,fun i hi=>absurd hi (by omega)⟩
theorem HY (m:List (κ × α)) (k:κ) (v:α):GB (bd (K.C k)) m.length (jA K enc m)=(eM K m k v).length∧∀ i,i < GB (bd (K.C k)) m.length (jA K enc m)→Ao (bd (K.C k)) (enc v) m.length (jA K enc m) i=jA K enc (eM K m k v) i:=by
 have h:=pU K enc k m
 unfold GB Ao
 cases hq:cY (bd (K.C k)) m.length (jA K enc m) with
 | none =>
  rw [hq] at h
  simp only
  rw [h.2 v]
  refine ⟨by simp,fun i hi=>?_⟩
  by_cases c:i < m.length
  ·simp [jA,c,List.getD,List.getElem?_append_left c]
  ·obtain rfl:i=m.length:=by omega
   simp [jA,List.getD]
 | some p =>
  rw [hq] at h
  obtain ⟨h1,h2,h3,h4⟩:=h
  simp only
  rw [h4 v]
  refine ⟨by simp,fun i hi=>?_⟩
  by_cases c:i=p
  ·subst c
   simp [jA,List.getD,h1]
  ·simp [jA,c,List.getD,List.getElem?_set_ne (fun e=>c e.symm)]
def oC {α:Type}:List (κ × α)→κ→List (κ × α)
 | [],_=>[]
 | p :: r,k=>bif bZ (K.C k) (K.C p.1) then r else p :: oC r k
abbrev Y3 (m:List (κ × α)):aZ:=.ml m.length (jA K enc m)
theorem HZ (k:κ):∀ (m:List (κ × α)),Sa (bd (K.C k)) m.length (jA K enc m)=(oC K m k).length∧∀ i,i < Sa (bd (K.C k)) m.length (jA K enc m)→Xk (bd (K.C k)) m.length (jA K enc m) i=jA K enc (oC K m k) i
 | []=>⟨rfl,fun i hi=>absurd hi (by simp [Sa,cY])⟩
 | p :: r=>by
  have ih:=HZ k r
  have hI:cY (bd (K.C k)) (p :: r).length (jA K enc (p :: r))=bif bZ (K.C k) (K.C p.1) then some 0 else (cY (bd (K.C k)) r.length (jA K enc r)).map (· + 1):=by
   have e:(fun i=>jA K enc (p :: r) (i+1))=jA K enc r:=by funext i; simp [jA]
   simp only [List.length_cons,cY,e]
   rw [show tV (bd (K.C k)) (bd (K.C ((p :: r).getD 0 default).fst))=bZ (K.C k) (K.C p.1) from su (K.ok k).1 (K.ok p.1).1]
  unfold Sa Xk at ih ⊢
  rw [hI]
  cases hk:bZ (K.C k) (K.C p.1) with
  | true =>
   simp only [cond_true,oC,hk]
   exact ⟨by simp,fun i hi=>by simp [jA]⟩
  | false =>
   simp only [cond_false,oC,hk]
   cases hq:cY (bd (K.C k)) r.length (jA K enc r) with
   | none =>
    rw [hq] at ih
    simp only [Option.map_none]
    simp only at ih
    refine ⟨by simp only [List.length_cons]; omega,fun i hi=>?_⟩
    cases i with
    | zero=>simp [jA]
    | succ i =>
     have:=ih.2 i (by simp at hi; omega)
     simp only [jA,List.getD_cons_succ] at this ⊢
     exact this
   | some q =>
    rw [hq] at ih
    simp only [Option.map_some]
    have hql:=(iB.1 q hq).1
    simp only at ih
    refine ⟨by simp only [List.length_cons]; omega,fun i hi=>?_⟩
    simp only [List.length_cons] at hi
    cases i with
    | zero=>simp [jA]
    | succ i =>
     have:=ih.2 i (by omega)
     simp only [jA,List.getD_cons_succ] at this ⊢
     rw [← this]
     by_cases c:i < q
     ·simp [c]
     ·simp [c]
def adB (m:List (κ × α)) (k:κ):vj:=⟨Sa (bd (K.C k)) m.length (jA K enc m),(oC K m k).length,Xk (bd (K.C k)) m.length (jA K enc m),jA K enc (oC K m k),HZ K enc k m⟩
def Wa (m:List (κ × α)) (k:κ) (v:α):vj:=⟨GB (bd (K.C k)) m.length (jA K enc m),(eM K m k v).length,Ao (bd (K.C k)) (enc v) m.length (jA K enc m),jA K enc (eM K m k v),HY K enc m k v⟩
theorem uc (m:List (κ × α)) (k:κ) (z:α):cB (bd (K.C k)) m.length (jA K enc m) (enc z)=enc (gw K m k z):=by
 have h:=pU K enc k m
 unfold cB gw
 cases hq:cY (bd (K.C k)) m.length (jA K enc m) with
 | none=>rw [hq] at h; simp only [h.1]; rfl
 | some p=>rw [hq] at h; simp only [h.2.2.1]; rfl
theorem Ow (m:List (κ × α)) (k:κ):gM (bd (K.C k)) m.length (jA K enc m)=sG K m k:=by
 have h:=pU K enc k m
 unfold gM sG
 cases hq:cY (bd (K.C k)) m.length (jA K enc m) with
 | none=>rw [hq] at h; rw [h.1]; rfl
 | some p=>rw [hq] at h; rw [h.2.2.1]; rfl
def adC (m:List (κ × α)) (k:κ) (z:α):vj:=⟨GB (bd (K.C k)) m.length (jA K enc m),(eM K m k (gw K m k z)).length,Ao (bd (K.C k)) (cB (bd (K.C k)) m.length (jA K enc m) (enc z)) m.length (jA K enc m),jA K enc (eM K m k (gw K m k z)),by rw [uc]; exact HY K enc m k _⟩
def stK (m:List (κ × α)) (k:κ) (z x:α):vj:=⟨(eM K m k z).length,(eM K m k x).length,fun i=>bif decide ((i:Int)=((yS (bd (K.C k)) m.length (jA K enc m):Nat):Int)) then ((jA K enc (eM K m k z) i).1,enc x) else jA K enc (eM K m k z) i,jA K enc (eM K m k x),by
 have h:=pU K enc k m
 unfold yS
 cases hq:cY (bd (K.C k)) m.length (jA K enc m) with
 | none =>
  rw [hq] at h
  simp only
  rw [h.2 z,h.2 x]
  refine ⟨by simp,fun i hi=>?_⟩
  by_cases c:i=m.length
  ·subst c
   simp [jA,List.getD]
  ·have c2:¬ (i:Int)=(m.length:Int):=by omega
   have c3:i < m.length:=by simp at hi; omega
   simp [jA,c2,List.getD,List.getElem?_append_left c3]
 | some p =>
  rw [hq] at h
  obtain ⟨h1,h2,h3,h4⟩:=h
  simp only
  rw [h4 z,h4 x]
  refine ⟨by simp,fun i hi=>?_⟩
  by_cases c:i=p
  ·subst c
   simp [jA,List.getD,h1]
  ·have c2:¬ (i:Int)=(p:Int):=by omega
   simp [jA,c2,List.getD,List.getElem?_set_ne (fun e=>c e.symm)]⟩
theorem Wb (m:List (κ × α)) (k:κ) (v:α):(0:Int)≤(yS (bd (K.C k)) m.length (jA K enc m):Nat)∧((yS (bd (K.C k)) m.length (jA K enc m):Nat):Int) < ((eM K m k v).length:Nat):=by
 have h:=pU K enc k m
 unfold yS
 cases hq:cY (bd (K.C k)) m.length (jA K enc m) with
 | none=>rw [hq] at h; rw [h.2 v]; simp; omega
 | some p=>rw [hq] at h; rw [h.2.2.2 v]; simp; have:=h.1; omega
theorem H0 (k:κ) (v:α):∀ (m:List (κ × α)),cV K (eM K m k v) k=some v
 | []=>by
  have:bZ (K.C k) (K.C k)=true:=kT (K.ok k).1
  simp [eM,cV,this]
 | p :: r=>by
  cases hk:bZ (K.C k) (K.C p.1) with
  | true=>simp [eM,cV,hk]
  | false=>simp [eM,cV,hk,H0 k v r]
def adD (m:List (κ × α)) (k:κ) (z:α):xo:=⟨.d (cB (bd (K.C k)) (eM K m k (gw K m k z)).length (jA K enc (eM K m k (gw K m k z))) (enc z)),.d (enc (gw K m k z)),fun _ _ _ _ _ h=>by
 have e:gw K (eM K m k (gw K m k z)) k z=gw K m k z:=by
  show (cV K (eM K m k (gw K m k z)) k).getD z=_
  rw [H0]
  rfl
 have h2:=uc K enc (eM K m k (gw K m k z)) k z
 rw [e] at h2
 rw [← h2]
 exact h⟩
def abk (m:List (κ × α)) (k:κ) (z:α):xo:=⟨.d (cB (bd (K.C k)) m.length (jA K enc m) (enc z)),.d (enc (gw K m k z)),fun _ _ _ _ _ h=>by rw [← uc K enc m k z]; exact h⟩
def XC (m:List (κ × α)) (k:κ) (z:α):xo:=⟨.il [.d (cB (bd (K.C k)) m.length (jA K enc m) (enc z)),.d (.v (.bool (gM (bd (K.C k)) m.length (jA K enc m))))],.il [.d (enc (gw K m k z)),.d (.v (.bool (sG K m k)))],fun _ _ _ _ _ h=>by rw [← uc K enc m k z,← Ow K enc m k]; exact h⟩
end
def Sk.db:{α:Type}→Sk α→Bool
 | _,.loop ..=>true
 | _,_=>false
def Sk.eO:{α:Type}→Sk α→(α→Prop)→Prop
 | _,.fin a,L=>L a
 | _,.br e x y,L=>(e=true→x.eO L)∧(e=false→y.eO L)
 | _,.r _ c k,L=>∀ x,x=c.v→c.post x→(k x).eO L
 | _,.wi _ _ _ k,L=>k.eO L
 | _,.wn _ _ _ k,L=>k.eO L
 | _,.wr _ _ _ k,L=>k.eO L
 | _,.Gr k,L=>k.eO L
 | _,.Gs k,L=>k.eO L
 | _,.dead a,L=>L a
 | _,.DJ _ _ _ k,L=>k.eO L
 | _,.Q0 _ c _ _ x y,L=>(c=true→x.eO L)∧(c=false→y.eO L)
 | _,.Jj _ _ _ k,L=>k.eO L
 | _,.fz _ k,L=>k.eO L
 | _,.op _ k,L=>(k []).eO L
 | _,.cl _ _ k,L=>k.eO L
 | _,.oq _ q k,L=>(∃ m,q m)∧∀ m,q m→(k m).eO L
 | _,.cq _ _ _ k,L=>k.eO L
 | _,.ot _ Q _ _ _ k,L=>(∃ m,Q m)∧∀ m,Q m→(k m).eO L
 | _,.ct _ _ _ _ _ k,L=>k.eO L
 | _,.Ny _ Q _ _ k,L=>(∃ m,Q m)∧∀ m,Q m→(k m).eO L
 | _,.cr _ _ _ _ _ k,L=>k.eO L
 | _,.nr _ _ _ _ _ k,L=>k.eO L
 | _,.fm _ k,L=>k.eO L
 | _,.fb _ k,L=>k.eO L
 | _,.up _ k,L=>k.eO L
 | _,.HQ _ _ _ k,L=>k.eO L
 | _,.mr n V init _ _ b k,L=>V [] init∧(∀ s g i,V s g→i < n→i ∉ s→(b g i).eO (V (i :: s)))∧∀ g,g=(List.range n).foldr (fun i g=>(b g i).val) init→V (List.range n) g→(k g).eO L
 | _,.bind _ J s _ k,L=>s.eO (oA L J)∧∀ b,(s.db=false→s.val=.inr b)→J b→(k b).eO L
 | _,.loop _ I m i0 _ b,L=>I i0∧∀ i,I i→(b i).eO (fP L fun j=>I j∧m j < m i)
 | _,.rf it I B _ s0 _ _ b k,L=>I 0 s0∧(∀ i s y,I i s→it.ys[i]? = some y→(b s y).eO (fP B (I (i+1))))∧∀ r,fP B (I it.ys.length) r→(k r).eO L
def Sk.oV:{α:Type}→Sk α→(α→Prop)→Prop
 | _,.fin a,L=>L a
 | _,.br e x y,L=>(e=true→x.oV L)∧(e=false→y.oV L)
 | _,.r _ c k,L=>c.pre∧∀ x,x=c.v→c.post x→(k x).oV L
 | _,.wi _ m n k,L=>m=n∧k.oV L
 | _,.wn _ n n' k,L=>n=n'∧k.oV L
 | _,.wr _ n n' k,L=>n=n'∧k.oV L
 | _,.Gr k,L=>k.oV L
 | _,.Gs k,L=>k.oV L
 | _,.dead _,_=>False
 | _,.DJ _ _ n k,L=>n≤maxLen→k.oV L
 | _,.Q0 _ c _ _ x y,L=>(c=true→x.oV L)∧(c=false→y.oV L)
 | _,.Jj _ n k1 k2,L=>(n=0→k1.oV L∧k1.val=k2.val)∧k2.oV L
 | _,.fz _ k,L=>k.oV L
 | _,.op _ k,L=>∀ m,(k m).val=(k []).val∧(k m).oV L
 | _,.cl _ _ k,L=>k.oV L
 | _,.oq _ q k,L=>∀ m,q m→(k m).val=(k (canon q)).val∧(k m).oV L
 | _,.cq _ m q k,L=>q m∧k.oV L
 | _,.ot _ Q _ _ d k,L=>∀ m,Q m→(k m).val=(k (cT Q d)).val∧(k m).oV L
 | _,.ct _ Q _ _ y k,L=>Q y∧k.oV L
 | _,.Ny _ Q _ d k,L=>∀ m,Q m→(k m).val=(k (cT Q d)).val∧(k m).oV L
 | _,.cr _ _ Q _ y k,L=>Q y∧k.oV L
 | _,.nr _ _ _ _ _ k,L=>k.oV L
 | _,.fm _ k,L=>k.oV L
 | _,.fb _ k,L=>k.oV L
 | _,.up _ k,L=>k.oV L
 | _,.HQ _ x c k,L=>(0≤x∧x≤(c.n:Int))∧k.oV L
 | _,.mr n V init _ _ b k,L=>V [] init∧(∀ s g i,V s g→i < n→i ∉ s→(b g i).dj (V (i :: s))∧(b g i).oV fun _=>True)∧(∀ s g i j,V s g→i < n→j < n→i≠j→i ∉ s→j ∉ s→(b (b g j).val i).val=(b (b g i).val j).val)∧∀ g,g=(List.range n).foldr (fun i g=>(b g i).val) init→V (List.range n) g→(k g).oV L
 | _,.bind _ J s _ k,L=>s.oV (oA L J)∧∀ b,(s.db=false→s.val=.inr b)→J b→(k b).oV L
 | _,.loop _ I m i0 _ b,L=>I i0∧∀ i,I i→(b i).oV (fP L fun j=>I j∧m j < m i)
 | _,.rf it I B _ s0 _ _ b k,L=>it.pre∧I 0 s0∧(∀ i s y,I i s→it.ys[i]? = some y→(b s y).eO (fP B (I (i+1)))∧(b s y).oV (fP B (I (i+1))))∧∀ r,fP B (I it.ys.length) r→(k r).oV L
theorem Sk.bM:{α:Type}→(s:Sk α)→{L:α→Prop}→s.eO L→s.dj L
 | _,.fin _,_,h=>h
 | _,.br _ x y,_,h=>⟨fun e=>x.bM (h.1 e),fun e=>y.bM (h.2 e)⟩
 | _,.r _ _ k,_,h=>fun x e p=>(k x).bM (h x e p)
 | _,.wi _ _ _ k,L,h=>k.bM (L:=L) h
 | _,.wn _ _ _ k,L,h=>k.bM (L:=L) h
 | _,.wr _ _ _ k,L,h=>k.bM (L:=L) h
 | _,.Gr k,L,h=>k.bM (L:=L) h
 | _,.Gs k,L,h=>k.bM (L:=L) h
 | _,.dead _,_,h=>h
 | _,.DJ _ _ _ k,L,h=>k.bM (L:=L) h
 | _,.Q0 _ _ _ _ x y,_,h=>⟨fun e=>x.bM (h.1 e),fun e=>y.bM (h.2 e)⟩
 | _,.Jj _ _ _ k,L,h=>k.bM (L:=L) h
 | _,.fz _ k,L,h=>k.bM (L:=L) h
 | _,.op _ k,L,h=>(k []).bM (L:=L) h
 | _,.cl _ _ k,L,h=>k.bM (L:=L) h
 | _,.oq _ _ k,L,h=>⟨h.1,fun m hm=>(k m).bM (L:=L) (h.2 m hm)⟩
 | _,.cq _ _ _ k,L,h=>k.bM (L:=L) h
 | _,.ot _ _ _ _ _ k,L,h=>⟨h.1,fun m hm=>(k m).bM (L:=L) (h.2 m hm)⟩
 | _,.ct _ _ _ _ _ k,L,h=>k.bM (L:=L) h
 | _,.Ny _ _ _ _ k,L,h=>⟨h.1,fun m hm=>(k m).bM (L:=L) (h.2 m hm)⟩
 | _,.cr _ _ _ _ _ k,L,h=>k.bM (L:=L) h
 | _,.nr _ _ _ _ _ k,L,h=>k.bM (L:=L) h
 | _,.fm _ k,L,h=>k.bM (L:=L) h
 | _,.fb _ k,L,h=>k.bM (L:=L) h
 | _,.up _ k,L,h=>k.bM (L:=L) h
 | _,.HQ _ _ _ k,L,h=>k.bM (L:=L) h
 | _,.mr _ _ _ _ _ b k,_,h=>⟨h.1,fun s g i hg hi hn=>(b g i).bM (h.2.1 s g i hg hi hn),fun g e hg=>(k g).bM (h.2.2 g e hg)⟩
 | _,.bind _ _ s _ k,_,h=>⟨s.bM h.1,fun b e hb=>(k b).bM (h.2 b (fun _=>e) hb)⟩
 | _,.loop _ _ _ _ _ b,_,h=>⟨h.1,fun i hi=>(b i).bM (h.2 i hi)⟩
 | _,.rf _ _ _ _ _ _ _ b k,_,h=>⟨h.1,fun i s y hs hy=>(b s y).bM (h.2.1 i s y hs hy),fun r _ hr=>(k r).bM (h.2.2 r hr)⟩
theorem Sk.bP:{α:Type}→(s:Sk α)→{L:α→Prop}→s.oV L→s.bO L
 | _,.fin _,_,h=>h
 | _,.br _ x y,_,h=>⟨fun e=>x.bP (h.1 e),fun e=>y.bP (h.2 e)⟩
 | _,.r _ _ k,_,h=>⟨h.1,fun x e p=>(k x).bP (h.2 x e p)⟩
 | _,.wi _ _ _ k,L,h=>⟨h.1,k.bP (L:=L) h.2⟩
 | _,.wn _ _ _ k,L,h=>⟨h.1,k.bP (L:=L) h.2⟩
 | _,.wr _ _ _ k,L,h=>⟨h.1,k.bP (L:=L) h.2⟩
 | _,.Gr k,L,h=>k.bP (L:=L) h
 | _,.Gs k,L,h=>k.bP (L:=L) h
 | _,.dead _,_,h=>h.elim
 | _,.DJ _ _ _ k,L,h=>fun hn=>k.bP (L:=L) (h hn)
 | _,.Q0 _ _ _ _ x y,_,h=>⟨fun e=>x.bP (h.1 e),fun e=>y.bP (h.2 e)⟩
 | _,.Jj _ _ k1 k2,L,h=>⟨fun e=>⟨k1.bP (L:=L) (h.1 e).1,(h.1 e).2⟩,k2.bP (L:=L) h.2⟩
 | _,.fz _ k,L,h=>k.bP (L:=L) h
 | _,.op _ k,L,h=>fun m=>⟨(h m).1,(k m).bP (h m).2⟩
 | _,.cl _ _ k,L,h=>k.bP (L:=L) h
 | _,.oq _ _ k,L,h=>fun m hm=>⟨(h m hm).1,(k m).bP (h m hm).2⟩
 | _,.cq _ _ _ k,L,h=>⟨h.1,k.bP (L:=L) h.2⟩
 | _,.ot _ _ _ _ _ k,L,h=>fun m hm=>⟨(h m hm).1,(k m).bP (h m hm).2⟩
 | _,.ct _ _ _ _ _ k,L,h=>⟨h.1,k.bP (L:=L) h.2⟩
 | _,.Ny _ _ _ _ k,L,h=>fun m hm=>⟨(h m hm).1,(k m).bP (h m hm).2⟩
 | _,.cr _ _ _ _ _ k,L,h=>⟨h.1,k.bP (L:=L) h.2⟩
 | _,.nr _ _ _ _ _ k,L,h=>k.bP (L:=L) h
 | _,.fm _ k,L,h=>k.bP (L:=L) h
 | _,.fb _ k,L,h=>k.bP (L:=L) h
 | _,.up _ k,L,h=>k.bP (L:=L) h
 | _,.HQ _ _ _ k,L,h=>⟨h.1,k.bP (L:=L) h.2⟩
 | _,.mr _ _ _ _ _ b k,_,h=>⟨h.1,fun s g i hg hi hn=>⟨(h.2.1 s g i hg hi hn).1,(b g i).bP (h.2.1 s g i hg hi hn).2⟩,h.2.2.1,fun g e hg=>(k g).bP (h.2.2.2 g e hg)⟩
 | _,.bind _ _ s _ k,_,h=>⟨s.bP h.1,fun b e hb=>(k b).bP (h.2 b (fun _=>e) hb)⟩
 | _,.loop _ _ _ _ _ b,_,h=>⟨h.1,fun i hi=>(b i).bP (h.2 i hi)⟩
 | _,.rf _ _ _ _ _ _ _ b k,_,h=>⟨h.1,h.2.1,fun i s y hs hy=>⟨(b s y).bM (h.2.2.1 i s y hs hy).1,(b s y).bP (h.2.2.1 i s y hs hy).2⟩,fun r _ hr=>(k r).bP (h.2.2.2 r hr)⟩
def walk {α σ β:Type} (step:α→σ→β ⊕ σ) (fin:σ→β):List α→σ→β
 | [],s=>fin s
 | x :: r,s=>match step x s with
  | .inl b=>b
  | .inr s'=>walk step fin r s'
theorem iter_walk {α σ β ι:Type} [Inhabited α] (l:List α) (pack:σ→Nat→ι) {f:ι→β ⊕ ι} {d:β} (step:α→σ→β ⊕ σ) (fin:σ→β)
  (hs:∀ s i,i < l.length→f (pack s i)=match step (l.getD i default) s with | .inl b=>.inl b | .inr s'=>.inr (pack s' (i+1)))
  (he:∀ s,f (pack s l.length)=.inl (fin s)):∀ (n i:Nat) (s:σ),i≤l.length→l.length - i < n→iter f d n (pack s i)=walk step fin (l.drop i) s
 | 0,i,s,_,hn=>absurd hn (by omega)
 | n+1,i,s,hi,hn=>by
  simp only [iter]
  by_cases h:i < l.length
  ·rw [hs s i h,List.drop_eq_getElem_cons h,show l.getD i default=l[i] from by simp [List.getD,h]]
   simp only [walk]
   cases jD:step l[i] s with
   | inl b=>rfl
   | inr s'=>exact iter_walk l pack step fin hs he n (i+1) s' h (by omega)
  ·obtain rfl:i=l.length:=by omega
   rw [he s,List.drop_length]
   rfl
theorem Ox {α σ β ι:Type} [Inhabited α] (l:List α) (pack:σ→Nat→ι) {f:ι→β ⊕ ι} {d:β} (step:α→σ→β ⊕ σ) (fin:σ→β)
  (hs:∀ s i,i < l.length→f (pack s i)=match step (l.getD i default) s with | .inl b=>.inl b | .inr s'=>.inr (pack s' (i+1)))
  (he:∀ s,f (pack s l.length)=.inl (fin s)) {n:Nat} (hn:l.length < n) (s:σ):iter f d n (pack s 0)=walk step fin l s:=by
 have:=iter_walk (d:=d) l pack step fin hs he n 0 s (Nat.zero_le _) (by omega)
 simpa using this
theorem wx {α σ β:Type} (g:α→σ→σ) (fin:σ→β):∀ (l:List α) (s:σ),walk (fun x s=>.inr (g x s)) fin l s=fin (l.foldl (fun s x=>g x s) s)
 | [],_=>rfl
 | x :: r,s=>by simp only [walk,List.foldl_cons]; exact wx g fin r (g x s)
theorem oD {α:Type} {l:List α} {i:Nat} (h:i < l.length) (d:α):l.getD i d∈l:=by
 rw [show l.getD i d=l[i] from by simp [List.getD,h]]
 exact List.getElem_mem h
theorem lT {α:Type} [Inhabited α] (L:List α) (lo n:Nat):(dz L lo n).length=n:=by simp [dz]
theorem LN:(∀ (p:Prop) [Decidable p],(decide p=true)=p)∧(∀ (p:Prop) [Decidable p],decide p=false↔¬ p) ∧
  (∀ (α:Type) (a b:List α),(a++b).length=a.length+b.length)∧(∀ (α:Type) (x:α) (a:List α),(x :: a).length=a.length+1)∧(∀ α:Type,([]:List α).length=0) ∧
  (∀ (α:Type) (a:List α) (i:Nat) (x:α),(a.set i x).length=a.length)∧(∀ (α:Type) (n:Nat) (x:α),(List.replicate n x).length=n) ∧
  (∀ b:Bool,(¬ b=true)=(b=false))∧(∀ b:Bool,(¬ b=false)=(b=true))∧(∀ a b:Int,¬ a < b↔b≤a)∧(∀ a b:Int,¬ a≤b↔b < a) ∧
  (∀ a b:Bool,((a&&b)=true)=(a=true∧b=true))∧(∀ a b:Bool,((a||b)=true)=(a=true∨b=true))∧(∀ a b:Bool,(a&&b)=false↔a=false∨b=false)∧(∀ a b:Bool,(a||b)=false↔a=false∧b=false) ∧
  (∀ a b:Bool,(!a)=b↔a = !b)∧((!true)=false)∧((!false)=true) ∧
  (∀ (α:Type) [BEq α] [LawfulBEq α] (a b:α),(a == b)=true↔a=b)∧(∀ (α:Type) [BEq α] [LawfulBEq α] (a b:α),(a != b)=true↔a≠b) ∧
  (∀ (α:Type) [BEq α] [LawfulBEq α] (a b:α),(a == b)=false↔a≠b)∧(∀ (α:Type) [BEq α] [LawfulBEq α] (a b:α),(a != b)=false↔a=b) ∧
  (∀ (α:Type) (a b:α),(a≠b) = ¬ a=b)∧(∀ (α:Type) [Inhabited α] (L:List α) (lo n:Nat),(dz L lo n).length=n) :=
 ⟨fun _ _=>decide_eq_true_eq,fun _ _=>decide_eq_false_iff_not,fun _ _ _=>List.length_append,fun _ _ _=>rfl,fun _=>rfl,fun _ _ _ _=>List.length_set,fun _ _ _=>List.length_replicate,
  Bool.not_eq_true,Bool.not_eq_false,fun _ _=>Int.not_lt,fun _ _=>Int.not_le,Bool.and_eq_true,Bool.or_eq_true,fun _ _=>Bool.and_eq_false_iff,fun _ _=>Bool.or_eq_false_iff,
  fun _ _=>Bool.not_eq_eq_eq_not,rfl,rfl,fun _ _ _ _ _=>beq_iff_eq,fun _ _ _ _ _=>bne_iff_ne,fun _ _ _ _ _=>beq_eq_false_iff_ne,fun _ _ _ _ _=>bne_eq_false_iff_eq,fun _ _ _=>rfl,fun _ _=>lT⟩
theorem ON:(∀ (x:Unit),bw.z.post x=True) ∧
 (∀ (p:Prop) (x:Unit),(bw.p p).post x=True) ∧
 (∀ {p:Prop} (h:p) (x:Unit),(bw.t h).post x=True) ∧
 (∀ (p:Prop) {q:Prop} (h:q) (x:Unit),(bw.pt p h).post x=True) ∧
 (∀ (l:List xP) (x:Unit),(bw.o l).post x=True) ∧
 (∀ {α β:Type} (a:bw α) (b:bw β) (x:α × β),(a.and b).post x=(a.post x.1∧b.post x.2)) ∧
 (∀ {β:Type} (a:bw Unit) (b:bw β) (x:β),(a.ak b).post x=b.post x) ∧
 (∀ {β:Type} (a:bw β) (b:bw Unit) (x:β),(a.AP b).post x=a.post x) ∧
 (∀ {β:Type} (e w:Bool) (a:bw β) (x:β),(a.wh e w).post x=a.post x) ∧
 (∀ {α β:Type} (a:bw α) (b:α→bw β) (x:α × β),(a.dep b).post x=(a.post x.1∧(b x.1).post x.2)) ∧
 (∀ {α:Type} (a:bw α) (b:α→bw Unit) (x:α),(a.sE b).post x=a.post x) ∧
 (∀ {β:Type} (c:iM β) (x:β),c.c.post x=c.post x) ∧
 (∀ {β:Type} (c:iM β) (i:Nat) (h:∃ g,c.args[i]? = some (.d (.sl 0 g))) (x:β),(c.nil i h).post x=c.post x) ∧
 (∀ {β:Type} (c:iM β) (i j:Nat) (cs:List D) (h:c.args[i]? = some (.d (.agg cs))) (h2:∃ g,cs[j]? = some (.sl 0 g)) (x:β),(c.ub i j cs h h2).post x=c.post x) ∧
 (bw.z.pre=True) ∧
 (∀ (p:Prop),(bw.p p).pre=p) ∧
 (∀ {p:Prop} (h:p),(bw.t h).pre=True) ∧
 (∀ (p:Prop) {q:Prop} (h:q),(bw.pt p h).pre=p) ∧
 (∀ (l:List xP),(bw.o l).pre=True) ∧
 (∀ {α β:Type} (a:bw α) (b:bw β),(a.and b).pre=(a.pre∧b.pre)) ∧
 (∀ {β:Type} (a:bw Unit) (b:bw β),(a.ak b).pre=(a.pre∧b.pre)) ∧
 (∀ {β:Type} (a:bw β) (b:bw Unit),(a.AP b).pre=(a.pre∧b.pre)) ∧
 (∀ {β:Type} (e w:Bool) (a:bw β),(a.wh e w).pre=(e=w→a.pre)) ∧
 (∀ {α β:Type} (a:bw α) (b:α→bw β),(a.dep b).pre=(a.pre∧∀ x,x=a.v→a.post x→(b x).pre)) ∧
 (∀ {α:Type} (a:bw α) (b:α→bw Unit),(a.sE b).pre=(a.pre∧∀ x,x=a.v→a.post x→(b x).pre)) ∧
 (∀ {α β:Type} (a:bw α) (b:α→bw β),(a.dep b).v=(a.v,(b a.v).v)) ∧
 (∀ {α:Type} (a:bw α) (b:α→bw Unit),(a.sE b).v=a.v) ∧
 (∀ {β:Type} (c:iM β),c.c.pre=c.pre) ∧
 (∀ {β:Type} (c:iM β),c.c.v=c.v) ∧
 (∀ {β:Type} (c:iM β) (i:Nat) (h:∃ g,c.args[i]? = some (.d (.sl 0 g))),(c.nil i h).pre=c.pre) ∧
 (∀ {β:Type} (c:iM β) (i:Nat) (h:∃ g,c.args[i]? = some (.d (.sl 0 g))),(c.nil i h).v=c.v) ∧
 (∀ {β:Type} (c:iM β) (i j:Nat) (cs:List D) (h:c.args[i]? = some (.d (.agg cs))) (h2:∃ g,cs[j]? = some (.sl 0 g)),(c.ub i j cs h h2).pre=c.pre) ∧
 (∀ {β:Type} (c:iM β) (i j:Nat) (cs:List D) (h:c.args[i]? = some (.d (.agg cs))) (h2:∃ g,cs[j]? = some (.sl 0 g)),(c.ub i j cs h h2).v=c.v) ∧
 (∀ {α β:Type} (a:bw α) (b:bw β),(a.and b).v=(a.v,b.v)) ∧
 (∀ {β:Type} (a:bw Unit) (b:bw β),(a.ak b).v=b.v) ∧
 (∀ {β:Type} (a:bw β) (b:bw Unit),(a.AP b).v=a.v) ∧
 (∀ {β:Type} (e w:Bool) (a:bw β),(a.wh e w).v=a.v) ∧
 (∀ {β:Type} (c:gR β),c.c.pre=c.pre) ∧
 (∀ {β:Type} (c:gR β),c.c.v=c.v) ∧
 (∀ {β:Type} (c:gR β) (i:Nat) (h:∃ g,c.args[i]? = some (.d (.sl 0 g))),(c.nil i h).pre=c.pre) ∧
 (∀ {β:Type} (c:gR β) (i:Nat) (h:∃ g,c.args[i]? = some (.d (.sl 0 g))),(c.nil i h).v=c.v) ∧
 (∀ {β:Type} (c:gR β) (x:β),c.c.post x=c.post x) ∧
 (∀ {β:Type} (c:gR β) (i:Nat) (h:∃ g,c.args[i]? = some (.d (.sl 0 g))) (x:β),(c.nil i h).post x=c.post x) ∧
 (∀ {α β:Type} (L:α→Prop) (J:β→Prop) (a:α),oA L J (.inl a)=L a) ∧
 (∀ {α β:Type} (L:α→Prop) (J:β→Prop) (b:β),oA L J (.inr b)=J b) ∧
 (∀ {α β:Type} (L:α→Prop) (J:β→Prop) (a:α),fP L J (.inl a)=L a) ∧
 (∀ {α β:Type} (L:α→Prop) (J:β→Prop) (b:β),fP L J (.inr b)=J b) ∧
 (∀ (i:Int) (n:Nat),cM i n=(0≤i∧i < (n:Int))) ∧
 (∀ n m bytes:Nat,jH n m bytes=(n+m≤maxLen∧(n+m) * bytes≤140737488355328)) ∧
 (∀ (n:Int) (bytes:Nat),V6 n bytes=(0≤n∧n.toNat≤maxLen∧n.toNat * bytes≤140737488355328)) ∧
 (∀ α:Prop,(α→True)=True) ∧
 (∀ α:Type,(α→True)=True) ∧
 (∀ p:Prop,(True∧p)=p) ∧
 (∀ p:Prop,(p∧True)=p) ∧
 (∀ p:Prop,(p∧p)=p) ∧
 (∀ p:Prop,(True→p)=p) ∧
 (∀ p:Prop,(False→p)=True):=by
 refine ⟨?_,?_,?_,?_,?_,?_,?_,?_,?_,?_,?_,?_,?_,?_,?_,?_,?_,?_,?_,?_,?_,?_,?_,?_,?_,?_,?_,?_,?_,?_,?_,?_,?_,?_,?_,?_,?_,?_,?_,?_,?_,?_,?_,?_,?_,?_,?_,?_,?_,?_,?_,?_,?_,?_,?_,?_,?_⟩
 all_goals first | rfl | (intros; rfl) | (intros; simp)
def kk {P:Program} {T:List (Nat × TI)} (hT:im P T) (hm:P.follows .mixedOrders=true) {f:FuncId} {fn:Func} (hf:P.funcs[f]? = some fn) (args:List AV) {α:Type} (enc:α→AV) (fl:Bool) (s:Sk α) (v:α) {pre:Prop} (ok:pre→s.bO fun _=>True)
  (post:α→Prop:=fun _=>True) (hp:post v:=by trivial) (hv:v=s.val:=by exact id rfl) (n:Nat:=3000) (hb:fn.body.isSome=true:=by exact id (by kernel_rfl)) (hc:(dX P f&&Nat.ble args.length fn.ntmps)=true:=by exact id (by kernel_rfl))
  (h:j8 P T fn.ntmps fn.results.toList (wW fn.results.toList) 0 [] n [.code (fn.body.get hb)] ⟨di 0 args,[]⟩ (fun a=>.ret (enc a) []) s=(j8 P T fn.ntmps fn.results.toList (wW fn.results.toList) 0 [] n [.code (fn.body.get hb)] ⟨di 0 args,[]⟩ (fun a=>.ret (enc a) []) s).diag:=by exact id (by kernel_rfl)):iM α :=
 ⟨P,f,args,enc,fl,v,pre,fun hp=>hv ▸ kE.sk hT hm enc (fun _=>[]) hf (Option.some_get hb).symm hc n s h (ok hp),post,hp⟩
theorem u0 {c:Prop} (f:c) (_:True):c:=f
theorem u2 {a b c:Prop} (f:a→b→c) (h:a∧b):c:=f h.1 h.2
theorem u3 {a b c d:Prop} (f:a→b→c→d) (h:a∧b∧c):d:=f h.1 h.2.1 h.2.2
theorem u4 {a b c d e:Prop} (f:a→b→c→d→e) (h:a∧b∧c∧d):e:=f h.1 h.2.1 h.2.2.1 h.2.2.2
def kp {P:Program} {T:List (Nat × TI)} (hT:im P T) (hm:P.follows .mixedOrders=true) {f:FuncId} {fn:Func} (hf:P.funcs[f]? = some fn) (args:List AV) {α:Type} (enc:α→AV) (fl:Bool) {s:Sk α} (v:α) {pre:Prop} (ok:pre→s.bO fun _=>True)
  {post:α→Prop} (hq:s.dj post) (hv:v=s.val:=by exact id rfl) (n:Nat:=3000) (hb:fn.body.isSome=true:=by exact id (by kernel_rfl)) (hc:(dX P f&&Nat.ble args.length fn.ntmps)=true:=by exact id (by kernel_rfl))
  (h:j8 P T fn.ntmps fn.results.toList (wW fn.results.toList) 0 [] n [.code (fn.body.get hb)] ⟨di 0 args,[]⟩ (fun a=>.ret (enc a) []) s=(j8 P T fn.ntmps fn.results.toList (wW fn.results.toList) 0 [] n [.code (fn.body.get hb)] ⟨di 0 args,[]⟩ (fun a=>.ret (enc a) []) s).diag:=by exact id (by kernel_rfl)):iM α :=
 ⟨P,f,args,enc,fl,v,pre,fun hp=>hv ▸ kE.sk hT hm enc (fun _=>[]) hf (Option.some_get hb).symm hc n s h (ok hp),post,hv ▸ Sk.cN s hq⟩
@[simp] theorem aeu {P:Program} {T:List (Nat × TI)} (hT:im P T) (hm:P.follows .mixedOrders=true) {f:FuncId} {fn:Func} (hf:P.funcs[f]? = some fn) (args:List AV) {α:Type} (enc:α→AV) (fl:Bool) (s:Sk α) (v:α) {pre:Prop} (ok:pre→s.bO fun _=>True) (post:α→Prop) (hp:post v) (hv:v=s.val) (n:Nat) (hb:fn.body.isSome=true) (hc:(dX P f&&Nat.ble args.length fn.ntmps)=true) (h:j8 P T fn.ntmps fn.results.toList (wW fn.results.toList) 0 [] n [.code (fn.body.get hb)] ⟨di 0 args,[]⟩ (fun a=>.ret (enc a) []) s=(j8 P T fn.ntmps fn.results.toList (wW fn.results.toList) 0 [] n [.code (fn.body.get hb)] ⟨di 0 args,[]⟩ (fun a=>.ret (enc a) []) s).diag):(kk hT hm hf args enc fl s v ok post hp hv n hb hc h).v=v:=rfl
@[simp] theorem adE {P:Program} {T:List (Nat × TI)} (hT:im P T) (hm:P.follows .mixedOrders=true) {f:FuncId} {fn:Func} (hf:P.funcs[f]? = some fn) (args:List AV) {α:Type} (enc:α→AV) (fl:Bool) (s:Sk α) (v:α) {pre:Prop} (ok:pre→s.bO fun _=>True) (post:α→Prop) (hp:post v) (hv:v=s.val) (n:Nat) (hb:fn.body.isSome=true) (hc:(dX P f&&Nat.ble args.length fn.ntmps)=true) (h:j8 P T fn.ntmps fn.results.toList (wW fn.results.toList) 0 [] n [.code (fn.body.get hb)] ⟨di 0 args,[]⟩ (fun a=>.ret (enc a) []) s=(j8 P T fn.ntmps fn.results.toList (wW fn.results.toList) 0 [] n [.code (fn.body.get hb)] ⟨di 0 args,[]⟩ (fun a=>.ret (enc a) []) s).diag):(kk hT hm hf args enc fl s v ok post hp hv n hb hc h).pre=pre:=rfl
@[simp] theorem ab8 {P:Program} {T:List (Nat × TI)} (hT:im P T) (hm:P.follows .mixedOrders=true) {f:FuncId} {fn:Func} (hf:P.funcs[f]? = some fn) (args:List AV) {α:Type} (enc:α→AV) (fl:Bool) (s:Sk α) (v:α) {pre:Prop} (ok:pre→s.bO fun _=>True) (post:α→Prop) (hp:post v) (hv:v=s.val) (n:Nat) (hb:fn.body.isSome=true) (hc:(dX P f&&Nat.ble args.length fn.ntmps)=true) (h:j8 P T fn.ntmps fn.results.toList (wW fn.results.toList) 0 [] n [.code (fn.body.get hb)] ⟨di 0 args,[]⟩ (fun a=>.ret (enc a) []) s=(j8 P T fn.ntmps fn.results.toList (wW fn.results.toList) 0 [] n [.code (fn.body.get hb)] ⟨di 0 args,[]⟩ (fun a=>.ret (enc a) []) s).diag):(kk hT hm hf args enc fl s v ok post hp hv n hb hc h).post=post:=rfl
theorem abl {p:Prop} (h:p:=by
 all_goals (repeat' first | assumption | (apply And.intro) | (intro h))
 all_goals first | trivial | assumption | omega | ((try simp only [LN] at *) <;> first | omega | (refine (aD ?_ ?_).trans ?_ <;> omega) | (simp (disch:=omega) only [aD] at *; omega) | (grind) | (simp (disch:=omega) only [aD] at *; grind) | (simp_all; done) | (simp_all; omega))):p:=h
theorem DB {p:Prop} (h:p:=by
 refine Sk.bP _ ?_
 simp only [Sk.oV,Sk.db,reduceCtorEq,oA,fP,bw.z,bw.p,bw.t,bw.pt,bw.o,bw.and,bw.ak,bw.AP,bw.wh,bw.dep,bw.sE,iM.c,kk,kp,iM.nil,iM.ub,gR.c,gR.nil,Sk.dj,Sk.eO,maxLen,implies_true,true_and,and_true,and_self,true_implies,false_implies,cM,jH,V6]):p:=h
theorem sH {p:Prop} (h:p:=by
 refine Sk.bP _ ?_
 simp only [Sk.oV,Sk.db,reduceCtorEq,oA,fP,bw.z,bw.p,bw.t,bw.pt,bw.o,bw.and,bw.ak,bw.AP,bw.wh,bw.dep,bw.sE,iM.c,kk,kp,iM.nil,iM.ub,gR.c,gR.nil,Sk.dj,Sk.eO,maxLen,implies_true,true_and,and_true,and_self,true_implies,false_implies,cM,jH,V6]
 all_goals (repeat' first | assumption | (apply And.intro) | (intro h))
 all_goals first | trivial | assumption | omega | ((try simp only [LN] at *) <;> first | omega | (refine (aD ?_ ?_).trans ?_ <;> omega) | (simp (disch:=omega) only [aD] at *; omega) | (grind) | (simp_all; done) | (simp_all; omega))):p:=h
theorem AQ {p:Prop} (h:p:=by
 refine Sk.bP _ ?_
 simp only [Sk.oV,Sk.db,reduceCtorEq,oA,fP,bw.z,bw.p,bw.t,bw.pt,bw.o,bw.and,bw.ak,bw.AP,bw.wh,bw.dep,bw.sE,iM.c,kk,kp,iM.nil,iM.ub,gR.c,gR.nil,Sk.dj,Sk.eO,forall_eq,Sum.forall,maxLen,implies_true,true_and,and_true,and_self,true_implies,false_implies,cM,jH,V6]
 all_goals (repeat' first | assumption | (apply And.intro) | (intro h))
 all_goals first | trivial | assumption | omega | ((try simp only [LN] at *) <;> first | omega | (refine (aD ?_ ?_).trans ?_ <;> omega) | (simp (disch:=omega) only [aD] at *; omega) | (grind) | (simp_all; done) | (simp_all; omega))):p:=h
theorem U7 {p:Prop} (h:p:=by
 refine Sk.bM _ ?_
 simp only [Sk.db,reduceCtorEq,oA,fP,bw.z,bw.p,bw.t,bw.pt,bw.o,bw.and,bw.ak,bw.AP,bw.wh,bw.dep,bw.sE,iM.c,kk,kp,iM.nil,iM.ub,gR.c,gR.nil,Sk.eO,maxLen,implies_true,true_and,and_true,and_self,true_implies,false_implies,cM,jH,V6]
 all_goals (repeat' first | assumption | (apply And.intro) | (intro h))
 all_goals first | trivial | assumption | omega | ((try simp only [LN] at *) <;> first | omega | (refine (aD ?_ ?_).trans ?_ <;> omega) | (simp (disch:=omega) only [aD] at *; omega) | (grind) | (simp_all; done) | (simp_all; omega))):p:=h
theorem U8 {p:Prop} (h:p:=by
 refine Sk.bM _ ?_
 simp only [Sk.db,reduceCtorEq,oA,fP,bw.z,bw.p,bw.t,bw.pt,bw.o,bw.and,bw.ak,bw.AP,bw.wh,bw.dep,bw.sE,iM.c,kk,kp,iM.nil,iM.ub,gR.c,gR.nil,Sk.eO,forall_eq,Sum.forall,maxLen,implies_true,true_and,and_true,and_self,true_implies,false_implies,cM,jH,V6]
 all_goals (repeat' first | assumption | (apply And.intro) | (intro h))
 all_goals first | trivial | assumption | omega | ((try simp only [LN] at *) <;> first | omega | (refine (aD ?_ ?_).trans ?_ <;> omega) | (simp (disch:=omega) only [aD] at *; omega) | (grind) | (simp_all; done) | (simp_all; omega))):p:=h
theorem Oy {α σ β:Type} {step:α→σ→β ⊕ σ} {I:Nat→σ→Prop} {Q:β→Prop}:∀ (l:List α) (k0:Nat) (s:σ),(∀ k x s,x∈l→I k s→match step x s with | .inl b=>Q b | .inr s'=>I (k+1) s')→I k0 s →
  (∃ b,Q b∧∀ fin,walk step fin l s=b)∨∃ s',I (k0+l.length) s'∧∀ fin,walk step fin l s=fin s'
 | [],k0,s,_,h0=>.inr ⟨s,h0,fun _=>rfl⟩
 | x :: r,k0,s,h,h0=>by
  have hx:=h k0 x s (by simp) h0
  simp only [walk]
  cases hs:step x s with
  | inl b=>rw [hs] at hx; exact .inl ⟨b,hx,fun _=>rfl⟩
  | inr s' =>
   rw [hs] at hx
   rcases Oy r (k0+1) s' (fun k y t hy=>h k y t (List.mem_cons_of_mem _ hy)) hx with ⟨b,q,e⟩ | ⟨t,q,e⟩
   ·exact .inl ⟨b,q,e⟩
   ·exact .inr ⟨t,by rw [List.length_cons,show k0+(r.length+1)=k0+1+r.length by omega]; exact q,e⟩
theorem gS {α σ γ δ ι:Type} [Inhabited α] (l:List α) (pack:σ→Nat→ι) {f:ι→(γ ⊕ δ) ⊕ ι} {d:γ ⊕ δ} (step:α→σ→γ ⊕ σ) (fin:σ→δ) (g:δ→γ)
  (hs:∀ s i,i < l.length→f (pack s i)=match step (l.getD i default) s with | .inl b=>.inl (.inl b) | .inr s'=>.inr (pack s' (i+1)))
  (he:∀ s,f (pack s l.length)=.inl (.inr (fin s))) {n:Nat} (hn:l.length < n) (s:σ):bN (iter f d n (pack s 0)) g=walk step (fun s=>g (fin s)) l s:=by
 rw [Ox (d:=d) l pack (fun x s=>match step x s with | .inl b=>.inl (.inl b) | .inr s'=>.inr s') (fun s=>.inr (fin s)) (fun s i hi=>by rw [hs s i hi]; cases step (l.getD i default) s <;> rfl) he hn s]
 clear hs he
 induction l generalizing s with
 | nil=>rfl
 | cons x r ih =>
  simp only [walk]
  cases step x s with
  | inl b=>rfl
  | inr s'=>exact ih (by simp at hn; omega) s'
section
open Go Go.Sort
def jo (l:List Int):List Int:=l.mergeSort fun x y=>decide (x≤y)
variable {w : World} {S : Nat → Prop} {μ : Mu} {e g c : Nat} {L : List Int}
theorem Q7 (h:cx w S μ (cm e 1 cw L) g c):Holds (Value.int .i64) w g 0 L.toArray∧∃ cur,w.heap[g]? = some (.cells cur e (0,0))∧L.length≤c∧c≤maxLen∧cur.size=c:=by
 obtain ⟨cur,hg,iw,Au,K8,Cc,kJ⟩:=h
 refine ⟨fun j hj=>?_,cur,hg,K8,Cc,by omega⟩
 have Ar:j < L.length:=by simpa using hj
 refine ⟨?_,by simp [World.frozen?,hg]⟩
 obtain ⟨x,hx,hr⟩:=(kJ j Ar).2 0 (by omega)
 have hx:cur[j]? = some x:=by simpa using hx
 have hr:Rd w S (.v (.int .i64 (L.getD j default))) x:=by simpa [cw,dI] using hr
 cases hr
 simp only [World.cell?,hg,Nat.zero_add]
 simp only [Option.isSome_none,Bool.false_eq_true,if_false,hx]
 simp [List.getD,Ar]
theorem Wc {k:Nat} {os:Array Obj} {d L':List Int} (h:cx w S μ (cm e 1 cw L) g c) (hd:d.length≤c) (hl:L'.length≤d.length) (he:∀ i,i < L'.length→d.getD i default=L'.getD i default) :
  cx (grow (putRow (Value.int .i64) (Sort.ahead w k) g 0 d.toArray) os) S μ (cm e 1 cw L') g c:=by
 obtain ⟨cur,hg,iw,Au,K8,Cc,kJ⟩:=h
 refine ⟨_,heap_sortedI d.toArray hg,iw,by simpa [putCells] using Au,by omega,Cc,fun i hi=>⟨rfl,fun j hj=>?_⟩⟩
 have hj0:j=0:=by omega
 subst hj0
 have hid:i < d.length:=by omega
 have hic:i < cur.size:=by omega
 refine ⟨.int .i64 (L'.getD i default),?_,Rd.v _ rfl⟩
 have:=he i hi
 simp only [putCells,Nat.mul_one,Nat.add_zero,Nat.zero_le,Nat.zero_add,Nat.sub_zero,true_and,Array.getElem?_mapIdx,List.size_toArray,hid,if_true]
 rw [Array.getElem?_eq_getElem hic]
 simp only [Option.map_some,Option.some.injEq,Value.int.injEq,true_and]
 rw [← this]
 simp [List.getD,hid]
theorem LX {k:Nat} {os:Array Obj} {d:Array Int} {κ:Nat} (h:μ κ=some (some (g,c))):Kept w (grow (putRow (Value.int .i64) (Sort.ahead w k) g 0 d) os) (fun q=>∃ c,μ κ=some (some (q,c))):=by
 have hb:=grownBy_sortedI (w:=w) (g:=g) (n:=k) (os:=os) d
 exact ⟨hb.os,hb.tape,hb.output,hb.size,fun b cI iu=>hb.block b cI (fun e=>by cases e; exact iu ⟨c,h⟩)⟩
theorem TV {P:Program} {f:FuncId} (hc:dX P f=true)
  (h1:∀ (blk off cap:Nat) (zs:List Int) (w:World),Holds (Value.int .i64) w blk off zs.toArray→blk < w.heap.size→zs.length < 4611686018427387904 →
   Calls P f #[.slice (some ⟨blk,off,none⟩) zs.length cap] w fun e w'=>e=.returned (.tuple #[])∧∃ n os,w'=grow (putRow (Value.int .i64) (Sort.ahead w n) blk off (zs.mergeSort fun x y=>decide (x≤y)).toArray) os)
  (h0:∀ (p:Option Addr) (cap:Nat) (w:World),Calls P f #[.slice p 0 cap] w fun e w'=>e=.returned (.tuple #[])∧w'=w) (κ e:Nat) (L:List Int) (hL:L.length < 4611686018427387904) :
  ZZ P f [ow κ L] κ (cm e 1 cw L) (cm e 1 cw (jo L)):=by
 refine ⟨hc,fun w S μ vs hS hg hr hb=>?_⟩
 obtain ⟨v,rfl⟩:∃ v,vs = #[v]:=by
  have:=(hr fun _=>false).1
  match vs,this with
  | ⟨[v]⟩,_=>exact ⟨v,rfl⟩
 have hv:Rel w S μ (fun _=>false) (.own κ L.length) v:=by simpa using (hr fun _=>false).2 0 (by simp)
 have Gq:(jo L).length=L.length:=by simp [jo]
 generalize hn:L.length=n at hv
 cases hv with
 | cR hm =>
  refine (h0 _ _ w).mono ?_
  rintro e' w' ⟨rfl,rfl⟩
  refine ⟨⟨_,rfl⟩,?_,Kept.refl _ _⟩
  rw [hm]
  show (jo L).length=0
  omega
 | @own _ _ g cap hm =>
  rw [hm] at hb
  have Aq:cx w S μ (cm e 1 cw L) g cap:=hb
  obtain ⟨q1,cur,q2,q3,q4,q5⟩:=Q7 Aq
  subst hn
  refine (h1 g 0 cap L w q1 (Array.getElem?_eq_some_iff.1 q2).1 hL).mono ?_
  rintro e' w' ⟨rfl,k,os,rfl⟩
  refine ⟨⟨_,rfl⟩,?_,LX hm⟩
  rw [hm]
  exact Wc (d:=jo L) (L':=jo L) Aq (by omega) (Nat.le_refl _) (fun _ _=>rfl)
end
end Go.Av
