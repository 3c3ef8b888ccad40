/- Weaker contracts, nil tests, own rows that turn into data. -/
import Derived.Test.YtihmmpaalpghbaaGreatDoorAvV
import Derived.Lib.SliceRun
set_option linter.unusedSimpArgs false
set_option linter.unusedVariables false
namespace Go.Av
open Go
set_option linter.unusedSectionVars false
variable [Globs]
def AvLeL : List AV → List AV → Prop
 | [], [] => True
 | x :: r, y :: s => AvLe x y ∧ AvLeL r s
 | _, _ => False
theorem AvLeL.rel {w : World} {S : Nat → Prop} {μ : Mu} {ν : Nat → Bool} : ∀ {l l' : List AV} {vs : List Value}, AvLeL l l' → RelL w S μ ν l vs → RelL w S μ ν l' vs
 | [], [], _, _, h => h
 | x :: r, y :: s, vs, h, hr => by
  obtain ⟨h1, h2⟩ := h
  cases vs with
  | nil => exact absurd hr.1 (by simp)
  | cons v vs =>
   have ht : RelL w S μ ν r vs := ⟨by simpa using hr.1, fun i hi => by simpa using hr.2 (i + 1) (by simpa using hi)⟩
   have := AvLeL.rel h2 ht
   refine ⟨by simpa using this.1, fun i hi => ?_⟩
   cases i with
   | zero => exact h1 _ _ _ _ _ (by simpa using hr.2 0 (by simp))
   | succ i => simpa using this.2 i (by simpa using hi)
 | [], _ :: _, _, h, _ => h.elim
 | _ :: _, [], _, h, _ => h.elim
theorem FnA.argLe {P : Program} {f : FuncId} {args args' : List AV} {lbs lbs' : List (Nat × Blk)} {res : AV} (h : FnA P f args' lbs res lbs') (hle : AvLeL args args') : FnA P f args lbs res lbs' :=
 ⟨h.1, fun w S μ vs h1 hg h2 h3 h4 => h.2 w S μ vs h1 hg (fun ν => hle.rel (h2 ν)) h3 h4⟩
end Go.Av
