/- Small facts that printed walks use. -/
import Derived.Test.YtihmmpaalpghbaaGreatDoorAvU
set_option linter.unusedSimpArgs false
set_option linter.unusedVariables false
namespace Go.Av
open Go
set_option linter.unusedSectionVars false
variable [Globs]
def slD {α : Type} [Inhabited α] (cells : α → List D) (l : List α) : D := .sl l.length fun i => cells (l.getD i default)
def intC (n : Int) : List D := [.v (.int .i64 n)]
def strC (s : ByteArray) : List D := [.v (.string s)]
def boolC (b : Bool) : List D := [.v (.bool b)]
theorem wrap64_id {n : Int} (h1 : -9223372036854775808 ≤ n) (h2 : n ≤ 9223372036854775807) : IntKind.i64.wrap n = n := IntWalk.i64_in n ⟨h1, h2⟩
theorem row_cat {α : Type} [Inhabited α] (cells : α → List D) (L M : List α) :
  (L.length + M.length = (L ++ M).length) ∧ ∀ i, i < L.length + M.length → (if i < L.length then cells (L.getD i default) else cells (M.getD (i - L.length) default)) = cells ((L ++ M).getD i default) := by
 refine ⟨by simp, fun i hi => ?_⟩
 split
 ·rename_i h
  simp [List.getD, List.getElem?_append_left h]
 ·rename_i h
  simp [List.getD, List.getElem?_append_right (Nat.le_of_not_lt h)]
end Go.Av
