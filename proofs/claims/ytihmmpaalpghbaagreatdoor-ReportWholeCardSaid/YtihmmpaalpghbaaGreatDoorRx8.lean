/- A function by hand. -/
import Derived.Test.YtihmmpaalpghbaaGreatDoorRx7
import Derived.WalkKit
import Derived.Shelf.Small.Strs
import Derived.Shelf.Lay
import Derived.Ground.NamesProg
namespace Go.Proofs.YtihmmpaalpghbaaGreatDoor
open Go Go.Av Go.Shelf Go.RowKit
set_option linter.unusedSimpArgs false
set_option linter.unusedVariables false
set_option maxHeartbeats 1000000
set_option maxRecDepth 100000
def Tryz.scmpLays_ren : Go.Shelf.Ren := ⟨fun | 106 => 57 | 213 => 92 | 265 => 138 | n => n, fun | 9 => 9 | 3 => 3 | n => n, fun | n => n⟩
theorem Tryz.scmpLays : Go.Proofs.Lays.n106 Tryz.prog Tryz.scmpLays_ren := {
  mixed := by kernel_rfl
  f106 := Tryz.func57.trans (congrArg some (by kernel_rfl))
  f213 := Tryz.func92.trans (congrArg some (by kernel_rfl))
  f265 := Tryz.func138.trans (congrArg some (by kernel_rfl))
  t3 := Tryz.underlying3
  a3 := Tryz.isAgg3
  z3 := Tryz.sizeOf3
  v3 := Tryz.zeroValue3
  t9 := Tryz.underlying9
  a9 := Tryz.isAgg9
  z9 := Tryz.sizeOf9
  v9 := Tryz.zeroValue9 }
/-- two strings, compared -/
def strings_Compare (a b : ByteArray) : Int := Lib.compareBytes a.data.toList b.data.toList
theorem strings_Compare_fn (a b : ByteArray) : FnA Tryz.prog 57 [sv a, sv b] [] (iv (strings_Compare a b)) [] := by
  refine FnA.pure (by kernel_rfl) (fun w S μ vs hS hg hr => ?_)
  obtain ⟨v, u, rfl⟩ : ∃ v u, vs = #[v, u] := by
    have := (hr fun _ => false).1
    match vs, this with
    | ⟨[v, u]⟩, _ => exact ⟨v, u, rfl⟩
  have hv : Rel w S μ (fun _ => false) (sv a) v := by simpa using (hr fun _ => false).2 0 (by simp)
  have hu : Rel w S μ (fun _ => false) (sv b) u := by simpa using (hr fun _ => false).2 1 (by simp)
  have hv' : v = .string a := rel_scalar rfl hv
  have hu' : u = .string b := rel_scalar rfl hu
  subst hv'; subst hu'
  refine ⟨.int .i64 (strings_Compare a b), (Any.strings_Compare Tryz.scmpLays a b w).mono ?_, fun _ _ _ _ => rel_v rfl⟩
  rintro e w' ⟨rfl, rfl⟩
  exact ⟨rfl, Below.refl _ _⟩
noncomputable def strings_Compare_k (a b : ByteArray) : Ctr Int := ⟨Tryz.prog, 57, [sv a, sv b], fun x => iv x, true, strings_Compare a b, True, fun _ => strings_Compare_fn a b, fun _ => True, trivial⟩
end Go.Proofs.YtihmmpaalpghbaaGreatDoor

