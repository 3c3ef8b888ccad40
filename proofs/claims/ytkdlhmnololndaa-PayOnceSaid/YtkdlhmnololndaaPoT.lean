/- The types of this program, as the evaluator looks at them. -/
import Derived.Test.YtkdlhmnololndaaAvW
import Derived.Test.YtkdlhmnololndaaRows
namespace Go.Proofs.Ytkdlhmnololndaa
open Go Go.Av

def TT : List (Nat × TI) := [
  (3, ⟨.int .i64, 1, 8, [.v (.int .i64 0)], false⟩),
  (4, ⟨.bool, 1, 1, [.v (.bool false)], false⟩),
  (22, ⟨.slice 28, 1, 24, [.v (.slice none 0 0)], false⟩),
  (24, ⟨.struct [(0, 3), (1, 3), (2, 3), (3, 3), (4, 3), (5, 3), (6, 3), (7, 3), (8, 3)], 9, 72, [.v (.int .i64 0), .v (.int .i64 0), .v (.int .i64 0), .v (.int .i64 0), .v (.int .i64 0), .v (.int .i64 0), .v (.int .i64 0), .v (.int .i64 0), .v (.int .i64 0)], true⟩),
  (28, ⟨.struct [(0, 3), (1, 3), (2, 3), (3, 3), (4, 3), (5, 3), (6, 3), (7, 3), (8, 3)], 9, 72, [.v (.int .i64 0), .v (.int .i64 0), .v (.int .i64 0), .v (.int .i64 0), .v (.int .i64 0), .v (.int .i64 0), .v (.int .i64 0), .v (.int .i64 0), .v (.int .i64 0)], true⟩),
  (29, ⟨.slice 34, 1, 24, [.v (.slice none 0 0)], false⟩),
  (34, ⟨.struct [(0, 3), (1, 3), (2, 3), (3, 3)], 4, 32, [.v (.int .i64 0), .v (.int .i64 0), .v (.int .i64 0), .v (.int .i64 0)], true⟩),
  (38, ⟨.slice 3, 1, 24, [.v (.slice none 0 0)], false⟩),
  (43, ⟨.struct [(0, 3), (1, 3), (2, 3), (3, 3), (4, 3)], 5, 40, [.v (.int .i64 0), .v (.int .i64 0), .v (.int .i64 0), .v (.int .i64 0), .v (.int .i64 0)], true⟩)]

theorem tok : TOk Try.prog TT := TOk.of (by kernel_rfl)
theorem mixed : Try.prog.follows .mixedOrders = true := by kernel_rfl

end Go.Proofs.Ytkdlhmnololndaa
