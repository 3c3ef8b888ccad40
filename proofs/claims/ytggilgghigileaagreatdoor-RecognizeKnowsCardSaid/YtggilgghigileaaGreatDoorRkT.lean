/- The types of this program, as the evaluator looks at them. -/
import Derived.Test.YtggilgghigileaaGreatDoorAvLb
import Derived.Test.YtggilgghigileaaGreatDoorRows
namespace Go.Proofs.YtggilgghigileaaGreatDoor
open Go Go.Av
set_option linter.unusedSimpArgs false
set_option linter.unusedVariables false
set_option maxHeartbeats 1000000
set_option maxRecDepth 100000
instance : Globs := ⟨[(2, [dI 6, dI 7, dI 10, dI 12, dI 13, dI 14, dI 15, dI 16, dI 20, dI 21])]⟩
def TT : List (Nat × TI) := [
  (3, ⟨.int .i64, 1, 8, [.v (.int .i64 0)], false⟩),
  (4, ⟨.bool, 1, 1, [.v (.bool false)], false⟩),
  (5, ⟨.int .u8, 1, 1, [.v (.int .u8 0)], false⟩),
  (9, ⟨.str, 1, 16, [.v (.string ⟨#[]⟩)], false⟩),
  (22, ⟨.slice 9, 1, 24, [.v (.slice none 0 0)], false⟩),
  (23, ⟨.slice 133, 1, 24, [.v (.slice none 0 0)], false⟩),
  (24, ⟨.slice 135, 1, 24, [.v (.slice none 0 0)], false⟩),
  (25, ⟨.slice 137, 1, 24, [.v (.slice none 0 0)], false⟩),
  (26, ⟨.slice 131, 1, 24, [.v (.slice none 0 0)], false⟩),
  (27, ⟨.slice 168, 1, 24, [.v (.slice none 0 0)], false⟩),
  (28, ⟨.slice 117, 1, 24, [.v (.slice none 0 0)], false⟩),
  (29, ⟨.slice 170, 1, 24, [.v (.slice none 0 0)], false⟩),
  (31, ⟨.struct [(0, 22), (1, 23), (2, 24), (3, 25), (4, 26), (5, 27), (6, 28), (7, 29)], 8, 192, [.v (.slice none 0 0), .v (.slice none 0 0), .v (.slice none 0 0), .v (.slice none 0 0), .v (.slice none 0 0), .v (.slice none 0 0), .v (.slice none 0 0), .v (.slice none 0 0)], false⟩),
  (33, ⟨.struct [(0, 3), (1, 3), (2, 3)], 3, 24, [.v (.int .i64 0), .v (.int .i64 0), .v (.int .i64 0)], true⟩),
  (35, ⟨.struct [(0, 3), (1, 3), (2, 3), (3, 3), (4, 3), (5, 33), (8, 3), (9, 3), (10, 3), (11, 3), (12, 3), (13, 3), (14, 3)], 15, 120, [.v (.int .i64 0), .v (.int .i64 0), .v (.int .i64 0), .v (.int .i64 0), .v (.int .i64 0), .v (.int .i64 0), .v (.int .i64 0), .v (.int .i64 0), .v (.int .i64 0), .v (.int .i64 0), .v (.int .i64 0), .v (.int .i64 0), .v (.int .i64 0), .v (.int .i64 0), .v (.int .i64 0)], false⟩),
  (36, ⟨.slice 47, 1, 24, [.v (.slice none 0 0)], false⟩),
  (37, ⟨.slice 89, 1, 24, [.v (.slice none 0 0)], false⟩),
  (38, ⟨.slice 58, 1, 24, [.v (.slice none 0 0)], false⟩),
  (39, ⟨.slice 80, 1, 24, [.v (.slice none 0 0)], false⟩),
  (41, ⟨.struct [(0, 35), (15, 36), (16, 37), (17, 38), (18, 39)], 19, 216, [.v (.int .i64 0), .v (.int .i64 0), .v (.int .i64 0), .v (.int .i64 0), .v (.int .i64 0), .v (.int .i64 0), .v (.int .i64 0), .v (.int .i64 0), .v (.int .i64 0), .v (.int .i64 0), .v (.int .i64 0), .v (.int .i64 0), .v (.int .i64 0), .v (.int .i64 0), .v (.int .i64 0), .v (.slice none 0 0), .v (.slice none 0 0), .v (.slice none 0 0), .v (.slice none 0 0)], false⟩),
  (43, ⟨.struct [(0, 3), (1, 3), (2, 3), (3, 3), (4, 3), (5, 3), (6, 3), (7, 3), (8, 3)], 9, 72, [.v (.int .i64 0), .v (.int .i64 0), .v (.int .i64 0), .v (.int .i64 0), .v (.int .i64 0), .v (.int .i64 0), .v (.int .i64 0), .v (.int .i64 0), .v (.int .i64 0)], true⟩),
  (47, ⟨.struct [(0, 3), (1, 3), (2, 3), (3, 3), (4, 3), (5, 3), (6, 3), (7, 3), (8, 3)], 9, 72, [.v (.int .i64 0), .v (.int .i64 0), .v (.int .i64 0), .v (.int .i64 0), .v (.int .i64 0), .v (.int .i64 0), .v (.int .i64 0), .v (.int .i64 0), .v (.int .i64 0)], true⟩),
  (49, ⟨.int .i64, 1, 8, [.v (.int .i64 0)], false⟩),
  (58, ⟨.struct [(0, 3), (1, 3), (2, 3), (3, 3), (4, 3), (5, 3), (6, 3), (7, 3), (8, 3)], 9, 72, [.v (.int .i64 0), .v (.int .i64 0), .v (.int .i64 0), .v (.int .i64 0), .v (.int .i64 0), .v (.int .i64 0), .v (.int .i64 0), .v (.int .i64 0), .v (.int .i64 0)], true⟩),
  (61, ⟨.struct [(0, 3), (1, 3), (2, 3), (3, 3), (4, 3), (5, 3), (6, 3), (7, 3)], 8, 64, [.v (.int .i64 0), .v (.int .i64 0), .v (.int .i64 0), .v (.int .i64 0), .v (.int .i64 0), .v (.int .i64 0), .v (.int .i64 0), .v (.int .i64 0)], true⟩),
  (62, ⟨.slice 74, 1, 24, [.v (.slice none 0 0)], false⟩),
  (71, ⟨.slice 61, 1, 24, [.v (.slice none 0 0)], false⟩),
  (72, ⟨.slice 77, 1, 24, [.v (.slice none 0 0)], false⟩),
  (74, ⟨.struct [(0, 3), (1, 3), (2, 3), (3, 3), (4, 3), (5, 3)], 6, 48, [.v (.int .i64 0), .v (.int .i64 0), .v (.int .i64 0), .v (.int .i64 0), .v (.int .i64 0), .v (.int .i64 0)], true⟩),
  (77, ⟨.struct [(0, 3), (1, 3), (2, 3), (3, 3)], 4, 32, [.v (.int .i64 0), .v (.int .i64 0), .v (.int .i64 0), .v (.int .i64 0)], true⟩),
  (80, ⟨.struct [(0, 3), (1, 3), (2, 3)], 3, 24, [.v (.int .i64 0), .v (.int .i64 0), .v (.int .i64 0)], true⟩),
  (89, ⟨.struct [(0, 3), (1, 3)], 2, 16, [.v (.int .i64 0), .v (.int .i64 0)], true⟩),
  (94, ⟨.struct [(0, 4), (1, 3)], 2, 16, [.v (.bool false), .v (.int .i64 0)], true⟩),
  (95, ⟨.slice 3, 1, 24, [.v (.slice none 0 0)], false⟩),
  (97, ⟨.struct [(0, 94), (2, 3), (3, 95), (4, 49)], 5, 56, [.v (.bool false), .v (.int .i64 0), .v (.int .i64 0), .v (.slice none 0 0), .v (.int .i64 0)], false⟩),
  (100, ⟨.struct [(0, 41), (19, 3), (20, 3), (21, 3), (22, 3), (23, 3)], 24, 256, [.v (.int .i64 0), .v (.int .i64 0), .v (.int .i64 0), .v (.int .i64 0), .v (.int .i64 0), .v (.int .i64 0), .v (.int .i64 0), .v (.int .i64 0), .v (.int .i64 0), .v (.int .i64 0), .v (.int .i64 0), .v (.int .i64 0), .v (.int .i64 0), .v (.int .i64 0), .v (.int .i64 0), .v (.slice none 0 0), .v (.slice none 0 0), .v (.slice none 0 0), .v (.slice none 0 0), .v (.int .i64 0), .v (.int .i64 0), .v (.int .i64 0), .v (.int .i64 0), .v (.int .i64 0)], false⟩),
  (113, ⟨.other, 1, 8, [.v .nilFunc], false⟩),
  (117, ⟨.struct [(0, 3), (1, 3), (2, 3), (3, 3), (4, 3)], 5, 40, [.v (.int .i64 0), .v (.int .i64 0), .v (.int .i64 0), .v (.int .i64 0), .v (.int .i64 0)], true⟩),
  (123, ⟨.slice 125, 1, 24, [.v (.slice none 0 0)], false⟩),
  (125, ⟨.struct [(0, 3), (1, 3), (2, 123)], 3, 40, [.v (.int .i64 0), .v (.int .i64 0), .v (.slice none 0 0)], false⟩),
  (127, ⟨.struct [(0, 3), (1, 125)], 4, 48, [.v (.int .i64 0), .v (.int .i64 0), .v (.int .i64 0), .v (.slice none 0 0)], false⟩),
  (128, ⟨.slice 127, 1, 24, [.v (.slice none 0 0)], false⟩),
  (129, ⟨.slice 204, 1, 24, [.v (.slice none 0 0)], false⟩),
  (131, ⟨.struct [(0, 9), (1, 4), (2, 129), (3, 128)], 4, 72, [.v (.string ⟨#[]⟩), .v (.bool false), .v (.slice none 0 0), .v (.slice none 0 0)], false⟩),
  (133, ⟨.struct [(0, 9), (1, 3), (2, 3), (3, 95), (4, 95), (5, 95)], 6, 104, [.v (.string ⟨#[]⟩), .v (.int .i64 0), .v (.int .i64 0), .v (.slice none 0 0), .v (.slice none 0 0), .v (.slice none 0 0)], false⟩),
  (135, ⟨.struct [(0, 3)], 1, 8, [.v (.int .i64 0)], true⟩),
  (137, ⟨.struct [(0, 9), (1, 3), (2, 3)], 3, 32, [.v (.string ⟨#[]⟩), .v (.int .i64 0), .v (.int .i64 0)], true⟩),
  (141, ⟨.slice 94, 1, 24, [.v (.slice none 0 0)], false⟩),
  (147, ⟨.other, 1, 8, [.v .nilFunc], false⟩),
  (160, ⟨.int .u64, 1, 8, [.v (.int .u64 0)], false⟩),
  (168, ⟨.struct [(0, 3), (1, 3), (2, 3)], 3, 24, [.v (.int .i64 0), .v (.int .i64 0), .v (.int .i64 0)], true⟩),
  (170, ⟨.struct [(0, 3), (1, 3), (2, 3)], 3, 24, [.v (.int .i64 0), .v (.int .i64 0), .v (.int .i64 0)], true⟩),
  (172, ⟨.struct [(0, 31), (8, 3), (9, 41), (28, 3), (29, 3), (30, 3)], 31, 440, [.v (.slice none 0 0), .v (.slice none 0 0), .v (.slice none 0 0), .v (.slice none 0 0), .v (.slice none 0 0), .v (.slice none 0 0), .v (.slice none 0 0), .v (.slice none 0 0), .v (.int .i64 0), .v (.int .i64 0), .v (.int .i64 0), .v (.int .i64 0), .v (.int .i64 0), .v (.int .i64 0), .v (.int .i64 0), .v (.int .i64 0), .v (.int .i64 0), .v (.int .i64 0), .v (.int .i64 0), .v (.int .i64 0), .v (.int .i64 0), .v (.int .i64 0), .v (.int .i64 0), .v (.int .i64 0), .v (.slice none 0 0), .v (.slice none 0 0), .v (.slice none 0 0), .v (.slice none 0 0), .v (.int .i64 0), .v (.int .i64 0), .v (.int .i64 0)], false⟩),
  (195, ⟨.int .u64, 1, 8, [.v (.int .u64 0)], false⟩),
  (197, ⟨.other, 1, 16, [.v .nilIface], false⟩),
  (204, ⟨.struct [(0, 3), (1, 3), (2, 4)], 3, 24, [.v (.int .i64 0), .v (.int .i64 0), .v (.bool false)], true⟩),
  (206, ⟨.array 10 3, 10, 80, [.v (.int .i64 0), .v (.int .i64 0), .v (.int .i64 0), .v (.int .i64 0), .v (.int .i64 0), .v (.int .i64 0), .v (.int .i64 0), .v (.int .i64 0), .v (.int .i64 0), .v (.int .i64 0)], false⟩),
  (210, ⟨.other, 1, 8, [.v .nilFunc], false⟩),
  (214, ⟨.struct [(0, 141)], 1, 24, [.v (.slice none 0 0)], false⟩),
  (222, ⟨.slice 4, 1, 24, [.v (.slice none 0 0)], false⟩),
  (226, ⟨.map 3 3, 1, 8, [.v (.map none)], false⟩),
  (228, ⟨.other, 1, 8, [.v .nilFunc], false⟩),
  (229, ⟨.map 3 4, 1, 8, [.v (.map none)], false⟩),
  (235, ⟨.slice 95, 1, 24, [.v (.slice none 0 0)], false⟩),
  (246, ⟨.struct [(0, 95), (1, 3)], 2, 32, [.v (.slice none 0 0), .v (.int .i64 0)], false⟩),
  (251, ⟨.slice 5, 1, 24, [.v (.slice none 0 0)], false⟩)]

theorem tok : TOk Tryz.prog TT := TOk.of (by kernel_rfl)
theorem mixed : Tryz.prog.follows .mixedOrders = true := by kernel_rfl
end Go.Proofs.YtggilgghigileaaGreatDoor
