/- The types of this program, as the evaluator looks at them. -/
import Derived.Test.YtihmmpaalpghbaaGreatDoorLd
import Derived.Test.YtihmmpaalpghbaaGreatDoorRows
import Derived.WalkKit
import Derived.Shelf.Strconv.Itoa3
import Derived.Shelf.Strings.BuilderK
import Derived.Shelf.Lay
import Derived.Ground.NamesProg
import Derived.Test.YtihmmpaalpghbaaGreatDoorProg
import Derived.Shelf.Strconv.AtoiAll
import Derived.Shelf.Strings.Cut
import Derived.Lib.AtoiErrMem
import Derived.BigCall
import Derived.Shelf.Small.Strs
set_option linter.unusedSimpArgs false
set_option linter.unusedVariables false
set_option maxHeartbeats 1000000
set_option maxRecDepth 100000
namespace Go.Proofs.YtihmmpaalpghbaaGreatDoor
noncomputable section
open Go Go.Av
instance:oa:=⟨[(3,[.v (.int .u64 1),.v (.int .u64 10),.v (.int .u64 100),.v (.int .u64 1000),.v (.int .u64 10000),.v (.int .u64 100000),.v (.int .u64 1000000),.v (.int .u64 10000000),.v (.int .u64 100000000),.v (.int .u64 1000000000),.v (.int .u64 10000000000),.v (.int .u64 100000000000),.v (.int .u64 1000000000000),.v (.int .u64 10000000000000),.v (.int .u64 100000000000000),.v (.int .u64 1000000000000000),.v (.int .u64 10000000000000000),.v (.int .u64 100000000000000000),.v (.int .u64 1000000000000000000),.v (.int .u64 10000000000000000000)])],[(0,LW),(1,ER),(2,ER),(3,isCells 20)]⟩
def TT:List (Nat × TI):=[
 (2,⟨.int .i64,1,8,[.v (.int .i64 0)],false⟩),
 (3,⟨.int .i64,1,8,[.v (.int .i64 0)],false⟩),
 (4,⟨.bool,1,1,[.v (.bool false)],false⟩),
 (5,⟨.int .u8,1,1,[.v (.int .u8 0)],false⟩),
 (9,⟨.str,1,16,[.v (.string ⟨#[]⟩)],false⟩),
 (21,⟨.int .i32,1,4,[.v (.int .i32 0)],false⟩),
 (23,⟨.struct [(0,3),(1,3),(2,3)],3,24,[.v (.int .i64 0),.v (.int .i64 0),.v (.int .i64 0)],true⟩),
 (25,⟨.struct [(0,3),(1,3),(2,3),(3,3),(4,3),(5,23),(8,3),(9,3),(10,3),(11,3),(12,3),(13,3),(14,3)],15,120,[.v (.int .i64 0),.v (.int .i64 0),.v (.int .i64 0),.v (.int .i64 0),.v (.int .i64 0),.v (.int .i64 0),.v (.int .i64 0),.v (.int .i64 0),.v (.int .i64 0),.v (.int .i64 0),.v (.int .i64 0),.v (.int .i64 0),.v (.int .i64 0),.v (.int .i64 0),.v (.int .i64 0)],true⟩),
 (27,⟨.struct [(0,3),(1,3),(2,3),(3,3),(4,3),(5,3),(6,3),(7,3),(8,3)],9,72,[.v (.int .i64 0),.v (.int .i64 0),.v (.int .i64 0),.v (.int .i64 0),.v (.int .i64 0),.v (.int .i64 0),.v (.int .i64 0),.v (.int .i64 0),.v (.int .i64 0)],true⟩),
 (29,⟨.struct [(0,3),(1,3),(2,3),(3,3),(4,3),(5,3),(6,3),(7,3),(8,3)],9,72,[.v (.int .i64 0),.v (.int .i64 0),.v (.int .i64 0),.v (.int .i64 0),.v (.int .i64 0),.v (.int .i64 0),.v (.int .i64 0),.v (.int .i64 0),.v (.int .i64 0)],true⟩),
 (31,⟨.struct [(0,3),(1,3)],2,16,[.v (.int .i64 0),.v (.int .i64 0)],true⟩),
 (33,⟨.struct [(0,3),(1,3),(2,3)],3,24,[.v (.int .i64 0),.v (.int .i64 0),.v (.int .i64 0)],true⟩),
 (35,⟨.struct [(0,3),(1,3),(2,3),(3,25),(18,27),(27,29),(36,31),(38,33)],41,328,[.v (.int .i64 0),.v (.int .i64 0),.v (.int .i64 0),.v (.int .i64 0),.v (.int .i64 0),.v (.int .i64 0),.v (.int .i64 0),.v (.int .i64 0),.v (.int .i64 0),.v (.int .i64 0),.v (.int .i64 0),.v (.int .i64 0),.v (.int .i64 0),.v (.int .i64 0),.v (.int .i64 0),.v (.int .i64 0),.v (.int .i64 0),.v (.int .i64 0),.v (.int .i64 0),.v (.int .i64 0),.v (.int .i64 0),.v (.int .i64 0),.v (.int .i64 0),.v (.int .i64 0),.v (.int .i64 0),.v (.int .i64 0),.v (.int .i64 0),.v (.int .i64 0),.v (.int .i64 0),.v (.int .i64 0),.v (.int .i64 0),.v (.int .i64 0),.v (.int .i64 0),.v (.int .i64 0),.v (.int .i64 0),.v (.int .i64 0),.v (.int .i64 0),.v (.int .i64 0),.v (.int .i64 0),.v (.int .i64 0),.v (.int .i64 0)],true⟩),
 (37,⟨.struct [(0,3),(1,3),(2,3),(3,35)],44,352,[.v (.int .i64 0),.v (.int .i64 0),.v (.int .i64 0),.v (.int .i64 0),.v (.int .i64 0),.v (.int .i64 0),.v (.int .i64 0),.v (.int .i64 0),.v (.int .i64 0),.v (.int .i64 0),.v (.int .i64 0),.v (.int .i64 0),.v (.int .i64 0),.v (.int .i64 0),.v (.int .i64 0),.v (.int .i64 0),.v (.int .i64 0),.v (.int .i64 0),.v (.int .i64 0),.v (.int .i64 0),.v (.int .i64 0),.v (.int .i64 0),.v (.int .i64 0),.v (.int .i64 0),.v (.int .i64 0),.v (.int .i64 0),.v (.int .i64 0),.v (.int .i64 0),.v (.int .i64 0),.v (.int .i64 0),.v (.int .i64 0),.v (.int .i64 0),.v (.int .i64 0),.v (.int .i64 0),.v (.int .i64 0),.v (.int .i64 0),.v (.int .i64 0),.v (.int .i64 0),.v (.int .i64 0),.v (.int .i64 0),.v (.int .i64 0),.v (.int .i64 0),.v (.int .i64 0),.v (.int .i64 0)],true⟩),
 (41,⟨.other,1,8,[.v .nilFunc],false⟩),
 (43,⟨.slice 3,1,24,[.v (.slice none 0 0)],false⟩),
 (47,⟨.slice 9,1,24,[.v (.slice none 0 0)],false⟩),
 (48,⟨.slice 105,1,24,[.v (.slice none 0 0)],false⟩),
 (49,⟨.slice 163,1,24,[.v (.slice none 0 0)],false⟩),
 (50,⟨.slice 165,1,24,[.v (.slice none 0 0)],false⟩),
 (51,⟨.slice 109,1,24,[.v (.slice none 0 0)],false⟩),
 (52,⟨.slice 168,1,24,[.v (.slice none 0 0)],false⟩),
 (53,⟨.slice 170,1,24,[.v (.slice none 0 0)],false⟩),
 (54,⟨.slice 172,1,24,[.v (.slice none 0 0)],false⟩),
 (56,⟨.struct [(0,47),(1,48),(2,49),(3,50),(4,51),(5,52),(6,53),(7,54)],8,192,[.v (.slice none 0 0),.v (.slice none 0 0),.v (.slice none 0 0),.v (.slice none 0 0),.v (.slice none 0 0),.v (.slice none 0 0),.v (.slice none 0 0),.v (.slice none 0 0)],false⟩),
 (57,⟨.slice 27,1,24,[.v (.slice none 0 0)],false⟩),
 (58,⟨.slice 31,1,24,[.v (.slice none 0 0)],false⟩),
 (59,⟨.slice 29,1,24,[.v (.slice none 0 0)],false⟩),
 (60,⟨.slice 33,1,24,[.v (.slice none 0 0)],false⟩),
 (62,⟨.struct [(0,25),(15,57),(16,58),(17,59),(18,60)],19,216,[.v (.int .i64 0),.v (.int .i64 0),.v (.int .i64 0),.v (.int .i64 0),.v (.int .i64 0),.v (.int .i64 0),.v (.int .i64 0),.v (.int .i64 0),.v (.int .i64 0),.v (.int .i64 0),.v (.int .i64 0),.v (.int .i64 0),.v (.int .i64 0),.v (.int .i64 0),.v (.int .i64 0),.v (.slice none 0 0),.v (.slice none 0 0),.v (.slice none 0 0),.v (.slice none 0 0)],false⟩),
 (65,⟨.int .i64,1,8,[.v (.int .i64 0)],false⟩),
 (67,⟨.slice 35,1,24,[.v (.slice none 0 0)],false⟩),
 (68,⟨.slice 70,1,24,[.v (.slice none 0 0)],false⟩),
 (70,⟨.struct [(0,3),(1,3),(2,37)],46,368,[.v (.int .i64 0),.v (.int .i64 0),.v (.int .i64 0),.v (.int .i64 0),.v (.int .i64 0),.v (.int .i64 0),.v (.int .i64 0),.v (.int .i64 0),.v (.int .i64 0),.v (.int .i64 0),.v (.int .i64 0),.v (.int .i64 0),.v (.int .i64 0),.v (.int .i64 0),.v (.int .i64 0),.v (.int .i64 0),.v (.int .i64 0),.v (.int .i64 0),.v (.int .i64 0),.v (.int .i64 0),.v (.int .i64 0),.v (.int .i64 0),.v (.int .i64 0),.v (.int .i64 0),.v (.int .i64 0),.v (.int .i64 0),.v (.int .i64 0),.v (.int .i64 0),.v (.int .i64 0),.v (.int .i64 0),.v (.int .i64 0),.v (.int .i64 0),.v (.int .i64 0),.v (.int .i64 0),.v (.int .i64 0),.v (.int .i64 0),.v (.int .i64 0),.v (.int .i64 0),.v (.int .i64 0),.v (.int .i64 0),.v (.int .i64 0),.v (.int .i64 0),.v (.int .i64 0),.v (.int .i64 0),.v (.int .i64 0),.v (.int .i64 0)],true⟩),
 (75,⟨.slice 37,1,24,[.v (.slice none 0 0)],false⟩),
 (89,⟨.slice 5,1,24,[.v (.slice none 0 0)],false⟩),
 (103,⟨.other,1,8,[.v .nilFunc],false⟩),
 (105,⟨.struct [(0,9),(1,3),(2,3),(3,43),(4,43),(5,43)],6,104,[.v (.string ⟨#[]⟩),.v (.int .i64 0),.v (.int .i64 0),.v (.slice none 0 0),.v (.slice none 0 0),.v (.slice none 0 0)],false⟩),
 (106,⟨.slice 205,1,24,[.v (.slice none 0 0)],false⟩),
 (107,⟨.slice 210,1,24,[.v (.slice none 0 0)],false⟩),
 (109,⟨.struct [(0,9),(1,4),(2,106),(3,107)],4,72,[.v (.string ⟨#[]⟩),.v (.bool false),.v (.slice none 0 0),.v (.slice none 0 0)],false⟩),
 (114,⟨.other,1,8,[.v (.pointer none)],false⟩),
 (116,⟨.map 151 35,1,8,[.v (.map none)],false⟩),
 (118,⟨.struct [(0,56),(8,116),(9,62),(28,67)],29,440,[.v (.slice none 0 0),.v (.slice none 0 0),.v (.slice none 0 0),.v (.slice none 0 0),.v (.slice none 0 0),.v (.slice none 0 0),.v (.slice none 0 0),.v (.slice none 0 0),.v (.map none),.v (.int .i64 0),.v (.int .i64 0),.v (.int .i64 0),.v (.int .i64 0),.v (.int .i64 0),.v (.int .i64 0),.v (.int .i64 0),.v (.int .i64 0),.v (.int .i64 0),.v (.int .i64 0),.v (.int .i64 0),.v (.int .i64 0),.v (.int .i64 0),.v (.int .i64 0),.v (.int .i64 0),.v (.slice none 0 0),.v (.slice none 0 0),.v (.slice none 0 0),.v (.slice none 0 0),.v (.slice none 0 0)],false⟩),
 (119,⟨.map 3 4,1,8,[.v (.map none)],false⟩),
 (125,⟨.other,1,8,[.v .nilFunc],false⟩),
 (133,⟨.other,1,8,[.v .nilFunc],false⟩),
 (138,⟨.other,1,16,[.v .nilIface],false⟩),
 (151,⟨.struct [(0,3),(1,3),(2,3),(3,3)],4,32,[.v (.int .i64 0),.v (.int .i64 0),.v (.int .i64 0),.v (.int .i64 0)],true⟩),
 (152,⟨.map 37 3,1,8,[.v (.map none)],false⟩),
 (153,⟨.map 155 4,1,8,[.v (.map none)],false⟩),
 (155,⟨.struct [(0,3),(1,3)],2,16,[.v (.int .i64 0),.v (.int .i64 0)],true⟩),
 (159,⟨.int .u64,1,8,[.v (.int .u64 0)],false⟩),
 (163,⟨.struct [(0,3)],1,8,[.v (.int .i64 0)],true⟩),
 (165,⟨.struct [(0,9),(1,3),(2,3)],3,32,[.v (.string ⟨#[]⟩),.v (.int .i64 0),.v (.int .i64 0)],true⟩),
 (168,⟨.struct [(0,3),(1,3),(2,3)],3,24,[.v (.int .i64 0),.v (.int .i64 0),.v (.int .i64 0)],true⟩),
 (170,⟨.struct [(0,3),(1,3),(2,3),(3,3),(4,3)],5,40,[.v (.int .i64 0),.v (.int .i64 0),.v (.int .i64 0),.v (.int .i64 0),.v (.int .i64 0)],true⟩),
 (172,⟨.struct [(0,3),(1,3),(2,3)],3,24,[.v (.int .i64 0),.v (.int .i64 0),.v (.int .i64 0)],true⟩),
 (176,⟨.other,1,8,[.v (.pointer none)],false⟩),
 (178,⟨.struct [(0,176),(1,89)],2,32,[.v (.pointer none),.v (.slice none 0 0)],false⟩),
 (184,⟨.other,1,8,[.v .nilFunc],false⟩),
 (187,⟨.map 151 4,1,8,[.v (.map none)],false⟩),
 (190,⟨.int .i64,1,8,[.v (.int .i64 0)],false⟩),
 (198,⟨.int .u32,1,4,[.v (.int .u32 0)],false⟩),
 (200,⟨.int .u64,1,8,[.v (.int .u64 0)],false⟩),
 (205,⟨.struct [(0,3),(1,3),(2,4)],3,24,[.v (.int .i64 0),.v (.int .i64 0),.v (.bool false)],true⟩),
 (206,⟨.slice 208,1,24,[.v (.slice none 0 0)],false⟩),
 (208,⟨.struct [(0,3),(1,3),(2,206)],3,40,[.v (.int .i64 0),.v (.int .i64 0),.v (.slice none 0 0)],false⟩),
 (210,⟨.struct [(0,3),(1,208)],4,48,[.v (.int .i64 0),.v (.int .i64 0),.v (.int .i64 0),.v (.slice none 0 0)],false⟩),
 (215,⟨.other,1,8,[.v (.pointer none)],false⟩),
 (227,⟨.int .u64,1,8,[.v (.int .u64 0)],false⟩),
 (231,⟨.other,1,8,[.v (.pointer none)],false⟩),
 (237,⟨.other,1,8,[.v (.pointer none)],false⟩),
 (245,⟨.struct [(0,9),(1,9),(2,138)],3,48,[.v (.string ⟨#[]⟩),.v (.string ⟨#[]⟩),.v .nilIface],false⟩),
 (247,⟨.array 24 5,24,24,[.v (.int .u8 0),.v (.int .u8 0),.v (.int .u8 0),.v (.int .u8 0),.v (.int .u8 0),.v (.int .u8 0),.v (.int .u8 0),.v (.int .u8 0),.v (.int .u8 0),.v (.int .u8 0),.v (.int .u8 0),.v (.int .u8 0),.v (.int .u8 0),.v (.int .u8 0),.v (.int .u8 0),.v (.int .u8 0),.v (.int .u8 0),.v (.int .u8 0),.v (.int .u8 0),.v (.int .u8 0),.v (.int .u8 0),.v (.int .u8 0),.v (.int .u8 0),.v (.int .u8 0)],false⟩),
 (261,⟨.struct [(0,9)],1,16,[.v (.string ⟨#[]⟩)],true⟩),
 (263,⟨.array 20 200,20,160,[.v (.int .u64 0),.v (.int .u64 0),.v (.int .u64 0),.v (.int .u64 0),.v (.int .u64 0),.v (.int .u64 0),.v (.int .u64 0),.v (.int .u64 0),.v (.int .u64 0),.v (.int .u64 0),.v (.int .u64 0),.v (.int .u64 0),.v (.int .u64 0),.v (.int .u64 0),.v (.int .u64 0),.v (.int .u64 0),.v (.int .u64 0),.v (.int .u64 0),.v (.int .u64 0),.v (.int .u64 0)],false⟩),
 (264,⟨.array 65 5,65,65,[.v (.int .u8 0),.v (.int .u8 0),.v (.int .u8 0),.v (.int .u8 0),.v (.int .u8 0),.v (.int .u8 0),.v (.int .u8 0),.v (.int .u8 0),.v (.int .u8 0),.v (.int .u8 0),.v (.int .u8 0),.v (.int .u8 0),.v (.int .u8 0),.v (.int .u8 0),.v (.int .u8 0),.v (.int .u8 0),.v (.int .u8 0),.v (.int .u8 0),.v (.int .u8 0),.v (.int .u8 0),.v (.int .u8 0),.v (.int .u8 0),.v (.int .u8 0),.v (.int .u8 0),.v (.int .u8 0),.v (.int .u8 0),.v (.int .u8 0),.v (.int .u8 0),.v (.int .u8 0),.v (.int .u8 0),.v (.int .u8 0),.v (.int .u8 0),.v (.int .u8 0),.v (.int .u8 0),.v (.int .u8 0),.v (.int .u8 0),.v (.int .u8 0),.v (.int .u8 0),.v (.int .u8 0),.v (.int .u8 0),.v (.int .u8 0),.v (.int .u8 0),.v (.int .u8 0),.v (.int .u8 0),.v (.int .u8 0),.v (.int .u8 0),.v (.int .u8 0),.v (.int .u8 0),.v (.int .u8 0),.v (.int .u8 0),.v (.int .u8 0),.v (.int .u8 0),.v (.int .u8 0),.v (.int .u8 0),.v (.int .u8 0),.v (.int .u8 0),.v (.int .u8 0),.v (.int .u8 0),.v (.int .u8 0),.v (.int .u8 0),.v (.int .u8 0),.v (.int .u8 0),.v (.int .u8 0),.v (.int .u8 0),.v (.int .u8 0)],false⟩),
 (266,⟨.array 32 5,32,32,[.v (.int .u8 0),.v (.int .u8 0),.v (.int .u8 0),.v (.int .u8 0),.v (.int .u8 0),.v (.int .u8 0),.v (.int .u8 0),.v (.int .u8 0),.v (.int .u8 0),.v (.int .u8 0),.v (.int .u8 0),.v (.int .u8 0),.v (.int .u8 0),.v (.int .u8 0),.v (.int .u8 0),.v (.int .u8 0),.v (.int .u8 0),.v (.int .u8 0),.v (.int .u8 0),.v (.int .u8 0),.v (.int .u8 0),.v (.int .u8 0),.v (.int .u8 0),.v (.int .u8 0),.v (.int .u8 0),.v (.int .u8 0),.v (.int .u8 0),.v (.int .u8 0),.v (.int .u8 0),.v (.int .u8 0),.v (.int .u8 0),.v (.int .u8 0)],false⟩),
 (267,⟨.array 64 5,64,64,[.v (.int .u8 0),.v (.int .u8 0),.v (.int .u8 0),.v (.int .u8 0),.v (.int .u8 0),.v (.int .u8 0),.v (.int .u8 0),.v (.int .u8 0),.v (.int .u8 0),.v (.int .u8 0),.v (.int .u8 0),.v (.int .u8 0),.v (.int .u8 0),.v (.int .u8 0),.v (.int .u8 0),.v (.int .u8 0),.v (.int .u8 0),.v (.int .u8 0),.v (.int .u8 0),.v (.int .u8 0),.v (.int .u8 0),.v (.int .u8 0),.v (.int .u8 0),.v (.int .u8 0),.v (.int .u8 0),.v (.int .u8 0),.v (.int .u8 0),.v (.int .u8 0),.v (.int .u8 0),.v (.int .u8 0),.v (.int .u8 0),.v (.int .u8 0),.v (.int .u8 0),.v (.int .u8 0),.v (.int .u8 0),.v (.int .u8 0),.v (.int .u8 0),.v (.int .u8 0),.v (.int .u8 0),.v (.int .u8 0),.v (.int .u8 0),.v (.int .u8 0),.v (.int .u8 0),.v (.int .u8 0),.v (.int .u8 0),.v (.int .u8 0),.v (.int .u8 0),.v (.int .u8 0),.v (.int .u8 0),.v (.int .u8 0),.v (.int .u8 0),.v (.int .u8 0),.v (.int .u8 0),.v (.int .u8 0),.v (.int .u8 0),.v (.int .u8 0),.v (.int .u8 0),.v (.int .u8 0),.v (.int .u8 0),.v (.int .u8 0),.v (.int .u8 0),.v (.int .u8 0),.v (.int .u8 0),.v (.int .u8 0)],false⟩)]
theorem tok:im Tryz.prog TT:=im.of (by kernel_rfl)
theorem mixed:Tryz.prog.follows .mixedOrders=true:=by kernel_rfl
structure nj where
 name:ByteArray
 order:Int
 bh:Int
 rest:List Int
 cK:List Int
 shut:List Int
 deriving Inhabited
def nj.cells (c:nj):List D:=[.v (.string c.name),dI c.order,dI c.bh,qO cw c.rest,qO cw c.cK,qO cw c.shut]
structure kK where
 BW:Int
 deriving Inhabited
def kK.cells (c:kK):List D:=[dI c.BW]
structure wY where
 name:ByteArray
 bn:Int
 group:Int
 deriving Inhabited
def wY.cells (c:wY):List D:=[.v (.string c.name),dI c.bn,dI c.group]
structure Choice where
 ask:Int
 H2:Int
 whole:Bool
 deriving Inhabited
def Choice.cells (c:Choice):List D:=[dI c.ask,dI c.H2,dB c.whole]
structure Term where
 op:Int
 n:Int
 args:List Term
instance:Inhabited Term:=⟨⟨default,default,default⟩⟩
mutual
def Term.LY:Term→D
 | ⟨_,_,args⟩=>.sl args.length (Term.ET args)
def Term.ET:List Term→Nat→List D
 | [],_=>[]
 | x :: _,0=>[dI x.op,dI x.n,Term.LY x]
 | _ :: r,i+1=>Term.ET r i
end
def Term.iD (x:Term):List D:=[dI x.op,dI x.n,Term.LY x]
theorem Term.AR:∀ (l:List Term) (i:Nat),i < l.length→Term.ET l i=(l.getD i default).iD
 | [],i,h=>absurd h (by simp)
 | x :: r,0,_=>by simp [Term.ET,Term.iD]
 | x :: r,i+1,h=>by simpa [Term.ET] using Term.AR r i (by simpa using h)
def Term.cells (c:Term):List D:=[dI c.op,dI c.n,qO Term.iD c.args]
theorem Term.LZ (c:Term):oS (Term.LY c) (qO Term.iD c.args)∧oS (qO Term.iD c.args) (Term.LY c):=by
 obtain ⟨op,n,args⟩:=c
 unfold Term.LY
 exact ⟨oS.sl rfl (fun i hi=>Term.AR args i hi),oS.sl rfl (fun i hi=>(Term.AR args i hi).symm)⟩
theorem Term.Y4 (c:Term):tF c.iD c.cells:=.cons .rfl' (.cons .rfl' (.cons ((Term.LZ c).1) (.nil)))
mutual
def Term.depth:Term→Nat
 | ⟨_,_,args⟩=>Term.TW args+1
def Term.TW:List Term→Nat
 | []=>0
 | x :: r=>max x.depth (Term.TW r)
end
structure wZ where
 ask:Int
 term:Term
 deriving Inhabited
def wZ.cells (c:wZ):List D:=[dI c.ask]++c.term.cells
structure Order where
 name:ByteArray
 Jr:Bool
 aN:List Choice
 rules:List wZ
 deriving Inhabited
def Order.cells (c:Order):List D:=[.v (.string c.name),dB c.Jr,qO Choice.cells c.aN,qO wZ.cells c.rules]
structure dc where
 from_:Int
 cH:Int
 days:Int
 deriving Inhabited
def dc.cells (c:dc):List D:=[dI c.from_,dI c.cH,dI c.days]
def dc.E:Ot dc:=⟨dc.cells,3,fun _=>rfl,fun _=>rfl⟩
structure pj where
 from_:Int
 cH:Int
 num:Int
 den:Int
 since:Int
 deriving Inhabited
def pj.cells (c:pj):List D:=[dI c.from_,dI c.cH,dI c.num,dI c.den,dI c.since]
structure Halt where
 order:Int
 from_:Int
 cH:Int
 deriving Inhabited
def Halt.cells (c:Halt):List D:=[dI c.order,dI c.from_,dI c.cH]
structure ai where
 aM:List ByteArray
 aL:List nj
 ch:List kK
 aQ:List wY
 aG:List Order
 aI:List dc
 dL:List pj
 e9:List Halt
 deriving Inhabited
def ai.cells (c:ai):List D:=[qO fZ c.aM,qO nj.cells c.aL,qO kK.cells c.ch,qO wY.cells c.aQ,qO Order.cells c.aG,qO dc.cells c.aI,qO pj.cells c.dL,qO Halt.cells c.e9]
def ai.Small (r:ai):Prop:=r.aM.length≤1000000∧r.aL.length≤1000000∧r.ch.length≤1000000∧r.aQ.length≤1000000∧r.aG.length≤1000000∧r.aI.length≤1000000∧r.dL.length≤1000000∧r.e9.length≤1000000 ∧
 ∀ i,i < r.aG.length→(r.aG.getD i default).aN.length≤1000000∧(r.aG.getD i default).rules.length≤1000000
def ai.Jt (r:ai):Prop:=∀ i j,i < r.aG.length→j < (r.aG.getD i default).aN.length→0≤((r.aG.getD i default).aN.getD j default).H2∧((r.aG.getD i default).aN.getD j default).H2 < 5
def ai.jk (r:ai):Prop:=∀ i,i < r.e9.length→(r.e9.getD i default).cH≤100000
structure fc where
 kind:Int
 n:Int
 unit:Int
 deriving Inhabited
def fc.cells (c:fc):List D:=[dI c.kind,dI c.n,dI c.unit]
structure dV where
 cD:Int
 cL:Int
 cE:Int
 sum:Int
 bh:Int
 bp:fc
 day:Int
 bn:Int
 tE:Int
 need:Int
 iR:Int
 flags:Int
 parts:Int
 deriving Inhabited
def dV.cells (c:dV):List D:=[dI c.cD,dI c.cL,dI c.cE,dI c.sum,dI c.bh]++c.bp.cells++[dI c.day,dI c.bn,dI c.tE,dI c.need,dI c.iR,dI c.flags,dI c.parts]
structure Sign where
 kind:Int
 part:Int
 fu:Int
 for_:Int
 cH:Int
 sum:Int
 day:Int
 bn:Int
 flags:Int
 deriving Inhabited
def Sign.cells (c:Sign):List D:=[dI c.kind,dI c.part,dI c.fu,dI c.for_,dI c.cH,dI c.sum,dI c.day,dI c.bn,dI c.flags]
def Sign.E:Ot Sign:=⟨Sign.cells,9,fun _=>rfl,fun _=>rfl⟩
structure bB where
 at_:Int
 sum:Int
 deriving Inhabited
def bB.cells (c:bB):List D:=[dI c.at_,dI c.sum]
def bB.E:Ot bB:=⟨bB.cells,2,fun _=>rfl,fun _=>rfl⟩
structure cd where
 kind:Int
 fu:Int
 cH:Int
 part:Int
 at_:Int
 sum:Int
 day:Int
 bn:Int
 form:Int
 deriving Inhabited
def cd.cells (c:cd):List D:=[dI c.kind,dI c.fu,dI c.cH,dI c.part,dI c.at_,dI c.sum,dI c.day,dI c.bn,dI c.form]
def cd.E:Ot cd:=⟨cd.cells,9,fun _=>rfl,fun _=>rfl⟩
structure Fact where
 kind:Int
 at_:Int
 n:Int
 deriving Inhabited
def Fact.cells (c:Fact):List D:=[dI c.kind,dI c.at_,dI c.n]
def Fact.E:Ot Fact:=⟨Fact.cells,3,fun _=>rfl,fun _=>rfl⟩
structure aA where
 bill:dV
 af:List Sign
 aE:List bB
 bq:List cd
 facts:List Fact
 deriving Inhabited
def aA.cells (c:aA):List D:=c.bill.cells++[qO Sign.cells c.af,qO bB.cells c.aE,qO cd.cells c.bq,qO Fact.cells c.facts]
def aA.Small (f:aA):Prop:=f.af.length≤1000000∧f.aE.length≤1000000∧f.bq.length≤1000000∧f.facts.length≤1000000
def ai.oW (r:ai):Prop:=∀ i,i < r.aQ.length→0≤(r.aQ.getD i default).bn∧(r.aQ.getD i default).bn < r.aL.length
def ai.ya (r:ai):Prop:=∀ i,i < r.dL.length→(1≤(r.dL.getD i default).num∧(r.dL.getD i default).num≤1073741824)∧1≤(r.dL.getD i default).den∧(r.dL.getD i default).den≤1073741824
abbrev uV (n:Int):Prop:=0≤n∧n≤1099511627776
def BX (f:aA) (q:Nat):Prop:=uV (f.af.getD q default).sum∧(0≤(f.af.getD q default).kind∧(f.af.getD q default).kind≤4)∧((f.af.getD q default).kind=0↔q=0)∧((f.af.getD q default).kind=3∨(f.af.getD q default).kind=4→0≤(f.af.getD q default).for_∧(f.af.getD q default).for_ < (q:Int))
def oE (r:ai) (f:aA) (q:Nat):Prop:=(0≤(f.af.getD q default).fu∧(f.af.getD q default).fu < r.aQ.length)∧(q≠0→(f.af.getD (q - 1) default).day≤(f.af.getD q default).day)∧(f.af.getD q default).day≤100000∧(q=0→(f.af.getD q default).day=f.bill.day)∧(0≤(f.af.getD q default).part∧(f.af.getD q default).part≤f.bill.parts - 1)∧BX f q
def nk (f:aA) (q:Nat):Prop:=uV (f.bq.getD q default).sum∧(f.bill.day≤(f.bq.getD q default).day∧(f.bq.getD q default).day≤100000)∧(q≠0→(f.bq.getD (q - 1) default).day≤(f.bq.getD q default).day)∧((f.bq.getD q default).kind=6→(0≤(f.bq.getD q default).at_∧(f.bq.getD q default).at_ < f.af.length)∧(f.af.getD (f.bq.getD q default).at_.toNat default).day≤(f.bq.getD q default).day∧(f.af.getD (f.bq.getD q default).at_.toNat default).fu=(f.bq.getD q default).fu)
def mV (r:ai) (b:dV):Prop:=(1≤b.sum∧b.sum≤1099511627776)∧(0≤b.tE∧b.tE < r.aL.length)∧(0≤b.day∧b.day≤100000)∧(1≤b.parts∧b.parts≤4)∧(0≤b.bh∧b.bh < r.aM.length)
def AU (r:ai) (f:aA):Prop:=mV r f.bill∧(f.af.length≤40∧f.af.length≠0∧f.aE.length≤4∧f.bq.length≤100∧f.facts.length≤200)∧(∀ q,q < f.af.length→oE r f q)∧(∀ q,q < f.aE.length→uV (f.aE.getD q default).sum)∧∀ q,q < f.bq.length→nk f q
def U9 (r:ai) (f:aA) (q:Nat):Prop:=(f.af.getD q default).cH = -1∨(0≤(f.af.getD q default).cH∧(f.af.getD q default).cH < r.aQ.length)
def ToF (r:ai) (f:aA):Prop:=(f.bill.cE = -1∨(0≤f.bill.cE∧f.bill.cE < r.aQ.length))∧∀ q,q < f.af.length→U9 r f q
structure Body where
 kind:Int
 bill:Int
 index:Int
 aw:dV
 sign:Sign
 act:cd
 alter:bB
 fact:Fact
 deriving Inhabited
def Body.cells (c:Body):List D:=[dI c.kind,dI c.bill,dI c.index]++c.aw.cells++c.sign.cells++c.act.cells++c.alter.cells++c.fact.cells
def Body.E:Ot Body:=⟨Body.cells,41,fun _=>rfl,fun _=>rfl⟩
structure ae where
 reporter:Int
 no:Int
 day:Int
 body:Body
 deriving Inhabited
def ae.cells (c:ae):List D:=[dI c.reporter,dI c.no,dI c.day]++c.body.cells
def ae.E:Ot ae:=⟨ae.cells,44,fun _=>rfl,fun _=>rfl⟩
abbrev aK (n:Int):Prop:=-9223372036854775808≤n∧n≤9223372036854775807
def yb:D→Bool
 | .v (.int .i64 n)=>decide (aK n)
 | _=>false
def Body.dT (b:Body):Prop:=b.cells.all yb=true
def ae.dT (x:ae):Prop:=x.cells.all yb=true
theorem oX (n:Int):yb (dI n)=decide (aK n):=rfl
theorem ae.dT.parts {x:ae} (h:x.dT):aK x.reporter∧aK x.no∧aK x.day∧x.body.dT:=by
 unfold ae.dT ae.cells at h
 rw [List.all_append,Bool.and_eq_true] at h
 obtain ⟨h1,h2⟩:=h
 simp only [List.all_cons,List.all_nil,oX,Bool.and_eq_true,decide_eq_true_eq,Bool.and_true] at h1
 exact ⟨h1.1,h1.2.1,h1.2.2,h2⟩
theorem Body.dT.parts {b:Body} (h:b.dT):aK b.kind∧aK b.bill∧aK b.index∧b.aw.cells.all yb=true∧b.sign.cells.all yb=true∧b.act.cells.all yb=true∧b.alter.cells.all yb=true∧b.fact.cells.all yb=true:=by
 unfold Body.dT Body.cells at h
 simp only [List.all_append,List.all_cons,List.all_nil,oX,Bool.and_eq_true,decide_eq_true_eq,Bool.and_true] at h
 simpa only [and_assoc] using h
structure ah where
 aX:Int
 day:Int
 report:ae
 deriving Inhabited
def ah.cells (c:ah):List D:=[dI c.aX,dI c.day]++c.report.cells
def ah.E:Ot ah:=⟨ah.cells,46,fun _=>rfl,fun _=>rfl⟩
def rb (reporter:Int) (no:Int) (n:Int):Sk (ae) :=
 .fin ({ reporter:=reporter,no:=no,day:=5,body:=({ kind:=4,bill:=3,index:=0,aw:=({ cD:=0,cL:=0,cE:=0,sum:=0,bh:=0,bp:=({ kind:=0,n:=0,unit:=0 }:fc),day:=0,bn:=0,tE:=0,need:=0,iR:=0,flags:=0,parts:=0 }:dV),sign:=({ kind:=0,part:=0,fu:=0,for_:=0,cH:=0,sum:=0,day:=0,bn:=0,flags:=0 }:Sign),act:=({ kind:=0,fu:=0,cH:=0,part:=0,at_:=0,sum:=0,day:=0,bn:=0,form:=0 }:cd),alter:=({ at_:=0,sum:=0 }:bB),fact:=({ kind:=0,at_:=1,n:=n }:Fact) }:Body) }:ae)
def ay reporter no n:=(rb reporter no n).val
theorem L0 (reporter:Int) (no:Int) (n:Int):ay reporter no n=({ reporter:=reporter,no:=no,day:=5,body:=({ kind:=4,bill:=3,index:=0,aw:=({ cD:=0,cL:=0,cE:=0,sum:=0,bh:=0,bp:=({ kind:=0,n:=0,unit:=0 }:fc),day:=0,bn:=0,tE:=0,need:=0,iR:=0,flags:=0,parts:=0 }:dV),sign:=({ kind:=0,part:=0,fu:=0,for_:=0,cH:=0,sum:=0,day:=0,bn:=0,flags:=0 }:Sign),act:=({ kind:=0,fu:=0,cH:=0,part:=0,at_:=0,sum:=0,day:=0,bn:=0,form:=0 }:cd),alter:=({ at_:=0,sum:=0 }:bB),fact:=({ kind:=0,at_:=1,n:=n }:Fact) }:Body) }:ae):=rfl
theorem L1 (reporter:Int) (no:Int) (n:Int):(rb reporter no n).bO (fun _=>True):=by
 unfold rb
 exact DB
def ud reporter no n:=kk tok mixed Tryz.func39 [iv reporter,iv no,iv n] (fun x=>av x.cells) true (rb reporter no n) (ay reporter no n) (u0 (L1 reporter no n))
def wy (aX:Int) (day:Int) (x_:ae):Sk (ah) :=
 .fin ({ aX:=aX,day:=day,report:=x_ }:ah)
def qm aX day x_:=(wy aX day x_).val
theorem Q8 (aX:Int) (day:Int) (x_:ae):(wy aX day x_).bO (fun _=>True):=by
 unfold wy
 exact DB
def mh aX day x_:=kk tok mixed Tryz.func16 [iv aX,iv day,av x_.cells] (fun x=>av x.cells) true (wy aX day x_) (qm aX day x_) (u0 (Q8 aX day x_))
def kd (i:Int) (n:Int):Sk (Bool) :=
 .fin ((decide (i≥0))&&(decide (i < n)))
def aO i n:=(kd i n).val
theorem nm (i:Int) (n:Int):aO i n=((decide (i≥0))&&(decide (i < n))):=rfl
theorem AW (i:Int) (n:Int):(kd i n).bO (fun _=>True):=by
 unfold kd
 exact DB
def dG i n:=kk tok mixed Tryz.func41 [iv i,iv n] (fun x=>bv x) true (kd i n) (aO i n) (u0 (AW i n))
def ic (b:Body):List Int :=
 bif b.kind == 0 then [b.aw.cD,b.aw.cL,b.aw.cE,b.aw.sum,b.aw.bh,b.aw.bp.kind,b.aw.bp.n,b.aw.bp.unit,b.aw.day,b.aw.bn,b.aw.tE,b.aw.need,b.aw.iR,b.aw.flags,b.aw.parts,b.sign.flags]
 else bif b.kind == 1 then [b.sign.kind,b.sign.part,b.sign.fu,b.sign.for_,b.sign.cH,b.sign.sum,b.sign.day,b.sign.bn,b.sign.flags]
 else bif b.kind == 2 then [b.act.kind,b.act.fu,b.act.cH,b.act.part,b.act.at_,b.act.sum,b.act.day,b.act.bn,b.act.form]
 else bif b.kind == 3 then [b.alter.at_,b.alter.sum]
 else [b.fact.kind,b.fact.at_,b.fact.n]
theorem L2 (b:Body):(ic b).length≤16:=by
 unfold ic
 cases b.kind == 0 <;> cases b.kind == 1 <;> cases b.kind == 2 <;> cases b.kind == 3 <;> simp
theorem L3 {b:Body} (h:b.dT):∀ n∈ic b,aK n:=by
 obtain ⟨-,-,-,h1,h2,h3,h4,h5⟩:=h.parts
 have key:((ic b).map dI).all yb=true:=by
  unfold ic
  cases b.kind == 0 with
  | true =>
   show (dV.cells b.aw++[dI b.sign.flags]).all yb=true
   rw [List.all_append,h1]
   have:=(List.all_eq_true.1 h2) (dI b.sign.flags) (by simp [Sign.cells])
   simp only [List.all_cons,List.all_nil,this,Bool.and_self]
  | false =>
   cases b.kind == 1 with
   | true=>exact h2
   | false =>
    cases b.kind == 2 with
    | true=>exact h3
    | false =>
     cases b.kind == 3 with
     | true=>exact h4
     | false=>exact h5
 intro n hn
 have:=(List.all_eq_true.1 key) (dI n) (List.mem_map.2 ⟨n,hn,rfl⟩)
 rw [oX,decide_eq_true_eq] at this
 exact this
def gx (b:Body):Sk ((List Int)) :=
 .br (b.kind == 0)
 (.r 4 (.o [.dU (dw eJ [b.aw.cD,b.aw.cL,b.aw.cE,b.aw.sum,b.aw.bh,b.aw.bp.kind,b.aw.bp.n,b.aw.bp.unit,b.aw.day,b.aw.bn,b.aw.tE,b.aw.need,b.aw.iR,b.aw.flags,b.aw.parts,b.sign.flags])]) fun _ =>
 .fin [b.aw.cD,b.aw.cL,b.aw.cE,b.aw.sum,b.aw.bh,b.aw.bp.kind,b.aw.bp.n,b.aw.bp.unit,b.aw.day,b.aw.bn,b.aw.tE,b.aw.need,b.aw.iR,b.aw.flags,b.aw.parts,b.sign.flags])
 (.br (b.kind == 1)
 (.r 6 (.o [.dU (dw eJ [b.sign.kind,b.sign.part,b.sign.fu,b.sign.for_,b.sign.cH,b.sign.sum,b.sign.day,b.sign.bn,b.sign.flags])]) fun _ =>
 .fin [b.sign.kind,b.sign.part,b.sign.fu,b.sign.for_,b.sign.cH,b.sign.sum,b.sign.day,b.sign.bn,b.sign.flags])
 (.br (b.kind == 2)
 (.r 8 (.o [.dU (dw eJ [b.act.kind,b.act.fu,b.act.cH,b.act.part,b.act.at_,b.act.sum,b.act.day,b.act.bn,b.act.form])]) fun _ =>
 .fin [b.act.kind,b.act.fu,b.act.cH,b.act.part,b.act.at_,b.act.sum,b.act.day,b.act.bn,b.act.form])
 (.br (b.kind == 3)
 (.r 10 (.o [.dU (dw eJ [b.alter.at_,b.alter.sum])]) fun _ =>
 .fin [b.alter.at_,b.alter.sum])
 (.r 11 (.o [.dU (dw eJ [b.fact.kind,b.fact.at_,b.fact.n])]) fun _ =>
 .fin [b.fact.kind,b.fact.at_,b.fact.n]))))
def eW b:=(gx b).val
theorem qn (b:Body):(gx b).dj (fun (x:(List Int))=>x=ic b):=by
 unfold gx
 refine ⟨fun h0 _ _ _=>?_,fun h0=>⟨fun h1 _ _ _=>?_,fun h1=>⟨fun h2 _ _ _=>?_,fun h2=>⟨fun h3 _ _ _=>?_,fun h3 _ _ _=>?_⟩⟩⟩⟩
 ·show _=ic b
  unfold ic
  rw [h0]
  rfl
 ·show _=ic b
  unfold ic
  rw [h0,h1]
  rfl
 ·show _=ic b
  unfold ic
  rw [h0,h1,h2]
  rfl
 ·show _=ic b
  unfold ic
  rw [h0,h1,h2,h3]
  rfl
 ·show _=ic b
  unfold ic
  rw [h0,h1,h2,h3]
  rfl
theorem eh (b:Body):(fun (x:(List Int))=>x=ic b) (eW b):=have h:=Sk.cN _ (qn b); h
theorem zo (b:Body):(gx b).bO (fun _=>True):=by
 unfold gx
 exact DB
def fG b:=kp tok mixed Tryz.func42 [av b.cells] (fun x=>lv cw x) false (eW b) (u0 (zo b)) (qn b)
def mi (kind:Int) (bill:Int) (index:Int) (l:List Int):Sk (Body × Bool):=let Q9:=((decide (kind < 0))||(decide (kind≥5))); let Oz:=(cM (8:Int) l.length); let L4:=(cM (7:Int) l.length); let Ra:=(cM (6:Int) l.length); let Ju:=(cM (5:Int) l.length); let L5:=(cM (4:Int) l.length); let Jv:=(cM (3:Int) l.length); let yH:=(cM (2:Int) l.length); let yI:=(cM (1:Int) l.length); let uW:=(cM (0:Int) l.length); let l8:=({ at_:=0,sum:=0 }:bB); let lU:=({ kind:=0,at_:=0,n:=0 }:Fact); let dm:=({ kind:=0,n:=0,unit:=0 }:fc); let eX:=({ cD:=0,cL:=0,cE:=0,sum:=0,bh:=0,bp:=dm,day:=0,bn:=0,tE:=0,need:=0,iR:=0,flags:=0,parts:=0 }:dV); let bF:=({ kind:=0,part:=0,fu:=0,for_:=0,cH:=0,sum:=0,day:=0,bn:=0,flags:=0 }:Sign); let aC:=({ kind:=0,fu:=0,cH:=0,part:=0,at_:=0,sum:=0,day:=0,bn:=0,form:=0 }:cd);
 .r 2 (.wh Q9 false ((fG ({ kind:=kind,bill:=bill,index:=index,aw:=eX,sign:=bF,act:=aC,alter:=l8,fact:=lU }:Body)).c)) fun x1 =>
 .br (Q9||(((l.length:Nat):Int) != ((x1.length:Nat):Int)))
 (.fin (({ kind:=0,bill:=0,index:=0,aw:=eX,sign:=bF,act:=aC,alter:=l8,fact:=lU }:Body),false))
 (.br (kind == 0)
 (.r 7 (.ak (.p uW) (.ak (.p yI) (.ak (.p yH) (.ak (.p Jv) (.ak (.p L5) (.ak (.p Ju) (.ak (.p Ra) (.ak (.p L4) (.ak (.p Oz) (.ak (.p (cM (9:Int) l.length)) (.ak (.p (cM (10:Int) l.length)) (.ak (.p (cM (11:Int) l.length)) (.ak (.p (cM (12:Int) l.length)) (.ak (.p (cM (13:Int) l.length)) (.p (cM (14:Int) l.length)))))))))))))))) fun _ =>
 .r 8 (.p (cM (15:Int) l.length)) fun _ =>
 .fin (({ kind:=kind,bill:=bill,index:=index,aw:=({ cD:=l.getD 0 default,cL:=l.getD 1 default,cE:=l.getD 2 default,sum:=l.getD 3 default,bh:=l.getD 4 default,bp:=({ kind:=l.getD 5 default,n:=l.getD 6 default,unit:=l.getD 7 default }:fc),day:=l.getD 8 default,bn:=l.getD 9 default,tE:=l.getD 10 default,need:=l.getD 11 default,iR:=l.getD 12 default,flags:=l.getD 13 default,parts:=l.getD 14 default }:dV),sign:=({ kind:=0,part:=0,fu:=0,for_:=0,cH:=0,sum:=0,day:=0,bn:=0,flags:=l.getD 15 default }:Sign),act:=aC,alter:=l8,fact:=lU }:Body),true))
 (.br (kind == 1)
 (.r 10 (.ak (.p uW) (.ak (.p yI) (.ak (.p yH) (.ak (.p Jv) (.ak (.p L5) (.ak (.p Ju) (.ak (.p Ra) (.ak (.p L4) (.p Oz))))))))) fun _ =>
 .fin (({ kind:=kind,bill:=bill,index:=index,aw:=eX,sign:=({ kind:=l.getD 0 default,part:=l.getD 1 default,fu:=l.getD 2 default,for_:=l.getD 3 default,cH:=l.getD 4 default,sum:=l.getD 5 default,day:=l.getD 6 default,bn:=l.getD 7 default,flags:=l.getD 8 default }:Sign),act:=aC,alter:=l8,fact:=lU }:Body),true))
 (.br (kind == 2)
 (.r 12 (.ak (.p uW) (.ak (.p yI) (.ak (.p yH) (.ak (.p Jv) (.ak (.p L5) (.ak (.p Ju) (.ak (.p Ra) (.ak (.p L4) (.p Oz))))))))) fun _ =>
 .fin (({ kind:=kind,bill:=bill,index:=index,aw:=eX,sign:=bF,act:=({ kind:=l.getD 0 default,fu:=l.getD 1 default,cH:=l.getD 2 default,part:=l.getD 3 default,at_:=l.getD 4 default,sum:=l.getD 5 default,day:=l.getD 6 default,bn:=l.getD 7 default,form:=l.getD 8 default }:cd),alter:=l8,fact:=lU }:Body),true))
 (.br (kind == 3)
 (.r 14 (.ak (.p uW) (.p yI)) fun _ =>
 .fin (({ kind:=kind,bill:=bill,index:=index,aw:=eX,sign:=bF,act:=aC,alter:=({ at_:=l.getD 0 default,sum:=l.getD 1 default }:bB),fact:=lU }:Body),true))
 (.r 5 (.ak (.p uW) (.ak (.p yI) (.p yH))) fun _ =>
 .fin (({ kind:=kind,bill:=bill,index:=index,aw:=eX,sign:=bF,act:=aC,alter:=l8,fact:=({ kind:=l.getD 0 default,at_:=l.getD 1 default,n:=l.getD 2 default }:Fact) }:Body),true))))))
def bK kind bill index l:=(mi kind bill index l).val
theorem EU (kind:Int) (bill:Int) (index:Int) (l:List Int):(mi kind bill index l).bO (fun _=>True):=by
 refine Sk.bP _ ?_
 unfold mi
 simp only [Sk.oV,Sk.db,reduceCtorEq,oA,fP,bw.z,bw.p,bw.t,bw.pt,bw.o,bw.and,bw.ak,bw.AP,bw.wh,bw.dep,bw.sE,iM.c,kk,kp,fG,maxLen,implies_true,true_and,and_true,and_self,true_implies,false_implies,cM,jH,forall_eq]
 intro hx hc
 rw [hx] at hc
 simp only [Bool.or_eq_false_iff,decide_eq_false_iff_not,bne_eq_false_iff_eq] at hc
 obtain ⟨⟨IK,Yc⟩,hl⟩:=hc
 unfold ic at hl
 dsimp only at hl
 refine ⟨fun h0=>?_,fun h0=>⟨fun h1=>?_,fun h1=>⟨fun h2=>?_,fun h2=>⟨fun h3=>?_,fun h3=>?_⟩⟩⟩⟩
 ·simp only [h0,cond_true,List.length_cons,List.length_nil] at hl
  exact ⟨by omega,fun _=>by omega⟩
 ·simp only [h0,h1,cond_true,cond_false,List.length_cons,List.length_nil] at hl
  omega
 ·simp only [h0,h1,h2,cond_true,cond_false,List.length_cons,List.length_nil] at hl
  omega
 ·simp only [h0,h1,h2,h3,cond_true,cond_false,List.length_cons,List.length_nil] at hl
  omega
 ·simp only [h0,h1,h2,h3,cond_false,List.length_cons,List.length_nil] at hl
  omega
def nP kind bill index l:=kk tok mixed Tryz.func40 [iv kind,iv bill,iv index,lv cw l] (fun x=>.il [av x.1.cells,bv x.2]) true (mi kind bill index l) (bK kind bill index l) (u0 (EU kind bill index l))
def lq (x_:ae):Sk (Bool) :=
 .r 2 (.dep ((dG x_.reporter 200).c) fun x1=>.dep (.wh (!x1) false ((dG x_.no 10000).c)) fun x2=>.dep (.wh ((!x1)||(!x2)) false ((dG x_.day 100001).c)) fun x3=>let aC:=(((!x1)||(!x2))||(!x3)); .dep (.wh aC false ((dG x_.body.kind 5).c)) fun x4=>.wh (aC||(!x4)) false ((dG x_.body.bill 50).c)) fun Gt =>
 .br (((((!Gt.1)||(!Gt.2.1))||(!Gt.2.2.1))||(!Gt.2.2.2.1))||(!Gt.2.2.2.2))
 (.fin false)
 (.r 4 (.dep ((fG x_.body).c) fun x6=>(nP x_.body.kind x_.body.bill x_.body.index x6).c) fun EV =>
 .br (!(bZ (Body.cells EV.2.1) (Body.cells x_.body)))
 (.fin false)
 (.br (x_.body.kind == 0)
 (.fin ((x_.body.index == 0)&&(x_.body.aw.day == x_.day)))
 (.br (x_.body.kind == 1)
 (.fin (((decide (x_.body.index > 0))&&(decide (x_.body.index < 40)))&&(x_.body.sign.day == x_.day)))
 (.br (x_.body.kind == 2)
 (.r 13 ((dG x_.body.index 100).c) fun x8 =>
 .fin (x8&&(x_.body.act.day == x_.day)))
 (.br (x_.body.kind == 3)
 (.r 15 ((dG x_.body.index 4).c) fun x9 =>
 .fin x9)
 (.fin (x_.body.index == 0)))))))
def au x_:=(lq x_).val
theorem Cr (x_:ae):(lq x_).bO (fun _=>True):=by
 unfold lq
 try simp only [nP,fG,dG,nm]
 exact AQ
def dA x_:=kk tok mixed Tryz.func10 [av x_.cells] (fun x=>bv x) true (lq x_) (au x_) (u0 (Cr x_))
section
open Go Go.Av Go.Shelf Go.RowKit
def Tryz.Jw:Go.Shelf.Ren:=⟨fun | 171=>78 | 243=>111 | 246=>165 | 283=>192 | 284=>193 | 285=>194 | 286=>195 | 129=>137 | 317=>205 | 318=>206 | 319=>207 | 320=>208 | 337=>210 | 338=>211 | n=>n,fun | 3=>3 | 9=>9 | 2=>2 | 4=>4 | 171=>247 | 0=>0 | 53=>200 | 37=>89 | 5=>5 | 173=>249 | 212=>263 | 51=>198 | 20=>20 | 213=>264 | 46=>159 | 232=>266 | 233=>267 | n=>n,fun | 17=>3 | 18=>4 | 19=>5 | n=>n⟩
theorem Tryz.TX:Go.Proofs.LaysM.n171 Tryz.prog Tryz.Jw:={
 mixed:=by kernel_rfl
 f129:=Tryz.func137.trans (congrArg some (by kernel_rfl))
 f171:=Tryz.func78.trans (congrArg some (by kernel_rfl))
 f243:=Tryz.func111.trans (congrArg some (by kernel_rfl))
 f246:=Tryz.func165.trans (congrArg some (by kernel_rfl))
 f283:=Tryz.func192.trans (congrArg some (by kernel_rfl))
 f284:=Tryz.func193.trans (congrArg some (by kernel_rfl))
 f285:=Tryz.func194.trans (congrArg some (by kernel_rfl))
 f286:=Tryz.func195.trans (congrArg some (by kernel_rfl))
 f317:=Tryz.func205.trans (congrArg some (by kernel_rfl))
 f318:=Tryz.func206.trans (congrArg some (by kernel_rfl))
 f319:=Tryz.func207.trans (congrArg some (by kernel_rfl))
 f320:=Tryz.func208.trans (congrArg some (by kernel_rfl))
 f337:=Tryz.func210.trans (congrArg some (by kernel_rfl))
 f338:=Tryz.func211.trans (congrArg some (by kernel_rfl))
 t0:=Tryz.underlying0
 a0:=Tryz.isAgg0
 z0:=Tryz.sizeOf0
 v0:=Tryz.zeroValue0
 t2:=Tryz.underlying2
 a2:=Tryz.isAgg2
 z2:=Tryz.sizeOf2
 v2:=Tryz.zeroValue2
 t3:=Tryz.underlying3
 a3:=Tryz.isAgg3
 z3:=Tryz.sizeOf3
 v3:=Tryz.zeroValue3
 t4:=Tryz.underlying4
 a4:=Tryz.isAgg4
 z4:=Tryz.sizeOf4
 v4:=Tryz.zeroValue4
 t5:=Tryz.underlying5
 a5:=Tryz.isAgg5
 z5:=Tryz.sizeOf5
 v5:=Tryz.zeroValue5
 t9:=Tryz.underlying9
 a9:=Tryz.isAgg9
 z9:=Tryz.sizeOf9
 v9:=Tryz.zeroValue9
 t20:=Tryz.underlying20
 a20:=Tryz.isAgg20
 z20:=Tryz.sizeOf20
 v20:=Tryz.zeroValue20
 t37:=Tryz.underlying89
 a37:=Tryz.isAgg89
 z37:=Tryz.sizeOf89
 v37:=Tryz.zeroValue89
 t46:=Tryz.underlying159
 a46:=Tryz.isAgg159
 z46:=Tryz.sizeOf159
 v46:=Tryz.zeroValue159
 t51:=Tryz.underlying198
 a51:=Tryz.isAgg198
 z51:=Tryz.sizeOf198
 v51:=Tryz.zeroValue198
 t53:=Tryz.underlying200
 a53:=Tryz.isAgg200
 z53:=Tryz.sizeOf200
 v53:=Tryz.zeroValue200
 t171:=Tryz.underlying247
 a171:=Tryz.isAgg247
 z171:=Tryz.sizeOf247
 v171:=Tryz.zeroValue247
 t173:=Tryz.underlying249
 a173:=Tryz.isAgg249
 z173:=Tryz.sizeOf249
 v173:=Tryz.zeroValue249
 t212:=Tryz.underlying263
 a212:=Tryz.isAgg263
 z212:=Tryz.sizeOf263
 v212:=Tryz.zeroValue263
 t213:=Tryz.underlying264
 a213:=Tryz.isAgg264
 z213:=Tryz.sizeOf264
 t232:=Tryz.underlying266
 a232:=Tryz.isAgg266
 z232:=Tryz.sizeOf266
 v232:=Tryz.zeroValue266
 t233:=Tryz.underlying267
 a233:=Tryz.isAgg267
 z233:=Tryz.sizeOf267
 v233:=Tryz.zeroValue267
 g17:=by kernel_rfl
 g18:=by kernel_rfl
 g19:=by kernel_rfl
 i0:=by kernel_rfl
 i2:=by kernel_rfl
 i3:=by kernel_rfl
 i4:=by kernel_rfl
 i5:=by kernel_rfl
 i9:=by kernel_rfl
 i20:=by kernel_rfl
 i37:=by kernel_rfl
 i46:=by kernel_rfl
 i51:=by kernel_rfl
 i53:=by kernel_rfl
 i171:=by kernel_rfl
 i173:=by kernel_rfl
 i212:=by kernel_rfl
 i232:=by kernel_rfl
 i233:=by kernel_rfl
 m17:=by kernel_rfl
 m18:=by kernel_rfl
 m19:=by kernel_rfl }
def Tryz.EW:Go.Shelf.Ren:=⟨fun | 166=>106 | 240=>158 | 276=>184 | n=>n,fun | 0=>0 | 3=>3 | 4=>4 | 9=>9 | 20=>20 | 37=>89 | 70=>176 | 72=>178 | 75=>138 | 80=>179 | 164=>237 | 5=>5 | n=>n,fun | n=>n⟩
theorem Tryz.Y5:Go.Proofs.Lays.n166 Tryz.prog Tryz.EW:={
 mixed:=by kernel_rfl
 f166:=Tryz.func106.trans (congrArg some (by kernel_rfl))
 f240:=Tryz.func158.trans (congrArg some (by kernel_rfl))
 f276:=Tryz.func184.trans (congrArg some (by kernel_rfl))
 t0:=Tryz.underlying0
 a0:=Tryz.isAgg0
 z0:=Tryz.sizeOf0
 v0:=Tryz.zeroValue0
 t3:=Tryz.underlying3
 a3:=Tryz.isAgg3
 z3:=Tryz.sizeOf3
 v3:=Tryz.zeroValue3
 t4:=Tryz.underlying4
 a4:=Tryz.isAgg4
 z4:=Tryz.sizeOf4
 v4:=Tryz.zeroValue4
 t9:=Tryz.underlying9
 a9:=Tryz.isAgg9
 z9:=Tryz.sizeOf9
 v9:=Tryz.zeroValue9
 t20:=Tryz.underlying20
 a20:=Tryz.isAgg20
 z20:=Tryz.sizeOf20
 v20:=Tryz.zeroValue20
 t37:=Tryz.underlying89
 a37:=Tryz.isAgg89
 z37:=Tryz.sizeOf89
 v37:=Tryz.zeroValue89
 t70:=Tryz.underlying176
 a70:=Tryz.isAgg176
 z70:=Tryz.sizeOf176
 v70:=Tryz.zeroValue176
 t72:=Tryz.underlying178
 a72:=Tryz.isAgg178
 z72:=Tryz.sizeOf178
 v72:=Tryz.zeroValue178
 t75:=Tryz.underlying138
 a75:=Tryz.isAgg138
 z75:=Tryz.sizeOf138
 v75:=Tryz.zeroValue138
 t164:=Tryz.underlying237
 a164:=Tryz.isAgg237
 z164:=Tryz.sizeOf237
 v164:=Tryz.zeroValue237 }
theorem Tryz.wsX:Builder.Extra Tryz.prog Tryz.EW where
 sizeBuilder:=by kernel_rfl
 liesBuilder:=by kernel_rfl
 t5:=Tryz.underlying5
 a5:=Tryz.isAgg5
 z5:=Tryz.sizeOf5
 v5:=Tryz.zeroValue5
 infoByte:=by kernel_rfl
 cellsByte:=by kernel_rfl
 sizeByte:=by kernel_rfl
 neB5:=by decide
def Tryz.EX:Go.Shelf.Ren:=⟨fun | 169=>107 | n=>n,fun | 70=>176 | 9=>9 | 0=>0 | 72=>178 | 37=>89 | 127=>215 | 3=>3 | 5=>5 | n=>n,fun | n=>n⟩
theorem Tryz.Y6:Go.Proofs.Lays.n169 Tryz.prog Tryz.EX:={
 mixed:=by kernel_rfl
 f169:=Tryz.func107.trans (congrArg some (by kernel_rfl))
 t0:=Tryz.underlying0
 a0:=Tryz.isAgg0
 z0:=Tryz.sizeOf0
 v0:=Tryz.zeroValue0
 t3:=Tryz.underlying3
 a3:=Tryz.isAgg3
 z3:=Tryz.sizeOf3
 v3:=Tryz.zeroValue3
 t9:=Tryz.underlying9
 a9:=Tryz.isAgg9
 z9:=Tryz.sizeOf9
 v9:=Tryz.zeroValue9
 t37:=Tryz.underlying89
 a37:=Tryz.isAgg89
 z37:=Tryz.sizeOf89
 v37:=Tryz.zeroValue89
 t70:=Tryz.underlying176
 a70:=Tryz.isAgg176
 z70:=Tryz.sizeOf176
 v70:=Tryz.zeroValue176
 t72:=Tryz.underlying178
 a72:=Tryz.isAgg178
 z72:=Tryz.sizeOf178
 v72:=Tryz.zeroValue178
 t127:=Tryz.underlying215
 a127:=Tryz.isAgg215
 z127:=Tryz.sizeOf215
 v127:=Tryz.zeroValue215 }
theorem Tryz.bsX:Builder.Extra Tryz.prog Tryz.EX where
 sizeBuilder:=by kernel_rfl
 liesBuilder:=by kernel_rfl
 t5:=Tryz.underlying5
 a5:=Tryz.isAgg5
 z5:=Tryz.sizeOf5
 v5:=Tryz.zeroValue5
 infoByte:=by kernel_rfl
 cellsByte:=by kernel_rfl
 sizeByte:=by kernel_rfl
 neB5:=by decide
def dC (n:Int):List UInt8:=Lib.itoa n++[59]
def iU (l:List Int):List UInt8:=dC l.length++l.flatMap dC
theorem Jy:∀ (k u:Nat),u < 10 ^ (k+1)→Lib.nDigits u≤k+1
 | 0,u,h=>by rw [Lib.nDigits_small (by simpa using h)]; omega
 | k+1,u,h=>by
  by_cases hu:u < 10
  ·rw [Lib.nDigits_small hu]; omega
  ·rw [Lib.nDigits_big hu]
   have:=Jy k (u / 10) (Nat.div_lt_of_lt_mul (by rw [Nat.pow_succ] at h; omega))
   omega
theorem EY (n:Int) (h0 : -9223372036854775808≤n) (h1:n≤9223372036854775807):(Lib.itoa n).length≤20:=by
 unfold Lib.itoa
 split
 ·have:=Jy 18 n.natAbs (by omega)
  simp only [List.length_cons,Lib.decDigits_length]
  omega
 ·have:=Jy 18 n.toNat (by omega)
  simp only [Lib.decDigits_length]
  omega
theorem TY (n:Int) (h0 : -9223372036854775808≤n) (h1:n≤9223372036854775807) (w:World) (GM:Lib.TabIs Tryz.prog w "internal/strconv.uint64pow10" .u64 Lib.pow10Tab) :
  Calls Tryz.prog 78 #[.int .i64 n] w fun e w'=>e=.returned (.string ⟨(Lib.itoa n).toArray⟩)∧∃ k os,w'=Go.Sort.grow (w.drewN k) os:=Any.strconv_Itoa Tryz.TX n h0 h1 w GM
theorem XD (n:Int) (h0 : -9223372036854775808≤n) (h1:n≤9223372036854775807) (w:World) (GM:Lib.TabIs Tryz.prog w "internal/strconv.uint64pow10" .u64 Lib.pow10Tab) :
  Calls Tryz.prog 75 #[.int .i64 n] w fun e w'=>e=.returned (.string ⟨(dC n).toArray⟩)∧∃ k os,w'=Go.Sort.grow (w.drewN k) os:=by
 have hlen:=EY n h0 h1
 go_enter Tryz.func75,Tryz.ntmps75
 go_wp2_with (go_at_call 78; refine (TY n h0 h1 _ GM).mono ?_; rintro e w' ⟨rfl,k,os,rfl⟩)
 go_ret
 refine ⟨?_,k,os,rfl⟩
 simp only [dC]
 congr 2
theorem sI (n:Int) (h0 : -9223372036854775808≤n) (h1:n≤9223372036854775807):(dC n).length≤21:=by
 have:=EY n h0 h1
 simp [dC]
 omega
theorem L6 (l:List UInt8):Lib.strCells ⟨l.toArray⟩=Lib.byteCells l:=rfl
theorem abm (B b:Nat) (l:List UInt8) (s:List UInt8) (w:World) (h:Lib.IsBuilderF 178 5 B b (Lib.byteCells l) w) (hlen:l.length+s.length≤140737488355328) (hBw:B≤w.heap.size) :
  Calls Tryz.prog 106 #[.pointer (some ⟨b,0,none⟩),.string ⟨s.toArray⟩] w fun e w'=>(∃ v,e=.returned v)∧Lib.IsBuilderF 178 5 B b (Lib.byteCells (l++s)) w'∧Below B w w':=by
 refine (Any.Builder_WriteString_k Tryz.Y5 Tryz.wsX B b (Lib.byteCells l) ⟨s.toArray⟩ w h ?_ hBw).mono ?_
 ·simp [Lib.byteCells_length,ByteArray.size]
  exact hlen
 ·rintro e w' ⟨rfl,h1,h2,_⟩
  rw [L6,← Lib.byteCells_append] at h1
  exact ⟨⟨_,rfl⟩,.inr h1,h2⟩
theorem AX {w w':World} {B:Nat} (hb:Below B w w') (hB:3 < B) (h:Lib.TabIs Tryz.prog w "internal/strconv.uint64pow10" .u64 Lib.pow10Tab):Lib.TabIs Tryz.prog w' "internal/strconv.uint64pow10" .u64 Lib.pow10Tab:=by
 have hg:Tryz.prog.globalNamed "internal/strconv.uint64pow10" = some 3:=by kernel_rfl
 unfold Lib.TabIs World.var? at *
 rw [hg] at *
 simp only [Option.bind_some] at *
 rw [hb.block 3 hB]
 exact h
theorem L7 {T e:TypeId} {B b:Nat} {bs:List Value}:∀ (l:List Obj) (w:World),Lib.IsBuilderF T e B b bs w→Lib.IsBuilderF T e B b bs (Go.Sort.grow w l.toArray)
 | [],w,h=>by simpa [Go.Sort.grow] using h
 | o :: r,w,h=>by
  have:=L7 r (w.alloc o) (h.alloc o)
  rw [Go.Sort.alloc_eq_grow,Go.Sort.grow_grow] at this
  simpa using this
theorem H3 {T e:TypeId} {B b:Nat} {bs:List Value} {w:World} (h:Lib.IsBuilderF T e B b bs w) (k:Nat) (os:Array Obj):Lib.IsBuilderF T e B b bs (Go.Sort.grow (w.drewN k) os):=by
 have:=L7 os.toList (w.drewN k) h
 simpa using this
theorem re {B:Nat} {w w':World} (h:Below B w w') (hB:B≤w'.heap.size) (k:Nat) (os:Array Obj):Below B w (Go.Sort.grow (w'.drewN k) os) :=
 h.trans ⟨rfl,rfl,rfl,by simp [Go.Sort.grow,World.drewN],fun q hq=>by
  have:q < w'.heap.size:=by omega
  show (w'.heap++os)[q]? = _
  rw [Array.getElem?_append_left this]⟩
set_option maxHeartbeats 2000000 in
theorem Wd (ad:Option Addr) (blk off cap:Nat) (l:List Int) (w:World) (hl:l.length≤1000000) (h64:∀ n∈l,-9223372036854775808≤n∧n≤9223372036854775807) (h3:3 < w.heap.size) (GM:Lib.TabIs Tryz.prog w "internal/strconv.uint64pow10" .u64 Lib.pow10Tab)
  (hc:∀ j,(h:j < l.length)→w.cell? ⟨blk,off+j,none⟩=some (.int .i64 l[j])) (hblk:0 < l.length→ad=some ⟨blk,off,none⟩∧blk < w.heap.size) :
  Calls Tryz.prog 74 #[.slice ad l.length cap,.func (.func 75) #[] #[]] w fun e w'=>e=.returned (.string ⟨(iU l).toArray⟩)∧Below w.heap.size w w':=by
 have hL:=sI l.length (by omega) (by omega)
 have hI0:Lib.IsBuilderF 178 5 w.heap.size w.heap.size (Lib.byteCells []) (w.alloc (.cells #[.pointer none,.slice none 0 0] 178)):=.of (Lib.fresh_isBuilder 178 5 w)
 have Sd:Below w.heap.size w (w.alloc (.cells #[.pointer none,.slice none 0 0] 178)):=(Below.refl _ w).alloc (Nat.le_refl _) _
 have ht0:=AX Sd h3 GM
 go_enter Tryz.func74,Tryz.ntmps74
 go_wp2_with (go_at_call 75; refine (XD _ (by omega) (by omega) _ ht0).mono ?_; rintro e w1 ⟨rfl,k,os,rfl⟩)
 have hI1:=H3 hI0 k os
 have Ck:=re Sd (by simp) k os
 clear hI0 Sd ht0
 go_wp2_with (go_at_call 106; refine (abm w.heap.size w.heap.size [] _ _ hI1 (by simp; omega) (by have:=Ck.size; omega)).mono ?_; rintro e w2 ⟨⟨v,rfl⟩,hI2,tD⟩)
 have uI:=Ck.trans tD
 clear hI1 Ck tD
 go_wp2
 have Cd:∀ k,k≤l.length→(dC l.length++(l.take k).flatMap dC).length≤21+k * 21:=by
  intro k hk
  rw [List.length_append]
  have:∀ (m:List Int),(∀ n∈m,(dC n).length≤21)→(m.flatMap dC).length≤m.length * 21:=by
   intro m
   induction m with
   | nil=>intro _; simp
   | cons x r ih =>
    intro h
    have h1:=h x (by simp)
    have h2:=ih (fun n hn=>h n (by simp [hn]))
    simp only [List.flatMap_cons,List.length_append,List.length_cons]
    omega
  have h1:=this (l.take k) (fun n hn=>sI n (h64 n (List.mem_of_mem_take hn)).1 (h64 n (List.mem_of_mem_take hn)).2)
  rw [List.length_take] at h1
  omega
 have Y7:dC l.length++(l.take 0).flatMap dC=[]++dC l.length:=by simp
 go_loopw [7,14] (fun _ i wr=>∃ k:Nat,k≤l.length∧i=.int .i64 k∧Lib.IsBuilderF 178 5 w.heap.size w.heap.size (Lib.byteCells (dC l.length++(l.take k).flatMap dC)) wr∧Below w.heap.size w wr)
  (fun _ i _=>l.length - (intOf i).toNat)
 case atStart=>exact ⟨0,Nat.zero_le _,rfl,by rw [Y7]; exact hI2,uI⟩
 case round =>
  obtain ⟨k,hk,rfl,hI,hb⟩:=hrel
  clear hI2 uI
  have aJ:k < l.length→wr.cell? ⟨blk,off+k,none⟩=some (.int .i64 (l.getD k 0)):=fun h=>by
   rw [hb.cell (show (⟨blk,off+k,none⟩:Addr).block < w.heap.size from (hblk (by omega)).2),hc k h]
   simp [List.getD,h]
  have ht:=AX hb h3 GM
  have dK:=hb.size
  by_cases cI:k < l.length
  ·have U1:=aJ cI
   obtain ⟨rfl,-⟩:=hblk (by omega)
   have hn : -9223372036854775808≤l.getD k 0∧l.getD k 0≤9223372036854775807:=by
    have:l.getD k 0∈l:=by simp [List.getD,cI]
    exact h64 _ this
   have hnl:=sI _ hn.1 hn.2
   have NT:=Cd k hk
   have e1:dC l.length++(l.take (k+1)).flatMap dC=(dC l.length++(l.take k).flatMap dC)++dC (l.getD k 0):=by
    have:l.take (k+1)=l.take k++[l[k]]:=by rw [List.take_add_one,List.getElem?_eq_getElem cI]; rfl
    rw [this,List.flatMap_append,List.append_assoc]
    simp [List.getD,cI]
   generalize hn0:l.getD k 0=n0 at *
   clear aJ
   go_wp2_with (go_at_call 75; refine (XD n0 hn.1 hn.2 _ ht).mono ?_; rintro e w3 ⟨rfl,k1,os1,rfl⟩)
   have hI3:=H3 hI k1 os1
   have uI:=re hb hb.size k1 os1
   clear hI hb
   go_wp2_with (go_at_call 106; refine (abm w.heap.size w.heap.size _ _ _ hI3 (by omega) (by have:=uI.size; omega)).mono ?_; rintro e w4 ⟨⟨v4,rfl⟩,hI4,Va⟩)
   have hb5:=uI.trans Va
   clear hI3 uI Va
   go_wp2
   go_roundw
   case rel=>exact ⟨k+1,by omega,by simp,by rw [e1]; exact hI4,hb5⟩
   case measure=>simp [intOf]; omega
  ·obtain rfl:k=l.length:=by omega
   rw [List.take_length] at hI
   have gN:dC l.length++l.flatMap dC≠[]:=by simp [dC]
   go_wp2_with (go_at_call 107; refine (Any.Builder_String_k Tryz.Y6 Tryz.bsX w.heap.size w.heap.size _ wr hI gN).mono ?_; rintro e w3 ⟨rfl,h1,h2,-⟩)
   go_wp2
   go_ret
   exact ⟨rfl,hb.trans h2⟩
set_option maxHeartbeats 1000000 in
theorem TZ (ad:Option Addr) (blk off cap:Nat) (l:List Int) (w:World) (hl:l.length≤1000000) (h64:∀ n∈l,-9223372036854775808≤n∧n≤9223372036854775807) (h3:3 < w.heap.size) (GM:Lib.TabIs Tryz.prog w "internal/strconv.uint64pow10" .u64 Lib.pow10Tab)
  (hc:∀ j,(h:j < l.length)→w.cell? ⟨blk,off+j,none⟩=some (.int .i64 l[j])) (hblk:0 < l.length→ad=some ⟨blk,off,none⟩∧blk < w.heap.size) :
  Calls Tryz.prog 43 #[.slice ad l.length cap] w fun e w'=>e=.returned (.string ⟨(iU l).toArray⟩)∧Below w.heap.size w w':=by
 go_enter Tryz.func43,Tryz.ntmps43
 go_wp2_with (go_at_call 74; refine (Wd ad blk off cap l _ hl h64 h3 GM hc hblk).mono ?_; rintro e w1 ⟨rfl,hb⟩)
 go_wp2
 go_ret
 exact ⟨rfl,hb⟩
def fH (l:List Int):ByteArray:=⟨(iU l).toArray⟩
theorem L8 {w:World} {S:Nat→Prop} (hg:iA w S) (hS:∀ b,S b→b < w.heap.size):3 < w.heap.size∧Lib.TabIs Tryz.prog w "internal/strconv.uint64pow10" .u64 Lib.pow10Tab:=by
 have hn:Tryz.prog.globalNamed "internal/strconv.uint64pow10" = some 3:=by kernel_rfl
 obtain ⟨h1,o,h2,h3⟩:=hg.1 (3,isCells 20) (by simp [oa.op])
 obtain ⟨cs,t,fz,h4,h5,h6⟩:=Ov h2 h3
 refine ⟨hS _ h1,?_⟩
 unfold Lib.TabIs World.var?
 rw [hn]
 simp only [Option.bind_some,h4,Option.some.injEq]
 have Qz:=hg.2 _ (show (3,_)∈oa.gl from List.mem_singleton.2 rfl)
 obtain ⟨cy,v1,v2⟩:=Qz
 apply Array.ext
 ·rw [h5]; rfl
 ·intro j hj1 U0
  rw [h5] at hj1
  have e1:=(v1 j hj1).2
  rw [Nat.zero_add,h6 j,Array.getElem?_eq_getElem (by omega)] at e1
  have e2:=v2 j hj1
  have hj:j=0∨j=1∨j=2∨j=3∨j=4∨j=5∨j=6∨j=7∨j=8∨j=9∨j=10∨j=11∨j=12∨j=13∨j=14∨j=15∨j=16∨j=17∨j=18∨j=19:=by omega
  rcases hj with rfl | rfl | rfl | rfl | rfl | rfl | rfl | rfl | rfl | rfl | rfl | rfl | rfl | rfl | rfl | rfl | rfl | rfl | rfl | rfl <;>
   (have e3:cy _=_:=bG (w:=w) (S:=S) (μ:=fun _=>none) (ν:=fun _=>false) rfl (.d e2)
    rw [Option.some.inj e1,e3]
    rfl)
theorem Jz (l:List Int) (h:l.length≤1000000∧∀ n∈l,aK n):kE Tryz.prog 43 [lv cw l] [] (sv (fH l)) []:=by
 refine kE.pure (by kernel_rfl) (fun w S μ vs hS hg hr=>?_)
 obtain ⟨v,rfl⟩:∃ v,vs = #[v]:=by
  have:=(hr fun _=>false).1
  match vs,this with
  | ⟨[v]⟩,_=>exact ⟨v,rfl⟩
 obtain ⟨h3,ht⟩:=L8 hg hS
 have hv:Rel w S μ (fun _=>false) (lv cw l) v:=by simpa using (hr fun _=>false).2 0 (by simp)
 refine ⟨.string (fH l),?_,fun _ _ _ _=>fO rfl⟩
 have Nv:Rd w S (qO cw l) v:=eE.1 hv
 unfold qO at Nv
 generalize hf:(fun i=>cw (l.getD i default))=f at Nv
 generalize hn:l.length=n at Nv
 cases Nv with
 | nil =>
  have:=TZ none 0 0 0 l w h.1 h.2 h3 ht (fun j hj=>by omega) (fun hj=>by omega)
  rw [hn] at this
  exact this
 | sl _ _ a cap k cy hcp hm hs hk aJ hh =>
  have Yc:0 < n→k=1:=fun h0=>by rw [← hk 0 h0,← hf]; rfl
  have:=TZ (some a) a.block a.off cap l w h.1 h.2 h3 ht (fun j hj=>by
   have h0:0 < n:=by omega
   have Py:=Yc h0
   subst Py
   have q1:=(aJ j 0 (by omega) (by omega)).2
   have q2:Rd w S (.v (.int .i64 (l.getD j default))) (cy j 0):=by
    have:=hh j 0 (by omega) (by omega)
    rw [← hf] at this
    exact this
   have q3:cy j 0=.int .i64 l[j]:=by
    have e:(.int .i64 (l.getD j default):Value)=.int .i64 l[j]:=by simp [List.getD,hj]
    rw [e] at q2
    exact bG (w:=w) (S:=S) (μ:=fun _=>none) (ν:=fun _=>false) rfl (.d q2)
   rw [q3] at q1
   rw [← q1]
   congr 2
   omega) (fun hj=>by
   have h0:0 < n:=by omega
   have Py:=Yc h0
   subst Py
   rcases hs with hs | hs
   ·omega
   ·refine ⟨?_,hS _ (aJ 0 0 h0 (by omega)).1⟩
    cases a
    simp_all)
  rw [hn] at this
  exact this
def BZ (l:List Int):iM ByteArray:=⟨Tryz.prog,43,[lv cw l],fun x=>sv x,true,fH l,l.length≤1000000∧∀ n∈l,aK n,fun h=>Jz l h,fun _=>True,trivial⟩
end
def mj (x_:ae):Sk (ByteArray) :=
 .r 1 ((dA x_).c) fun x1 =>
 .br (!x1)
 (.fin (⟨#[]⟩:ByteArray))
 (.r 3 (.ak (.o [.dU (dw eJ [x_.reporter,x_.no,x_.day,x_.body.kind,x_.body.bill,x_.body.index])]) (.dep ((fG x_.body).c) fun x2=>.ak (.ak (.o [.dU (fo eJ [x_.reporter,x_.no,x_.day,x_.body.kind,x_.body.bill,x_.body.index] x2)]) (.ak (.t (eJ.src x2)) (.p (jH ([x_.reporter,x_.no,x_.day,x_.body.kind,x_.body.bill,x_.body.index].length) x2.length 8)))) ((BZ ([x_.reporter,x_.no,x_.day,x_.body.kind,x_.body.bill,x_.body.index]++x2)).c))) fun p4 =>
 .fin p4.2)
def bg x_:=(mj x_).val
theorem EZ (x_:ae) (hi:x_.dT):(mj x_).bO (fun _=>True):=by
 refine Sk.bP _ ?_
 unfold mj
 simp only [Sk.oV,Sk.db,reduceCtorEq,oA,fP,bw.z,bw.p,bw.t,bw.pt,bw.o,bw.and,bw.ak,bw.AP,bw.wh,bw.dep,bw.sE,iM.c,kk,kp,dA,fG,BZ,maxLen,implies_true,true_and,and_true,and_self,true_implies,false_implies,cM,jH,forall_eq]
 intro _ hp
 rw [hp]
 have h1:=L2 x_.body
 obtain ⟨p1,p2,p3,p4⟩:=hi.parts
 obtain ⟨q1,q2,q3,-⟩:=p4.parts
 have h2:=L3 p4
 simp only [List.length_cons,List.length_nil,List.length_append]
 refine ⟨by omega,by omega,fun n hn=>?_⟩
 simp only [List.cons_append,List.nil_append,List.mem_cons] at hn
 rcases hn with rfl | rfl | rfl | rfl | rfl | rfl | hn
 ·exact p1
 ·exact p2
 ·exact p3
 ·exact q1
 ·exact q2
 ·exact q3
 ·exact h2 n hn
def kU x_:=kk tok mixed Tryz.func11 [av x_.cells] (fun x=>sv x) true (mj x_) (bg x_) (EZ x_)
section
open Go Go.Av Go.Shelf Go.RowKit
def Tryz.JA:Go.Shelf.Ren:=⟨fun | 172=>77 | 244=>109 | 245=>110 | 247=>160 | 279=>161 | 280=>162 | 281=>163 | 282=>164 | 287=>189 | 316=>190 | 171=>78 | 205=>191 | 321=>203 | 322=>204 | 243=>111 | 246=>165 | 283=>192 | 284=>193 | 285=>194 | 286=>195 | 129=>137 | 317=>205 | 318=>206 | 319=>207 | 320=>208 | 337=>210 | 338=>211 | n=>n,fun | 9=>9 | 3=>3 | 75=>138 | 76=>139 | 4=>4 | 5=>5 | 167=>216 | 37=>89 | 0=>0 | 85=>217 | 2=>2 | 168=>219 | 53=>200 | 175=>241 | 46=>159 | 210=>245 | 127=>215 | 145=>261 | 143=>259 | 21=>21 | 171=>247 | 173=>249 | 212=>263 | 51=>198 | 20=>20 | 213=>264 | 232=>266 | 233=>267 | 80=>179 | n=>n,fun | 15=>1 | 16=>2 | 17=>3 | 18=>4 | 19=>5 | n=>n⟩
theorem Tryz.E0:Go.Proofs.LaysC.n172 Tryz.prog Tryz.JA:={
 mixed:=by kernel_rfl
 f129:=Tryz.func137.trans (congrArg some (by kernel_rfl))
 f171:=Tryz.func78.trans (congrArg some (by kernel_rfl))
 f172:=Tryz.func77.trans (congrArg some (by kernel_rfl))
 f205:=Tryz.func191.trans (congrArg some (by kernel_rfl))
 f243:=Tryz.func111.trans (congrArg some (by kernel_rfl))
 f244:=Tryz.func109.trans (congrArg some (by kernel_rfl))
 f245:=Tryz.func110.trans (congrArg some (by kernel_rfl))
 f246:=Tryz.func165.trans (congrArg some (by kernel_rfl))
 f247:=Tryz.func160.trans (congrArg some (by kernel_rfl))
 f279:=Tryz.func161.trans (congrArg some (by kernel_rfl))
 f280:=Tryz.func162.trans (congrArg some (by kernel_rfl))
 f281:=Tryz.func163.trans (congrArg some (by kernel_rfl))
 f282:=Tryz.func164.trans (congrArg some (by kernel_rfl))
 f283:=Tryz.func192.trans (congrArg some (by kernel_rfl))
 f284:=Tryz.func193.trans (congrArg some (by kernel_rfl))
 f285:=Tryz.func194.trans (congrArg some (by kernel_rfl))
 f286:=Tryz.func195.trans (congrArg some (by kernel_rfl))
 f287:=Tryz.func189.trans (congrArg some (by kernel_rfl))
 f316:=Tryz.func190.trans (congrArg some (by kernel_rfl))
 f317:=Tryz.func205.trans (congrArg some (by kernel_rfl))
 f318:=Tryz.func206.trans (congrArg some (by kernel_rfl))
 f319:=Tryz.func207.trans (congrArg some (by kernel_rfl))
 f320:=Tryz.func208.trans (congrArg some (by kernel_rfl))
 f321:=Tryz.func203.trans (congrArg some (by kernel_rfl))
 f322:=Tryz.func204.trans (congrArg some (by kernel_rfl))
 f337:=Tryz.func210.trans (congrArg some (by kernel_rfl))
 f338:=Tryz.func211.trans (congrArg some (by kernel_rfl))
 t0:=Tryz.underlying0
 a0:=Tryz.isAgg0
 z0:=Tryz.sizeOf0
 v0:=Tryz.zeroValue0
 t2:=Tryz.underlying2
 a2:=Tryz.isAgg2
 z2:=Tryz.sizeOf2
 v2:=Tryz.zeroValue2
 t3:=Tryz.underlying3
 a3:=Tryz.isAgg3
 z3:=Tryz.sizeOf3
 v3:=Tryz.zeroValue3
 t4:=Tryz.underlying4
 a4:=Tryz.isAgg4
 z4:=Tryz.sizeOf4
 v4:=Tryz.zeroValue4
 t5:=Tryz.underlying5
 a5:=Tryz.isAgg5
 z5:=Tryz.sizeOf5
 v5:=Tryz.zeroValue5
 t9:=Tryz.underlying9
 a9:=Tryz.isAgg9
 z9:=Tryz.sizeOf9
 v9:=Tryz.zeroValue9
 t20:=Tryz.underlying20
 a20:=Tryz.isAgg20
 z20:=Tryz.sizeOf20
 v20:=Tryz.zeroValue20
 t21:=Tryz.underlying21
 a21:=Tryz.isAgg21
 z21:=Tryz.sizeOf21
 v21:=Tryz.zeroValue21
 t37:=Tryz.underlying89
 a37:=Tryz.isAgg89
 z37:=Tryz.sizeOf89
 v37:=Tryz.zeroValue89
 t46:=Tryz.underlying159
 a46:=Tryz.isAgg159
 z46:=Tryz.sizeOf159
 v46:=Tryz.zeroValue159
 t51:=Tryz.underlying198
 a51:=Tryz.isAgg198
 z51:=Tryz.sizeOf198
 v51:=Tryz.zeroValue198
 t53:=Tryz.underlying200
 a53:=Tryz.isAgg200
 z53:=Tryz.sizeOf200
 v53:=Tryz.zeroValue200
 t75:=Tryz.underlying138
 a75:=Tryz.isAgg138
 z75:=Tryz.sizeOf138
 v75:=Tryz.zeroValue138
 t76:=Tryz.underlying139
 a76:=Tryz.isAgg139
 z76:=Tryz.sizeOf139
 v76:=Tryz.zeroValue139
 t85:=Tryz.underlying217
 a85:=Tryz.isAgg217
 z85:=Tryz.sizeOf217
 v85:=Tryz.zeroValue217
 t127:=Tryz.underlying215
 a127:=Tryz.isAgg215
 z127:=Tryz.sizeOf215
 v127:=Tryz.zeroValue215
 t143:=Tryz.underlying259
 a143:=Tryz.isAgg259
 z143:=Tryz.sizeOf259
 v143:=Tryz.zeroValue259
 t145:=Tryz.underlying261
 a145:=Tryz.isAgg261
 z145:=Tryz.sizeOf261
 v145:=Tryz.zeroValue261
 t167:=Tryz.underlying216
 a167:=Tryz.isAgg216
 z167:=Tryz.sizeOf216
 v167:=Tryz.zeroValue216
 t168:=Tryz.underlying219
 a168:=Tryz.isAgg219
 z168:=Tryz.sizeOf219
 v168:=Tryz.zeroValue219
 t171:=Tryz.underlying247
 a171:=Tryz.isAgg247
 z171:=Tryz.sizeOf247
 v171:=Tryz.zeroValue247
 t173:=Tryz.underlying249
 a173:=Tryz.isAgg249
 z173:=Tryz.sizeOf249
 v173:=Tryz.zeroValue249
 t175:=Tryz.underlying241
 a175:=Tryz.isAgg241
 z175:=Tryz.sizeOf241
 v175:=Tryz.zeroValue241
 t210:=Tryz.underlying245
 a210:=Tryz.isAgg245
 z210:=Tryz.sizeOf245
 v210:=Tryz.zeroValue245
 t212:=Tryz.underlying263
 a212:=Tryz.isAgg263
 z212:=Tryz.sizeOf263
 v212:=Tryz.zeroValue263
 t213:=Tryz.underlying264
 a213:=Tryz.isAgg264
 z213:=Tryz.sizeOf264
 t232:=Tryz.underlying266
 a232:=Tryz.isAgg266
 z232:=Tryz.sizeOf266
 v232:=Tryz.zeroValue266
 t233:=Tryz.underlying267
 a233:=Tryz.isAgg267
 z233:=Tryz.sizeOf267
 v233:=Tryz.zeroValue267
 g15:=by kernel_rfl
 g16:=by kernel_rfl
 g17:=by kernel_rfl
 g18:=by kernel_rfl
 g19:=by kernel_rfl
 t80:=Tryz.underlying179
 a80:=Tryz.isAgg179
 z80:=Tryz.sizeOf179
 v80:=Tryz.zeroValue179
 i0:=by kernel_rfl
 i2:=by kernel_rfl
 i3:=by kernel_rfl
 i4:=by kernel_rfl
 i5:=by kernel_rfl
 i9:=by kernel_rfl
 i20:=by kernel_rfl
 i21:=by kernel_rfl
 i37:=by kernel_rfl
 i46:=by kernel_rfl
 i51:=by kernel_rfl
 i53:=by kernel_rfl
 i75:=by kernel_rfl
 i76:=by kernel_rfl
 i80:=by kernel_rfl
 i85:=by kernel_rfl
 i127:=by kernel_rfl
 i143:=by kernel_rfl
 i145:=by kernel_rfl
 i167:=by kernel_rfl
 i168:=by kernel_rfl
 i171:=by kernel_rfl
 i173:=by kernel_rfl
 i175:=by kernel_rfl
 i210:=by kernel_rfl
 i212:=by kernel_rfl
 i232:=by kernel_rfl
 i233:=by kernel_rfl
 m15:=by kernel_rfl
 m16:=by kernel_rfl
 m17:=by kernel_rfl
 m18:=by kernel_rfl
 m19:=by kernel_rfl
 c0:=by kernel_rfl
 c2:=by kernel_rfl
 c3:=by kernel_rfl
 c4:=by kernel_rfl
 c5:=by kernel_rfl
 c9:=by kernel_rfl
 c20:=by kernel_rfl
 c21:=by kernel_rfl
 c37:=by kernel_rfl
 c46:=by kernel_rfl
 c51:=by kernel_rfl
 c53:=by kernel_rfl
 c75:=by kernel_rfl
 c76:=by kernel_rfl
 c80:=by kernel_rfl
 c85:=by kernel_rfl
 c127:=by kernel_rfl
 c143:=by kernel_rfl
 c145:=by kernel_rfl
 c167:=by kernel_rfl
 c168:=by kernel_rfl
 c171:=by kernel_rfl
 c173:=by kernel_rfl
 c175:=by kernel_rfl
 c210:=by kernel_rfl
 c212:=by kernel_rfl
 c213:=by kernel_rfl
 c232:=by kernel_rfl
 c233:=by kernel_rfl }
def Tryz.L9:Go.Shelf.Ren:=⟨fun | 145=>76 | 220=>108 | 219=>159 | 217=>185 | 225=>186 | 224=>187 | 267=>188 | 266=>201 | 314=>202 | n=>n,fun | 9=>9 | 4=>4 | 59=>135 | 3=>3 | 5=>5 | 46=>159 | 146=>256 | 51=>198 | n=>n,fun | 1=>0 | n=>n⟩
theorem Tryz.We:Go.Proofs.Lays.n145 Tryz.prog Tryz.L9:={
 mixed:=by kernel_rfl
 f145:=Tryz.func76.trans (congrArg some (by kernel_rfl))
 f217:=Tryz.func185.trans (congrArg some (by kernel_rfl))
 f219:=Tryz.func159.trans (congrArg some (by kernel_rfl))
 f220:=Tryz.func108.trans (congrArg some (by kernel_rfl))
 f224:=Tryz.func187.trans (congrArg some (by kernel_rfl))
 f225:=Tryz.func186.trans (congrArg some (by kernel_rfl))
 f266:=Tryz.func201.trans (congrArg some (by kernel_rfl))
 f267:=Tryz.func188.trans (congrArg some (by kernel_rfl))
 f314:=Tryz.func202.trans (congrArg some (by kernel_rfl))
 t3:=Tryz.underlying3
 a3:=Tryz.isAgg3
 z3:=Tryz.sizeOf3
 v3:=Tryz.zeroValue3
 t4:=Tryz.underlying4
 a4:=Tryz.isAgg4
 z4:=Tryz.sizeOf4
 v4:=Tryz.zeroValue4
 t5:=Tryz.underlying5
 a5:=Tryz.isAgg5
 z5:=Tryz.sizeOf5
 v5:=Tryz.zeroValue5
 t9:=Tryz.underlying9
 a9:=Tryz.isAgg9
 z9:=Tryz.sizeOf9
 v9:=Tryz.zeroValue9
 t46:=Tryz.underlying159
 a46:=Tryz.isAgg159
 z46:=Tryz.sizeOf159
 v46:=Tryz.zeroValue159
 t51:=Tryz.underlying198
 a51:=Tryz.isAgg198
 z51:=Tryz.sizeOf198
 v51:=Tryz.zeroValue198
 t59:=Tryz.underlying135
 a59:=Tryz.isAgg135
 z59:=Tryz.sizeOf135
 v59:=Tryz.zeroValue135
 t146:=Tryz.underlying256
 a146:=Tryz.isAgg256
 z146:=Tryz.sizeOf256
 v146:=Tryz.zeroValue256
 g1:=by kernel_rfl }
def bX (l:List UInt8):Int × List UInt8 × Bool :=
 bif (Lib.cut (l.take 21) [59]).2.2 then (match Lib.atoiAll (Lib.cut (l.take 21) [59]).1 with
  | .ok n=>bif Lib.itoa n == (Lib.cut (l.take 21) [59]).1 then (n,l.drop ((Lib.cut (l.take 21) [59]).1.length+1),true) else (0,[],false)
  | _=>(0,[],false)) else (0,[],false)
theorem PY:∀ (l:List UInt8),(Lib.cut l [59]=(l,[],false)∧59 ∉ l)∨∃ a b,Lib.cut l [59]=(a,b,true)∧l=a++59 :: b∧59 ∉ a
 | []=>.inl (by decide)
 | c :: r=>by
  by_cases hc:c=59
  ·subst hc
   exact .inr ⟨[],r,by simp [Lib.cut,Lib.index,List.isPrefixOf],rfl,by simp⟩
  ·have IA:List.isPrefixOf [59] (c :: r)=false:=by
    simp [List.isPrefixOf]
    exact fun e=>hc e.symm
   rcases PY r with ⟨h1,h2⟩ | ⟨a,b,h1,h2,h3⟩
   ·refine .inl ⟨?_,by simp; exact ⟨fun e=>hc e.symm,h2⟩⟩
    unfold Lib.cut at h1 ⊢
    have h0:¬ 0≤Lib.index r [59]:=by
     intro h0
     rw [if_pos h0] at h1
     simp at h1
    have h4:=Lib.index_ge r [59]
    have h5:Lib.index r [59] = -1:=by omega
    simp [Lib.index,IA,h5]
   ·refine .inr ⟨c :: a,b,?_,by rw [h2]; rfl,by simp; exact ⟨fun e=>hc e.symm,h3⟩⟩
    unfold Lib.cut at h1 ⊢
    by_cases h0:0≤Lib.index r [59]
    ·rw [if_pos h0] at h1
     simp only [Prod.mk.injEq,and_true] at h1
     obtain ⟨q1,q2⟩:=h1
     have h5:¬ Lib.index r [59] = -1:=by omega
     have e1:Lib.index (c :: r) [59]=Lib.index r [59]+1:=by simp [Lib.index,IA,h5]
     have e2:(Lib.index r [59]+1).toNat=(Lib.index r [59]).toNat+1:=by omega
     rw [e1,if_pos (by omega),e2]
     simp only [List.take_succ_cons,Prod.mk.injEq,and_true]
     refine ⟨by rw [q1],?_⟩
     simp only [List.length_cons,List.length_nil,Nat.zero_add] at q2 ⊢
     rw [← q2,List.drop_succ_cons]
    ·rw [if_neg h0] at h1
     simp at h1
theorem adF (s:ByteArray) (a:Nat):(s.extract 0 a).data.toList=s.data.toList.take a:=by
 rw [Lib.extract_data]
 simp only [List.drop_zero,Nat.sub_zero]
theorem Ma (s:ByteArray):(s.extract 0 (min (s.size:Int) 21).toNat).data.toList=s.data.toList.take 21:=by
 have e:(min (s.size:Int) 21).toNat=min s.size 21:=by omega
 rw [e]
 have h:=adF s (min s.size 21)
 rw [h]
 have hl:s.data.toList.length=s.size:=(Lib.size_eq s).symm
 rcases Nat.le_total s.size 21 with h | h
 ·rw [Nat.min_eq_left h,List.take_of_length_le (by omega),List.take_of_length_le (by omega)]
 ·rw [Nat.min_eq_right h]
theorem T1 (s:ByteArray) (n:Nat):s.extract n s.size=⟨(s.data.toList.drop n).toArray⟩:=by
 have h:=Lib.extract_to_end s n
 apply ByteArray.ext
 apply Array.ext'
 exact h
theorem XE (s:ByteArray) (hd tl:List UInt8) (f:Bool) (hc:Lib.cut (s.data.toList.take 21) [59]=(hd,tl,f)) (m:Int) (w:World) (hm:w.cell? ⟨0,0,none⟩=some (.int .i64 m)) :
  Calls Tryz.prog 76 #[.string (s.extract 0 (min (s.size:Int) 21).toNat),.string ⟨#[59]⟩] w fun e w'=>e=.returned (.tuple #[.string ⟨hd.toArray⟩,.string ⟨tl.toArray⟩,.bool f])∧∃ n,w'=w.drewN n:=by
 refine (Any.strings_Cut Tryz.We _ ⟨#[59]⟩ m w ?_ hm).mono ?_
 ·have h1:=congrArg List.length (Ma s)
  simp only [Array.length_toList,List.length_take] at h1
  show (s.extract 0 (min (s.size:Int) 21).toNat).data.size < _
  omega
 ·rintro e w' ⟨rfl,h⟩
  have e59:(⟨#[59]⟩:ByteArray).data.toList=[59]:=rfl
  rw [Ma,e59,hc]
  exact ⟨rfl,h⟩
theorem Y8 (l:List UInt8) (hl:l.length≤1000) (w:World) (Wf Wg:Value) (hv1:w.cell? ⟨1,0,none⟩=some Wf) (Iy:Wf=.nilIface∨∃ te pe,Wf=.iface te pe) (hv2:w.cell? ⟨2,0,none⟩=some Wg) (Iz:Wg=.nilIface∨∃ te pe,Wg=.iface te pe) :
  Calls Tryz.prog 77 #[.string ⟨l.toArray⟩] w fun e w'=>(match Lib.atoiAll l with | .ok v=>e=.returned (.tuple #[.int .i64 v,.nilIface]) | _=>∃ v t p,e=.returned (.tuple #[.int .i64 v,.iface t p]))∧Below w.heap.size w w':=by
 have hs:(⟨l.toArray⟩:ByteArray).size=l.length:=by simp [ByteArray.size]
 have hd:(⟨l.toArray⟩:ByteArray).data.toList=l:=by simp
 cases h:Lib.atoiAll l
 ·rename_i v
  refine (Any.strconv_Atoi_ok Tryz.E0 ⟨l.toArray⟩ (by omega) v (by rw [hd]; exact h) w).mono ?_
  rintro e w' ⟨rfl,hw⟩
  refine ⟨rfl,?_⟩
  rcases hw with rfl | ⟨t,rfl⟩
  ·exact Below.refl _ _
  ·exact Lib.bytesWorld_below _ _ _
 ·skip
  refine (Any.strconv_Atoi_syntax Tryz.E0 ⟨l.toArray⟩ (by omega) (by rw [hd]; exact h) Wf w hv1 Iy).mono ?_
  rintro e w' ⟨N,rfl,-,-,hb⟩
  exact ⟨⟨_,_,_,rfl⟩,hb⟩
 ·skip
  refine (Any.strconv_Atoi_range Tryz.E0 ⟨l.toArray⟩ (by omega) (by rw [hd]; exact h) Wg w hv2 Iz).mono ?_
  rintro e w' ⟨N,rfl,-,-,hb⟩
  exact ⟨⟨_,_,_,rfl⟩,hb⟩
set_option maxHeartbeats 2000000 in
theorem Rb (s:ByteArray) (w:World) (m:Int) (Wf Wg:Value) (hs:s.size≤1000000) (h3:3 < w.heap.size) (hm:w.cell? ⟨0,0,none⟩=some (.int .i64 m)) (hv1:w.cell? ⟨1,0,none⟩=some Wf) (Iy:Wf=.nilIface∨∃ te pe,Wf=.iface te pe) (hv2:w.cell? ⟨2,0,none⟩=some Wg) (Iz:Wg=.nilIface∨∃ te pe,Wg=.iface te pe) (GM:Lib.TabIs Tryz.prog w "internal/strconv.uint64pow10" .u64 Lib.pow10Tab) :
  Calls Tryz.prog 45 #[.string s] w fun e w'=>e=.returned (.tuple #[.int .i64 (bX s.data.toList).1,.string ⟨(bX s.data.toList).2.1.toArray⟩,.bool (bX s.data.toList).2.2])∧Below w.heap.size w w':=by
 have Y9:∀ n,Below w.heap.size w (w.drewN n):=fun n=>⟨rfl,rfl,rfl,Nat.le_refl _,fun _ _=>rfl⟩
 rcases PY (s.data.toList.take 21) with ⟨hc,-⟩ | ⟨hd,tl,hc,jD,h59⟩
 ·have er:bX s.data.toList=(0,[],false):=by simp [bX,hc]
  rw [er]
  have hcut:=XE s _ _ _ hc m w hm
  clear hc
  go_enter Tryz.func45,Tryz.ntmps45
  go_wp2_with (go_at_call 76; refine hcut.mono ?_; rintro e w1 ⟨rfl,n,rfl⟩)
  go_wp2
  go_ret3
  exact ⟨rfl,Y9 n⟩
 ·have aev:hd.length+1≤s.size:=by
   have h1:=congrArg List.length jD
   simp only [List.length_take,List.length_append,List.length_cons,Array.length_toList] at h1
   have:s.data.size=s.size:=rfl
   omega
  have hdl:hd.length≤21:=by
   have h1:=congrArg List.length jD
   simp only [List.length_take,List.length_append,List.length_cons] at h1
   omega
  have hcut:=XE s _ _ _ hc m w hm
  have Aq:=fun w' (hb:Below w.heap.size w w')=>Y8 hd (by omega) w' Wf Wg (by rw [hb.cell (show (⟨1,0,none⟩:Addr).block < w.heap.size by show 1 < _; omega)]; exact hv1) Iy (by rw [hb.cell (show (⟨2,0,none⟩:Addr).block < w.heap.size by show 2 < _; omega)]; exact hv2) Iz
  cases ha:Lib.atoiAll hd
  ·rename_i v
   have hvb:=Lib.atoiAll_bounds ha
   rw [ha] at Aq
   go_enter Tryz.func45,Tryz.ntmps45
   go_wp2_with (go_at_call 76; refine hcut.mono ?_; rintro e w1 ⟨rfl,n,rfl⟩)
   have Mb:=Aq (w.drewN n) (Y9 n)
   clear Aq
   go_wp2_with (go_at_call 77; refine Mb.mono ?_; rintro e w2 ⟨rfl,tD⟩)
   have uI:=(Y9 n).trans tD
   have ht3:=AX uI h3 GM
   clear Mb tD
   go_wp2_with (go_at_call 78; refine (TY v hvb.1 hvb.2 _ ht3).mono ?_; rintro e w3 ⟨rfl,k,os,rfl⟩)
   ·have hi:(Lib.itoa v == hd)=false:=by
     have:(!Lib.itoa v == hd)=true:=by assumption
     simpa using this
    have er:bX s.data.toList=(0,[],false):=by simp [bX,hc,ha,hi]
    have Va:=re uI uI.size k os
    go_ret3
    rw [er]
    exact ⟨rfl,Va⟩
   ·have hi:(Lib.itoa v == hd)=true:=by
     have:(!Lib.itoa v == hd)=false:=by assumption
     simpa using this
    have er:bX s.data.toList=(v,s.data.toList.drop (hd.length+1),true):=by simp [bX,hc,ha,hi]
    have c1:(0:Int)≤↑hd.length+1:=by omega
    have c2:(↑hd.length+1:Int)≤↑s.size:=by omega
    have c3:((hd.length:Int)+1).toNat=hd.length+1:=by omega
    have Va:=re uI uI.size k os
    go_region
    go_wp2
    go_ret3
    rw [er,T1]
    exact ⟨rfl,Va.trans ⟨rfl,rfl,rfl,Nat.le_refl _,fun _ _=>rfl⟩⟩
  ·skip
   rw [ha] at Aq
   have er:bX s.data.toList=(0,[],false):=by simp [bX,hc,ha]
   rw [er]
   go_enter Tryz.func45,Tryz.ntmps45
   go_wp2_with (go_at_call 76; refine hcut.mono ?_; rintro e w1 ⟨rfl,n,rfl⟩)
   have Mb:=Aq (w.drewN n) (Y9 n)
   clear Aq
   go_wp2_with (go_at_call 77; refine Mb.mono ?_; rintro e w2 ⟨⟨v,t,p,rfl⟩,tD⟩)
   have uI:=(Y9 n).trans tD
   clear Mb tD
   go_wp2
   go_ret3
   exact ⟨rfl,uI⟩
  ·skip
   rw [ha] at Aq
   have er:bX s.data.toList=(0,[],false):=by simp [bX,hc,ha]
   rw [er]
   go_enter Tryz.func45,Tryz.ntmps45
   go_wp2_with (go_at_call 76; refine hcut.mono ?_; rintro e w1 ⟨rfl,n,rfl⟩)
   have Mb:=Aq (w.drewN n) (Y9 n)
   clear Aq
   go_wp2_with (go_at_call 77; refine Mb.mono ?_; rintro e w2 ⟨⟨v,t,p,rfl⟩,tD⟩)
   have uI:=(Y9 n).trans tD
   clear Mb tD
   go_wp2
   go_ret3
   exact ⟨rfl,uI⟩
def ax (s:ByteArray):Int × ByteArray × Bool:=((bX s.data.toList).1,⟨(bX s.data.toList).2.1.toArray⟩,(bX s.data.toList).2.2)
theorem Cs (s:ByteArray) (h:s.size≤1000000):kE Tryz.prog 45 [sv s] [] (.il [iv (ax s).1,sv (ax s).2.1,bv (ax s).2.2]) []:=by
 refine kE.pure (by kernel_rfl) (fun w S μ vs hS hg hr=>?_)
 obtain ⟨v,rfl⟩:∃ v,vs = #[v]:=by
  have:=(hr fun _=>false).1
  match vs,this with
  | ⟨[v]⟩,_=>exact ⟨v,rfl⟩
 obtain ⟨h3,ht⟩:=L8 hg hS
 have hv:Rel w S μ (fun _=>false) (sv s) v:=by simpa using (hr fun _=>false).2 0 (by simp)
 have hv':v=.string s:=bG rfl hv
 subst hv'
 obtain ⟨-,o0,g0,g0'⟩:=hg.1 (0,LW) (by simp [oa.op])
 obtain ⟨-,o1,g1,g1'⟩:=hg.1 (1,ER) (by simp [oa.op])
 obtain ⟨-,o2,g2,g2'⟩:=hg.1 (2,ER) (by simp [oa.op])
 obtain ⟨m,hm⟩:=Ou g0 g0'
 obtain ⟨e1,Iy,adG⟩:=ES g1 g1'
 obtain ⟨e2,Iz,adH⟩:=ES g2 g2'
 refine ⟨.tuple #[.int .i64 (ax s).1,.string (ax s).2.1,.bool (ax s).2.2],(Rb s w m e1 e2 h h3 hm Iy adG Iz adH ht).mono ?_,fun _ _ _ _=>.il rfl (fun i hi=>?_)⟩
 ·rintro e w' ⟨rfl,hb⟩
  exact ⟨rfl,hb⟩
 ·have:i=0∨i=1∨i=2:=by simp at hi; omega
  rcases this with rfl | rfl | rfl <;> exact fO rfl
def vz (s:ByteArray):iM (Int × ByteArray × Bool):=⟨Tryz.prog,45,[sv s],fun x=>.il [iv x.1,sv x.2.1,bv x.2.2],true,ax s,s.size≤1000000,fun h=>Cs s h,fun _=>True,trivial⟩
end
theorem wz (d:Nat) (hd:d < 10):(UInt8.ofNat (48+d)).toNat=48+d:=by
 have:d=0∨d=1∨d=2∨d=3∨d=4∨d=5∨d=6∨d=7∨d=8∨d=9:=by omega
 rcases this with rfl | rfl | rfl | rfl | rfl | rfl | rfl | rfl | rfl | rfl <;> rfl
theorem H4 (d:Nat) (hd:d < 10) (acc:Nat) (hu:acc * 10+d < 18446744073709551616):Lib.parseUint10 acc [UInt8.ofNat (48+d)]=.ok (acc * 10+d):=by
 have e:=wz d hd
 simp only [Lib.parseUint10,e]
 have e2:48+d - 48=d:=by omega
 rw [if_pos ⟨by omega,by omega⟩,if_neg (by omega),e2,if_neg (by omega)]
theorem E1 (d:Nat) (hd:d < 10):∀ (l:List UInt8) (acc u:Nat),Lib.parseUint10 acc l=.ok u→u * 10+d < 18446744073709551616→Lib.parseUint10 acc (l++[UInt8.ofNat (48+d)])=.ok (u * 10+d)
 | [],acc,u,h,hu=>by
  simp only [Lib.parseUint10,Lib.NumEnd.ok.injEq] at h
  subst h
  exact H4 d hd acc hu
 | c :: r,acc,u,h,hu=>by
  simp only [Lib.parseUint10] at h
  rw [List.cons_append]
  simp only [Lib.parseUint10]
  split at h
  ·rename_i h1
   rw [if_pos h1]
   split at h
   ·cases h
   ·rename_i h2
    rw [if_neg h2]
    split at h
    ·cases h
    ·rename_i h3
     rw [if_neg h3]
     exact E1 d hd r _ u h hu
  ·cases h
theorem AY:∀ (n u:Nat),u≤n→u < 18446744073709551616→Lib.parseUint10 0 (Lib.decDigits u)=.ok u
 | n,u,hn,hu=>by
  rw [Lib.decDigits]
  by_cases h:u < 10
  ·rw [dif_pos h]
   have:=H4 u h 0 (by omega)
   simpa using this
  ·rw [dif_neg h]
   match n with
   | 0=>omega
   | n+1 =>
    have ih:=AY n (u / 10) (by omega) (by omega)
    have:=E1 (u % 10) (by omega) _ 0 (u / 10) ih (by omega)
    rw [this]
    congr 1
    omega
theorem np:∀ (n u:Nat),u≤n→Lib.decDigits u≠[]∧∀ c,c∈Lib.decDigits u→48≤c.toNat∧c.toNat≤57
 | n,u,hn=>by
  rw [Lib.decDigits]
  by_cases h:u < 10
  ·rw [dif_pos h]
   refine ⟨by simp,fun c hc=>?_⟩
   simp only [List.mem_singleton] at hc
   rw [hc,wz u h]
   omega
  ·rw [dif_neg h]
   match n with
   | 0=>omega
   | n+1 =>
    have ih:=np n (u / 10) (by omega)
    refine ⟨by simp,fun c hc=>?_⟩
    rcases List.mem_append.1 hc with hc | hc
    ·exact ih.2 c hc
    ·simp only [List.mem_singleton] at hc
     rw [hc,wz _ (by omega)]
     omega
theorem AZ (u:Nat):Lib.decDigits u≠[]:=(np u u (Nat.le_refl _)).1
theorem Rc (n:Int):(59:UInt8) ∉ Lib.itoa n:=by
 have h:∀ u,(59:UInt8) ∉ Lib.decDigits u:=fun u hm=>by
  have:=(np u u (Nat.le_refl _)).2 _ hm
  simp at this
 unfold Lib.itoa
 split
 ·intro hm
  rcases List.mem_cons.1 hm with hm | hm
  ·cases hm
  ·exact h _ hm
 ·exact h _
theorem Wh (n:Int):Lib.itoa n≠[]:=by
 unfold Lib.itoa
 split
 ·simp
 ·exact AZ _
theorem Re (n:Int) (h:aK n):Lib.atoiAll (Lib.itoa n)=.ok n:=by
 unfold aK at h
 unfold Lib.itoa
 split
 ·rename_i hn
  have hp:Lib.parseMag (Lib.decDigits n.natAbs)=.ok n.natAbs:=by
   unfold Lib.parseMag
   rw [if_neg (AZ _)]
   exact AY _ _ (Nat.le_refl _) (by omega)
  unfold Lib.atoiAll
  have h45:(45:UInt8).toNat=45:=rfl
  simp only [h45,or_true,if_true,hp,not_true,false_and,if_false,true_and]
  rw [if_neg (by omega)]
  congr 1
  omega
 ·rename_i hn
  have hp:Lib.parseMag (Lib.decDigits n.toNat)=.ok n.toNat:=by
   unfold Lib.parseMag
   rw [if_neg (AZ _)]
   exact AY _ _ (Nat.le_refl _) (by omega)
  have hd:=np n.toNat n.toNat (Nat.le_refl _)
  generalize Lib.decDigits n.toNat=l at hp hd
  cases l with
  | nil=>exact absurd rfl hd.1
  | cons c r =>
   have hc:=hd.2 c List.mem_cons_self
   unfold Lib.atoiAll
   have c1:¬ (c.toNat=43∨c.toNat=45):=by omega
   have c2:¬ c.toNat=45:=by omega
   have c3:¬ 9223372036854775808≤n.toNat:=by omega
   have c4:¬ c.toNat=43:=by omega
   simp only [c4,or_self,hp,c2,c3,not_false_eq_true,true_and,false_and,if_false]
   exact congrArg Lib.NumEnd.ok (by omega)
theorem Wi (a b:List UInt8) (h:(59:UInt8) ∉ a):Lib.cut (a++59 :: b) [59]=(a,b,true):=by
 rcases PY (a++59 :: b) with ⟨-,h1⟩ | ⟨a',b',h1,h2,h3⟩
 ·exact absurd (by simp) h1
 ·rw [h1]
  have key:∀ (a a':List UInt8),(59:UInt8) ∉ a→(59:UInt8) ∉ a'→a++59 :: b=a'++59 :: b'→a=a'∧b=b':=by
   intro a
   induction a with
   | nil =>
    intro a' _ h' e
    cases a' with
    | nil=>simp at e; exact ⟨rfl,e⟩
    | cons c r=>simp at e; exact absurd (by rw [← e.1]; simp) h'
   | cons c r ih =>
    intro a' h0 h' e
    cases a' with
    | nil=>simp at e; exact absurd (by rw [e.1]; simp) h0
    | cons c' r' =>
     simp only [List.cons_append,List.cons.injEq] at e
     obtain ⟨e1,e2⟩:=ih r' (fun hm=>h0 (List.mem_cons_of_mem _ hm)) (fun hm=>h' (List.mem_cons_of_mem _ hm)) e.2
     exact ⟨by rw [e.1,e1],e2⟩
  obtain ⟨e1,e2⟩:=key a a' h h3 h2
  rw [e1,e2]
theorem vA (n:Int) (h:aK n) (t:List UInt8):bX (dC n++t)=(n,t,true):=by
 have hlen:=EY n h.1 h.2
 have e:dC n++t=Lib.itoa n++59 :: t:=by simp [dC]
 have ht:(Lib.itoa n++59 :: t).take 21=Lib.itoa n++59 :: t.take (20 - (Lib.itoa n).length):=by
  rw [List.take_append,List.take_of_length_le (by omega)]
  congr 1
  rw [show 21 - (Lib.itoa n).length=(20 - (Lib.itoa n).length)+1 by omega,List.take_succ_cons]
 rw [e]
 unfold bX
 rw [ht,Wi _ _ (Rc n)]
 simp only [Re n h,beq_self_eq_true,cond_true]
 refine Prod.ext rfl (Prod.ext ?_ rfl)
 show (Lib.itoa n++59 :: t).drop ((Lib.itoa n).length+1)=t
 rw [List.drop_append]
 simp
theorem B0 {l t:List UInt8} {n:Int} (h:bX l=(n,t,true)):l=dC n++t∧aK n:=by
 unfold bX at h
 rcases PY (l.take 21) with ⟨hc,-⟩ | ⟨hd,tl,hc,jD,h59⟩
 ·rw [hc] at h
  simp at h
 ·rw [hc] at h
  simp only [cond_true] at h
  cases ha:Lib.atoiAll hd
  ·rename_i v
   rw [ha] at h
   simp only at h
   cases hi:(Lib.itoa v == hd) with
   | false=>rw [hi] at h; simp at h
   | true =>
    rw [hi] at h
    simp only [cond_true,Prod.mk.injEq,and_true] at h
    obtain ⟨rfl,rfl⟩:=h
    have hb:=Lib.atoiAll_bounds ha
    have hi:Lib.itoa v=hd:=by simpa using hi
    refine ⟨?_,hb⟩
    have e1:l=l.take 21++l.drop 21:=(List.take_append_drop 21 l).symm
    rw [jD] at e1
    have e2:l=hd++59 :: (tl++l.drop 21):=by simpa using e1
    rw [e2]
    simp only [dC,hi,List.append_assoc]
    congr 1
    rw [List.drop_append]
    simp
  ·rw [ha] at h; simp at h
  ·rw [ha] at h; simp at h
theorem Mc {n m:Int} (hn:aK n) (hm:aK m) {t u:List UInt8} (h:dC n++t=dC m++u):n=m∧t=u:=by
 have h1:=vA n hn t
 rw [h,vA m hm u] at h1
 simp only [Prod.mk.injEq,and_true] at h1
 exact ⟨h1.1.symm,h1.2.symm⟩
theorem E2:∀ (a b:List Int) (t u:List UInt8),a.length=b.length→(∀ n∈a,aK n)→(∀ n∈b,aK n)→a.flatMap dC++t=b.flatMap dC++u→a=b∧t=u
 | [],[],t,u,_,_,_,h=>⟨rfl,by simpa using h⟩
 | [],_ :: _,_,_,h,_,_,_=>by simp at h
 | _ :: _,[],_,_,h,_,_,_=>by simp at h
 | n :: a,m :: b,t,u,hl,ha,hb,h=>by
  simp only [List.flatMap_cons,List.append_assoc] at h
  obtain ⟨e1,e2⟩:=Mc (ha n List.mem_cons_self) (hb m List.mem_cons_self) h
  obtain ⟨e3,e4⟩:=E2 a b t u (by simpa using hl) (fun n hn=>ha n (List.mem_cons_of_mem _ hn)) (fun n hn=>hb n (List.mem_cons_of_mem _ hn)) e2
  exact ⟨by rw [e1,e3],e4⟩
theorem A0 {a b:List Int} {t u:List UInt8} (la:a.length≤1000000) (lb:b.length≤1000000) (ha:∀ n∈a,aK n) (hb:∀ n∈b,aK n) (h:iU a++t=iU b++u):a=b∧t=u:=by
 simp only [iU,List.append_assoc] at h
 obtain ⟨e1,e2⟩:=Mc (n:=a.length) (m:=b.length) ⟨by omega,by omega⟩ ⟨by omega,by omega⟩ h
 exact E2 a b t u (by omega) ha hb e2
theorem Md (n:Int):2≤(dC n).length:=by
 have:=List.length_pos_iff.2 (Wh n)
 simp only [dC,List.length_append,List.length_singleton]
 omega
theorem oB:∀ (a:List Int),2 * a.length≤(a.flatMap dC).length
 | []=>by simp
 | n :: a=>by
  have h1:=Md n
  have h2:=oB a
  simp only [List.flatMap_cons,List.length_append,List.length_cons]
  omega
def Wj (x1:Int × ByteArray × Bool) (r:ByteArray) (l:List Int) (i:Int):Prop :=
 0≤i∧i=(l.length:Int)∧i≤x1.1∧x1.2.1.data.toList=l.flatMap dC++r.data.toList∧(∀ n∈l,aK n)
def RdE (x1:Int × ByteArray × Bool) (r:ByteArray) (l:List Int):Prop :=
 (l.length:Int)=x1.1∧x1.2.1.data.toList=l.flatMap dC++r.data.toList∧(∀ n∈l,aK n)
def GN (t:List UInt8) (x:List Int × ByteArray × Bool):Prop :=
 (x.2.2=true→t=iU x.1++x.2.1.data.toList∧x.1.length≤1000000∧∀ n∈x.1,aK n) ∧
 ∀ (l:List Int) (r:List UInt8),l.length≤1000000→(∀ n∈l,aK n)→t=iU l++r→x.2.2=true
theorem GN.eq {t:List UInt8} {x:List Int × ByteArray × Bool} (h:GN t x) {l:List Int} {r:List UInt8} (hl:l.length≤1000000) (hi:∀ n∈l,aK n) (ht:t=iU l++r):x=(l,⟨r.toArray⟩,true):=by
 have h1:=h.2 l r hl hi ht
 obtain ⟨e,e1,e2⟩:=h.1 h1
 rw [ht] at e
 obtain ⟨q1,q2⟩:=A0 hl e1 hi e2 e
 obtain ⟨x1,x2,x3⟩:=x
 simp only at h1 q1 q2
 rw [q1,h1]
 congr 2
 apply ByteArray.ext
 apply Array.ext'
 simpa using q2.symm
theorem oG {s:ByteArray} (h:(ax s).2.2=true):s.data.toList=dC (ax s).1++(ax s).2.1.data.toList∧aK (ax s).1:=by
 have h0:(bX s.data.toList).2.2=true:=h
 have:=B0 (l:=s.data.toList) (n:=(bX s.data.toList).1) (t:=(bX s.data.toList).2.1) (by rw [← h0])
 simpa [ax] using this
theorem qo {s:ByteArray} {n:Int} (hn:aK n) {t:List UInt8} (h:s.data.toList=dC n++t):ax s=(n,⟨t.toArray⟩,true):=by
 unfold ax
 rw [h,vA n hn t]
theorem Wj.size {s:ByteArray} {x1:Int × ByteArray × Bool} {r:ByteArray} {l:List Int} {i:Int} (hs:s.size≤1000000) (h1:x1=ax s) (hx:x1.2.2=true) (h:Wj x1 r l i):r.size≤1000000∧l.length≤1000000:=by
 have h2:=(oG (s:=s) (h1 ▸ hx)).1
 rw [← h1,h.2.2.2.1] at h2
 have h3:=congrArg List.length h2
 have h4:=oB l
 have e1:s.data.toList.length=s.size:=(Lib.size_eq s).symm
 have e2:r.data.toList.length=r.size:=(Lib.size_eq r).symm
 simp only [List.length_append] at h3
 omega
theorem Wj.next {s:ByteArray} {x1 x4:Int × ByteArray × Bool} {r:ByteArray} {l:List Int} {i:Int} (hs:s.size≤1000000) (h1:x1=ax s) (hx:x1.2.2=true) (h:Wj x1 r l i) (hi:i < x1.1) (h4:x4=ax r) (hy:x4.2.2=true):Wj x1 x4.2.1 (l++[x4.1]) (bI (i+1))∧(x1.1 - bI (i+1)).toNat < (x1.1 - i).toNat:=by
 have hz:=h.size hs h1 hx
 obtain ⟨a1,a2,a3,a4,a5⟩:=h
 have hw:bI (i+1)=i+1:=aD (by omega) (by omega)
 obtain ⟨b1,b2⟩:=oG (s:=r) (h4 ▸ hy)
 rw [hw]
 refine ⟨⟨by omega,by simp; omega,by omega,?_,fun n hn=>?_⟩,by omega⟩
 ·rw [a4,b1,← h4]
  simp
 ·rcases List.mem_append.1 hn with hn | hn
  ·exact a5 n hn
  ·simp only [List.mem_singleton] at hn
   rw [hn,h4]
   exact b2
theorem Wj.goes {s:ByteArray} {x1:Int × ByteArray × Bool} {r:ByteArray} {l:List Int} {i:Int} (h1:x1=ax s) (hx:x1.2.2=true) (h:Wj x1 r l i) (hi:i < x1.1) {m:List Int} {t:List UInt8} (hm:m.length≤1000000) (h6:∀ n∈m,aK n) (ht:s.data.toList=iU m++t):(ax r).2.2=true:=by
 obtain ⟨a1,a2,a3,a4,a5⟩:=h
 have e0:=qo (s:=s) (n:=m.length) ⟨by omega,by omega⟩ (t:=m.flatMap dC++t) (by rw [ht,iU,List.append_assoc])
 rw [← h1] at e0
 have e1:x1.1=(m.length:Int):=by rw [e0]
 have e2:x1.2.1.data.toList=m.flatMap dC++t:=by rw [e0]
 rw [a4] at e2
 have hlm:l.length < m.length:=by omega
 have e3:m.flatMap dC=(m.take l.length).flatMap dC++(m.drop l.length).flatMap dC:=by
  rw [← List.flatMap_append,List.take_append_drop]
 rw [e3,List.append_assoc] at e2
 obtain ⟨-,e4⟩:=E2 l (m.take l.length) _ _ (by simp; omega) a5 (fun n hn=>h6 n (List.mem_of_mem_take hn)) e2
 have e5:m.drop l.length=m[l.length] :: m.drop (l.length+1):=List.drop_eq_getElem_cons hlm
 rw [e5,List.flatMap_cons,List.append_assoc] at e4
 rw [qo (h6 _ (List.getElem_mem hlm)) e4]
theorem GN.head {s:ByteArray} {x1:Int × ByteArray × Bool} (h1:x1=ax s) {m:List Int} {t:List UInt8} (hs:s.size≤1000000) (hm:m.length≤1000000) (ht:s.data.toList=iU m++t):((!x1.2.2||decide (x1.1 < 0))||decide (x1.1 > bI (((x1.2.1.size:Nat):Int).tdiv 2)))=false:=by
 have e0:=qo (s:=s) (n:=m.length) ⟨by omega,by omega⟩ (t:=m.flatMap dC++t) (by rw [ht,iU,List.append_assoc])
 rw [← h1] at e0
 have h2:=oB m
 have e1:s.data.toList.length=s.size:=(Lib.size_eq s).symm
 have h3:=congrArg List.length ht
 simp only [iU,List.length_append] at h3
 have dK:x1.2.1.size=(m.flatMap dC).length+t.length:=by rw [e0]; simp [ByteArray.size]
 have hd:(((x1.2.1.size:Nat):Int).tdiv 2)=((x1.2.1.size / 2:Nat):Int):=rfl
 have hw:bI (((x1.2.1.size:Nat):Int).tdiv 2)=((x1.2.1.size / 2:Nat):Int):=by rw [hd]; exact aD (by omega) (by omega)
 have c1:x1.2.2=true:=by rw [e0]
 have c2:x1.1=(m.length:Int):=by rw [e0]
 rw [hw,c1,c2]
 simp only [Bool.not_true,Bool.false_or,Bool.or_eq_false_iff,decide_eq_false_iff_not]
 omega
def gj (s:ByteArray):Sk ((List Int) × ByteArray × Bool) :=
 .r 1 ((vz s).c) fun x1=>let aC:=((!x1.2.2)||(decide (x1.1 < 0)));
 .r 2 (.wh aC false (.p ((2:Int)≠0))) fun _ =>
 .br (aC||(decide (x1.1 > (bI (((x1.2.1.size:Nat):Int).tdiv 2)))))
 (.fin ([],(⟨#[]⟩:ByteArray),false))
 (.r 4 (.ak (.o [.dU (adA eJ [dI 0])]) (.p (V6 x1.1 8))) fun _ =>
 .bind true (fun b2=>RdE x1 b2.1 b2.2)
 (.loop (default:Sum ((List Int) × ByteArray × Bool) (ByteArray × (List Int))) (fun i3=>Wj x1 i3.1 i3.2.1 i3.2.2) (fun i3=>(x1.1 - i3.2.2).toNat) ((x1.2.1,([]:List Int),0):ByteArray × (List Int) × Int)
 (fun (i3:ByteArray × (List Int) × Int)=>⟨[(8,sv i3.1),(10,ow 100002 i3.2.1),(36,iv i3.2.2)],[(100002,cm 3 1 cw i3.2.1)]⟩) fun i3 =>
 .br (decide (i3.2.2 < x1.1))
 (.r 7 ((vz i3.1).c) fun x4 =>
 .br (!x4.2.2)
 (.fin (.inl (.inl ([],(⟨#[]⟩:ByteArray),false))))
 (.r 10 (.ak (.o [.dU (dw eJ [x4.1])]) (.ak (.o [.dU (fo eJ i3.2.1 [x4.1])]) (.ak (.t (eJ.jz [x4.1])) (.p (jH i3.2.1.length [x4.1].length 8))))) fun _ =>
 .fin (.inr (x4.2.1,i3.2.1++[x4.1],bI (i3.2.2+1)))))
 (.fin (.inl (.inr (i3.1,i3.2.1)))))
 (fun (b2:ByteArray × (List Int))=>⟨[(8,sv b2.1),(10,ow 100001 b2.2)],[(100001,cm 3 1 cw b2.2)]⟩) fun b2 =>
 .fin (b2.2,b2.1,true))
def zp s:=(gj s).val
theorem A1 (s:ByteArray) (hP:s.size≤1000000):(gj s).dj (fun (x:(List Int) × ByteArray × Bool)=>GN s.data.toList x):=by
 unfold gj
 refine fun x1 wo _ _ _ _=>⟨fun hc=>?_,fun hc=>?_⟩
 ·refine ⟨fun h=>by simp at h,fun m t hm hi ht=>?_⟩
  rw [GN.head wo hP hm ht] at hc
  cases hc
 have wo:x1=ax s:=wo
 simp only [Bool.or_eq_false_iff,Bool.not_eq_false',decide_eq_false_iff_not] at hc
 obtain ⟨⟨c1,c2⟩,c3⟩:=hc
 have hb:=oG (s:=s) (wo ▸ c1)
 rw [← wo] at hb
 have e1:s.data.toList.length=s.size:=(Lib.size_eq s).symm
 have e2:x1.2.1.data.toList.length=x1.2.1.size:=(Lib.size_eq x1.2.1).symm
 refine fun _ _ _=>⟨⟨⟨Int.le_refl 0,rfl,by show (0:Int)≤x1.1; omega,rfl,fun n hn=>by cases hn⟩,fun i hI=>⟨fun cI=>?_,fun Az=>?_⟩⟩,fun b _ hE=>?_⟩
 ·have cI:i.2.2 < x1.1:=by simpa using cI
  refine fun x4 PZ _=>⟨fun hy=>?_,fun hy _ _ _=>hI.next hP wo c1 cI PZ (by simpa using hy)⟩
  refine ⟨fun h=>by simp at h,fun m t hm hi ht=>?_⟩
  have:=hI.goes wo c1 cI hm hi ht
  have PZ:x4=ax i.1:=PZ
  rw [PZ,this] at hy
  cases hy
 ·have Az:¬ i.2.2 < x1.1:=by simpa using Az
  obtain ⟨a1,a2,a3,a4,a5⟩:=hI
  exact ⟨by show ((i.2.1.length:Nat):Int)=x1.1; omega,a4,a5⟩
 ·obtain ⟨a1,a2,a3⟩:=hE
  refine ⟨fun _=>⟨?_,?_,a3⟩,fun _ _ _ _ _=>rfl⟩
  ·show s.data.toList=iU b.2++b.1.data.toList
   rw [hb.1,a2,← a1]
   simp [iU]
  ·show b.2.length≤1000000
   have h3:=congrArg List.length hb.1
   have h4:=congrArg List.length a2
   have h5:=oB b.2
   simp only [List.length_append] at h3 h4
   omega
theorem zq (s:ByteArray):(fun (x:(List Int) × ByteArray × Bool)=>(s.size≤1000000)→(GN s.data.toList x)) (zp s):=fun hP=>have h:=Sk.cN _ (A1 s hP); h
theorem Ct (s:ByteArray) (hs:s.size≤1000000):(gj s).bO (fun _=>True):=by
 unfold gj
 refine ⟨hs,fun x1 wo _=>⟨fun _=>(show (2:Int)≠0 by decide),fun _ _ _=>⟨fun _=>trivial,fun hc=>?_⟩⟩⟩
 have wo:x1=ax s:=wo
 simp only [Bool.or_eq_false_iff,Bool.not_eq_false',decide_eq_false_iff_not] at hc
 obtain ⟨⟨c1,c2⟩,c3⟩:=hc
 have hb:=(oG (s:=s) (wo ▸ c1)).1
 rw [← wo] at hb
 have e1:s.data.toList.length=s.size:=(Lib.size_eq s).symm
 have e2:x1.2.1.data.toList.length=x1.2.1.size:=(Lib.size_eq x1.2.1).symm
 have e3:=congrArg List.length hb
 simp only [List.length_append] at e3
 have hd:(((x1.2.1.size:Nat):Int).tdiv 2)=((x1.2.1.size / 2:Nat):Int):=rfl
 have hw:bI (((x1.2.1.size:Nat):Int).tdiv 2)=((x1.2.1.size / 2:Nat):Int):=by rw [hd]; exact aD (by omega) (by omega)
 rw [hw] at c3
 have hmk:V6 x1.1 8:=by simp only [V6,maxLen]; omega
 refine ⟨⟨trivial,hmk⟩,fun _ _ _=>⟨⟨⟨Int.le_refl 0,rfl,by show (0:Int)≤x1.1; omega,rfl,fun n hn=>by cases hn⟩,fun i hI=>⟨fun cI=>?_,fun Az=>?_⟩⟩,fun b _ _=>trivial⟩⟩
 ·have cI:i.2.2 < x1.1:=by simpa using cI
  have hz:=hI.size hs wo c1
  refine ⟨hz.1,fun x4 PZ _=>⟨fun _=>trivial,fun hy=>⟨⟨trivial,trivial,trivial,?_⟩,fun _ _ _=>hI.next hs wo c1 cI PZ (by simpa using hy)⟩⟩⟩
  show jH i.2.1.length [x4.1].length 8
  have:=hz.2
  simp only [jH,maxLen,List.length_cons,List.length_nil]
  omega
 ·have Az:¬ i.2.2 < x1.1:=by simpa using Az
  obtain ⟨a1,a2,a3,a4,a5⟩:=hI
  exact ⟨by show ((i.2.1.length:Nat):Int)=x1.1; omega,a4,a5⟩
def vB s:=kk tok mixed Tryz.func44 [sv s,.fn 45 []] (fun x=>.il [lv cw x.1,sv x.2.1,bv x.2.2]) false (gj s) (zp s) (Ct s) (fun (x:(List Int) × ByteArray × Bool)=>(s.size≤1000000)→(GN s.data.toList x)) (zq s)
def fI (s:ByteArray):Sk ((List Int) × ByteArray × Bool) :=
 .r 1 ((vB s).c) fun x1 =>
 .fin (x1.1,x1.2.1,x1.2.2)
def az s:=(fI s).val
theorem zr (s:ByteArray) (hP:s.size≤1000000):(fI s).dj (fun (x:(List Int) × ByteArray × Bool)=>GN s.data.toList x):=by
 unfold fI
 exact fun x1 hx hp=>hp hP
theorem lH (s:ByteArray):(fun (x:(List Int) × ByteArray × Bool)=>(s.size≤1000000)→(GN s.data.toList x)) (az s):=fun hP=>have h:=Sk.cN _ (zr s hP); h
theorem A2 (s:ByteArray) (hs:s.size≤1000000):(fI s).bO (fun _=>True):=by
 unfold fI
 try simp only [vB]
 exact sH
def uM s:=kk tok mixed Tryz.func12 [sv s] (fun x=>.il [lv cw x.1,sv x.2.1,bv x.2.2]) false (fI s) (az s) (A2 s) (fun (x:(List Int) × ByteArray × Bool)=>(s.size≤1000000)→(GN s.data.toList x)) (lH s)
def jI (s:ByteArray):Sk (ae × Bool):=let uW:=({ at_:=0,sum:=0 }:bB); let l8:=({ kind:=0,at_:=0,n:=0 }:Fact); let eX:=({ kind:=0,n:=0,unit:=0 }:fc); let lU:=({ cD:=0,cL:=0,cE:=0,sum:=0,bh:=0,bp:=eX,day:=0,bn:=0,tE:=0,need:=0,iR:=0,flags:=0,parts:=0 }:dV); let dm:=({ kind:=0,fu:=0,cH:=0,part:=0,at_:=0,sum:=0,day:=0,bn:=0,form:=0 }:cd); let bF:=({ kind:=0,part:=0,fu:=0,for_:=0,cH:=0,sum:=0,day:=0,bn:=0,flags:=0 }:Sign); let yI:=({ kind:=0,bill:=0,index:=0,aw:=lU,sign:=bF,act:=dm,alter:=uW,fact:=l8 }:Body); let yH:=(({ reporter:=0,no:=0,day:=0,body:=yI }:ae),false);
 .r 1 ((uM s).c) fun x1=>let Jv:=((x1.1.length:Nat):Int);
 .br (((!x1.2.2)||(!(x1.2.1.toList == (⟨#[]⟩:ByteArray).toList)))||(decide (Jv < 6)))
 (.fin yH)
 (.r 4 (.ak (.p (cM (3:Int) x1.1.length)) (.ak (.p (cM (4:Int) x1.1.length)) (.ak (.p (cM (5:Int) x1.1.length)) (.ak (.ak (.o [.dU (TQ eJ x1.1 6 (x1.1.length - 6))]) (.pt (0≤(6:Int)∧6≤Jv) (eJ.lens x1.1))) ((nP (x1.1.getD 3 default) (x1.1.getD 4 default) (x1.1.getD 5 default) (dz x1.1 6 (x1.1.length - 6))).c))))) fun x2=>let aC:=({ reporter:=x1.1.getD 0 default,no:=x1.1.getD 1 default,day:=x1.1.getD 2 default,body:=x2.1 }:ae);
 .r 5 (.ak (.p (cM (0:Int) x1.1.length)) (.ak (.p (cM (1:Int) x1.1.length)) (.p (cM (2:Int) x1.1.length)))) fun _ =>
 .r 6 (.wh (!x2.2) false ((dA aC).c)) fun x3 =>
 .br ((!x2.2)||(!x3))
 (.fin yH)
 (.fin (aC,true)))
def bV s:=(jI s).val
theorem E3 (s:ByteArray) (hs:s.size≤1000000):(jI s).bO (fun _=>True):=by
 unfold jI
 try simp only [dA,nP,uM]
 exact sH
def rT s:=kk tok mixed Tryz.func9 [sv s] (fun x=>.il [av x.1.cells,bv x.2]) true (jI s) (bV s) (E3 s)
structure Number where
  reporter:Int
  no:Int
  deriving Inhabited
def Number.cells (c:Number):List D:=[dI c.reporter,dI c.no]
def Number.K:KE Number:=⟨Number.cells,2,fun _=>⟨rfl,rfl⟩⟩
def ae.K:KE ae:=⟨ae.cells,44,fun _=>⟨rfl,rfl⟩⟩
/-- an ab9 NC counts by a day -/
def wA (day:Int) (x:ah):Bool:=(((decide (0≤x.aX)&&decide (x.aX < 3))&&decide (x.day≤day))&&decide (x.day≥x.report.day))&&au x.report
def lI (day:Int) (m:List (ae × Int)) (x:ah):List (ae × Int):=bif wA day x then eM ae.K m x.report (V5 .i64 (gw ae.K m x.report (0:Int)) (Q4 .i64 1 x.aX)) else m
/-- Hz yc of each report,as bits -/
def oH (l:List ah) (day:Int):List (ae × Int):=l.foldl (lI day) []
/-- at two yc at least -/
def jq (n:Int):Bool:=!((Cp .i64 n (bI (n - 1))) == 0)
/-- how many JB of a list are T2 so far -/
def mW:List (ae × Int)→List Bool→List ae
  | p :: b,true :: g=>p.1 :: mW b g
  | _ :: b,false :: g=>mW b g
  | _,_=>[]
/-- how many of a list have a reporter and a running number -/
def yJ (L:List ae) (a c:Int):Nat:=L.countP fun x=>x.reporter == a&&x.no == c
def xa (L:List ae) (y:List ae):Prop:=y.Perm L
def vC (L:List ae) (m:List (Number × Bool)):Prop:=∀ k,gw Number.K m k false=true↔1≤yJ L k.reporter k.no
def fY (L:List ae) (m:List (Int × Bool)):Prop:=(m.map Prod.fst).Nodup∧(∀ e,e∈m→e.2=true)∧∀ r,r∈m.map Prod.fst↔∃ c,2≤yJ L r c
abbrev Rf (b:List (ae × Int)) (g:List Bool):aZ:=.rx 37 44 (mW b g).length (YO (xa (mW b g)) (vy ae.cells))
abbrev agS (b:List (ae × Int)) (g:List Bool):aZ:=.tx (txQ (vC (mW b g)) List.length (jA Number.K dB))
abbrev Rg (b:List (ae × Int)) (g:List Bool):aZ:=.tx (txQ (fY (mW b g)) List.length (xr dB))
/-- by aew,and Hz running number -/
abbrev numOf (x:ae):Number:={ reporter:=x.reporter,no:=x.no }
theorem Wk {a b:Number}:bZ (Number.cells a) (Number.cells b)=true↔a=b:=by
  constructor
  · intro h
    have h1:=kb (a:=Number.cells a) (b:=Number.cells b) rfl rfl h
    cases a; cases b
    simp [Number.cells,dI] at h1
    simp [h1]
  · rintro rfl
    exact kT rfl
theorem ue {κ α:Type} (K:KE κ) (hK:∀ a b:κ,bZ (K.C a) (K.C b)=true↔a=b) (k:κ) (v:α) (q:κ) (hd:Decidable (q=k)):∀ (m:List (κ × α)),cV K (eM K m k v) q=if q=k then some v else cV K m q
  | []=>by
    simp only [eM,cV]
    by_cases h:q=k
    · subst h; simp [(hK q q).2 rfl]
    · have:bZ (K.C q) (K.C k)=false:=by
        cases e:bZ (K.C q) (K.C k) with
        | true=>exact absurd ((hK q k).1 e) h
        | false=>rfl
      simp [h,this]
  | p :: r=>by
    have ih:=ue K hK k v q hd r
    simp only [eM]
    cases hk:bZ (K.C k) (K.C p.1) with
    | true =>
      have e:=(hK _ _).1 hk
      simp only [cond_true,cV]
      by_cases h:q=k
      · subst h; simp [hk]
      · have:bZ (K.C q) (K.C p.1)=false:=by
          cases e2:bZ (K.C q) (K.C p.1) with
          | true=>exact absurd (((hK _ _).1 e2).trans e.symm) h
          | false=>rfl
        simp [this,h]
    | false =>
      simp only [cond_false,cV]
      cases hq:bZ (K.C q) (K.C p.1) with
      | true =>
        have e:=(hK _ _).1 hq
        have h:q≠k:=fun h=>by
          rw [h] at hq
          rw [hq] at hk
          cases hk
        simp [h]
      | false=>simp only [cond_false]; exact ih
theorem Me {κ α:Type} (K:KE κ) (k:κ) (v:α):∀ (m:List (κ × α)),(eM K m k v).length≤m.length+1
  | []=>by simp [eM]
  | p :: r=>by
    have:=Me K k v r
    simp only [eM]
    cases bZ (K.C k) (K.C p.1) <;> simp only [cond_true,cond_false,List.length_cons] <;> omega
theorem yd (day:Int) (m:List (ae × Int)) (x:ah):(lI day m x).length≤m.length+1:=by
  unfold lI
  cases wA day x with
  | true=>exact Me _ _ _ _
  | false=>simp only [cond_false]; omega
theorem gy {α:Type} [Inhabited α] {l:List α} {n:Nat} (h:n < l.length):l.take (n+1)=l.take n++[l.getD n default]:=by
  rw [List.take_add_one]
  simp [List.getD,h]
theorem ye (l:List ah) (day:Int) {n:Nat} (h:n < l.length):oH (l.take (n+1)) day=lI day (oH (l.take n) day) (l.getD n default):=by
  unfold oH
  rw [gy h,List.foldl_append]
  rfl
theorem P0:∀ (b:List (ae × Int)) (g:List Bool) (i:Nat),g.length=b.length→i < b.length→g.getD i false=false→(mW b (g.set i true)).Perm (mW b g++[(b.getD i default).1])
  | [],_,i,_,h,_=>absurd h (by simp)
  | p :: b,[],i,hl,_,_=>by simp at hl
  | p :: b,x :: g,0,hl,_,hx=>by
    have hx:x=false:=by simpa using hx
    subst hx
    show (p.1 :: mW b g).Perm (mW b g++[p.1])
    exact (List.perm_append_singleton p.1 (mW b g)).symm
  | p :: b,x :: g,i+1,hl,hi,hx=>by
    have ih:=P0 b g i (by simpa using hl) (by simpa using hi) (by simpa using hx)
    cases x with
    | true =>
      show (p.1 :: mW b (g.set i true)).Perm (p.1 :: (mW b g++[(b.getD i default).1]))
      exact ih.cons _
    | false=>exact ih
theorem JC:∀ (b:List (ae × Int)) (g:List Bool),(mW b g).length≤b.length
  | [],_=>by simp [mW]
  | p :: b,[]=>by simp [mW]
  | p :: b,true :: g=>by have:=JC b g; simp only [mW,List.length_cons]; omega
  | p :: b,false :: g=>by have:=JC b g; simp only [mW,List.length_cons]; omega
theorem zt:∀ (b:List (ae × Int)),mW b (List.replicate b.length false)=[]
  | []=>rfl
  | p :: b=>zt b
theorem qp (L:List ae) (x:ae) (a c:Int):yJ (L++[x]) a c=yJ L a c+bif x.reporter == a&&x.no == c then 1 else 0:=by
  unfold yJ
  rw [List.countP_append]
  cases h:(x.reporter == a&&x.no == c) <;> simp [List.countP_cons,h]
theorem xa.snoc {L L' y:List ae} {x:ae} (h:xa L y) (hL:L'.Perm (L++[x])):xa L' (y++[x]):=(h.append_right [x]).trans hL.symm
theorem qt {L L':List ae} (h:L'.Perm L) (a c:Int):yJ L' a c=yJ L a c:=h.countP_eq _
theorem vC.snoc {L L':List ae} {x:ae} {m:List (Number × Bool)} (h:vC L m) (hL:L'.Perm (L++[x])):vC L' (eM Number.K m (numOf x) true):=by
  intro k
  rw [qt hL,qp]
  have hd:Decidable (k=numOf x):=Classical.propDecidable _
  unfold gw
  rw [ue Number.K (fun _ _=>Wk) _ _ _ hd]
  by_cases hk:k=numOf x
  · subst hk
    simp
  · have hb:(x.reporter == k.reporter&&x.no == k.no)=false:=by
      cases e:(x.reporter == k.reporter&&x.no == k.no) with
      | false=>rfl
      | true =>
        simp only [Bool.and_eq_true,beq_iff_eq] at e
        exact absurd (by cases k; simp only [numOf] at e ⊢; rw [e.1,e.2]) hk
    rw [if_neg hk,hb]
    exact h k
theorem A3 {α:Type} (k:Int) (v:α):∀ (m:List (Int × α)),(wX m k v).map Prod.fst=if k∈m.map Prod.fst then m.map Prod.fst else m.map Prod.fst++[k]
  | []=>rfl
  | p :: r=>by
    have ih:=A3 k v r
    simp only [wX]
    by_cases h:k=p.1
    · subst h; simp
    · have h1:(k == p.1)=false:=by simpa using h
      simp only [h1,cond_false,List.map_cons,ih,List.mem_cons,h,false_or]
      split <;> rfl
theorem H5 (k:Int):∀ (m:List (Int × Bool)),(∀ e,e∈m→e.2=true)→∀ e,e∈wX m k true→e.2=true
  | [],_,e,he=>by simp [wX] at he; rw [he]
  | p :: r,h,e,he=>by
    have ih:=H5 k r (fun e he=>h e (List.mem_cons_of_mem _ he))
    simp only [wX] at he
    cases hk:(k == p.1) with
    | true =>
      rw [hk] at he
      simp only [cond_true,List.mem_cons] at he
      rcases he with rfl | he
      · rfl
      · exact h e (List.mem_cons_of_mem _ he)
    | false =>
      rw [hk] at he
      simp only [cond_false,List.mem_cons] at he
      rcases he with rfl | he
      · exact h _ List.mem_cons_self
      · exact ih e he
theorem fY.same {L L':List ae} {x:ae} {m:List (Int × Bool)} (h:fY L m) (hL:L'.Perm (L++[x])) (h0:yJ L x.reporter x.no=0):fY L' m:=by
  obtain ⟨h1,h2,h3⟩:=h
  refine ⟨h1,h2,fun r=>?_⟩
  rw [h3]
  refine exists_congr fun c=>?_
  rw [qt hL,qp]
  cases e:(x.reporter == r&&x.no == c) with
  | false=>simp
  | true =>
    simp only [Bool.and_eq_true,beq_iff_eq] at e
    rw [← e.1,← e.2,h0]
    simp
theorem fY.more {L L':List ae} {x:ae} {m:List (Int × Bool)} (h:fY L m) (hL:L'.Perm (L++[x])) (h0:1≤yJ L x.reporter x.no):fY L' (wX m x.reporter true):=by
  obtain ⟨h1,h2,h3⟩:=h
  refine ⟨?_,H5 _ _ h2,fun r=>?_⟩
  · rw [A3]
    split
    · exact h1
    · rename_i hn
      exact List.nodup_append.2 ⟨h1,by simp,fun a ha b hb=>by
        have:b=x.reporter:=by simpa using hb
        subst this
        exact fun e=>hn (e ▸ ha)⟩
  · have e1:r∈(wX m x.reporter true).map Prod.fst↔(r∈m.map Prod.fst∨r=x.reporter):=by
      rw [A3]
      split
      · rename_i hm
        exact ⟨.inl,fun h=>h.elim id (fun e=>e ▸ hm)⟩
      · simp [or_comm]
    rw [e1,h3]
    constructor
    · rintro (⟨c,hc⟩ | rfl)
      · exact ⟨c,by rw [qt hL,qp]; omega⟩
      · exact ⟨x.no,by rw [qt hL,qp]; simp; omega⟩
    · rintro ⟨c,hc⟩
      rw [qt hL,qp] at hc
      cases e:(x.reporter == r&&x.no == c) with
      | false=>rw [e] at hc; exact .inl ⟨c,by simpa using hc⟩
      | true =>
        simp only [Bool.and_eq_true,beq_iff_eq] at e
        exact .inr e.1.symm
theorem vD {α:Type} (c:Bool) (x:α):(bif c then x else x)=x:=by cases c <;> rfl
theorem E4:∀ (L:List ae),∃ m,vC L m
  | []=>⟨[],fun k=>by simp [gw,cV,yJ]⟩
  | x :: L=>by
    obtain ⟨m,hm⟩:=E4 L
    exact ⟨_,hm.snoc (List.perm_append_singleton x L).symm⟩
theorem qu:∀ (L:List ae),∃ m,fY L m
  | []=>⟨[],by simp,by simp,fun k=>by simp [yJ]⟩
  | x :: L=>by
    obtain ⟨m,hm⟩:=qu L
    by_cases h:yJ L x.reporter x.no=0
    · exact ⟨_,hm.same (List.perm_append_singleton x L).symm h⟩
    · exact ⟨_,hm.more (List.perm_append_singleton x L).symm (by omega)⟩
def uf (b1:List (ae × Int)) (g7:List Bool) (i8:Nat):Sk (List Bool) :=
 .Gr <|
 .r 13 (.p (i8 < b1.length)) fun _ =>
 .br ((Cp .i64 ((b1.getD i8 default).2) (bI (((b1.getD i8 default).2) - 1))) == 0)
 (.fin g7)
 (.Ny 100002 (xa (mW b1 g7)) (vy ae.cells) [] fun y =>
 .wr 100002 (mW b1 g7).length y.length <|
 .ot 55 (vC (mW b1 g7)) List.length (jA Number.K dB) [] fun sm =>
 .ot 56 (fY (mW b1 g7)) List.length (xr dB) [] fun lm =>
 .r 16 (.ak (.t (xu Number.K dB sm)) (.o [.cast 76 (abk Number.K dB sm (numOf (b1.getD i8 default).1) false)])) fun _ =>
 .br (gw Number.K sm (numOf (b1.getD i8 default).1) false)
 (.r 17 (.ak (.t (XB dB lm)) (.o [.xQ (acX dB lm (((b1.getD i8 default).1).reporter) true)])) fun _ =>
 .r 18 (.ak (.t (xu Number.K dB sm)) (.o [.xQ (Wa Number.K dB sm (numOf (b1.getD i8 default).1) true)])) fun _ =>
 .r 19 (.ak (.o [.dU (dw ae.E [(b1.getD i8 default).1])]) (.ak (.o [.dU (fo ae.E y [(b1.getD i8 default).1])]) (.ak (.t (ae.E.jz [(b1.getD i8 default).1])) (.p (jH y.length [(b1.getD i8 default).1].length 352))))) fun _ =>
 .wr 85 (y++[(b1.getD i8 default).1]).length (mW b1 (g7.set i8 true)).length <|
 .cr 85 (mW b1 (g7.set i8 true)).length (xa (mW b1 (g7.set i8 true))) (vy ae.cells) (y++[(b1.getD i8 default).1]) <|
 .ct 55 (vC (mW b1 (g7.set i8 true))) List.length (jA Number.K dB) (eM Number.K sm (numOf (b1.getD i8 default).1) true) <|
 .ct 56 (fY (mW b1 (g7.set i8 true))) List.length (xr dB) (wX lm (((b1.getD i8 default).1).reporter) true) <|
 .fin (g7.set i8 true))
 (.r 18 (.ak (.t (xu Number.K dB sm)) (.o [.xQ (Wa Number.K dB sm (numOf (b1.getD i8 default).1) true)])) fun _ =>
 .r 19 (.ak (.o [.dU (dw ae.E [(b1.getD i8 default).1])]) (.ak (.o [.dU (fo ae.E y [(b1.getD i8 default).1])]) (.ak (.t (ae.E.jz [(b1.getD i8 default).1])) (.p (jH y.length [(b1.getD i8 default).1].length 352))))) fun _ =>
 .wr 85 (y++[(b1.getD i8 default).1]).length (mW b1 (g7.set i8 true)).length <|
 .cr 85 (mW b1 (g7.set i8 true)).length (xa (mW b1 (g7.set i8 true))) (vy ae.cells) (y++[(b1.getD i8 default).1]) <|
 .ct 55 (vC (mW b1 (g7.set i8 true))) List.length (jA Number.K dB) (eM Number.K sm (numOf (b1.getD i8 default).1) true) <|
 .ct 56 (fY (mW b1 (g7.set i8 true))) List.length (xr dB) lm <|
 .fin (g7.set i8 true)))
def fJ (l:List ah) (day:Int):Sk ((List (ae × Int)) × List Bool) :=
 .r 1 (.o [.xQ (mkK ae.K dI)]) fun _ =>
 .bind true (fun b=>b=oH l day∧b.length≤l.length)
 (.loop (default:Sum ((List (ae × Int)) × List Bool) (List (ae × Int))) (fun i2=>i2.1≤l.length∧i2.2=oH (l.take i2.1) day∧i2.2.length≤i2.1) (fun i2=>l.length - i2.1) ((0,([]:List (ae × Int))):Nat × (List (ae × Int)))
 (fun (i2:Nat × (List (ae × Int)))=>⟨[(18,iv ((i2.1:Nat):Int))],[(15,kpM ae.K dI i2.2)]⟩) fun i2=>let aC:=(l.getD i2.1 default); let eX:=(decide ((aC.day)≥((aC.report).day))); let bF:=(gw ae.K i2.2 (aC.report) (0:Int));
 .lt 16 0 i2.1 l.length
 (.r 4 (.p (cM ((i2.1:Nat):Int) l.length)) fun _ =>
 .r 5 (.dep ((dG (aC.aX) 3).c) fun x3=>.wh ((x3&&(decide ((aC.day)≤day)))&&eX) true ((dA (aC.report)).c)) fun p5 =>
 .br (((p5.1&&(decide ((aC.day)≤day)))&&eX)&&p5.2)
 (.r 6 (.ak (.ak (.ak (.t (xu ae.K dI i2.2)) (.o [.cast 47 (abk ae.K dI i2.2 (aC.report) (0:Int))])) (.ak (.p (0≤(aC.aX))) (.ak (.ak (.t (xu ae.K dI i2.2)) (.o [.xQ (adC ae.K dI i2.2 (aC.report) (0:Int))])) (.ak (.t (Wb ae.K dI i2.2 (aC.report) bF)) (.o [.xQ (stK ae.K dI i2.2 (aC.report) bF (V5 .i64 bF (Q4 .i64 1 (aC.aX))))]))))) (.ak (.o [.alt 3 8 47 (adD ae.K dI i2.2 (aC.report) (0:Int))]) (.t (xu ae.K dI (eM ae.K i2.2 (aC.report) bF))))) fun _ =>
 .r 7 .z fun _ =>
 .wi 18 (bI (((i2.1:Nat):Int)+1)) ((i2.1+1:Nat):Int) <|
 .fin (.inr (i2.1+1,eM ae.K i2.2 (aC.report) (V5 .i64 bF (Q4 .i64 1 (aC.aX))))))
 (.nx 7 18 i2.1 (i2.1+1,i2.2)))
 (.fin (.inl (.inr i2.2))))
 (fun (b1:(List (ae × Int)))=>⟨[],[(15,kpM ae.K dI b1)]⟩) fun b1=>let lU:=(List.replicate b1.length false); let dm:=(mW b1 lU);
 .r 8 (.o [.xQ (mkK Number.K dB)]) fun _ =>
 .r 9 (.o [.xQ (mkM dB)]) fun _ =>
 .r 10 .z fun _ =>
 .nr 11 100002 37 44 (vy ae.cells []) <|
 .wr 100002 0 dm.length <|
 .cr 100002 dm.length (xa dm) (vy ae.cells) [] <|
 .ct 55 (vC dm) List.length (jA Number.K dB) [] <|
 .ct 56 (fY dm) List.length (xr dB) [] <|
 .bt
 (.mr b1.length (fun s g=>g.length=b1.length∧∀ j,j < b1.length→g.getD j false=(decide (j∈s)&&jq (b1.getD j default).2)) lU
 (fun g7 s9=>⟨[(11,.own 100002 (mW b1 g7).length)],[(100002,Rf b1 g7),(55,agS b1 g7),(56,Rg b1 g7),(58,.it 15 b1.length s9)]⟩)
 (fun g10=>⟨[(11,.own 100002 (mW b1 g10).length)],[(100002,Rf b1 g10),(55,agS b1 g10),(56,Rg b1 g10)]⟩)
 (fun g7 i8 =>
 uf b1 g7 i8) fun g10 =>
 .Gs <|
 .fin (.inr g10))
 (fun (b6:List Bool)=>⟨[(58,.any),(11,.own 100001 (mW b1 b6).length)],[(100001,Rf b1 b6),(56,Rg b1 b6)]⟩) fun b6 =>
 .fin (b1,b6)
theorem qv (b:List (ae × Int)) (g:List Bool) (i:Nat):(uf b g i).val=bif jq (b.getD i default).2 then g.set i true else g:=by
  have h:(uf b g i).val=bif (Cp .i64 ((b.getD i default).2) (bI (((b.getD i default).2) - 1))) == 0 then g else (bif gw Number.K (cT (vC (mW b g)) []) (numOf (b.getD i default).1) false then g.set i true else g.set i true):=rfl
  rw [h,vD]
  unfold jq
  cases ((Cp .i64 ((b.getD i default).2) (bI (((b.getD i default).2) - 1))) == 0) <;> rfl
theorem yf (b:List (ae × Int)) (g:List Bool) (i:Nat) (L:List Bool→Prop) (hL:L (bif jq (b.getD i default).2 then g.set i true else g)) (h1:∃ y,xa (mW b g) y) (h2:∃ y,vC (mW b g) y) (h3:∃ y,fY (mW b g) y):(uf b g i).dj L:=by
  unfold jq at hL
  unfold uf
  refine fun _ _ _=>⟨fun hb=>?_,fun hb=>?_⟩
  · rw [hb] at hL
    exact hL
  · rw [hb] at hL
    exact ⟨h1,fun y hy=>⟨h2,fun sm hs=>⟨h3,fun lm hl _ _ _=>⟨fun hk _ _ _ _ _ _ _ _ _=>hL,fun hk _ _ _ _ _ _=>hL⟩⟩⟩⟩
theorem OA (b:List (ae × Int)) (g:List Bool) (i:Nat) (hb:b.length≤1200) (hg:g.length=b.length) (hi:i < b.length) (Xh:g.getD i false=false):(uf b g i).bO fun _=>True:=by
  have hp:=P0 b g i hg hi Xh
  have hlen:∀ y,xa (mW b g) y→(mW b g).length=y.length:=fun y hy=>hy.length_eq.symm
  have XF:∀ y,xa (mW b g) y→(y++[(b.getD i default).1]).length=(mW b (g.set i true)).length:=fun y hy=>(hy.snoc hp).length_eq
  have dK:∀ y,xa (mW b g) y→jH y.length [(b.getD i default).1].length 352:=fun y hy=>by
    have h1:=JC b g
    have h2:=hlen y hy
    simp only [jH,maxLen,List.length_cons,List.length_nil]
    omega
  unfold uf
  refine ⟨hi,fun _ _ _=>⟨fun _=>trivial,fun _=>fun y hy=>⟨?_,hlen y hy,fun sm hs=>⟨?_,fun lm hl=>⟨?_,⟨⟨trivial,trivial⟩,fun _ _ _=>⟨fun hk=>?_,fun hk=>?_⟩⟩⟩⟩⟩⟩⟩
  · exact (vD _ _).trans (vD _ _).symm
  · exact (vD _ _).trans (vD _ _).symm
  · rfl
  · have h1:=(hs (numOf (b.getD i default).1)).1 hk
    exact ⟨⟨trivial,trivial⟩,fun _ _ _=>⟨⟨trivial,trivial⟩,fun _ _ _=>⟨⟨trivial,trivial,trivial,dK y hy⟩,fun _ _ _=>⟨XF y hy,hy.snoc hp,hs.snoc hp,hl.more hp h1,trivial⟩⟩⟩⟩
  · have h1:yJ (mW b g) (b.getD i default).1.reporter (b.getD i default).1.no=0:=by
      have h2:=hs (numOf (b.getD i default).1)
      rw [hk] at h2
      simp only [Bool.false_eq_true,false_iff] at h2
      have h3:¬ 1≤yJ (mW b g) (b.getD i default).1.reporter (b.getD i default).1.no:=h2
      omega
    exact ⟨⟨trivial,trivial⟩,fun _ _ _=>⟨⟨trivial,trivial,trivial,dK y hy⟩,fun _ _ _=>⟨XF y hy,hy.snoc hp,hs.snoc hp,hl.same hp h1,trivial⟩⟩⟩
theorem E5 {b:List (ae × Int)} {s:List Nat} {g:List Bool} {i:Nat} (hi:i < b.length) (h:g.length=b.length∧∀ j,j < b.length→g.getD j false=(decide (j∈s)&&jq (b.getD j default).2)) :
    (bif jq (b.getD i default).2 then g.set i true else g).length=b.length∧∀ j,j < b.length→(bif jq (b.getD i default).2 then g.set i true else g).getD j false=(decide (j∈i :: s)&&jq (b.getD j default).2):=by
  refine ⟨?_,fun j hj=>?_⟩
  · cases jq (b.getD i default).2 <;> simp [h.1]
  · have h2:=h.2 j hj
    by_cases e:j=i
    · subst e
      cases ha:jq (b.getD j default).2 with
      | true=>simp [List.getD,h.1,hj]
      | false=>simp only [cond_false]; rw [h2,ha]; simp
    · cases ha:jq (b.getD i default).2 with
      | true =>
        simp only [cond_true]
        rw [show (g.set i true).getD j false=g.getD j false by simp [List.getD,List.getElem?_set_ne (fun e'=>e e'.symm)],h2]
        simp [e]
      | false =>
        simp only [cond_false]
        rw [h2]
        simp [e]
theorem Wl {b:List (ae × Int)} {s:List Nat} {g:List Bool} {i:Nat} (hi:i < b.length) (hn:i ∉ s) (h:g.length=b.length∧∀ j,j < b.length→g.getD j false=(decide (j∈s)&&jq (b.getD j default).2)):g.getD i false=false:=by
  rw [h.2 i hi]
  simp [hn]
theorem E6 (b:List (ae × Int)):(List.replicate b.length false).length=b.length∧∀ j,j < b.length→(List.replicate b.length false).getD j false=(decide (j∈([]:List Nat))&&jq (b.getD j default).2):=by
  refine ⟨by simp,fun j hj=>by simp [List.getD,hj]⟩
theorem JD (day:Int) (x:ah):((((aO x.aX 3)&&(decide (x.day≤day)))&&(decide (x.day≥x.report.day)))&&au x.report)=wA day x:=by
  unfold wA
  rw [nm]
theorem A4 (l:List ah) (day:Int) (hl:l.length≤1200):(fJ l day).bO (fun _=>True):=by
  unfold fJ
  refine ⟨trivial,fun _ _ _=>⟨⟨⟨Nat.zero_le _,rfl,Nat.le_refl _⟩,fun i2 hI=>?_⟩,fun b1 _ Ck=>?_⟩⟩
  · obtain ⟨h1,h2,h3⟩:=hI
    refine fun _=>⟨fun cI=>?_,fun Az=>?_⟩
    · have cI:i2.1 < l.length:=by simpa using cI
      have hs:=ye l day cI
      rw [← h2] at hs
      have hw:bI ((i2.1:Int)+1)=((i2.1+1:Nat):Int):=(aD (by omega) (by omega)).trans (by omega)
      have Gq:=yd day i2.2 (l.getD i2.1 default)
      rw [← hs] at Gq
      have Mf:∀ m,lI day i2.2 (l.getD i2.1 default)=m→(i2.1+1≤l.length∧m=oH (l.take (i2.1+1)) day∧m.length≤i2.1+1)∧l.length - (i2.1+1) < l.length - i2.1:=fun m e=>by
        rw [← e,← hs]
        exact ⟨⟨by omega,rfl,by omega⟩,by omega⟩
      refine ⟨(show (0:Int)≤(i2.1:Int)∧(i2.1:Int) < (l.length:Int) from ⟨by omega,by omega⟩),fun _ _ _=>⟨⟨trivial,fun x hx _ hc=>trivial⟩,fun p5 hp _=>⟨fun hc=>?_,fun hc=>?_⟩⟩⟩
      · have R7:wA day (l.getD i2.1 default)=true:=by rw [← JD,← hc,hp]; rfl
        refine ⟨⟨⟨⟨trivial,trivial⟩,?_,⟨trivial,trivial⟩,trivial,trivial⟩,trivial,trivial⟩,fun _ _ _=>⟨trivial,fun _ _ _=>⟨hw,Mf _ ?_⟩⟩⟩
        · unfold wA at R7
          simp only [Bool.and_eq_true,decide_eq_true_eq] at R7
          exact R7.1.1.1.1
        · unfold lI
          rw [R7]
          rfl
      · have R7:wA day (l.getD i2.1 default)=false:=by rw [← JD,← hc,hp]; rfl
        refine ⟨trivial,fun _ _ _=>⟨hw,Mf _ ?_⟩⟩
        unfold lI
        rw [R7]
        rfl
    · have Az:¬ i2.1 < l.length:=by simpa using Az
      have e:i2.1=l.length:=by omega
      rw [e,List.take_length] at h2
      exact ⟨h2,by omega⟩
  · obtain ⟨tD,uI⟩:=Ck
    have U5:b1.length≤1200:=by omega
    have hex:=fun g=>yf b1 g
    refine ⟨trivial,fun _ _ _=>⟨trivial,fun _ _ _=>⟨trivial,fun _ _ _=>?_⟩⟩⟩
    refine ⟨by rw [zt]; rfl,?_,?_,?_,⟨⟨E6 b1,fun s g i hV hi hn=>⟨?_,?_⟩,fun s g i j hV hi hj gN Xc hnj=>?_,fun g hg hV=>trivial⟩,fun _ _ _=>trivial⟩⟩
    · show ([]:List ae).Perm _
      rw [zt]
    · rw [zt]
      intro k
      simp [gw,cV,yJ]
    · rw [zt]
      exact ⟨by simp,by simp,fun k=>by simp [yJ]⟩
    · exact yf b1 g i _ (E5 hi hV) ⟨_,List.Perm.refl _⟩ (E4 _) (qu _)
    · exact OA b1 g i U5 hV.1 hi (Wl hi hn hV)
    · rw [qv,qv,qv,qv]
      cases jq (b1.getD i default).2 <;> cases jq (b1.getD j default).2 <;> simp only [cond_true,cond_false]
      exact List.set_comm _ _ (fun e=>gN e.symm)
def dE l day:=(fJ l day).val
theorem A5 (l:List ah) (day:Int) (hl:l.length≤1200):kE Tryz.prog 52 [lv ah.cells l,iv day] [] (.il [.own 777777 (mW (dE l day).1 (dE l day).2).length,.kD 777778]) [(777777,Rf (dE l day).1 (dE l day).2),(777778,Rg (dE l day).1 (dE l day).2)] :=
  kE.sk tok mixed (fun x=>.il [.own 777777 (mW x.1 x.2).length,.kD 777778]) (fun x=>[(777777,Rf x.1 x.2),(777778,Rg x.1 x.2)]) Tryz.func52 rfl (by kernel_rfl) 3000 (fJ l day) (by kernel_rfl) (A4 l day hl)
theorem zu (l:List ah) (day:Int):(fJ l day).dj (fun x=>x.1=oH l day∧x.2.length=x.1.length∧∀ j,j < x.1.length→x.2.getD j false=jq (x.1.getD j default).2):=by
  unfold fJ
  refine fun _ _ _=>⟨⟨⟨Nat.zero_le _,rfl,Nat.le_refl _⟩,fun i2 hI=>?_⟩,fun b1 _ Ck=>?_⟩
  · obtain ⟨h1,h2,h3⟩:=hI
    refine ⟨fun cI=>?_,fun Az=>?_⟩
    · have cI:i2.1 < l.length:=by simpa using cI
      have hs:=ye l day cI
      rw [← h2] at hs
      have Gq:=yd day i2.2 (l.getD i2.1 default)
      rw [← hs] at Gq
      have Mf:∀ m,lI day i2.2 (l.getD i2.1 default)=m→(i2.1+1≤l.length∧m=oH (l.take (i2.1+1)) day∧m.length≤i2.1+1)∧l.length - (i2.1+1) < l.length - i2.1:=fun m e=>by
        rw [← e,← hs]
        exact ⟨⟨by omega,rfl,by omega⟩,by omega⟩
      refine fun _ _ _ p5 hp _=>⟨fun hc=>?_,fun hc=>?_⟩
      · have R7:wA day (l.getD i2.1 default)=true:=by rw [← JD,← hc,hp]; rfl
        refine fun _ _ _ _ _ _=>Mf _ ?_
        unfold lI
        rw [R7]
        rfl
      · have R7:wA day (l.getD i2.1 default)=false:=by rw [← JD,← hc,hp]; rfl
        refine fun _ _ _=>Mf _ ?_
        unfold lI
        rw [R7]
        rfl
    · have Az:¬ i2.1 < l.length:=by simpa using Az
      have e:i2.1=l.length:=by omega
      rw [e,List.take_length] at h2
      exact ⟨h2,by omega⟩
  · obtain ⟨tD,uI⟩:=Ck
    refine fun _ _ _ _ _ _ _ _ _=>⟨⟨E6 b1,fun s g i hV hi hn=>yf b1 g i _ (E5 hi hV) ⟨_,List.Perm.refl _⟩ (E4 _) (qu _),fun g hg hV=>trivial⟩,?_⟩
    intro b6 hb6 _
    refine ⟨tD,?_⟩
    have e:b6=(List.range b1.length).foldr (fun i g=>(uf b1 g i).val) (List.replicate b1.length false):=(Sum.inr.inj hb6).symm
    have hV:=nh (V:=fun s g=>g.length=b1.length∧∀ j,j < b1.length→g.getD j false=(decide (j∈s)&&jq (b1.getD j default).2)) (f:=fun g i=>(uf b1 g i).val) (n:=b1.length) (fun s g i hg hi hn=>by rw [qv]; exact E5 hi hg) (E6 b1) (List.range b1.length) List.nodup_range (fun i hi=>List.mem_range.1 hi)
    rw [← e] at hV
    refine ⟨hV.1,fun j hj=>?_⟩
    rw [hV.2 j hj]
    simp [hj]
/-- aaC at two yc at least -/
def vE (b:List (ae × Int)):List ae:=(b.filter fun p=>jq p.2).map Prod.fst
theorem P1:∀ (b:List (ae × Int)) (g:List Bool),g.length=b.length→(∀ j,j < b.length→g.getD j false=jq (b.getD j default).2)→mW b g=vE b
  | [],g,_,_=>by simp [mW,vE]
  | p :: b,[],h,_=>by simp at h
  | p :: b,x :: g,h,hj=>by
    have ih:=P1 b g (by simpa using h) (fun j h'=>by have:=hj (j+1) (by simpa using h'); simpa using this)
    have h0:x=jq p.2:=by have:=hj 0 (by simp); simpa using this
    subst h0
    cases hb:jq p.2 with
    | true=>simp only [mW,vE,List.filter_cons,hb,if_true,List.map_cons,ih]
    | false=>simp only [mW,vE,List.filter_cons,hb,ih]; rfl
/-- Hz JB NC are T2 by a day -/
def aY (l:List ah) (day:Int):List ae:=vE (oH l day)
theorem Cu (l:List ah) (day:Int):mW (dE l day).1 (dE l day).2=aY l day:=by
  have h:=Sk.cN _ (zu l day)
  obtain ⟨h1,h2,h3⟩:=h
  have e:mW (dE l day).1 (dE l day).2=vE (dE l day).1:=P1 _ _ h2 h3
  rw [e]
  exact congrArg vE h1
def lr (l:List ah) (day:Int):Nat:=(aY l day).length
def fp (l:List ah) (day:Int):List ae→Prop:=xa (aY l day)
def bH (l:List ah) (day:Int):List (Int × Bool)→Prop:=fY (aY l day)
def sJ (l:List ah) (day:Int):gR Unit:=⟨Tryz.prog,52,[lv ah.cells l,iv day],fun _=>.il [.own 777777 (lr l day),.kD 777778],fun _=>[(777777,.rx 37 44 (lr l day) (YO (fp l day) (vy ae.cells))),(777778,.tx (txQ (bH l day) List.length (xr dB)))],(),l.length≤1200,fun h=>by
  have:=A5 l day h
  rw [Rf,Rg,Cu] at this
  exact this,fun _=>True,trivial⟩
theorem Rh (l:List ah) (day:Int):(oH l day).length≤l.length:=by
  have:∀ n,n≤l.length→(oH (l.take n) day).length≤n:=by
    intro n
    induction n with
    | zero=>intro _; simp [oH]
    | succ n ih =>
      intro hn
      have h1:=ih (by omega)
      rw [ye l day (by omega)]
      have h2:=yd day (oH (l.take n) day) (l.getD n default)
      omega
  have h:=this l.length (Nat.le_refl _)
  rwa [List.take_length] at h
theorem rh (l:List ah) (day:Int):(aY l day).length≤l.length:=by
  have h1:=Rh l day
  have h2:=List.length_filter_le (fun p:ae × Int=>jq p.2) (oH l day)
  simp only [aY,vE,List.length_map]
  omega
def iE (x_:ae) (v:List (Int × Bool)):Sk (Bool) :=
 .r 1 (.ak (.t (XB dB v)) (.o [.cast 7 (getM dB v x_.reporter false)])) fun _ =>
 .fin (Jo v x_.reporter false)
def bD x_ v:=(iE x_ v).val
theorem yg (x_:ae) (v:List (Int × Bool)):(iE x_ v).bO (fun _=>True):=by
 unfold iE
 exact DB
def fg x_ v:=kk tok mixed Tryz.func54 [av x_.cells,.ref [mpD dB v]] (fun x=>bv x) true (iE x_ v) (bD x_ v) (u0 (yg x_ v))
def dZ (s:List ae) (v:List (Int × Bool)):Sk (Int) :=
 .bind true (fun b1=>∀ q,q < s.length→bD (s.getD q default) v=false)
 (.loop (default:Sum (Int) (Unit)) (fun i2=>∀ q,q < i2→bD (s.getD q default) v=false) (fun i2=>s.length - i2) (0:Nat)
 (fun (i2:Nat)=>⟨[(8,iv (i2:Int))],[]⟩) fun i2 =>
 .lt 0 0 i2 s.length
 (.r 4 (.ak (.p (cM (i2:Int) s.length)) ((fg (s.getD i2 default) v).c)) fun x3 =>
 .br x3
 (.fin (.inl (.inl (i2:Int))))
 (.nx 6 8 i2 (i2+1)))
 (.fin (.inl (.inr ()))))
 (fun (_:Unit)=>⟨[],[]⟩) fun _ =>
 .fin (-1)
def xb s v:=(dZ s v).val
theorem sK (s:List ae) (v:List (Int × Bool)):(dZ s v).dj (fun (x:Int)=>(x = -1∧∀ q,q < s.length→bD (s.getD q default) v=false)∨(0≤x∧x < s.length∧bD (s.getD x.toNat default) v=true∧∀ q,(q:Nat) < x.toNat→bD (s.getD q default) v=false)):=by
 unfold dZ
 try simp only [fg]
 exact U7
theorem ug (s:List ae) (v:List (Int × Bool)):(dZ s v).bO (fun _=>True):=by
 unfold dZ
 try simp only [fg]
 exact sH
def jl s v:=kp tok mixed Tryz.func89 [lv ae.cells s,.fn 54 [.ref [mpD dB v]]] (fun x=>iv x) true (xb s v) (u0 (ug s v)) (sK s v)
structure A6 {α:Type} [Inhabited α] (del:α→Bool) (s l:List α) (i j:Int):Prop where
 len:l.length=s.length
 i0:0≤i
 ij:i < j
 jn:j≤(s.length:Int)
 kept:l.take i.toNat=(s.take j.toNat).filter fun c=>!del c
 rest:∀ q:Nat,j≤(q:Int)→q < s.length→l.getD q default=s.getD q default
theorem mn {α:Type} [Inhabited α] {l:List α} {n:Nat} (h:n < l.length):l.take (n+1)=l.take n++[l.getD n default]:=by
 rw [List.take_add_one]
 simp [List.getD,h]
theorem filter_all {α:Type} [Inhabited α] {p:α→Bool} {l:List α} {n:Nat} (hn:n≤l.length) (h:∀ q,q < n→p (l.getD q default)=true):(l.take n).filter p=l.take n:=by
 refine List.filter_eq_self.2 (fun x hx=>?_)
 obtain ⟨q,hq,rfl⟩:=List.getElem_of_mem hx
 have Nt:q < n:=by simp at hq; omega
 have:=h q Nt
 rw [show l.getD q default=(l.take n)[q] by simp [List.getD,List.getElem?_eq_getElem (show q < l.length by omega)]] at this
 exact this
theorem A6.init {α:Type} [Inhabited α] {del:α→Bool} {s:List α} {x:Int} (h0:0≤x) (h1:x < (s.length:Int)) (hd:del (s.getD x.toNat default)=true) (hk:∀ q,q < x.toNat→del (s.getD q default)=false):A6 del s s x (x+1):=by
 refine ⟨rfl,h0,by omega,by omega,?_,fun _ _ _=>rfl⟩
 rw [show (x+1).toNat=x.toNat+1 by omega,mn (by omega),List.filter_append,filter_all (by omega) (fun q hq=>by rw [hk q hq]; rfl)]
 simp only [List.filter_cons,hd,Bool.not_true,Bool.false_eq_true,if_false,List.filter_nil,List.append_nil]
theorem A6.fW {α:Type} [Inhabited α] {del:α→Bool} {s l:List α} {i j:Int} (h:A6 del s l i j) (hj:j < (l.length:Int)) (hd:del (l.getD j.toNat default)=false):A6 del s (l.set i.toNat (l.getD j.toNat default)) (i+1) (j+1):=by
 have hl:=h.len
 have h0:=h.i0
 have h1:=h.ij
 have hr:=h.rest j.toNat (by omega) (by omega)
 refine ⟨by simpa using hl,by omega,by omega,by omega,?_,fun q hq XG=>?_⟩
 ·rw [show (i+1).toNat=i.toNat+1 by omega,show (j+1).toNat=j.toNat+1 by omega,mn (by simp; omega),mn (l:=s) (by omega),List.filter_append,← h.kept,List.take_set_of_le (Nat.le_refl _)]
  congr 1
  rw [hr] at hd ⊢
  simp only [List.filter_cons,hd,Bool.not_false,if_true,List.filter_nil]
  simp [List.getD,show i.toNat < l.length by omega]
 ·rw [← h.rest q (by omega) XG]
  simp only [List.getD]
  rw [List.getElem?_set_ne (by omega)]
theorem A6.drop {α:Type} [Inhabited α] {del:α→Bool} {s l:List α} {i j:Int} (h:A6 del s l i j) (hj:j < (l.length:Int)) (hd:del (l.getD j.toNat default)=true):A6 del s l i (j+1):=by
 have hl:=h.len
 have h0:=h.i0
 have h1:=h.ij
 have hr:=h.rest j.toNat (by omega) (by omega)
 refine ⟨hl,by omega,by omega,by omega,?_,fun q hq XG=>h.rest q (by omega) XG⟩
 rw [show (j+1).toNat=j.toNat+1 by omega,mn (l:=s) (by omega),List.filter_append,← h.kept]
 rw [hr] at hd
 simp only [List.filter_cons,hd,Bool.not_true,Bool.false_eq_true,if_false,List.filter_nil,List.append_nil]
def T3 {α:Type} (del:α→Bool) (s l:List α) (i:Int):Prop:=l.length=s.length∧0≤i∧i≤(s.length:Int)∧l.take i.toNat=s.filter fun c=>!del c
theorem A6.done {α:Type} [Inhabited α] {del:α→Bool} {s l:List α} {i j:Int} (h:A6 del s l i j) (hj:¬ j < (l.length:Int)):T3 del s l i:=by
 have hl:=h.len
 have h1:=h.ij
 have h2:=h.jn
 refine ⟨hl,h.i0,by omega,?_⟩
 rw [h.kept,List.take_of_length_le (by omega)]
theorem Ri {α:Type} [Inhabited α] {l:List α} {n:Nat} (h:n≤l.length):dz l 0 n=l.take n:=by
 refine List.ext_getElem (by simp [dz,h]) (fun q h1 h2=>?_)
 have hq:q < l.length:=by simp at h2; omega
 simp [dz,List.getD,hq]
theorem T3.res {α:Type} [Inhabited α] {del:α→Bool} {s l:List α} {i:Int} {z:α} (h:T3 del s l i):dz (EP l i.toNat z) 0 i.toNat=s.filter fun c=>!del c:=by
 have h2:=h.1
 have h3:=h.2.2.1
 rw [← h.2.2.2,Ri (by rw [vw]; omega)]
 simp only [EP]
 rw [List.take_append_of_le_length (by simp; omega),List.take_take,Nat.min_self]
theorem filter_none {α:Type} [Inhabited α] {del:α→Bool} {s:List α} (h:∀ q,q < s.length→del (s.getD q default)=false):s=s.filter fun c=>!del c:=by
 have:=filter_all (p:=fun c=>!del c) (l:=s) (n:=s.length) (Nat.le_refl _) (fun q hq=>by rw [h q hq]; rfl)
 rw [List.take_length] at this
 exact this.symm
def cW (s:List ae) (v:List (Int × Bool)):Sk ((List ae)):=let uW:=({ at_:=0,sum:=0 }:bB); let lU:=({ kind:=0,at_:=0,n:=0 }:Fact); let dm:=({ kind:=0,n:=0,unit:=0 }:fc); let eX:=({ cD:=0,cL:=0,cE:=0,sum:=0,bh:=0,bp:=dm,day:=0,bn:=0,tE:=0,need:=0,iR:=0,flags:=0,parts:=0 }:dV); let bF:=({ kind:=0,fu:=0,cH:=0,part:=0,at_:=0,sum:=0,day:=0,bn:=0,form:=0 }:cd); let aC:=({ kind:=0,part:=0,fu:=0,for_:=0,cH:=0,sum:=0,day:=0,bn:=0,flags:=0 }:Sign); let yI:=({ kind:=0,bill:=0,index:=0,aw:=eX,sign:=aC,act:=bF,alter:=uW,fact:=lU }:Body); let yH:=({ reporter:=0,no:=0,day:=0,body:=yI }:ae);
 .r 1 ((jl s v).c) fun x1 =>
 .br (x1 == (-1))
 (.fin s)
 (.bind true (fun b2=>T3 (fun c_=>bD c_ v) s b2.1 b2.2)
 (.loop (default:Sum ((List ae)) ((List ae) × Int)) (fun i3=>A6 (fun c_=>bD c_ v) s i3.1 i3.2.1 i3.2.2) (fun i3=>((s.length:Int) - i3.2.2).toNat) ((s,x1,bI (x1+1)):(List ae) × Int × Int)
 (fun (i3:(List ae) × Int × Int)=>⟨[(0,ow 100002 i3.1),(5,iv i3.2.1),(6,iv i3.2.2)],[(100002,cm 37 44 ae.cells i3.1)]⟩) fun i3=>let l8:=(i3.1.getD i3.2.2.toNat default);
 .br (decide (i3.2.2 < ((i3.1.length:Nat):Int)))
 (.r 7 (.ak (.p (cM i3.2.2 i3.1.length)) (.p (i3.2.2.toNat < i3.1.length))) fun _ =>
 .r 8 ((fg l8 v).c) fun x4 =>
 .br (!x4)
 (.r 9 (.ak (.p (cM i3.2.1 i3.1.length)) (.ak (.o [.dU (acY ae.E i3.1 i3.2.1.toNat l8)]) (.p (i3.2.1.toNat < i3.1.length)))) fun _ =>
 .wn 100002 i3.1.length (i3.1.set i3.2.1.toNat l8).length <|
 .fin (.inr (i3.1.set i3.2.1.toNat l8,bI (i3.2.1+1),bI (i3.2.2+1))))
 (.fin (.inr (i3.1,i3.2.1,bI (i3.2.2+1)))))
 (.fin (.inl (.inr (i3.1,i3.2.1)))))
 (fun (b2:(List ae) × Int)=>⟨[(0,ow 100001 b2.1),(5,iv b2.2)],[(100001,cm 37 44 ae.cells b2.1)]⟩) fun b2=>let Jv:=(EP b2.1 b2.2.toNat yH);
 .HQ 11 b2.2 (ac0 ae.E b2.1 b2.2.toNat yH [dI 0,dI 0,dI 0,dI 0,dI 0,dI 0,dI 0,dI 0,dI 0,dI 0,dI 0,dI 0,dI 0,dI 0,dI 0,dI 0,dI 0,dI 0,dI 0,dI 0,dI 0,dI 0,dI 0,dI 0,dI 0,dI 0,dI 0,dI 0,dI 0,dI 0,dI 0,dI 0,dI 0,dI 0,dI 0,dI 0,dI 0,dI 0,dI 0,dI 0,dI 0,dI 0,dI 0,dI 0] (by kernel_rfl)) <|
 .r 12 (.ak (.o [.dU (acZ ae.E Jv b2.2.toNat)]) (.p (0≤b2.2∧b2.2≤((Jv.length:Nat):Int)))) fun _ =>
 .fin (dz Jv 0 b2.2.toNat))
def bE s v:=(cW s v).val
theorem rU (s:List ae) (v:List (Int × Bool)) (hP:s.length≤1000000000):(cW s v).dj (fun (x:(List ae))=>x=s.filter fun c_=>!bD c_ v):=by
 refine Sk.bM _ ?_
 unfold cW
 simp only [Sk.eO,Sk.db,reduceCtorEq,ON,kk,kp,fg,jl,maxLen]
 intro x _ hx
 refine ⟨fun hc=>filter_none (del:=(fun c_=>bD c_ v)) (hx.elim (fun h=>h.2) (fun h=>absurd (beq_iff_eq.1 hc) (by omega))),fun hc=>⟨⟨?_,fun i hi=>⟨fun hj _ y hy=>⟨fun hn _=>?_,fun hn=>?_⟩,fun hj=>?_⟩⟩,fun b hb _=>T3.res (del:=(fun c_=>bD c_ v)) hb⟩⟩
 all_goals simp only [LN] at hc
 ·have hx:=hx.resolve_left (fun e=>hc e.1)
  rw [aD (by omega) (by omega)]
  exact A6.init (del:=(fun c_=>bD c_ v)) hx.1 hx.2.1 hx.2.2.1 hx.2.2.2
 all_goals have U0:=hi.len
 all_goals have hj3:=hi.i0
 all_goals have hj4:=hi.ij
 all_goals have hj5:=hi.jn
 all_goals simp only [LN] at hj
 ·rw [aD (n:=i.2.1+1) (by omega) (by omega),aD (n:=i.2.2+1) (by omega) (by omega)]
  exact ⟨hi.fW (by omega) (by subst hy; simpa using hn),by omega⟩
 ·rw [aD (by omega) (by omega)]
  exact ⟨hi.drop (by omega) (by subst hy; simpa using hn),by omega⟩
 ·exact hi.done (by omega)
theorem kG (s:List ae) (v:List (Int × Bool)):(fun (x:(List ae))=>(s.length≤1000000000)→(x=s.filter fun c_=>!bD c_ v)) (bE s v):=fun hP=>have h:=Sk.cN _ (rU s v hP); h
theorem sM (s:List ae) (v:List (Int × Bool)) (hs:s.length≤1000000000):(cW s v).bO (fun _=>True):=by
 refine Sk.bP _ ?_
 unfold cW
 simp only [Sk.oV,Sk.db,reduceCtorEq,ON,kk,kp,fg,jl,maxLen]
 first
  | refine ⟨by (repeat' first | assumption | trivial | apply And.intro),fun x _ hx hc=>⟨⟨?_,fun i hi=>⟨fun hj=>⟨?_,fun _=>⟨by (repeat' first | assumption | trivial | apply And.intro),fun y hy=>⟨fun hn=>⟨?_,fun _=>⟨?_,?_⟩⟩,fun hn=>?_⟩⟩⟩,fun hj=>?_⟩⟩,fun b hb=>?_⟩⟩
  | refine fun x _ hx hc=>⟨⟨?_,fun i hi=>⟨fun hj=>⟨?_,fun _ y hy=>⟨fun hn=>⟨?_,fun _=>⟨?_,?_⟩⟩,fun hn=>?_⟩⟩,fun hj=>?_⟩⟩,fun b hb=>?_⟩
 all_goals simp only [LN] at hc
 ·have hx:=hx.resolve_left (fun e=>hc e.1)
  rw [aD (by omega) (by omega)]
  exact A6.init (del:=(fun c_=>bD c_ v)) hx.1 hx.2.1 hx.2.2.1 hx.2.2.2
 rotate_right 1
 ·have h1:=hb.1
  have h2:=hb.2.1
  have h3:=hb.2.2.1
  refine ⟨⟨h2,?_⟩,h2,by rw [vw]; omega⟩
  show b.2≤((b.1.length:Nat):Int)
  omega
 all_goals have U0:=hi.len
 all_goals have hj3:=hi.i0
 all_goals have hj4:=hi.ij
 all_goals have hj5:=hi.jn
 all_goals simp only [LN] at hj
 ·omega
 ·omega
 ·rw [List.length_set]
 ·rw [aD (n:=i.2.1+1) (by omega) (by omega),aD (n:=i.2.2+1) (by omega) (by omega)]
  exact ⟨hi.fW (by omega) (by subst hy; simpa using hn),by omega⟩
 ·rw [aD (by omega) (by omega)]
  exact ⟨hi.drop (by omega) (by subst hy; simpa using hn),by omega⟩
 ·exact hi.done (by omega)
theorem rV (s:List ae) (v:List (Int × Bool)) (hs:s.length≤1000000000):kE Tryz.prog 53 [ow 777776 s,.fn 54 [.ref [mpD dB v]]] [(777776,cm 37 44 ae.cells s)] (ow 777777 (bE s v)) [(777777,cm 37 44 ae.cells (bE s v))] :=
 kE.sk tok mixed (fun x=>ow 777777 x) (fun x=>[(777777,cm 37 44 ae.cells x)]) Tryz.func53 rfl (by kernel_rfl) 3000 (cW s v) (by kernel_rfl) (sM s v hs)
def sN (κ κ':Nat) (s:List ae) (v:List (Int × Bool)):Jq ((List ae)):=⟨Tryz.prog,53,[ow κ s,.fn 54 [.ref [mpD dB v]]],[(κ,cm 37 44 ae.cells s)],fun x=>ow κ' x,fun x=>[(κ',cm 37 44 ae.cells x)],bE s v,(s.length≤1000000000),fun h=>kE.Y1 κ rfl (kE.Y0 κ' (rV s v h)),fun (x:(List ae))=>(s.length≤1000000000)→(x=s.filter fun c_=>!bD c_ v),kG s v⟩
section
open Go Go.Av Go.Shelf Go.RowKit
def Tryz.JE:Go.Shelf.Ren:=⟨fun | 106=>57 | 213=>92 | 265=>138 | n=>n,fun | 9=>9 | 3=>3 | n=>n,fun | n=>n⟩
theorem Tryz.T4:Go.Proofs.Lays.n106 Tryz.prog Tryz.JE:={
 mixed:=by kernel_rfl
 f106:=Tryz.func57.trans (congrArg some (by kernel_rfl))
 f213:=Tryz.func92.trans (congrArg some (by kernel_rfl))
 f265:=Tryz.func138.trans (congrArg some (by kernel_rfl))
 t3:=Tryz.underlying3
 a3:=Tryz.isAgg3
 z3:=Tryz.sizeOf3
 v3:=Tryz.zeroValue3
 t9:=Tryz.underlying9
 a9:=Tryz.isAgg9
 z9:=Tryz.sizeOf9
 v9:=Tryz.zeroValue9 }
def strings_Compare (a b:ByteArray):Int:=Lib.compareBytes a.data.toList b.data.toList
theorem yh (a b:ByteArray):kE Tryz.prog 57 [sv a,sv b] [] (iv (strings_Compare a b)) []:=by
 refine kE.pure (by kernel_rfl) (fun w S μ vs hS hg hr=>?_)
 obtain ⟨v,u,rfl⟩:∃ v u,vs = #[v,u]:=by
  have:=(hr fun _=>false).1
  match vs,this with
  | ⟨[v,u]⟩,_=>exact ⟨v,u,rfl⟩
 have hv:Rel w S μ (fun _=>false) (sv a) v:=by simpa using (hr fun _=>false).2 0 (by simp)
 have hu:Rel w S μ (fun _=>false) (sv b) u:=by simpa using (hr fun _=>false).2 1 (by simp)
 have hv':v=.string a:=bG rfl hv
 have Yf:u=.string b:=bG rfl hu
 subst hv'; subst Yf
 refine ⟨.int .i64 (strings_Compare a b),(Any.strings_Compare Tryz.T4 a b w).mono ?_,fun _ _ _ _=>fO rfl⟩
 rintro e w' ⟨rfl,rfl⟩
 exact ⟨rfl,Below.refl _ _⟩
def ri (a b:ByteArray):iM Int:=⟨Tryz.prog,57,[sv a,sv b],fun x=>iv x,true,strings_Compare a b,True,fun _=>yh a b,fun _=>True,trivial⟩
end
def iG (a:ae) (b:ae):Sk (Int) :=
 .r 1 (.dep ((kU a).c) fun x1=>.dep ((kU b).c) fun x2=>(ri x1 x2).c) fun p4 =>
 .fin p4.2.2
def Cv a b:=(iG a b).val
theorem yi (a:ae) (b:ae) (ha:a.dT) (hb:b.dT):(iG a b).bO (fun _=>True):=by
 unfold iG
 try simp only [kU,ri]
 exact sH
def rj a b:=kk tok mixed Tryz.func56 [av a.cells,av b.cells] (fun x=>iv x) true (iG a b) (Cv a b) (u2 (yi a b))
end
end Go.Proofs.YtihmmpaalpghbaaGreatDoor
