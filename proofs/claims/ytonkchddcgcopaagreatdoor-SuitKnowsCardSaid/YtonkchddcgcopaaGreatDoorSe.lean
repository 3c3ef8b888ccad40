/- The types of this program, as the evaluator looks at them. -/
import Derived.Test.YtonkchddcgcopaaGreatDoorLd
import Derived.Test.YtonkchddcgcopaaGreatDoorRows
import Derived.Shelf.SortM.Plain
import Derived.Shelf.SortM.SortNone
import Derived.Ground.SlgmProg
import Derived.Shelf.Slices.CompactI
import Derived.Ground.Names2Prog
set_option linter.unusedSimpArgs false
set_option linter.unusedVariables false
set_option maxHeartbeats 1000000
set_option maxRecDepth 100000
namespace Go.Proofs.YtonkchddcgcopaaGreatDoor
noncomputable section
open Go Go.Av
instance:E5:=⟨[(0,[dI 6,dI 7,dI 10,dI 12,dI 13,dI 14,dI 15,dI 16,dI 20,dI 21])]⟩
def TT:List (Nat × TI):=[
 (3,⟨.int .i64,1,8,[.v (.int .i64 0)],false⟩),
 (4,⟨.bool,1,1,[.v (.bool false)],false⟩),
 (5,⟨.int .u8,1,1,[.v (.int .u8 0)],false⟩),
 (9,⟨.str,1,16,[.v (.string ⟨#[]⟩)],false⟩),
 (22,⟨.slice 9,1,24,[.v (.slice none 0 0)],false⟩),
 (23,⟨.slice 124,1,24,[.v (.slice none 0 0)],false⟩),
 (24,⟨.slice 127,1,24,[.v (.slice none 0 0)],false⟩),
 (25,⟨.slice 129,1,24,[.v (.slice none 0 0)],false⟩),
 (26,⟨.slice 121,1,24,[.v (.slice none 0 0)],false⟩),
 (27,⟨.slice 131,1,24,[.v (.slice none 0 0)],false⟩),
 (28,⟨.slice 133,1,24,[.v (.slice none 0 0)],false⟩),
 (29,⟨.slice 135,1,24,[.v (.slice none 0 0)],false⟩),
 (31,⟨.struct [(0,22),(1,23),(2,24),(3,25),(4,26),(5,27),(6,28),(7,29)],8,192,[.v (.slice none 0 0),.v (.slice none 0 0),.v (.slice none 0 0),.v (.slice none 0 0),.v (.slice none 0 0),.v (.slice none 0 0),.v (.slice none 0 0),.v (.slice none 0 0)],false⟩),
 (32,⟨.slice 50,1,24,[.v (.slice none 0 0)],false⟩),
 (34,⟨.struct [(0,3),(1,3),(2,3),(3,3),(4,3),(5,3),(6,3)],7,56,[.v (.int .i64 0),.v (.int .i64 0),.v (.int .i64 0),.v (.int .i64 0),.v (.int .i64 0),.v (.int .i64 0),.v (.int .i64 0)],true⟩),
 (35,⟨.slice 3,1,24,[.v (.slice none 0 0)],false⟩),
 (36,⟨.slice 53,1,24,[.v (.slice none 0 0)],false⟩),
 (38,⟨.slice 34,1,24,[.v (.slice none 0 0)],false⟩),
 (40,⟨.int .i64,1,8,[.v (.int .i64 0)],false⟩),
 (43,⟨.struct [(0,3),(1,3),(2,3)],3,24,[.v (.int .i64 0),.v (.int .i64 0),.v (.int .i64 0)],true⟩),
 (45,⟨.struct [(0,3),(1,3),(2,3),(3,3),(4,3),(5,43),(8,3),(9,3),(10,3),(11,3),(12,3),(13,3),(14,3)],15,120,[.v (.int .i64 0),.v (.int .i64 0),.v (.int .i64 0),.v (.int .i64 0),.v (.int .i64 0),.v (.int .i64 0),.v (.int .i64 0),.v (.int .i64 0),.v (.int .i64 0),.v (.int .i64 0),.v (.int .i64 0),.v (.int .i64 0),.v (.int .i64 0),.v (.int .i64 0),.v (.int .i64 0)],false⟩),
 (46,⟨.slice 140,1,24,[.v (.slice none 0 0)],false⟩),
 (47,⟨.slice 95,1,24,[.v (.slice none 0 0)],false⟩),
 (48,⟨.slice 104,1,24,[.v (.slice none 0 0)],false⟩),
 (50,⟨.struct [(0,45),(15,46),(16,47),(17,48),(18,36)],19,216,[.v (.int .i64 0),.v (.int .i64 0),.v (.int .i64 0),.v (.int .i64 0),.v (.int .i64 0),.v (.int .i64 0),.v (.int .i64 0),.v (.int .i64 0),.v (.int .i64 0),.v (.int .i64 0),.v (.int .i64 0),.v (.int .i64 0),.v (.int .i64 0),.v (.int .i64 0),.v (.int .i64 0),.v (.slice none 0 0),.v (.slice none 0 0),.v (.slice none 0 0),.v (.slice none 0 0)],false⟩),
 (53,⟨.struct [(0,3),(1,3),(2,3)],3,24,[.v (.int .i64 0),.v (.int .i64 0),.v (.int .i64 0)],true⟩),
 (55,⟨.struct [(0,3),(1,3),(2,3),(3,3)],4,32,[.v (.int .i64 0),.v (.int .i64 0),.v (.int .i64 0),.v (.int .i64 0)],true⟩),
 (58,⟨.slice 65,1,24,[.v (.slice none 0 0)],false⟩),
 (61,⟨.slice 40,1,24,[.v (.slice none 0 0)],false⟩),
 (65,⟨.struct [(0,3),(1,3),(2,3),(3,3)],4,32,[.v (.int .i64 0),.v (.int .i64 0),.v (.int .i64 0),.v (.int .i64 0)],true⟩),
 (72,⟨.struct [(0,4),(1,3)],2,16,[.v (.bool false),.v (.int .i64 0)],true⟩),
 (77,⟨.struct [(0,31),(8,3),(9,3),(10,32),(11,34)],18,288,[.v (.slice none 0 0),.v (.slice none 0 0),.v (.slice none 0 0),.v (.slice none 0 0),.v (.slice none 0 0),.v (.slice none 0 0),.v (.slice none 0 0),.v (.slice none 0 0),.v (.int .i64 0),.v (.int .i64 0),.v (.slice none 0 0),.v (.int .i64 0),.v (.int .i64 0),.v (.int .i64 0),.v (.int .i64 0),.v (.int .i64 0),.v (.int .i64 0),.v (.int .i64 0)],false⟩),
 (78,⟨.map 3 3,1,8,[.v (.map none)],false⟩),
 (79,⟨.map 3 4,1,8,[.v (.map none)],false⟩),
 (80,⟨.slice 83,1,24,[.v (.slice none 0 0)],false⟩),
 (83,⟨.struct [(0,3),(1,3),(2,3),(3,3),(4,3),(5,3),(6,3),(7,3),(8,3)],9,72,[.v (.int .i64 0),.v (.int .i64 0),.v (.int .i64 0),.v (.int .i64 0),.v (.int .i64 0),.v (.int .i64 0),.v (.int .i64 0),.v (.int .i64 0),.v (.int .i64 0)],true⟩),
 (95,⟨.struct [(0,3),(1,3)],2,16,[.v (.int .i64 0),.v (.int .i64 0)],true⟩),
 (100,⟨.other,1,8,[.v .nilFunc],false⟩),
 (104,⟨.struct [(0,3),(1,3),(2,3),(3,3),(4,3),(5,3),(6,3),(7,3),(8,3)],9,72,[.v (.int .i64 0),.v (.int .i64 0),.v (.int .i64 0),.v (.int .i64 0),.v (.int .i64 0),.v (.int .i64 0),.v (.int .i64 0),.v (.int .i64 0),.v (.int .i64 0)],true⟩),
 (106,⟨.array 7 3,7,56,[.v (.int .i64 0),.v (.int .i64 0),.v (.int .i64 0),.v (.int .i64 0),.v (.int .i64 0),.v (.int .i64 0),.v (.int .i64 0)],false⟩),
 (109,⟨.struct [(0,50),(19,3),(20,3),(21,3),(22,3),(23,3)],24,256,[.v (.int .i64 0),.v (.int .i64 0),.v (.int .i64 0),.v (.int .i64 0),.v (.int .i64 0),.v (.int .i64 0),.v (.int .i64 0),.v (.int .i64 0),.v (.int .i64 0),.v (.int .i64 0),.v (.int .i64 0),.v (.int .i64 0),.v (.int .i64 0),.v (.int .i64 0),.v (.int .i64 0),.v (.slice none 0 0),.v (.slice none 0 0),.v (.slice none 0 0),.v (.slice none 0 0),.v (.int .i64 0),.v (.int .i64 0),.v (.int .i64 0),.v (.int .i64 0),.v (.int .i64 0)],false⟩),
 (112,⟨.struct [(0,72),(2,3),(3,35),(4,40)],5,56,[.v (.bool false),.v (.int .i64 0),.v (.int .i64 0),.v (.slice none 0 0),.v (.int .i64 0)],false⟩),
 (114,⟨.array 7 78,7,56,[.v (.map none),.v (.map none),.v (.map none),.v (.map none),.v (.map none),.v (.map none),.v (.map none)],false⟩),
 (118,⟨.slice 166,1,24,[.v (.slice none 0 0)],false⟩),
 (119,⟨.slice 161,1,24,[.v (.slice none 0 0)],false⟩),
 (121,⟨.struct [(0,9),(1,4),(2,118),(3,119)],4,72,[.v (.string ⟨#[]⟩),.v (.bool false),.v (.slice none 0 0),.v (.slice none 0 0)],false⟩),
 (124,⟨.struct [(0,9),(1,3),(2,3),(3,35),(4,35),(5,35)],6,104,[.v (.string ⟨#[]⟩),.v (.int .i64 0),.v (.int .i64 0),.v (.slice none 0 0),.v (.slice none 0 0),.v (.slice none 0 0)],false⟩),
 (127,⟨.struct [(0,3)],1,8,[.v (.int .i64 0)],true⟩),
 (129,⟨.struct [(0,9),(1,3),(2,3)],3,32,[.v (.string ⟨#[]⟩),.v (.int .i64 0),.v (.int .i64 0)],true⟩),
 (131,⟨.struct [(0,3),(1,3),(2,3)],3,24,[.v (.int .i64 0),.v (.int .i64 0),.v (.int .i64 0)],true⟩),
 (133,⟨.struct [(0,3),(1,3),(2,3),(3,3),(4,3)],5,40,[.v (.int .i64 0),.v (.int .i64 0),.v (.int .i64 0),.v (.int .i64 0),.v (.int .i64 0)],true⟩),
 (135,⟨.struct [(0,3),(1,3),(2,3)],3,24,[.v (.int .i64 0),.v (.int .i64 0),.v (.int .i64 0)],true⟩),
 (140,⟨.struct [(0,3),(1,3),(2,3),(3,3),(4,3),(5,3),(6,3),(7,3),(8,3)],9,72,[.v (.int .i64 0),.v (.int .i64 0),.v (.int .i64 0),.v (.int .i64 0),.v (.int .i64 0),.v (.int .i64 0),.v (.int .i64 0),.v (.int .i64 0),.v (.int .i64 0)],true⟩),
 (151,⟨.slice 72,1,24,[.v (.slice none 0 0)],false⟩),
 (157,⟨.slice 159,1,24,[.v (.slice none 0 0)],false⟩),
 (159,⟨.struct [(0,3),(1,3),(2,157)],3,40,[.v (.int .i64 0),.v (.int .i64 0),.v (.slice none 0 0)],false⟩),
 (161,⟨.struct [(0,3),(1,159)],4,48,[.v (.int .i64 0),.v (.int .i64 0),.v (.int .i64 0),.v (.slice none 0 0)],false⟩),
 (166,⟨.struct [(0,3),(1,3),(2,4)],3,24,[.v (.int .i64 0),.v (.int .i64 0),.v (.bool false)],true⟩),
 (170,⟨.other,1,8,[.v .nilFunc],false⟩),
 (174,⟨.other,1,8,[.v .nilFunc],false⟩),
 (175,⟨.slice 179,1,24,[.v (.slice none 0 0)],false⟩),
 (179,⟨.struct [(0,3),(1,3),(2,3),(3,3)],4,32,[.v (.int .i64 0),.v (.int .i64 0),.v (.int .i64 0),.v (.int .i64 0)],true⟩),
 (200,⟨.struct [(0,50),(19,50),(38,3),(39,35)],40,464,[.v (.int .i64 0),.v (.int .i64 0),.v (.int .i64 0),.v (.int .i64 0),.v (.int .i64 0),.v (.int .i64 0),.v (.int .i64 0),.v (.int .i64 0),.v (.int .i64 0),.v (.int .i64 0),.v (.int .i64 0),.v (.int .i64 0),.v (.int .i64 0),.v (.int .i64 0),.v (.int .i64 0),.v (.slice none 0 0),.v (.slice none 0 0),.v (.slice none 0 0),.v (.slice none 0 0),.v (.int .i64 0),.v (.int .i64 0),.v (.int .i64 0),.v (.int .i64 0),.v (.int .i64 0),.v (.int .i64 0),.v (.int .i64 0),.v (.int .i64 0),.v (.int .i64 0),.v (.int .i64 0),.v (.int .i64 0),.v (.int .i64 0),.v (.int .i64 0),.v (.int .i64 0),.v (.int .i64 0),.v (.slice none 0 0),.v (.slice none 0 0),.v (.slice none 0 0),.v (.slice none 0 0),.v (.int .i64 0),.v (.slice none 0 0)],false⟩),
 (202,⟨.struct [(0,200),(40,31),(48,3),(49,3)],50,672,[.v (.int .i64 0),.v (.int .i64 0),.v (.int .i64 0),.v (.int .i64 0),.v (.int .i64 0),.v (.int .i64 0),.v (.int .i64 0),.v (.int .i64 0),.v (.int .i64 0),.v (.int .i64 0),.v (.int .i64 0),.v (.int .i64 0),.v (.int .i64 0),.v (.int .i64 0),.v (.int .i64 0),.v (.slice none 0 0),.v (.slice none 0 0),.v (.slice none 0 0),.v (.slice none 0 0),.v (.int .i64 0),.v (.int .i64 0),.v (.int .i64 0),.v (.int .i64 0),.v (.int .i64 0),.v (.int .i64 0),.v (.int .i64 0),.v (.int .i64 0),.v (.int .i64 0),.v (.int .i64 0),.v (.int .i64 0),.v (.int .i64 0),.v (.int .i64 0),.v (.int .i64 0),.v (.int .i64 0),.v (.slice none 0 0),.v (.slice none 0 0),.v (.slice none 0 0),.v (.slice none 0 0),.v (.int .i64 0),.v (.slice none 0 0),.v (.slice none 0 0),.v (.slice none 0 0),.v (.slice none 0 0),.v (.slice none 0 0),.v (.slice none 0 0),.v (.slice none 0 0),.v (.slice none 0 0),.v (.slice none 0 0),.v (.int .i64 0),.v (.int .i64 0)],false⟩),
 (205,⟨.slice 244,1,24,[.v (.slice none 0 0)],false⟩),
 (212,⟨.struct [(0,3),(1,3),(2,3)],3,24,[.v (.int .i64 0),.v (.int .i64 0),.v (.int .i64 0)],true⟩),
 (216,⟨.struct [(0,3),(1,3),(2,3),(3,3),(4,3),(5,3),(6,3)],7,56,[.v (.int .i64 0),.v (.int .i64 0),.v (.int .i64 0),.v (.int .i64 0),.v (.int .i64 0),.v (.int .i64 0),.v (.int .i64 0)],true⟩),
 (227,⟨.array 10 3,10,80,[.v (.int .i64 0),.v (.int .i64 0),.v (.int .i64 0),.v (.int .i64 0),.v (.int .i64 0),.v (.int .i64 0),.v (.int .i64 0),.v (.int .i64 0),.v (.int .i64 0),.v (.int .i64 0)],false⟩),
 (231,⟨.other,1,8,[.v .nilFunc],false⟩),
 (235,⟨.struct [(0,151)],1,24,[.v (.slice none 0 0)],false⟩),
 (241,⟨.struct [(0,31),(8,3),(9,3),(10,50),(29,3),(30,3)],31,440,[.v (.slice none 0 0),.v (.slice none 0 0),.v (.slice none 0 0),.v (.slice none 0 0),.v (.slice none 0 0),.v (.slice none 0 0),.v (.slice none 0 0),.v (.slice none 0 0),.v (.int .i64 0),.v (.int .i64 0),.v (.int .i64 0),.v (.int .i64 0),.v (.int .i64 0),.v (.int .i64 0),.v (.int .i64 0),.v (.int .i64 0),.v (.int .i64 0),.v (.int .i64 0),.v (.int .i64 0),.v (.int .i64 0),.v (.int .i64 0),.v (.int .i64 0),.v (.int .i64 0),.v (.int .i64 0),.v (.int .i64 0),.v (.slice none 0 0),.v (.slice none 0 0),.v (.slice none 0 0),.v (.slice none 0 0),.v (.int .i64 0),.v (.int .i64 0)],false⟩),
 (244,⟨.struct [(0,3),(1,3),(2,3),(3,3),(4,3),(5,3),(6,4)],7,56,[.v (.int .i64 0),.v (.int .i64 0),.v (.int .i64 0),.v (.int .i64 0),.v (.int .i64 0),.v (.int .i64 0),.v (.bool false)],true⟩),
 (247,⟨.struct [(0,35),(1,3),(2,3),(3,4),(4,3),(5,35)],6,80,[.v (.slice none 0 0),.v (.int .i64 0),.v (.int .i64 0),.v (.bool false),.v (.int .i64 0),.v (.slice none 0 0)],false⟩),
 (251,⟨.other,1,8,[.v .nilFunc],false⟩),
 (253,⟨.struct [(0,3),(1,3),(2,3),(3,3)],4,32,[.v (.int .i64 0),.v (.int .i64 0),.v (.int .i64 0),.v (.int .i64 0)],true⟩),
 (260,⟨.struct [(0,3),(1,3),(2,3),(3,3),(4,3)],5,40,[.v (.int .i64 0),.v (.int .i64 0),.v (.int .i64 0),.v (.int .i64 0),.v (.int .i64 0)],true⟩),
 (263,⟨.struct [(0,31),(8,3),(9,50),(28,3),(29,3),(30,3)],31,440,[.v (.slice none 0 0),.v (.slice none 0 0),.v (.slice none 0 0),.v (.slice none 0 0),.v (.slice none 0 0),.v (.slice none 0 0),.v (.slice none 0 0),.v (.slice none 0 0),.v (.int .i64 0),.v (.int .i64 0),.v (.int .i64 0),.v (.int .i64 0),.v (.int .i64 0),.v (.int .i64 0),.v (.int .i64 0),.v (.int .i64 0),.v (.int .i64 0),.v (.int .i64 0),.v (.int .i64 0),.v (.int .i64 0),.v (.int .i64 0),.v (.int .i64 0),.v (.int .i64 0),.v (.int .i64 0),.v (.slice none 0 0),.v (.slice none 0 0),.v (.slice none 0 0),.v (.slice none 0 0),.v (.int .i64 0),.v (.int .i64 0),.v (.int .i64 0)],false⟩),
 (271,⟨.other,1,8,[.v .nilFunc],false⟩),
 (275,⟨.slice 35,1,24,[.v (.slice none 0 0)],false⟩),
 (278,⟨.slice 5,1,24,[.v (.slice none 0 0)],false⟩),
 (292,⟨.struct [(0,3),(1,3)],2,16,[.v (.int .i64 0),.v (.int .i64 0)],true⟩),
 (303,⟨.struct [(0,35),(1,3)],2,32,[.v (.slice none 0 0),.v (.int .i64 0)],false⟩),
 (309,⟨.int .u64,1,8,[.v (.int .u64 0)],false⟩),
 (314,⟨.other,1,8,[.v .nilFunc],false⟩),
 (317,⟨.struct [(0,4),(1,3)],2,16,[.v (.bool false),.v (.int .i64 0)],true⟩),
 (325,⟨.int .u64,1,8,[.v (.int .u64 0)],false⟩),
 (330,⟨.int .i64,1,8,[.v (.int .i64 0)],false⟩),
 (336,⟨.int .u32,1,4,[.v (.int .u32 0)],false⟩),
 (343,⟨.struct [(0,325),(1,325)],2,16,[.v (.int .u64 0),.v (.int .u64 0)],true⟩),
 (345,⟨.other,1,16,[.v .nilIface],false⟩),
 (346,⟨.int .u64,1,8,[.v (.int .u64 0)],false⟩),
 (350,⟨.other,1,8,[.v (.pointer none)],false⟩)]
theorem tok:pk Tryz.prog TT:=pk.of (by kernel_rfl)
theorem mixed:Tryz.prog.follows .mixedOrders=true:=by kernel_rfl
structure kP where
 name:ByteArray
 order:Int
 au:Int
 rest:List Int
 gT:List Int
 shut:List Int
 deriving Inhabited
def kP.cells (c:kP):List D:=[.v (.string c.name),dI c.order,dI c.au,nJ bI c.rest,nJ bI c.gT,nJ bI c.shut]
structure pA where
 Uc:Int
 deriving Inhabited
def pA.cells (c:pA):List D:=[dI c.Uc]
structure DA where
 name:ByteArray
 cH:Int
 group:Int
 deriving Inhabited
def DA.cells (c:DA):List D:=[.v (.string c.name),dI c.cH,dI c.group]
structure Choice where
 ask:Int
 c9:Int
 whole:Bool
 deriving Inhabited
def Choice.cells (c:Choice):List D:=[dI c.ask,dI c.c9,dB c.whole]
structure Term where
 op:Int
 n:Int
 args:List Term
instance:Inhabited Term:=⟨⟨default,default,default⟩⟩
mutual
def Term.Ud:Term→D
 | ⟨_,_,args⟩=>.sl args.length (Term.LP args)
def Term.LP:List Term→Nat→List D
 | [],_=>[]
 | x :: _,0=>[dI x.op,dI x.n,Term.Ud x]
 | _ :: r,i+1=>Term.LP r i
end
def Term.l8 (x:Term):List D:=[dI x.op,dI x.n,Term.Ud x]
theorem Term.Hc:∀ (l:List Term) (i:Nat),i < l.length→Term.LP l i=(l.getD i default).l8
 | [],i,h=>absurd h (by simp)
 | x :: r,0,_=>by simp [Term.LP,Term.l8]
 | x :: r,i+1,h=>by simpa [Term.LP] using Term.Hc r i (by simpa using h)
def Term.cells (c:Term):List D:=[dI c.op,dI c.n,nJ Term.l8 c.args]
theorem Term.Ue (c:Term):ue (Term.Ud c) (nJ Term.l8 c.args)∧ue (nJ Term.l8 c.args) (Term.Ud c):=by
 obtain ⟨op,n,args⟩:=c
 unfold Term.Ud
 exact ⟨ue.sl rfl (fun i hi=>Term.Hc args i hi),ue.sl rfl (fun i hi=>(Term.Hc args i hi).symm)⟩
theorem Term.LQ (c:Term):yG c.l8 c.cells:=.cons .rfl' (.cons .rfl' (.cons ((Term.Ue c).1) (.nil)))
mutual
def Term.depth:Term→Nat
 | ⟨_,_,args⟩=>Term.fV args+1
def Term.fV:List Term→Nat
 | []=>0
 | x :: r=>max x.depth (Term.fV r)
end
theorem Term.Qa:∀ (l:List Term) (i:Nat),i < l.length→(l.getD i default).depth≤Term.fV l
 | [],i,h=>absurd h (by simp)
 | x :: r,0,_=>by simp [Term.fV]; omega
 | x :: r,i+1,h=>by
  have:=Term.Qa r i (by simpa using h)
  simp [Term.fV] at this ⊢
  omega
theorem Term.l9 (c:Term) (i:Nat) (h:i < c.args.length):(c.args.getD i default).depth < c.depth:=by
 obtain ⟨op,n,args⟩:=c
 have:=Term.Qa args i h
 simp only [Term.depth]
 omega
theorem Term.vB (c:Term):0 < c.depth:=by
 obtain ⟨op,n,args⟩:=c
 simp only [Term.depth]
 omega
structure vU where
 ask:Int
 term:Term
 deriving Inhabited
def vU.cells (c:vU):List D:=[dI c.ask]++c.term.cells
structure Order where
 name:ByteArray
 KG:Bool
 ba:List Choice
 rules:List vU
 deriving Inhabited
def Order.cells (c:Order):List D:=[.v (.string c.name),dB c.KG,nJ Choice.cells c.ba,nJ vU.cells c.rules]
structure ev where
 from_:Int
 cM:Int
 days:Int
 deriving Inhabited
def ev.cells (c:ev):List D:=[dI c.from_,dI c.cM,dI c.days]
def ev.E:P5 ev:=⟨ev.cells,3,fun _=>rfl,fun _=>rfl⟩
structure qU where
 from_:Int
 cM:Int
 num:Int
 den:Int
 since:Int
 deriving Inhabited
def qU.cells (c:qU):List D:=[dI c.from_,dI c.cM,dI c.num,dI c.den,dI c.since]
structure Halt where
 order:Int
 from_:Int
 cM:Int
 deriving Inhabited
def Halt.cells (c:Halt):List D:=[dI c.order,dI c.from_,dI c.cM]
structure ah where
 cz:List ByteArray
 aN:List kP
 gh:List pA
 bu:List DA
 aE:List Order
 bg:List ev
 bV:List qU
 eR:List Halt
 deriving Inhabited
def ah.cells (c:ah):List D:=[nJ ki c.cz,nJ kP.cells c.aN,nJ pA.cells c.gh,nJ DA.cells c.bu,nJ Order.cells c.aE,nJ ev.cells c.bg,nJ qU.cells c.bV,nJ Halt.cells c.eR]
def ah.Small (r:ah):Prop:=r.cz.length≤1000000∧r.aN.length≤1000000∧r.gh.length≤1000000∧r.bu.length≤1000000∧r.aE.length≤1000000∧r.bg.length≤1000000∧r.bV.length≤1000000∧r.eR.length≤1000000 ∧
 ∀ i,i < r.aE.length→(r.aE.getD i default).ba.length≤1000000∧(r.aE.getD i default).rules.length≤1000000
def ah.cj (r:ah):Prop:=∀ i j,i < r.aE.length→j < (r.aE.getD i default).ba.length→0≤((r.aE.getD i default).ba.getD j default).c9∧((r.aE.getD i default).ba.getD j default).c9 < 5
def ah.eM (r:ah):Prop:=∀ i,i < r.eR.length→(r.eR.getD i default).cM≤100000
structure sy where
 kind:Int
 n:Int
 unit:Int
 deriving Inhabited
def sy.cells (c:sy):List D:=[dI c.kind,dI c.n,dI c.unit]
structure rE where
 BV:Int
 m4:Int
 gj:Int
 sum:Int
 au:Int
 df:sy
 day:Int
 cH:Int
 A2:Int
 need:Int
 mD:Int
 flags:Int
 parts:Int
 deriving Inhabited
def rE.cells (c:rE):List D:=[dI c.BV,dI c.m4,dI c.gj,dI c.sum,dI c.au]++c.df.cells++[dI c.day,dI c.cH,dI c.A2,dI c.need,dI c.mD,dI c.flags,dI c.parts]
structure Sign where
 kind:Int
 part:Int
 dQ:Int
 for_:Int
 cM:Int
 sum:Int
 day:Int
 cH:Int
 flags:Int
 deriving Inhabited
def Sign.cells (c:Sign):List D:=[dI c.kind,dI c.part,dI c.dQ,dI c.for_,dI c.cM,dI c.sum,dI c.day,dI c.cH,dI c.flags]
def Sign.E:P5 Sign:=⟨Sign.cells,9,fun _=>rfl,fun _=>rfl⟩
structure dU where
 at_:Int
 sum:Int
 deriving Inhabited
def dU.cells (c:dU):List D:=[dI c.at_,dI c.sum]
def dU.E:P5 dU:=⟨dU.cells,2,fun _=>rfl,fun _=>rfl⟩
structure bD where
 kind:Int
 dQ:Int
 cM:Int
 part:Int
 at_:Int
 sum:Int
 day:Int
 cH:Int
 form:Int
 deriving Inhabited
def bD.cells (c:bD):List D:=[dI c.kind,dI c.dQ,dI c.cM,dI c.part,dI c.at_,dI c.sum,dI c.day,dI c.cH,dI c.form]
def bD.E:P5 bD:=⟨bD.cells,9,fun _=>rfl,fun _=>rfl⟩
structure Fact where
 kind:Int
 at_:Int
 n:Int
 deriving Inhabited
def Fact.cells (c:Fact):List D:=[dI c.kind,dI c.at_,dI c.n]
def Fact.E:P5 Fact:=⟨Fact.cells,3,fun _=>rfl,fun _=>rfl⟩
structure ak where
 aU:rE
 af:List Sign
 bn:List dU
 aw:List bD
 facts:List Fact
 deriving Inhabited
def ak.cells (c:ak):List D:=c.aU.cells++[nJ Sign.cells c.af,nJ dU.cells c.bn,nJ bD.cells c.aw,nJ Fact.cells c.facts]
def ak.E:P5 ak:=⟨ak.cells,19,fun _=>rfl,fun _=>rfl⟩
def ak.Small (f:ak):Prop:=f.af.length≤1000000∧f.bn.length≤1000000∧f.aw.length≤1000000∧f.facts.length≤1000000
def ah.im (r:ah):Prop:=∀ i,i < r.bu.length→0≤(r.bu.getD i default).cH∧(r.bu.getD i default).cH < r.aN.length
def ah.dg (r:ah):Prop:=∀ i,i < r.bV.length→(1≤(r.bV.getD i default).num∧(r.bV.getD i default).num≤1073741824)∧1≤(r.bV.getD i default).den∧(r.bV.getD i default).den≤1073741824
abbrev ma (n:Int):Prop:=0≤n∧n≤1099511627776
def ak.rF (f:ak):Prop:=ma f.aU.sum∧(∀ q,q < f.bn.length→ma (f.bn.getD q default).sum)∧(∀ q,q < f.af.length→ma (f.af.getD q default).sum)∧∀ q,q < f.aw.length→ma (f.aw.getD q default).sum
def Qb (f:ak) (q:Nat):Prop:=ma (f.af.getD q default).sum∧(0≤(f.af.getD q default).kind∧(f.af.getD q default).kind≤4)∧((f.af.getD q default).kind=0↔q=0)∧((f.af.getD q default).kind=3∨(f.af.getD q default).kind=4→0≤(f.af.getD q default).for_∧(f.af.getD q default).for_ < (q:Int))
def Qc (r:ah) (f:ak) (q:Nat):Prop:=(0≤(f.af.getD q default).dQ∧(f.af.getD q default).dQ < r.bu.length)∧(q≠0→(f.af.getD (q - 1) default).day≤(f.af.getD q default).day)∧(f.af.getD q default).day≤100000∧(q=0→(f.af.getD q default).day=f.aU.day)∧(0≤(f.af.getD q default).part∧(f.af.getD q default).part≤f.aU.parts - 1)∧Qb f q
def Hd (f:ak) (q:Nat):Prop:=ma (f.aw.getD q default).sum∧(f.aU.day≤(f.aw.getD q default).day∧(f.aw.getD q default).day≤100000)∧(q≠0→(f.aw.getD (q - 1) default).day≤(f.aw.getD q default).day)∧((f.aw.getD q default).kind=6→(0≤(f.aw.getD q default).at_∧(f.aw.getD q default).at_ < f.af.length)∧(f.af.getD (f.aw.getD q default).at_.toNat default).day≤(f.aw.getD q default).day∧(f.af.getD (f.aw.getD q default).at_.toNat default).dQ=(f.aw.getD q default).dQ)
def Uf (r:ah) (b:rE):Prop:=(1≤b.sum∧b.sum≤1099511627776)∧(0≤b.A2∧b.A2 < r.aN.length)∧(0≤b.day∧b.day≤100000)∧(1≤b.parts∧b.parts≤4)∧(0≤b.au∧b.au < r.cz.length)
def cb (r:ah) (f:ak):Prop:=Uf r f.aU∧(f.af.length≤40∧f.af.length≠0∧f.bn.length≤4∧f.aw.length≤100∧f.facts.length≤200)∧(∀ q,q < f.af.length→Qc r f q)∧(∀ q,q < f.bn.length→ma (f.bn.getD q default).sum)∧∀ q,q < f.aw.length→Hd f q
theorem cb.small {r:ah} {f:ak} (h:cb r f):f.Small:=by have:=h.2.1; unfold ak.Small; omega
theorem cb.Rs {r:ah} {f:ak} (h:cb r f):f.rF:=⟨⟨by have:=h.1.1; omega,h.1.1.2⟩,h.2.2.2.1,fun q hq=>(h.2.2.1 q hq).2.2.2.2.2.1,fun q hq=>(h.2.2.2.2 q hq).1⟩
theorem vV {α:Type} [Inhabited α] {l:List α} {P:α→Prop}:(∀ q,q < l.length→P (l.getD q default))↔∀ x,x∈l→P x:=by
 constructor
 ·intro h x hx
  obtain ⟨i,hi,rfl⟩:=List.getElem_of_mem hx
  have:=h i hi
  rwa [show l.getD i default=l[i] by simp [List.getD,hi]] at this
 ·exact fun h q hq=>h _ (vT hq _)
def ToQ (r:ah) (f:ak) (q:Nat):Prop:=(f.af.getD q default).cM = -1∨(0≤(f.af.getD q default).cM∧(f.af.getD q default).cM < r.bu.length)
def ToF (r:ah) (f:ak):Prop:=(f.aU.gj = -1∨(0≤f.aU.gj∧f.aU.gj < r.bu.length))∧∀ q,q < f.af.length→ToQ r f q
structure cS where
 forum:Int
 cV:Int
 cW:Int
 file:Int
 sign:Int
 day:Int
 kind:Int
 deriving Inhabited
def cS.cells (c:cS):List D:=[dI c.forum,dI c.cV,dI c.cW,dI c.file,dI c.sign,dI c.day,dI c.kind]
def cS.E:P5 cS:=⟨cS.cells,7,fun _=>rfl,fun _=>rfl⟩
structure Move where
 kind:Int
 aL:Int
 day:Int
 no:Int
 deriving Inhabited
def Move.cells (c:Move):List D:=[dI c.kind,dI c.aL,dI c.day,dI c.no]
def Move.E:P5 Move:=⟨Move.cells,4,fun _=>rfl,fun _=>rfl⟩
def z7 (n:Int) (yX:Int):Sk (Bool) :=
 .fin ((decide (n≥0))&&(decide (n < yX)))
def X6 n yX:=(z7 n yX).val
theorem qG (n:Int) (yX:Int):X6 n yX=((decide (n≥0))&&(decide (n < yX))):=rfl
theorem Wy (n:Int) (yX:Int):(z7 n yX).bC (fun _=>True):=by
 unfold z7
 exact qT
def eW n yX:=kk tok mixed Tryz.func16 [iv n,iv yX] (fun x=>bv x) true (z7 n yX) (X6 n yX) (u0 (Wy n yX))
def pX (aK:Int):Sk (Int × Bool) :=
 .r 1 (.aj (.o [.aZ (sx dI)]) (.aj (.o [.aZ (cU dI ([]:List (Int × Int)) (0:Int) 1)]) (.aj (.o [.aZ (sx dI)]) (.aj (.o [.aZ (cU dI ([]:List (Int × Int)) (1:Int) 1)]) (.aj (.o [.aZ (cU dI (([]:List (Int × Int))++[(1,1)]) (2:Int) 2)]) (.aj (.o [.aZ (cU dI ((([]:List (Int × Int))++[(1,1)])++[(2,2)]) (4:Int) 4)]) (.aj (.o [.aZ (sx dI)]) (.aj (.o [.aZ (cU dI ([]:List (Int × Int)) (1:Int) 2)]) (.aj (.o [.aZ (sx dI)]) (.aj (.o [.aZ (cU dI ([]:List (Int × Int)) (2:Int) 1)]) (.aj (.o [.aZ (sx dI)]) (.aj (.o [.aZ (cU dI ([]:List (Int × Int)) (1:Int) 3)]) (.aj (.o [.aZ (cU dI (([]:List (Int × Int))++[(1,3)]) (4:Int) 3)]) (.aj (.o [.aZ (sx dI)]) (.aj (.o [.aZ (cU dI ([]:List (Int × Int)) (3:Int) 4)]) (.aj (.o [.aZ (sx dI)]) (.aj (.o [.aZ (cU dI ([]:List (Int × Int)) (1:Int) 5)]) (.aj (.o [.aZ (cU dI (([]:List (Int × Int))++[(1,5)]) (2:Int) 5)]) (.aj (.o [.aZ (cU dI ((([]:List (Int × Int))++[(1,5)])++[(2,5)]) (3:Int) 5)]) (.o [.aZ (cU dI (((([]:List (Int × Int))++[(1,5)])++[(2,5)])++[(3,5)]) (4:Int) 5)])))))))))))))))))))) fun _ =>
 .r 2 (.aj (.p (0≤(0:Int)∧(0:Int) < ((7:Nat):Int))) (.aj (.t (pv dI (([]:List (Int × Int))++[(0,1)]))) (.o [.cast 29 (LI dI (([]:List (Int × Int))++[(0,1)]) aK (0:Int))]))) fun _ =>
 .fin (cT (([]:List (Int × Int))++[(0,1)]) aK (0:Int),xS (([]:List (Int × Int))++[(0,1)]) aK)
def FC aK:=(pX aK).val
theorem Jj (aK:Int):(pX aK).bC (fun _=>True):=by
 unfold pX
 exact mA
def LR aK:=kk tok mixed Tryz.func25 [iv 0,iv aK] (fun x=>.fD [iv x.1,bv x.2]) true (pX aK) (FC aK) (u0 (Jj aK))
def pY (aK:Int):Sk (Int × Bool) :=
 .r 1 (.aj (.o [.aZ (sx dI)]) (.aj (.o [.aZ (cU dI ([]:List (Int × Int)) (0:Int) 1)]) (.aj (.o [.aZ (sx dI)]) (.aj (.o [.aZ (cU dI ([]:List (Int × Int)) (1:Int) 1)]) (.aj (.o [.aZ (cU dI (([]:List (Int × Int))++[(1,1)]) (2:Int) 2)]) (.aj (.o [.aZ (cU dI ((([]:List (Int × Int))++[(1,1)])++[(2,2)]) (4:Int) 4)]) (.aj (.o [.aZ (sx dI)]) (.aj (.o [.aZ (cU dI ([]:List (Int × Int)) (1:Int) 2)]) (.aj (.o [.aZ (sx dI)]) (.aj (.o [.aZ (cU dI ([]:List (Int × Int)) (2:Int) 1)]) (.aj (.o [.aZ (sx dI)]) (.aj (.o [.aZ (cU dI ([]:List (Int × Int)) (1:Int) 3)]) (.aj (.o [.aZ (cU dI (([]:List (Int × Int))++[(1,3)]) (4:Int) 3)]) (.aj (.o [.aZ (sx dI)]) (.aj (.o [.aZ (cU dI ([]:List (Int × Int)) (3:Int) 4)]) (.aj (.o [.aZ (sx dI)]) (.aj (.o [.aZ (cU dI ([]:List (Int × Int)) (1:Int) 5)]) (.aj (.o [.aZ (cU dI (([]:List (Int × Int))++[(1,5)]) (2:Int) 5)]) (.aj (.o [.aZ (cU dI ((([]:List (Int × Int))++[(1,5)])++[(2,5)]) (3:Int) 5)]) (.o [.aZ (cU dI (((([]:List (Int × Int))++[(1,5)])++[(2,5)])++[(3,5)]) (4:Int) 5)])))))))))))))))))))) fun _ =>
 .r 2 (.aj (.p (0≤(1:Int)∧(1:Int) < ((7:Nat):Int))) (.aj (.t (pv dI (((([]:List (Int × Int))++[(1,1)])++[(2,2)])++[(4,4)]))) (.o [.cast 29 (LI dI (((([]:List (Int × Int))++[(1,1)])++[(2,2)])++[(4,4)]) aK (0:Int))]))) fun _ =>
 .fin (cT (((([]:List (Int × Int))++[(1,1)])++[(2,2)])++[(4,4)]) aK (0:Int),xS (((([]:List (Int × Int))++[(1,1)])++[(2,2)])++[(4,4)]) aK)
def FD aK:=(pY aK).val
theorem Jk (aK:Int):(pY aK).bC (fun _=>True):=by
 unfold pY
 exact mA
def LS aK:=kk tok mixed Tryz.func25 [iv 1,iv aK] (fun x=>.fD [iv x.1,bv x.2]) true (pY aK) (FD aK) (u0 (Jk aK))
def pZ (aK:Int):Sk (Int × Bool) :=
 .r 1 (.aj (.o [.aZ (sx dI)]) (.aj (.o [.aZ (cU dI ([]:List (Int × Int)) (0:Int) 1)]) (.aj (.o [.aZ (sx dI)]) (.aj (.o [.aZ (cU dI ([]:List (Int × Int)) (1:Int) 1)]) (.aj (.o [.aZ (cU dI (([]:List (Int × Int))++[(1,1)]) (2:Int) 2)]) (.aj (.o [.aZ (cU dI ((([]:List (Int × Int))++[(1,1)])++[(2,2)]) (4:Int) 4)]) (.aj (.o [.aZ (sx dI)]) (.aj (.o [.aZ (cU dI ([]:List (Int × Int)) (1:Int) 2)]) (.aj (.o [.aZ (sx dI)]) (.aj (.o [.aZ (cU dI ([]:List (Int × Int)) (2:Int) 1)]) (.aj (.o [.aZ (sx dI)]) (.aj (.o [.aZ (cU dI ([]:List (Int × Int)) (1:Int) 3)]) (.aj (.o [.aZ (cU dI (([]:List (Int × Int))++[(1,3)]) (4:Int) 3)]) (.aj (.o [.aZ (sx dI)]) (.aj (.o [.aZ (cU dI ([]:List (Int × Int)) (3:Int) 4)]) (.aj (.o [.aZ (sx dI)]) (.aj (.o [.aZ (cU dI ([]:List (Int × Int)) (1:Int) 5)]) (.aj (.o [.aZ (cU dI (([]:List (Int × Int))++[(1,5)]) (2:Int) 5)]) (.aj (.o [.aZ (cU dI ((([]:List (Int × Int))++[(1,5)])++[(2,5)]) (3:Int) 5)]) (.o [.aZ (cU dI (((([]:List (Int × Int))++[(1,5)])++[(2,5)])++[(3,5)]) (4:Int) 5)])))))))))))))))))))) fun _ =>
 .r 2 (.aj (.p (0≤(2:Int)∧(2:Int) < ((7:Nat):Int))) (.aj (.t (pv dI (([]:List (Int × Int))++[(1,2)]))) (.o [.cast 29 (LI dI (([]:List (Int × Int))++[(1,2)]) aK (0:Int))]))) fun _ =>
 .fin (cT (([]:List (Int × Int))++[(1,2)]) aK (0:Int),xS (([]:List (Int × Int))++[(1,2)]) aK)
def FE aK:=(pZ aK).val
theorem Jl (aK:Int):(pZ aK).bC (fun _=>True):=by
 unfold pZ
 exact mA
def LU aK:=kk tok mixed Tryz.func25 [iv 2,iv aK] (fun x=>.fD [iv x.1,bv x.2]) true (pZ aK) (FE aK) (u0 (Jl aK))
def qa (aK:Int):Sk (Int × Bool) :=
 .r 1 (.aj (.o [.aZ (sx dI)]) (.aj (.o [.aZ (cU dI ([]:List (Int × Int)) (0:Int) 1)]) (.aj (.o [.aZ (sx dI)]) (.aj (.o [.aZ (cU dI ([]:List (Int × Int)) (1:Int) 1)]) (.aj (.o [.aZ (cU dI (([]:List (Int × Int))++[(1,1)]) (2:Int) 2)]) (.aj (.o [.aZ (cU dI ((([]:List (Int × Int))++[(1,1)])++[(2,2)]) (4:Int) 4)]) (.aj (.o [.aZ (sx dI)]) (.aj (.o [.aZ (cU dI ([]:List (Int × Int)) (1:Int) 2)]) (.aj (.o [.aZ (sx dI)]) (.aj (.o [.aZ (cU dI ([]:List (Int × Int)) (2:Int) 1)]) (.aj (.o [.aZ (sx dI)]) (.aj (.o [.aZ (cU dI ([]:List (Int × Int)) (1:Int) 3)]) (.aj (.o [.aZ (cU dI (([]:List (Int × Int))++[(1,3)]) (4:Int) 3)]) (.aj (.o [.aZ (sx dI)]) (.aj (.o [.aZ (cU dI ([]:List (Int × Int)) (3:Int) 4)]) (.aj (.o [.aZ (sx dI)]) (.aj (.o [.aZ (cU dI ([]:List (Int × Int)) (1:Int) 5)]) (.aj (.o [.aZ (cU dI (([]:List (Int × Int))++[(1,5)]) (2:Int) 5)]) (.aj (.o [.aZ (cU dI ((([]:List (Int × Int))++[(1,5)])++[(2,5)]) (3:Int) 5)]) (.o [.aZ (cU dI (((([]:List (Int × Int))++[(1,5)])++[(2,5)])++[(3,5)]) (4:Int) 5)])))))))))))))))))))) fun _ =>
 .r 2 (.aj (.p (0≤(3:Int)∧(3:Int) < ((7:Nat):Int))) (.aj (.t (pv dI (([]:List (Int × Int))++[(2,1)]))) (.o [.cast 29 (LI dI (([]:List (Int × Int))++[(2,1)]) aK (0:Int))]))) fun _ =>
 .fin (cT (([]:List (Int × Int))++[(2,1)]) aK (0:Int),xS (([]:List (Int × Int))++[(2,1)]) aK)
def FF aK:=(qa aK).val
theorem Jm (aK:Int):(qa aK).bC (fun _=>True):=by
 unfold qa
 exact mA
def LV aK:=kk tok mixed Tryz.func25 [iv 3,iv aK] (fun x=>.fD [iv x.1,bv x.2]) true (qa aK) (FF aK) (u0 (Jm aK))
def qb (aK:Int):Sk (Int × Bool) :=
 .r 1 (.aj (.o [.aZ (sx dI)]) (.aj (.o [.aZ (cU dI ([]:List (Int × Int)) (0:Int) 1)]) (.aj (.o [.aZ (sx dI)]) (.aj (.o [.aZ (cU dI ([]:List (Int × Int)) (1:Int) 1)]) (.aj (.o [.aZ (cU dI (([]:List (Int × Int))++[(1,1)]) (2:Int) 2)]) (.aj (.o [.aZ (cU dI ((([]:List (Int × Int))++[(1,1)])++[(2,2)]) (4:Int) 4)]) (.aj (.o [.aZ (sx dI)]) (.aj (.o [.aZ (cU dI ([]:List (Int × Int)) (1:Int) 2)]) (.aj (.o [.aZ (sx dI)]) (.aj (.o [.aZ (cU dI ([]:List (Int × Int)) (2:Int) 1)]) (.aj (.o [.aZ (sx dI)]) (.aj (.o [.aZ (cU dI ([]:List (Int × Int)) (1:Int) 3)]) (.aj (.o [.aZ (cU dI (([]:List (Int × Int))++[(1,3)]) (4:Int) 3)]) (.aj (.o [.aZ (sx dI)]) (.aj (.o [.aZ (cU dI ([]:List (Int × Int)) (3:Int) 4)]) (.aj (.o [.aZ (sx dI)]) (.aj (.o [.aZ (cU dI ([]:List (Int × Int)) (1:Int) 5)]) (.aj (.o [.aZ (cU dI (([]:List (Int × Int))++[(1,5)]) (2:Int) 5)]) (.aj (.o [.aZ (cU dI ((([]:List (Int × Int))++[(1,5)])++[(2,5)]) (3:Int) 5)]) (.o [.aZ (cU dI (((([]:List (Int × Int))++[(1,5)])++[(2,5)])++[(3,5)]) (4:Int) 5)])))))))))))))))))))) fun _ =>
 .r 2 (.aj (.p (0≤(4:Int)∧(4:Int) < ((7:Nat):Int))) (.aj (.t (pv dI ((([]:List (Int × Int))++[(1,3)])++[(4,3)]))) (.o [.cast 29 (LI dI ((([]:List (Int × Int))++[(1,3)])++[(4,3)]) aK (0:Int))]))) fun _ =>
 .fin (cT ((([]:List (Int × Int))++[(1,3)])++[(4,3)]) aK (0:Int),xS ((([]:List (Int × Int))++[(1,3)])++[(4,3)]) aK)
def FG aK:=(qb aK).val
theorem Jn (aK:Int):(qb aK).bC (fun _=>True):=by
 unfold qb
 exact mA
def LW aK:=kk tok mixed Tryz.func25 [iv 4,iv aK] (fun x=>.fD [iv x.1,bv x.2]) true (qb aK) (FG aK) (u0 (Jn aK))
def qc (aK:Int):Sk (Int × Bool) :=
 .r 1 (.aj (.o [.aZ (sx dI)]) (.aj (.o [.aZ (cU dI ([]:List (Int × Int)) (0:Int) 1)]) (.aj (.o [.aZ (sx dI)]) (.aj (.o [.aZ (cU dI ([]:List (Int × Int)) (1:Int) 1)]) (.aj (.o [.aZ (cU dI (([]:List (Int × Int))++[(1,1)]) (2:Int) 2)]) (.aj (.o [.aZ (cU dI ((([]:List (Int × Int))++[(1,1)])++[(2,2)]) (4:Int) 4)]) (.aj (.o [.aZ (sx dI)]) (.aj (.o [.aZ (cU dI ([]:List (Int × Int)) (1:Int) 2)]) (.aj (.o [.aZ (sx dI)]) (.aj (.o [.aZ (cU dI ([]:List (Int × Int)) (2:Int) 1)]) (.aj (.o [.aZ (sx dI)]) (.aj (.o [.aZ (cU dI ([]:List (Int × Int)) (1:Int) 3)]) (.aj (.o [.aZ (cU dI (([]:List (Int × Int))++[(1,3)]) (4:Int) 3)]) (.aj (.o [.aZ (sx dI)]) (.aj (.o [.aZ (cU dI ([]:List (Int × Int)) (3:Int) 4)]) (.aj (.o [.aZ (sx dI)]) (.aj (.o [.aZ (cU dI ([]:List (Int × Int)) (1:Int) 5)]) (.aj (.o [.aZ (cU dI (([]:List (Int × Int))++[(1,5)]) (2:Int) 5)]) (.aj (.o [.aZ (cU dI ((([]:List (Int × Int))++[(1,5)])++[(2,5)]) (3:Int) 5)]) (.o [.aZ (cU dI (((([]:List (Int × Int))++[(1,5)])++[(2,5)])++[(3,5)]) (4:Int) 5)])))))))))))))))))))) fun _ =>
 .r 2 (.aj (.p (0≤(5:Int)∧(5:Int) < ((7:Nat):Int))) (.aj (.t (pv dI (([]:List (Int × Int))++[(3,4)]))) (.o [.cast 29 (LI dI (([]:List (Int × Int))++[(3,4)]) aK (0:Int))]))) fun _ =>
 .fin (cT (([]:List (Int × Int))++[(3,4)]) aK (0:Int),xS (([]:List (Int × Int))++[(3,4)]) aK)
def FH aK:=(qc aK).val
theorem Jo (aK:Int):(qc aK).bC (fun _=>True):=by
 unfold qc
 exact mA
def LX aK:=kk tok mixed Tryz.func25 [iv 5,iv aK] (fun x=>.fD [iv x.1,bv x.2]) true (qc aK) (FH aK) (u0 (Jo aK))
def qd (aK:Int):Sk (Int × Bool) :=
 .r 1 (.aj (.o [.aZ (sx dI)]) (.aj (.o [.aZ (cU dI ([]:List (Int × Int)) (0:Int) 1)]) (.aj (.o [.aZ (sx dI)]) (.aj (.o [.aZ (cU dI ([]:List (Int × Int)) (1:Int) 1)]) (.aj (.o [.aZ (cU dI (([]:List (Int × Int))++[(1,1)]) (2:Int) 2)]) (.aj (.o [.aZ (cU dI ((([]:List (Int × Int))++[(1,1)])++[(2,2)]) (4:Int) 4)]) (.aj (.o [.aZ (sx dI)]) (.aj (.o [.aZ (cU dI ([]:List (Int × Int)) (1:Int) 2)]) (.aj (.o [.aZ (sx dI)]) (.aj (.o [.aZ (cU dI ([]:List (Int × Int)) (2:Int) 1)]) (.aj (.o [.aZ (sx dI)]) (.aj (.o [.aZ (cU dI ([]:List (Int × Int)) (1:Int) 3)]) (.aj (.o [.aZ (cU dI (([]:List (Int × Int))++[(1,3)]) (4:Int) 3)]) (.aj (.o [.aZ (sx dI)]) (.aj (.o [.aZ (cU dI ([]:List (Int × Int)) (3:Int) 4)]) (.aj (.o [.aZ (sx dI)]) (.aj (.o [.aZ (cU dI ([]:List (Int × Int)) (1:Int) 5)]) (.aj (.o [.aZ (cU dI (([]:List (Int × Int))++[(1,5)]) (2:Int) 5)]) (.aj (.o [.aZ (cU dI ((([]:List (Int × Int))++[(1,5)])++[(2,5)]) (3:Int) 5)]) (.o [.aZ (cU dI (((([]:List (Int × Int))++[(1,5)])++[(2,5)])++[(3,5)]) (4:Int) 5)])))))))))))))))))))) fun _ =>
 .r 2 (.aj (.p (0≤(6:Int)∧(6:Int) < ((7:Nat):Int))) (.aj (.t (pv dI ((((([]:List (Int × Int))++[(1,5)])++[(2,5)])++[(3,5)])++[(4,5)]))) (.o [.cast 29 (LI dI ((((([]:List (Int × Int))++[(1,5)])++[(2,5)])++[(3,5)])++[(4,5)]) aK (0:Int))]))) fun _ =>
 .fin (cT ((((([]:List (Int × Int))++[(1,5)])++[(2,5)])++[(3,5)])++[(4,5)]) aK (0:Int),xS ((((([]:List (Int × Int))++[(1,5)])++[(2,5)])++[(3,5)])++[(4,5)]) aK)
def FI aK:=(qd aK).val
theorem Jp (aK:Int):(qd aK).bC (fun _=>True):=by
 unfold qd
 exact mA
def LY aK:=kk tok mixed Tryz.func25 [iv 6,iv aK] (fun x=>.fD [iv x.1,bv x.2]) true (qd aK) (FI aK) (u0 (Jp aK))
def yY (kind:Int) (aK:Int):Int × Bool:=match kind.toNat with
 | 0=>FC aK
 | 1=>FD aK
 | 2=>FE aK
 | 3=>FF aK
 | 4=>FG aK
 | 5=>FH aK
 | _=>FI aK
theorem Ru (kind:Int) (aK:Int) (h:0≤kind∧kind < 7):gR Tryz.prog 25 [iv kind,iv aK] [] (.fD [iv ((yY kind aK).1),bv ((yY kind aK).2)]) []:=by
 have hk:kind=0∨kind=1∨kind=2∨kind=3∨kind=4∨kind=5∨kind=6:=by omega
 rcases hk with rfl | rfl | rfl | rfl | rfl | rfl | rfl
 ·exact (LR aK).pf trivial
 ·exact (LS aK).pf trivial
 ·exact (LU aK).pf trivial
 ·exact (LV aK).pf trivial
 ·exact (LW aK).pf trivial
 ·exact (LX aK).pf trivial
 ·exact (LY aK).pf trivial
def BW (kind aK:Int):Int × Bool :=
 if kind=0 then (if aK=0 then (1,true) else (0,false))
 else if kind=1 then (if aK=1 then (1,true) else if aK=2 then (2,true) else if aK=4 then (4,true) else (0,false))
 else if kind=2 then (if aK=1 then (2,true) else (0,false))
 else if kind=3 then (if aK=2 then (1,true) else (0,false))
 else if kind=4 then (if aK=1 then (3,true) else if aK=4 then (3,true) else (0,false))
 else if kind=5 then (if aK=3 then (4,true) else (0,false))
 else (if aK=1 then (5,true) else if aK=2 then (5,true) else if aK=3 then (5,true) else if aK=4 then (5,true) else (0,false))
theorem oz (l:List (Int × Int)) (a b s:Int):(cT ((a,b) :: l) s 0,xS ((a,b) :: l) s)=if s=a then (b,true) else (cT l s 0,xS l s):=by
 by_cases h:s=a
 ·simp [cT,xS,nK,h]
 ·have e:(s == a)=false:=by simpa using h
  simp [cT,xS,nK,h,e]
theorem Rv (kind aK:Int) (h:0≤kind∧kind < 7):yY kind aK=BW kind aK:=by
 have hk:kind=0∨kind=1∨kind=2∨kind=3∨kind=4∨kind=5∨kind=6:=by omega
 rcases hk with rfl | rfl | rfl | rfl | rfl | rfl | rfl
 ·show (cT [((0:Int),(1:Int))] aK 0,xS [((0:Int),(1:Int))] aK)=_
  rw [oz]
  rfl
 ·show (cT [((1:Int),(1:Int)),((2:Int),(2:Int)),((4:Int),(4:Int))] aK 0,xS [((1:Int),(1:Int)),((2:Int),(2:Int)),((4:Int),(4:Int))] aK)=_
  rw [oz,oz,oz]
  rfl
 ·show (cT [((1:Int),(2:Int))] aK 0,xS [((1:Int),(2:Int))] aK)=_
  rw [oz]
  rfl
 ·show (cT [((2:Int),(1:Int))] aK 0,xS [((2:Int),(1:Int))] aK)=_
  rw [oz]
  rfl
 ·show (cT [((1:Int),(3:Int)),((4:Int),(3:Int))] aK 0,xS [((1:Int),(3:Int)),((4:Int),(3:Int))] aK)=_
  rw [oz,oz]
  rfl
 ·show (cT [((3:Int),(4:Int))] aK 0,xS [((3:Int),(4:Int))] aK)=_
  rw [oz]
  rfl
 ·show (cT [((1:Int),(5:Int)),((2:Int),(5:Int)),((3:Int),(5:Int)),((4:Int),(5:Int))] aK 0,xS [((1:Int),(5:Int)),((2:Int),(5:Int)),((3:Int),(5:Int)),((4:Int),(5:Int))] aK)=_
  rw [oz,oz,oz,oz]
  rfl
theorem LZ (kind:Int) (aK:Int):(fun (x:Int × Bool)=>0≤kind∧kind < 7→x=BW kind aK) (yY kind aK):=Rv kind aK
def BX (kind:Int) (aK:Int):il (Int × Bool):=⟨Tryz.prog,25,[iv kind,iv aK],fun x=>.fD [iv x.1,bv x.2],true,yY kind aK,0≤kind∧kind < 7,fun h=>Ru kind aK h,fun (x:Int × Bool)=>0≤kind∧kind < 7→x=BW kind aK,LZ kind aK⟩
def uM (aq:List cS) (m:Move) (day:Int) (st:List Int) (ap:List (Int × Bool)):Int × Int × List Int × List (Int × Bool) :=
 if ¬ (0≤m.kind∧m.kind < 7)∨¬ (0≤m.day∧m.day < 100001)∨(m.kind=1∧¬ (0≤m.no∧m.no < 7)) then (1,day,st,ap)
 else if ¬ (0≤m.aL∧m.aL < aq.length) then (4,day,st,ap)
 else if m.day < day∨(m.kind=0∧m.day < (aq.getD m.aL.toNat default).day) then (13,day,st,ap)
 else if (BW m.kind (st.getD m.aL.toNat default)).2=false∨(m.kind=5∧cT ap m.aL false=true) then (7,day,st,ap)
 else (0,m.day,st.set m.aL.toNat (BW m.kind (st.getD m.aL.toNat default)).1,if m.kind=5 then nC ap m.aL true else ap)
theorem Zi (aq:List cS) (m:Move) (day:Int) (st:List Int) (ap:List (Int × Bool)):(uM aq m day st ap).2.2.1.length=st.length:=by
 unfold uM
 repeat' split
 all_goals simp
def lx (m:Move) (v:List cS) (v':Int) (gN:List Int) (cO:List (Int × Bool)):Sk (Int × Int × (List Int) × (List (Int × Bool))) :=
 .r 1 (.dep ((eW m.kind 7).c) fun x1=>.dep (.wh (!x1) false ((eW m.day 100001).c)) fun x2=>.wh ((!x1)||(!x2)) false (.wh (m.kind == 1) true ((eW m.no 7).c))) fun p6 =>
 .br (((!p6.1)||(!p6.2.1))||((m.kind == 1)&&(!p6.2.2)))
 (.fin (1,v',gN,cO))
 (.r 3 ((eW m.aL ((v.length:Nat):Int)).c) fun x4 =>
 .br (!x4)
 (.fin (4,v',gN,cO))
 (.r 5 (.wh (decide (m.day < v')) false (.wh (m.kind == 0) true (.p (bU m.aL v.length)))) fun _ =>
 .br ((decide (m.day < v'))||((m.kind == 0)&&(decide (m.day < ((v.getD m.aL.toNat default).day)))))
 (.fin (13,v',gN,cO))
 (.r 7 (.aj (.p (bU m.aL gN.length)) (.aj (.p (m.aL.toNat < gN.length)) ((BX m.kind (gN.getD m.aL.toNat default)).c))) fun x5 =>
 .r 8 (.wh (!x5.2) false (.wh (m.kind == 5) true (.aj (.t (pv dB cO)) (.o [.cast 80 (getM dB cO m.aL false)])))) fun _ =>
 .br ((!x5.2)||((m.kind == 5)&&(cT cO m.aL false)))
 (.fin (7,v',gN,cO))
 (.br (m.kind == 5)
 (.r 11 (.aj (.t (pv dB cO)) (.o [.aZ (Ws dB cO m.aL true)])) fun _ =>
 .r 12 (.aj (.p (bU m.aL gN.length)) (.aj (.o [.eG (uh dm gN m.aL.toNat x5.1)]) (.p (m.aL.toNat < gN.length)))) fun _ =>
 .wn 100006 gN.length (gN.set m.aL.toNat x5.1).length <|
 .fin (0,m.day,gN.set m.aL.toNat x5.1,nC cO m.aL true))
 (.r 12 (.aj (.p (bU m.aL gN.length)) (.aj (.o [.eG (uh dm gN m.aL.toNat x5.1)]) (.p (m.aL.toNat < gN.length)))) fun _ =>
 .wn 100006 gN.length (gN.set m.aL.toNat x5.1).length <|
 .fin (0,m.day,gN.set m.aL.toNat x5.1,cO))))))
def xm m v v' gN cO:=(lx m v v' gN cO).val
theorem Jq (m:Move) (v:List cS) (v':Int) (gN:List Int) (cO:List (Int × Bool)):(lx m v v' gN cO).dj (fun (x:Int × Int × (List Int) × (List (Int × Bool)))=>x=uM v m v' gN cO):=by
 refine Sk.bz _ ?_
 unfold lx
 simp only [Sk.de,Sk.aI,reduceCtorEq,ON,kk,kp,eW,BX,qG,forall_eq,maxLen]
 all_goals simp only [qG,LN] at *
 refine ⟨fun h=>?_,fun h1=>⟨fun h=>?_,fun h2 _=>⟨fun h=>?_,fun h3 he _=>⟨fun h=>?_,fun h4=>⟨fun h5 _ _=>?_,fun h5 _=>?_⟩⟩⟩⟩⟩
 ·unfold uM; rw [if_pos (by omega)]
 ·unfold uM; rw [if_neg (by omega),if_pos (by omega)]
 ·unfold uM; rw [if_neg (by omega),if_neg (by omega),if_pos (by omega)]
 ·rw [he (by omega)] at h
  unfold uM; rw [if_neg (by omega),if_neg (by omega),if_neg (by omega),if_pos h]
 all_goals rw [he (by omega)] at h4 ⊢
 all_goals unfold uM
 all_goals rw [if_neg (by omega),if_neg (by omega),if_neg (by omega),if_neg (by rintro (h | h) <;> simp_all)]
 ·rw [if_pos h5]
 ·rw [if_neg h5]
theorem He (m:Move) (v:List cS) (v':Int) (gN:List Int) (cO:List (Int × Bool)):(fun (x:Int × Int × (List Int) × (List (Int × Bool)))=>x=uM v m v' gN cO) (xm m v v' gN cO):=have h:=Sk.dk _ (Jq m v v' gN cO); h
theorem L0 (m:Move) (v:List cS) (v':Int) (gN:List Int) (cO:List (Int × Bool)) (hl:gN.length=v.length):(lx m v v' gN cO).bC (fun _=>True):=by
 unfold lx
 try simp only [eW,BX,qG]
 exact Bu
theorem Jr (m:Move) (v:List cS) (v':Int) (gN:List Int) (cO:List (Int × Bool)) (hl:gN.length=v.length):FnB Tryz.prog 24 [av m.cells,.ref [nJ cS.cells v],.ptr 7 0,.ptr 4 0,.ptr 6 0] [(7,.box [iv v']),(4,.box [ow 100006 gN]),(100006,bw 3 1 bI gN),(6,.box [.vr 100007]),(100007,SN dB cO)] ((fun (x:Int × Int × (List Int) × (List (Int × Bool)))=>iv x.1) (xm m v v' gN cO)) ((fun (x:Int × Int × (List Int) × (List (Int × Bool)))=>[(7,.box [iv x.2.1]),(4,.box [ow 600004 x.2.2.1]),(600004,bw 3 1 bI x.2.2.1),(6,.box [.vr 600006]),(600006,SN dB x.2.2.2)]) (xm m v v' gN cO)) [(2,7),(3,4),(4,6)] :=
 FnB.sk tok mixed (fun x=>iv x.1) (fun x=>[(7,.box [iv x.2.1]),(4,.box [ow 600004 x.2.2.1]),(600004,bw 3 1 bI x.2.2.1),(6,.box [.vr 600006]),(600006,SN dB x.2.2.2)]) [(2,7),(3,4),(4,6)] Tryz.func24 rfl (by kernel_rfl) 3000 (lx m v v' gN cO) (by kernel_rfl) (L0 m v v' gN cO hl)
def vW (m:Move) (v:List cS) (v':Int) (gN:List Int) (cO:List (Int × Bool)):LJ (Int × Int × (List Int) × (List (Int × Bool))):=⟨Tryz.prog,24,[av m.cells,.ref [nJ cS.cells v],.ptr 7 0,.ptr 4 0,.ptr 6 0],[(7,.box [iv v']),(4,.box [ow 100006 gN]),(100006,bw 3 1 bI gN),(6,.box [.vr 100007]),(100007,SN dB cO)],[(2,7),(3,4),(4,6)],fun x=>iv x.1,fun x=>[(7,.box [iv x.2.1]),(4,.box [ow 600004 x.2.2.1]),(600004,bw 3 1 bI x.2.2.1),(6,.box [.vr 600006]),(600006,SN dB x.2.2.2)],xm m v v' gN cO,(gN.length=v.length),fun h=>Jr m v v' gN cO h,fun (x:Int × Int × (List Int) × (List (Int × Bool)))=>x=uM v m v' gN cO,He m v v' gN cO⟩
theorem qV {α:Type} [Inhabited α] {l:List α} {n:Nat} (h:n < l.length):l.take (n+1)=l.take n++[l.getD n default]:=by
 rw [List.take_add_one]
 simp [List.getD,h]
def Jt (aq:List cS) (s:Int × List Int × List (Int × Bool)) (m:Move):Int × Int × List Int × List (Int × Bool):=uM aq m s.1 s.2.1 s.2.2
def ly (aq:List cS):List Move→Int × List Int × List (Int × Bool)→List Int × Int × List Int × List (Int × Bool)
 | [],s=>([],s)
 | m :: r,s=>((Jt aq s m).1 :: (ly aq r (Jt aq s m).2).1,(ly aq r (Jt aq s m).2).2)
theorem BZ (aq:List cS) (l r:List Move):∀ s,ly aq (l++r) s=((ly aq l s).1++(ly aq r (ly aq l s).2).1,(ly aq r (ly aq l s).2).2):=by
 induction l with
 | nil=>intro s; rfl
 | cons m l ih=>intro s; simp only [List.cons_append,ly,ih]
theorem L1 (aq:List cS) (l:List Move):∀ s,(ly aq l s).1.length=l.length:=by
 induction l with
 | nil=>intro s; rfl
 | cons m l ih=>intro s; simp only [ly,List.length_cons,ih]
theorem II (aq:List cS) (l:List Move):∀ s,(ly aq l s).2.2.1.length=s.2.1.length:=by
 induction l with
 | nil=>intro s; rfl
 | cons m l ih=>intro s; simp only [ly,ih]; exact Zi _ _ _ _ _
def u1 (aq:List cS):Int × List Int × List (Int × Bool):=(0,List.replicate aq.length 0,[])
theorem Hf (aq:List cS) (l:List Move) (n:Nat) (h:n < l.length) (s:Int × List Int × List (Int × Bool)):ly aq (l.take (n+1)) s=((ly aq (l.take n) s).1++[(Jt aq (ly aq (l.take n) s).2 (l.getD n default)).1],(Jt aq (ly aq (l.take n) s).2 (l.getD n default)).2):=by
 rw [qV h,BZ]
 rfl
def tP (aq:List cS) (az:List Move):Sk ((List Int) × (List Int)) :=
 .r 0 (.o [.pur 2]) fun _ =>
 .r 1 (.aj (.o [.eG (mkC dm aq.length 0)]) (.p (Zf ((aq.length:Nat):Int) 8))) fun _ =>
 .r 2 (.o [.aZ (sx dB)]) fun _ =>
 .bind true (fun b1=>(ly aq az (u1 aq)).1=b1.1∧(ly aq az (u1 aq)).2.2.1=b1.2)
 (.loop (default:Sum ((List Int) × (List Int)) ((List Int) × (List Int))) (fun i2=>i2.2.1≤az.length∧ly aq (az.take i2.2.1) (u1 aq)=(i2.1,i2.2.2.2.2,i2.2.2.1,i2.2.2.2.1)) (fun i2=>az.length - i2.2.1) (([],0,List.replicate aq.length (0:Int),([]:List (Int × Bool)),0):(List Int) × Nat × (List Int) × (List (Int × Bool)) × Int)
 (fun (i2:(List Int) × Nat × (List Int) × (List (Int × Bool)) × Int)=>⟨[(5,ow 100005 i2.1),(18,iv (i2.2.1:Int))],[(100005,bw 40 1 bI i2.1),(100006,bw 3 1 bI i2.2.2.1),(100007,SN dB i2.2.2.2.1),(4,.box [ow 100006 i2.2.2.1]),(6,.box [.vr 100007]),(7,.box [iv i2.2.2.2.2])]⟩) fun i2 =>
 .lt 16 0 i2.2.1 az.length
 (.r 7 (.p (bU (i2.2.1:Int) az.length)) fun _ =>
 .r 8 (.pz ((vW (az.getD i2.2.1 default) aq i2.2.2.2.2 i2.2.2.1 i2.2.2.2.1).c) fun x3=>.aj (.o [.eG (fm dm [x3.1])]) (.aj (.o [.eG (mY dm i2.1 [x3.1])]) (.aj (.t (dm.ou [x3.1])) (.p (yE i2.1.length [x3.1].length 8))))) fun x3 =>
 .nx 9 18 i2.2.1 (i2.1++[x3.1],i2.2.1+1,x3.2.2.1,x3.2.2.2,x3.2.1))
 (.fin (.inl (.inr (i2.1,i2.2.2.1)))))
 (fun (b1:(List Int) × (List Int))=>⟨[(5,ow 100003 b1.1)],[(100003,bw 40 1 bI b1.1),(100004,bw 3 1 bI b1.2),(4,.box [ow 100004 b1.2])]⟩) fun b1 =>
 .fin (b1.2,b1.1)
def L2 aq az:=(tP aq az).val
theorem Rw (aq:List cS) (az:List Move):(tP aq az).dj (fun (x:(List Int) × (List Int))=>x=((ly aq az (u1 aq)).2.2.1,(ly aq az (u1 aq)).1)):=by
 refine Sk.bz _ ?_
 unfold tP
 simp only [Sk.de,Sk.aI,reduceCtorEq,ON,kk,kp,vW,LJ.c,maxLen]
 all_goals simp only [LN] at *
 refine fun _ _ _=>⟨⟨⟨by omega,rfl⟩,fun i hi=>⟨fun gI _ x _ hx _=>⟨⟨by omega,?_⟩,by omega⟩,fun SK=>?_⟩⟩,fun b hb=>?_⟩
 ·have h:=Hf aq az i.2.1 (by omega) (u1 aq)
  rw [hi.2] at h
  rw [h,hx]; rfl
 ·have e:az.take i.2.1=az:=List.take_of_length_le (by omega)
  have h:=hi.2
  rw [e] at h
  rw [h]; exact ⟨rfl,rfl⟩
 ·rw [hb.1,hb.2]
theorem Ug (aq:List cS) (az:List Move) (hs:aq.length≤1000) (hm:az.length≤1000):(tP aq az).bC (fun _=>True):=by
 refine Sk.aR _ ?_
 unfold tP
 simp only [Sk.ju,Sk.aI,reduceCtorEq,ON,kk,kp,vW,LJ.c,maxLen]
 all_goals simp only [LN] at *
 refine fun _=>⟨⟨by omega,by omega,by omega⟩,fun _ _=>⟨⟨by omega,rfl⟩,fun i hi _=>⟨fun gI=>⟨by omega,fun _=>⟨⟨?_,fun x _ _=>?_⟩,fun x _ hx _=>⟨?_,⟨by omega,?_⟩,by omega⟩⟩⟩,fun SK=>?_⟩⟩⟩
 ·have h:=II aq (az.take i.2.1) (u1 aq)
  rw [hi.2] at h
  simpa [u1] using h
 ·have h:=L1 aq (az.take i.2.1) (u1 aq)
  rw [hi.2] at h
  simp only [List.length_take] at h
  omega
 ·rw [aA (by omega) (by omega)]; omega
 ·have h:=Hf aq az i.2.1 (by omega) (u1 aq)
  rw [hi.2] at h
  rw [h,hx]; rfl
 ·have e:az.take i.2.1=az:=List.take_of_length_le (by omega)
  have h:=hi.2
  rw [e] at h
  rw [h]; exact ⟨rfl,rfl⟩
def sK aq az:=kp tok mixed Tryz.func10 [lv cS.cells aq,lv Move.cells az] (fun x=>.fD [lv bI x.1,lv bI x.2]) false (L2 aq az) (u2 (Ug aq az)) (Rw aq az)
def qe (a:List Int) (b:List Int):Sk (Bool) :=
 .br (((a.length:Nat):Int) != ((b.length:Nat):Int))
 (.fin false)
 (.bt
 (.loop (default:Sum (Bool) (Unit)) (fun i2=>i2≤a.length) (fun i2=>a.length - i2) (0:Nat)
 (fun (i2:Nat)=>⟨[(5,iv (i2:Int))],[]⟩) fun i2 =>
 .lt 0 0 i2 a.length
 (.r 6 (.aj (.p (bU (i2:Int) a.length)) (.p (bU (i2:Int) b.length))) fun _ =>
 .br ((a.getD i2 default) != (b.getD i2 default))
 (.fin (.inl (.inl false)))
 (.nx 5 5 i2 (i2+1)))
 (.fin (.inl (.inr ()))))
 (fun (_:Unit)=>⟨[],[]⟩) fun _ =>
 .fin true)
def Rx a b:=(qe a b).val
theorem Ju (a:List Int) (b:List Int):(qe a b).bC (fun _=>True):=by
 unfold qe
 exact mA
def vX a b:=kk tok mixed Tryz.func11 [lv bI a,lv bI b] (fun x=>bv x) true (qe a b) (Rx a b) (u0 (Ju a b))
def iz (a:List Int) (b:List Int):Sk (Bool) :=
 .br (((a.length:Nat):Int) != ((b.length:Nat):Int))
 (.fin false)
 (.bt
 (.loop (default:Sum (Bool) (Unit)) (fun i2=>i2≤a.length) (fun i2=>a.length - i2) (0:Nat)
 (fun (i2:Nat)=>⟨[(5,iv (i2:Int))],[]⟩) fun i2 =>
 .lt 0 0 i2 a.length
 (.r 6 (.aj (.p (bU (i2:Int) a.length)) (.p (bU (i2:Int) b.length))) fun _ =>
 .br ((a.getD i2 default) != (b.getD i2 default))
 (.fin (.inl (.inl false)))
 (.nx 5 5 i2 (i2+1)))
 (.fin (.inl (.inr ()))))
 (fun (_:Unit)=>⟨[],[]⟩) fun _ =>
 .fin true)
def B0 a b:=(iz a b).val
theorem Ep (a:List Int) (b:List Int) (hP:a=b):(iz a b).dj (fun (x:Bool)=>x=true):=by
 unfold iz
 exact Fz
theorem DB (a:List Int) (b:List Int):(fun (x:Bool)=>(a=b)→(x=true)) (B0 a b):=fun hP=>Sk.dk _ (Ep a b hP)
theorem FJ (a:List Int) (b:List Int):(iz a b).bC (fun _=>True):=by
 unfold iz
 exact mA
def sL a b:=kk tok mixed Tryz.func12 [lv bI a,lv bI b] (fun x=>bv x) true (iz a b) (B0 a b) (u0 (FJ a b)) (fun (x:Bool)=>(a=b)→(x=true)) (DB a b)
structure vY where
 aL:Int
 sum:Int
 au:Int
 state:Int
 deriving Inhabited
def vY.cells (c:vY):List D:=[dI c.aL,dI c.sum,dI c.au,dI c.state]
def nL (r:ah):Sk ((List ByteArray) × (List ByteArray) × (List ByteArray)) :=
 .bind true (fun b1=>b1.length≤0+r.aN.length)
 (.loop (default:Sum ((List ByteArray) × (List ByteArray) × (List ByteArray)) ((List ByteArray))) (fun i2=>i2.2≤r.aN.length∧i2.1.length≤0+i2.2) (fun i2=>r.aN.length - i2.2) (([],0):(List ByteArray) × Nat)
 (fun (i2:(List ByteArray) × Nat)=>⟨[(2,ow 100002 i2.1),(14,iv (i2.2:Int))],[(100002,bw 9 1 ki i2.1)]⟩) fun i2 =>
 .lt 12 0 i2.2 r.aN.length
 (.r 3 (.p (bU (i2.2:Int) r.aN.length)) fun _ =>
 .r 4 (.aj (.o [.eG (fm yT [(r.aN.getD i2.2 default).name])]) (.aj (.o [.eG (mY yT i2.1 [(r.aN.getD i2.2 default).name])]) (.aj (.t (yT.ou [(r.aN.getD i2.2 default).name])) (.p (yE i2.1.length [(r.aN.getD i2.2 default).name].length 16))))) fun _ =>
 .nx 5 14 i2.2 (i2.1++[(r.aN.getD i2.2 default).name],i2.2+1))
 (.fin (.inl (.inr i2.1))))
 (fun (b1:(List ByteArray))=>⟨[(2,ow 100001 b1)],[(100001,bw 9 1 ki b1)]⟩) fun b1 =>
 .bind true (fun b3=>b3.length≤0+r.bu.length)
 (.loop (default:Sum ((List ByteArray) × (List ByteArray) × (List ByteArray)) ((List ByteArray))) (fun i4=>i4.2≤r.bu.length∧i4.1.length≤0+i4.2) (fun i4=>r.bu.length - i4.2) (([],0):(List ByteArray) × Nat)
 (fun (i4:(List ByteArray) × Nat)=>⟨[(3,ow 100005 i4.1),(27,iv (i4.2:Int))],[(100005,bw 9 1 ki i4.1)]⟩) fun i4 =>
 .lt 25 0 i4.2 r.bu.length
 (.r 8 (.p (bU (i4.2:Int) r.bu.length)) fun _ =>
 .r 9 (.aj (.o [.eG (fm yT [(r.bu.getD i4.2 default).name])]) (.aj (.o [.eG (mY yT i4.1 [(r.bu.getD i4.2 default).name])]) (.aj (.t (yT.ou [(r.bu.getD i4.2 default).name])) (.p (yE i4.1.length [(r.bu.getD i4.2 default).name].length 16))))) fun _ =>
 .nx 10 27 i4.2 (i4.1++[(r.bu.getD i4.2 default).name],i4.2+1))
 (.fin (.inl (.inr i4.1))))
 (fun (b3:(List ByteArray))=>⟨[(3,ow 100004 b3)],[(100004,bw 9 1 ki b3)]⟩) fun b3 =>
 .bind true (fun b5=>b5.length≤0+r.aE.length)
 (.loop (default:Sum ((List ByteArray) × (List ByteArray) × (List ByteArray)) ((List ByteArray))) (fun i6=>i6.2≤r.aE.length∧i6.1.length≤0+i6.2) (fun i6=>r.aE.length - i6.2) (([],0):(List ByteArray) × Nat)
 (fun (i6:(List ByteArray) × Nat)=>⟨[(4,ow 100008 i6.1),(40,iv (i6.2:Int))],[(100008,bw 9 1 ki i6.1)]⟩) fun i6 =>
 .lt 38 0 i6.2 r.aE.length
 (.r 13 (.p (bU (i6.2:Int) r.aE.length)) fun _ =>
 .r 14 (.aj (.o [.eG (fm yT [(r.aE.getD i6.2 default).name])]) (.aj (.o [.eG (mY yT i6.1 [(r.aE.getD i6.2 default).name])]) (.aj (.t (yT.ou [(r.aE.getD i6.2 default).name])) (.p (yE i6.1.length [(r.aE.getD i6.2 default).name].length 16))))) fun _ =>
 .nx 15 40 i6.2 (i6.1++[(r.aE.getD i6.2 default).name],i6.2+1))
 (.fin (.inl (.inr i6.1))))
 (fun (b5:(List ByteArray))=>⟨[(4,ow 100007 b5)],[(100007,bw 9 1 ki b5)]⟩) fun b5 =>
 .fin (b1,b3,b5)
def Uh r:=(nL r).val
theorem Jv (r:ah):(nL r).dj (fun (x:(List ByteArray) × (List ByteArray) × (List ByteArray))=>x.1.length≤r.aN.length∧x.2.1.length≤r.bu.length∧x.2.2.length≤r.aE.length):=by
 unfold nL
 try simp only [ak.Small,ah.Small]
 exact Fz
theorem L3 (r:ah) (hr:r.Small):(nL r).bC (fun _=>True):=by
 simp only [ak.Small,ah.Small] at hr
 unfold nL
 try simp only [ak.Small,ah.Small]
 exact mA
def xT r:=kp tok mixed Tryz.func78 [av r.cells] (fun x=>.fD [lv ki x.1,lv ki x.2.1,lv ki x.2.2]) false (Uh r) (L3 r) (Jv r)
def qf (s:ByteArray):Sk (Bool) :=
 .br ((s.toList == (⟨#[]⟩:ByteArray).toList)||(decide (((s.size:Nat):Int) > 20)))
 (.fin false)
 (.r 3 (.aj (.o [.eG (aeo s)]) (.p (s.size≤maxLen))) fun _ =>
 .bt
 (.loop (default:Sum (Bool) (Unit)) (fun i2=>i2≤(py s).length) (fun i2=>(py s).length - i2) (0:Nat)
 (fun (i2:Nat)=>⟨[(16,iv (i2:Int))],[]⟩) fun i2 =>
 .lt 14 0 i2 ((py s).length)
 (.r 5 (.p (bU (i2:Int) ((py s).length))) fun _ =>
 .br ((!(((decide (((py s).getD i2 default)≥97))&&(decide (((py s).getD i2 default)≤122)))||((decide (((py s).getD i2 default)≥65))&&(decide (((py s).getD i2 default)≤90)))))&&(((i2:Int) == 0)||((((py s).getD i2 default) != 95)&&((decide (((py s).getD i2 default) < 48))||(decide (((py s).getD i2 default) > 57))))))
 (.fin (.inl (.inl false)))
 (.nx 9 16 i2 (i2+1)))
 (.fin (.inl (.inr ()))))
 (fun (_:Unit)=>⟨[],[]⟩) fun _ =>
 .fin true)
def Ry s:=(qf s).val
theorem Jw (s:ByteArray):(qf s).bC (fun _=>True):=by
 unfold qf
 exact mA
def B1 s:=kk tok mixed Tryz.func139 [sv s] (fun x=>bv x) true (qf s) (Ry s) (u0 (Jw s))
def lz (s:List ByteArray) (v:ByteArray):Sk (Int) :=
 .bind true (fun b1=>∀ q,q < s.length→((s.getD q default).toList == v.toList)=false)
 (.loop (default:Sum (Int) (Unit)) (fun i2=>∀ q,q < i2→((s.getD q default).toList == v.toList)=false) (fun i2=>s.length - i2) (0:Nat)
 (fun (i2:Nat)=>⟨[(8,iv (i2:Int))],[]⟩) fun i2 =>
 .lt 0 0 i2 s.length
 (.r 4 (.p (bU (i2:Int) s.length)) fun _ =>
 .br (v.toList == (s.getD i2 default).toList)
 (.fin (.inl (.inl (i2:Int))))
 (.nx 6 8 i2 (i2+1)))
 (.fin (.inl (.inr ()))))
 (fun (_:Unit)=>⟨[],[]⟩) fun _ =>
 .fin (-1)
def OE s v:=(lz s v).val
theorem FK (s:List ByteArray) (v:ByteArray):(lz s v).dj (fun (x:Int)=>(x = -1∧∀ q,q < s.length→((s.getD q default).toList == v.toList)=false)∨(0≤x∧x < s.length∧((s.getD x.toNat default).toList == v.toList)=true∧∀ q,(q:Nat) < x.toNat→((s.getD q default).toList == v.toList)=false)):=by
 unfold lz
 exact Fz
theorem Hg (s:List ByteArray) (v:ByteArray):(lz s v).bC (fun _=>True):=by
 unfold lz
 exact mA
def ui s v:=kp tok mixed Tryz.func172 [lv ki s,sv v] (fun x=>iv x) true (OE s v) (u0 (Hg s v)) (FK s v)
def iL (s:List ByteArray) (v:ByteArray):Sk (Bool) :=
 .r 1 ((ui s v).c) fun x1 =>
 .fin (decide (x1≥0))
def Hh s v:=(iL s v).val
theorem B2 (s:List ByteArray) (v:ByteArray):(iL s v).dj (fun (x:Bool)=>(x=true↔∃ q,q < s.length∧((s.getD q default).toList == v.toList)=true)):=by
 unfold iL
 try simp only [ui]
 exact Fz
theorem DC (s:List ByteArray) (v:ByteArray):(iL s v).bC (fun _=>True):=by
 unfold iL
 try simp only [ui]
 exact qT
def vZ s v:=kp tok mixed Tryz.func140 [lv ki s,sv v] (fun x=>bv x) true (Hh s v) (u0 (DC s v)) (B2 s v)
def rG (names:List ByteArray) (i:Int):Sk (Int) :=
 .r 1 (.aj (.p (bU i names.length)) ((B1 (names.getD i.toNat default)).c)) fun x1 =>
 .br (!x1)
 (.fin 2)
 (.r 3 (.aj (.aj (.o [.eG (aep yT names 0 i.toNat)]) (.pt (0≤i∧i≤((names.length:Nat):Int)) (yT.lens names))) (.aj (.p (bU i names.length)) ((vZ (mZ names 0 i.toNat) (names.getD i.toNat default)).c))) fun x2 =>
 .br x2
 (.fin 5)
 (.fin 0))
def Ui names i:=(rG names i).val
theorem L4 (names:List ByteArray) (i:Int) (hi:0≤i∧i < (names.length:Int)):(rG names i).bC (fun _=>True):=by
 unfold rG
 try simp only [B1,vZ]
 exact mA
def jf names i:=kk tok mixed Tryz.func112 [lv ki names,iv i] (fun x=>iv x) true (rG names i) (Ui names i) (L4 names i)
def nc (p:Int):Sk (Bool) :=
 .fin true
def B3 p:=(nc p).val
theorem FL (p:Int):B3 p=true:=rfl
theorem FM (p:Int):(nc p).bC (fun _=>True):=by
 unfold nc
 exact qT
def yZ p:=kk tok mixed Tryz.func80 [iv p] (fun x=>bv x) true (nc p) (B3 p) (u0 (FM p))
def oA (names:List ByteArray) (gC:Int):Sk (Int) :=
 .br (decide (((names.length:Nat):Int) > gC))
 (.fin 6)
 (.bt
 (.loop (default:Sum (Int) (Unit)) (fun i2=>i2≤names.length) (fun i2=>names.length - i2) (0:Nat)
 (fun (i2:Nat)=>⟨[(15,iv (i2:Int))],[]⟩) fun i2 =>
 .lt 0 0 i2 names.length
 (.r 6 ((jf names (i2:Int)).c) fun x3 =>
 .br (x3 != 0)
 (.fin (.inl (.inl x3)))
 (.r 9 ((yZ (i2:Int)).c) fun x4 =>
 .br (!x4)
 (.fin (.inl (.inl 1)))
 (.nx 11 15 i2 (i2+1))))
 (.fin (.inl (.inr ()))))
 (fun (_:Unit)=>⟨[],[]⟩) fun _ =>
 .fin 0)
def OG names gC:=(oA names gC).val
theorem Hi (names:List ByteArray) (gC:Int):(oA names gC).bC (fun _=>True):=by
 unfold oA
 try simp only [yZ,jf,FL]
 exact Bu
def uj names gC:=kk tok mixed Tryz.func79 [lv ki names,iv gC,.fn 80 []] (fun x=>iv x) true (oA names gC) (OG names gC) (u0 (Hi names gC))
def xn (i:Int) (n:Int):Sk (Bool) :=
 .fin ((decide (i≥0))&&(decide (i < n)))
def Uj i n:=(xn i n).val
theorem kj (i:Int) (n:Int):Uj i n=((decide (i≥0))&&(decide (i < n))):=rfl
theorem Uk (i:Int) (n:Int):(xn i n).bC (fun _=>True):=by
 unfold xn
 exact qT
def cK i n:=kk tok mixed Tryz.func83 [iv i,iv n] (fun x=>bv x) true (xn i n) (Uj i n) (u0 (Uk i n))
def qg (l:List Int) (low:Int) (high:Int):Sk (Bool) :=
 .bt
 (.loop (default:Sum (Bool) (Unit)) (fun i2=>i2≤l.length) (fun i2=>l.length - i2) (0:Nat)
 (fun (i2:Nat)=>⟨[(11,iv (i2:Int))],[]⟩) fun i2 =>
 .lt 0 0 i2 l.length
 (.r 3 (.p (bU (i2:Int) l.length)) fun _ =>
 .r 4 (.wh ((decide ((l.getD i2 default) < low))||(decide ((l.getD i2 default) > high))) false (.wh (decide ((i2:Int) > 0)) true (.p (bU (ar ((i2:Int) - 1)) l.length)))) fun _ =>
 .br (((decide ((l.getD i2 default) < low))||(decide ((l.getD i2 default) > high)))||((decide ((i2:Int) > 0))&&(decide ((l.getD i2 default)≤(l.getD ((ar ((i2:Int) - 1)).toNat) default)))))
 (.fin (.inl (.inl false)))
 (.nx 6 11 i2 (i2+1)))
 (.fin (.inl (.inr ()))))
 (fun (_:Unit)=>⟨[],[]⟩) fun _ =>
 .fin true
def Rz l low high:=(qg l low high).val
theorem Jy (l:List Int) (low:Int) (high:Int):(qg l low high).bC (fun _=>True):=by
 unfold qg
 exact mA
def jv l low high:=kk tok mixed Tryz.func113 [lv bI l,iv low,iv high] (fun x=>bv x) true (qg l low high) (Rz l low high) (u0 (Jy l low high))
def s9 (r:ah) (c_:kP):Sk (Bool) :=
 .bt
 (.loop (default:Sum (Bool) (Unit)) (fun i2=>i2≤c_.gT.length) (fun i2=>c_.gT.length - i2) (0:Nat)
 (fun (i2:Nat)=>⟨[(10,iv (i2:Int))],[]⟩) fun i2 =>
 .lt 8 0 i2 c_.gT.length
 (.r 3 (.p (bU (i2:Int) c_.gT.length)) fun _ =>
 .r 4 (.aj (.p ((100:Int)≠0)) (.wh (decide (((c_.gT.getD i2 default).tmod 100) < 1)) false (.p ((100:Int)≠0)))) fun _ =>
 .br ((decide (((c_.gT.getD i2 default).tmod 100) < 1))||(decide (((c_.gT.getD i2 default).tmod 100) > 31)))
 (.fin (.inl (.inl false)))
 (.nx 6 10 i2 (i2+1)))
 (.fin (.inl (.inr ()))))
 (fun (_:Unit)=>⟨[],[]⟩) fun _ =>
 .r 7 (.dep (.wh ((decide (((c_.gT.length:Nat):Int) > 60))||(decide (((c_.shut.length:Nat):Int) > 200))) false ((cK c_.order ((r.aE.length:Nat):Int)).c)) fun x3=>.wh (((decide (((c_.gT.length:Nat):Int) > 60))||(decide (((c_.shut.length:Nat):Int) > 200)))||(!x3)) false ((cK c_.au ((r.cz.length:Nat):Int)).c)) fun p9 =>
 .br ((((decide (((c_.gT.length:Nat):Int) > 60))||(decide (((c_.shut.length:Nat):Int) > 200)))||(!p9.1))||(!p9.2))
 (.fin false)
 (.r 9 (.dep ((jv c_.rest 0 6).c) fun x5=>.dep (.wh x5 true ((jv c_.gT 101 1231).c)) fun x6=>.wh (x5&&x6) true ((jv c_.shut 0 100000).c)) fun p8 =>
 .fin ((p8.1&&p8.2.1)&&p8.2.2))
def Wz r c_:=(s9 r c_).val
theorem OH (r:ah) (c_:kP):(s9 r c_).bC (fun _=>True):=by
 unfold s9
 try simp only [cK,jv,kj]
 exact Bu
def FN r c_:=kk tok mixed Tryz.func82 [av r.cells,av c_.cells] (fun x=>bv x) true (s9 r c_) (Wz r c_) (u0 (OH r c_))
def nd (i:Int) (v:ah):Sk (Bool) :=
 .r 1 (.aj (.p (bU i v.aN.length)) ((FN v (v.aN.getD i.toNat default)).c)) fun x1 =>
 .fin x1
def L5 i v:=(nd i v).val
theorem FO (i:Int) (v:ah) (hi:0≤i∧i < (v.aN.length:Int)):(nd i v).bC (fun _=>True):=by
 unfold nd
 try simp only [FN]
 exact mA
def za i v:=kk tok mixed Tryz.func81 [iv i,.ref v.cells] (fun x=>bv x) true (nd i v) (L5 i v) (FO i v)
def oB (names:List ByteArray) (gC:Int) (v:ah):Sk (Int) :=
 .br (decide (((names.length:Nat):Int) > gC))
 (.fin 6)
 (.bt
 (.loop (default:Sum (Int) (Unit)) (fun i2=>i2≤names.length) (fun i2=>names.length - i2) (0:Nat)
 (fun (i2:Nat)=>⟨[(15,iv (i2:Int))],[]⟩) fun i2 =>
 .lt 0 0 i2 names.length
 (.r 6 ((jf names (i2:Int)).c) fun x3 =>
 .br (x3 != 0)
 (.fin (.inl (.inl x3)))
 (.r 9 ((za (i2:Int) v).c) fun x4 =>
 .br (!x4)
 (.fin (.inl (.inl 1)))
 (.nx 11 15 i2 (i2+1))))
 (.fin (.inl (.inr ()))))
 (fun (_:Unit)=>⟨[],[]⟩) fun _ =>
 .fin 0)
def OI names gC v:=(oB names gC v).val
theorem Hj (names:List ByteArray) (gC:Int) (v:ah) (hv:names.length≤v.aN.length):(oB names gC v).bC (fun _=>True):=by
 unfold oB
 try simp only [za,jf]
 exact mA
def uk names gC v:=kk tok mixed Tryz.func79 [lv ki names,iv gC,.fn 81 [.ref v.cells]] (fun x=>iv x) true (oB names gC v) (OI names gC v) (Hj names gC v)
def nf (i:Int) (v:ah):Sk (Bool) :=
 .r 1 (.aj (.p (bU i v.bu.length)) (.dep ((cK ((v.bu.getD i.toNat default).cH) ((v.aN.length:Nat):Int)).c) fun x1=>.aj (.wh x1 true (.p (bU i v.bu.length))) (.wh x1 true ((cK ((v.bu.getD i.toNat default).group) ((v.gh.length:Nat):Int)).c)))) fun p3 =>
 .fin (p3.1&&p3.2)
def L6 i v:=(nf i v).val
theorem FP (i:Int) (v:ah) (hi:0≤i∧i < (v.bu.length:Int)):(nf i v).bC (fun _=>True):=by
 unfold nf
 try simp only [cK,kj]
 exact Bu
def zb i v:=kk tok mixed Tryz.func84 [iv i,.ref v.cells] (fun x=>bv x) true (nf i v) (L6 i v) (FP i v)
def oC (names:List ByteArray) (gC:Int) (v:ah):Sk (Int) :=
 .br (decide (((names.length:Nat):Int) > gC))
 (.fin 6)
 (.bt
 (.loop (default:Sum (Int) (Unit)) (fun i2=>i2≤names.length) (fun i2=>names.length - i2) (0:Nat)
 (fun (i2:Nat)=>⟨[(15,iv (i2:Int))],[]⟩) fun i2 =>
 .lt 0 0 i2 names.length
 (.r 6 ((jf names (i2:Int)).c) fun x3 =>
 .br (x3 != 0)
 (.fin (.inl (.inl x3)))
 (.r 9 ((zb (i2:Int) v).c) fun x4 =>
 .br (!x4)
 (.fin (.inl (.inl 1)))
 (.nx 11 15 i2 (i2+1))))
 (.fin (.inl (.inr ()))))
 (fun (_:Unit)=>⟨[],[]⟩) fun _ =>
 .fin 0)
def OJ names gC v:=(oC names gC v).val
theorem Hk (names:List ByteArray) (gC:Int) (v:ah) (hv:names.length≤v.bu.length):(oC names gC v).bC (fun _=>True):=by
 unfold oC
 try simp only [zb,jf]
 exact mA
def um names gC v:=kk tok mixed Tryz.func79 [lv ki names,iv gC,.fn 84 [.ref v.cells]] (fun x=>iv x) true (oC names gC v) (OJ names gC v) (Hk names gC v)
def rH (o:Order):Sk (Bool) :=
 .bind true (fun b1=>b1.length≤0+o.ba.length)
 (.loop (default:Sum (Bool) ((List Int))) (fun i2=>i2.2≤o.ba.length∧i2.1.length≤0+i2.2) (fun i2=>o.ba.length - i2.2) (([],0):(List Int) × Nat)
 (fun (i2:(List Int) × Nat)=>⟨[(3,ow 100002 i2.1),(12,iv (i2.2:Int))],[(100002,bw 3 1 bI i2.1)]⟩) fun i2 =>
 .lt 10 0 i2.2 o.ba.length
 (.r 4 (.p (bU (i2.2:Int) o.ba.length)) fun _ =>
 .r 5 (.aj (.o [.eG (fm dm [(o.ba.getD i2.2 default).ask])]) (.aj (.o [.eG (mY dm i2.1 [(o.ba.getD i2.2 default).ask])]) (.aj (.t (dm.ou [(o.ba.getD i2.2 default).ask])) (.p (yE i2.1.length [(o.ba.getD i2.2 default).ask].length 8))))) fun _ =>
 .r 6 ((cK ((o.ba.getD i2.2 default).c9) 5).c) fun x3 =>
 .br (!x3)
 (.fin (.inl (.inl false)))
 (.nx 8 12 i2.2 (i2.1++[(o.ba.getD i2.2 default).ask],i2.2+1)))
 (.fin (.inl (.inr i2.1))))
 (fun (b1:(List Int))=>⟨[(3,ow 100001 b1)],[(100001,bw 3 1 bI b1)]⟩) fun b1 =>
 .bind true (fun b4=>b4.length≤0+o.rules.length)
 (.loop (default:Sum (Bool) ((List Int))) (fun i5=>i5.2≤o.rules.length∧i5.1.length≤0+i5.2) (fun i5=>o.rules.length - i5.2) (([],0):(List Int) × Nat)
 (fun (i5:(List Int) × Nat)=>⟨[(4,ow 100005 i5.1),(29,iv (i5.2:Int))],[(100005,bw 3 1 bI i5.1)]⟩) fun i5 =>
 .lt 27 0 i5.2 o.rules.length
 (.r 11 (.p (bU (i5.2:Int) o.rules.length)) fun _ =>
 .r 12 (.aj (.o [.eG (fm dm [(o.rules.getD i5.2 default).ask])]) (.aj (.o [.eG (mY dm i5.1 [(o.rules.getD i5.2 default).ask])]) (.aj (.t (dm.ou [(o.rules.getD i5.2 default).ask])) (.p (yE i5.1.length [(o.rules.getD i5.2 default).ask].length 8))))) fun _ =>
 .nx 13 29 i5.2 (i5.1++[(o.rules.getD i5.2 default).ask],i5.2+1))
 (.fin (.inl (.inr i5.1))))
 (fun (b4:(List Int))=>⟨[(4,ow 100004 b4)],[(100004,bw 3 1 bI b4)]⟩) fun b4 =>
 .r 14 (.dep ((jv b1 0 21).c) fun x6=>.wh x6 true ((jv b4 0 21).c)) fun p8 =>
 .fin (p8.1&&p8.2)
def Ul o:=(rH o).val
theorem L7 (o:Order) (ho:o.ba.length≤1000000∧o.rules.length≤1000000):(rH o).bC (fun _=>True):=by
 unfold rH
 try simp only [cK,jv,kj]
 exact Bu
def DZ o:=kk tok mixed Tryz.func86 [av o.cells] (fun x=>bv x) true (rH o) (Ul o) (L7 o)
def ng (i:Int) (v:ah):Sk (Bool) :=
 .r 1 (.aj (.p (bU i v.aE.length)) ((DZ (v.aE.getD i.toNat default)).c)) fun x1 =>
 .fin x1
def L8 i v:=(ng i v).val
theorem FQ (i:Int) (v:ah) (hi:0≤i∧i < (v.aE.length:Int)) (hv:v.Small):(ng i v).bC (fun _=>True):=by
 simp only [ak.Small,ah.Small] at hv
 unfold ng
 try simp only [DZ,ak.Small,ah.Small]
 exact mA
def zc i v:=kk tok mixed Tryz.func85 [iv i,.ref v.cells] (fun x=>bv x) true (ng i v) (L8 i v) (u2 (FQ i v))
def oD (names:List ByteArray) (gC:Int) (v:ah):Sk (Int) :=
 .br (decide (((names.length:Nat):Int) > gC))
 (.fin 6)
 (.bt
 (.loop (default:Sum (Int) (Unit)) (fun i2=>i2≤names.length) (fun i2=>names.length - i2) (0:Nat)
 (fun (i2:Nat)=>⟨[(15,iv (i2:Int))],[]⟩) fun i2 =>
 .lt 0 0 i2 names.length
 (.r 6 ((jf names (i2:Int)).c) fun x3 =>
 .br (x3 != 0)
 (.fin (.inl (.inl x3)))
 (.r 9 ((zc (i2:Int) v).c) fun x4 =>
 .br (!x4)
 (.fin (.inl (.inl 1)))
 (.nx 11 15 i2 (i2+1))))
 (.fin (.inl (.inr ()))))
 (fun (_:Unit)=>⟨[],[]⟩) fun _ =>
 .fin 0)
def OK names gC v:=(oD names gC v).val
theorem Hl (names:List ByteArray) (gC:Int) (v:ah) (hv:names.length≤v.aE.length) (hs:v.Small):(oD names gC v).bC (fun _=>True):=by
 simp only [ak.Small,ah.Small] at hs
 unfold oD
 try simp only [zc,jf,ak.Small,ah.Small]
 exact mA
def uo names gC v:=kk tok mixed Tryz.func79 [lv ki names,iv gC,.fn 85 [.ref v.cells]] (fun x=>iv x) true (oD names gC v) (OK names gC v) (u2 (Hl names gC v))
def oE (r:ah):Sk (Int) :=
 .br (decide (((r.bg.length:Nat):Int) > 100))
 (.fin 6)
 (.bt
 (.loop (default:Sum (Int) (Unit)) (fun i2=>i2≤r.bg.length) (fun i2=>r.bg.length - i2) (0:Nat)
 (fun (i2:Nat)=>⟨[(14,iv (i2:Int))],[]⟩) fun i2 =>
 .lt 12 0 i2 r.bg.length
 (.bt
 (.r 5 (.p (bU (i2:Int) r.bg.length)) fun _ =>
 .r 6 (.dep ((cK ((r.bg.getD i2 default).from_) ((r.aN.length:Nat):Int)).c) fun x4=>.wh (!x4) false ((cK ((r.bg.getD i2 default).cM) ((r.aN.length:Nat):Int)).c)) fun p8 =>
 .br ((((!p8.1)||(!p8.2))||(decide (((r.bg.getD i2 default).days) < 1)))||(decide (((r.bg.getD i2 default).days) > 20000)))
 (.fin (.inl (.inl (.inl 1))))
 (.r 8 (.aj (.o [.eG (aep ev.E r.bg 0 i2)]) (.pt (0≤(i2:Int)∧(i2:Int)≤((r.bg.length:Nat):Int)) (ev.E.lens r.bg))) fun _ =>
 .bt
 (.loop (default:Sum (Sum (Sum (Sum (Int) (Unit)) (Nat)) (Int × Int × ev × Int × (List kP) × Int × Bool × Bool × Bool × Bool × Bool × Bool × Bool × Bool × (List ev) × Int × (List ev) × Int × Int × Bool)) (Int × Bool)) (fun i7=>i7≤(mZ r.bg 0 i2).length) (fun i7=>(mZ r.bg 0 i2).length - i7) (0:Nat)
 (fun (i7:Nat)=>⟨[(50,iv (i7:Int))],[]⟩) fun i7 =>
 .lt 48 0 i7 ((mZ r.bg 0 i2).length)
 (.r 10 (.p (bU (i7:Int) ((mZ r.bg 0 i2).length))) fun _ =>
 .br (((((mZ r.bg 0 i2).getD i7 default).from_) == ((r.bg.getD i2 default).from_))&&((((mZ r.bg 0 i2).getD i7 default).cM) == ((r.bg.getD i2 default).cM)))
 (.fin (.inl (.inl (.inl (.inl (.inl 5))))))
 (.nx 13 50 i7 (i7+1)))
 (.fin (.inl (.inr ((i7:Int),decide ((i7:Int) < (((mZ r.bg 0 i2).length:Nat):Int)))))))
 (fun (b6:Int × Bool)=>⟨[(50,iv b6.1),(51,bv b6.2)],[]⟩) fun b6 =>
 .fin (.inr ((i2:Int),(i2:Int),r.bg.getD i2 default,(r.bg.getD i2 default).from_,r.aN,((r.aN.length:Nat):Int),p8.1,!p8.1,!p8.1,(!p8.1)||(!p8.2),(!p8.1)||(!p8.2),((!p8.1)||(!p8.2))||(decide (((r.bg.getD i2 default).days) < 1)),((!p8.1)||(!p8.2))||(decide (((r.bg.getD i2 default).days) < 1)),(((!p8.1)||(!p8.2))||(decide (((r.bg.getD i2 default).days) < 1)))||(decide (((r.bg.getD i2 default).days) > 20000)),r.bg,(i2:Int),mZ r.bg 0 i2,(((mZ r.bg 0 i2).length:Nat):Int),b6.1,b6.2))))
 (fun (b3:Int × Int × ev × Int × (List kP) × Int × Bool × Bool × Bool × Bool × Bool × Bool × Bool × Bool × (List ev) × Int × (List ev) × Int × Int × Bool)=>⟨[(3,iv b3.1),(16,iv b3.2.1),(18,av b3.2.2.1.cells),(20,iv b3.2.2.2.1),(22,lv kP.cells b3.2.2.2.2.1),(23,iv b3.2.2.2.2.2.1),(24,bv b3.2.2.2.2.2.2.1),(25,bv b3.2.2.2.2.2.2.2.1),(26,bv b3.2.2.2.2.2.2.2.2.1),(34,bv b3.2.2.2.2.2.2.2.2.2.1),(35,bv b3.2.2.2.2.2.2.2.2.2.2.1),(39,bv b3.2.2.2.2.2.2.2.2.2.2.2.1),(40,bv b3.2.2.2.2.2.2.2.2.2.2.2.2.1),(44,bv b3.2.2.2.2.2.2.2.2.2.2.2.2.2.1),(46,lv ev.cells b3.2.2.2.2.2.2.2.2.2.2.2.2.2.2.1),(47,iv b3.2.2.2.2.2.2.2.2.2.2.2.2.2.2.2.1),(48,lv ev.cells b3.2.2.2.2.2.2.2.2.2.2.2.2.2.2.2.2.1),(49,iv b3.2.2.2.2.2.2.2.2.2.2.2.2.2.2.2.2.2.1),(50,iv b3.2.2.2.2.2.2.2.2.2.2.2.2.2.2.2.2.2.2.1),(51,bv b3.2.2.2.2.2.2.2.2.2.2.2.2.2.2.2.2.2.2.2)],[]⟩) fun _ =>
 .nx 14 14 i2 (i2+1))
 (.fin (.inl (.inr ()))))
 (fun (_:Unit)=>⟨[],[]⟩) fun _ =>
 .fin 0)
def OL r:=(oE r).val
theorem Hm (r:ah):(oE r).bC (fun _=>True):=by
 unfold oE
 try simp only [cK,kj]
 exact Bu
def uq r:=kk tok mixed Tryz.func87 [av r.cells] (fun x=>iv x) true (oE r) (OL r) (u0 (Hm r))
def pG (r:ah):Sk (Int) :=
 .br (decide (((r.bV.length:Nat):Int) > 100))
 (.fin 6)
 (.bt
 (.loop (default:Sum (Int) (Unit)) (fun i2=>i2≤r.bV.length) (fun i2=>r.bV.length - i2) (0:Nat)
 (fun (i2:Nat)=>⟨[(14,iv (i2:Int))],[]⟩) fun i2 =>
 .lt 12 0 i2 r.bV.length
 (.r 5 (.p (bU (i2:Int) r.bV.length)) fun _ =>
 .r 6 (.dep ((cK ((r.bV.getD i2 default).from_) ((r.cz.length:Nat):Int)).c) fun x3=>.dep (.wh (!x3) false ((cK ((r.bV.getD i2 default).cM) ((r.cz.length:Nat):Int)).c)) fun x4=>.dep (.wh (((!x3)||(!x4))||(((r.bV.getD i2 default).from_) == ((r.bV.getD i2 default).cM))) false ((cK (ar (((r.bV.getD i2 default).num) - 1)) 1073741824).c)) fun x5=>.dep (.wh ((((!x3)||(!x4))||(((r.bV.getD i2 default).from_) == ((r.bV.getD i2 default).cM)))||(!x5)) false ((cK (ar (((r.bV.getD i2 default).den) - 1)) 1073741824).c)) fun x6=>.wh (((((!x3)||(!x4))||(((r.bV.getD i2 default).from_) == ((r.bV.getD i2 default).cM)))||(!x5))||(!x6)) false ((cK ((r.bV.getD i2 default).since) 100001).c)) fun p8 =>
 .br ((((((!p8.1)||(!p8.2.1))||(((r.bV.getD i2 default).from_) == ((r.bV.getD i2 default).cM)))||(!p8.2.2.1))||(!p8.2.2.2.1))||(!p8.2.2.2.2))
 (.fin (.inl (.inl 1)))
 (.nx 8 14 i2 (i2+1)))
 (.fin (.inl (.inr ()))))
 (fun (_:Unit)=>⟨[],[]⟩) fun _ =>
 .br (decide (((r.eR.length:Nat):Int) > 20))
 (.fin 6)
 (.bind true (fun b9=>r.eM)
 (.loop (default:Sum (Int) (Unit)) (fun i10=>(∀ i,i < i10→(r.eR.getD i default).cM≤100000)∧i10≤r.eR.length) (fun i10=>r.eR.length - i10) (0:Nat)
 (fun (i10:Nat)=>⟨[(69,iv (i10:Int))],[]⟩) fun i10 =>
 .lt 67 0 i10 r.eR.length
 (.r 13 (.p (bU (i10:Int) r.eR.length)) fun _ =>
 .r 14 ((cK ((r.eR.getD i10 default).order) ((r.aE.length:Nat):Int)).c) fun x11 =>
 .br ((((!x11)||(decide (((r.eR.getD i10 default).from_) < 0)))||(decide (((r.eR.getD i10 default).from_) > ((r.eR.getD i10 default).cM))))||(decide (((r.eR.getD i10 default).cM) > 100000)))
 (.fin (.inl (.inl 1)))
 (.nx 16 69 i10 (i10+1)))
 (.fin (.inl (.inr ()))))
 (fun (_:Unit)=>⟨[],[]⟩) fun _ =>
 .fin 0))
def WA r:=(pG r).val
theorem L9 (r:ah):(pG r).dj (fun (x:Int)=>x=0→r.eM):=by
 unfold pG
 try simp only [cK,kj,ah.eM]
 exact Ww
theorem OM (r:ah):(pG r).bC (fun _=>True):=by
 unfold pG
 try simp only [cK,kj,ah.eM]
 exact Bu
def z8 r:=kp tok mixed Tryz.func88 [av r.cells] (fun x=>iv x) true (WA r) (u0 (OM r)) (L9 r)
def nM (r:ah):Sk (Int) :=
 .r 1 ((xT r).c) fun x1 =>
 .r 2 ((uj r.cz 8).c) fun x2 =>
 .br (x2 != 0)
 (.fin x2)
 (.r 5 ((uk x1.1 40 r).c) fun x3 =>
 .br (x3 != 0)
 (.fin x3)
 (.br (decide (((r.gh.length:Nat):Int) > 20))
 (.fin 6)
 (.bt
 (.loop (default:Sum (Int) (Unit)) (fun i5=>i5≤r.gh.length) (fun i5=>r.gh.length - i5) (0:Nat)
 (fun (i5:Nat)=>⟨[(38,iv (i5:Int))],[]⟩) fun i5 =>
 .lt 36 0 i5 r.gh.length
 (.r 12 (.p (bU (i5:Int) r.gh.length)) fun _ =>
 .r 13 ((cK ((r.gh.getD i5 default).Uc) 10).c) fun x6 =>
 .br (!x6)
 (.fin (.inl (.inl 1)))
 (.nx 15 38 i5 (i5+1)))
 (.fin (.inl (.inr ()))))
 (fun (_:Unit)=>⟨[],[]⟩) fun _ =>
 .r 16 ((um x1.2.1 200 r).c) fun x7 =>
 .br (x7 != 0)
 (.fin x7)
 (.r 19 ((uo x1.2.2 20 r).c) fun x8 =>
 .br (x8 != 0)
 (.fin x8)
 (.r 22 ((uq r).c) fun x9 =>
 .br (x9 != 0)
 (.fin x9)
 (.r 25 ((z8 r).c) fun Ma =>
 .fin Ma))))))
def Um r:=(nM r).val
theorem Jz (r:ah):(nM r).dj (fun (x:Int)=>x=0→r.eM):=by
 unfold nM
 try simp only [uj,uk,um,uo,cK,xT,z8,uq,kj,ak.Small,ah.Small,ah.eM]
 exact Ww
theorem Mb (r:ah) (hr:r.Small):(nM r).bC (fun _=>True):=by
 simp only [ak.Small,ah.Small,ah.eM] at hr
 unfold nM
 try simp only [uj,uk,um,uo,cK,xT,z8,uq,kj,ak.Small,ah.Small,ah.eM]
 exact Bu
def mK r:=kp tok mixed Tryz.func55 [av r.cells] (fun x=>iv x) true (Um r) (Mb r) (Jz r)
def oG (n:Int) (length:Int):Sk (Bool) :=
 .fin ((decide (n≥0))&&(decide (n < length)))
def D0 n length:=(oG n length).val
theorem zd (n:Int) (length:Int):D0 n length=((decide (n≥0))&&(decide (n < length))):=rfl
theorem Hn (n:Int) (length:Int):(oG n length).bC (fun _=>True):=by
 unfold oG
 exact qT
def fp n length:=kk tok mixed Tryz.func56 [iv n,iv length] (fun x=>bv x) true (oG n length) (D0 n length) (u0 (Hn n length))
def oH (b:rE):Sk (Bool) :=
 .bind false (fun _=>True)
 (.br (b.df.kind == 0)
 (.fin (.inr (b.df.kind == 0)))
 (.fin (.inr (b.df.kind == 4))))
 (fun (b1:Bool)=>⟨[(8,bv b1)],[]⟩) fun b1 =>
 .br b1
 (.fin ((b.df.n == 0)&&(b.df.unit == 0)))
 (.bind false (fun _=>True)
 (.br (b.df.kind == 1)
 (.fin (.inr (b.df.kind == 1)))
 (.fin (.inr (b.df.kind == 2))))
 (fun (b2:Bool)=>⟨[(19,bv b2)],[]⟩) fun b2 =>
 .br b2
 (.fin (((decide (b.df.n≥1))&&(decide (b.df.n≤400)))&&((b.df.unit == 0)||(b.df.unit == 1))))
 (.br (b.df.kind == 3)
 (.fin (((decide (b.df.n≥b.day))&&(decide (b.df.n≤100000)))&&(b.df.unit == 0)))
 (.fin false)))
def OO b:=(oH b).val
theorem Ho (b:rE):(oH b).bC (fun _=>True):=by
 unfold oH
 exact qT
def ur b:=kk tok mixed Tryz.func57 [av b.cells] (fun x=>bv x) true (oH b) (OO b) (u0 (Ho b))
def qh (r:ah) (from_:Int) (cM:Int):Sk (Int × Int) :=
 .bt
 (.loop (default:Sum (Int × Int) (Unit)) (fun i2=>i2≤r.bg.length) (fun i2=>r.bg.length - i2) (0:Nat)
 (fun (i2:Nat)=>⟨[(13,iv (i2:Int))],[]⟩) fun i2 =>
 .lt 11 0 i2 r.bg.length
 (.r 3 (.p (bU (i2:Int) r.bg.length)) fun _ =>
 .br ((((r.bg.getD i2 default).from_) == from_)&&(((r.bg.getD i2 default).cM) == cM))
 (.fin (.inl (.inl ((r.bg.getD i2 default).days,0))))
 (.nx 6 13 i2 (i2+1)))
 (.fin (.inl (.inr ()))))
 (fun (_:Unit)=>⟨[],[]⟩) fun _ =>
 .fin (0,4)
def RA r from_ cM:=(qh r from_ cM).val
theorem JA (r:ah) (from_:Int) (cM:Int):(qh r from_ cM).bC (fun _=>True):=by
 unfold qh
 exact mA
def nN r from_ cM:=kk tok mixed Tryz.func58 [av r.cells,iv from_,iv cM] (fun x=>.fD [iv x.1,iv x.2]) true (qh r from_ cM) (RA r from_ cM) (u0 (JA r from_ cM))
def lA (r:ah) (b:rE):Sk (Int) :=
 .r 1 ((mK r).c) fun x1 =>
 .br (x1 != 0)
 (.fin x1)
 (.r 5 (.dep ((fp b.BV ((r.bu.length:Nat):Int)).c) fun x2=>.dep (.wh x2 true ((fp b.m4 ((r.bu.length:Nat):Int)).c)) fun x3=>.dep (.wh (x2&&x3) true (.wh (b.gj == (-1)) false ((fp b.gj ((r.bu.length:Nat):Int)).c))) fun x4=>.wh ((x2&&x3)&&((b.gj == (-1))||x4)) true (.wh (b.need == (-1)) false ((fp b.need ((r.bu.length:Nat):Int)).c))) fun Qd =>
 .r 6 (.dep (.wh (!(((Qd.1&&Qd.2.1)&&((b.gj == (-1))||Qd.2.2.1))&&((b.need == (-1))||Qd.2.2.2))) false ((fp b.au ((r.cz.length:Nat):Int)).c)) fun x6=>.dep (.wh ((!(((Qd.1&&Qd.2.1)&&((b.gj == (-1))||Qd.2.2.1))&&((b.need == (-1))||Qd.2.2.2)))||(!x6)) false ((fp b.cH ((r.aN.length:Nat):Int)).c)) fun x7=>.wh (((!(((Qd.1&&Qd.2.1)&&((b.gj == (-1))||Qd.2.2.1))&&((b.need == (-1))||Qd.2.2.2)))||(!x6))||(!x7)) false ((fp b.A2 ((r.aN.length:Nat):Int)).c)) fun GL =>
 .br ((((!(((Qd.1&&Qd.2.1)&&((b.gj == (-1))||Qd.2.2.1))&&((b.need == (-1))||Qd.2.2.2)))||(!GL.1))||(!GL.2.1))||(!GL.2.2))
 (.fin 1)
 (.br ((((((decide (b.sum < 1))||(decide (b.sum > 1099511627776)))||(decide (b.day < 0)))||(decide (b.day > 100000)))||(decide (b.mD < 0)))||(decide (b.mD > 1000)))
 (.fin 3)
 (.br ((decide (b.parts < 1))||(decide (b.parts > 4)))
 (.fin 15)
 (.r 12 (.wh (((decide (b.flags < 0))||(decide (b.flags > 7)))||(((eJ .i64 b.flags 4) != 0)&&(b.gj == (-1)))) false ((ur b).c)) fun x9 =>
 .br ((((decide (b.flags < 0))||(decide (b.flags > 7)))||(((eJ .i64 b.flags 4) != 0)&&(b.gj == (-1))))||(!x9))
 (.fin 2)
 (.br (b.df.kind == 4)
 (.r 15 ((nN r b.cH b.A2).c) fun Ma =>
 .fin Ma.2)
 (.fin 0))))))
def OP r b:=(lA r b).val
theorem FR (r:ah) (b:rE):(lA r b).dj (fun (x:Int)=>x=0→Uf r b∧(b.gj = -1∨(0≤b.gj∧b.gj < r.bu.length))):=by
 unfold lA
 try simp only [mK,nN,fp,ur,zd,ak.Small,ah.Small,ah.eM]
 exact Ww
theorem Hp (r:ah) (b:rE) (aX:r.Small):(lA r b).bC (fun _=>True):=by
 simp only [ak.Small,ah.Small,ah.eM] at aX
 unfold lA
 try simp only [mK,nN,fp,ur,zd,ak.Small,ah.Small,ah.eM]
 exact Bu
def uu r b:=kp tok mixed Tryz.func32 [av r.cells,av b.cells] (fun x=>iv x) true (OP r b) (Hp r b) (FR r b)
def xo (n:Int) (low:Int) (high:Int):Sk (Bool) :=
 .fin ((decide (n≥low))&&(decide (n≤high)))
def Un n low high:=(xo n low high).val
theorem fE (n:Int) (low:Int) (high:Int):Un n low high=((decide (n≥low))&&(decide (n≤high))):=rfl
theorem Uo (n:Int) (low:Int) (high:Int):(xo n low high).bC (fun _=>True):=by
 unfold xo
 exact qT
def bE n low high:=kk tok mixed Tryz.func34 [iv n,iv low,iv high] (fun x=>bv x) true (xo n low high) (Un n low high) (u0 (Uo n low high))
def qi (f:ak) (i:Int) (part:Int):Sk (Bool) :=
 .r 1 (.wh (i == 0) false (.p (bU i f.af.length))) fun _ =>
 .fin ((i == 0)||(((f.af.getD i.toNat default).part) == part))
def RB f i part:=(qi f i part).val
theorem JB (f:ak) (i:Int) (part:Int) (hi:i=0∨(0≤i∧i < (f.af.length:Int))):(qi f i part).bC (fun _=>True):=by
 unfold qi
 exact mA
def lB f i part:=kk tok mixed Tryz.func90 [av f.cells,iv i,iv part] (fun x=>bv x) true (qi f i part) (RB f i part) (JB f i part)
def mE (s:List Int) (v:Int):Sk (Int) :=
 .bind true (fun b1=>∀ q,q < s.length→(s.getD q default == v)=false)
 (.loop (default:Sum (Int) (Unit)) (fun i2=>∀ q,q < i2→(s.getD q default == v)=false) (fun i2=>s.length - i2) (0:Nat)
 (fun (i2:Nat)=>⟨[(8,iv (i2:Int))],[]⟩) fun i2 =>
 .lt 0 0 i2 s.length
 (.r 4 (.p (bU (i2:Int) s.length)) fun _ =>
 .br (v == (s.getD i2 default))
 (.fin (.inl (.inl (i2:Int))))
 (.nx 6 8 i2 (i2+1)))
 (.fin (.inl (.inr ()))))
 (fun (_:Unit)=>⟨[],[]⟩) fun _ =>
 .fin (-1)
def RC s v:=(mE s v).val
theorem Hq (s:List Int) (v:Int):(mE s v).dj (fun (x:Int)=>(x = -1∧∀ q,q < s.length→(s.getD q default == v)=false)∨(0≤x∧x < s.length∧(s.getD x.toNat default == v)=true∧∀ q,(q:Nat) < x.toNat→(s.getD q default == v)=false)):=by
 unfold mE
 exact Fz
theorem JC (s:List Int) (v:Int):(mE s v).bC (fun _=>True):=by
 unfold mE
 exact mA
def v7 s v:=kp tok mixed Tryz.func141 [lv bI s,iv v] (fun x=>iv x) true (RC s v) (u0 (JC s v)) (Hq s v)
def jx (s:List Int) (v:Int):Sk (Bool) :=
 .r 1 ((v7 s v).c) fun x1 =>
 .fin (decide (x1≥0))
def bZ s v:=(jx s v).val
theorem uN (s:List Int) (v:Int):(jx s v).dj (fun (x:Bool)=>(x=true↔∃ q,q < s.length∧(s.getD q default == v)=true)):=by
 unfold jx
 try simp only [v7]
 exact Fz
theorem B4 (s:List Int) (v:Int):(fun (x:Bool)=>(x=true↔∃ q,q < s.length∧(s.getD q default == v)=true)) (bZ s v):=have h:=Sk.dk _ (uN s v); h
theorem Er (s:List Int) (v:Int):(jx s v).bC (fun _=>True):=by
 unfold jx
 try simp only [v7]
 exact qT
def aM s v:=kp tok mixed Tryz.func114 [lv bI s,iv v] (fun x=>bv x) true (bZ s v) (u0 (Er s v)) (uN s v)
def lC (f:ak) (i:Int) (kinds:List Int):Sk (Bool) :=
 .r 1 (.p (bU i f.af.length)) fun _ =>
 .r 2 (.dep ((bE ((f.af.getD i.toNat default).for_) 0 (ar (i - 1))).c) fun x1=>.aj (.wh x1 true (.p (bU i f.af.length))) (.dep (.wh x1 true ((lB f ((f.af.getD i.toNat default).for_) ((f.af.getD i.toNat default).part)).c)) fun x2=>.aj (.wh (x1&&x2) true (.p (bU ((f.af.getD i.toNat default).for_) f.af.length))) (.wh (x1&&x2) true ((aM kinds ((f.af.getD (((f.af.getD i.toNat default).for_).toNat) default).kind)).c)))) fun p4 =>
 .fin ((p4.1&&p4.2.1)&&p4.2.2)
def IJ f i kinds:=(lC f i kinds).val
theorem JD (f:ak) (i:Int) (kinds:List Int) (hP:(0≤i∧i < (f.af.length:Int))∧f.af.length≤40):(lC f i kinds).dj (fun (x:Bool)=>x=true→0≤(f.af.getD i.toNat default).for_∧(f.af.getD i.toNat default).for_ < i):=by
 unfold lC
 try simp only [bE,lB,aM,fE]
 exact Ww
theorem Hr (f:ak) (i:Int) (kinds:List Int):(fun (x:Bool)=>((0≤i∧i < (f.af.length:Int))∧f.af.length≤40)→(x=true→0≤(f.af.getD i.toNat default).for_∧(f.af.getD i.toNat default).for_ < i)) (IJ f i kinds):=fun hP=>Sk.dk _ (JD f i kinds hP)
theorem Mc (f:ak) (i:Int) (kinds:List Int) (hi:0≤i∧i < (f.af.length:Int)) (hf:f.af.length≤1000000):(lC f i kinds).bC (fun _=>True):=by
 unfold lC
 try simp only [bE,lB,aM,fE]
 exact Bu
def ta f i kinds:=kk tok mixed Tryz.func89 [av f.cells,iv i,lv bI kinds] (fun x=>bv x) true (lC f i kinds) (IJ f i kinds) (u2 (Mc f i kinds)) (fun (x:Bool)=>((0≤i∧i < (f.af.length:Int))∧f.af.length≤40)→(x=true→0≤(f.af.getD i.toNat default).for_∧(f.af.getD i.toNat default).for_ < i)) (Hr f i kinds)
def mL (r:ah) (f:ak) (i:Int):Sk (Bool) :=
 .r 1 (.p (bU i f.af.length)) fun _ =>
 .br ((!((i == 0) == (((f.af.getD i.toNat default).kind) == 0)))||((((f.af.getD i.toNat default).kind) != 2)&&(((f.af.getD i.toNat default).cM) != (-1))))
 (.fin false)
 (.br (((((f.af.getD i.toNat default).kind) != 3)&&(((f.af.getD i.toNat default).kind) != 4))&&(((f.af.getD i.toNat default).for_) != (-1)))
 (.fin false)
 (.r 7 ((bE ((f.af.getD i.toNat default).sum) 1 1099511627776).c) fun x1 =>
 .br (((f.af.getD i.toNat default).kind) == 0)
 (.fin ((((((((f.af.getD i.toNat default).dQ) == f.aU.BV)&&(((f.af.getD i.toNat default).sum) == 0))&&((VN .i64 ((f.af.getD i.toNat default).flags) 1) == 1))&&(((f.af.getD i.toNat default).part) == 0))&&(((f.af.getD i.toNat default).day) == f.aU.day))&&(((f.af.getD i.toNat default).cH) == f.aU.cH)))
 (.br (((f.af.getD i.toNat default).kind) == 1)
 (.fin ((((f.af.getD i.toNat default).dQ) == f.aU.m4)&&(x1&&(((f.af.getD i.toNat default).flags) == 0))))
 (.br (((f.af.getD i.toNat default).kind) == 2)
 (.r 15 (.dep ((bE ((f.af.getD i.toNat default).cM) (-1) (ar (((r.bu.length:Nat):Int) - 1))).c) fun x2=>.wh (x2&&(((f.af.getD i.toNat default).sum) == 0)) true ((bE ((f.af.getD i.toNat default).flags) 0 7).c)) fun p4 =>
 .fin (((p4.1&&(((f.af.getD i.toNat default).sum) == 0))&&p4.2)&&((eJ .i64 ((f.af.getD i.toNat default).flags) 6) != 6)))
 (.br (((f.af.getD i.toNat default).kind) == 3)
 (.r 17 (.aj (.wh ((((f.af.getD i.toNat default).sum) == 0)&&(((f.af.getD i.toNat default).flags) == 0)) true (.o [.eG (fm dm [0,1,2,4])])) (.wh ((((f.af.getD i.toNat default).sum) == 0)&&(((f.af.getD i.toNat default).flags) == 0)) true ((ta f i [0,1,2,4]).c))) fun x5 =>
 .fin (((((f.af.getD i.toNat default).sum) == 0)&&(((f.af.getD i.toNat default).flags) == 0))&&x5))
 (.br (((f.af.getD i.toNat default).kind) == 4)
 (.r 19 (.aj (.wh ((x1&&(((f.af.getD i.toNat default).flags) == 0))&&(((f.af.getD i.toNat default).dQ) != f.aU.m4)) true (.o [.eG (fm dm [0,2])])) (.wh ((x1&&(((f.af.getD i.toNat default).flags) == 0))&&(((f.af.getD i.toNat default).dQ) != f.aU.m4)) true ((ta f i [0,2]).c))) fun x6 =>
 .fin (((x1&&(((f.af.getD i.toNat default).flags) == 0))&&(((f.af.getD i.toNat default).dQ) != f.aU.m4))&&x6))
 (.fin false)))))))
def Md r f i:=(mL r f i).val
theorem Me (r:ah) (f:ak) (i:Int) (hP:(0≤i∧i < (f.af.length:Int))∧f.af.length≤40∧r.bu.length≤200):(mL r f i).dj (fun (x:Bool)=>x=true→Qb f i.toNat∧ToQ r f i.toNat):=by
 refine Sk.bz _ ?_
 unfold mL
 simp only [Sk.de,Sk.aI,reduceCtorEq,ON,kk,kp,ta,bE,fE,forall_eq,maxLen]
 intro _ h1 h2
 obtain ⟨hi,hn,hr⟩:=hP
 have hw:ar ((r.bu.length:Int) - 1)=(r.bu.length:Int) - 1:=aA (by omega) (by omega)
 rw [hw]
 unfold Qb ToQ ma
 generalize f.af.getD i.toNat default=s at *
 have Tg:(s.kind=0↔i.toNat=0)∧(s.kind=2∨s.cM = -1):=by
  by_cases a:i=0 <;> by_cases b:s.kind=0 <;> simp [a,b] at h1 ⊢ <;> omega
 clear h1
 obtain ⟨q1,q2⟩:=Tg
 refine ⟨fun k0 h=>?_,fun k0=>⟨fun k1 h=>?_,fun k1=>⟨fun k2 h=>?_,fun k2=>⟨fun k3 hb h=>?_,fun k3 k4 hb h=>?_⟩⟩⟩⟩
 all_goals simp only [LN] at *
 ·exact ⟨⟨by omega,by omega,q1,by omega⟩,by omega⟩
 ·exact ⟨⟨by omega,by omega,q1,by omega⟩,by omega⟩
 ·exact ⟨⟨by omega,by omega,q1,by omega⟩,by omega⟩
 ·have:=hb ⟨hi,hn⟩ h.2
  exact ⟨⟨by omega,by omega,q1,fun _=>by omega⟩,by omega⟩
 ·have:=hb ⟨hi,hn⟩ h.2
  exact ⟨⟨by omega,by omega,q1,fun _=>by omega⟩,by omega⟩
theorem JE (r:ah) (f:ak) (i:Int):(fun (x:Bool)=>((0≤i∧i < (f.af.length:Int))∧f.af.length≤40∧r.bu.length≤200)→(x=true→Qb f i.toNat∧ToQ r f i.toNat)) (Md r f i):=fun hP=>Sk.dk _ (Me r f i hP)
theorem OQ (r:ah) (f:ak) (i:Int) (hi:0≤i∧i < (f.af.length:Int)) (hf:f.af.length≤1000000):(mL r f i).bC (fun _=>True):=by
 unfold mL
 try simp only [ta,bE,fE]
 exact Bu
def Aa r f i:=kk tok mixed Tryz.func59 [av r.cells,av f.cells,iv i] (fun x=>bv x) true (mL r f i) (Md r f i) (u2 (OQ r f i)) (fun (x:Bool)=>((0≤i∧i < (f.af.length:Int))∧f.af.length≤40∧r.bu.length≤200)→(x=true→Qb f i.toNat∧ToQ r f i.toNat)) (JE r f i)
theorem Qe {α:Type} [Inhabited α] (L:List α) (n i:Nat) (h:i < n):(mZ L 0 n).getD i default=L.getD i default:=by
 simp [mZ,List.getD,h]
def mM (r:ah) (f:ak) (i:Int):Sk (Int) :=
 .r 1 (.p (bU i f.af.length)) fun _ =>
 .r 2 ((bE ((f.af.getD i.toNat default).part) 0 (ar (f.aU.parts - 1))).c) fun x1 =>
 .br (!x1)
 (.fin 15)
 (.r 4 (.dep ((bE ((f.af.getD i.toNat default).dQ) 0 (ar (((r.bu.length:Nat):Int) - 1))).c) fun x2=>.wh (!x2) false ((bE ((f.af.getD i.toNat default).cH) 0 (ar (((r.aN.length:Nat):Int) - 1))).c)) fun p8 =>
 .br ((!p8.1)||(!p8.2))
 (.fin 1)
 (.r 7 (.aj (.o [.eG (aep Sign.E f.af 0 i.toNat)]) (.pt (0≤i∧i≤((f.af.length:Nat):Int)) (Sign.E.lens f.af))) fun _ =>
 .bind true (fun b4=>b4.1=(if i.toNat=0 then f.aU.day else (f.af.getD (i.toNat - 1) default).day))
 (.loop (default:Sum (Int) (Int × Bool)) (fun i5=>i5.2.2≤i.toNat∧i5.1=(if i5.2.2=0 then f.aU.day else (f.af.getD (i5.2.2 - 1) default).day)) (fun i5=>(mZ f.af 0 i.toNat).length - i5.2.2) ((f.aU.day,false,0):Int × Bool × Nat)
 (fun (i5:Int × Bool × Nat)=>⟨[(8,iv i5.1),(9,bv i5.2.1),(51,iv (i5.2.2:Int))],[]⟩) fun i5 =>
 .lt 49 0 i5.2.2 ((mZ f.af 0 i.toNat).length)
 (.r 9 (.p (bU (i5.2.2:Int) ((mZ f.af 0 i.toNat).length))) fun _ =>
 .r 12 .z fun _ =>
 .wi 51 (ar ((i5.2.2:Int)+1)) ((i5.2.2+1:Nat):Int) <|
 .fin (.inr (((mZ f.af 0 i.toNat).getD i5.2.2 default).day,i5.2.1||(((((f.af.getD i.toNat default).kind) == 1)&&((((mZ f.af 0 i.toNat).getD i5.2.2 default).kind) == 1))&&((((mZ f.af 0 i.toNat).getD i5.2.2 default).part) == ((f.af.getD i.toNat default).part))),i5.2.2+1)))
 (.fin (.inl (.inr (i5.1,i5.2.1)))))
 (fun (b4:Int × Bool)=>⟨[(8,iv b4.1),(9,bv b4.2)],[]⟩) fun b4 =>
 .r 13 ((bE ((f.af.getD i.toNat default).day) b4.1 100000).c) fun x6 =>
 .br ((!x6)||((i == 0)&&(((f.af.getD i.toNat default).day) != b4.1)))
 (.fin 13)
 (.r 15 ((Aa r f i).c) fun x7 =>
 .br (!x7)
 (.fin 14)
 (.br b4.2
 (.fin 5)
 (.fin 0)))))
def Mf r f i:=(mM r f i).val
theorem Mg (r:ah) (f:ak) (i:Int) (hP:(0≤i∧i < (f.af.length:Int))∧f.af.length≤40∧r.bu.length≤200∧Uf r f.aU):(mM r f i).dj (fun (x:Int)=>x=0→Qc r f i.toNat∧ToQ r f i.toNat):=by
 refine Sk.bz _ ?_
 unfold mM
 simp only [Sk.de,Sk.aI,reduceCtorEq,ON,kk,kp,Aa,bE,fE,forall_eq,ak.Small,ah.Small,maxLen]
 intro _
 obtain ⟨hi,hn,hr,hB⟩:=hP
 have hB2:=hB.2.2.2.1
 refine ⟨fun _ h=>absurd h (by decide),fun aa8=>⟨fun _ h=>absurd h (by decide),fun aeu _=>⟨⟨⟨by omega,by simp⟩,fun k hk=>⟨fun hc _ _=>⟨⟨?_,?_⟩,?_⟩,fun hc=>?_⟩⟩,fun b hb=>⟨fun _ h=>absurd h (by decide),fun hd hF=>⟨fun _ h=>absurd h (by decide),fun hf=>⟨fun _ h=>absurd h (by decide),fun _=>?_⟩⟩⟩⟩⟩⟩
 all_goals (try simp only [LN] at hc)
 ·omega
 ·rw [Qe _ _ _ (by omega),if_neg (by simp)]; rfl
 ·simp only [tN] at hc ⊢; omega
 ·have e:k.2.2=i.toNat:=by omega
  rw [hk.2,e]
 ·have hF:=hF ⟨hi,hn,hr⟩ (by simpa using hf)
  simp only [LN] at aa8 aeu hd
  obtain ⟨⟨w1,w2⟩,_⟩:=aeu
  obtain ⟨⟨d1,d2⟩,d3⟩:=hd
  rw [aA (by omega) (by omega)] at w2 aa8
  refine ⟨⟨⟨w1,by omega⟩,fun h0=>?_,d2,fun h0=>?_,aa8,hF.1⟩,hF.2⟩
  ·rw [if_neg h0] at hb
   rw [← hb]; exact d1
  ·rw [if_pos h0] at hb
   rw [← hb]
   rcases d3 with d3 | d3
   ·omega
   ·exact d3
theorem JF (r:ah) (f:ak) (i:Int):(fun (x:Int)=>((0≤i∧i < (f.af.length:Int))∧f.af.length≤40∧r.bu.length≤200∧Uf r f.aU)→(x=0→Qc r f i.toNat∧ToQ r f i.toNat)) (Mf r f i):=fun hP=>Sk.dk _ (Mg r f i hP)
theorem OS (r:ah) (f:ak) (i:Int) (hi:0≤i∧i < (f.af.length:Int)) (hf:f.af.length≤1000000) (hr:r.Small):(mM r f i).bC (fun _=>True):=by
 simp only [ak.Small,ah.Small] at hr
 refine Sk.aR _ ?_
 unfold mM
 simp only [Sk.ju,Sk.aI,reduceCtorEq,ON,kk,kp,Aa,bE,fE,forall_eq,ak.Small,ah.Small,maxLen]
 refine ⟨hi,fun _ hp aeu=>⟨⟨hi.1,by omega⟩,fun _=>⟨⟨⟨by omega,by simp⟩,fun k hk hl=>⟨fun hc=>⟨⟨by omega,of_decide_eq_true hc⟩,fun _ _=>⟨?_,⟨⟨?_,?_⟩,?_⟩⟩⟩,fun hc=>?_⟩⟩,?_⟩⟩⟩
 all_goals (try simp only [LN] at hc)
 ·exact aA (by simp only [tN] at hl; omega) (by simp only [tN] at hl; omega)
 ·omega
 ·rw [Qe _ _ _ (by omega),if_neg (by simp)]; rfl
 ·simp only [tN] at hc ⊢; omega
 ·have e:k.2.2=i.toNat:=by omega
  rw [hk.2,e]
 ·intro b hb hd
  exact ⟨hi,hf⟩
def Ab r f i:=kk tok mixed Tryz.func33 [av r.cells,av f.cells,iv i] (fun x=>iv x) true (mM r f i) (Mf r f i) (u3 (OS r f i)) (fun (x:Int)=>((0≤i∧i < (f.af.length:Int))∧f.af.length≤40∧r.bu.length≤200∧Uf r f.aU)→(x=0→Qc r f i.toNat∧ToQ r f i.toNat)) (JF r f i)
def oI (r:ah) (f:ak) (a:bD):Sk (Bool) :=
 .r 1 (.dep ((bE a.at_ 0 (ar (((f.af.length:Nat):Int) - 1))).c) fun x1=>.wh x1 true ((lB f a.at_ a.part).c)) fun GL =>
 .r 2 (.wh (GL.1&&GL.2) true (.p (bU a.at_ f.af.length))) fun _ =>
 .r 3 ((bE a.cM 0 (ar (((r.bu.length:Nat):Int) - 1))).c) fun x3 =>
 .r 4 ((bE a.dQ 0 (ar (((r.bu.length:Nat):Int) - 1))).c) fun x4 =>
 .br ((!x4)||((a.kind != 4)&&(a.form != 0)))
 (.fin false)
 (.bind false (fun _=>True)
 (.br (a.kind == 0)
 (.fin (.inr (a.kind == 0)))
 (.br (a.kind == 1)
 (.fin (.inr (a.kind == 1)))
 (.fin (.inr (a.kind == 2)))))
 (fun (b5:Bool)=>⟨[(65,bv b5)],[]⟩) fun b5 =>
 .br b5
 (.fin ((x3&&(a.at_ == (-1)))&&(a.sum == 0)))
 (.bind false (fun _=>True)
 (.br (a.kind == 3)
 (.fin (.inr (a.kind == 3)))
 (.br (a.kind == 5)
 (.fin (.inr (a.kind == 5)))
 (.fin (.inr (a.kind == 4)))))
 (fun (b6:Bool)=>⟨[(80,bv b6)],[]⟩) fun b6 =>
 .br b6
 (.r 14 (.dep (.wh (x3&&(a.at_ == (-1))) true ((bE a.sum 0 1099511627776).c)) fun x7=>.wh ((x3&&(a.at_ == (-1)))&&x7) true ((bE a.form 0 1).c)) fun p9 =>
 .fin (((x3&&(a.at_ == (-1)))&&p9.1)&&p9.2))
 (.br (a.kind == 6)
 (.r 16 (.wh (x3&&((GL.1&&GL.2)&&(((f.af.getD a.at_.toNat default).dQ) == a.dQ))) true ((bE a.sum 1 1099511627776).c)) fun Ma =>
 .fin ((x3&&((GL.1&&GL.2)&&(((f.af.getD a.at_.toNat default).dQ) == a.dQ)))&&Ma))
 (.br (a.kind == 9)
 (.fin (((a.cM == (-1))&&((GL.1&&GL.2)&&(((f.af.getD a.at_.toNat default).dQ) == a.dQ)))&&(a.sum == 0)))
 (.fin (((a.cM == (-1))&&(GL.1&&GL.2))&&(a.sum == 0)))))))
def Qf r f a:=(oI r f a).val
theorem OT (r:ah) (f:ak) (a:bD) (hP:f.af.length≤40):(oI r f a).dj (fun (x:Bool)=>x=true→(a.at_ = -1∨(0≤a.at_∧a.at_ < (f.af.length:Int)))∧ma a.sum∧(a.kind=6→0≤a.at_∧(f.af.getD a.at_.toNat default).dQ=a.dQ)):=by
 unfold oI
 try simp only [bE,lB,fE]
 exact Ww
theorem Mh (r:ah) (f:ak) (a:bD):(fun (x:Bool)=>(f.af.length≤40)→(x=true→(a.at_ = -1∨(0≤a.at_∧a.at_ < (f.af.length:Int)))∧ma a.sum∧(a.kind=6→0≤a.at_∧(f.af.getD a.at_.toNat default).dQ=a.dQ))) (Qf r f a):=fun hP=>Sk.dk _ (OT r f a hP)
theorem RD (r:ah) (f:ak) (a:bD) (hf:f.af.length≤1000000):(oI r f a).bC (fun _=>True):=by
 unfold oI
 try simp only [bE,lB,fE]
 exact Bu
def B5 r f a:=kk tok mixed Tryz.func60 [av r.cells,av f.cells,av a.cells] (fun x=>bv x) true (oI r f a) (Qf r f a) (RD r f a) (fun (x:Bool)=>(f.af.length≤40)→(x=true→(a.at_ = -1∨(0≤a.at_∧a.at_ < (f.af.length:Int)))∧ma a.sum∧(a.kind=6→0≤a.at_∧(f.af.getD a.at_.toNat default).dQ=a.dQ))) (Mh r f a)
def mN (r:ah) (f:ak):Sk (Int) :=
 .bind true (fun b1=>∀ q,q < f.aw.length→Hd f q)
 (.loop (default:Sum (Int) (Unit)) (fun i2=>i2≤f.aw.length∧∀ q,q < i2→Hd f q) (fun i2=>f.aw.length - i2) (0:Nat)
 (fun (i2:Nat)=>⟨[(11,iv (i2:Int))],[]⟩) fun i2 =>
 .lt 9 0 i2 f.aw.length
 (.r 3 (.p (bU (i2:Int) f.aw.length)) fun _ =>
 .r 4 ((bE ((f.aw.getD i2 default).part) 0 (ar (f.aU.parts - 1))).c) fun x3 =>
 .br (!x3)
 (.fin (.inl (.inl 15)))
 (.r 6 (.dep ((bE ((f.aw.getD i2 default).cH) 0 (ar (((r.aN.length:Nat):Int) - 1))).c) fun x4=>.wh (!x4) false ((bE ((f.aw.getD i2 default).kind) 0 9).c)) fun NW =>
 .br ((!NW.1)||(!NW.2))
 (.fin (.inl (.inl 1)))
 (.r 8 ((B5 r f (f.aw.getD i2 default)).c) fun x6 =>
 .br (!x6)
 (.fin (.inl (.inl 14)))
 (.bind false (fun b7=>f.aU.day≤b7∧(0≤(f.aw.getD i2 default).at_→(f.af.getD (f.aw.getD i2 default).at_.toNat default).day≤b7))
 (.br (((f.aw.getD i2 default).at_) != (-1))
 (.r 12 (.p (bU ((f.aw.getD i2 default).at_) f.af.length)) fun _ =>
 .fin (.inr (bX f.aU.day ((f.af.getD (((f.aw.getD i2 default).at_).toNat) default).day))))
 (.fin (.inr f.aU.day)))
 (fun (b7:Int)=>⟨[(7,iv b7)],[]⟩) fun b7 =>
 .bind false (fun b8=>f.aU.day≤b8∧(0≤(f.aw.getD i2 default).at_→(f.af.getD (f.aw.getD i2 default).at_.toNat default).day≤b8)∧(i2≠0→(f.aw.getD (i2 - 1) default).day≤b8))
 (.br (decide ((i2:Int) > 0))
 (.r 14 (.p (bU (ar ((i2:Int) - 1)) f.aw.length)) fun _ =>
 .fin (.inr (bX b7 ((f.aw.getD ((ar ((i2:Int) - 1)).toNat) default).day))))
 (.fin (.inr b7)))
 (fun (b8:Int)=>⟨[(7,iv b8)],[]⟩) fun b8 =>
 .r 15 ((bE ((f.aw.getD i2 default).day) b8 100000).c) fun x9 =>
 .br (!x9)
 (.fin (.inl (.inl 13)))
 (.nx 17 11 i2 (i2+1))))))
 (.fin (.inl (.inr ()))))
 (fun (_:Unit)=>⟨[],[]⟩) fun _ =>
 .fin 0
def Mi r f:=(mN r f).val
theorem Mj (r:ah) (f:ak) (hP:f.af.length≤40∧f.aw.length≤100):(mN r f).dj (fun (x:Int)=>x=0→∀ q,q < f.aw.length→Hd f q):=by
 refine Sk.bz _ ?_
 unfold mN
 simp only [Sk.de,Sk.aI,reduceCtorEq,ON,kk,kp,B5,bE,fE,forall_eq,maxLen]
 obtain ⟨hf,ha⟩:=hP
 refine ⟨⟨⟨by omega,fun q hq=>absurd hq (by omega)⟩,fun k hk=>⟨fun hc _=>⟨fun _ h=>absurd h (by decide),fun _=>⟨fun _ h=>absurd h (by decide),fun _ acJ=>⟨fun _ h=>absurd h (by decide),fun ha2=>⟨⟨fun _ _=>⟨?_,fun _=>?_⟩,fun vG=>⟨Int.le_refl _,fun h=>?_⟩⟩,fun b _ hb=>⟨⟨fun Tg _=>⟨?_,fun h=>?_,fun _=>?_⟩,fun Tg=>⟨hb.1,hb.2,fun h=>?_⟩⟩,fun c _ hcc=>⟨fun _ h=>absurd h (by decide),fun hd _=>⟨⟨?_,fun q hq=>?_⟩,?_⟩⟩⟩⟩⟩⟩⟩,fun hc q hq=>hk.2 q (by simp only [LN] at hc; omega)⟩⟩,?_⟩
 all_goals (try simp only [LN] at hc)
 ·unfold bX; omega
 ·unfold bX; omega
 ·simp only [LN] at vG; omega
 ·have:=hb.1; unfold bX; omega
 ·have:=hb.2 h; unfold bX; omega
 ·simp only [LN] at Tg
  have e:(ar ((k:Int) - 1)).toNat=k - 1:=by rw [aA (by omega) (by omega)]; omega
  rw [e]; unfold bX; omega
 ·simp only [LN] at Tg; omega
 ·omega
 ·simp only [LN] at hd
  by_cases e:q=k
  ·subst e
   have A:=acJ hf (by simpa using ha2)
   exact ⟨A.2.1,⟨by omega,hd.2⟩,fun h=>by have:=hcc.2.2 h; omega,fun h6=>⟨⟨(A.2.2 h6).1,by have:=(A.2.2 h6).1; have:=A.1; omega⟩,by have:=hcc.2.1 (A.2.2 h6).1; omega,(A.2.2 h6).2⟩⟩
  ·exact hk.2 q (by omega)
 ·omega
 ·first | exact fun _ hb=>hb | exact fun _ hb _=>hb | trivial
theorem JG (r:ah) (f:ak):(fun (x:Int)=>(f.af.length≤40∧f.aw.length≤100)→(x=0→∀ q,q < f.aw.length→Hd f q)) (Mi r f):=fun hP=>Sk.dk _ (Mj r f hP)
theorem OU (r:ah) (f:ak) (hf:f.af.length≤40) (ha:f.aw.length≤1000000):(mN r f).bC (fun _=>True):=by
 refine Sk.aR _ ?_
 unfold mN
 simp only [Sk.ju,Sk.aI,reduceCtorEq,ON,kk,kp,B5,bE,fE,forall_eq,maxLen]
 refine ⟨⟨by omega,fun q hq=>absurd hq (by omega)⟩,fun k hk hl=>⟨fun hc=>⟨⟨by omega,of_decide_eq_true hc⟩,fun _ _ _=>⟨by omega,fun acJ ha2=>⟨⟨fun vG=>⟨?_,fun _=>⟨?_,fun _=>?_⟩⟩,fun vG=>⟨Int.le_refl _,fun h=>?_⟩⟩,fun b _ hb=>⟨⟨fun Tg=>⟨⟨?_,?_⟩,fun _=>⟨?_,fun h=>?_,fun _=>?_⟩⟩,fun Tg=>⟨hb.1,hb.2,fun h=>?_⟩⟩,fun c _ hcc hd _=>⟨?_,⟨?_,fun q hq=>?_⟩,?_⟩⟩⟩⟩⟩,fun hc q hq=>hk.2 q (by simp only [LN] at hc; omega)⟩⟩
 all_goals (try simp only [LN] at hc)
 ·simp only [LN] at vG
  have:=(acJ hf (by simpa using ha2)).1
  omega
 ·unfold bX; omega
 ·unfold bX; omega
 ·simp only [LN] at vG; omega
 ·simp only [LN] at Tg; rw [aA (by omega) (by omega)]; omega
 ·simp only [LN] at Tg; rw [aA (by omega) (by omega)]; omega
 ·have:=hb.1; unfold bX; omega
 ·have:=hb.2 h; unfold bX; omega
 ·simp only [LN] at Tg
  have e:(ar ((k:Int) - 1)).toNat=k - 1:=by rw [aA (by omega) (by omega)]; omega
  rw [e]; unfold bX; omega
 ·simp only [LN] at Tg; omega
 ·exact aA (by omega) (by omega)
 ·omega
 ·simp only [LN] at hd
  by_cases e:q=k
  ·subst e
   have A:=acJ hf (by simpa using ha2)
   exact ⟨A.2.1,⟨by omega,hd.2⟩,fun h=>by have:=hcc.2.2 h; omega,fun h6=>⟨⟨(A.2.2 h6).1,by have:=(A.2.2 h6).1; have:=A.1; omega⟩,by have:=hcc.2.1 (A.2.2 h6).1; omega,(A.2.2 h6).2⟩⟩
  ·exact hk.2 q (by omega)
 ·omega
def Ac r f:=kk tok mixed Tryz.func35 [av r.cells,av f.cells] (fun x=>iv x) true (mN r f) (Mi r f) (u2 (OU r f)) (fun (x:Int)=>(f.af.length≤40∧f.aw.length≤100)→(x=0→∀ q,q < f.aw.length→Hd f q)) (JG r f)
def u7 (x_:Int):Sk (Bool) :=
 .fin (x_ != x_)
def Qg x_:=(u7 x_).val
theorem RE (x_:Int):Qg x_=(x_ != x_):=rfl
theorem RF (x_:Int):(u7 x_).bC (fun _=>True):=by
 unfold u7
 exact qT
def B6 x_:=kk tok mixed Tryz.func91 [iv x_] (fun x=>bv x) true (u7 x_) (Qg x_) (u0 (RF x_))
def rI (x_:Int) (y:Int):Sk (Int) :=
 .r 1 ((B6 x_).c) fun x1 =>
 .r 2 ((B6 y).c) fun x2 =>
 .br x1
 (.br x2
 (.fin 0)
 (.fin (-1)))
 (.br x2
 (.fin 1)
 (.br (decide (x_ < y))
 (.fin (-1))
 (.br (decide (x_ > y))
 (.fin 1)
 (.fin 0))))
def Up x_ y:=(rI x_ y).val
theorem Mk (x_:Int) (y:Int):(rI x_ y).bC (fun _=>True):=by
 unfold rI
 try simp only [B6,RE]
 exact Bu
def xU x_ y:=kk tok mixed Tryz.func62 [iv x_,iv y] (fun x=>iv x) true (rI x_ y) (Up x_ y) (u0 (Mk x_ y))
def Da (ef:List Int):Sk (Int) :=
 .bt
 (.loop (default:Sum (Int) (Unit)) (fun i2=>i2≤ef.length) (fun i2=>ef.length - i2) (0:Nat)
 (fun (i2:Nat)=>⟨[(8,iv (i2:Int))],[]⟩) fun i2 =>
 .lt 6 0 i2 ef.length
 (.r 4 (.p (bU (i2:Int) ef.length)) fun _ =>
 .br ((ef.getD i2 default) != 0)
 (.fin (.inl (.inl (ef.getD i2 default))))
 (.nx 7 8 i2 (i2+1)))
 (.fin (.inl (.inr ()))))
 (fun (_:Unit)=>⟨[],[]⟩) fun _ =>
 .fin 0
def aev ef:=(Da ef).val
theorem Zj (ef:List Int):(Da ef).bC (fun _=>True):=by
 unfold Da
 exact mA
def Uq ef:=kk tok mixed Tryz.func61 [lv bI ef] (fun x=>iv x) true (Da ef) (aev ef) (u0 (Zj ef))
def rJ (f:ak):Sk (Int) :=
 .bt
 (.loop (default:Sum (Int) (Unit)) (fun i2=>i2≤f.facts.length) (fun i2=>f.facts.length - i2) (0:Nat)
 (fun (i2:Nat)=>⟨[(9,iv (i2:Int))],[]⟩) fun i2 =>
 .lt 7 0 i2 f.facts.length
 (.r 3 (.p (bU (i2:Int) f.facts.length)) fun _ =>
 .r 4 (.dep ((bE ((f.facts.getD i2 default).kind) 0 4).c) fun x3=>.dep (.wh (!x3) false ((bE ((f.facts.getD i2 default).at_) 0 (ar (((f.af.length:Nat):Int) - 1))).c)) fun x4=>.wh ((!x3)||(!x4)) false ((bE ((f.facts.getD i2 default).n) 0 1).c)) fun NW =>
 .br (((!NW.1)||(!NW.2.1))||(!NW.2.2))
 (.fin (.inl (.inl 1)))
 (.br ((i2:Int) == 0)
 (.nx 10 9 i2 (i2+1))
 (.r 7 (.p (bU (ar ((i2:Int) - 1)) f.facts.length)) fun _ =>
 .r 8 (.dep ((xU ((f.facts.getD ((ar ((i2:Int) - 1)).toNat) default).at_) ((f.facts.getD i2 default).at_)).c) fun x6=>.dep ((xU ((f.facts.getD ((ar ((i2:Int) - 1)).toNat) default).kind) ((f.facts.getD i2 default).kind)).c) fun x7=>.aj (.o [.eG (fm dm [x6,x7])]) ((Uq [x6,x7]).c)) fun p9 =>
 .br (decide (p9.2.2≥0))
 (.fin (.inl (.inl 5)))
 (.nx 10 9 i2 (i2+1)))))
 (.fin (.inl (.inr ()))))
 (fun (_:Unit)=>⟨[],[]⟩) fun _ =>
 .fin 0
def Ur f:=(rJ f).val
theorem Ml (f:ak):(rJ f).bC (fun _=>True):=by
 unfold rJ
 try simp only [xU,Uq,bE,fE]
 exact Bu
def xV f:=kk tok mixed Tryz.func36 [av f.cells] (fun x=>iv x) true (rJ f) (Ur f) (u0 (Ml f))
def lD (r:ah) (f:ak):Sk (Int) :=
 .br ((((decide (((f.af.length:Nat):Int) > 40))||(decide (((f.bn.length:Nat):Int) > 4)))||(decide (((f.aw.length:Nat):Int) > 100)))||(decide (((f.facts.length:Nat):Int) > 200)))
 (.fin 6)
 (.r 3 ((uu r f.aU).c) fun x1 =>
 .br (x1 != 0)
 (.fin x1)
 (.br (((f.af.length:Nat):Int) == 0)
 (.fin 14)
 (.bind true (fun b2=>(r.bu.length≤200→∀ q,q < f.af.length→Qc r f q∧ToQ r f q))
 (.loop (default:Sum (Int) (Unit)) (fun i3=>i3≤f.af.length∧(r.bu.length≤200→∀ q,q < i3→Qc r f q∧ToQ r f q)) (fun i3=>f.af.length - i3) (0:Nat)
 (fun (i3:Nat)=>⟨[(48,iv (i3:Int))],[]⟩) fun i3 =>
 .lt 3 15 i3 f.af.length
 (.r 11 ((Ab r f (i3:Int)).c) fun x4 =>
 .br (x4 != 0)
 (.fin (.inl (.inl x4)))
 (.nx 14 48 i3 (i3+1)))
 (.fin (.inl (.inr ()))))
 (fun (_:Unit)=>⟨[],[]⟩) fun _ =>
 .bind true (fun b5=>(∀ q,q < f.bn.length→ma (f.bn.getD q default).sum))
 (.loop (default:Sum (Int) (Unit)) (fun i6=>i6.2≤f.bn.length∧(∀ q,q < i6.2→ma (f.bn.getD q default).sum)) (fun i6=>f.bn.length - i6.2) ((0,0):Int × Nat)
 (fun (i6:Int × Nat)=>⟨[(8,iv i6.1),(62,iv (i6.2:Int))],[]⟩) fun i6 =>
 .lt 60 0 i6.2 f.bn.length
 (.r 18 (.p (bU (i6.2:Int) f.bn.length)) fun _ =>
 .r 19 ((bE ((f.bn.getD i6.2 default).at_) (ar (i6.1+1)) ((f.af.length:Nat):Int)).c) fun x7 =>
 .br (!x7)
 (.fin (.inl (.inl 1)))
 (.r 21 ((bE ((f.bn.getD i6.2 default).sum) 1 1099511627776).c) fun x8 =>
 .br (!x8)
 (.fin (.inl (.inl 3)))
 (.nx 24 62 i6.2 ((f.bn.getD i6.2 default).at_,i6.2+1))))
 (.fin (.inl (.inr ()))))
 (fun (_:Unit)=>⟨[],[]⟩) fun _ =>
 .r 25 ((Ac r f).c) fun x9 =>
 .br (x9 != 0)
 (.fin x9)
 (.r 28 ((xV f).c) fun Ma =>
 .fin Ma))))
def qW r f:=(lD r f).val
theorem JH (r:ah) (f:ak) (hP:r.bu.length≤200):(lD r f).dj (fun (x:Int)=>x=0→cb r f∧ToF r f):=by
 refine Sk.bz _ ?_
 unfold lD
 simp only [Sk.de,Sk.aI,reduceCtorEq,ON,kk,kp,Ac,xV,bE,Ab,uu,fE,forall_eq,maxLen]
 refine ⟨fun _ h=>absurd h (by decide),fun hlen hw=>⟨fun h1 h2=>?_,fun hwz=>⟨fun _ h=>absurd h (by decide),fun vG=>⟨⟨⟨by omega,fun _ q hq=>absurd hq (by omega)⟩,fun k hk=>⟨fun hc hs=>⟨fun h1 h2=>?_,fun h1 _=>⟨⟨?_,fun hr q hq=>?_⟩,?_⟩⟩,fun hc hr q hq=>hk.2 hr q (by simp only [LN] at hc; omega)⟩⟩,fun _ hsg=>⟨⟨⟨by omega,fun q hq=>absurd hq (by omega)⟩,fun k hk=>⟨fun hc _=>⟨fun _ h=>absurd h (by decide),fun _=>⟨fun _ h=>absurd h (by decide),fun hs _=>⟨⟨?_,fun q hq=>?_⟩,?_⟩⟩⟩,fun hc q hq=>hk.2 q (by simp only [LN] at hc; omega)⟩⟩,fun _ hal hac=>⟨fun h1 h2=>?_,fun h1 h2=>?_⟩⟩⟩⟩⟩⟩
 all_goals simp only [LN] at hlen
 all_goals (try simp only [LN] at hc)
 ·rw [h2] at h1; exact absurd h1 (by decide)
 ·rw [h2] at h1; exact absurd h1 (by decide)
 ·omega
 ·by_cases e:q=k
  ·subst e
   have:=hs ⟨by omega,by omega,hP,(hw (by simpa using hwz)).1⟩ (by simpa using h1)
   simpa using this
  ·exact hk.2 hr q (by omega)
 ·omega
 ·omega
 ·by_cases e:q=k.2
  ·subst e
   simp only [LN] at hs
   exact ⟨by omega,by omega⟩
  ·exact hk.2 q (by omega)
 ·omega
 ·rw [h2] at h1; exact absurd h1 (by decide)
 ·have W:=hw (by simpa using hwz)
  simp only [LN] at vG
  exact ⟨⟨W.1,⟨by omega,by omega,by omega,by omega,by omega⟩,fun q hq=>(hsg hP q hq).1,hal,hac ⟨by omega,by omega⟩ (by simpa using h1)⟩,W.2,fun q hq=>(hsg hP q hq).2⟩
theorem lE (r:ah) (f:ak):(fun (x:Int)=>(r.bu.length≤200)→(x=0→cb r f∧ToF r f)) (qW r f):=fun hP=>Sk.dk _ (JH r f hP)
theorem Mm (r:ah) (f:ak) (hr:r.Small):(lD r f).bC (fun _=>True):=by
 refine Sk.aR _ ?_
 unfold lD
 simp only [Sk.ju,Sk.aI,reduceCtorEq,ON,kk,kp,Ac,xV,bE,Ab,uu,fE,forall_eq,maxLen]
 intro hlen
 simp only [LN] at hlen
 refine ⟨hr,fun hw hwz vG=>⟨⟨⟨by omega,fun _ q hq=>absurd hq (by omega)⟩,fun k hk hl=>⟨fun hc=>⟨⟨⟨by omega,of_decide_eq_true hc⟩,by omega,hr⟩,fun hs h1 _=>⟨?_,⟨?_,fun hr2 q hq=>?_⟩,?_⟩⟩,fun hc hr2 q hq=>hk.2 hr2 q (by simp only [LN] at hc; omega)⟩⟩,fun _ hsg=>⟨⟨⟨by omega,fun q hq=>absurd hq (by omega)⟩,fun k hk hl=>⟨fun hc=>⟨⟨by omega,of_decide_eq_true hc⟩,fun _ _ hs _=>⟨?_,⟨?_,fun q hq=>?_⟩,?_⟩⟩,fun hc q hq=>hk.2 q (by simp only [LN] at hc; omega)⟩⟩,fun _ _=>⟨by omega,by omega⟩⟩⟩⟩
 all_goals (try simp only [LN] at hc)
 ·exact aA (by omega) (by omega)
 ·omega
 ·by_cases e:q=k
  ·subst e
   have:=hs ⟨by omega,by omega,hr2,(hw (by simpa using hwz)).1⟩ (by simpa using h1)
   simpa using this
  ·exact hk.2 hr2 q (by omega)
 ·omega
 ·exact aA (by omega) (by omega)
 ·omega
 ·by_cases e:q=k.2
  ·subst e
   simp only [LN] at hs
   exact ⟨by omega,by omega⟩
  ·exact hk.2 q (by omega)
 ·omega
def xW r f:=kk tok mixed Tryz.func15 [av r.cells,av f.cells] (fun x=>iv x) true (lD r f) (qW r f) (Mm r f) (fun (x:Int)=>(r.bu.length≤200)→(x=0→cb r f∧ToF r f)) (lE r f)
def sM (r:ah) (n:Nat) (s:cS):Prop:=(0≤s.cV∧s.cV < r.bu.length)∧(0≤s.cW∧s.cW < r.bu.length)∧s.cV≠s.cW∧(0≤s.forum∧s.forum < r.aE.length)∧(0≤s.file∧s.file < n)∧(0≤s.sign∧s.sign < 40)∧(0≤s.day∧s.day < 100001)∧(0≤s.kind∧s.kind < 2)
def pH (r:ah) (files:List ak) (aq:List cS) (az:List Move):Sk (Int) :=
 .br (((decide (((files.length:Nat):Int) > 50))||(decide (((aq.length:Nat):Int) > 30)))||(decide (((az.length:Nat):Int) > 100)))
 (.fin 6)
 (.bind true (fun b1=>∀ q,q < files.length→qW r (files.getD q default)=0)
 (.loop (default:Sum (Int) (Unit)) (fun i2=>i2≤files.length∧∀ q,q < i2→qW r (files.getD q default)=0) (fun i2=>files.length - i2) (0:Nat)
 (fun (i2:Nat)=>⟨[(30,iv (i2:Int))],[]⟩) fun i2 =>
 .lt 1 0 i2 files.length
 (.r 5 (.p (bU (i2:Int) files.length)) fun _ =>
 .r 6 ((xW r (files.getD i2 default)).c) fun x3 =>
 .br (x3 != 0)
 (.fin (.inl (.inl x3)))
 (.nx 9 30 i2 (i2+1)))
 (.fin (.inl (.inr ()))))
 (fun (_:Unit)=>⟨[],[]⟩) fun _ =>
 .bind true (fun b4=>∀ q,q < aq.length→sM r files.length (aq.getD q default))
 (.loop (default:Sum (Int) (Unit)) (fun i5=>i5≤aq.length∧∀ q,q < i5→sM r files.length (aq.getD q default)) (fun i5=>aq.length - i5) (0:Nat)
 (fun (i5:Nat)=>⟨[(43,iv (i5:Int))],[]⟩) fun i5 =>
 .lt 41 0 i5 aq.length
 (.r 12 (.p (bU (i5:Int) aq.length)) fun _ =>
 .r 13 (.dep ((eW ((aq.getD i5 default).cV) ((r.bu.length:Nat):Int)).c) fun x6=>.wh x6 true ((eW ((aq.getD i5 default).cW) ((r.bu.length:Nat):Int)).c)) fun Mn =>
 .r 14 (.dep (.wh (!((Mn.1&&Mn.2)&&(((aq.getD i5 default).cV) != ((aq.getD i5 default).cW)))) false ((eW ((aq.getD i5 default).forum) ((r.aE.length:Nat):Int)).c)) fun x8=>.dep (.wh ((!((Mn.1&&Mn.2)&&(((aq.getD i5 default).cV) != ((aq.getD i5 default).cW))))||(!x8)) false ((eW ((aq.getD i5 default).file) ((files.length:Nat):Int)).c)) fun x9=>.dep (.wh (((!((Mn.1&&Mn.2)&&(((aq.getD i5 default).cV) != ((aq.getD i5 default).cW))))||(!x8))||(!x9)) false ((eW ((aq.getD i5 default).sign) 40).c)) fun Ma=>.dep (.wh ((((!((Mn.1&&Mn.2)&&(((aq.getD i5 default).cV) != ((aq.getD i5 default).cW))))||(!x8))||(!x9))||(!Ma)) false ((eW ((aq.getD i5 default).day) 100001).c)) fun x11=>.wh (((((!((Mn.1&&Mn.2)&&(((aq.getD i5 default).cV) != ((aq.getD i5 default).cW))))||(!x8))||(!x9))||(!Ma))||(!x11)) false ((eW ((aq.getD i5 default).kind) 2).c)) fun p13 =>
 .br ((((((!((Mn.1&&Mn.2)&&(((aq.getD i5 default).cV) != ((aq.getD i5 default).cW))))||(!p13.1))||(!p13.2.1))||(!p13.2.2.1))||(!p13.2.2.2.1))||(!p13.2.2.2.2))
 (.fin (.inl (.inl 1)))
 (.nx 16 43 i5 (i5+1)))
 (.fin (.inl (.inr ()))))
 (fun (_:Unit)=>⟨[],[]⟩) fun _ =>
 .fin 0)
def nP r files aq az:=(pH r files aq az).val
theorem B7 (r:ah) (files:List ak) (aq:List cS) (az:List Move):(pH r files aq az).dj (fun (x:Int)=>x=0↔(files.length≤50∧aq.length≤30∧az.length≤100)∧(∀ q,q < files.length→qW r (files.getD q default)=0)∧∀ q,q < aq.length→sM r files.length (aq.getD q default)):=by
 refine Sk.bz _ ?_
 unfold pH
 simp only [Sk.de,Sk.aI,reduceCtorEq,ON,kk,kp,xW,eW,qG,forall_eq,maxLen]
 all_goals simp only [LN] at *
 have nx:∀ {p:Nat→Prop} {i:Nat},(∀ q,q < i→p q)→p i→∀ q,q < i+1→p q:=fun h h0 q hq=>by
  rcases Nat.lt_succ_iff_lt_or_eq.1 hq with h1 | rfl
  ·exact h q h1
  ·exact h0
 refine ⟨fun h=>⟨fun q=>absurd q (by omega),fun q=>absurd q.1 (by omega)⟩,fun hc=>⟨⟨⟨Nat.zero_le _,fun q hq=>absurd hq (by omega)⟩,fun i hi=>⟨fun gI _ _=>⟨fun h=>⟨fun q=>absurd q h,fun q=>absurd (q.2.1 i (by omega)) h⟩,fun h _=>⟨⟨by omega,nx hi.2 h⟩,by omega⟩⟩,fun SK q hq=>hi.2 q (by omega)⟩⟩,fun _ hf=>⟨⟨⟨Nat.zero_le _,fun q hq=>absurd hq (by omega)⟩,fun i hi=>⟨fun gI _=>⟨fun h=>⟨fun q=>absurd q (by omega),fun q=>?_⟩,fun h _=>⟨⟨by omega,nx hi.2 ?_⟩,by omega⟩⟩,fun SK q hq=>hi.2 q (by omega)⟩⟩,fun _ hs=>⟨fun _=>⟨⟨by omega,by omega,by omega⟩,hf,hs⟩,fun _=>trivial⟩⟩⟩⟩
 ·have:=q.2.2 i (by omega)
  unfold sM at this
  omega
 ·unfold sM
  omega
theorem uv (r:ah) (files:List ak) (aq:List cS) (az:List Move):(fun (x:Int)=>x=0↔(files.length≤50∧aq.length≤30∧az.length≤100)∧(∀ q,q < files.length→qW r (files.getD q default)=0)∧∀ q,q < aq.length→sM r files.length (aq.getD q default)) (nP r files aq az):=have h:=Sk.dk _ (B7 r files aq az); h
theorem OV (r:ah) (files:List ak) (aq:List cS) (az:List Move) (aX:r.Small):(pH r files aq az).bC (fun _=>True):=by
 refine Sk.aR _ ?_
 unfold pH
 simp only [Sk.ju,Sk.aI,reduceCtorEq,ON,kk,kp,xW,eW,qG,forall_eq,maxLen]
 all_goals simp only [LN] at *
 have nx:∀ {p:Nat→Prop} {i:Nat},(∀ q,q < i→p q)→p i→∀ q,q < i+1→p q:=fun h h0 q hq=>by
  rcases Nat.lt_succ_iff_lt_or_eq.1 hq with h1 | rfl
  ·exact h q h1
  ·exact h0
 refine fun hc=>⟨⟨⟨Nat.zero_le _,fun q hq=>absurd hq (by omega)⟩,fun i hi _=>⟨fun gI=>⟨by omega,fun _=>⟨aX,fun _ h _=>⟨?_,⟨by omega,nx hi.2 h⟩,by omega⟩⟩⟩,fun SK q hq=>hi.2 q (by omega)⟩⟩,fun _ hf=>⟨⟨Nat.zero_le _,fun q hq=>absurd hq (by omega)⟩,fun i hi _=>⟨fun gI=>⟨by omega,fun _ h _=>⟨?_,⟨by omega,nx hi.2 ?_⟩,by omega⟩⟩,fun SK q hq=>hi.2 q (by omega)⟩⟩⟩
 ·rw [aA (by omega) (by omega)]; omega
 ·rw [aA (by omega) (by omega)]; omega
 ·unfold sM
  omega
def iQ r files aq az:=kp tok mixed Tryz.func6 [av r.cells,lv ak.cells files,lv cS.cells aq,lv Move.cells az] (fun x=>iv x) true (nP r files aq az) (OV r files aq az) (B7 r files aq az)
def nh (aL:Int) (s:Int × List Int × List Int × Bool) (m:Move) (e:Int):Int × List Int × List Int × Bool :=
 if e≠0∨m.aL≠aL then s
 else if m.kind=1 then (s.1,s.2.1,s.2.2.1++[m.no],s.2.2.2)
 else if m.kind=5 then (s.1,s.2.1,s.2.2.1,true)
 else if m.kind=4 then (m.day,s.2.2.1.filter (fun d=>s.2.2.2||d == 0||d == 1||d == 2),s.2.2.1,s.2.2.2)
 else s
def Ad (aL:Int) (w:Bool) (az:List Move) (errors:List Int):Nat→Int × List Int × List Int × Bool
 | 0=>(0,[],[],w)
 | n+1=>nh aL (Ad aL w az errors n) (az.getD n default) (errors.getD n default)
theorem Zk (aL:Int) (s:Int × List Int × List Int × Bool) (m:Move) (e:Int) (n:Nat) (h:s.2.2.1.length≤n∧s.2.1.length≤n):(nh aL s m e).2.2.1.length≤n+1∧(nh aL s m e).2.1.length≤n+1:=by
 have:=List.length_filter_le (fun d=>s.2.2.2||d == 0||d == 1||d == 2) s.2.2.1
 unfold nh
 repeat' split
 ·omega
 ·rw [List.length_append]; simp only [List.length_cons,List.length_nil]; omega
 ·simp only; omega
 ·simp only; omega
 ·omega
theorem aa9 (aL:Int) (w:Bool) (az:List Move) (errors:List Int) (n:Nat):(Ad aL w az errors n).2.2.1.length≤n∧(Ad aL w az errors n).2.1.length≤n:=by
 induction n with
 | zero=>exact ⟨Nat.le_refl _,Nat.le_refl _⟩
 | succ n ih=>exact Zk _ _ _ _ _ ih
def lF (s:cS) (aL:Int) (az:List Move) (errors:List Int):Sk (Int × (List Int)) :=
 .bind true (fun b1=>(Ad aL (s.kind == 1) az errors az.length).1=b1.1∧(Ad aL (s.kind == 1) az errors az.length).2.1=b1.2)
 (.loop (default:Sum (Int × (List Int)) (Int × (List Int))) (fun i2=>i2.2.2.2.2≤az.length∧Ad aL (s.kind == 1) az errors i2.2.2.2.2=(i2.1,i2.2.1,i2.2.2.1,i2.2.2.2.1)) (fun i2=>az.length - i2.2.2.2.2) ((0,[],[],s.kind == 1,0):Int × (List Int) × (List Int) × Bool × Nat)
 (fun (i2:Int × (List Int) × (List Int) × Bool × Nat)=>⟨[(8,iv i2.1),(9,ow 100075 i2.2.1),(10,ow 100076 i2.2.2.1),(11,bv i2.2.2.2.1),(21,iv (i2.2.2.2.2:Int))],[(100075,bw 3 1 bI i2.2.1),(100076,bw 3 1 bI i2.2.2.1)]⟩) fun i2 =>
 .lt 19 0 i2.2.2.2.2 az.length
 (.bind true (fun b3=>(b3.1,b3.2.1,b3.2.2.1,b3.2.2.2)=nh aL (i2.1,i2.2.1,i2.2.2.1,i2.2.2.2.1) (az.getD i2.2.2.2.2 default) (errors.getD i2.2.2.2.2 default))
 (.r 5 (.p (bU (i2.2.2.2.2:Int) az.length)) fun _ =>
 .r 6 (.p (bU (i2.2.2.2.2:Int) errors.length)) fun _ =>
 .br (((errors.getD i2.2.2.2.2 default) != 0)||(((az.getD i2.2.2.2.2 default).aL) != aL))
 (.fin (.inr (i2.1,i2.2.1,i2.2.2.1,i2.2.2.2.1)))
 (.bind true (fun b4=>(b4.1,b4.2.1,b4.2.2.1,b4.2.2.2)=nh aL (i2.1,i2.2.1,i2.2.2.1,i2.2.2.2.1) (az.getD i2.2.2.2.2 default) (errors.getD i2.2.2.2.2 default))
 (.br (((az.getD i2.2.2.2.2 default).kind) == 1)
 (.r 9 (.aj (.o [.eG (fm dm [(az.getD i2.2.2.2.2 default).no])]) (.aj (.o [.eG (mY dm i2.2.2.1 [(az.getD i2.2.2.2.2 default).no])]) (.aj (.t (dm.ou [(az.getD i2.2.2.2.2 default).no])) (.p (yE i2.2.2.1.length [(az.getD i2.2.2.2.2 default).no].length 8))))) fun _ =>
 .fin (.inr (i2.1,i2.2.1,i2.2.2.1++[(az.getD i2.2.2.2.2 default).no],i2.2.2.2.1)))
 (.br (((az.getD i2.2.2.2.2 default).kind) == 5)
 (.fin (.inr (i2.1,i2.2.1,i2.2.2.1,true)))
 (.br (((az.getD i2.2.2.2.2 default).kind) == 4)
 (.bind true (fun b5=>b5.1=i2.2.2.1.filter (fun d=>i2.2.2.2.1||d == 0||d == 1||d == 2))
 (.loop (default:Sum (Sum (Sum (Sum (Sum (Int × (List Int)) (Int × (List Int))) (Int × (List Int) × (List Int) × Bool × Nat)) (Int × (List Int) × (List Int) × Bool)) (Int × (List Int) × (List Int) × Bool)) ((List Int) × Int)) (fun i6=>i6.2≤i2.2.2.1.length∧i6.1=(i2.2.2.1.take i6.2).filter (fun d=>i2.2.2.2.1||d == 0||d == 1||d == 2)) (fun i6=>i2.2.2.1.length - i6.2) (([],0):(List Int) × Nat)
 (fun (i6:(List Int) × Nat)=>⟨[(9,ow 100112 i6.1),(54,iv (i6.2:Int))],[(100112,bw 3 1 bI i6.1)]⟩) fun i6 =>
 .lt 10 0 i6.2 i2.2.2.1.length
 (.r 16 (.aj (.p (bU (i6.2:Int) i2.2.2.1.length)) (.p (i6.2 < i2.2.2.1.length))) fun _ =>
 .br (((i2.2.2.2.1||((i2.2.2.1.getD i6.2 default) == 0))||((i2.2.2.1.getD i6.2 default) == 1))||((i2.2.2.1.getD i6.2 default) == 2))
 (.r 18 (.aj (.o [.eG (fm dm [i2.2.2.1.getD i6.2 default])]) (.aj (.o [.eG (mY dm i6.1 [i2.2.2.1.getD i6.2 default])]) (.aj (.t (dm.ou [i2.2.2.1.getD i6.2 default])) (.p (yE i6.1.length [i2.2.2.1.getD i6.2 default].length 8))))) fun _ =>
 .nx 19 54 i6.2 (i6.1++[i2.2.2.1.getD i6.2 default],i6.2+1))
 (.nx 19 54 i6.2 (i6.1,i6.2+1)))
 (.fin (.inl (.inr (i6.1,(i6.2:Int))))))
 (fun (b5:(List Int) × Int)=>⟨[(9,ow 100111 b5.1),(54,iv b5.2)],[(100111,bw 3 1 bI b5.1)]⟩) fun b5 =>
 .fin (.inr ((az.getD i2.2.2.2.2 default).day,b5.1,i2.2.2.1,i2.2.2.2.1)))
 (.fin (.inr (i2.1,i2.2.1,i2.2.2.1,i2.2.2.2.1))))))
 (fun (b4:Int × (List Int) × (List Int) × Bool)=>⟨[(8,iv b4.1),(9,ow 100108 b4.2.1),(10,ow 100109 b4.2.2.1),(11,bv b4.2.2.2)],[(100108,bw 3 1 bI b4.2.1),(100109,bw 3 1 bI b4.2.2.1)]⟩) fun b4 =>
 .fin (.inr (b4.1,b4.2.1,b4.2.2.1,b4.2.2.2))))
 (fun (b3:Int × (List Int) × (List Int) × Bool)=>⟨[(8,iv b3.1),(9,ow 100103 b3.2.1),(10,ow 100104 b3.2.2.1),(11,bv b3.2.2.2)],[(100103,bw 3 1 bI b3.2.1),(100104,bw 3 1 bI b3.2.2.1)]⟩) fun b3 =>
 .nx 20 21 i2.2.2.2.2 (b3.1,b3.2.1,b3.2.2.1,b3.2.2.2,i2.2.2.2.2+1))
 (.fin (.inl (.inr (i2.1,i2.2.1)))))
 (fun (b1:Int × (List Int))=>⟨[(8,iv b1.1),(9,ow 100056 b1.2)],[(100056,bw 3 1 bI b1.2)]⟩) fun b1 =>
 .fin (b1.1,b1.2)
def xX s aL az errors:=(lF s aL az errors).val
theorem FT (s:cS) (aL:Int) (az:List Move) (errors:List Int):(lF s aL az errors).dj (fun (x:Int × (List Int))=>x=((Ad aL (s.kind == 1) az errors az.length).1,(Ad aL (s.kind == 1) az errors az.length).2.1)):=by
 refine Sk.bz _ ?_
 unfold lF
 simp only [Sk.de,Sk.aI,reduceCtorEq,ON,kk,kp,maxLen]
 all_goals simp only [LN] at *
 have fl:∀ (p:Int→Bool) (l:List Int) (n:Nat),n < l.length→(l.take (n+1)).filter p=(l.take n).filter p++if p (l.getD n default)=true then [l.getD n default] else []:=fun p l n h=>by
  rw [qV h,List.filter_append]; simp [List.filter_cons]
 refine ⟨⟨⟨Nat.zero_le _,rfl⟩,fun i hi=>⟨fun gI=>⟨fun _ _=>⟨fun h=>?_,fun h=>⟨⟨fun h1 _=>?_,fun h1=>⟨fun h5=>?_,fun h5=>⟨fun h4=>⟨⟨⟨Nat.zero_le _,by simp⟩,fun j hj=>⟨fun hl _=>⟨fun hp _ _=>⟨⟨by omega,?_⟩,by omega⟩,fun hp _=>⟨⟨by omega,?_⟩,by omega⟩⟩,fun hg=>?_⟩⟩,fun b hb=>?_⟩,fun h4=>?_⟩⟩⟩,fun b _ hb=>hb⟩⟩,fun b _ hb _=>⟨⟨by omega,?_⟩,by omega⟩⟩,fun SK=>?_⟩⟩,fun b hb=>?_⟩
 ·unfold nh; rw [if_pos h]
 ·unfold nh; rw [if_neg (fun q=>q.elim (fun a=>a h.1) (fun a=>a h.2)),if_pos h1]
 ·unfold nh; rw [if_neg (fun q=>q.elim (fun a=>a h.1) (fun a=>a h.2)),if_neg h1,if_pos h5]
 ·rw [fl _ _ _ (by omega),← hj.2,if_pos (by simpa only [Bool.or_eq_true,beq_iff_eq] using hp)]
 ·rw [fl _ _ _ (by omega),← hj.2,if_neg (by simp only [Bool.or_eq_true,beq_iff_eq]; rw [hp.1.1.1]; simp only [reduceCtorEq,false_or]; rintro ((q | q) | q); exact hp.1.1.2 q; exact hp.1.2 q; exact hp.2 q),List.append_nil]
 ·rw [hj.2,List.take_of_length_le (by omega)]
 ·unfold nh; rw [if_neg (fun q=>q.elim (fun a=>a h.1) (fun a=>a h.2)),if_neg h1,if_neg h5,if_pos h4,hb]
 ·unfold nh; rw [if_neg (fun q=>q.elim (fun a=>a h.1) (fun a=>a h.2)),if_neg h1,if_neg h5,if_neg h4]
 ·simp only [Ad]
  rw [hi.2]
  exact hb.symm
 ·have e:i.2.2.2.2=az.length:=by omega
  have h:=hi.2
  rw [e] at h
  rw [h]; exact ⟨rfl,rfl⟩
 ·rw [hb.1,hb.2]
theorem Hs (s:cS) (aL:Int) (az:List Move) (errors:List Int) (he:errors.length=az.length) (hm:az.length≤1000):(lF s aL az errors).bC (fun _=>True):=by
 refine Sk.aR _ ?_
 unfold lF
 simp only [Sk.ju,Sk.aI,reduceCtorEq,ON,kk,kp,maxLen]
 all_goals simp only [LN] at *
 have fl:∀ (p:Int→Bool) (l:List Int) (n:Nat),n < l.length→(l.take (n+1)).filter p=(l.take n).filter p++if p (l.getD n default)=true then [l.getD n default] else []:=fun p l n h=>by
  rw [qV h,List.filter_append]; simp [List.filter_cons]
 have wi:∀ n:Nat,n≤1000→ar ((n:Int)+1)=((n+1:Nat):Int):=fun n h=>by rw [aA (by omega) (by omega)]; omega
 refine ⟨⟨Nat.zero_le _,rfl⟩,fun i hi _=>?_⟩
 have hr:=(aa9 aL (s.kind == 1) az errors i.2.2.2.2).1
 rw [hi.2] at hr
 simp only at hr
 refine ⟨fun gI=>⟨⟨⟨by omega,by omega⟩,fun _=>⟨⟨by omega,by omega⟩,fun _=>⟨fun h=>?_,fun h=>⟨⟨fun h1=>⟨⟨by omega,by omega⟩,fun _=>?_⟩,fun h1=>⟨fun h5=>?_,fun h5=>⟨fun h4=>⟨⟨⟨Nat.zero_le _,by simp⟩,fun j hj _=>⟨fun hl=>⟨⟨⟨by omega,by omega⟩,by omega⟩,fun _=>⟨fun hp=>⟨?_,fun _ _=>⟨wi _ (by omega),⟨by omega,?_⟩,by omega⟩⟩,fun hp _=>⟨wi _ (by omega),⟨by omega,?_⟩,by omega⟩⟩⟩,fun hg=>?_⟩⟩,fun b hb=>?_⟩,fun h4=>?_⟩⟩⟩,fun b _ hb=>hb⟩⟩⟩⟩,fun b _ hb _=>⟨wi _ (by omega),⟨by omega,?_⟩,by omega⟩⟩,fun SK=>?_⟩
 ·unfold nh; rw [if_pos h]
 ·unfold nh; rw [if_neg (fun q=>q.elim (fun a=>a h.1) (fun a=>a h.2)),if_pos h1]
 ·unfold nh; rw [if_neg (fun q=>q.elim (fun a=>a h.1) (fun a=>a h.2)),if_neg h1,if_pos h5]
 ·have h9:j.1.length≤j.2:=by
   rw [hj.2]
   refine Nat.le_trans (List.length_filter_le _ _) ?_
   rw [List.length_take]; omega
  omega
 ·rw [fl _ _ _ (by omega),← hj.2,if_pos (by simpa only [Bool.or_eq_true,beq_iff_eq] using hp)]
 ·rw [fl _ _ _ (by omega),← hj.2,if_neg (by simp only [Bool.or_eq_true,beq_iff_eq]; rw [hp.1.1.1]; simp only [reduceCtorEq,false_or]; rintro ((q | q) | q); exact hp.1.1.2 q; exact hp.1.2 q; exact hp.2 q),List.append_nil]
 ·rw [hj.2,List.take_of_length_le (by omega)]
 ·unfold nh; rw [if_neg (fun q=>q.elim (fun a=>a h.1) (fun a=>a h.2)),if_neg h1,if_neg h5,if_pos h4,hb]
 ·unfold nh; rw [if_neg (fun q=>q.elim (fun a=>a h.1) (fun a=>a h.2)),if_neg h1,if_neg h5,if_neg h4]
 ·simp only [Ad]
  rw [hi.2]
  exact hb.symm
 ·have e:i.2.2.2.2=az.length:=by omega
  have h:=hi.2
  rw [e] at h
  rw [h]; exact ⟨rfl,rfl⟩
def uw s aL az errors:=kp tok mixed Tryz.func18 [av s.cells,iv aL,lv Move.cells az,lv bI errors] (fun x=>.fD [iv x.1,lv bI x.2]) false (xX s aL az errors) (u2 (Hs s aL az errors)) (FT s aL az errors)
structure Claim where
 bL:Int
 aH:Int
 part:Int
 sign:Int
 c9:Int
 dF:Int
 sum:Int
 au:Int
 state:Int
 deriving Inhabited
def Claim.cells (c:Claim):List D:=[dI c.bL,dI c.aH,dI c.part,dI c.sign,dI c.c9,dI c.dF,dI c.sum,dI c.au,dI c.state]
def Claim.E:P5 Claim:=⟨Claim.cells,9,fun _=>rfl,fun _=>rfl⟩
def oJ (i:Int) (n:Int):Sk (Bool) :=
 .fin ((decide (i≥0))&&(decide (i < n)))
def D1 i n:=(oJ i n).val
theorem lG (i:Int) (n:Int):D1 i n=((decide (i≥0))&&(decide (i < n))):=rfl
theorem Ht (i:Int) (n:Int):(oJ i n).bC (fun _=>True):=by
 unfold oJ
 exact qT
def fq i n:=kk tok mixed Tryz.func66 [iv i,iv n] (fun x=>bv x) true (oJ i n) (D1 i n) (u0 (Ht i n))
def oK (f:ak) (day:Int):Sk (ak) :=
 .bind true (fun b1=>b1.length≤f.af.length)
 (.loop (default:Sum (ak) ((List Sign))) (fun i2=>i2.2.length≤i2.1∧i2.1≤f.af.length) (fun i2=>f.af.length - i2.1) ((0,[]):Nat × (List Sign))
 (fun (i2:Nat × (List Sign))=>⟨[(20,iv (i2.1:Int))],[(100002,bw 140 9 Sign.cells i2.2),(5,.box (f.aU.cells.map .d++[ow 100002 i2.2]++[nv,nv,nv]))]⟩) fun i2 =>
 .lt 18 0 i2.1 f.af.length
 (.r 4 (.p (bU (i2.1:Int) f.af.length)) fun _ =>
 .br (decide (((f.af.getD i2.1 default).day) > day))
 (.fin (.inl (.inr i2.2)))
 (.r 6 (.aj (.o [.eG (fm Sign.E [f.af.getD i2.1 default])]) (.aj (.o [.eG (mY Sign.E i2.2 [f.af.getD i2.1 default])]) (.aj (.t (Sign.E.ou [f.af.getD i2.1 default])) (.p (yE i2.2.length [f.af.getD i2.1 default].length 72))))) fun _ =>
 .nx 7 20 i2.1 (i2.1+1,i2.2++[f.af.getD i2.1 default])))
 (.fin (.inl (.inr i2.2))))
 (fun (b1:(List Sign))=>⟨[],[(100001,bw 140 9 Sign.cells b1),(5,.box (f.aU.cells.map .d++[ow 100001 b1]++[nv,nv,nv]))]⟩) fun b1 =>
 .bind true (fun b3=>b3.length≤f.aw.length)
 (.loop (default:Sum (ak) ((List bD))) (fun i4=>i4.2.length≤i4.1∧i4.1≤f.aw.length) (fun i4=>f.aw.length - i4.1) ((0,[]):Nat × (List bD))
 (fun (i4:Nat × (List bD))=>⟨[(38,iv (i4.1:Int))],[(100005,bw 104 9 bD.cells i4.2),(5,.box (f.aU.cells.map .d++[ow 100001 b1]++[nv,ow 100005 i4.2]++[nv]))]⟩) fun i4 =>
 .lt 36 0 i4.1 f.aw.length
 (.r 10 (.p (bU (i4.1:Int) f.aw.length)) fun _ =>
 .br (decide (((f.aw.getD i4.1 default).day) > day))
 (.fin (.inl (.inr i4.2)))
 (.r 12 (.aj (.o [.eG (fm bD.E [f.aw.getD i4.1 default])]) (.aj (.o [.eG (mY bD.E i4.2 [f.aw.getD i4.1 default])]) (.aj (.t (bD.E.ou [f.aw.getD i4.1 default])) (.p (yE i4.2.length [f.aw.getD i4.1 default].length 72))))) fun _ =>
 .nx 13 38 i4.1 (i4.1+1,i4.2++[f.aw.getD i4.1 default])))
 (.fin (.inl (.inr i4.2))))
 (fun (b3:(List bD))=>⟨[],[(100004,bw 104 9 bD.cells b3),(5,.box (f.aU.cells.map .d++[ow 100001 b1]++[nv,ow 100004 b3]++[nv]))]⟩) fun b3 =>
 .bind true (fun b5=>b5.length≤f.bn.length)
 (.loop (default:Sum (ak) ((List dU))) (fun i6=>i6.2.length≤i6.1∧i6.1≤f.bn.length) (fun i6=>f.bn.length - i6.1) ((0,[]):Nat × (List dU))
 (fun (i6:Nat × (List dU))=>⟨[(56,iv (i6.1:Int))],[(100008,bw 95 2 dU.cells i6.2),(5,.box (f.aU.cells.map .d++[ow 100001 b1,ow 100008 i6.2,ow 100004 b3]++[nv]))]⟩) fun i6 =>
 .lt 54 0 i6.1 f.bn.length
 (.r 16 (.p (bU (i6.1:Int) f.bn.length)) fun _ =>
 .br (decide (((f.bn.getD i6.1 default).at_)≤((b1.length:Nat):Int)))
 (.r 18 (.aj (.o [.eG (fm dU.E [f.bn.getD i6.1 default])]) (.aj (.o [.eG (mY dU.E i6.2 [f.bn.getD i6.1 default])]) (.aj (.t (dU.E.ou [f.bn.getD i6.1 default])) (.p (yE i6.2.length [f.bn.getD i6.1 default].length 16))))) fun _ =>
 .nx 19 56 i6.1 (i6.1+1,i6.2++[f.bn.getD i6.1 default]))
 (.nx 19 56 i6.1 (i6.1+1,i6.2)))
 (.fin (.inl (.inr i6.2))))
 (fun (b5:(List dU))=>⟨[],[(100007,bw 95 2 dU.cells b5),(5,.box (f.aU.cells.map .d++[ow 100001 b1,ow 100007 b5,ow 100004 b3]++[nv]))]⟩) fun b5 =>
 .bind true (fun b7=>b7.length≤f.facts.length)
 (.loop (default:Sum (ak) ((List Fact))) (fun i8=>i8.2.length≤i8.1∧i8.1≤f.facts.length) (fun i8=>f.facts.length - i8.1) ((0,[]):Nat × (List Fact))
 (fun (i8:Nat × (List Fact))=>⟨[(76,iv (i8.1:Int))],[(100011,bw 53 3 Fact.cells i8.2),(5,.box (f.aU.cells.map .d++[ow 100001 b1,ow 100007 b5,ow 100004 b3,ow 100011 i8.2]))]⟩) fun i8 =>
 .lt 74 0 i8.1 f.facts.length
 (.r 22 (.p (bU (i8.1:Int) f.facts.length)) fun _ =>
 .r 23 ((fq ((f.facts.getD i8.1 default).at_) ((b1.length:Nat):Int)).c) fun x9 =>
 .br x9
 (.r 24 (.aj (.o [.eG (fm Fact.E [f.facts.getD i8.1 default])]) (.aj (.o [.eG (mY Fact.E i8.2 [f.facts.getD i8.1 default])]) (.aj (.t (Fact.E.ou [f.facts.getD i8.1 default])) (.p (yE i8.2.length [f.facts.getD i8.1 default].length 24))))) fun _ =>
 .nx 25 76 i8.1 (i8.1+1,i8.2++[f.facts.getD i8.1 default]))
 (.nx 25 76 i8.1 (i8.1+1,i8.2)))
 (.fin (.inl (.inr i8.2))))
 (fun (b7:(List Fact))=>⟨[],[(100010,bw 53 3 Fact.cells b7),(5,.box (f.aU.cells.map .d++[ow 100001 b1,ow 100007 b5,ow 100004 b3,ow 100010 b7]))]⟩) fun b7 =>
 .fin ({ f with af:=b1,bn:=b5,aw:=b3,facts:=b7 })
def ai f day:=(oK f day).val
theorem D2 (f:ak) (day:Int):(oK f day).dj (fun (x:ak)=>x.af.length≤f.af.length∧x.aw.length≤f.aw.length∧x.bn.length≤f.bn.length∧x.facts.length≤f.facts.length):=by
 unfold oK
 try simp only [fq,lG,ak.Small,ah.Small]
 exact Ww
theorem B8 (f:ak) (day:Int):(fun (x:ak)=>x.af.length≤f.af.length∧x.aw.length≤f.aw.length∧x.bn.length≤f.bn.length∧x.facts.length≤f.facts.length) (ai f day):=have h:=Sk.dk _ (D2 f day); h
theorem RG (f:ak) (day:Int) (hf:f.Small):(oK f day).bC (fun _=>True):=by
 simp only [ak.Small,ah.Small] at hf
 unfold oK
 try simp only [fq,lG,ak.Small,ah.Small]
 exact Bu
def aV f day:=kp tok mixed Tryz.func42 [av f.cells,iv day] (fun x=>av x.cells) false (ai f day) (RG f day) (D2 f day)
theorem qX {α:Type} (p:α→Bool):∀ (l s:List α),l.foldl (fun s x=>bif p x then s++[x] else s) s=s++l.filter p
 | [],s=>by simp
 | x :: r,s=>by
  simp only [List.foldl_cons,List.filter_cons]
  cases h:p x with
  | true=>simp [qX p r]
  | false=>simp [qX p r]
theorem Es {α β:Type} (p:α→Bool) (g:List α→β):∀ (l s:List α),walk (fun x s=>bif !(p x) then Sum.inl (g s) else Sum.inr (s++[x])) g l s=g (s++l.takeWhile p)
 | [],s=>by simp [walk]
 | x :: r,s=>by
  simp only [walk,List.takeWhile_cons]
  cases h:p x with
  | true =>
   show walk (fun x s=>bif !(p x) then Sum.inl (g s) else Sum.inr (s++[x])) g r (s++[x])=_
   rw [Es p g r (s++[x])]
   simp
  | false=>simp
theorem iR (f:ak) (day:Int):ai f day=ak.mk f.aU (f.af.takeWhile (fun s=>decide (s.day≤day)))
  (f.bn.filter (fun a=>decide (a.at_≤((f.af.takeWhile (fun s=>decide (s.day≤day))).length:Int)))) (f.aw.takeWhile (fun a=>decide (a.day≤day)))
  (f.facts.filter (fun x=>decide (x.at_≥0)&&decide (x.at_ < ((f.af.takeWhile (fun s=>decide (s.day≤day))).length:Int)))):=by
 simp only [ai,oK,Sk.dK,Sk.gd,Sk.iP,Sk.fB,Sk.jt,Sk.l7,Sk.dn,il.A1,kk,kp,fq,lG]
 have h1:∀ (n:Nat) (d:ak ⊕ List Sign),f.af.length < n→iter (fun i2:Nat × List Sign=>bif decide ((i2.1:Int) < (f.af.length:Int)) then (bif decide ((f.af.getD i2.1 default).day > day) then (Sum.inl (Sum.inr i2.2)) else (Sum.inr (i2.1+1,i2.2++[f.af.getD i2.1 default]))) else Sum.inl (Sum.inr i2.2)) d n (0,[])=(Sum.inr (f.af.takeWhile (fun s=>decide (s.day≤day))):ak ⊕ List Sign):=by
  intro n d hn
  rw [qE f.af (fun s i=>(i,s)) (fun x s=>bif !(decide (x.day≤day)) then Sum.inl (Sum.inr s) else Sum.inr (s++[x])) (fun s=>Sum.inr s) (fun s i hi=>?_) (fun s=>?_) hn []]
  ·exact Es _ (fun s=>(Sum.inr s:ak ⊕ List Sign)) f.af []
  ·rw [decide_eq_true (by omega),cond_true]
   by_cases c:(f.af.getD i default).day > day
   ·rw [decide_eq_true c,decide_eq_false (by omega)]; rfl
   ·rw [decide_eq_false c,decide_eq_true (by omega)]; rfl
  ·rw [decide_eq_false (by omega),cond_false]
 rw [h1 _ _ (by simp)]
 have h2:∀ (n:Nat) (d:ak ⊕ List bD),f.aw.length < n→iter (fun i2:Nat × List bD=>bif decide ((i2.1:Int) < (f.aw.length:Int)) then (bif decide ((f.aw.getD i2.1 default).day > day) then (Sum.inl (Sum.inr i2.2)) else (Sum.inr (i2.1+1,i2.2++[f.aw.getD i2.1 default]))) else Sum.inl (Sum.inr i2.2)) d n (0,[])=(Sum.inr (f.aw.takeWhile (fun s=>decide (s.day≤day))):ak ⊕ List bD):=by
  intro n d hn
  rw [qE f.aw (fun s i=>(i,s)) (fun x s=>bif !(decide (x.day≤day)) then Sum.inl (Sum.inr s) else Sum.inr (s++[x])) (fun s=>Sum.inr s) (fun s i hi=>?_) (fun s=>?_) hn []]
  ·exact Es _ (fun s=>(Sum.inr s:ak ⊕ List bD)) f.aw []
  ·rw [decide_eq_true (by omega),cond_true]
   by_cases c:(f.aw.getD i default).day > day
   ·rw [decide_eq_true c,decide_eq_false (by omega)]; rfl
   ·rw [decide_eq_false c,decide_eq_true (by omega)]; rfl
  ·rw [decide_eq_false (by omega),cond_false]
 simp only [vA]
 rw [h2 _ _ (by simp)]
 simp only [vA]
 generalize f.af.takeWhile (fun s=>decide (s.day≤day))=b1
 have h3:∀ (n:Nat) (d:ak ⊕ List dU),f.bn.length < n→iter (fun i2:Nat × List dU=>bif decide ((i2.1:Int) < (f.bn.length:Int)) then (bif decide ((f.bn.getD i2.1 default).at_≤(b1.length:Int)) then (Sum.inr (i2.1+1,i2.2++[f.bn.getD i2.1 default])) else (Sum.inr (i2.1+1,i2.2))) else Sum.inl (Sum.inr i2.2)) d n (0,[])=(Sum.inr (f.bn.filter (fun a=>decide (a.at_≤(b1.length:Int)))):ak ⊕ List dU):=by
  intro n d hn
  rw [qE f.bn (fun s i=>(i,s)) (fun x s=>Sum.inr (bif decide (x.at_≤(b1.length:Int)) then s++[x] else s)) (fun s=>Sum.inr s) (fun s i hi=>?_) (fun s=>?_) hn []]
  ·rw [j5 (fun (x:dU) s=>bif decide (x.at_≤(b1.length:Int)) then s++[x] else s),qX]; rfl
  ·rw [decide_eq_true (by omega),cond_true]
   cases decide ((f.bn.getD i default).at_≤(b1.length:Int)) <;> rfl
  ·rw [decide_eq_false (by omega),cond_false]
 rw [h3 _ _ (by simp)]
 simp only [vA]
 have h4:∀ (n:Nat) (d:ak ⊕ List Fact),f.facts.length < n→iter (fun i2:Nat × List Fact=>bif decide ((i2.1:Int) < (f.facts.length:Int)) then (bif (decide ((f.facts.getD i2.1 default).at_≥0)&&decide ((f.facts.getD i2.1 default).at_ < (b1.length:Int))) then (Sum.inr (i2.1+1,i2.2++[f.facts.getD i2.1 default])) else (Sum.inr (i2.1+1,i2.2))) else Sum.inl (Sum.inr i2.2)) d n (0,[])=(Sum.inr (f.facts.filter (fun a=>decide (a.at_≥0)&&decide (a.at_ < (b1.length:Int)))):ak ⊕ List Fact):=by
  intro n d hn
  rw [qE f.facts (fun s i=>(i,s)) (fun x s=>Sum.inr (bif (decide (x.at_≥0)&&decide (x.at_ < (b1.length:Int))) then s++[x] else s)) (fun s=>Sum.inr s) (fun s i hi=>?_) (fun s=>?_) hn []]
  ·rw [j5 (fun (x:Fact) s=>bif (decide (x.at_≥0)&&decide (x.at_ < (b1.length:Int))) then s++[x] else s),qX]; rfl
  ·rw [decide_eq_true (by omega),cond_true]
   cases (decide ((f.facts.getD i default).at_≥0)&&decide ((f.facts.getD i default).at_ < (b1.length:Int))) <;> rfl
  ·rw [decide_eq_false (by omega),cond_false]
 rw [h4 _ _ (by simp)]
 rfl
theorem B9 {α:Type} [Inhabited α] (p:α→Bool):∀ (l:List α) (i:Nat),i < (l.takeWhile p).length→(l.takeWhile p).getD i default=l.getD i default∧i < l.length∧p (l.getD i default)=true
 | [],i,h=>by simp at h
 | x :: r,i,h=>by
  rw [List.takeWhile_cons] at h ⊢
  cases hp:p x with
  | false=>rw [hp] at h; simp at h
  | true =>
   rw [hp] at h
   simp only [if_true,List.length_cons] at h ⊢
   cases i with
   | zero=>exact ⟨rfl,by simp,hp⟩
   | succ i =>
    have:=B9 p r i (by omega)
    exact ⟨by simpa using this.1,by simpa using this.2.1,by simpa using this.2.2⟩
structure View where
 all:ak
 now:ak
 day:Int
 lead:List Int
 deriving Inhabited
def View.cells (c:View):List D:=c.all.cells++c.now.cells++[dI c.day,nJ bI c.lead]
def View.kQ (v:View):Prop:=∀ i,i < v.now.af.length→((v.now.af.getD i default).kind=3∨(v.now.af.getD i default).kind=4)→0≤(v.now.af.getD i default).for_∧(v.now.af.getD i default).for_ < (i:Int)
structure fy where
 view:View
 r:ah
 forum:Int
 due:Int
 deriving Inhabited
def fy.cells (c:fy):List D:=c.view.cells++c.r.cells++[dI c.forum,dI c.due]
section
open Go Go.Av Go.Shelf Go.Proofs
def Tryz.RH:Go.Shelf.Ren:=⟨fun | 5=>173 | 8=>209 | 7=>208 | 19=>236 | 20=>237 | 10=>227 | 11=>228 | 12=>229 | 13=>230 | 14=>231 | 15=>232 | 16=>233 | 17=>234 | 18=>235 | 30=>243 | 31=>244 | 32=>245 | 33=>246 | 34=>247 | 35=>91 | 40=>248 | n=>n,fun | 23=>35 | 25=>3 | 3=>3 | 32=>309 | 22=>35 | 0=>0 | 44=>336 | 46=>325 | 4=>4 | 36=>331 | 35=>330 | 41=>88 | 5=>5 | 9=>9 | 53=>346 | 57=>350 | 63=>352 | 64=>180 | n=>n,fun | n=>n⟩
theorem Tryz.Us:Go.Proofs.SlLaysM.n5 Tryz.prog Tryz.RH:={
 mixed:=by kernel_rfl
 f5:=⟨Tryz.f173.name,by decide,Tryz.func173.trans (congrArg some (by kernel_rfl))⟩
 f7:=⟨Tryz.f208.name,by decide,Tryz.func208.trans (congrArg some (by kernel_rfl))⟩
 f8:=Tryz.func209.trans (congrArg some (by kernel_rfl))
 f10:=⟨Tryz.f227.name,by decide,Tryz.func227.trans (congrArg some (by kernel_rfl))⟩
 f11:=⟨Tryz.f228.name,by decide,Tryz.func228.trans (congrArg some (by kernel_rfl))⟩
 f12:=⟨Tryz.f229.name,by decide,Tryz.func229.trans (congrArg some (by kernel_rfl))⟩
 f13:=⟨Tryz.f230.name,by decide,Tryz.func230.trans (congrArg some (by kernel_rfl))⟩
 f14:=⟨Tryz.f231.name,by decide,Tryz.func231.trans (congrArg some (by kernel_rfl))⟩
 f15:=⟨Tryz.f232.name,by decide,Tryz.func232.trans (congrArg some (by kernel_rfl))⟩
 f16:=⟨Tryz.f233.name,by decide,Tryz.func233.trans (congrArg some (by kernel_rfl))⟩
 f17:=⟨Tryz.f234.name,by decide,Tryz.func234.trans (congrArg some (by kernel_rfl))⟩
 f18:=⟨Tryz.f235.name,by decide,Tryz.func235.trans (congrArg some (by kernel_rfl))⟩
 f19:=Tryz.func236.trans (congrArg some (by kernel_rfl))
 f20:=Tryz.func237.trans (congrArg some (by kernel_rfl))
 f30:=⟨Tryz.f243.name,by decide,Tryz.func243.trans (congrArg some (by kernel_rfl))⟩
 f31:=Tryz.func244.trans (congrArg some (by kernel_rfl))
 f32:=Tryz.func245.trans (congrArg some (by kernel_rfl))
 f33:=⟨Tryz.f246.name,by decide,Tryz.func246.trans (congrArg some (by kernel_rfl))⟩
 f34:=⟨Tryz.f247.name,by decide,Tryz.func247.trans (congrArg some (by kernel_rfl))⟩
 f35:=⟨Tryz.f91.name,by decide,Tryz.func91.trans (congrArg some (by kernel_rfl))⟩
 f40:=⟨Tryz.f248.name,by decide,Tryz.func248.trans (congrArg some (by kernel_rfl))⟩
 t0:=Tryz.underlying0
 a0:=Tryz.isAgg0
 z0:=Tryz.sizeOf0
 v0:=Tryz.zeroValue0
 t3:=Tryz.underlying3
 a3:=Tryz.isAgg3
 z3:=Tryz.sizeOf3
 v3:=Tryz.zeroValue3
 t4:=Tryz.underlying4
 a4:=Tryz.isAgg4
 z4:=Tryz.sizeOf4
 v4:=Tryz.zeroValue4
 t5:=Tryz.underlying5
 a5:=Tryz.isAgg5
 z5:=Tryz.sizeOf5
 v5:=Tryz.zeroValue5
 t9:=Tryz.underlying9
 a9:=Tryz.isAgg9
 z9:=Tryz.sizeOf9
 v9:=Tryz.zeroValue9
 t22:=Tryz.underlying35
 a22:=Tryz.isAgg35
 z22:=Tryz.sizeOf35
 v22:=Tryz.zeroValue35
 t23:=Tryz.underlying35
 a23:=Tryz.isAgg35
 z23:=Tryz.sizeOf35
 v23:=Tryz.zeroValue35
 t25:=Tryz.underlying3
 a25:=Tryz.isAgg3
 z25:=Tryz.sizeOf3
 v25:=Tryz.zeroValue3
 t32:=Tryz.underlying309
 a32:=Tryz.isAgg309
 z32:=Tryz.sizeOf309
 v32:=Tryz.zeroValue309
 t35:=Tryz.underlying330
 a35:=Tryz.isAgg330
 z35:=Tryz.sizeOf330
 v35:=Tryz.zeroValue330
 t36:=Tryz.underlying331
 a36:=Tryz.isAgg331
 z36:=Tryz.sizeOf331
 v36:=Tryz.zeroValue331
 t41:=Tryz.underlying88
 a41:=Tryz.isAgg88
 z41:=Tryz.sizeOf88
 v41:=Tryz.zeroValue88
 t44:=Tryz.underlying336
 a44:=Tryz.isAgg336
 z44:=Tryz.sizeOf336
 v44:=Tryz.zeroValue336
 t46:=Tryz.underlying325
 a46:=Tryz.isAgg325
 z46:=Tryz.sizeOf325
 v46:=Tryz.zeroValue325
 t53:=Tryz.underlying346
 a53:=Tryz.isAgg346
 z53:=Tryz.sizeOf346
 v53:=Tryz.zeroValue346
 t57:=Tryz.underlying350
 a57:=Tryz.isAgg350
 z57:=Tryz.sizeOf350
 v57:=Tryz.zeroValue350
 t63:=Tryz.underlying352
 a63:=Tryz.isAgg352
 z63:=Tryz.sizeOf352
 v63:=Tryz.zeroValue352
 t64:=Tryz.underlying180
 a64:=Tryz.isAgg180
 z64:=Tryz.sizeOf180
 v64:=Tryz.zeroValue180 }
def tc (κ:Nat) (x:List Int):Ji (List Int) :=
 ⟨Tryz.prog,173,[ow κ x],κ,bw 3 1 bI x,fun y=>bw 3 1 bI y,jZ x,x.length < 4611686018427387904,
  fun h=>aa6 (by kernel_rfl) (fun blk off cap zs w=>AnyM.slices_Sort_int Tryz.Us blk off cap zs w) (fun p cap w=>AnyM.slices_Sort_int_none Tryz.Us p cap w) κ 3 x h,
  fun y=>y.length=x.length,by simp [jZ]⟩
end
section
open Go Go.Av Go.Shelf Go.Proofs
def Tryz.JI:Go.Shelf.Ren:=⟨fun | 20=>174 | n=>n,fun | 22=>35 | 3=>3 | 4=>4 | 0=>0 | n=>n,fun | n=>n⟩
theorem Tryz.IK:Go.Proofs.Lays2.n20 Tryz.prog Tryz.JI:={
 mixed:=by kernel_rfl
 f20:=Tryz.func174.trans (congrArg some (by kernel_rfl))
 t0:=Tryz.underlying0
 a0:=Tryz.isAgg0
 z0:=Tryz.sizeOf0
 v0:=Tryz.zeroValue0
 t3:=Tryz.underlying3
 a3:=Tryz.isAgg3
 z3:=Tryz.sizeOf3
 v3:=Tryz.zeroValue3
 t4:=Tryz.underlying4
 a4:=Tryz.isAgg4
 z4:=Tryz.sizeOf4
 v4:=Tryz.zeroValue4
 t22:=Tryz.underlying35
 a22:=Tryz.isAgg35
 z22:=Tryz.sizeOf35
 v22:=Tryz.zeroValue35
 i3:=by kernel_rfl }
theorem Mo (x:List Int):(Lib.compact x).length≤x.length:=by
 unfold Lib.compact Lib.compactUpTo
 rw [List.length_map]
 exact Nat.le_trans (List.length_filter_le _ _) (by simp)
def oL (κ κ':Nat) (x:List Int):yU (List Int) :=
 ⟨Tryz.prog,174,[ow κ x],[(κ,bw 3 1 bI x)],fun y=>ow κ' y,fun y=>[(κ',bw 3 1 bI y)],Lib.compact x,True,
  fun _=>Ua (by kernel_rfl) x _ (Mo x) (fun blk cap w h1 h2 h3=>Any.slices_Compact_int Tryz.IK blk 0 cap x w h1 h2 h3) (fun p cap w=>Any.slices_Compact_int_empty Tryz.IK p cap w) κ κ' 3,
  fun y=>y.length≤x.length,Mo x⟩
end
end
end Go.Proofs.YtonkchddcgcopaaGreatDoor
