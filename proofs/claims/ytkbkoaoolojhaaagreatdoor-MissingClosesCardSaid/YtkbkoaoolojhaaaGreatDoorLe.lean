/- The types of this program, as the evaluator looks at them. -/
import Derived.Test.YtkbkoaoolojhaaaGreatDoorLd
import Derived.Test.YtkbkoaoolojhaaaGreatDoorRows
import Derived.Shelf.SortM.Plain
import Derived.Shelf.SortM.SortNone
import Derived.Ground.SlgmProg
import Derived.Shelf.Slices.CompactI
import Derived.Ground.Names2Prog
set_option linter.unusedSimpArgs false
set_option linter.unusedVariables false
set_option maxHeartbeats 1000000
set_option maxRecDepth 100000
namespace Go.Proofs.YtkbkoaoolojhaaaGreatDoor
noncomputable section
open Go Go.Av
instance:vr:=⟨[(0,[dI 6,dI 7,dI 10,dI 12,dI 13,dI 14,dI 15,dI 16,dI 20,dI 21])]⟩
def TT:List (Nat × TI):=[
 (3,⟨.int .i64,1,8,[.v (.int .i64 0)],false⟩),
 (4,⟨.bool,1,1,[.v (.bool false)],false⟩),
 (5,⟨.int .u8,1,1,[.v (.int .u8 0)],false⟩),
 (9,⟨.str,1,16,[.v (.string ⟨#[]⟩)],false⟩),
 (23,⟨.struct [(0,3),(1,3),(2,3)],3,24,[.v (.int .i64 0),.v (.int .i64 0),.v (.int .i64 0)],true⟩),
 (25,⟨.struct [(0,3),(1,3),(2,3),(3,3),(4,3),(5,23),(8,3),(9,3),(10,3),(11,3),(12,3),(13,3),(14,3)],15,120,[.v (.int .i64 0),.v (.int .i64 0),.v (.int .i64 0),.v (.int .i64 0),.v (.int .i64 0),.v (.int .i64 0),.v (.int .i64 0),.v (.int .i64 0),.v (.int .i64 0),.v (.int .i64 0),.v (.int .i64 0),.v (.int .i64 0),.v (.int .i64 0),.v (.int .i64 0),.v (.int .i64 0)],false⟩),
 (26,⟨.slice 74,1,24,[.v (.slice none 0 0)],false⟩),
 (27,⟨.slice 78,1,24,[.v (.slice none 0 0)],false⟩),
 (28,⟨.slice 76,1,24,[.v (.slice none 0 0)],false⟩),
 (29,⟨.slice 37,1,24,[.v (.slice none 0 0)],false⟩),
 (31,⟨.struct [(0,25),(15,26),(16,27),(17,28),(18,29)],19,216,[.v (.int .i64 0),.v (.int .i64 0),.v (.int .i64 0),.v (.int .i64 0),.v (.int .i64 0),.v (.int .i64 0),.v (.int .i64 0),.v (.int .i64 0),.v (.int .i64 0),.v (.int .i64 0),.v (.int .i64 0),.v (.int .i64 0),.v (.int .i64 0),.v (.int .i64 0),.v (.int .i64 0),.v (.slice none 0 0),.v (.slice none 0 0),.v (.slice none 0 0),.v (.slice none 0 0)],false⟩),
 (37,⟨.struct [(0,3),(1,3),(2,3)],3,24,[.v (.int .i64 0),.v (.int .i64 0),.v (.int .i64 0)],true⟩),
 (39,⟨.struct [(0,4),(1,3)],2,16,[.v (.bool false),.v (.int .i64 0)],true⟩),
 (42,⟨.slice 9,1,24,[.v (.slice none 0 0)],false⟩),
 (43,⟨.slice 107,1,24,[.v (.slice none 0 0)],false⟩),
 (44,⟨.slice 109,1,24,[.v (.slice none 0 0)],false⟩),
 (45,⟨.slice 111,1,24,[.v (.slice none 0 0)],false⟩),
 (46,⟨.slice 117,1,24,[.v (.slice none 0 0)],false⟩),
 (47,⟨.slice 147,1,24,[.v (.slice none 0 0)],false⟩),
 (48,⟨.slice 149,1,24,[.v (.slice none 0 0)],false⟩),
 (49,⟨.slice 151,1,24,[.v (.slice none 0 0)],false⟩),
 (51,⟨.struct [(0,42),(1,43),(2,44),(3,45),(4,46),(5,47),(6,48),(7,49)],8,192,[.v (.slice none 0 0),.v (.slice none 0 0),.v (.slice none 0 0),.v (.slice none 0 0),.v (.slice none 0 0),.v (.slice none 0 0),.v (.slice none 0 0),.v (.slice none 0 0)],false⟩),
 (53,⟨.struct [(0,3),(1,3),(2,3),(3,3),(4,3),(5,3),(6,3),(7,3),(8,3)],9,72,[.v (.int .i64 0),.v (.int .i64 0),.v (.int .i64 0),.v (.int .i64 0),.v (.int .i64 0),.v (.int .i64 0),.v (.int .i64 0),.v (.int .i64 0),.v (.int .i64 0)],true⟩),
 (55,⟨.slice 53,1,24,[.v (.slice none 0 0)],false⟩),
 (59,⟨.slice 29,1,24,[.v (.slice none 0 0)],false⟩),
 (60,⟨.int .i64,1,8,[.v (.int .i64 0)],false⟩),
 (74,⟨.struct [(0,3),(1,3),(2,3),(3,3),(4,3),(5,3),(6,3),(7,3),(8,3)],9,72,[.v (.int .i64 0),.v (.int .i64 0),.v (.int .i64 0),.v (.int .i64 0),.v (.int .i64 0),.v (.int .i64 0),.v (.int .i64 0),.v (.int .i64 0),.v (.int .i64 0)],true⟩),
 (76,⟨.struct [(0,3),(1,3),(2,3),(3,3),(4,3),(5,3),(6,3),(7,3),(8,3)],9,72,[.v (.int .i64 0),.v (.int .i64 0),.v (.int .i64 0),.v (.int .i64 0),.v (.int .i64 0),.v (.int .i64 0),.v (.int .i64 0),.v (.int .i64 0),.v (.int .i64 0)],true⟩),
 (78,⟨.struct [(0,3),(1,3)],2,16,[.v (.int .i64 0),.v (.int .i64 0)],true⟩),
 (85,⟨.other,1,8,[.v .nilFunc],false⟩),
 (86,⟨.slice 87,1,24,[.v (.slice none 0 0)],false⟩),
 (87,⟨.int .u64,1,8,[.v (.int .u64 0)],false⟩),
 (90,⟨.other,1,8,[.v .nilFunc],false⟩),
 (102,⟨.slice 104,1,24,[.v (.slice none 0 0)],false⟩),
 (104,⟨.struct [(0,3),(1,3),(2,102)],3,40,[.v (.int .i64 0),.v (.int .i64 0),.v (.slice none 0 0)],false⟩),
 (105,⟨.slice 3,1,24,[.v (.slice none 0 0)],false⟩),
 (107,⟨.struct [(0,9),(1,3),(2,3),(3,105),(4,105),(5,105)],6,104,[.v (.string ⟨#[]⟩),.v (.int .i64 0),.v (.int .i64 0),.v (.slice none 0 0),.v (.slice none 0 0),.v (.slice none 0 0)],false⟩),
 (109,⟨.struct [(0,3)],1,8,[.v (.int .i64 0)],true⟩),
 (111,⟨.struct [(0,9),(1,3),(2,3)],3,32,[.v (.string ⟨#[]⟩),.v (.int .i64 0),.v (.int .i64 0)],true⟩),
 (113,⟨.struct [(0,3),(1,104)],4,48,[.v (.int .i64 0),.v (.int .i64 0),.v (.int .i64 0),.v (.slice none 0 0)],false⟩),
 (114,⟨.slice 113,1,24,[.v (.slice none 0 0)],false⟩),
 (115,⟨.slice 145,1,24,[.v (.slice none 0 0)],false⟩),
 (117,⟨.struct [(0,9),(1,4),(2,115),(3,114)],4,72,[.v (.string ⟨#[]⟩),.v (.bool false),.v (.slice none 0 0),.v (.slice none 0 0)],false⟩),
 (123,⟨.other,1,8,[.v .nilFunc],false⟩),
 (126,⟨.map 3 3,1,8,[.v (.map none)],false⟩),
 (132,⟨.int .u32,1,4,[.v (.int .u32 0)],false⟩),
 (134,⟨.int .u64,1,8,[.v (.int .u64 0)],false⟩),
 (145,⟨.struct [(0,3),(1,3),(2,4)],3,24,[.v (.int .i64 0),.v (.int .i64 0),.v (.bool false)],true⟩),
 (147,⟨.struct [(0,3),(1,3),(2,3)],3,24,[.v (.int .i64 0),.v (.int .i64 0),.v (.int .i64 0)],true⟩),
 (149,⟨.struct [(0,3),(1,3),(2,3),(3,3),(4,3)],5,40,[.v (.int .i64 0),.v (.int .i64 0),.v (.int .i64 0),.v (.int .i64 0),.v (.int .i64 0)],true⟩),
 (151,⟨.struct [(0,3),(1,3),(2,3)],3,24,[.v (.int .i64 0),.v (.int .i64 0),.v (.int .i64 0)],true⟩),
 (153,⟨.other,1,8,[.v .nilFunc],false⟩),
 (154,⟨.slice 159,1,24,[.v (.slice none 0 0)],false⟩),
 (157,⟨.map 3 4,1,8,[.v (.map none)],false⟩),
 (159,⟨.struct [(0,3),(1,3),(2,3),(3,3)],4,32,[.v (.int .i64 0),.v (.int .i64 0),.v (.int .i64 0),.v (.int .i64 0)],true⟩),
 (164,⟨.struct [(0,39),(2,3),(3,105),(4,60)],5,56,[.v (.bool false),.v (.int .i64 0),.v (.int .i64 0),.v (.slice none 0 0),.v (.int .i64 0)],false⟩),
 (167,⟨.struct [(0,31),(19,3),(20,3),(21,3),(22,3),(23,3)],24,256,[.v (.int .i64 0),.v (.int .i64 0),.v (.int .i64 0),.v (.int .i64 0),.v (.int .i64 0),.v (.int .i64 0),.v (.int .i64 0),.v (.int .i64 0),.v (.int .i64 0),.v (.int .i64 0),.v (.int .i64 0),.v (.int .i64 0),.v (.int .i64 0),.v (.int .i64 0),.v (.int .i64 0),.v (.slice none 0 0),.v (.slice none 0 0),.v (.slice none 0 0),.v (.slice none 0 0),.v (.int .i64 0),.v (.int .i64 0),.v (.int .i64 0),.v (.int .i64 0),.v (.int .i64 0)],false⟩),
 (175,⟨.struct [(0,31),(19,31),(38,3),(39,105)],40,464,[.v (.int .i64 0),.v (.int .i64 0),.v (.int .i64 0),.v (.int .i64 0),.v (.int .i64 0),.v (.int .i64 0),.v (.int .i64 0),.v (.int .i64 0),.v (.int .i64 0),.v (.int .i64 0),.v (.int .i64 0),.v (.int .i64 0),.v (.int .i64 0),.v (.int .i64 0),.v (.int .i64 0),.v (.slice none 0 0),.v (.slice none 0 0),.v (.slice none 0 0),.v (.slice none 0 0),.v (.int .i64 0),.v (.int .i64 0),.v (.int .i64 0),.v (.int .i64 0),.v (.int .i64 0),.v (.int .i64 0),.v (.int .i64 0),.v (.int .i64 0),.v (.int .i64 0),.v (.int .i64 0),.v (.int .i64 0),.v (.int .i64 0),.v (.int .i64 0),.v (.int .i64 0),.v (.int .i64 0),.v (.slice none 0 0),.v (.slice none 0 0),.v (.slice none 0 0),.v (.slice none 0 0),.v (.int .i64 0),.v (.slice none 0 0)],false⟩),
 (177,⟨.struct [(0,175),(40,51),(48,3),(49,3)],50,672,[.v (.int .i64 0),.v (.int .i64 0),.v (.int .i64 0),.v (.int .i64 0),.v (.int .i64 0),.v (.int .i64 0),.v (.int .i64 0),.v (.int .i64 0),.v (.int .i64 0),.v (.int .i64 0),.v (.int .i64 0),.v (.int .i64 0),.v (.int .i64 0),.v (.int .i64 0),.v (.int .i64 0),.v (.slice none 0 0),.v (.slice none 0 0),.v (.slice none 0 0),.v (.slice none 0 0),.v (.int .i64 0),.v (.int .i64 0),.v (.int .i64 0),.v (.int .i64 0),.v (.int .i64 0),.v (.int .i64 0),.v (.int .i64 0),.v (.int .i64 0),.v (.int .i64 0),.v (.int .i64 0),.v (.int .i64 0),.v (.int .i64 0),.v (.int .i64 0),.v (.int .i64 0),.v (.int .i64 0),.v (.slice none 0 0),.v (.slice none 0 0),.v (.slice none 0 0),.v (.slice none 0 0),.v (.int .i64 0),.v (.slice none 0 0),.v (.slice none 0 0),.v (.slice none 0 0),.v (.slice none 0 0),.v (.slice none 0 0),.v (.slice none 0 0),.v (.slice none 0 0),.v (.slice none 0 0),.v (.slice none 0 0),.v (.int .i64 0),.v (.int .i64 0)],false⟩),
 (180,⟨.slice 215,1,24,[.v (.slice none 0 0)],false⟩),
 (187,⟨.struct [(0,3),(1,3),(2,3)],3,24,[.v (.int .i64 0),.v (.int .i64 0),.v (.int .i64 0)],true⟩),
 (191,⟨.struct [(0,3),(1,3),(2,3),(3,3),(4,3),(5,3),(6,3)],7,56,[.v (.int .i64 0),.v (.int .i64 0),.v (.int .i64 0),.v (.int .i64 0),.v (.int .i64 0),.v (.int .i64 0),.v (.int .i64 0)],true⟩),
 (201,⟨.slice 39,1,24,[.v (.slice none 0 0)],false⟩),
 (208,⟨.slice 5,1,24,[.v (.slice none 0 0)],false⟩),
 (212,⟨.struct [(0,51),(8,3),(9,3),(10,31),(29,3),(30,3)],31,440,[.v (.slice none 0 0),.v (.slice none 0 0),.v (.slice none 0 0),.v (.slice none 0 0),.v (.slice none 0 0),.v (.slice none 0 0),.v (.slice none 0 0),.v (.slice none 0 0),.v (.int .i64 0),.v (.int .i64 0),.v (.int .i64 0),.v (.int .i64 0),.v (.int .i64 0),.v (.int .i64 0),.v (.int .i64 0),.v (.int .i64 0),.v (.int .i64 0),.v (.int .i64 0),.v (.int .i64 0),.v (.int .i64 0),.v (.int .i64 0),.v (.int .i64 0),.v (.int .i64 0),.v (.int .i64 0),.v (.int .i64 0),.v (.slice none 0 0),.v (.slice none 0 0),.v (.slice none 0 0),.v (.slice none 0 0),.v (.int .i64 0),.v (.int .i64 0)],false⟩),
 (215,⟨.struct [(0,3),(1,3),(2,3),(3,3),(4,3),(5,3),(6,4)],7,56,[.v (.int .i64 0),.v (.int .i64 0),.v (.int .i64 0),.v (.int .i64 0),.v (.int .i64 0),.v (.int .i64 0),.v (.bool false)],true⟩),
 (218,⟨.struct [(0,105),(1,3),(2,3),(3,4),(4,3),(5,105)],6,80,[.v (.slice none 0 0),.v (.int .i64 0),.v (.int .i64 0),.v (.bool false),.v (.int .i64 0),.v (.slice none 0 0)],false⟩),
 (223,⟨.other,1,8,[.v .nilFunc],false⟩),
 (225,⟨.struct [(0,3),(1,3),(2,3),(3,3)],4,32,[.v (.int .i64 0),.v (.int .i64 0),.v (.int .i64 0),.v (.int .i64 0)],true⟩),
 (232,⟨.struct [(0,3),(1,3),(2,3),(3,3),(4,3)],5,40,[.v (.int .i64 0),.v (.int .i64 0),.v (.int .i64 0),.v (.int .i64 0),.v (.int .i64 0)],true⟩),
 (235,⟨.struct [(0,51),(8,3),(9,31),(28,3),(29,3),(30,3)],31,440,[.v (.slice none 0 0),.v (.slice none 0 0),.v (.slice none 0 0),.v (.slice none 0 0),.v (.slice none 0 0),.v (.slice none 0 0),.v (.slice none 0 0),.v (.slice none 0 0),.v (.int .i64 0),.v (.int .i64 0),.v (.int .i64 0),.v (.int .i64 0),.v (.int .i64 0),.v (.int .i64 0),.v (.int .i64 0),.v (.int .i64 0),.v (.int .i64 0),.v (.int .i64 0),.v (.int .i64 0),.v (.int .i64 0),.v (.int .i64 0),.v (.int .i64 0),.v (.int .i64 0),.v (.int .i64 0),.v (.slice none 0 0),.v (.slice none 0 0),.v (.slice none 0 0),.v (.slice none 0 0),.v (.int .i64 0),.v (.int .i64 0),.v (.int .i64 0)],false⟩),
 (265,⟨.struct [(0,3),(1,3)],2,16,[.v (.int .i64 0),.v (.int .i64 0)],true⟩),
 (274,⟨.array 10 3,10,80,[.v (.int .i64 0),.v (.int .i64 0),.v (.int .i64 0),.v (.int .i64 0),.v (.int .i64 0),.v (.int .i64 0),.v (.int .i64 0),.v (.int .i64 0),.v (.int .i64 0),.v (.int .i64 0)],false⟩),
 (278,⟨.other,1,8,[.v .nilFunc],false⟩),
 (282,⟨.struct [(0,201)],1,24,[.v (.slice none 0 0)],false⟩),
 (290,⟨.struct [(0,4),(1,3)],2,16,[.v (.bool false),.v (.int .i64 0)],true⟩),
 (306,⟨.other,1,8,[.v .nilFunc],false⟩),
 (310,⟨.slice 105,1,24,[.v (.slice none 0 0)],false⟩),
 (314,⟨.int .i64,1,8,[.v (.int .i64 0)],false⟩),
 (324,⟨.struct [(0,134),(1,134)],2,16,[.v (.int .u64 0),.v (.int .u64 0)],true⟩),
 (326,⟨.other,1,16,[.v .nilIface],false⟩),
 (334,⟨.struct [(0,105),(1,3)],2,32,[.v (.slice none 0 0),.v (.int .i64 0)],false⟩),
 (338,⟨.int .u64,1,8,[.v (.int .u64 0)],false⟩),
 (342,⟨.other,1,8,[.v (.pointer none)],false⟩)]
theorem tok:nz Tryz.prog TT:=nz.of (by kernel_rfl)
theorem mixed:Tryz.prog.follows .mixedOrders=true:=by kernel_rfl
structure qG where
 kind:Int
 n:Int
 unit:Int
 deriving Inhabited
def qG.cells (c:qG):List D:=[dI c.kind,dI c.n,dI c.unit]
structure qA where
 Ap:Int
 qT:Int
 eH:Int
 sum:Int
 aE:Int
 da:qG
 day:Int
 bK:Int
 JK:Int
 need:Int
 pF:Int
 flags:Int
 parts:Int
 deriving Inhabited
def qA.cells (c:qA):List D:=[dI c.Ap,dI c.qT,dI c.eH,dI c.sum,dI c.aE]++c.da.cells++[dI c.day,dI c.bK,dI c.JK,dI c.need,dI c.pF,dI c.flags,dI c.parts]
structure Sign where
 kind:Int
 part:Int
 dS:Int
 for_:Int
 cw:Int
 sum:Int
 day:Int
 bK:Int
 flags:Int
 deriving Inhabited
def Sign.cells (c:Sign):List D:=[dI c.kind,dI c.part,dI c.dS,dI c.for_,dI c.cw,dI c.sum,dI c.day,dI c.bK,dI c.flags]
def Sign.E:MK Sign:=⟨Sign.cells,9,fun _=>rfl,fun _=>rfl⟩
structure cJ where
 at_:Int
 sum:Int
 deriving Inhabited
def cJ.cells (c:cJ):List D:=[dI c.at_,dI c.sum]
def cJ.E:MK cJ:=⟨cJ.cells,2,fun _=>rfl,fun _=>rfl⟩
structure ba where
 kind:Int
 dS:Int
 cw:Int
 part:Int
 at_:Int
 sum:Int
 day:Int
 bK:Int
 form:Int
 deriving Inhabited
def ba.cells (c:ba):List D:=[dI c.kind,dI c.dS,dI c.cw,dI c.part,dI c.at_,dI c.sum,dI c.day,dI c.bK,dI c.form]
def ba.E:MK ba:=⟨ba.cells,9,fun _=>rfl,fun _=>rfl⟩
structure Fact where
 kind:Int
 at_:Int
 n:Int
 deriving Inhabited
def Fact.cells (c:Fact):List D:=[dI c.kind,dI c.at_,dI c.n]
def Fact.E:MK Fact:=⟨Fact.cells,3,fun _=>rfl,fun _=>rfl⟩
structure ai where
 aX:qA
 ae:List Sign
 aL:List cJ
 aw:List ba
 facts:List Fact
 deriving Inhabited
def ai.cells (c:ai):List D:=c.aX.cells++[mR Sign.cells c.ae,mR cJ.cells c.aL,mR ba.cells c.aw,mR Fact.cells c.facts]
def ai.Small (f:ai):Prop:=f.ae.length≤1000000∧f.aL.length≤1000000∧f.aw.length≤1000000∧f.facts.length≤1000000
structure jg where
 name:ByteArray
 order:Int
 aE:Int
 rest:List Int
 j4:List Int
 shut:List Int
 deriving Inhabited
def jg.cells (c:jg):List D:=[.v (.string c.name),dI c.order,dI c.aE,mR bS c.rest,mR bS c.j4,mR bS c.shut]
def jg.E:MK jg:=⟨jg.cells,6,fun _=>rfl,fun _=>rfl⟩
structure iO where
 QJ:Int
 deriving Inhabited
def iO.cells (c:iO):List D:=[dI c.QJ]
def iO.E:MK iO:=⟨iO.cells,1,fun _=>rfl,fun _=>rfl⟩
structure rV where
 name:ByteArray
 bK:Int
 group:Int
 deriving Inhabited
def rV.cells (c:rV):List D:=[.v (.string c.name),dI c.bK,dI c.group]
def rV.E:MK rV:=⟨rV.cells,3,fun _=>rfl,fun _=>rfl⟩
structure Choice where
 ask:Int
 cz:Int
 whole:Bool
 deriving Inhabited
def Choice.cells (c:Choice):List D:=[dI c.ask,dI c.cz,dB c.whole]
structure Term where
 op:Int
 n:Int
 args:List Term
instance:Inhabited Term:=⟨⟨default,default,default⟩⟩
mutual
def Term.Uw:Term→D
 | ⟨_,_,args⟩=>.sl args.length (Term.MQ args)
def Term.MQ:List Term→Nat→List D
 | [],_=>[]
 | x :: _,0=>[dI x.op,dI x.n,Term.Uw x]
 | _ :: r,i+1=>Term.MQ r i
end
def Term.kM (x:Term):List D:=[dI x.op,dI x.n,Term.Uw x]
theorem Term.G6:∀ (l:List Term) (i:Nat),i < l.length→Term.MQ l i=(l.getD i default).kM
 | [],i,h=>absurd h (by simp)
 | x :: r,0,_=>by simp [Term.MQ,Term.kM]
 | x :: r,i+1,h=>by simpa [Term.MQ] using Term.G6 r i (by simpa using h)
def Term.cells (c:Term):List D:=[dI c.op,dI c.n,mR Term.kM c.args]
theorem Term.Ux (c:Term):su (Term.Uw c) (mR Term.kM c.args)∧su (mR Term.kM c.args) (Term.Uw c):=by
 obtain ⟨op,n,args⟩:=c
 unfold Term.Uw
 exact ⟨su.sl rfl (fun i hi=>Term.G6 args i hi),su.sl rfl (fun i hi=>(Term.G6 args i hi).symm)⟩
theorem Term.MR (c:Term):wY c.kM c.cells:=.cons .rfl' (.cons .rfl' (.cons ((Term.Ux c).1) (.nil)))
mutual
def Term.depth:Term→Nat
 | ⟨_,_,args⟩=>Term.ib args+1
def Term.ib:List Term→Nat
 | []=>0
 | x :: r=>max x.depth (Term.ib r)
end
theorem Term.QK:∀ (l:List Term) (i:Nat),i < l.length→(l.getD i default).depth≤Term.ib l
 | [],i,h=>absurd h (by simp)
 | x :: r,0,_=>by simp [Term.ib]; omega
 | x :: r,i+1,h=>by
  have:=Term.QK r i (by simpa using h)
  simp [Term.ib] at this ⊢
  omega
theorem Term.kN (c:Term) (i:Nat) (h:i < c.args.length):(c.args.getD i default).depth < c.depth:=by
 obtain ⟨op,n,args⟩:=c
 have:=Term.QK args i h
 simp only [Term.depth]
 omega
theorem Term.tQ (c:Term):0 < c.depth:=by
 obtain ⟨op,n,args⟩:=c
 simp only [Term.depth]
 omega
structure kF where
 ask:Int
 term:Term
 deriving Inhabited
def kF.cells (c:kF):List D:=[dI c.ask]++c.term.cells
def kF.E:MK kF:=⟨kF.cells,4,fun _=>rfl,fun _=>rfl⟩
structure Order where
 name:ByteArray
 BA:Bool
 bG:List Choice
 rules:List kF
 deriving Inhabited
def Order.cells (c:Order):List D:=[.v (.string c.name),dB c.BA,mR Choice.cells c.bG,mR kF.cells c.rules]
def Order.E:MK Order:=⟨Order.cells,4,fun _=>rfl,fun _=>rfl⟩
structure eI where
 from_:Int
 cw:Int
 days:Int
 deriving Inhabited
def eI.cells (c:eI):List D:=[dI c.from_,dI c.cw,dI c.days]
def eI.E:MK eI:=⟨eI.cells,3,fun _=>rfl,fun _=>rfl⟩
structure pk where
 from_:Int
 cw:Int
 num:Int
 den:Int
 since:Int
 deriving Inhabited
def pk.cells (c:pk):List D:=[dI c.from_,dI c.cw,dI c.num,dI c.den,dI c.since]
structure Halt where
 order:Int
 from_:Int
 cw:Int
 deriving Inhabited
def Halt.cells (c:Halt):List D:=[dI c.order,dI c.from_,dI c.cw]
structure ah where
 eJ:List ByteArray
 bo:List jg
 oW:List iO
 bU:List rV
 aN:List Order
 bR:List eI
 aI:List pk
 gq:List Halt
 deriving Inhabited
def ah.cells (c:ah):List D:=[mR kJ c.eJ,mR jg.cells c.bo,mR iO.cells c.oW,mR rV.cells c.bU,mR Order.cells c.aN,mR eI.cells c.bR,mR pk.cells c.aI,mR Halt.cells c.gq]
def ah.Small (r:ah):Prop:=r.eJ.length≤1000000∧r.bo.length≤1000000∧r.oW.length≤1000000∧r.bU.length≤1000000∧r.aN.length≤1000000∧r.bR.length≤1000000∧r.aI.length≤1000000∧r.gq.length≤1000000 ∧
 ∀ i,i < r.aN.length→(r.aN.getD i default).bG.length≤1000000∧(r.aN.getD i default).rules.length≤1000000
def ah.bD (r:ah):Prop:=∀ i j,i < r.aN.length→j < (r.aN.getD i default).bG.length→0≤((r.aN.getD i default).bG.getD j default).cz∧((r.aN.getD i default).bG.getD j default).cz < 5
def ah.fb (r:ah):Prop:=∀ i,i < r.gq.length→(r.gq.getD i default).cw≤100000
def ah.fD (r:ah):Prop:=∀ i,i < r.bU.length→0≤(r.bU.getD i default).bK∧(r.bU.getD i default).bK < r.bo.length
def ah.cp (r:ah):Prop:=∀ i,i < r.aI.length→(1≤(r.aI.getD i default).num∧(r.aI.getD i default).num≤1073741824)∧1≤(r.aI.getD i default).den∧(r.aI.getD i default).den≤1073741824
abbrev nL (n:Int):Prop:=0≤n∧n≤1099511627776
def ai.pN (f:ai):Prop:=nL f.aX.sum∧(∀ q,q < f.aL.length→nL (f.aL.getD q default).sum)∧(∀ q,q < f.ae.length→nL (f.ae.getD q default).sum)∧∀ q,q < f.aw.length→nL (f.aw.getD q default).sum
def MS (f:ai) (q:Nat):Prop:=nL (f.ae.getD q default).sum∧(0≤(f.ae.getD q default).kind∧(f.ae.getD q default).kind≤4)∧((f.ae.getD q default).kind=0↔q=0)∧((f.ae.getD q default).kind=3∨(f.ae.getD q default).kind=4→0≤(f.ae.getD q default).for_∧(f.ae.getD q default).for_ < (q:Int))
def MT (r:ah) (f:ai) (q:Nat):Prop:=(0≤(f.ae.getD q default).dS∧(f.ae.getD q default).dS < r.bU.length)∧(q≠0→(f.ae.getD (q - 1) default).day≤(f.ae.getD q default).day)∧(f.ae.getD q default).day≤100000∧(q=0→(f.ae.getD q default).day=f.aX.day)∧(0≤(f.ae.getD q default).part∧(f.ae.getD q default).part≤f.aX.parts - 1)∧MS f q
def G7 (f:ai) (q:Nat):Prop:=nL (f.aw.getD q default).sum∧(f.aX.day≤(f.aw.getD q default).day∧(f.aw.getD q default).day≤100000)∧(q≠0→(f.aw.getD (q - 1) default).day≤(f.aw.getD q default).day)∧((f.aw.getD q default).kind=6→(0≤(f.aw.getD q default).at_∧(f.aw.getD q default).at_ < f.ae.length)∧(f.ae.getD (f.aw.getD q default).at_.toNat default).day≤(f.aw.getD q default).day∧(f.ae.getD (f.aw.getD q default).at_.toNat default).dS=(f.aw.getD q default).dS)
def Uy (r:ah) (b:qA):Prop:=(1≤b.sum∧b.sum≤1099511627776)∧(0≤b.JK∧b.JK < r.bo.length)∧(0≤b.day∧b.day≤100000)∧(1≤b.parts∧b.parts≤4)∧(0≤b.aE∧b.aE < r.eJ.length)
def bu (r:ah) (f:ai):Prop:=Uy r f.aX∧(f.ae.length≤40∧f.ae.length≠0∧f.aL.length≤4∧f.aw.length≤100∧f.facts.length≤300)∧(∀ q,q < f.ae.length→MT r f q)∧(∀ q,q < f.aL.length→nL (f.aL.getD q default).sum)∧∀ q,q < f.aw.length→G7 f q
theorem bu.small {r:ah} {f:ai} (h:bu r f):f.Small:=by have:=h.2.1; unfold ai.Small; omega
theorem bu.acN {r:ah} {f:ai} (h:bu r f):f.pN:=⟨⟨by have:=h.1.1; omega,h.1.1.2⟩,h.2.2.2.1,fun q hq=>(h.2.2.1 q hq).2.2.2.2.2.1,fun q hq=>(h.2.2.2.2 q hq).1⟩
theorem um {α:Type} [Inhabited α] {l:List α} {P:α→Prop}:(∀ q,q < l.length→P (l.getD q default))↔∀ x,x∈l→P x:=by
 constructor
 ·intro h x hx
  obtain ⟨i,hi,rfl⟩:=List.getElem_of_mem hx
  have:=h i hi
  rwa [show l.getD i default=l[i] by simp [List.getD,hi]] at this
 ·exact fun h q hq=>h _ (gH hq _)
def ToQ (r:ah) (f:ai) (q:Nat):Prop:=(f.ae.getD q default).cw = -1∨(0≤(f.ae.getD q default).cw∧(f.ae.getD q default).cw < r.bU.length)
def ToF (r:ah) (f:ai):Prop:=(f.aX.eH = -1∨(0≤f.aX.eH∧f.aX.eH < r.bU.length))∧∀ q,q < f.ae.length→ToQ r f q
def pO:Sk (ah × ai) :=
 .r 2 (.al (.o [.dn (dH JI [(⟨#[102,114,97,110,99]⟩:ByteArray)])]) (.al (.o [.dn (aes jg.E [({ name:=(⟨#[76,121,111,110]⟩:ByteArray),order:=0,aE:=0,rest:=[],j4:=[],shut:=[] }:jg)] [.v (.string (⟨#[76,121,111,110]⟩:ByteArray)),dI 0,dI 0,.v (.slice none 0 0),.v (.slice none 0 0),.v (.slice none 0 0)] (by kernel_rfl))]) (.al (.o [.dn (dH iO.E [({ QJ:=0 }:iO)])]) (.o [.dn (dH rV.E [({ name:=(⟨#[65]⟩:ByteArray),bK:=0,group:=0 }:rV),({ name:=(⟨#[66]⟩:ByteArray),bK:=0,group:=0 }:rV),({ name:=(⟨#[67]⟩:ByteArray),bK:=0,group:=0 }:rV)])])))) fun _ =>
 .r 3 (.al (.al (.o [.pur 24]) (.o [.dn (aes kF.E [({ ask:=0,term:=({ op:=1,n:=1,args:=[] }:Term) }:kF),({ ask:=1,term:=({ op:=1,n:=1,args:=[] }:Term) }:kF),({ ask:=2,term:=({ op:=2,n:=15,args:=[] }:Term) }:kF)] [dI 0,dI 1,dI 1,.v (.slice none 0 0),dI 1,dI 1,dI 1,.v (.slice none 0 0),dI 2,dI 2,dI 15,.v (.slice none 0 0)] (by kernel_rfl))])) (.o [.dn (aes Order.E [({ name:=(⟨#[103,101,110,101,118,97]⟩:ByteArray),BA:=false,bG:=[],rules:=[({ ask:=0,term:=({ op:=1,n:=1,args:=[] }:Term) }:kF),({ ask:=1,term:=({ op:=1,n:=1,args:=[] }:Term) }:kF),({ ask:=2,term:=({ op:=2,n:=15,args:=[] }:Term) }:kF)] }:Order)] [.v (.string (⟨#[103,101,110,101,118,97]⟩:ByteArray)),dB false,.v (.slice none 0 0),mR kF.cells [({ ask:=0,term:=({ op:=1,n:=1,args:=[] }:Term) }:kF),({ ask:=1,term:=({ op:=1,n:=1,args:=[] }:Term) }:kF),({ ask:=2,term:=({ op:=2,n:=15,args:=[] }:Term) }:kF)]] (by kernel_rfl))])) fun _ =>
 .r 5 (.o [.dn (dH Sign.E [({ kind:=0,part:=0,dS:=0,for_:=(-1),cw:=(-1),sum:=0,day:=10,bK:=0,flags:=0 }:Sign),({ kind:=1,part:=0,dS:=1,for_:=(-1),cw:=(-1),sum:=100,day:=12,bK:=0,flags:=0 }:Sign)])]) fun _ =>
 .bt
 (.loop (default:Sum (ah × ai) ((List Fact))) (fun i2=>i2.1≤2∧i2.2.length≤5 * i2.1) (fun i2=>2 - i2.1) ((0,[]):Nat × (List Fact))
 (fun (i2:Nat × (List Fact))=>⟨[(5,iv (i2.1:Int))],[(100030,aU 37 3 Fact.cells i2.2),(4,.box ([iv 0,iv 1,iv 2,iv 100,iv 0,iv 3,iv 40,iv 0,iv 10,iv 0,iv 0,iv (-1),iv 0,iv 0,iv 1,ow 33 [({ kind:=0,part:=0,dS:=0,for_:=(-1),cw:=(-1),sum:=0,day:=10,bK:=0,flags:=0 }:Sign),({ kind:=1,part:=0,dS:=1,for_:=(-1),cw:=(-1),sum:=100,day:=12,bK:=0,flags:=0 }:Sign)]]++[nv,nv,ow 100030 i2.2]))]⟩) fun i2 =>
 .br (decide ((i2.1:Int) < 2))
 (.bind true (fun b3=>b3.2.2.2.length≤i2.2.length+5)
 (.bind true (fun b4=>b4.2.2.2.length≤i2.2.length+5)
 (.loop (default:Sum (Sum (Sum (Sum (ah × ai) ((List Fact))) (Nat × (List Fact))) (Int × Int × Bool × (List Fact))) (Int × Int × Bool × (List Fact))) (fun i5=>i5.1≤5∧i5.2.length≤i2.2.length+i5.1) (fun i5=>5 - i5.1) ((0,i2.2):Nat × (List Fact))
 (fun (i5:Nat × (List Fact))=>⟨[(6,iv (i5.1:Int))],[(100044,aU 37 3 Fact.cells i5.2),(4,.box ([iv 0,iv 1,iv 2,iv 100,iv 0,iv 3,iv 40,iv 0,iv 10,iv 0,iv 0,iv (-1),iv 0,iv 0,iv 1,ow 33 [({ kind:=0,part:=0,dS:=0,for_:=(-1),cw:=(-1),sum:=0,day:=10,bK:=0,flags:=0 }:Sign),({ kind:=1,part:=0,dS:=1,for_:=(-1),cw:=(-1),sum:=100,day:=12,bK:=0,flags:=0 }:Sign)]]++[nv,nv,ow 100044 i5.2]))]⟩) fun i5 =>
 .br (decide ((i5.1:Int) < 5))
 (.br (((i2.1:Int) == 0)||((i5.1:Int) != 0))
 (.r 13 (.al (.o [.dn (dH Fact.E [({ kind:=(i5.1:Int),at_:=(i2.1:Int),n:=1 }:Fact)])]) (.al (.o [.dn (kE Fact.E i5.2 [({ kind:=(i5.1:Int),at_:=(i2.1:Int),n:=1 }:Fact)])]) (.al (.t (Fact.E.mT [({ kind:=(i5.1:Int),at_:=(i2.1:Int),n:=1 }:Fact)])) (.p (vE i5.2.length [({ kind:=(i5.1:Int),at_:=(i2.1:Int),n:=1 }:Fact)].length 24))))) fun _ =>
 .r 11 .z fun _ =>
 .wi 6 (au ((i5.1:Int)+1)) ((i5.1+1:Nat):Int) <|
 .fin (.inr (i5.1+1,i5.2++[({ kind:=(i5.1:Int),at_:=(i2.1:Int),n:=1 }:Fact)])))
 (.nx 11 6 i5.1 (i5.1+1,i5.2)))
 (.fin (.inl (.inr ((i5.1:Int),(i5.1:Int),decide ((i5.1:Int) < 5),i5.2)))))
 (fun (b4:Int × Int × Bool × (List Fact))=>⟨[(6,iv b4.1),(39,iv b4.2.1),(40,bv b4.2.2.1)],[(100043,aU 37 3 Fact.cells b4.2.2.2),(4,.box ([iv 0,iv 1,iv 2,iv 100,iv 0,iv 3,iv 40,iv 0,iv 10,iv 0,iv 0,iv (-1),iv 0,iv 0,iv 1,ow 33 [({ kind:=0,part:=0,dS:=0,for_:=(-1),cw:=(-1),sum:=0,day:=10,bK:=0,flags:=0 }:Sign),({ kind:=1,part:=0,dS:=1,for_:=(-1),cw:=(-1),sum:=100,day:=12,bK:=0,flags:=0 }:Sign)]]++[nv,nv,ow 100043 b4.2.2.2]))]⟩) fun b4 =>
 .fin (.inr (b4.1,b4.2.1,b4.2.2.1,b4.2.2.2)))
 (fun (b3:Int × Int × Bool × (List Fact))=>⟨[(6,iv b3.1),(39,iv b3.2.1),(40,bv b3.2.2.1)],[(100041,aU 37 3 Fact.cells b3.2.2.2),(4,.box ([iv 0,iv 1,iv 2,iv 100,iv 0,iv 3,iv 40,iv 0,iv 10,iv 0,iv 0,iv (-1),iv 0,iv 0,iv 1,ow 33 [({ kind:=0,part:=0,dS:=0,for_:=(-1),cw:=(-1),sum:=0,day:=10,bK:=0,flags:=0 }:Sign),({ kind:=1,part:=0,dS:=1,for_:=(-1),cw:=(-1),sum:=100,day:=12,bK:=0,flags:=0 }:Sign)]]++[nv,nv,ow 100041 b3.2.2.2]))]⟩) fun b3 =>
 .nx 8 5 i2.1 (i2.1+1,b3.2.2.2))
 (.fin (.inl (.inr i2.2))))
 (fun (b1:(List Fact))=>⟨[],[(100022,aU 37 3 Fact.cells b1),(4,.box ([iv 0,iv 1,iv 2,iv 100,iv 0,iv 3,iv 40,iv 0,iv 10,iv 0,iv 0,iv (-1),iv 0,iv 0,iv 1,ow 33 [({ kind:=0,part:=0,dS:=0,for_:=(-1),cw:=(-1),sum:=0,day:=10,bK:=0,flags:=0 }:Sign),({ kind:=1,part:=0,dS:=1,for_:=(-1),cw:=(-1),sum:=100,day:=12,bK:=0,flags:=0 }:Sign)]]++[nv,nv,ow 100022 b1]))]⟩) fun b1 =>
 .fin (({ eJ:=[(⟨#[102,114,97,110,99]⟩:ByteArray)],bo:=[({ name:=(⟨#[76,121,111,110]⟩:ByteArray),order:=0,aE:=0,rest:=[],j4:=[],shut:=[] }:jg)],oW:=[({ QJ:=0 }:iO)],bU:=[({ name:=(⟨#[65]⟩:ByteArray),bK:=0,group:=0 }:rV),({ name:=(⟨#[66]⟩:ByteArray),bK:=0,group:=0 }:rV),({ name:=(⟨#[67]⟩:ByteArray),bK:=0,group:=0 }:rV)],aN:=[({ name:=(⟨#[103,101,110,101,118,97]⟩:ByteArray),BA:=false,bG:=[],rules:=[({ ask:=0,term:=({ op:=1,n:=1,args:=[] }:Term) }:kF),({ ask:=1,term:=({ op:=1,n:=1,args:=[] }:Term) }:kF),({ ask:=2,term:=({ op:=2,n:=15,args:=[] }:Term) }:kF)] }:Order)],bR:=[],aI:=[],gq:=[] }:ah),({ aX:=({ Ap:=0,qT:=1,eH:=2,sum:=100,aE:=0,da:=({ kind:=3,n:=40,unit:=0 }:qG),day:=10,bK:=0,JK:=0,need:=(-1),pF:=0,flags:=0,parts:=1 }:qA),ae:=[({ kind:=0,part:=0,dS:=0,for_:=(-1),cw:=(-1),sum:=0,day:=10,bK:=0,flags:=0 }:Sign),({ kind:=1,part:=0,dS:=1,for_:=(-1),cw:=(-1),sum:=100,day:=12,bK:=0,flags:=0 }:Sign)],aL:=[],aw:=[],facts:=b1 }:ai))
def aZ:ah × ai:=(pO).val
theorem MU:(pO).a6 (fun _=>True):=by
 refine Sk.aG _ ?_
 unfold pO
 simp only [Sk.gL,Sk.aA,reduceCtorEq,ON,kk,kp,maxLen]
 intro _ _ _
 refine ⟨⟨by omega,by simp⟩,fun i hi hc=>?_⟩
 simp only [LN] at hc
 refine ⟨⟨⟨⟨by omega,by omega⟩,fun j hj=>⟨fun hd=>?_,fun hd=>?_⟩⟩,fun b hb=>hb⟩,fun b _ hb _=>?_⟩
 ·simp only [LN] at hd
  have wj:au ((j.1:Int)+1)=((j.1+1:Nat):Int):=(ar (by omega) (by omega)).trans (by omega)
  simp only [List.length_append,List.length_cons,List.length_nil]
  refine ⟨fun _=>⟨by omega,fun _ _=>⟨wj,⟨by omega,by omega⟩,by omega⟩⟩,fun _ _=>⟨wj,⟨by omega,by omega⟩,by omega⟩⟩
 ·simp only [LN] at hd
  omega
 ·have wi:au ((i.1:Int)+1)=((i.1+1:Nat):Int):=(ar (by omega) (by omega)).trans (by omega)
  exact ⟨wi,⟨by omega,by omega⟩,by omega⟩
def CH:iI (ah × ai):=kk tok mixed Tryz.func21 [] (fun x=>.fj [av x.1.cells,av x.2.cells]) false (pO) (aZ) (fun (_:True)=>MU)
theorem aie:bu aZ.1 aZ.2∧aZ.2.facts.length≤202∧aZ.1.bD∧aZ.1.Small∧aZ.1.fD∧aZ.1.cp:=by
 have s1:aZ.2.ae=[⟨0,0,0,-1,-1,0,10,0,0⟩,⟨1,0,1,-1,-1,100,12,0,0⟩]:=by kernel_rfl
 have s2:aZ.2.aL=[]:=by kernel_rfl
 have s3:aZ.2.aw=[]:=by kernel_rfl
 have s4:aZ.2.facts.length=9:=by kernel_rfl
 have b1:aZ.2.aX.sum=100:=by kernel_rfl
 have b2:aZ.2.aX.JK=0:=by kernel_rfl
 have b3:aZ.2.aX.day=10:=by kernel_rfl
 have b4:aZ.2.aX.parts=1:=by kernel_rfl
 have b5:aZ.2.aX.aE=0:=by kernel_rfl
 have r1:aZ.1.eJ.length=1:=by kernel_rfl
 have r2:aZ.1.bo.length=1:=by kernel_rfl
 have r3:aZ.1.oW.length=1:=by kernel_rfl
 have r4:aZ.1.bU.length=3:=by kernel_rfl
 have r5:aZ.1.aN.length=1:=by kernel_rfl
 have r6:aZ.1.bR.length=0:=by kernel_rfl
 have r7:aZ.1.aI.length=0:=by kernel_rfl
 have r8:aZ.1.gq.length=0:=by kernel_rfl
 have o1:(aZ.1.aN.getD 0 default).bG.length=0:=by kernel_rfl
 have o2:(aZ.1.aN.getD 0 default).rules.length=3:=by kernel_rfl
 have c0:(aZ.1.bU.getD 0 default).bK=0:=by kernel_rfl
 have c1:(aZ.1.bU.getD 1 default).bK=0:=by kernel_rfl
 have c2:(aZ.1.bU.getD 2 default).bK=0:=by kernel_rfl
 generalize aZ=E at *
 obtain ⟨R,F⟩:=E
 dsimp only at *
 refine ⟨⟨⟨by omega,by omega,by omega,by omega,by omega⟩,⟨by rw [s1]; decide,by rw [s1]; decide,by rw [s2]; decide,by rw [s3]; decide,by omega⟩,fun q hq=>?_,fun q hq=>?_,fun q hq=>?_⟩,by omega,fun i j hi hj=>?_,?_,fun i hi=>?_,fun i hi=>absurd hi (by omega)⟩
 ·rw [s1] at hq
  unfold MT MS
  rw [s1,b3,b4,r4]
  have hq:q < 2:=hq
  match q with
  | 0 | 1=>simp; try omega
  | q+2=>omega
 ·rw [s2] at hq; simp at hq
 ·rw [s3] at hq; simp at hq
 ·obtain rfl:i=0:=by omega
  omega
 ·refine ⟨by omega,by omega,by omega,by omega,by omega,by omega,by omega,by omega,fun i hi=>?_⟩
  obtain rfl:i=0:=by omega
  omega
 ·have:i=0∨i=1∨i=2:=by omega
  rcases this with rfl | rfl | rfl <;> omega
structure Claim where
 aW:Int
 az:Int
 part:Int
 sign:Int
 cz:Int
 eD:Int
 sum:Int
 aE:Int
 state:Int
 deriving Inhabited
def Claim.cells (c:Claim):List D:=[dI c.aW,dI c.az,dI c.part,dI c.sign,dI c.cz,dI c.eD,dI c.sum,dI c.aE,dI c.state]
def Claim.E:MK Claim:=⟨Claim.cells,9,fun _=>rfl,fun _=>rfl⟩
def mU (i:Int) (n:Int):Sk (Bool) :=
 .fin ((decide (i≥0))&&(decide (i < n)))
def CI i n:=(mU i n).val
theorem j5 (i:Int) (n:Int):CI i n=((decide (i≥0))&&(decide (i < n))):=rfl
theorem G8 (i:Int) (n:Int):(mU i n).a6 (fun _=>True):=by
 unfold mU
 exact od
def dM i n:=kk tok mixed Tryz.func24 [iv i,iv n] (fun x=>bv x) true (mU i n) (CI i n) (u0 (G8 i n))
def mV (f:ai) (day:Int):Sk (ai) :=
 .bind true (fun b1=>b1.length≤f.ae.length)
 (.loop (default:Sum (ai) ((List Sign))) (fun i2=>i2.2.length≤i2.1∧i2.1≤f.ae.length) (fun i2=>f.ae.length - i2.1) ((0,[]):Nat × (List Sign))
 (fun (i2:Nat × (List Sign))=>⟨[(20,iv (i2.1:Int))],[(100002,aU 74 9 Sign.cells i2.2),(5,.box (f.aX.cells.map .d++[ow 100002 i2.2]++[nv,nv,nv]))]⟩) fun i2 =>
 .lt 18 0 i2.1 f.ae.length
 (.r 4 (.p (bN (i2.1:Int) f.ae.length)) fun _ =>
 .br (decide (((f.ae.getD i2.1 default).day) > day))
 (.fin (.inl (.inr i2.2)))
 (.r 6 (.al (.o [.dn (dH Sign.E [f.ae.getD i2.1 default])]) (.al (.o [.dn (kE Sign.E i2.2 [f.ae.getD i2.1 default])]) (.al (.t (Sign.E.mT [f.ae.getD i2.1 default])) (.p (vE i2.2.length [f.ae.getD i2.1 default].length 72))))) fun _ =>
 .nx 7 20 i2.1 (i2.1+1,i2.2++[f.ae.getD i2.1 default])))
 (.fin (.inl (.inr i2.2))))
 (fun (b1:(List Sign))=>⟨[],[(100001,aU 74 9 Sign.cells b1),(5,.box (f.aX.cells.map .d++[ow 100001 b1]++[nv,nv,nv]))]⟩) fun b1 =>
 .bind true (fun b3=>b3.length≤f.aw.length)
 (.loop (default:Sum (ai) ((List ba))) (fun i4=>i4.2.length≤i4.1∧i4.1≤f.aw.length) (fun i4=>f.aw.length - i4.1) ((0,[]):Nat × (List ba))
 (fun (i4:Nat × (List ba))=>⟨[(38,iv (i4.1:Int))],[(100005,aU 76 9 ba.cells i4.2),(5,.box (f.aX.cells.map .d++[ow 100001 b1]++[nv,ow 100005 i4.2]++[nv]))]⟩) fun i4 =>
 .lt 36 0 i4.1 f.aw.length
 (.r 10 (.p (bN (i4.1:Int) f.aw.length)) fun _ =>
 .br (decide (((f.aw.getD i4.1 default).day) > day))
 (.fin (.inl (.inr i4.2)))
 (.r 12 (.al (.o [.dn (dH ba.E [f.aw.getD i4.1 default])]) (.al (.o [.dn (kE ba.E i4.2 [f.aw.getD i4.1 default])]) (.al (.t (ba.E.mT [f.aw.getD i4.1 default])) (.p (vE i4.2.length [f.aw.getD i4.1 default].length 72))))) fun _ =>
 .nx 13 38 i4.1 (i4.1+1,i4.2++[f.aw.getD i4.1 default])))
 (.fin (.inl (.inr i4.2))))
 (fun (b3:(List ba))=>⟨[],[(100004,aU 76 9 ba.cells b3),(5,.box (f.aX.cells.map .d++[ow 100001 b1]++[nv,ow 100004 b3]++[nv]))]⟩) fun b3 =>
 .bind true (fun b5=>b5.length≤f.aL.length)
 (.loop (default:Sum (ai) ((List cJ))) (fun i6=>i6.2.length≤i6.1∧i6.1≤f.aL.length) (fun i6=>f.aL.length - i6.1) ((0,[]):Nat × (List cJ))
 (fun (i6:Nat × (List cJ))=>⟨[(56,iv (i6.1:Int))],[(100008,aU 78 2 cJ.cells i6.2),(5,.box (f.aX.cells.map .d++[ow 100001 b1,ow 100008 i6.2,ow 100004 b3]++[nv]))]⟩) fun i6 =>
 .lt 54 0 i6.1 f.aL.length
 (.r 16 (.p (bN (i6.1:Int) f.aL.length)) fun _ =>
 .br (decide (((f.aL.getD i6.1 default).at_)≤((b1.length:Nat):Int)))
 (.r 18 (.al (.o [.dn (dH cJ.E [f.aL.getD i6.1 default])]) (.al (.o [.dn (kE cJ.E i6.2 [f.aL.getD i6.1 default])]) (.al (.t (cJ.E.mT [f.aL.getD i6.1 default])) (.p (vE i6.2.length [f.aL.getD i6.1 default].length 16))))) fun _ =>
 .nx 19 56 i6.1 (i6.1+1,i6.2++[f.aL.getD i6.1 default]))
 (.nx 19 56 i6.1 (i6.1+1,i6.2)))
 (.fin (.inl (.inr i6.2))))
 (fun (b5:(List cJ))=>⟨[],[(100007,aU 78 2 cJ.cells b5),(5,.box (f.aX.cells.map .d++[ow 100001 b1,ow 100007 b5,ow 100004 b3]++[nv]))]⟩) fun b5 =>
 .bind true (fun b7=>b7.length≤f.facts.length)
 (.loop (default:Sum (ai) ((List Fact))) (fun i8=>i8.2.length≤i8.1∧i8.1≤f.facts.length) (fun i8=>f.facts.length - i8.1) ((0,[]):Nat × (List Fact))
 (fun (i8:Nat × (List Fact))=>⟨[(76,iv (i8.1:Int))],[(100011,aU 37 3 Fact.cells i8.2),(5,.box (f.aX.cells.map .d++[ow 100001 b1,ow 100007 b5,ow 100004 b3,ow 100011 i8.2]))]⟩) fun i8 =>
 .lt 74 0 i8.1 f.facts.length
 (.r 22 (.p (bN (i8.1:Int) f.facts.length)) fun _ =>
 .r 23 ((dM ((f.facts.getD i8.1 default).at_) ((b1.length:Nat):Int)).c) fun x9 =>
 .br x9
 (.r 24 (.al (.o [.dn (dH Fact.E [f.facts.getD i8.1 default])]) (.al (.o [.dn (kE Fact.E i8.2 [f.facts.getD i8.1 default])]) (.al (.t (Fact.E.mT [f.facts.getD i8.1 default])) (.p (vE i8.2.length [f.facts.getD i8.1 default].length 24))))) fun _ =>
 .nx 25 76 i8.1 (i8.1+1,i8.2++[f.facts.getD i8.1 default]))
 (.nx 25 76 i8.1 (i8.1+1,i8.2)))
 (.fin (.inl (.inr i8.2))))
 (fun (b7:(List Fact))=>⟨[],[(100010,aU 37 3 Fact.cells b7),(5,.box (f.aX.cells.map .d++[ow 100001 b1,ow 100007 b5,ow 100004 b3,ow 100010 b7]))]⟩) fun b7 =>
 .fin ({ f with ae:=b1,aL:=b5,aw:=b3,facts:=b7 })
def aj f day:=(mV f day).val
theorem CJ (f:ai) (day:Int):(mV f day).cC (fun (x:ai)=>x.ae.length≤f.ae.length∧x.aw.length≤f.aw.length∧x.aL.length≤f.aL.length∧x.facts.length≤f.facts.length):=by
 unfold mV
 try simp only [dM,j5,ai.Small,ah.Small]
 exact X9
theorem mq (f:ai) (day:Int):(fun (x:ai)=>x.ae.length≤f.ae.length∧x.aw.length≤f.aw.length∧x.aL.length≤f.aL.length∧x.facts.length≤f.facts.length) (aj f day):=have h:=Sk.cI _ (CJ f day); h
theorem RX (f:ai) (day:Int) (hf:f.Small):(mV f day).a6 (fun _=>True):=by
 simp only [ai.Small,ah.Small] at hf
 unfold mV
 try simp only [dM,j5,ai.Small,ah.Small]
 exact GD
def bj f day:=kp tok mixed Tryz.func9 [av f.cells,iv day] (fun x=>av x.cells) false (aj f day) (RX f day) (CJ f day)
theorem vH {α:Type} (p:α→Bool):∀ (l s:List α),l.foldl (fun s x=>bif p x then s++[x] else s) s=s++l.filter p
 | [],s=>by simp
 | x :: r,s=>by
  simp only [List.foldl_cons,List.filter_cons]
  cases h:p x with
  | true=>simp [vH p r]
  | false=>simp [vH p r]
theorem Dd {α β:Type} (p:α→Bool) (g:List α→β):∀ (l s:List α),walk (fun x s=>bif !(p x) then Sum.inl (g s) else Sum.inr (s++[x])) g l s=g (s++l.takeWhile p)
 | [],s=>by simp [walk]
 | x :: r,s=>by
  simp only [walk,List.takeWhile_cons]
  cases h:p x with
  | true =>
   show walk (fun x s=>bif !(p x) then Sum.inl (g s) else Sum.inr (s++[x])) g r (s++[x])=_
   rw [Dd p g r (s++[x])]
   simp
  | false=>simp
theorem gP (f:ai) (day:Int):aj f day=ai.mk f.aX (f.ae.takeWhile (fun s=>decide (s.day≤day)))
  (f.aL.filter (fun a=>decide (a.at_≤((f.ae.takeWhile (fun s=>decide (s.day≤day))).length:Int)))) (f.aw.takeWhile (fun a=>decide (a.day≤day)))
  (f.facts.filter (fun x=>decide (x.at_≥0)&&decide (x.at_ < ((f.ae.takeWhile (fun s=>decide (s.day≤day))).length:Int)))):=by
 simp only [aj,mV,Sk.j3,Sk.lf,Sk.oa,Sk.kL,Sk.qF,Sk.sA,Sk.gN,iI.G3,kk,kp,dM,j5]
 have h1:∀ (n:Nat) (d:ai ⊕ List Sign),f.ae.length < n→iter (fun i2:Nat × List Sign=>bif decide ((i2.1:Int) < (f.ae.length:Int)) then (bif decide ((f.ae.getD i2.1 default).day > day) then (Sum.inl (Sum.inr i2.2)) else (Sum.inr (i2.1+1,i2.2++[f.ae.getD i2.1 default]))) else Sum.inl (Sum.inr i2.2)) d n (0,[])=(Sum.inr (f.ae.takeWhile (fun s=>decide (s.day≤day))):ai ⊕ List Sign):=by
  intro n d hn
  rw [oV f.ae (fun s i=>(i,s)) (fun x s=>bif !(decide (x.day≤day)) then Sum.inl (Sum.inr s) else Sum.inr (s++[x])) (fun s=>Sum.inr s) (fun s i hi=>?_) (fun s=>?_) hn []]
  ·exact Dd _ (fun s=>(Sum.inr s:ai ⊕ List Sign)) f.ae []
  ·rw [decide_eq_true (by omega),cond_true]
   by_cases c:(f.ae.getD i default).day > day
   ·rw [decide_eq_true c,decide_eq_false (by omega)]; rfl
   ·rw [decide_eq_false c,decide_eq_true (by omega)]; rfl
  ·rw [decide_eq_false (by omega),cond_false]
 rw [h1 _ _ (by simp)]
 have h2:∀ (n:Nat) (d:ai ⊕ List ba),f.aw.length < n→iter (fun i2:Nat × List ba=>bif decide ((i2.1:Int) < (f.aw.length:Int)) then (bif decide ((f.aw.getD i2.1 default).day > day) then (Sum.inl (Sum.inr i2.2)) else (Sum.inr (i2.1+1,i2.2++[f.aw.getD i2.1 default]))) else Sum.inl (Sum.inr i2.2)) d n (0,[])=(Sum.inr (f.aw.takeWhile (fun s=>decide (s.day≤day))):ai ⊕ List ba):=by
  intro n d hn
  rw [oV f.aw (fun s i=>(i,s)) (fun x s=>bif !(decide (x.day≤day)) then Sum.inl (Sum.inr s) else Sum.inr (s++[x])) (fun s=>Sum.inr s) (fun s i hi=>?_) (fun s=>?_) hn []]
  ·exact Dd _ (fun s=>(Sum.inr s:ai ⊕ List ba)) f.aw []
  ·rw [decide_eq_true (by omega),cond_true]
   by_cases c:(f.aw.getD i default).day > day
   ·rw [decide_eq_true c,decide_eq_false (by omega)]; rfl
   ·rw [decide_eq_false c,decide_eq_true (by omega)]; rfl
  ·rw [decide_eq_false (by omega),cond_false]
 simp only [tP]
 rw [h2 _ _ (by simp)]
 simp only [tP]
 generalize f.ae.takeWhile (fun s=>decide (s.day≤day))=b1
 have h3:∀ (n:Nat) (d:ai ⊕ List cJ),f.aL.length < n→iter (fun i2:Nat × List cJ=>bif decide ((i2.1:Int) < (f.aL.length:Int)) then (bif decide ((f.aL.getD i2.1 default).at_≤(b1.length:Int)) then (Sum.inr (i2.1+1,i2.2++[f.aL.getD i2.1 default])) else (Sum.inr (i2.1+1,i2.2))) else Sum.inl (Sum.inr i2.2)) d n (0,[])=(Sum.inr (f.aL.filter (fun a=>decide (a.at_≤(b1.length:Int)))):ai ⊕ List cJ):=by
  intro n d hn
  rw [oV f.aL (fun s i=>(i,s)) (fun x s=>Sum.inr (bif decide (x.at_≤(b1.length:Int)) then s++[x] else s)) (fun s=>Sum.inr s) (fun s i hi=>?_) (fun s=>?_) hn []]
  ·rw [qS (fun (x:cJ) s=>bif decide (x.at_≤(b1.length:Int)) then s++[x] else s),vH]; rfl
  ·rw [decide_eq_true (by omega),cond_true]
   cases decide ((f.aL.getD i default).at_≤(b1.length:Int)) <;> rfl
  ·rw [decide_eq_false (by omega),cond_false]
 rw [h3 _ _ (by simp)]
 simp only [tP]
 have h4:∀ (n:Nat) (d:ai ⊕ List Fact),f.facts.length < n→iter (fun i2:Nat × List Fact=>bif decide ((i2.1:Int) < (f.facts.length:Int)) then (bif (decide ((f.facts.getD i2.1 default).at_≥0)&&decide ((f.facts.getD i2.1 default).at_ < (b1.length:Int))) then (Sum.inr (i2.1+1,i2.2++[f.facts.getD i2.1 default])) else (Sum.inr (i2.1+1,i2.2))) else Sum.inl (Sum.inr i2.2)) d n (0,[])=(Sum.inr (f.facts.filter (fun a=>decide (a.at_≥0)&&decide (a.at_ < (b1.length:Int)))):ai ⊕ List Fact):=by
  intro n d hn
  rw [oV f.facts (fun s i=>(i,s)) (fun x s=>Sum.inr (bif (decide (x.at_≥0)&&decide (x.at_ < (b1.length:Int))) then s++[x] else s)) (fun s=>Sum.inr s) (fun s i hi=>?_) (fun s=>?_) hn []]
  ·rw [qS (fun (x:Fact) s=>bif (decide (x.at_≥0)&&decide (x.at_ < (b1.length:Int))) then s++[x] else s),vH]; rfl
  ·rw [decide_eq_true (by omega),cond_true]
   cases (decide ((f.facts.getD i default).at_≥0)&&decide ((f.facts.getD i default).at_ < (b1.length:Int))) <;> rfl
  ·rw [decide_eq_false (by omega),cond_false]
 rw [h4 _ _ (by simp)]
 rfl
theorem Aq {α:Type} [Inhabited α] (p:α→Bool):∀ (l:List α) (i:Nat),i < (l.takeWhile p).length→(l.takeWhile p).getD i default=l.getD i default∧i < l.length∧p (l.getD i default)=true
 | [],i,h=>by simp at h
 | x :: r,i,h=>by
  rw [List.takeWhile_cons] at h ⊢
  cases hp:p x with
  | false=>rw [hp] at h; simp at h
  | true =>
   rw [hp] at h
   simp only [if_true,List.length_cons] at h ⊢
   cases i with
   | zero=>exact ⟨rfl,by simp,hp⟩
   | succ i =>
    have:=Aq p r i (by omega)
    exact ⟨by simpa using this.1,by simpa using this.2.1,by simpa using this.2.2⟩
structure View where
 all:ai
 now:ai
 day:Int
 lead:List Int
 deriving Inhabited
def View.cells (c:View):List D:=c.all.cells++c.now.cells++[dI c.day,mR bS c.lead]
def View.kO (v:View):Prop:=∀ i,i < v.now.ae.length→((v.now.ae.getD i default).kind=3∨(v.now.ae.getD i default).kind=4)→0≤(v.now.ae.getD i default).for_∧(v.now.ae.getD i default).for_ < (i:Int)
structure fZ where
 view:View
 r:ah
 forum:Int
 due:Int
 deriving Inhabited
def fZ.cells (c:fZ):List D:=c.view.cells++c.r.cells++[dI c.forum,dI c.due]
section
open Go Go.Av Go.Shelf Go.Proofs
def Tryz.RY:Go.Shelf.Ren:=⟨fun | 5=>152 | 8=>186 | 7=>185 | 19=>222 | 20=>223 | 10=>213 | 11=>214 | 12=>215 | 13=>216 | 14=>217 | 15=>218 | 16=>219 | 17=>220 | 18=>221 | 30=>243 | 31=>244 | 32=>245 | 33=>246 | 34=>247 | 35=>72 | 40=>250 | n=>n,fun | 23=>105 | 25=>3 | 3=>3 | 32=>87 | 22=>105 | 0=>0 | 44=>132 | 46=>134 | 4=>4 | 36=>315 | 35=>314 | 41=>244 | 5=>5 | 9=>9 | 53=>338 | 57=>342 | 63=>344 | 64=>160 | n=>n,fun | n=>n⟩
theorem Tryz.Uz:Go.Proofs.SlLaysM.n5 Tryz.prog Tryz.RY:={
 mixed:=by kernel_rfl
 f5:=⟨Tryz.f152.name,by decide,Tryz.func152.trans (congrArg some (by kernel_rfl))⟩
 f7:=⟨Tryz.f185.name,by decide,Tryz.func185.trans (congrArg some (by kernel_rfl))⟩
 f8:=Tryz.func186.trans (congrArg some (by kernel_rfl))
 f10:=⟨Tryz.f213.name,by decide,Tryz.func213.trans (congrArg some (by kernel_rfl))⟩
 f11:=⟨Tryz.f214.name,by decide,Tryz.func214.trans (congrArg some (by kernel_rfl))⟩
 f12:=⟨Tryz.f215.name,by decide,Tryz.func215.trans (congrArg some (by kernel_rfl))⟩
 f13:=⟨Tryz.f216.name,by decide,Tryz.func216.trans (congrArg some (by kernel_rfl))⟩
 f14:=⟨Tryz.f217.name,by decide,Tryz.func217.trans (congrArg some (by kernel_rfl))⟩
 f15:=⟨Tryz.f218.name,by decide,Tryz.func218.trans (congrArg some (by kernel_rfl))⟩
 f16:=⟨Tryz.f219.name,by decide,Tryz.func219.trans (congrArg some (by kernel_rfl))⟩
 f17:=⟨Tryz.f220.name,by decide,Tryz.func220.trans (congrArg some (by kernel_rfl))⟩
 f18:=⟨Tryz.f221.name,by decide,Tryz.func221.trans (congrArg some (by kernel_rfl))⟩
 f19:=Tryz.func222.trans (congrArg some (by kernel_rfl))
 f20:=Tryz.func223.trans (congrArg some (by kernel_rfl))
 f30:=⟨Tryz.f243.name,by decide,Tryz.func243.trans (congrArg some (by kernel_rfl))⟩
 f31:=Tryz.func244.trans (congrArg some (by kernel_rfl))
 f32:=Tryz.func245.trans (congrArg some (by kernel_rfl))
 f33:=⟨Tryz.f246.name,by decide,Tryz.func246.trans (congrArg some (by kernel_rfl))⟩
 f34:=⟨Tryz.f247.name,by decide,Tryz.func247.trans (congrArg some (by kernel_rfl))⟩
 f35:=⟨Tryz.f72.name,by decide,Tryz.func72.trans (congrArg some (by kernel_rfl))⟩
 f40:=⟨Tryz.f250.name,by decide,Tryz.func250.trans (congrArg some (by kernel_rfl))⟩
 t0:=Tryz.underlying0
 a0:=Tryz.isAgg0
 z0:=Tryz.sizeOf0
 v0:=Tryz.zeroValue0
 t3:=Tryz.underlying3
 a3:=Tryz.isAgg3
 z3:=Tryz.sizeOf3
 v3:=Tryz.zeroValue3
 t4:=Tryz.underlying4
 a4:=Tryz.isAgg4
 z4:=Tryz.sizeOf4
 v4:=Tryz.zeroValue4
 t5:=Tryz.underlying5
 a5:=Tryz.isAgg5
 z5:=Tryz.sizeOf5
 v5:=Tryz.zeroValue5
 t9:=Tryz.underlying9
 a9:=Tryz.isAgg9
 z9:=Tryz.sizeOf9
 v9:=Tryz.zeroValue9
 t22:=Tryz.underlying105
 a22:=Tryz.isAgg105
 z22:=Tryz.sizeOf105
 v22:=Tryz.zeroValue105
 t23:=Tryz.underlying105
 a23:=Tryz.isAgg105
 z23:=Tryz.sizeOf105
 v23:=Tryz.zeroValue105
 t25:=Tryz.underlying3
 a25:=Tryz.isAgg3
 z25:=Tryz.sizeOf3
 v25:=Tryz.zeroValue3
 t32:=Tryz.underlying87
 a32:=Tryz.isAgg87
 z32:=Tryz.sizeOf87
 v32:=Tryz.zeroValue87
 t35:=Tryz.underlying314
 a35:=Tryz.isAgg314
 z35:=Tryz.sizeOf314
 v35:=Tryz.zeroValue314
 t36:=Tryz.underlying315
 a36:=Tryz.isAgg315
 z36:=Tryz.sizeOf315
 v36:=Tryz.zeroValue315
 t41:=Tryz.underlying244
 a41:=Tryz.isAgg244
 z41:=Tryz.sizeOf244
 v41:=Tryz.zeroValue244
 t44:=Tryz.underlying132
 a44:=Tryz.isAgg132
 z44:=Tryz.sizeOf132
 v44:=Tryz.zeroValue132
 t46:=Tryz.underlying134
 a46:=Tryz.isAgg134
 z46:=Tryz.sizeOf134
 v46:=Tryz.zeroValue134
 t53:=Tryz.underlying338
 a53:=Tryz.isAgg338
 z53:=Tryz.sizeOf338
 v53:=Tryz.zeroValue338
 t57:=Tryz.underlying342
 a57:=Tryz.isAgg342
 z57:=Tryz.sizeOf342
 v57:=Tryz.zeroValue342
 t63:=Tryz.underlying344
 a63:=Tryz.isAgg344
 z63:=Tryz.sizeOf344
 v63:=Tryz.zeroValue344
 t64:=Tryz.underlying160
 a64:=Tryz.isAgg160
 z64:=Tryz.sizeOf160
 v64:=Tryz.zeroValue160 }
def rq (κ:Nat) (x:List Int):JJ (List Int) :=
 ⟨Tryz.prog,152,[ow κ x],κ,aU 3 1 bS x,fun y=>aU 3 1 bS y,iL x,x.length < 4611686018427387904,
  fun h=>aa7 (by kernel_rfl) (fun blk off cap zs w=>AnyM.slices_Sort_int Tryz.Uz blk off cap zs w) (fun p cap w=>AnyM.slices_Sort_int_none Tryz.Uz p cap w) κ 3 x h,
  fun y=>y.length=x.length,by simp [iL]⟩
end
section
open Go Go.Av Go.Shelf Go.Proofs
def Tryz.JL:Go.Shelf.Ren:=⟨fun | 20=>153 | n=>n,fun | 22=>105 | 3=>3 | 4=>4 | 0=>0 | n=>n,fun | n=>n⟩
theorem Tryz.I9:Go.Proofs.Lays2.n20 Tryz.prog Tryz.JL:={
 mixed:=by kernel_rfl
 f20:=Tryz.func153.trans (congrArg some (by kernel_rfl))
 t0:=Tryz.underlying0
 a0:=Tryz.isAgg0
 z0:=Tryz.sizeOf0
 v0:=Tryz.zeroValue0
 t3:=Tryz.underlying3
 a3:=Tryz.isAgg3
 z3:=Tryz.sizeOf3
 v3:=Tryz.zeroValue3
 t4:=Tryz.underlying4
 a4:=Tryz.isAgg4
 z4:=Tryz.sizeOf4
 v4:=Tryz.zeroValue4
 t22:=Tryz.underlying105
 a22:=Tryz.isAgg105
 z22:=Tryz.sizeOf105
 v22:=Tryz.zeroValue105
 i3:=by kernel_rfl }
theorem MV (x:List Int):(Lib.compact x).length≤x.length:=by
 unfold Lib.compact Lib.compactUpTo
 rw [List.length_map]
 exact Nat.le_trans (List.length_filter_le _ _) (by simp)
def mW (κ κ':Nat) (x:List Int):uk (List Int) :=
 ⟨Tryz.prog,153,[ow κ x],[(κ,aU 3 1 bS x)],fun y=>ow κ' y,fun y=>[(κ',aU 3 1 bS y)],Lib.compact x,True,
  fun _=>Uv (by kernel_rfl) x _ (MV x) (fun blk cap w h1 h2 h3=>Any.slices_Compact_int Tryz.I9 blk 0 cap x w h1 h2 h3) (fun p cap w=>Any.slices_Compact_int_empty Tryz.I9 p cap w) κ κ' 3,
  fun y=>y.length≤x.length,MV x⟩
end
def pn (f:ai) (day:Int):Sk (View) :=
 .r 1 ((bj f day).c) fun x1 =>
 .r 2 (.o [.rP (mkM dB)]) fun _ =>
 .bt
 (.loop (default:Sum (View) ((List (Int × Bool)))) (fun i3=>i3.1≤x1.aw.length) (fun i3=>x1.aw.length - i3.1) ((0,([]:List (Int × Bool))):Nat × (List (Int × Bool)))
 (fun (i3:Nat × (List (Int × Bool)))=>⟨[(22,iv ((i3.1:Nat):Int))],[(17,mpM dB i3.2)]⟩) fun i3 =>
 .lt 20 0 i3.1 x1.aw.length
 (.r 5 (.p (bN ((i3.1:Nat):Int) x1.aw.length)) fun _ =>
 .br (((x1.aw.getD i3.1 default).kind) == 7)
 (.r 7 (.al (.t (I7 dB i3.2)) (.o [.rP (acG dB i3.2 ((x1.aw.getD i3.1 default).at_) true)])) fun _ =>
 .r 8 .z fun _ =>
 .wi 22 (au (((i3.1:Nat):Int)+1)) ((i3.1+1:Nat):Int) <|
 .fin (.inr (i3.1+1,tc i3.2 ((x1.aw.getD i3.1 default).at_) true)))
 (.nx 8 22 i3.1 (i3.1+1,i3.2)))
 (.fin (.inl (.inr i3.2))))
 (fun (b2:(List (Int × Bool)))=>⟨[],[(17,mpM dB b2)]⟩) fun b2 =>
 .bind true (fun b4=>b4.length≤0+x1.ae.length)
 (.loop (default:Sum (View) ((List Int))) (fun i5=>i5.1≤x1.ae.length∧i5.2.length≤0+i5.1) (fun i5=>x1.ae.length - i5.1) ((0,[]):Nat × (List Int))
 (fun (i5:Nat × (List Int))=>⟨[(37,iv ((i5.1:Nat):Int))],[(100002,aU 3 1 bS i5.2),(5,.box (f.cells.map .d++x1.cells.map .d++[iv day,ow 100002 i5.2]))]⟩) fun i5 =>
 .lt 35 0 i5.1 x1.ae.length
 (.r 11 (.p (bN ((i5.1:Nat):Int) x1.ae.length)) fun _ =>
 .r 12 (.wh (((x1.ae.getD i5.1 default).kind) == 2) true (.al (.t (I7 dB b2)) (.o [.cast 48 (getM dB b2 ((i5.1:Nat):Int) false)]))) fun _ =>
 .br ((((x1.ae.getD i5.1 default).kind) == 2)&&(!(EO b2 ((i5.1:Nat):Int) false)))
 (.r 13 (.al (.o [.dn (dH dV [(x1.ae.getD i5.1 default).part])]) (.al (.o [.dn (kE dV i5.2 [(x1.ae.getD i5.1 default).part])]) (.al (.t (dV.mT [(x1.ae.getD i5.1 default).part])) (.p (vE i5.2.length [(x1.ae.getD i5.1 default).part].length 8))))) fun _ =>
 .nx 14 37 i5.1 (i5.1+1,i5.2++[(x1.ae.getD i5.1 default).part]))
 (.nx 14 37 i5.1 (i5.1+1,i5.2)))
 (.fin (.inl (.inr i5.2))))
 (fun (b4:(List Int))=>⟨[],[(100001,aU 3 1 bS b4),(5,.box (f.cells.map .d++x1.cells.map .d++[iv day,ow 100001 b4]))]⟩) fun b4 =>
 .r 15 ((rq 100001 b4).c) fun x6 =>
 .wn 100001 b4.length x6.length <|
 .r 16 ((mW 100001 64 x6).c) fun x7 =>
 .br (((x7.length:Nat):Int) == 0)
 (.r 18 (.o [.dn (dH dV [0])]) fun _ =>
 .fin ({ all:=f,now:=x1,day:=day,lead:=[0] }:View))
 (.fin ({ all:=f,now:=x1,day:=day,lead:=x7 }:View))
def aQ f day:=(pn f day).val
theorem EV (f:ai) (day:Int):(pn f day).cC (fun (x:View)=>x.all=f∧x.now=aj f day∧x.day=day∧x.lead.length≠0∧x.lead.length≤1+f.ae.length):=by
  unfold pn
  try simp only [bj,mW,rq,JJ.c,uk.c,ai.Small,ah.Small]
  exact ET

theorem CK (f:ai) (day:Int):(fun (x:View)=>x.all=f∧x.now=aj f day∧x.day=day∧x.lead.length≠0∧x.lead.length≤1+f.ae.length) (aQ f day):=have h:=Sk.cI _ (EV f day); h
theorem UA (f:ai) (day:Int) (aV:f.Small):(pn f day).a6 (fun _=>True):=by
  simp only [ai.Small,ah.Small] at aV
  unfold pn
  try simp only [bj,mW,rq,JJ.c,uk.c,ai.Small,ah.Small]
  exact nF

def De f day:=kp tok mixed Tryz.func119 [av f.cells,iv day] (fun x=>av x.cells) false (aQ f day) (UA f day) (EV f day)
structure aH where
  known:Bool
  n:Int
  deriving Inhabited
def aH.cells (c:aH):List D:=[dB c.known,dI c.n]
def aH.E:MK aH:=⟨aH.cells,2,fun _=>rfl,fun _=>rfl⟩
structure wo where
  cell:aH
  order:Int
  path:List Int
  err:Int
  deriving Inhabited
def wo.cells (c:wo):List D:=c.cell.cells++[dI c.order,mR bS c.path,dI c.err]
structure fR where
  file:ai
  sign:Int
  iP:Int
  jh:Int
  due:Int
  day:Int
  deriving Inhabited
def fR.cells (c:fR):List D:=c.file.cells++[dI c.sign,dI c.iP,dI c.jh,dI c.due,dI c.day]
def lV (a:cJ) (v:fR):Sk (Bool) :=
 .fin (decide (a.at_≤v.sign))
def ga a v:=(lV a v).val
theorem vI (a:cJ) (v:fR):ga a v=(decide (a.at_≤v.sign)):=rfl
theorem EW (a:cJ) (v:fR):(lV a v).a6 (fun _=>True):=by
  unfold lV
  exact od

def qU a v:=kk tok mixed Tryz.func205 [av a.cells,.ref v.cells] (fun x=>bv x) true (lV a v) (ga a v) (u0 (EW a v))
def dX (s:List cJ) (v:fR):Sk (Int) :=
 .bind true (fun b1=>∀ q,q < s.length→ga (s.getD q default) v=false)
 (.loop (default:Sum (Int) (Unit)) (fun i2=>∀ q,q < i2→ga (s.getD q default) v=false) (fun i2=>s.length - i2) (0:Nat)
 (fun (i2:Nat)=>⟨[(8,iv ((i2:Nat):Int))],[]⟩) fun i2 =>
 .lt 0 0 i2 s.length
 (.r 4 (.al (.p (bN ((i2:Nat):Int) s.length)) ((qU (s.getD i2 default) v).c)) fun x3 =>
 .br x3
 (.fin (.inl (.inl ((i2:Nat):Int))))
 (.nx 6 8 i2 (i2+1)))
 (.fin (.inl (.inr ()))))
 (fun (_:Unit)=>⟨[],[]⟩) fun _ =>
 .fin (-1)
def Ar s v:=(dX s v).val
theorem wq (s:List cJ) (v:fR):(dX s v).cC (fun (x:Int)=>(x = -1∧∀ q,q < s.length→ga (s.getD q default) v=false)∨(0≤x∧x < s.length∧ga (s.getD x.toNat default) v=true∧∀ q,(q:Nat) < x.toNat→ga (s.getD q default) v=false)):=by
  unfold dX
  try simp only [qU,vI]
  exact X9

theorem xp (s:List cJ) (v:fR):(dX s v).a6 (fun _=>True):=by
  unfold dX
  try simp only [qU,vI]
  exact GD

def kP s v:=kp tok mixed Tryz.func234 [lv cJ.cells s,.fn 205 [.ref v.cells]] (fun x=>iv x) true (Ar s v) (u0 (xp s v)) (wq s v)
def dh (s:List cJ) (v:fR):Sk (Bool) :=
 .r 1 ((kP s v).c) fun x1 =>
 .fin (decide (x1≥0))
def xq s v:=(dh s v).val
theorem th (s:List cJ) (v:fR):(dh s v).cC (fun (x:Bool)=>(x=true↔∃ q,q < s.length∧ga (s.getD q default) v=true)):=by
  unfold dh
  try simp only [kP]
  exact ET

theorem uo (s:List cJ) (v:fR):(dh s v).a6 (fun _=>True):=by
  unfold dh
  try simp only [kP]
  exact od

def iQ s v:=kp tok mixed Tryz.func204 [lv cJ.cells s,.fn 205 [.ref v.cells]] (fun x=>bv x) true (xq s v) (u0 (uo s v)) (th s v)
def vJ (i:Int) (n:Int):Sk (Bool) :=
 .fin ((decide (i≥0))&&(decide (i < n)))
def UB i n:=(vJ i n).val
theorem gb (i:Int) (n:Int):UB i n=((decide (i≥0))&&(decide (i < n))):=rfl
theorem UC (i:Int) (n:Int):(vJ i n).a6 (fun _=>True):=by
  unfold vJ
  exact od

def cg i n:=kk tok mixed Tryz.func58 [iv i,iv n] (fun x=>bv x) true (vJ i n) (UB i n) (u0 (UC i n))
def mX (r:ah) (bK:Int):Sk (Int) :=
 .r 1 ((cg bK ((r.bo.length:Nat):Int)).c) fun x1 =>
 .br (!x1)
 (.fin (-1))
 (.r 3 (.p (bN bK r.bo.length)) fun _ =>
 .fin ((r.bo.getD bK.toNat default).order))
def Ph r bK:=(mX r bK).val
theorem G9 (r:ah) (bK:Int):(mX r bK).a6 (fun _=>True):=by
  unfold mX
  try simp only [cg,gb]
  exact GD

def cG r bK:=kk tok mixed Tryz.func175 [av r.cells,iv bK] (fun x=>iv x) true (mX r bK) (Ph r bK) (u0 (G9 r bK))
def oe (Pj:Bool):Sk (aH) :=
 .br Pj
 (.fin ({ known:=true,n:=1 }:aH))
 (.fin ({ known:=true,n:=0 }:aH))
def kQ Pj:=(oe Pj).val
theorem JM (Pj:Bool):(oe Pj).a6 (fun _=>True):=by
  unfold oe
  exact od

def j6 Pj:=kk tok mixed Tryz.func25 [bv Pj] (fun x=>av x.cells) true (oe Pj) (kQ Pj) (u0 (JM Pj))
def mu (f:ai) (kind:Int) (at_:Int):Sk (aH) :=
 .bt
 (.loop (default:Sum (aH) (Unit)) (fun i2=>i2≤f.facts.length) (fun i2=>f.facts.length - i2) (0:Nat)
 (fun (i2:Nat)=>⟨[(12,iv ((i2:Nat):Int))],[]⟩) fun i2 =>
 .lt 10 0 i2 f.facts.length
 (.r 3 (.p (bN ((i2:Nat):Int) f.facts.length)) fun _ =>
 .br ((((f.facts.getD i2 default).kind) == kind)&&(((f.facts.getD i2 default).at_) == at_))
 (.r 5 ((j6 (((f.facts.getD i2 default).n) != 0)).c) fun x3 =>
 .fin (.inl (.inl x3)))
 (.nx 6 12 i2 (i2+1)))
 (.fin (.inl (.inr ()))))
 (fun (_:Unit)=>⟨[],[]⟩) fun _ =>
 .fin ({ known:=false,n:=0 }:aH)
def bP f kind at_:=(mu f kind at_).val
theorem MW (f:ai) (kind:Int) (at_:Int):(mu f kind at_).a6 (fun _=>True):=by
  unfold mu
  try simp only [j6]
  exact nF

def cT f kind at_:=kk tok mixed Tryz.func11 [av f.cells,iv kind,iv at_] (fun x=>av x.cells) true (mu f kind at_) (bP f kind at_) (u0 (MW f kind at_))
def mw (r:ah) (c_:fR):Sk ((List aH)) :=
 .r 3 (.dep ((dM c_.sign ((c_.file.ae.length:Nat):Int)).c) fun x1=>.wh (((!x1)||(decide (c_.iP < (-1))))||(decide ((bW c_.iP 0)≥((c_.file.ae.length:Nat):Int)))) false (.wh (c_.due != (-1)) true ((dM c_.due 100001).c))) fun p25 =>
 .br ((((!p25.1)||(decide (c_.iP < (-1))))||(decide ((bW c_.iP 0)≥((c_.file.ae.length:Nat):Int))))||((c_.due != (-1))&&(!p25.2)))
 (.fin [])
 (.r 5 (.p (bN c_.sign c_.file.ae.length)) fun _ =>
 .r 6 ((dM ((c_.file.ae.getD c_.sign.toNat default).day) 100001).c) fun x3 =>
 .br (!x3)
 (.fin [])
 (.bind false (fun _=>True)
 (.br (c_.due != (-1))
 (.fin (.inr (au (((c_.file.ae.getD c_.sign.toNat default).day) - c_.due))))
 (.fin (.inr 0)))
 (fun (b4:Int)=>⟨[(9,iv b4)],[]⟩) fun b4 =>
 .r 11 (.al (.o [.dn (mkC aH.E 20 ({ known:=false,n:=0 }:aH))]) (.p (mkP (20:Int) 16))) fun _ =>
 .r 12 (.al (.o [.rP af3]) (.al (.o [.rP (af2 dI 0 c_.file.aX.sum)]) (.al (.o [.rP (GZ dI [0] [c_.file.aX.sum] rfl 1 c_.file.aX.parts)]) (.al (.o [.rP (GZ dI [0,1] [c_.file.aX.sum,c_.file.aX.parts] rfl 2 c_.file.aX.da.kind)]) (.al (.o [.rP (GZ dI [0,1,2] [c_.file.aX.sum,c_.file.aX.parts,c_.file.aX.da.kind] rfl 3 c_.file.aX.pF)]) (.al (.o [.rP (GZ dI [0,1,2,3] [c_.file.aX.sum,c_.file.aX.parts,c_.file.aX.da.kind,c_.file.aX.pF] rfl 4 ((c_.file.ae.getD c_.sign.toNat default).kind))]) (.al (.o [.rP (GZ dI [0,1,2,3,4] [c_.file.aX.sum,c_.file.aX.parts,c_.file.aX.da.kind,c_.file.aX.pF,(c_.file.ae.getD c_.sign.toNat default).kind] rfl 5 c_.jh)]) (.o [.rP (GZ dI [0,1,2,3,4,5] [c_.file.aX.sum,c_.file.aX.parts,c_.file.aX.da.kind,c_.file.aX.pF,(c_.file.ae.getD c_.sign.toNat default).kind,c_.jh] rfl 6 b4)])))))))) fun _ =>
 .bind true (fun b5=>b5.length=20)
 (.mr 7 (fun g6=>g6.length=20) (List.replicate 20 ({ known:=false,n:=0 }:aH):(List aH))
 (fun g6 s8=>⟨[(10,ow 100002 g6)],[(100002,aU 39 2 aH.cells g6),(90,.it 74 7 s8)]⟩)
 (fun g9=>⟨[(10,ow 100002 g9)],[(100002,aU 39 2 aH.cells g9)]⟩)
 (fun g6 i7 =>
 .JG <|
 .r 14 (.p (i7 < 7)) fun _ =>
 .r 15 (.al (.p (bN (([0,1,2,3,4,5,6]:List Int).getD i7 0) g6.length)) (.al (.o [.dn (uj aH.E g6 ((([0,1,2,3,4,5,6]:List Int).getD i7 0).toNat) ({ known:=true,n:=([c_.file.aX.sum,c_.file.aX.parts,c_.file.aX.da.kind,c_.file.aX.pF,(c_.file.ae.getD c_.sign.toNat default).kind,c_.jh,b4]:List Int).getD i7 default }:aH))]) (.p ((([0,1,2,3,4,5,6]:List Int).getD i7 0).toNat < g6.length)))) fun _ =>
 .wn 100002 g6.length (g6.set ((([0,1,2,3,4,5,6]:List Int).getD i7 0).toNat) ({ known:=true,n:=([c_.file.aX.sum,c_.file.aX.parts,c_.file.aX.da.kind,c_.file.aX.pF,(c_.file.ae.getD c_.sign.toNat default).kind,c_.jh,b4]:List Int).getD i7 default }:aH)).length <|
 .fin (g6.set ((([0,1,2,3,4,5,6]:List Int).getD i7 0).toNat) ({ known:=true,n:=([c_.file.aX.sum,c_.file.aX.parts,c_.file.aX.da.kind,c_.file.aX.pF,(c_.file.ae.getD c_.sign.toNat default).kind,c_.jh,b4]:List Int).getD i7 default }:aH))) fun g9 =>
 .JH <|
 .fin (.inr g9))
 (fun (b5:(List aH))=>⟨[(90,.any),(10,ow 100001 b5)],[(100001,aU 39 2 aH.cells b5)]⟩) fun b5 =>
 .r 16 ((iQ c_.file.aL c_).c) fun JN =>
 .r 17 (.dep ((cG r c_.file.aX.bK).c) fun _=>(cG r c_.file.aX.JK).c) fun p24 =>
 .r 18 (.al (.o [.rP af3]) (.al (.o [.rP (af2 dB 7 ((aD .i64 c_.file.aX.flags 1) != 0))]) (.al (.o [.rP (GZ dB [7] [(aD .i64 c_.file.aX.flags 1) != 0] rfl 8 (c_.file.aX.eH == (-1)))]) (.al (.o [.rP (GZ dB [7,8] [(aD .i64 c_.file.aX.flags 1) != 0,c_.file.aX.eH == (-1)] rfl 9 ((aD .i64 c_.file.aX.flags 4) != 0))]) (.al (.o [.rP (GZ dB [7,8,9] [(aD .i64 c_.file.aX.flags 1) != 0,c_.file.aX.eH == (-1),(aD .i64 c_.file.aX.flags 4) != 0] rfl 10 ((aD .i64 c_.file.aX.flags 2) != 0))]) (.al (.o [.rP (GZ dB [7,8,9,10] [(aD .i64 c_.file.aX.flags 1) != 0,c_.file.aX.eH == (-1),(aD .i64 c_.file.aX.flags 4) != 0,(aD .i64 c_.file.aX.flags 2) != 0] rfl 11 (p24.1 != p24.2))]) (.al (.o [.rP (GZ dB [7,8,9,10,11] [(aD .i64 c_.file.aX.flags 1) != 0,c_.file.aX.eH == (-1),(aD .i64 c_.file.aX.flags 4) != 0,(aD .i64 c_.file.aX.flags 2) != 0,p24.1 != p24.2] rfl 12 JN)]) (.al (.o [.rP (GZ dB [7,8,9,10,11,12] [(aD .i64 c_.file.aX.flags 1) != 0,c_.file.aX.eH == (-1),(aD .i64 c_.file.aX.flags 4) != 0,(aD .i64 c_.file.aX.flags 2) != 0,p24.1 != p24.2,JN] rfl 13 ((aD .i64 ((c_.file.ae.getD c_.sign.toNat default).flags) 1) != 0))]) (.o [.rP (GZ dB [7,8,9,10,11,12,13] [(aD .i64 c_.file.aX.flags 1) != 0,c_.file.aX.eH == (-1),(aD .i64 c_.file.aX.flags 4) != 0,(aD .i64 c_.file.aX.flags 2) != 0,p24.1 != p24.2,JN,(aD .i64 ((c_.file.ae.getD c_.sign.toNat default).flags) 1) != 0] rfl 14 (decide (b4 > 0)))]))))))))) fun _ =>
 .bind true (fun Df=>Df.length=20)
 (.mr 8 (fun g14=>g14.length=20) (b5:(List aH))
 (fun g14 s16=>⟨[(10,ow 100005 g14)],[(100005,aU 39 2 aH.cells g14),(139,.it 114 8 s16)]⟩)
 (fun g18=>⟨[(10,ow 100005 g18)],[(100005,aU 39 2 aH.cells g18)]⟩)
 (fun g14 i15 =>
 .JG <|
 .r 20 (.p (i15 < 8)) fun _ =>
 .r 21 (.nK ((j6 (([(aD .i64 c_.file.aX.flags 1) != 0,c_.file.aX.eH == (-1),(aD .i64 c_.file.aX.flags 4) != 0,(aD .i64 c_.file.aX.flags 2) != 0,p24.1 != p24.2,JN,(aD .i64 ((c_.file.ae.getD c_.sign.toNat default).flags) 1) != 0,decide (b4 > 0)]:List Bool).getD i15 default)).c) fun x17=>.al (.p (bN (([7,8,9,10,11,12,13,14]:List Int).getD i15 0) g14.length)) (.al (.o [.dn (uj aH.E g14 ((([7,8,9,10,11,12,13,14]:List Int).getD i15 0).toNat) x17)]) (.p ((([7,8,9,10,11,12,13,14]:List Int).getD i15 0).toNat < g14.length)))) fun x17 =>
 .wn 100005 g14.length (g14.set ((([7,8,9,10,11,12,13,14]:List Int).getD i15 0).toNat) x17).length <|
 .fin (g14.set ((([7,8,9,10,11,12,13,14]:List Int).getD i15 0).toNat) x17)) fun g18 =>
 .JH <|
 .fin (.inr g18))
 (fun (Df:(List aH))=>⟨[(139,.any),(10,ow 100004 Df)],[(100004,aU 39 2 aH.cells Df)]⟩) fun Df =>
 .r 22 (.nK ((cT c_.file 0 c_.sign).c) fun LD=>.al (.p (bN (15:Int) Df.length)) (.al (.o [.dn (uj aH.E Df 15 LD)]) (.p (15 < Df.length)))) fun LD =>
 .wn 100004 Df.length (Df.set 15 LD).length <|
 .r 23 (.nK ((cT c_.file 1 c_.sign).c) fun Pk=>.al (.p (bN (16:Int) ((Df.set 15 LD).length))) (.al (.o [.dn (uj aH.E (Df.set 15 LD) 16 Pk)]) (.p (16 < (Df.set 15 LD).length)))) fun Pk =>
 .wn 100004 (Df.set 15 LD).length ((Df.set 15 LD).set 16 Pk).length <|
 .r 24 (.nK ((cT c_.file 2 c_.sign).c) fun VS=>.al (.p (bN (17:Int) (((Df.set 15 LD).set 16 Pk).length))) (.al (.o [.dn (uj aH.E ((Df.set 15 LD).set 16 Pk) 17 VS)]) (.p (17 < ((Df.set 15 LD).set 16 Pk).length)))) fun VS =>
 .wn 100004 ((Df.set 15 LD).set 16 Pk).length (((Df.set 15 LD).set 16 Pk).set 17 VS).length <|
 .r 25 (.nK ((cT c_.file 3 (bW c_.iP 0)).c) fun x22=>.al (.p (bN (18:Int) ((((Df.set 15 LD).set 16 Pk).set 17 VS).length))) (.al (.o [.dn (uj aH.E (((Df.set 15 LD).set 16 Pk).set 17 VS) 18 x22)]) (.p (18 < (((Df.set 15 LD).set 16 Pk).set 17 VS).length)))) fun x22 =>
 .wn 100004 (((Df.set 15 LD).set 16 Pk).set 17 VS).length ((((Df.set 15 LD).set 16 Pk).set 17 VS).set 18 x22).length <|
 .r 26 (.nK ((cT c_.file 4 (bW c_.iP 0)).c) fun x23=>.al (.p (bN (19:Int) (((((Df.set 15 LD).set 16 Pk).set 17 VS).set 18 x22).length))) (.al (.o [.dn (uj aH.E ((((Df.set 15 LD).set 16 Pk).set 17 VS).set 18 x22) 19 x23)]) (.p (19 < ((((Df.set 15 LD).set 16 Pk).set 17 VS).set 18 x22).length)))) fun x23 =>
 .wn 100004 ((((Df.set 15 LD).set 16 Pk).set 17 VS).set 18 x22).length (((((Df.set 15 LD).set 16 Pk).set 17 VS).set 18 x22).set 19 x23).length <|
 .fin (((((Df.set 15 LD).set 16 Pk).set 17 VS).set 18 x22).set 19 x23)))
def Ja r c_:=(mw r c_).val
theorem adE:(∀ i,i < 7→0≤([0,1,2,3,4,5,6]:List Int).getD i 0∧([0,1,2,3,4,5,6]:List Int).getD i 0 < 20)∧∀ i,i < 7→∀ j,j < 7→i≠j→(([0,1,2,3,4,5,6]:List Int).getD j 0).toNat≠(([0,1,2,3,4,5,6]:List Int).getD i 0).toNat:=by decide
theorem adF:(∀ i,i < 8→0≤([7,8,9,10,11,12,13,14]:List Int).getD i 0∧([7,8,9,10,11,12,13,14]:List Int).getD i 0 < 20)∧∀ i,i < 8→∀ j,j < 8→i≠j→(([7,8,9,10,11,12,13,14]:List Int).getD j 0).toNat≠(([7,8,9,10,11,12,13,14]:List Int).getD i 0).toNat:=by decide
theorem JO (r:ah) (c_:fR):(mw r c_).cC (fun (x:(List aH))=>x=[]∨(x.length=20∧0≤c_.sign∧c_.sign < c_.file.ae.length)):=by
  refine Sk.aP _ ?_
  unfold mw
  simp only [Sk.ct,Sk.aA,reduceCtorEq,ON,kk,kp,cG,cT,j6,dM,iQ,j5,forall_eq,maxLen]
  all_goals (repeat' first | assumption | (apply And.intro) | (intro h))
  all_goals first | trivial | assumption | omega | ((try simp only [LN] at *) <;> first | omega | (refine (ar ?_ ?_).trans ?_ <;> omega) | (simp (disch:=omega) only [ar] at *; omega) | (grind) | (simp_all; done) | (simp_all; omega))

theorem MX (r:ah) (c_:fR):(mw r c_).a6 (fun _=>True):=by
  refine Sk.aG _ ?_
  unfold mw
  simp only [Sk.gL,Sk.aA,reduceCtorEq,ON,kk,kp,Sk.cC,cG,cT,j6,dM,iQ,j5,forall_eq,maxLen]
  all_goals (repeat' first | (apply And.intro) | (intro h))
  all_goals first | trivial | assumption | omega | (have:=adE.1 _ ‹_ < 7›; (try simp only [LN] at *) <;> omega) | (have:=adF.1 _ ‹_ < 8›; (try simp only [LN] at *) <;> omega) | exact List.set_comm _ _ (adE.2 _ ‹_› _ ‹_› ‹_›) | exact List.set_comm _ _ (adF.2 _ ‹_› _ ‹_› ‹_›) | ((try simp only [LN] at *) <;> omega)

def wu r c_:=kp tok mixed Tryz.func178 [av r.cells,av c_.cells] (fun x=>lv aH.cells x) false (Ja r c_) (u0 (MX r c_)) (JO r c_)
def xr (r:ah) (c_:fR):Sk (fR × (List aH)) :=
 .r 1 ((bj c_.file c_.day).c) fun x1 =>
 .r 2 ((wu r ({ file:=x1,sign:=c_.sign,iP:=c_.iP,jh:=c_.jh,due:=c_.due,day:=c_.day }:fR)).c) fun x2 =>
 .fin (({ file:=x1,sign:=c_.sign,iP:=c_.iP,jh:=c_.jh,due:=c_.due,day:=c_.day }:fR),x2)
def aa8 r c_:=(xr r c_).val
theorem WH (r:ah) (c_:fR):(xr r c_).cC (fun (x:fR × (List aH))=>x.2=[]∨(x.2.length=20∧0≤x.1.sign∧x.1.sign < x.1.file.ae.length)):=by
  unfold xr
  try simp only [bj,wu,ai.Small,ah.Small]
  exact ET

theorem Zn (r:ah) (c_:fR) (hf:c_.file.Small):(xr r c_).a6 (fun _=>True):=by
  simp only [ai.Small,ah.Small] at hf
  unfold xr
  try simp only [bj,wu,ai.Small,ah.Small]
  exact nF

def MY r c_:=kp tok mixed Tryz.func145 [av r.cells,av c_.cells] (fun x=>.fj [av x.1.cells,lv aH.cells x.2]) false (aa8 r c_) (Zn r c_) (WH r c_)
theorem Au {α σ β:Type} (step:α→σ→β ⊕ σ) (fin:σ→β) (p:α→Bool):∀ (l:List α),(∀ x s,p x=false→step x s=.inr s)→∀ s,walk step fin (l.filter p) s=walk step fin l s
  | [],_,s=>rfl
  | x :: r,h,s=>by
    rw [List.filter_cons]
    cases hp:p x with
    | false =>
      rw [if_neg (by simp)]
      conv=>rhs; unfold walk
      rw [h x s hp]
      exact Au step fin p r h s
    | true =>
      rw [if_pos rfl]
      unfold walk
      cases step x s with
      | inl b=>rfl
      | inr s'=>exact Au step fin p r h s'
def gI (kind at_:Int) (x:Fact) (s:Unit):aH ⊕ Unit:=bif (x.kind == kind)&&(x.at_ == at_) then .inl (kQ (x.n != 0)) else .inr ()
theorem EX (f:ai) (kind at_:Int):bP f kind at_=walk (gI kind at_) (fun _=>⟨false,0⟩) f.facts ():=by
  simp only [bP,mu,Sk.j3,Sk.lf,Sk.oa,Sk.kL,Sk.qF,Sk.sA,Sk.gN,iI.G3,kk,kp,j6]
  refine (mo f.facts (fun s i=>i) (gI kind at_) id _ (fun s i hi=>?_) (fun s=>?_) (by simp) ()).trans rfl
  · rw [decide_eq_true (by omega),cond_true]
    unfold gI
    cases (((f.facts.getD i default).kind == kind)&&((f.facts.getD i default).at_ == at_)) <;> rfl
  · rw [decide_eq_false (by omega),cond_false]
theorem Yd (f:ai) (d kind s:Int) (h:0≤s∧s < (aj f d).ae.length):bP (aj f d) kind s=bP f kind s:=by
  rw [EX,EX]
  rw [gP] at h ⊢
  dsimp only at h
  refine Au _ _ _ _ (fun x u hp=>?_) ()
  have:(x.at_ == s)=false:=by
    simp only [LN] at hp ⊢
    intro e
    subst e
    rcases hp with q | q <;> omega
  unfold gI
  rw [this,Bool.and_false,cond_false]
theorem MZ {n:Nat} {g:Nat→Int} (h:∀ q,q < n→q≠0→g (q - 1)≤g q) (i:Nat):∀ k,i+k < n→g i≤g (i+k)
  | 0,_=>Int.le_refl _
  | k+1,hk=>Int.le_trans (MZ h i k (by omega)) (h (i+(k+1)) hk (by omega))
theorem Ye {α:Type} [Inhabited α] (p:α→Bool):∀ (l:List α) (i:Nat),i < l.length→(∀ q,q≤i→p (l.getD q default)=true)→i < (l.takeWhile p).length
  | [],i,h,_=>absurd h (by simp)
  | x :: r,i,h,hp=>by
    have h0:p x=true:=hp 0 (by omega)
    rw [List.takeWhile_cons,h0,if_pos rfl,List.length_cons]
    cases i with
    | zero=>omega
    | succ i=>have:=Ye p r i (by simpa using h) (fun q hq=>by have:=hp (q+1) (by omega); simpa using this); omega
theorem bu.mono {r:ah} {f:ai} (h:bu r f) {i j:Nat} (hij:i≤j) (hj:j < f.ae.length):(f.ae.getD i default).day≤(f.ae.getD j default).day:=by
  have:=MZ (n:=f.ae.length) (g:=fun q=>(f.ae.getD q default).day) (fun q hq h0=>(h.2.2.1 q hq).2.1 h0) i (j - i) (by omega)
  rwa [show i+(j - i)=j by omega] at this
theorem bu.adG {r:ah} {f:ai} (h:bu r f) {d y:Int} (h0:0≤y) (h1:y < f.ae.length) (h2:(f.ae.getD y.toNat default).day≤d):y < (aj f d).ae.length:=by
  have:y.toNat < (aj f d).ae.length:=by
    rw [gP]
    refine Ye _ _ _ (by omega) (fun q hq=>decide_eq_true ?_)
    have:=h.mono hq (by omega)
    omega
  omega
theorem UD (f:ai) (d:Int):(aj f d).aX=f.aX:=by rw [gP]
theorem xt (f:ai) (d:Int) (i:Nat) (h:i < (aj f d).ae.length):(aj f d).ae.getD i default=f.ae.getD i default:=by
  rw [gP] at h ⊢
  exact (Aq _ _ _ h).1
theorem mY (f:ai) (d:Int):(aj f d).ae.length≤f.ae.length:=by
  rw [gP]
  exact (List.takeWhile_sublist _).length_le
theorem Yf {f:ai} (h:f.pN) (d:Int):(aj f d).pN:=by
  obtain ⟨h1,h2,h3,h4⟩:=h
  have h2:=(um (P:=fun x:cJ=>nL x.sum)).1 h2
  have h3:=(um (P:=fun x:Sign=>nL x.sum)).1 h3
  have h4:=(um (P:=fun x:ba=>nL x.sum)).1 h4
  unfold ai.pN
  rw [gP]
  exact ⟨h1,(um (P:=fun x:cJ=>nL x.sum)).2 fun x hx=>h2 x (List.mem_filter.1 hx).1,(um (P:=fun x:Sign=>nL x.sum)).2 fun x hx=>h3 x ((List.takeWhile_sublist _).subset hx),(um (P:=fun x:ba=>nL x.sum)).2 fun x hx=>h4 x ((List.takeWhile_sublist _).subset hx)⟩
theorem bu.Yg {r:ah} {f:ai} (h:bu r f) (d:Int):(aj f d).pN:=Yf h.acN d
theorem Aw {f:ai} (h:f.Small) (d:Int):(aj f d).Small:=by
  have h1:=mq f d
  unfold ai.Small at h ⊢
  dsimp only at h1
  omega
theorem bu.Yh {r:ah} {f:ai} (h:bu r f) (d:Int):∀ i,i < (aj f d).ae.length→(((aj f d).ae.getD i default).kind=3∨((aj f d).ae.getD i default).kind=4)→0≤((aj f d).ae.getD i default).for_∧((aj f d).ae.getD i default).for_ < (i:Int):=by
  intro i hi
  rw [xt f d i hi]
  have:=mY f d
  exact (h.2.2.1 i (by omega)).2.2.2.2.2.2.2.2
theorem bu.aa9 {r:ah} {f:ai} (h:bu r f) (d:Int) {y:Int} (h0:0≤y) (h1:y < (aj f d).ae.length):0≤((aj f d).ae.getD y.toNat default).dS∧((aj f d).ae.getD y.toNat default).dS < (r.bU.length:Int):=by
  rw [xt f d y.toNat (by omega)]
  have:=mY f d
  exact (h.2.2.1 y.toNat (by omega)).1
def lg (s:List Int) (v:Int):Sk (Int) :=
 .bind true (fun b1=>∀ q,q < s.length→(s.getD q default == v)=false)
 (.loop (default:Sum (Int) (Unit)) (fun i2=>∀ q,q < i2→(s.getD q default == v)=false) (fun i2=>s.length - i2) (0:Nat)
 (fun (i2:Nat)=>⟨[(8,iv ((i2:Nat):Int))],[]⟩) fun i2 =>
 .lt 0 0 i2 s.length
 (.r 4 (.p (bN ((i2:Nat):Int) s.length)) fun _ =>
 .br (v == (s.getD i2 default))
 (.fin (.inl (.inl ((i2:Nat):Int))))
 (.nx 6 8 i2 (i2+1)))
 (.fin (.inl (.inr ()))))
 (fun (_:Unit)=>⟨[],[]⟩) fun _ =>
 .fin (-1)
def RZ s v:=(lg s v).val
theorem Ha (s:List Int) (v:Int):(lg s v).cC (fun (x:Int)=>(x = -1∧∀ q,q < s.length→(s.getD q default == v)=false)∨(0≤x∧x < s.length∧(s.getD x.toNat default == v)=true∧∀ q,(q:Nat) < x.toNat→(s.getD q default == v)=false)):=by
  unfold lg
  exact ET

theorem JP (s:List Int) (v:Int):(lg s v).a6 (fun _=>True):=by
  unfold lg
  exact nF

def uq s v:=kp tok mixed Tryz.func151 [lv bS s,iv v] (fun x=>iv x) true (RZ s v) (u0 (JP s v)) (Ha s v)
def ic (s:List Int) (v:Int):Sk (Bool) :=
 .r 1 ((uq s v).c) fun x1 =>
 .fin (decide (x1≥0))
def bV s v:=(ic s v).val
theorem sU (s:List Int) (v:Int):(ic s v).cC (fun (x:Bool)=>(x=true↔∃ q,q < s.length∧(s.getD q default == v)=true)):=by
  unfold ic
  try simp only [uq]
  exact ET

theorem Ax (s:List Int) (v:Int):(fun (x:Bool)=>(x=true↔∃ q,q < s.length∧(s.getD q default == v)=true)) (bV s v):=have h:=Sk.cI _ (sU s v); h
theorem Dg (s:List Int) (v:Int):(ic s v).a6 (fun _=>True):=by
  unfold ic
  try simp only [uq]
  exact od

def aC s v:=kp tok mixed Tryz.func117 [lv bS s,iv v] (fun x=>bv x) true (bV s v) (u0 (Dg s v)) (sU s v)
def rr (ask:Int):Sk (Int × Bool) :=
 .br ((decide (ask < 0))||(decide (ask≥22)))
 (.fin (0,false))
 (.r 3 (.al (.o [.dn (dH dV [6,7,10,12,13,14,15,16,20,21])]) ((aC [6,7,10,12,13,14,15,16,20,21] ask).c)) fun x1 =>
 .br x1
 (.fin (0,true))
 (.fin (1,true)))
def WI ask:=(rr ask).val
theorem Pl (ask:Int):(rr ask).a6 (fun _=>True):=by
  unfold rr
  try simp only [aC]
  exact od

def kR ask:=kk tok mixed Tryz.func146 [iv ask] (fun x=>.fj [iv x.1,bv x.2]) true (rr ask) (WI ask) (u0 (Pl ask))
def ru (r:ah) (forum:Int) (c_:fR):Sk ((List Int)) :=
 .r 1 (.p (bN c_.sign c_.file.ae.length)) fun _ =>
 .br ((((decide (((c_.file.ae.getD c_.sign.toNat default).dS) < 0))||(decide (((c_.file.ae.getD c_.sign.toNat default).dS)≥((r.bU.length:Nat):Int))))||(decide (forum < 0)))||(decide (forum≥((r.aN.length:Nat):Int))))
 (.fin [])
 (.r 4 (.al (.o [.dn (mkC dV 5 0)]) (.p (mkP (5:Int) 8))) fun _ =>
 .r 5 (.al (.p (bN (0:Int) ((List.replicate 5 (0:Int)).length))) (.al (.o [.dn (uj dV (List.replicate 5 (0:Int)) 0 forum)]) (.p (0 < (List.replicate 5 (0:Int)).length)))) fun _ =>
 .wn 42 (List.replicate 5 (0:Int)).length ((List.replicate 5 (0:Int)).set 0 forum).length <|
 .r 6 (.nK ((cG r ((c_.file.ae.getD c_.sign.toNat default).bK)).c) fun x1=>.al (.p (bN (1:Int) (((List.replicate 5 (0:Int)).set 0 forum).length))) (.al (.o [.dn (uj dV ((List.replicate 5 (0:Int)).set 0 forum) 1 x1)]) (.p (1 < ((List.replicate 5 (0:Int)).set 0 forum).length)))) fun x1 =>
 .wn 42 ((List.replicate 5 (0:Int)).set 0 forum).length (((List.replicate 5 (0:Int)).set 0 forum).set 1 x1).length <|
 .r 7 (.nK ((cG r c_.file.aX.JK).c) fun x2=>.al (.p (bN (2:Int) ((((List.replicate 5 (0:Int)).set 0 forum).set 1 x1).length))) (.al (.o [.dn (uj dV (((List.replicate 5 (0:Int)).set 0 forum).set 1 x1) 2 x2)]) (.p (2 < (((List.replicate 5 (0:Int)).set 0 forum).set 1 x1).length)))) fun x2 =>
 .wn 42 (((List.replicate 5 (0:Int)).set 0 forum).set 1 x1).length ((((List.replicate 5 (0:Int)).set 0 forum).set 1 x1).set 2 x2).length <|
 .r 8 (.nK ((cG r c_.file.aX.bK).c) fun x3=>.al (.p (bN (3:Int) (((((List.replicate 5 (0:Int)).set 0 forum).set 1 x1).set 2 x2).length))) (.al (.o [.dn (uj dV ((((List.replicate 5 (0:Int)).set 0 forum).set 1 x1).set 2 x2) 3 x3)]) (.p (3 < ((((List.replicate 5 (0:Int)).set 0 forum).set 1 x1).set 2 x2).length)))) fun x3 =>
 .wn 42 ((((List.replicate 5 (0:Int)).set 0 forum).set 1 x1).set 2 x2).length (((((List.replicate 5 (0:Int)).set 0 forum).set 1 x1).set 2 x2).set 3 x3).length <|
 .r 9 (.al (.p (bN ((c_.file.ae.getD c_.sign.toNat default).dS) r.bU.length)) (.nK ((cG r ((r.bU.getD (((c_.file.ae.getD c_.sign.toNat default).dS).toNat) default).bK)).c) fun x4=>.al (.p (bN (4:Int) ((((((List.replicate 5 (0:Int)).set 0 forum).set 1 x1).set 2 x2).set 3 x3).length))) (.al (.o [.dn (uj dV (((((List.replicate 5 (0:Int)).set 0 forum).set 1 x1).set 2 x2).set 3 x3) 4 x4)]) (.p (4 < (((((List.replicate 5 (0:Int)).set 0 forum).set 1 x1).set 2 x2).set 3 x3).length))))) fun x4 =>
 .wn 42 (((((List.replicate 5 (0:Int)).set 0 forum).set 1 x1).set 2 x2).set 3 x3).length ((((((List.replicate 5 (0:Int)).set 0 forum).set 1 x1).set 2 x2).set 3 x3).set 4 x4).length <|
 .r 10 ((aC ((((((List.replicate 5 (0:Int)).set 0 forum).set 1 x1).set 2 x2).set 3 x3).set 4 x4) (-1)).c) fun x5 =>
 .br x5
 (.fin [])
 (.fin ((((((List.replicate 5 (0:Int)).set 0 forum).set 1 x1).set 2 x2).set 3 x3).set 4 x4)))
def WJ r forum c_:=(ru r forum c_).val
theorem Pm (r:ah) (forum:Int) (c_:fR) (hs:0≤c_.sign∧c_.sign < c_.file.ae.length):(ru r forum c_).a6 (fun _=>True):=by
  unfold ru
  try simp only [cG,aC]
  exact nF

def yz r forum c_:=kk tok mixed Tryz.func147 [av r.cells,iv forum,av c_.cells] (fun x=>.d (bif x.isEmpty then .v (.slice none 0 0) else mR bS x)) false (ru r forum c_) (WJ r forum c_) (Pm r forum c_)
def jP (o:Int) (v:Int):Sk (Bool) :=
 .fin ((decide (o < 0))||(decide (o≥v)))
def dY o v:=(jP o v).val
theorem nB (o:Int) (v:Int):dY o v=((decide (o < 0))||(decide (o≥v))):=rfl
theorem B0 (o:Int) (v:Int):(jP o v).a6 (fun _=>True):=by
  unfold jP
  exact od

def oX o v:=kk tok mixed Tryz.func207 [iv o,.ref [dI v]] (fun x=>bv x) true (jP o v) (dY o v) (u0 (B0 o v))
def dZ (s:List Int) (v:Int):Sk (Int) :=
 .bind true (fun b1=>∀ q,q < s.length→dY (s.getD q default) v=false)
 (.loop (default:Sum (Int) (Unit)) (fun i2=>∀ q,q < i2→dY (s.getD q default) v=false) (fun i2=>s.length - i2) (0:Nat)
 (fun (i2:Nat)=>⟨[(8,iv ((i2:Nat):Int))],[]⟩) fun i2 =>
 .lt 0 0 i2 s.length
 (.r 4 (.al (.p (bN ((i2:Nat):Int) s.length)) ((oX (s.getD i2 default) v).c)) fun x3 =>
 .br x3
 (.fin (.inl (.inl ((i2:Nat):Int))))
 (.nx 6 8 i2 (i2+1)))
 (.fin (.inl (.inr ()))))
 (fun (_:Unit)=>⟨[],[]⟩) fun _ =>
 .fin (-1)
def Ay s v:=(dZ s v).val
theorem wv (s:List Int) (v:Int):(dZ s v).cC (fun (x:Int)=>(x = -1∧∀ q,q < s.length→dY (s.getD q default) v=false)∨(0≤x∧x < s.length∧dY (s.getD x.toNat default) v=true∧∀ q,(q:Nat) < x.toNat→dY (s.getD q default) v=false)):=by
  unfold dZ
  try simp only [oX,nB]
  exact X9

theorem xu (s:List Int) (v:Int):(dZ s v).a6 (fun _=>True):=by
  unfold dZ
  try simp only [oX,nB]
  exact GD

def kS s v:=kp tok mixed Tryz.func235 [lv bS s,.fn 207 [.ref [dI v]]] (fun x=>iv x) true (Ay s v) (u0 (xu s v)) (wv s v)
def di (s:List Int) (v:Int):Sk (Bool) :=
 .r 1 ((kS s v).c) fun x1 =>
 .fin (decide (x1≥0))
def xw s v:=(di s v).val
theorem tl (s:List Int) (v:Int):(di s v).cC (fun (x:Bool)=>(x=true↔∃ q,q < s.length∧dY (s.getD q default) v=true)):=by
  unfold di
  try simp only [kS]
  exact ET

theorem ur (s:List Int) (v:Int):(di s v).a6 (fun _=>True):=by
  unfold di
  try simp only [kS]
  exact od

def fk s v:=kp tok mixed Tryz.func206 [lv bS s,.fn 207 [.ref [dI v]]] (fun x=>bv x) true (xw s v) (u0 (ur s v)) (tl s v)
def g7 (r:ah) (order:Int) (ask:Int) (places:List Int):Sk (Bool) :=
 .br (((((decide (order < 0))||(decide (order≥((r.aN.length:Nat):Int))))||(decide (ask < 0)))||(decide (ask≥22)))||(((places.length:Nat):Int) != 5))
 (.fin false)
 (.r 4 ((fk places ((r.aN.length:Nat):Int)).c) fun x1 =>
 .fin (!x1))
def nM r order ask places:=(g7 r order ask places).val
theorem EY (r:ah) (order:Int) (ask:Int) (places:List Int):(g7 r order ask places).cC (fun (x:Bool)=>x=true→0≤order∧order < r.aN.length∧places.length=5∧∀ i,i < 5→0≤places.getD i default∧places.getD i default < r.aN.length):=by
  refine Sk.aP _ ?_
  unfold g7
  simp only [Sk.ct,Sk.aA,reduceCtorEq,ON,kk,kp,fk,maxLen]
  all_goals (repeat' first | (apply And.intro) | (intro h))
  all_goals first | trivial | (simp at *; done) | (simp only [LN] at *; omega) | (simp only [LN] at *; grind [nB])

theorem Hb (r:ah) (order:Int) (ask:Int) (places:List Int):(g7 r order ask places).a6 (fun _=>True):=by
  unfold g7
  try simp only [fk]
  exact od

def iX r order ask places:=kp tok mixed Tryz.func179 [av r.cells,iv order,iv ask,lv bS places] (fun x=>bv x) true (nM r order ask places) (u0 (Hb r order ask places)) (EY r order ask places)
def ji (r:ah) (order:Int) (ask:Int) (places:List Int):Sk (Int × Bool) :=
 .r 1 ((iX r order ask places).c) fun x1 =>
 .br (!x1)
 (.fin ((-1),false))
 (.r 3 (.p (bN order r.aN.length)) fun _ =>
 .bt
 (.loop (default:Sum (Int × Bool) (Unit)) (fun i3=>i3≤((r.aN.getD order.toNat default).bG).length) (fun i3=>((r.aN.getD order.toNat default).bG).length - i3) (0:Nat)
 (fun (i3:Nat)=>⟨[(25,iv ((i3:Nat):Int))],[]⟩) fun i3 =>
 .lt 23 0 i3 (((r.aN.getD order.toNat default).bG).length)
 (.r 5 (.p (bN ((i3:Nat):Int) (((r.aN.getD order.toNat default).bG).length))) fun _ =>
 .br ((((((r.aN.getD order.toNat default).bG).getD i3 default).ask) == ask)&&(((((r.aN.getD order.toNat default).bG).getD i3 default).cz) != 0))
 (.r 7 (.p (bN ((((r.aN.getD order.toNat default).bG).getD i3 default).cz) places.length)) fun _ =>
 .fin (.inl (.inl (places.getD (((((r.aN.getD order.toNat default).bG).getD i3 default).cz).toNat) default,(((r.aN.getD order.toNat default).bG).getD i3 default).whole))))
 (.nx 8 25 i3 (i3+1)))
 (.fin (.inl (.inr ()))))
 (fun (_:Unit)=>⟨[],[]⟩) fun _ =>
 .fin (order,false))
def M0 r order ask places:=(ji r order ask places).val
theorem QM {l:List Int} {n:Nat} (h0:0 < n) (h:∀ i,i < 5→0≤l.getD i default∧l.getD i default < n) (hl:l.length=5) (k:Nat):0≤l.getD k default∧l.getD k default < n:=by
  by_cases c:k < 5
  · exact h k c
  · have:l.getD k default=0:=by simp [List.getD,List.getElem?_eq_none (by omega:l.length≤k)]
    rw [this]; omega
theorem sV {r:ah} {a b ask:Int} {places:List Int} (h:nM r a ask places=true) (hb:0≤b∧b < r.aN.length):nM r b ask places=true:=by
  simp only [nM,g7,Sk.val,iI.c,kk,kp,fk] at h ⊢
  revert h
  simp only [Bool.cond_eq_ite]
  split
  · intro h; cases h
  · rename_i h1
    intro h
    rw [if_neg]
    · exact h
    · simp only [Bool.or_eq_true,decide_eq_true_eq,not_or] at h1 ⊢
      exact ⟨⟨⟨⟨by omega,by omega⟩,h1.1.1.2⟩,h1.1.2⟩,h1.2⟩
theorem Dh (r:ah) (order:Int) (ask:Int) (places:List Int):(ji r order ask places).cC (fun (x:Int × Bool)=>nM r order ask places=true→0≤x.1∧x.1 < r.aN.length):=by
  refine Sk.aP _ ?_
  unfold ji
  simp only [Sk.ct,Sk.aA,reduceCtorEq,ON,kk,kp,iX,ah.bD,maxLen]
  all_goals (repeat' first | (apply And.intro) | (intro h))
  all_goals first | trivial | omega | (simp only [LN] at *; first | omega | (exact (QM (n:=r.aN.length) (by grind) (by grind) (by grind) _).1) | (exact (QM (n:=r.aN.length) (by grind) (by grind) (by grind) _).2) | grind)

theorem EZ (r:ah) (order:Int) (ask:Int) (places:List Int) (hb:r.bD):(ji r order ask places).a6 (fun _=>True):=by
  simp only [ah.bD] at hb
  unfold ji
  try simp only [iX,ah.bD]
  exact nF

def qV r order ask places:=kp tok mixed Tryz.func180 [av r.cells,iv order,iv ask,lv bS places] (fun x=>.fj [iv x.1,bv x.2]) true (M0 r order ask places) (EZ r order ask places) (Dh r order ask places)
def pP (n:Nat) (l:List Int):Prop:=l.length≠0∧l.Nodup∧∀ x,x∈l→0≤x∧x < n
theorem pP.le {n:Nat} {l:List Int} (h:pP n l):l.length≤n:=by
  have h1:=List.Nodup.length_le_of_subset (l₁:=l) (l₂:=(List.range n).map Int.ofNat) h.2.1 (fun x hx=>by
    have:=h.2.2 x hx
    exact List.mem_map.2 ⟨x.toNat,List.mem_range.2 (by omega),by simp; omega⟩)
  simpa using h1
theorem pP.get {n:Nat} {l:List Int} (h:pP n l) (k:Nat):0≤l.getD k default∧l.getD k default < n:=by
  by_cases hk:k < l.length
  · have e:l.getD k default=l[k]:=by simp [List.getD,hk]
    rw [e]
    exact h.2.2 _ (List.getElem_mem hk)
  · have e:l.getD k default=0:=by simp [List.getD,List.getElem?_eq_none (by omega:l.length≤k)]
    have:=h.le
    have:=h.1
    rw [e]
    omega
theorem pP.adH {n:Nat} {l:List Int} (h:pP n l) {x:Int} (hx:0≤x∧x < n):∀ y,y∈l++[x]→0≤y∧y < n:=fun y hy=>by
  rcases List.mem_append.1 hy with h1 | h1
  · exact h.2.2 y h1
  · simp only [List.mem_singleton] at h1; subst h1; exact hx
theorem pP.snoc {n:Nat} {l:List Int} (h:pP n l) {x:Int} (hx:0≤x∧x < n) (hn:¬ ∃ q,q < l.length∧(l.getD q default == x)=true):pP n (l++[x]):=by
  refine ⟨by simp,?_,h.adH hx⟩
  refine List.nodup_append.2 ⟨h.2.1,by simp,fun a ha b hb e=>?_⟩
  simp only [List.mem_singleton] at hb
  subst hb; subst e
  obtain ⟨q,hq,e⟩:=List.getElem_of_mem ha
  exact hn ⟨q,hq,by simp [List.getD,hq,e]⟩
theorem pP.one {n:Nat} {x:Int} (hx:0≤x∧x < n):pP n [x]:=⟨by simp,by simp,fun y hy=>by simp only [List.mem_singleton] at hy; subst hy; exact hx⟩
def lh (r:ah) (forum:Int) (ask:Int) (places:List Int):Sk ((List Int) × Int) :=
 .r 1 (.nK ((iX r forum ask places).c) fun x1=>.wh (!x1) false (.p (bN (0:Int) places.length))) fun x1 =>
 .br ((!x1)||((places.getD 0 default) != forum))
 (.fin ([],1))
 (.r 3 (.o [.dn (dH dV [forum])]) fun _ =>
 .loop (default:(List Int) × Int) (fun i2=>pP r.aN.length i2) (fun i2=>r.aN.length+1 - i2.length) ([forum]:(List Int))
 (fun (i2:(List Int))=>⟨[(10,ow 100001 i2)],[(100001,aU 3 1 bS i2)]⟩) fun i2 =>
 .r 4 (.al (.p (bN (au (((i2.length:Nat):Int) - 1)) i2.length)) (.p ((au (((i2.length:Nat):Int) - 1)).toNat < i2.length))) fun _ =>
 .r 5 ((qV r (i2.getD ((au (((i2.length:Nat):Int) - 1)).toNat) default) ask places).c) fun x3 =>
 .br (x3.1 == (i2.getD ((au (((i2.length:Nat):Int) - 1)).toNat) default))
 (.fin (.inl (i2,0)))
 (.r 8 ((aC i2 x3.1).c) fun x4 =>
 .r 9 (.al (.o [.dn (dH dV [x3.1])]) (.al (.o [.dn (kE dV i2 [x3.1])]) (.al (.t (dV.mT [x3.1])) (.p (vE i2.length [x3.1].length 8))))) fun _ =>
 .r 10 (.wh (!x3.2) false (.wh x4 true (.p (bN x3.1 r.aN.length)))) fun _ =>
 .br ((!x3.2)||(x4&&((r.aN.getD x3.1.toNat default).BA)))
 (.fin (.inl (i2++[x3.1],0)))
 (.br x4
 (.fin (.inl (i2++[x3.1],12)))
 (.fin (.inr (i2++[x3.1]))))))
def R0 r forum ask places:=(lh r forum ask places).val
theorem Hc (r:ah) (forum:Int) (ask:Int) (places:List Int):(lh r forum ask places).cC (fun (x:(List Int) × Int)=>x.2=0→x.1.length≠0∧(∀ y,y∈x.1→0≤y∧y < r.aN.length)∧x.1.length≤r.aN.length+1):=by
  refine Sk.aP _ ?_
  unfold lh
  simp only [Sk.ct,Sk.aA,reduceCtorEq,ON,kk,kp,qV,iX,aC,ai.Small,ah.Small,ah.bD,maxLen]
  intro x hx hp
  refine ⟨fun _ h=>by omega,fun hc _=>?_⟩
  have Bu:x=true:=by simp at hc; exact hc.1
  obtain ⟨h1,h2,h3,h4⟩:=hp Bu
  refine ⟨pP.one ⟨h1,h2⟩,fun i hi _ y hy hy2=>?_⟩
  have hy3:=hy2 (sV (hx ▸ Bu) (hi.get _))
  have hle:=hi.le
  refine ⟨fun _=>⟨hi.1,hi.2.2,by omega⟩,fun _ z hz hz2 _ _=>⟨fun _=>⟨by simp,hi.adH hy3,by simp; omega⟩,fun _=>⟨fun _ h=>by omega,fun hz3=>?_⟩⟩⟩
  have hs:=hi.snoc hy3 (by rw [← hz2,hz3]; simp)
  have:=hs.le
  simp only [List.length_append,List.length_cons,List.length_nil] at this ⊢
  exact ⟨hs,by omega⟩

theorem JQ (r:ah) (forum:Int) (ask:Int) (places:List Int) (hb:r.bD) (hr:r.Small):(lh r forum ask places).a6 (fun _=>True):=by
  simp only [ai.Small,ah.Small,ah.bD] at hb
  simp only [ai.Small,ah.Small,ah.bD] at hr
  refine Sk.aG _ ?_
  unfold lh
  simp only [Sk.gL,Sk.aA,reduceCtorEq,ON,kk,kp,qV,iX,aC,ai.Small,ah.Small,ah.bD,maxLen]
  refine ⟨fun x hx hp Bu=>?_,fun x hx hp hc _=>?_⟩
  · have:=hp (by simpa using Bu); omega
  have Bu:x=true:=by simp at hc; exact hc.1
  obtain ⟨h1,h2,h3,h4⟩:=hp Bu
  refine ⟨pP.one ⟨h1,h2⟩,fun i hi=>?_⟩
  have hle:=hi.le
  have rl:=hi.1
  have hw:au ((i.length:Int) - 1)=(i.length:Int) - 1:=ar (by omega) (by omega)
  rw [hw]
  refine ⟨⟨⟨by omega,by omega⟩,by omega⟩,fun _=>⟨hb,fun y hy hy2 ai4 z hz hz2=>?_⟩⟩
  have hy3:=hy2 (sV (hx ▸ Bu) (hi.get _))
  refine ⟨⟨by simp only [List.length_cons,List.length_nil]; omega,by simp only [List.length_cons,List.length_nil]; omega⟩,fun _=>⟨fun _ _=>hy3,fun _ _ hz3=>?_⟩⟩
  have hs:=hi.snoc hy3 (by rw [← hz2,hz3]; simp)
  have:=hs.le
  simp only [List.length_append,List.length_cons,List.length_nil] at this ⊢
  exact ⟨hs,by omega⟩

def uu r forum ask places:=kp tok mixed Tryz.func148 [av r.cells,iv forum,iv ask,lv bS places] (fun x=>.fj [lv bS x.1,iv x.2]) false (R0 r forum ask places) (u2 (JQ r forum ask places)) (Hc r forum ask places)
theorem Yi {n:Nat} {l:List Int} (h1:l.length≠0) (h2:∀ y,y∈l→0≤y∧y < (n:Int)) (k:Nat):0≤l.getD k default∧l.getD k default < n:=by
  by_cases hk:k < l.length
  · have e:l.getD k default=l[k]:=by simp [List.getD,hk]
    rw [e]
    exact h2 _ (List.getElem_mem hk)
  · have e:l.getD k default=0:=by simp [List.getD,List.getElem?_eq_none (by omega:l.length≤k)]
    have h3:=h2 l[0] (List.getElem_mem (by omega))
    rw [e]
    omega
def rW (r:ah) (forum:Int) (aR:Int) (c_:fR):Sk (wo × (List aH)) :=
 .r 2 ((MY r c_).c) fun x1 =>
 .br (((x1.2.length:Nat):Int) == 0)
 (.fin (({ cell:=({ known:=false,n:=0 }:aH),order:=(-1),path:=[],err:=1 }:wo),[]))
 (.r 5 ((kR aR).c) fun x2 =>
 .br (!x2.2)
 (.fin (({ cell:=({ known:=false,n:=0 }:aH),order:=(-1),path:=[],err:=1 }:wo),[]))
 (.r 8 ((yz r forum x1.1).c) fun x3 =>
 .Uj 14 x3.isEmpty nv (lv bS x3)
 (.JG <|
 .fin (({ cell:=({ known:=false,n:=0 }:aH),order:=(-1),path:=[],err:=1 }:wo),[]))
 (.r 9 (.p (x3.length≠0)) fun _ =>
 .JH <|
 .r 11 ((uu r forum aR x3).c) fun x4 =>
 .br (x4.2 == 0)
 (.r 13 (.p (bN (au (((x4.1.length:Nat):Int) - 1)) x4.1.length)) fun _ =>
 .fin (({ cell:=({ known:=false,n:=0 }:aH),order:=x4.1.getD ((au (((x4.1.length:Nat):Int) - 1)).toNat) default,path:=x4.1,err:=x4.2 }:wo),x1.2))
 (.fin (({ cell:=({ known:=false,n:=0 }:aH),order:=(-1),path:=x4.1,err:=x4.2 }:wo),x1.2)))))
def aba r forum aR c_:=(rW r forum aR c_).val
theorem R3 (r:ah) (forum:Int) (aR:Int) (c_:fR):(rW r forum aR c_).cC (fun (x:wo × (List aH))=>x.1.order = -1∨(0≤x.1.order∧x.1.order < r.aN.length∧x.2.length=20)):=by
  refine Sk.aP _ ?_
  unfold rW
  simp only [Sk.ct,Sk.aA,reduceCtorEq,ON,kk,kp,MY,yz,uu,kR,ai.Small,ah.Small,ah.bD,maxLen]
  intro x hx hp
  refine ⟨fun _=>.inl trivial,fun hc x1 _=>⟨fun _=>.inl trivial,fun _ x2 _=>⟨fun _=>.inl trivial,fun _ _ x4 _ hl=>⟨fun h0 _=>.inr ?_,fun _=>.inl trivial⟩⟩⟩⟩
  obtain ⟨h1,h2,h3⟩:=hl (by simpa using h0)
  have h20:x.2.length=20:=by
    rcases hp with h | h
    · rw [h] at hc; simp at hc
    · exact h.1
  exact ⟨(Yi h1 h2 _).1,(Yi h1 h2 _).2,h20⟩

theorem UE (r:ah) (forum:Int) (aR:Int) (c_:fR) (hf:c_.file.Small) (hb:r.bD) (hr:r.Small):(rW r forum aR c_).a6 (fun _=>True):=by
  simp only [ai.Small,ah.Small,ah.bD] at hf
  simp only [ai.Small,ah.Small,ah.bD] at hb
  simp only [ai.Small,ah.Small,ah.bD] at hr
  refine Sk.aG _ ?_
  unfold rW
  simp only [Sk.gL,Sk.aA,reduceCtorEq,ON,kk,kp,MY,yz,uu,kR,ai.Small,ah.Small,ah.bD,maxLen]
  refine ⟨hf,fun x hx hp hc x1 _ _=>?_⟩
  have hp':x.2.length=20∧0≤x.1.sign∧x.1.sign < x.1.file.ae.length:=by
    rcases hp with h | h
    · rw [h] at hc; simp at hc
    · exact h
  refine ⟨hp'.2,fun x2 _ he=>⟨fun h=>by simp [List.length_eq_zero_iff.1 h] at he,fun _=>⟨⟨hb,hr⟩,fun x4 _ hl h0=>?_⟩⟩⟩
  obtain ⟨h1,h2,h3⟩:=hl (by simpa using h0)
  rw [ar (by omega) (by omega)]
  omega

def M1 r forum aR c_:=kp tok mixed Tryz.func114 [av r.cells,iv forum,iv aR,av c_.cells] (fun x=>.fj [av x.1.cells,lv aH.cells x.2]) false (aba r forum aR c_) (u3 (UE r forum aR c_)) (R3 r forum aR c_)
def mZ (r:kF) (v:Int):Sk (Bool) :=
 .fin (r.ask == v)
def jG r v:=(mZ r v).val
theorem xy (r:kF) (v:Int):jG r v=(r.ask == v):=rfl
theorem Hd (r:kF) (v:Int):(mZ r v).a6 (fun _=>True):=by
  unfold mZ
  exact od

def sB r v:=kk tok mixed Tryz.func182 [av r.cells,.ref [dI v]] (fun x=>bv x) true (mZ r v) (jG r v) (u0 (Hd r v))
def ed (s:List kF) (v:Int):Sk (Int) :=
 .bind true (fun b1=>∀ q,q < s.length→jG (s.getD q default) v=false)
 (.loop (default:Sum (Int) (Unit)) (fun i2=>∀ q,q < i2→jG (s.getD q default) v=false) (fun i2=>s.length - i2) (0:Nat)
 (fun (i2:Nat)=>⟨[(8,iv ((i2:Nat):Int))],[]⟩) fun i2 =>
 .lt 0 0 i2 s.length
 (.r 4 (.al (.p (bN ((i2:Nat):Int) s.length)) ((sB (s.getD i2 default) v).c)) fun x3 =>
 .br x3
 (.fin (.inl (.inl ((i2:Nat):Int))))
 (.nx 6 8 i2 (i2+1)))
 (.fin (.inl (.inr ()))))
 (fun (_:Unit)=>⟨[],[]⟩) fun _ =>
 .fin (-1)
def Az s v:=(ed s v).val
theorem wx (s:List kF) (v:Int):(ed s v).cC (fun (x:Int)=>(x = -1∧∀ q,q < s.length→jG (s.getD q default) v=false)∨(0≤x∧x < s.length∧jG (s.getD x.toNat default) v=true∧∀ q,(q:Nat) < x.toNat→jG (s.getD q default) v=false)):=by
  unfold ed
  try simp only [sB,xy]
  exact X9

theorem xz (s:List kF) (v:Int):(ed s v).a6 (fun _=>True):=by
  unfold ed
  try simp only [sB,xy]
  exact GD

def pQ s v:=kp tok mixed Tryz.func181 [lv kF.cells s,.fn 182 [.ref [dI v]]] (fun x=>iv x) true (Az s v) (u0 (xz s v)) (wx s v)
def sC (rv:Term→Int→Int) (rp:Term→Int→Prop) (rf:∀ (t:Term) (level:Int),rp t level→eC Tryz.prog 208 [av t.cells,iv level] [] (iv (rv t level)) []) (t:Term) (level:Int):iI (Int):=⟨Tryz.prog,208,[av t.cells,iv level],fun x=>iv x,true,rv t level,rp t level,rf t level,fun _=>True,trivial⟩
def dN (rv:Term→Int→Int) (rp:Term→Int→Prop) (rf:∀ (t:Term) (level:Int),rp t level→eC Tryz.prog 208 [av t.cells,iv level] [] (iv (rv t level)) []) (t:Term) (level:Int):Sk (Int) :=
 .br (decide (level > 8))
 (.fin 61)
 (.bind true (fun b1=>∀ B:Int,1≤B→B≤1000000→(∀ q,q < t.args.length→1≤rv (t.args.getD q default) (au (level+1))∧rv (t.args.getD q default) (au (level+1))≤B)→(1:Int)≤b1∧b1≤60+B∧(b1≤60→t.args.length≤60∧∀ q,q < t.args.length→rv (t.args.getD q default) (au (level+1))≤60))
 (.loop (default:Sum (Int) (Int)) (fun i2=>i2.2≤t.args.length∧(∀ B:Int,1≤B→B≤1000000→(∀ q,q < t.args.length→1≤rv (t.args.getD q default) (au (level+1))∧rv (t.args.getD q default) (au (level+1))≤B)→(1+(i2.2:Int))≤i2.1∧i2.1≤60∧∀ q,q < i2.2→rv (t.args.getD q default) (au (level+1))≤60)) (fun i2=>t.args.length - i2.2) ((1,0):Int × Nat)
 (fun (i2:Int × Nat)=>⟨[(5,iv i2.1),(13,iv ((i2.2:Nat):Int))],[]⟩) fun i2 =>
 .lt 11 0 i2.2 t.args.length
 (.r 6 (.al (.p (bN ((i2.2:Nat):Int) t.args.length)) (.o [.cast 15 (acH (Term.MR (t.args.getD i2.2 default)))])) fun _ =>
 .r 7 ((sC rv rp rf (t.args.getD i2.2 default) (au (level+1))).c) fun x3 =>
 .br (decide ((au (i2.1+x3)) > 60))
 (.fin (.inl (.inr (au (i2.1+x3)))))
 (.nx 9 13 i2.2 (au (i2.1+x3),i2.2+1)))
 (.fin (.inl (.inr i2.1))))
 (fun (b1:Int)=>⟨[(5,iv b1)],[]⟩) fun b1 =>
 .fin b1)
def bI:Nat→Term→Int→Int
  | 0,_,_=>default
  | fu+1,t,level=>(dN (bI fu) (fun _ _=>False) (fun _ _=>fun h=>h.elim) t level).val
/-- no node has too many parts -/
inductive He:Term→Prop
  | mk {t:Term} (h:t.args.length≤60) (h2:∀ q,q < t.args.length→He (t.args.getD q default)):He t
theorem JR (fu:Nat) (rf:∀ (t:Term) (level:Int),t.depth≤fu∧True→eC Tryz.prog 208 [av t.cells,iv level] [] (iv (bI fu t level)) []) (t:Term) (level:Int) (hm:t.depth≤fu+1):(dN (bI fu) (fun t level=>t.depth≤fu∧True) rf t level).a6 (fun _=>True):=by
  refine Sk.aG _ ?_
  unfold dN
  simp only [Sk.gL,Sk.aA,reduceCtorEq,ON,kk,kp,sC,maxLen]
  intro WK
  have WK:level≤8:=by simp only [LN] at WK; exact WK
  refine ⟨⟨Nat.zero_le _,fun B _ _ _=>⟨by omega,by omega,fun q hq=>absurd hq (by omega)⟩⟩,fun i hi hlen=>⟨fun hc=>⟨⟨by omega,of_decide_eq_true hc⟩,fun _=>⟨?_,fun x hx=>⟨fun hb B b1 b2 hq=>?_,fun hb _=>⟨?_,⟨?_,fun B b1 b2 hq=>?_⟩,?_⟩⟩⟩⟩,fun hc B b1 b2 hq=>?_⟩⟩
  all_goals (try simp only [LN] at hc)
  all_goals (try simp only [LN] at hb)
  · have:=t.kN i.2 (by omega); omega
  · subst hx
    have q1:=hi.2 B b1 b2 hq
    have q2:=hq i.2 (by omega)
    rw [ar (n:=i.1+_) (by omega) (by omega)] at hb ⊢
    exact ⟨by omega,by omega,fun h=>by omega⟩
  · exact ar (by omega) (by omega)
  · omega
  · subst hx
    have q1:=hi.2 B b1 b2 hq
    have q2:=hq i.2 (by omega)
    rw [ar (n:=i.1+_) (by omega) (by omega)] at hb ⊢
    refine ⟨by omega,by omega,fun q hqq=>?_⟩
    by_cases e:q=i.2
    · subst e; omega
    · exact q1.2.2 q (by omega)
  · omega
  · have q1:=hi.2 B b1 b2 hq
    exact ⟨by omega,by omega,fun _=>⟨by omega,fun q hqq=>q1.2.2 q (by omega)⟩⟩

theorem Hf (fu:Nat) (rp:Term→Int→Prop) (rf:∀ (t:Term) (level:Int),rp t level→eC Tryz.prog 208 [av t.cells,iv level] [] (iv (bI fu t level)) []) (t:Term) (level:Int):(dN (bI fu) rp rf t level).val=bI (fu+1) t level:=by kernel_rfl
theorem Hg (fu:Nat):∀ (t:Term) (level:Int),t.depth≤fu→eC Tryz.prog 208 [av t.cells,iv level] [] (iv (bI fu t level)) []:=by
  induction fu with
  | zero=>intro t level hm; exact absurd hm (by have:=Term.tQ t; omega)
  | succ fu ih =>
    intro t level hm
    have h:eC Tryz.prog 208 [av t.cells,iv level] [] (iv ((dN (bI fu) (fun t level=>t.depth≤fu∧True) (fun t level h=>ih t level h.1) t level).val)) []:=eC.sk tok mixed (fun x=>iv x) (fun _=>[]) Tryz.func208 rfl (by kernel_rfl) 3000 (dN (bI fu) (fun t level=>t.depth≤fu∧True) (fun t level h=>ih t level h.1) t level) (by kernel_rfl) (JR fu _ t level hm)
    rw [Hf] at h
    exact h
def E0 (t:Term) (level:Int):Int:=bI (t.depth) t level
theorem JS (t:Term) (level:Int):eC Tryz.prog 208 [av t.cells,iv level] [] (iv (E0 t level)) []:=Hg _ t level (Nat.le_refl _)
def uv (t:Term) (level:Int):iI (Int):=⟨Tryz.prog,208,[av t.cells,iv level],fun x=>iv x,true,E0 t level,True,fun _=>JS t level,fun _=>True,trivial⟩
theorem Term.QN {B:Nat}:∀ (l:List Term),(∀ q,q < l.length→(l.getD q default).depth≤B)→Term.ib l≤B
  | [],_=>by simp [Term.ib]
  | x :: r,h=>by
    have h0:=h 0 (by simp)
    have:=Term.QN r (fun q hq=>by simpa using h (q+1) (by simpa using hq))
    simp only [Term.ib]
    simp at h0
    omega

theorem sD:∀ (fu:Nat) (t:Term) (level:Int),t.depth≤fu→1≤level→level≤9→1≤bI fu t level∧bI fu t level≤61+60 * (9 - level)∧(bI fu t level≤60→t.depth+level≤9)∧(bI fu t level≤60→He t)
  | 0,t,_,hd,_,_=>absurd hd (by have:=t.tQ; omega)
  | fu+1,t,level,hd,h1,h9=>by
    have ih:=sD fu
    have key:bI (fu+1) t level=(dN (bI fu) (fun _ _=>False) (fun _ _ h=>h.elim) t level).val:=rfl
    rw [key]
    refine Sk.cI (dN (bI fu) (fun _ _=>False) (fun _ _ h=>h.elim) t level) (L:=fun x=>1≤x∧x≤61+60 * (9 - level)∧(x≤60→t.depth+level≤9)∧(x≤60→He t)) (Sk.aP _ ?_)
    have hw:au (level+1)=level+1:=ar (by omega) (by omega)
    unfold dN
    simp only [Sk.ct,Sk.aA,reduceCtorEq,false_implies,qE,gW,bn.z,bn.p,bn.t,bn.pt,bn.o,bn.and,bn.al,bn.ER,bn.wh,bn.dep,bn.nK,iI.c,kk,kp,iI.nil,iI.ES,iJ.c,iJ.nil,sC,implies_true,true_and,and_true,and_self,true_implies,forall_eq,forall_const,hw]
    refine ⟨fun h=>⟨by omega,by omega,fun h=>by omega,fun h=>by omega⟩,fun WK=>?_⟩
    have WK:level≤8:=by simp only [LN] at WK; exact WK
    have hq:∀ q,q < t.args.length→1≤bI fu (t.args.getD q default) (level+1)∧bI fu (t.args.getD q default) (level+1)≤61+60 * (8 - level):=fun q hq=>by
      have:=ih (t.args.getD q default) (level+1) (by have:=t.kN q hq; omega) (by omega) (by omega)
      omega
    refine ⟨⟨⟨Nat.zero_le _,fun B _ _ _=>⟨by omega,by omega,fun q hq=>absurd hq (by omega)⟩⟩,fun i hi=>⟨fun hc=>⟨fun hb=>?_,fun hb=>⟨⟨?_,fun B b1 b2 hq=>?_⟩,?_⟩⟩,fun hc=>?_⟩⟩,fun b hb=>?_⟩
    all_goals (try simp only [LN] at hc)
    all_goals (try simp only [LN] at hb)
    · intro B b1 b2 hq
      have q1:=hi.2 B b1 b2 hq
      have q2:=hq i.2 (by omega)
      rw [ar (by omega) (by omega)] at hb ⊢
      exact ⟨by omega,by omega,fun h=>by omega⟩
    · omega
    · have q1:=hi.2 B b1 b2 hq
      have q2:=hq i.2 (by omega)
      rw [ar (by omega) (by omega)] at hb ⊢
      refine ⟨by omega,by omega,fun q hqq=>?_⟩
      by_cases e:q=i.2
      · subst e; omega
      · exact q1.2.2 q (by omega)
    · omega
    · intro B b1 b2 hq
      have q1:=hi.2 B b1 b2 hq
      exact ⟨by omega,by omega,fun _=>⟨by omega,fun q hqq=>q1.2.2 q (by omega)⟩⟩
    · have:=hb _ (by omega) (by omega) hq
      refine ⟨this.1,by omega,fun h60=>?_,fun h60=>.mk (this.2.2 h60).1 fun q hqq=>?_⟩
      · have q3:=(this.2.2 h60).2
        have:Term.ib t.args≤(8 - level).toNat:=Term.QN _ (fun q hqq=>by
          have:=(ih (t.args.getD q default) (level+1) (by have:=t.kN q hqq; omega) (by omega) (by omega)).2.2.1 (q3 q hqq)
          omega)
        have e:t.depth=Term.ib t.args+1:=by obtain ⟨_,_,_⟩:=t; rfl
        omega
      · exact (ih (t.args.getD q default) (level+1) (by have:=t.kN q hqq; omega) (by omega) (by omega)).2.2.2 ((this.2.2 h60).2 q hqq)
def vK (n:Int):Sk (Int) :=
 .fin (cS (bW n (-1099511627776)) 1099511627776)
def M3 n:=(vK n).val
theorem rX (n:Int):M3 n=(cS (bW n (-1099511627776)) 1099511627776):=rfl
theorem UF (n:Int):(vK n).a6 (fun _=>True):=by
  unfold vK
  exact od

def jH n:=kk tok mixed Tryz.func240 [iv n] (fun x=>iv x) true (vK n) (M3 n) (u0 (UF n))
def iY (v:Int):Sk (Int × Bool) :=
 .br ((decide (v < 0))||(decide (v > 19)))
 (.fin (0,false))
 (.br (decide (v < 7))
 (.fin (0,true))
 (.fin (1,true)))
def yA v:=(iY v).val
theorem JT (v:Int):(iY v).a6 (fun _=>True):=by
  unfold iY
  exact od

def j8 v:=kk tok mixed Tryz.func238 [iv v] (fun x=>.fj [iv x.1,bv x.2]) true (iY v) (yA v) (u0 (JT v))
def jj (t:Term):Sk (Int × Int) :=
 .br (decide (((t.args.length:Nat):Int) > 0))
 (.fin (0,2))
 (.br (t.op == 0)
 (.r 5 ((jH t.n).c) fun x1 =>
 .br (x1 != t.n)
 (.fin (0,3))
 (.fin (0,0)))
 (.br (t.op == 1)
 (.br ((decide (t.n < 0))||(decide (t.n > 1)))
 (.fin (0,3))
 (.fin (1,0)))
 (.r 12 ((j8 t.n).c) fun x2 =>
 .br (!x2.2)
 (.fin (0,10))
 (.fin (x2.1,0)))))
def pq t:=(jj t).val
theorem R4 (t:Term):(jj t).a6 (fun _=>True):=by
  unfold jj
  try simp only [j8,jH,rX]
  exact GD

def AA t:=kk tok mixed Tryz.func236 [av t.cells] (fun x=>.fj [iv x.1,iv x.2]) true (jj t) (pq t) (u0 (R4 t))
structure Shape where
  args:List Int
  result:Int
  deriving Inhabited
def Shape.cells (c:Shape):List D:=[mR bS c.args,dI c.result]
def og (op:Int):Sk (Shape) :=
 .br (op == 3)
 (.r 3 (.o [.dn (dH dV [1])]) fun _ =>
 .fin ({ args:=[1],result:=1 }:Shape))
 (.bind false (fun _=>True)
 (.br (op == 4)
 (.fin (.inr (op == 4)))
 (.fin (.inr (op == 5))))
 (fun (b1:Bool)=>⟨[(8,bv b1)],[]⟩) fun b1 =>
 .br b1
 (.r 6 (.o [.dn (dH dV [1,1])]) fun _ =>
 .fin ({ args:=[1,1],result:=1 }:Shape))
 (.br (op == 6)
 (.r 8 (.o [.dn (dH dV [1,(-1),(-1)])]) fun _ =>
 .fin ({ args:=[1,(-1),(-1)],result:=(-1) }:Shape))
 (.br (op == 7)
 (.r 10 (.o [.dn (dH dV [0,0])]) fun _ =>
 .fin ({ args:=[0,0],result:=1 }:Shape))
 (.br (op == 8)
 (.r 12 (.o [.dn (dH dV [(-1),(-1)])]) fun _ =>
 .fin ({ args:=[(-1),(-1)],result:=1 }:Shape))
 (.r 13 (.o [.dn (dH dV [0,0])]) fun _ =>
 .fin ({ args:=[0,0],result:=0 }:Shape))))))
def bX op:=(og op).val
theorem JU (op:Int):(og op).a6 (fun _=>True):=by
  unfold og
  exact od

def uw op:=kk tok mixed Tryz.func237 [iv op] (fun x=>av x.cells) false (og op) (bX op) (u0 (JU op))
end
end Go.Proofs.YtkbkoaoolojhaaaGreatDoor
