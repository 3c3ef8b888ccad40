/- The types of this program, as the evaluator looks at them. -/
import Derived.Test.YtaeekeogpbbkcaaGreatDoorLd
import Derived.Test.YtaeekeogpbbkcaaGreatDoorRows
import Derived.Shelf.SortM.Plain
import Derived.Shelf.SortM.SortNone
import Derived.Ground.SlgmProg
import Derived.Shelf.Slices.CompactI
import Derived.Ground.Names2Prog
set_option linter.unusedSimpArgs false
set_option linter.unusedVariables false
set_option maxHeartbeats 1000000
set_option maxRecDepth 100000
namespace Go.Proofs.YtaeekeogpbbkcaaGreatDoor
noncomputable section
open Go Go.Av
instance:Ea:=⟨[(0,[dI 6,dI 7,dI 10,dI 12,dI 13,dI 14,dI 15,dI 16,dI 20,dI 21])]⟩
def TT:List (Nat × TI):=[
 (3,⟨.int .i64,1,8,[.v (.int .i64 0)],false⟩),
 (4,⟨.bool,1,1,[.v (.bool false)],false⟩),
 (5,⟨.int .u8,1,1,[.v (.int .u8 0)],false⟩),
 (9,⟨.str,1,16,[.v (.string ⟨#[]⟩)],false⟩),
 (22,⟨.slice 9,1,24,[.v (.slice none 0 0)],false⟩),
 (23,⟨.slice 105,1,24,[.v (.slice none 0 0)],false⟩),
 (24,⟨.slice 107,1,24,[.v (.slice none 0 0)],false⟩),
 (25,⟨.slice 109,1,24,[.v (.slice none 0 0)],false⟩),
 (26,⟨.slice 65,1,24,[.v (.slice none 0 0)],false⟩),
 (27,⟨.slice 165,1,24,[.v (.slice none 0 0)],false⟩),
 (28,⟨.slice 167,1,24,[.v (.slice none 0 0)],false⟩),
 (29,⟨.slice 169,1,24,[.v (.slice none 0 0)],false⟩),
 (31,⟨.struct [(0,22),(1,23),(2,24),(3,25),(4,26),(5,27),(6,28),(7,29)],8,192,[.v (.slice none 0 0),.v (.slice none 0 0),.v (.slice none 0 0),.v (.slice none 0 0),.v (.slice none 0 0),.v (.slice none 0 0),.v (.slice none 0 0),.v (.slice none 0 0)],false⟩),
 (33,⟨.struct [(0,3),(1,3),(2,3)],3,24,[.v (.int .i64 0),.v (.int .i64 0),.v (.int .i64 0)],true⟩),
 (35,⟨.struct [(0,3),(1,3),(2,3),(3,3),(4,3),(5,33),(8,3),(9,3),(10,3),(11,3),(12,3),(13,3),(14,3)],15,120,[.v (.int .i64 0),.v (.int .i64 0),.v (.int .i64 0),.v (.int .i64 0),.v (.int .i64 0),.v (.int .i64 0),.v (.int .i64 0),.v (.int .i64 0),.v (.int .i64 0),.v (.int .i64 0),.v (.int .i64 0),.v (.int .i64 0),.v (.int .i64 0),.v (.int .i64 0),.v (.int .i64 0)],false⟩),
 (36,⟨.slice 94,1,24,[.v (.slice none 0 0)],false⟩),
 (37,⟨.slice 117,1,24,[.v (.slice none 0 0)],false⟩),
 (38,⟨.slice 126,1,24,[.v (.slice none 0 0)],false⟩),
 (39,⟨.slice 111,1,24,[.v (.slice none 0 0)],false⟩),
 (41,⟨.struct [(0,35),(15,36),(16,37),(17,38),(18,39)],19,216,[.v (.int .i64 0),.v (.int .i64 0),.v (.int .i64 0),.v (.int .i64 0),.v (.int .i64 0),.v (.int .i64 0),.v (.int .i64 0),.v (.int .i64 0),.v (.int .i64 0),.v (.int .i64 0),.v (.int .i64 0),.v (.int .i64 0),.v (.int .i64 0),.v (.int .i64 0),.v (.int .i64 0),.v (.slice none 0 0),.v (.slice none 0 0),.v (.slice none 0 0),.v (.slice none 0 0)],false⟩),
 (45,⟨.slice 74,1,24,[.v (.slice none 0 0)],false⟩),
 (49,⟨.struct [(0,3),(1,3),(2,3),(3,3),(4,3),(5,3),(6,3),(7,3),(8,3)],9,72,[.v (.int .i64 0),.v (.int .i64 0),.v (.int .i64 0),.v (.int .i64 0),.v (.int .i64 0),.v (.int .i64 0),.v (.int .i64 0),.v (.int .i64 0),.v (.int .i64 0)],true⟩),
 (50,⟨.slice 49,1,24,[.v (.slice none 0 0)],false⟩),
 (55,⟨.slice 3,1,24,[.v (.slice none 0 0)],false⟩),
 (60,⟨.int .i64,1,8,[.v (.int .i64 0)],false⟩),
 (62,⟨.slice 215,1,24,[.v (.slice none 0 0)],false⟩),
 (63,⟨.slice 71,1,24,[.v (.slice none 0 0)],false⟩),
 (65,⟨.struct [(0,9),(1,4),(2,62),(3,63)],4,72,[.v (.string ⟨#[]⟩),.v (.bool false),.v (.slice none 0 0),.v (.slice none 0 0)],false⟩),
 (67,⟨.slice 69,1,24,[.v (.slice none 0 0)],false⟩),
 (69,⟨.struct [(0,3),(1,3),(2,67)],3,40,[.v (.int .i64 0),.v (.int .i64 0),.v (.slice none 0 0)],false⟩),
 (71,⟨.struct [(0,3),(1,69)],4,48,[.v (.int .i64 0),.v (.int .i64 0),.v (.int .i64 0),.v (.slice none 0 0)],false⟩),
 (74,⟨.struct [(0,3),(1,3),(2,3)],3,24,[.v (.int .i64 0),.v (.int .i64 0),.v (.int .i64 0)],true⟩),
 (76,⟨.struct [(0,41),(19,41),(38,3),(39,55)],40,464,[.v (.int .i64 0),.v (.int .i64 0),.v (.int .i64 0),.v (.int .i64 0),.v (.int .i64 0),.v (.int .i64 0),.v (.int .i64 0),.v (.int .i64 0),.v (.int .i64 0),.v (.int .i64 0),.v (.int .i64 0),.v (.int .i64 0),.v (.int .i64 0),.v (.int .i64 0),.v (.int .i64 0),.v (.slice none 0 0),.v (.slice none 0 0),.v (.slice none 0 0),.v (.slice none 0 0),.v (.int .i64 0),.v (.int .i64 0),.v (.int .i64 0),.v (.int .i64 0),.v (.int .i64 0),.v (.int .i64 0),.v (.int .i64 0),.v (.int .i64 0),.v (.int .i64 0),.v (.int .i64 0),.v (.int .i64 0),.v (.int .i64 0),.v (.int .i64 0),.v (.int .i64 0),.v (.int .i64 0),.v (.slice none 0 0),.v (.slice none 0 0),.v (.slice none 0 0),.v (.slice none 0 0),.v (.int .i64 0),.v (.slice none 0 0)],false⟩),
 (78,⟨.struct [(0,76),(40,31),(48,3),(49,3)],50,672,[.v (.int .i64 0),.v (.int .i64 0),.v (.int .i64 0),.v (.int .i64 0),.v (.int .i64 0),.v (.int .i64 0),.v (.int .i64 0),.v (.int .i64 0),.v (.int .i64 0),.v (.int .i64 0),.v (.int .i64 0),.v (.int .i64 0),.v (.int .i64 0),.v (.int .i64 0),.v (.int .i64 0),.v (.slice none 0 0),.v (.slice none 0 0),.v (.slice none 0 0),.v (.slice none 0 0),.v (.int .i64 0),.v (.int .i64 0),.v (.int .i64 0),.v (.int .i64 0),.v (.int .i64 0),.v (.int .i64 0),.v (.int .i64 0),.v (.int .i64 0),.v (.int .i64 0),.v (.int .i64 0),.v (.int .i64 0),.v (.int .i64 0),.v (.int .i64 0),.v (.int .i64 0),.v (.int .i64 0),.v (.slice none 0 0),.v (.slice none 0 0),.v (.slice none 0 0),.v (.slice none 0 0),.v (.int .i64 0),.v (.slice none 0 0),.v (.slice none 0 0),.v (.slice none 0 0),.v (.slice none 0 0),.v (.slice none 0 0),.v (.slice none 0 0),.v (.slice none 0 0),.v (.slice none 0 0),.v (.slice none 0 0),.v (.int .i64 0),.v (.int .i64 0)],false⟩),
 (84,⟨.other,1,8,[.v .nilFunc],false⟩),
 (89,⟨.struct [(0,55),(1,3),(2,3),(3,4),(4,3),(5,55)],6,80,[.v (.slice none 0 0),.v (.int .i64 0),.v (.int .i64 0),.v (.bool false),.v (.int .i64 0),.v (.slice none 0 0)],false⟩),
 (94,⟨.struct [(0,3),(1,3),(2,3),(3,3),(4,3),(5,3),(6,3),(7,3),(8,3)],9,72,[.v (.int .i64 0),.v (.int .i64 0),.v (.int .i64 0),.v (.int .i64 0),.v (.int .i64 0),.v (.int .i64 0),.v (.int .i64 0),.v (.int .i64 0),.v (.int .i64 0)],true⟩),
 (95,⟨.slice 146,1,24,[.v (.slice none 0 0)],false⟩),
 (101,⟨.struct [(0,3),(1,3),(2,3),(3,3),(4,3),(5,3),(6,3)],7,56,[.v (.int .i64 0),.v (.int .i64 0),.v (.int .i64 0),.v (.int .i64 0),.v (.int .i64 0),.v (.int .i64 0),.v (.int .i64 0)],true⟩),
 (105,⟨.struct [(0,9),(1,3),(2,3),(3,55),(4,55),(5,55)],6,104,[.v (.string ⟨#[]⟩),.v (.int .i64 0),.v (.int .i64 0),.v (.slice none 0 0),.v (.slice none 0 0),.v (.slice none 0 0)],false⟩),
 (107,⟨.struct [(0,3)],1,8,[.v (.int .i64 0)],true⟩),
 (109,⟨.struct [(0,9),(1,3),(2,3)],3,32,[.v (.string ⟨#[]⟩),.v (.int .i64 0),.v (.int .i64 0)],true⟩),
 (111,⟨.struct [(0,3),(1,3),(2,3)],3,24,[.v (.int .i64 0),.v (.int .i64 0),.v (.int .i64 0)],true⟩),
 (117,⟨.struct [(0,3),(1,3)],2,16,[.v (.int .i64 0),.v (.int .i64 0)],true⟩),
 (126,⟨.struct [(0,3),(1,3),(2,3),(3,3),(4,3),(5,3),(6,3),(7,3),(8,3)],9,72,[.v (.int .i64 0),.v (.int .i64 0),.v (.int .i64 0),.v (.int .i64 0),.v (.int .i64 0),.v (.int .i64 0),.v (.int .i64 0),.v (.int .i64 0),.v (.int .i64 0)],true⟩),
 (131,⟨.struct [(0,4),(1,3)],2,16,[.v (.bool false),.v (.int .i64 0)],true⟩),
 (133,⟨.struct [(0,131),(2,3),(3,55),(4,60)],5,56,[.v (.bool false),.v (.int .i64 0),.v (.int .i64 0),.v (.slice none 0 0),.v (.int .i64 0)],false⟩),
 (139,⟨.struct [(0,41),(19,3),(20,3),(21,3),(22,3),(23,3)],24,256,[.v (.int .i64 0),.v (.int .i64 0),.v (.int .i64 0),.v (.int .i64 0),.v (.int .i64 0),.v (.int .i64 0),.v (.int .i64 0),.v (.int .i64 0),.v (.int .i64 0),.v (.int .i64 0),.v (.int .i64 0),.v (.int .i64 0),.v (.int .i64 0),.v (.int .i64 0),.v (.int .i64 0),.v (.slice none 0 0),.v (.slice none 0 0),.v (.slice none 0 0),.v (.slice none 0 0),.v (.int .i64 0),.v (.int .i64 0),.v (.int .i64 0),.v (.int .i64 0),.v (.int .i64 0)],false⟩),
 (143,⟨.struct [(0,31),(8,3),(9,3),(10,41),(29,3),(30,3)],31,440,[.v (.slice none 0 0),.v (.slice none 0 0),.v (.slice none 0 0),.v (.slice none 0 0),.v (.slice none 0 0),.v (.slice none 0 0),.v (.slice none 0 0),.v (.slice none 0 0),.v (.int .i64 0),.v (.int .i64 0),.v (.int .i64 0),.v (.int .i64 0),.v (.int .i64 0),.v (.int .i64 0),.v (.int .i64 0),.v (.int .i64 0),.v (.int .i64 0),.v (.int .i64 0),.v (.int .i64 0),.v (.int .i64 0),.v (.int .i64 0),.v (.int .i64 0),.v (.int .i64 0),.v (.int .i64 0),.v (.int .i64 0),.v (.slice none 0 0),.v (.slice none 0 0),.v (.slice none 0 0),.v (.slice none 0 0),.v (.int .i64 0),.v (.int .i64 0)],false⟩),
 (146,⟨.struct [(0,3),(1,3),(2,3),(3,3),(4,3),(5,3),(6,4)],7,56,[.v (.int .i64 0),.v (.int .i64 0),.v (.int .i64 0),.v (.int .i64 0),.v (.int .i64 0),.v (.int .i64 0),.v (.bool false)],true⟩),
 (150,⟨.other,1,8,[.v .nilFunc],false⟩),
 (152,⟨.struct [(0,3),(1,3),(2,3),(3,3)],4,32,[.v (.int .i64 0),.v (.int .i64 0),.v (.int .i64 0),.v (.int .i64 0)],true⟩),
 (158,⟨.map 3 4,1,8,[.v (.map none)],false⟩),
 (165,⟨.struct [(0,3),(1,3),(2,3)],3,24,[.v (.int .i64 0),.v (.int .i64 0),.v (.int .i64 0)],true⟩),
 (167,⟨.struct [(0,3),(1,3),(2,3),(3,3),(4,3)],5,40,[.v (.int .i64 0),.v (.int .i64 0),.v (.int .i64 0),.v (.int .i64 0),.v (.int .i64 0)],true⟩),
 (169,⟨.struct [(0,3),(1,3),(2,3)],3,24,[.v (.int .i64 0),.v (.int .i64 0),.v (.int .i64 0)],true⟩),
 (171,⟨.other,1,8,[.v .nilFunc],false⟩),
 (189,⟨.slice 131,1,24,[.v (.slice none 0 0)],false⟩),
 (195,⟨.struct [(0,31),(8,3),(9,41),(28,3),(29,3),(30,3)],31,440,[.v (.slice none 0 0),.v (.slice none 0 0),.v (.slice none 0 0),.v (.slice none 0 0),.v (.slice none 0 0),.v (.slice none 0 0),.v (.slice none 0 0),.v (.slice none 0 0),.v (.int .i64 0),.v (.int .i64 0),.v (.int .i64 0),.v (.int .i64 0),.v (.int .i64 0),.v (.int .i64 0),.v (.int .i64 0),.v (.int .i64 0),.v (.int .i64 0),.v (.int .i64 0),.v (.int .i64 0),.v (.int .i64 0),.v (.int .i64 0),.v (.int .i64 0),.v (.int .i64 0),.v (.int .i64 0),.v (.slice none 0 0),.v (.slice none 0 0),.v (.slice none 0 0),.v (.slice none 0 0),.v (.int .i64 0),.v (.int .i64 0),.v (.int .i64 0)],false⟩),
 (204,⟨.struct [(0,3),(1,3)],2,16,[.v (.int .i64 0),.v (.int .i64 0)],true⟩),
 (210,⟨.int .u64,1,8,[.v (.int .u64 0)],false⟩),
 (215,⟨.struct [(0,3),(1,3),(2,4)],3,24,[.v (.int .i64 0),.v (.int .i64 0),.v (.bool false)],true⟩),
 (219,⟨.other,1,8,[.v .nilFunc],false⟩),
 (226,⟨.slice 4,1,24,[.v (.slice none 0 0)],false⟩),
 (234,⟨.struct [(0,4),(1,3)],2,16,[.v (.bool false),.v (.int .i64 0)],true⟩),
 (247,⟨.int .u64,1,8,[.v (.int .u64 0)],false⟩),
 (252,⟨.int .i64,1,8,[.v (.int .i64 0)],false⟩),
 (258,⟨.int .u32,1,4,[.v (.int .u32 0)],false⟩),
 (277,⟨.array 10 3,10,80,[.v (.int .i64 0),.v (.int .i64 0),.v (.int .i64 0),.v (.int .i64 0),.v (.int .i64 0),.v (.int .i64 0),.v (.int .i64 0),.v (.int .i64 0),.v (.int .i64 0),.v (.int .i64 0)],false⟩),
 (280,⟨.other,1,8,[.v .nilFunc],false⟩),
 (283,⟨.struct [(0,189)],1,24,[.v (.slice none 0 0)],false⟩),
 (289,⟨.struct [(0,247),(1,247)],2,16,[.v (.int .u64 0),.v (.int .u64 0)],true⟩),
 (291,⟨.other,1,16,[.v .nilIface],false⟩),
 (292,⟨.int .u64,1,8,[.v (.int .u64 0)],false⟩),
 (296,⟨.other,1,8,[.v (.pointer none)],false⟩),
 (304,⟨.map 3 3,1,8,[.v (.map none)],false⟩),
 (306,⟨.other,1,8,[.v .nilFunc],false⟩),
 (309,⟨.slice 55,1,24,[.v (.slice none 0 0)],false⟩),
 (321,⟨.struct [(0,55),(1,3)],2,32,[.v (.slice none 0 0),.v (.int .i64 0)],false⟩),
 (325,⟨.slice 5,1,24,[.v (.slice none 0 0)],false⟩)]
theorem tok:og Tryz.prog TT:=og.of (by kernel_rfl)
theorem mixed:Tryz.prog.follows .mixedOrders=true:=by kernel_rfl
structure eB where
 name:ByteArray
 order:Int
 bj:Int
 rest:List Int
 cW:List Int
 shut:List Int
 deriving Inhabited
def eB.cells (c:eB):List D:=[.v (.string c.name),dI c.order,dI c.bj,mN bJ c.rest,mN bJ c.cW,mN bJ c.shut]
def eB.E:Lt eB:=⟨eB.cells,6,fun _=>rfl,fun _=>rfl⟩
structure jf where
 Eg:Int
 deriving Inhabited
def jf.cells (c:jf):List D:=[dI c.Eg]
def jf.E:Lt jf:=⟨jf.cells,1,fun _=>rfl,fun _=>rfl⟩
structure rA where
 name:ByteArray
 aL:Int
 group:Int
 deriving Inhabited
def rA.cells (c:rA):List D:=[.v (.string c.name),dI c.aL,dI c.group]
def rA.E:Lt rA:=⟨rA.cells,3,fun _=>rfl,fun _=>rfl⟩
structure Choice where
 ask:Int
 ka:Int
 whole:Bool
 deriving Inhabited
def Choice.cells (c:Choice):List D:=[dI c.ask,dI c.ka,dB c.whole]
structure Term where
 op:Int
 n:Int
 args:List Term
instance:Inhabited Term:=⟨⟨default,default,default⟩⟩
mutual
def Term.Ua:Term→D
 | ⟨_,_,args⟩=>.sl args.length (Term.LB args)
def Term.LB:List Term→Nat→List D
 | [],_=>[]
 | x :: _,0=>[dI x.op,dI x.n,Term.Ua x]
 | _ :: r,i+1=>Term.LB r i
end
def Term.k7 (x:Term):List D:=[dI x.op,dI x.n,Term.Ua x]
theorem Term.Hx:∀ (l:List Term) (i:Nat),i < l.length→Term.LB l i=(l.getD i default).k7
 | [],i,h=>absurd h (by simp)
 | x :: r,0,_=>by simp [Term.LB,Term.k7]
 | x :: r,i+1,h=>by simpa [Term.LB] using Term.Hx r i (by simpa using h)
def Term.cells (c:Term):List D:=[dI c.op,dI c.n,mN Term.k7 c.args]
theorem Term.Ub (c:Term):tU (Term.Ua c) (mN Term.k7 c.args)∧tU (mN Term.k7 c.args) (Term.Ua c):=by
 obtain ⟨op,n,args⟩:=c
 unfold Term.Ua
 exact ⟨tU.sl rfl (fun i hi=>Term.Hx args i hi),tU.sl rfl (fun i hi=>(Term.Hx args i hi).symm)⟩
theorem Term.EI (c:Term):zJ c.k7 c.cells:=.cons .rfl' (.cons .rfl' (.cons ((Term.Ub c).1) (.nil)))
mutual
def Term.depth:Term→Nat
 | ⟨_,_,args⟩=>Term.bT args+1
def Term.bT:List Term→Nat
 | []=>0
 | x :: r=>max x.depth (Term.bT r)
end
theorem Term.PU:∀ (l:List Term) (i:Nat),i < l.length→(l.getD i default).depth≤Term.bT l
 | [],i,h=>absurd h (by simp)
 | x :: r,0,_=>by simp [Term.bT]; omega
 | x :: r,i+1,h=>by
  have:=Term.PU r i (by simpa using h)
  simp [Term.bT] at this ⊢
  omega
theorem Term.gU (c:Term) (i:Nat) (h:i < c.args.length):(c.args.getD i default).depth < c.depth:=by
 obtain ⟨op,n,args⟩:=c
 have:=Term.PU args i h
 simp only [Term.depth]
 omega
theorem Term.gK (c:Term):0 < c.depth:=by
 obtain ⟨op,n,args⟩:=c
 simp only [Term.depth]
 omega
structure jx where
 ask:Int
 term:Term
 deriving Inhabited
def jx.cells (c:jx):List D:=[dI c.ask]++c.term.cells
def jx.E:Lt jx:=⟨jx.cells,4,fun _=>rfl,fun _=>rfl⟩
structure Order where
 name:ByteArray
 sA:Bool
 aE:List Choice
 rules:List jx
 deriving Inhabited
def Order.cells (c:Order):List D:=[.v (.string c.name),dB c.sA,mN Choice.cells c.aE,mN jx.cells c.rules]
def Order.E:Lt Order:=⟨Order.cells,4,fun _=>rfl,fun _=>rfl⟩
def Q7 (o:Order):Prop:=∀ j,j < o.aE.length→j≠0→(o.aE.getD (j - 1) default).ask < (o.aE.getD j default).ask
structure dJ where
 from_:Int
 cr:Int
 days:Int
 deriving Inhabited
def dJ.cells (c:dJ):List D:=[dI c.from_,dI c.cr,dI c.days]
def dJ.E:Lt dJ:=⟨dJ.cells,3,fun _=>rfl,fun _=>rfl⟩
structure pZ where
 from_:Int
 cr:Int
 num:Int
 den:Int
 since:Int
 deriving Inhabited
def pZ.cells (c:pZ):List D:=[dI c.from_,dI c.cr,dI c.num,dI c.den,dI c.since]
structure Halt where
 order:Int
 from_:Int
 cr:Int
 deriving Inhabited
def Halt.cells (c:Halt):List D:=[dI c.order,dI c.from_,dI c.cr]
structure ah where
 aY:List ByteArray
 aB:List eB
 cO:List jf
 bu:List rA
 ak:List Order
 aR:List dJ
 cg:List pZ
 ca:List Halt
 deriving Inhabited
def ah.cells (c:ah):List D:=[mN jV c.aY,mN eB.cells c.aB,mN jf.cells c.cO,mN rA.cells c.bu,mN Order.cells c.ak,mN dJ.cells c.aR,mN pZ.cells c.cg,mN Halt.cells c.ca]
def ah.Small (r:ah):Prop:=r.aY.length≤1000000∧r.aB.length≤1000000∧r.cO.length≤1000000∧r.bu.length≤1000000∧r.ak.length≤1000000∧r.aR.length≤1000000∧r.cg.length≤1000000∧r.ca.length≤1000000 ∧
 ∀ i,i < r.ak.length→(r.ak.getD i default).aE.length≤1000000∧(r.ak.getD i default).rules.length≤1000000
def ah.cx (r:ah):Prop:=∀ i j,i < r.ak.length→j < (r.ak.getD i default).aE.length→0≤((r.ak.getD i default).aE.getD j default).ka∧((r.ak.getD i default).aE.getD j default).ka < 5
def ah.cj (r:ah):Prop:=∀ i,i < r.ca.length→(r.ca.getD i default).cr≤100000
def ah.uq (r:ah):Prop:=∀ i,i < r.ak.length→Q7 (r.ak.getD i default)
def ah.LC (r:ah):Prop:=∀ i,i < r.aB.length→0≤(r.aB.getD i default).order
structure ov where
 kind:Int
 n:Int
 unit:Int
 deriving Inhabited
def ov.cells (c:ov):List D:=[dI c.kind,dI c.n,dI c.unit]
structure jX where
 EJ:Int
 zY:Int
 fY:Int
 sum:Int
 bj:Int
 aC:ov
 day:Int
 aL:Int
 rD:Int
 need:Int
 oz:Int
 flags:Int
 parts:Int
 deriving Inhabited
def jX.cells (c:jX):List D:=[dI c.EJ,dI c.zY,dI c.fY,dI c.sum,dI c.bj]++c.aC.cells++[dI c.day,dI c.aL,dI c.rD,dI c.need,dI c.oz,dI c.flags,dI c.parts]
structure Sign where
 kind:Int
 part:Int
 ja:Int
 for_:Int
 cr:Int
 sum:Int
 day:Int
 aL:Int
 flags:Int
 deriving Inhabited
def Sign.cells (c:Sign):List D:=[dI c.kind,dI c.part,dI c.ja,dI c.for_,dI c.cr,dI c.sum,dI c.day,dI c.aL,dI c.flags]
def Sign.E:Lt Sign:=⟨Sign.cells,9,fun _=>rfl,fun _=>rfl⟩
structure cZ where
 at_:Int
 sum:Int
 deriving Inhabited
def cZ.cells (c:cZ):List D:=[dI c.at_,dI c.sum]
def cZ.E:Lt cZ:=⟨cZ.cells,2,fun _=>rfl,fun _=>rfl⟩
structure cT where
 kind:Int
 ja:Int
 cr:Int
 part:Int
 at_:Int
 sum:Int
 day:Int
 aL:Int
 form:Int
 deriving Inhabited
def cT.cells (c:cT):List D:=[dI c.kind,dI c.ja,dI c.cr,dI c.part,dI c.at_,dI c.sum,dI c.day,dI c.aL,dI c.form]
def cT.E:Lt cT:=⟨cT.cells,9,fun _=>rfl,fun _=>rfl⟩
structure Fact where
 kind:Int
 at_:Int
 n:Int
 deriving Inhabited
def Fact.cells (c:Fact):List D:=[dI c.kind,dI c.at_,dI c.n]
def Fact.E:Lt Fact:=⟨Fact.cells,3,fun _=>rfl,fun _=>rfl⟩
structure aw where
 aM:jX
 af:List Sign
 aN:List cZ
 aU:List cT
 facts:List Fact
 deriving Inhabited
def aw.cells (c:aw):List D:=c.aM.cells++[mN Sign.cells c.af,mN cZ.cells c.aN,mN cT.cells c.aU,mN Fact.cells c.facts]
def aw.Small (f:aw):Prop:=f.af.length≤1000000∧f.aN.length≤1000000∧f.aU.length≤1000000∧f.facts.length≤1000000
def ah.l6 (r:ah):Prop:=∀ i,i < r.bu.length→0≤(r.bu.getD i default).aL∧(r.bu.getD i default).aL < r.aB.length
def ah.gV (r:ah):Prop:=∀ i,i < r.cg.length→(1≤(r.cg.getD i default).num∧(r.cg.getD i default).num≤1073741824)∧1≤(r.cg.getD i default).den∧(r.cg.getD i default).den≤1073741824
abbrev wL (n:Int):Prop:=0≤n∧n≤1099511627776
def aw.qu (f:aw):Prop:=wL f.aM.sum∧(∀ q,q < f.aN.length→wL (f.aN.getD q default).sum)∧(∀ q,q < f.af.length→wL (f.af.getD q default).sum)∧∀ q,q < f.aU.length→wL (f.aU.getD q default).sum
def Uc (f:aw) (q:Nat):Prop:=wL (f.af.getD q default).sum∧(0≤(f.af.getD q default).kind∧(f.af.getD q default).kind≤4)∧((f.af.getD q default).kind=0↔q=0)∧((f.af.getD q default).kind=3∨(f.af.getD q default).kind=4→0≤(f.af.getD q default).for_∧(f.af.getD q default).for_ < (q:Int))
def yR (r:ah) (f:aw) (q:Nat):Prop:=(0≤(f.af.getD q default).ja∧(f.af.getD q default).ja < r.bu.length)∧(q≠0→(f.af.getD (q - 1) default).day≤(f.af.getD q default).day)∧(f.af.getD q default).day≤100000∧(q=0→(f.af.getD q default).day=f.aM.day)∧(0≤(f.af.getD q default).part∧(f.af.getD q default).part≤f.aM.parts - 1)∧Uc f q
def B0 (f:aw) (q:Nat):Prop:=wL (f.aU.getD q default).sum∧(f.aM.day≤(f.aU.getD q default).day∧(f.aU.getD q default).day≤100000)∧(q≠0→(f.aU.getD (q - 1) default).day≤(f.aU.getD q default).day)∧((f.aU.getD q default).kind=6→(0≤(f.aU.getD q default).at_∧(f.aU.getD q default).at_ < f.af.length)∧(f.af.getD (f.aU.getD q default).at_.toNat default).day≤(f.aU.getD q default).day∧(f.af.getD (f.aU.getD q default).at_.toNat default).ja=(f.aU.getD q default).ja)
def xa (r:ah) (b:jX):Prop:=(1≤b.sum∧b.sum≤1099511627776)∧(0≤b.rD∧b.rD < r.aB.length)∧(0≤b.day∧b.day≤100000)∧(1≤b.parts∧b.parts≤4)∧(0≤b.bj∧b.bj < r.aY.length)
def dK (r:ah) (f:aw):Prop:=xa r f.aM∧(f.af.length≤40∧f.af.length≠0∧f.aN.length≤4∧f.aU.length≤100∧f.facts.length≤200)∧(∀ q,q < f.af.length→yR r f q)∧(∀ q,q < f.aN.length→wL (f.aN.getD q default).sum)∧∀ q,q < f.aU.length→B0 f q
theorem dK.small {r:ah} {f:aw} (h:dK r f):f.Small:=by have:=h.2.1; unfold aw.Small; omega
theorem dK.aeJ {r:ah} {f:aw} (h:dK r f):f.qu:=⟨⟨by have:=h.1.1; omega,h.1.1.2⟩,h.2.2.2.1,fun q hq=>(h.2.2.1 q hq).2.2.2.2.2.1,fun q hq=>(h.2.2.2.2 q hq).1⟩
theorem yS {α:Type} [Inhabited α] {l:List α} {P:α→Prop}:(∀ q,q < l.length→P (l.getD q default))↔∀ x,x∈l→P x:=by
 constructor
 ·intro h x hx
  obtain ⟨i,hi,rfl⟩:=List.getElem_of_mem hx
  have:=h i hi
  rwa [show l.getD i default=l[i] by simp [List.getD,hi]] at this
 ·exact fun h q hq=>h _ (fX hq _)
def uJ (n:Int):Sk (Term) :=
 .fin ({ op:=1,n:=n,args:=[] }:Term)
def PV n:=(uJ n).val
theorem Q8 (n:Int):PV n=({ op:=1,n:=n,args:=[] }:Term):=rfl
theorem Q9 (n:Int):(uJ n).bq (fun _=>True):=by
 unfold uJ
 exact mP
def B1 n:=kk tok mixed Tryz.func35 [iv n] (fun x=>av x.cells) false (uJ n) (PV n) (u0 (Q9 n))
def xb:Sk (ah):=let kV:=((B1 1).c);
 .r 1 (.dep kV fun x1=>.dep kV fun x2=>.dep kV fun x3=>.gw ((B1 0).c) fun x4=>.aj (.o [.pur 10]) (.o [.cU (dG jx.E [({ ask:=0,term:=x1 }:jx),({ ask:=1,term:=x2 }:jx),({ ask:=2,term:=x3 }:jx),({ ask:=3,term:=x4 }:jx)])])) fun p5=>let eG:=({ ask:=0,term:=p5.1 }:jx); let cF:=({ ask:=1,term:=p5.2.1 }:jx); let aV:=({ ask:=3,term:=p5.2.2.2 }:jx); let az:=({ ask:=2,term:=p5.2.2.1 }:jx);
 .r 2 (.aj (.o [.cU (dG xT [(⟨#[100]⟩:ByteArray)])]) (.aj (.o [.cU (agn eB.E [({ name:=(⟨#[97]⟩:ByteArray),order:=0,bj:=0,rest:=[],cW:=[],shut:=[] }:eB)] [.v (.string (⟨#[97]⟩:ByteArray)),dI 0,dI 0,.v (.slice none 0 0),.v (.slice none 0 0),.v (.slice none 0 0)] (by kernel_rfl))]) (.aj (.o [.cU (dG jf.E [({ Eg:=0 }:jf)])]) (.aj (.o [.cU (dG rA.E [({ name:=(⟨#[102]⟩:ByteArray),aL:=0,group:=0 }:rA),({ name:=(⟨#[103]⟩:ByteArray),aL:=0,group:=0 }:rA),({ name:=(⟨#[104]⟩:ByteArray),aL:=0,group:=0 }:rA),({ name:=(⟨#[105]⟩:ByteArray),aL:=0,group:=0 }:rA)])]) (.o [.cU (agn Order.E [({ name:=(⟨#[111]⟩:ByteArray),sA:=false,aE:=[],rules:=[eG,cF,az,aV] }:Order)] [.v (.string (⟨#[111]⟩:ByteArray)),dB false,.v (.slice none 0 0),mN jx.cells [eG,cF,az,aV]] (by kernel_rfl))]))))) fun _ =>
 .fin ({ aY:=[(⟨#[100]⟩:ByteArray)],aB:=[({ name:=(⟨#[97]⟩:ByteArray),order:=0,bj:=0,rest:=[],cW:=[],shut:=[] }:eB)],cO:=[({ Eg:=0 }:jf)],bu:=[({ name:=(⟨#[102]⟩:ByteArray),aL:=0,group:=0 }:rA),({ name:=(⟨#[103]⟩:ByteArray),aL:=0,group:=0 }:rA),({ name:=(⟨#[104]⟩:ByteArray),aL:=0,group:=0 }:rA),({ name:=(⟨#[105]⟩:ByteArray),aL:=0,group:=0 }:rA)],ak:=[({ name:=(⟨#[111]⟩:ByteArray),sA:=false,aE:=[],rules:=[eG,cF,az,aV] }:Order)],aR:=[],cg:=[],ca:=[] }:ah)
def dL:ah:=(xb).val
theorem Ud:(xb).bq (fun _=>True):=by
 unfold xb
 try simp only [B1,Q8]
 exact xV
def zZ:fD (ah):=kk tok mixed Tryz.func10 [] (fun x=>av x.cells) false (xb) (dL) (fun (_:True)=>Ud)
def qv (fq:Int):Sk (aw):=let rz:=({ kind:=2,n:=30,unit:=0 }:ov); let B2:=({ EJ:=0,zY:=1,fY:=2,sum:=1000,bj:=0,aC:=rz,day:=100,aL:=0,rD:=0,need:=(-1),oz:=0,flags:=1,parts:=2 }:jX); let kV:=({ kind:=2,part:=1,ja:=2,for_:=(-1),cr:=3,sum:=0,day:=102,aL:=0,flags:=0 }:Sign); let eG:=({ kind:=0,part:=0,ja:=0,for_:=(-1),cr:=(-1),sum:=0,day:=100,aL:=0,flags:=0 }:Sign); let cF:=({ kind:=1,part:=0,ja:=1,for_:=(-1),cr:=(-1),sum:=1000,day:=101,aL:=0,flags:=0 }:Sign); let aV:=({ kind:=0,at_:=2,n:=fq }:Fact); let az:=({ kind:=2,at_:=2,n:=1 }:Fact);
 .r 2 (.o [.cU (dG Sign.E [eG,cF,kV])]) fun _ =>
 .br ((fq == 0)||(fq == 1))
 (.r 4 (.aj (.o [.cU (dG Fact.E [aV])]) (.aj (.o [.cU (agm Fact.E [aV])]) (.aj (.t (Fact.E.k6 [aV])) (.p (uG 0 [aV].length 24))))) fun _ =>
 .r 5 (.aj (.o [.cU (dG Fact.E [az])]) (.aj (.o [.cU (kx Fact.E [aV] [az])]) (.aj (.t (Fact.E.k6 [az])) (.p (uG ([aV].length) [az].length 24))))) fun _ =>
 .fin ({ aM:=B2,af:=[eG,cF,kV],aN:=[],aU:=[],facts:=[aV]++[az] }:aw))
 (.r 5 (.aj (.o [.cU (dG Fact.E [az])]) (.aj (.o [.cU (agm Fact.E [az])]) (.aj (.t (Fact.E.k6 [az])) (.p (uG 0 [az].length 24))))) fun _ =>
 .fin ({ aM:=B2,af:=[eG,cF,kV],aN:=[],aU:=[],facts:=[az] }:aw))
def Dm fq:=(qv fq).val
theorem Ra (fq:Int):(qv fq).bq (fun _=>True):=by
 unfold qv
 exact mH
def xc fq:=kk tok mixed Tryz.func11 [iv fq] (fun x=>av x.cells) false (qv fq) (Dm fq) (u0 (Ra fq))
structure Claim where
 qw:Int
 jy:Int
 part:Int
 sign:Int
 ka:Int
 FV:Int
 sum:Int
 bj:Int
 state:Int
 deriving Inhabited
def Claim.cells (c:Claim):List D:=[dI c.qw,dI c.jy,dI c.part,dI c.sign,dI c.ka,dI c.FV,dI c.sum,dI c.bj,dI c.state]
def Claim.E:Lt Claim:=⟨Claim.cells,9,fun _=>rfl,fun _=>rfl⟩
structure View where
 all:aw
 now:aw
 day:Int
 lead:List Int
 deriving Inhabited
def View.cells (c:View):List D:=c.all.cells++c.now.cells++[dI c.day,mN bJ c.lead]
def View.pI (v:View):Prop:=∀ i,i < v.now.af.length→((v.now.af.getD i default).kind=3∨(v.now.af.getD i default).kind=4)→0≤(v.now.af.getD i default).for_∧(v.now.af.getD i default).for_ < (i:Int)
structure gG where
 view:View
 r:ah
 ai:Int
 due:Int
 deriving Inhabited
def gG.cells (c:gG):List D:=c.view.cells++c.r.cells++[dI c.ai,dI c.due]
def nA (i:Int) (n:Int):Sk (Bool) :=
 .fin ((decide (i≥0))&&(decide (i < n)))
def lN i n:=(nA i n).val
theorem ky (i:Int) (n:Int):lN i n=((decide (i≥0))&&(decide (i < n))):=rfl
theorem Hy (i:Int) (n:Int):(nA i n).bq (fun _=>True):=by
 unfold nA
 exact mP
def eV i n:=kk tok mixed Tryz.func124 [iv i,iv n] (fun x=>bv x) true (nA i n) (lN i n) (u0 (Hy i n))
def nB (f:aw) (day:Int):Sk (aw) :=
 .bind true (fun b1=>b1.length≤f.af.length)
 (.loop (default:Sum (aw) ((List Sign))) (fun i2=>i2.2.length≤i2.1∧i2.1≤f.af.length) (fun i2=>f.af.length - i2.1) ((0,[]):Nat × (List Sign))
 (fun (i2:Nat × (List Sign))=>⟨[(20,iv (i2.1:Int))],[(100002,cp 94 9 Sign.cells i2.2),(5,.box (f.aM.cells.map .d++[ow 100002 i2.2]++[nv,nv,nv]))]⟩) fun i2 =>
 .lt 18 0 i2.1 f.af.length
 (.r 4 (.p (bM (i2.1:Int) f.af.length)) fun _ =>
 .br (decide (((f.af.getD i2.1 default).day) > day))
 (.fin (.inl (.inr i2.2)))
 (.r 6 (.aj (.o [.cU (dG Sign.E [f.af.getD i2.1 default])]) (.aj (.o [.cU (kx Sign.E i2.2 [f.af.getD i2.1 default])]) (.aj (.t (Sign.E.k6 [f.af.getD i2.1 default])) (.p (uG i2.2.length [f.af.getD i2.1 default].length 72))))) fun _ =>
 .nx 7 20 i2.1 (i2.1+1,i2.2++[f.af.getD i2.1 default])))
 (.fin (.inl (.inr i2.2))))
 (fun (b1:(List Sign))=>⟨[],[(100001,cp 94 9 Sign.cells b1),(5,.box (f.aM.cells.map .d++[ow 100001 b1]++[nv,nv,nv]))]⟩) fun b1 =>
 .bind true (fun b3=>b3.length≤f.aU.length)
 (.loop (default:Sum (aw) ((List cT))) (fun i4=>i4.2.length≤i4.1∧i4.1≤f.aU.length) (fun i4=>f.aU.length - i4.1) ((0,[]):Nat × (List cT))
 (fun (i4:Nat × (List cT))=>⟨[(38,iv (i4.1:Int))],[(100005,cp 126 9 cT.cells i4.2),(5,.box (f.aM.cells.map .d++[ow 100001 b1]++[nv,ow 100005 i4.2]++[nv]))]⟩) fun i4 =>
 .lt 36 0 i4.1 f.aU.length
 (.r 10 (.p (bM (i4.1:Int) f.aU.length)) fun _ =>
 .br (decide (((f.aU.getD i4.1 default).day) > day))
 (.fin (.inl (.inr i4.2)))
 (.r 12 (.aj (.o [.cU (dG cT.E [f.aU.getD i4.1 default])]) (.aj (.o [.cU (kx cT.E i4.2 [f.aU.getD i4.1 default])]) (.aj (.t (cT.E.k6 [f.aU.getD i4.1 default])) (.p (uG i4.2.length [f.aU.getD i4.1 default].length 72))))) fun _ =>
 .nx 13 38 i4.1 (i4.1+1,i4.2++[f.aU.getD i4.1 default])))
 (.fin (.inl (.inr i4.2))))
 (fun (b3:(List cT))=>⟨[],[(100004,cp 126 9 cT.cells b3),(5,.box (f.aM.cells.map .d++[ow 100001 b1]++[nv,ow 100004 b3]++[nv]))]⟩) fun b3 =>
 .bind true (fun b5=>b5.length≤f.aN.length)
 (.loop (default:Sum (aw) ((List cZ))) (fun i6=>i6.2.length≤i6.1∧i6.1≤f.aN.length) (fun i6=>f.aN.length - i6.1) ((0,[]):Nat × (List cZ))
 (fun (i6:Nat × (List cZ))=>⟨[(56,iv (i6.1:Int))],[(100008,cp 117 2 cZ.cells i6.2),(5,.box (f.aM.cells.map .d++[ow 100001 b1,ow 100008 i6.2,ow 100004 b3]++[nv]))]⟩) fun i6 =>
 .lt 54 0 i6.1 f.aN.length
 (.r 16 (.p (bM (i6.1:Int) f.aN.length)) fun _ =>
 .br (decide (((f.aN.getD i6.1 default).at_)≤((b1.length:Nat):Int)))
 (.r 18 (.aj (.o [.cU (dG cZ.E [f.aN.getD i6.1 default])]) (.aj (.o [.cU (kx cZ.E i6.2 [f.aN.getD i6.1 default])]) (.aj (.t (cZ.E.k6 [f.aN.getD i6.1 default])) (.p (uG i6.2.length [f.aN.getD i6.1 default].length 16))))) fun _ =>
 .nx 19 56 i6.1 (i6.1+1,i6.2++[f.aN.getD i6.1 default]))
 (.nx 19 56 i6.1 (i6.1+1,i6.2)))
 (.fin (.inl (.inr i6.2))))
 (fun (b5:(List cZ))=>⟨[],[(100007,cp 117 2 cZ.cells b5),(5,.box (f.aM.cells.map .d++[ow 100001 b1,ow 100007 b5,ow 100004 b3]++[nv]))]⟩) fun b5 =>
 .bind true (fun b7=>b7.length≤f.facts.length)
 (.loop (default:Sum (aw) ((List Fact))) (fun i8=>i8.2.length≤i8.1∧i8.1≤f.facts.length) (fun i8=>f.facts.length - i8.1) ((0,[]):Nat × (List Fact))
 (fun (i8:Nat × (List Fact))=>⟨[(76,iv (i8.1:Int))],[(100011,cp 111 3 Fact.cells i8.2),(5,.box (f.aM.cells.map .d++[ow 100001 b1,ow 100007 b5,ow 100004 b3,ow 100011 i8.2]))]⟩) fun i8 =>
 .lt 74 0 i8.1 f.facts.length
 (.r 22 (.p (bM (i8.1:Int) f.facts.length)) fun _ =>
 .r 23 ((eV ((f.facts.getD i8.1 default).at_) ((b1.length:Nat):Int)).c) fun x9 =>
 .br x9
 (.r 24 (.aj (.o [.cU (dG Fact.E [f.facts.getD i8.1 default])]) (.aj (.o [.cU (kx Fact.E i8.2 [f.facts.getD i8.1 default])]) (.aj (.t (Fact.E.k6 [f.facts.getD i8.1 default])) (.p (uG i8.2.length [f.facts.getD i8.1 default].length 24))))) fun _ =>
 .nx 25 76 i8.1 (i8.1+1,i8.2++[f.facts.getD i8.1 default]))
 (.nx 25 76 i8.1 (i8.1+1,i8.2)))
 (.fin (.inl (.inr i8.2))))
 (fun (b7:(List Fact))=>⟨[],[(100010,cp 111 3 Fact.cells b7),(5,.box (f.aM.cells.map .d++[ow 100001 b1,ow 100007 b5,ow 100004 b3,ow 100010 b7]))]⟩) fun b7 =>
 .fin ({ f with af:=b1,aN:=b5,aU:=b3,facts:=b7 })
def au f day:=(nB f day).val
theorem Eh (f:aw) (day:Int):(nB f day).dq (fun (x:aw)=>x.af.length≤f.af.length∧x.aU.length≤f.aU.length∧x.aN.length≤f.aN.length∧x.facts.length≤f.facts.length):=by
 unfold nB
 try simp only [eV,ky,aw.Small,ah.Small]
 exact Yp
theorem B3 (f:aw) (day:Int):(fun (x:aw)=>x.af.length≤f.af.length∧x.aU.length≤f.aU.length∧x.aN.length≤f.aN.length∧x.facts.length≤f.facts.length) (au f day):=have h:=Sk.dc _ (Eh f day); h
theorem Rb (f:aw) (day:Int) (hf:f.Small):(nB f day).bq (fun _=>True):=by
 simp only [aw.Small,ah.Small] at hf
 unfold nB
 try simp only [eV,ky,aw.Small,ah.Small]
 exact xV
def c9 f day:=kp tok mixed Tryz.func75 [av f.cells,iv day] (fun x=>av x.cells) false (au f day) (Rb f day) (Eh f day)
theorem xe {α:Type} (p:α→Bool):∀ (l s:List α),l.foldl (fun s x=>bif p x then s++[x] else s) s=s++l.filter p
 | [],s=>by simp
 | x :: r,s=>by
  simp only [List.foldl_cons,List.filter_cons]
  cases h:p x with
  | true=>simp [xe p r]
  | false=>simp [xe p r]
theorem EK {α β:Type} (p:α→Bool) (g:List α→β):∀ (l s:List α),walk (fun x s=>bif !(p x) then Sum.inl (g s) else Sum.inr (s++[x])) g l s=g (s++l.takeWhile p)
 | [],s=>by simp [walk]
 | x :: r,s=>by
  simp only [walk,List.takeWhile_cons]
  cases h:p x with
  | true =>
   show walk (fun x s=>bif !(p x) then Sum.inl (g s) else Sum.inr (s++[x])) g r (s++[x])=_
   rw [EK p g r (s++[x])]
   simp
  | false=>simp
theorem eW (f:aw) (day:Int):au f day=aw.mk f.aM (f.af.takeWhile (fun s=>decide (s.day≤day)))
  (f.aN.filter (fun a=>decide (a.at_≤((f.af.takeWhile (fun s=>decide (s.day≤day))).length:Int)))) (f.aU.takeWhile (fun a=>decide (a.day≤day)))
  (f.facts.filter (fun x=>decide (x.at_≥0)&&decide (x.at_ < ((f.af.takeWhile (fun s=>decide (s.day≤day))).length:Int)))):=by
 simp only [au,nB,Sk.cz,Sk.cY,Sk.ct,Sk.bK,Sk.cE,Sk.cV,Sk.bg,fD.wG,kk,kp,eV,ky]
 have h1:∀ (n:Nat) (d:aw ⊕ List Sign),f.af.length < n→iter (fun i2:Nat × List Sign=>bif decide ((i2.1:Int) < (f.af.length:Int)) then (bif decide ((f.af.getD i2.1 default).day > day) then (Sum.inl (Sum.inr i2.2)) else (Sum.inr (i2.1+1,i2.2++[f.af.getD i2.1 default]))) else Sum.inl (Sum.inr i2.2)) d n (0,[])=(Sum.inr (f.af.takeWhile (fun s=>decide (s.day≤day))):aw ⊕ List Sign):=by
  intro n d hn
  rw [jW f.af (fun s i=>(i,s)) (fun x s=>bif !(decide (x.day≤day)) then Sum.inl (Sum.inr s) else Sum.inr (s++[x])) (fun s=>Sum.inr s) (fun s i hi=>?_) (fun s=>?_) hn []]
  ·exact EK _ (fun s=>(Sum.inr s:aw ⊕ List Sign)) f.af []
  ·rw [decide_eq_true (by omega),cond_true]
   by_cases c:(f.af.getD i default).day > day
   ·rw [decide_eq_true c,decide_eq_false (by omega)]; rfl
   ·rw [decide_eq_false c,decide_eq_true (by omega)]; rfl
  ·rw [decide_eq_false (by omega),cond_false]
 rw [h1 _ _ (by simp)]
 have h2:∀ (n:Nat) (d:aw ⊕ List cT),f.aU.length < n→iter (fun i2:Nat × List cT=>bif decide ((i2.1:Int) < (f.aU.length:Int)) then (bif decide ((f.aU.getD i2.1 default).day > day) then (Sum.inl (Sum.inr i2.2)) else (Sum.inr (i2.1+1,i2.2++[f.aU.getD i2.1 default]))) else Sum.inl (Sum.inr i2.2)) d n (0,[])=(Sum.inr (f.aU.takeWhile (fun s=>decide (s.day≤day))):aw ⊕ List cT):=by
  intro n d hn
  rw [jW f.aU (fun s i=>(i,s)) (fun x s=>bif !(decide (x.day≤day)) then Sum.inl (Sum.inr s) else Sum.inr (s++[x])) (fun s=>Sum.inr s) (fun s i hi=>?_) (fun s=>?_) hn []]
  ·exact EK _ (fun s=>(Sum.inr s:aw ⊕ List cT)) f.aU []
  ·rw [decide_eq_true (by omega),cond_true]
   by_cases c:(f.aU.getD i default).day > day
   ·rw [decide_eq_true c,decide_eq_false (by omega)]; rfl
   ·rw [decide_eq_false c,decide_eq_true (by omega)]; rfl
  ·rw [decide_eq_false (by omega),cond_false]
 simp only [cX]
 rw [h2 _ _ (by simp)]
 simp only [cX]
 generalize f.af.takeWhile (fun s=>decide (s.day≤day))=b1
 have h3:∀ (n:Nat) (d:aw ⊕ List cZ),f.aN.length < n→iter (fun i2:Nat × List cZ=>bif decide ((i2.1:Int) < (f.aN.length:Int)) then (bif decide ((f.aN.getD i2.1 default).at_≤(b1.length:Int)) then (Sum.inr (i2.1+1,i2.2++[f.aN.getD i2.1 default])) else (Sum.inr (i2.1+1,i2.2))) else Sum.inl (Sum.inr i2.2)) d n (0,[])=(Sum.inr (f.aN.filter (fun a=>decide (a.at_≤(b1.length:Int)))):aw ⊕ List cZ):=by
  intro n d hn
  rw [jW f.aN (fun s i=>(i,s)) (fun x s=>Sum.inr (bif decide (x.at_≤(b1.length:Int)) then s++[x] else s)) (fun s=>Sum.inr s) (fun s i hi=>?_) (fun s=>?_) hn []]
  ·rw [jm (fun (x:cZ) s=>bif decide (x.at_≤(b1.length:Int)) then s++[x] else s),xe]; rfl
  ·rw [decide_eq_true (by omega),cond_true]
   cases decide ((f.aN.getD i default).at_≤(b1.length:Int)) <;> rfl
  ·rw [decide_eq_false (by omega),cond_false]
 rw [h3 _ _ (by simp)]
 simp only [cX]
 have h4:∀ (n:Nat) (d:aw ⊕ List Fact),f.facts.length < n→iter (fun i2:Nat × List Fact=>bif decide ((i2.1:Int) < (f.facts.length:Int)) then (bif (decide ((f.facts.getD i2.1 default).at_≥0)&&decide ((f.facts.getD i2.1 default).at_ < (b1.length:Int))) then (Sum.inr (i2.1+1,i2.2++[f.facts.getD i2.1 default])) else (Sum.inr (i2.1+1,i2.2))) else Sum.inl (Sum.inr i2.2)) d n (0,[])=(Sum.inr (f.facts.filter (fun a=>decide (a.at_≥0)&&decide (a.at_ < (b1.length:Int)))):aw ⊕ List Fact):=by
  intro n d hn
  rw [jW f.facts (fun s i=>(i,s)) (fun x s=>Sum.inr (bif (decide (x.at_≥0)&&decide (x.at_ < (b1.length:Int))) then s++[x] else s)) (fun s=>Sum.inr s) (fun s i hi=>?_) (fun s=>?_) hn []]
  ·rw [jm (fun (x:Fact) s=>bif (decide (x.at_≥0)&&decide (x.at_ < (b1.length:Int))) then s++[x] else s),xe]; rfl
  ·rw [decide_eq_true (by omega),cond_true]
   cases (decide ((f.facts.getD i default).at_≥0)&&decide ((f.facts.getD i default).at_ < (b1.length:Int))) <;> rfl
  ·rw [decide_eq_false (by omega),cond_false]
 rw [h4 _ _ (by simp)]
 rfl
theorem vC {α:Type} [Inhabited α] (p:α→Bool):∀ (l:List α) (i:Nat),i < (l.takeWhile p).length→(l.takeWhile p).getD i default=l.getD i default∧i < l.length∧p (l.getD i default)=true
 | [],i,h=>by simp at h
 | x :: r,i,h=>by
  rw [List.takeWhile_cons] at h ⊢
  cases hp:p x with
  | false=>rw [hp] at h; simp at h
  | true =>
   rw [hp] at h
   simp only [if_true,List.length_cons] at h ⊢
   cases i with
   | zero=>exact ⟨rfl,by simp,hp⟩
   | succ i =>
    have:=vC p r i (by omega)
    exact ⟨by simpa using this.1,by simpa using this.2.1,by simpa using this.2.2⟩
section
open Go Go.Av Go.Shelf Go.Proofs
def Tryz.Rc:Go.Shelf.Ren:=⟨fun | 5=>82 | 8=>131 | 7=>130 | 19=>186 | 20=>187 | 10=>177 | 11=>178 | 12=>179 | 13=>180 | 14=>181 | 15=>182 | 16=>183 | 17=>184 | 18=>185 | 30=>229 | 31=>230 | 32=>231 | 33=>232 | 34=>233 | 35=>234 | 40=>258 | n=>n,fun | 23=>55 | 25=>3 | 3=>3 | 32=>210 | 22=>55 | 0=>0 | 44=>258 | 46=>247 | 4=>4 | 36=>253 | 35=>252 | 41=>176 | 5=>5 | 9=>9 | 53=>292 | 57=>296 | 63=>311 | 64=>98 | n=>n,fun | n=>n⟩
theorem Tryz.Ue:Go.Proofs.SlLaysM.n5 Tryz.prog Tryz.Rc:={
 mixed:=by kernel_rfl
 f5:=⟨Tryz.f82.name,by decide,Tryz.func82.trans (congrArg some (by kernel_rfl))⟩
 f7:=⟨Tryz.f130.name,by decide,Tryz.func130.trans (congrArg some (by kernel_rfl))⟩
 f8:=Tryz.func131.trans (congrArg some (by kernel_rfl))
 f10:=⟨Tryz.f177.name,by decide,Tryz.func177.trans (congrArg some (by kernel_rfl))⟩
 f11:=⟨Tryz.f178.name,by decide,Tryz.func178.trans (congrArg some (by kernel_rfl))⟩
 f12:=⟨Tryz.f179.name,by decide,Tryz.func179.trans (congrArg some (by kernel_rfl))⟩
 f13:=⟨Tryz.f180.name,by decide,Tryz.func180.trans (congrArg some (by kernel_rfl))⟩
 f14:=⟨Tryz.f181.name,by decide,Tryz.func181.trans (congrArg some (by kernel_rfl))⟩
 f15:=⟨Tryz.f182.name,by decide,Tryz.func182.trans (congrArg some (by kernel_rfl))⟩
 f16:=⟨Tryz.f183.name,by decide,Tryz.func183.trans (congrArg some (by kernel_rfl))⟩
 f17:=⟨Tryz.f184.name,by decide,Tryz.func184.trans (congrArg some (by kernel_rfl))⟩
 f18:=⟨Tryz.f185.name,by decide,Tryz.func185.trans (congrArg some (by kernel_rfl))⟩
 f19:=Tryz.func186.trans (congrArg some (by kernel_rfl))
 f20:=Tryz.func187.trans (congrArg some (by kernel_rfl))
 f30:=⟨Tryz.f229.name,by decide,Tryz.func229.trans (congrArg some (by kernel_rfl))⟩
 f31:=Tryz.func230.trans (congrArg some (by kernel_rfl))
 f32:=Tryz.func231.trans (congrArg some (by kernel_rfl))
 f33:=⟨Tryz.f232.name,by decide,Tryz.func232.trans (congrArg some (by kernel_rfl))⟩
 f34:=⟨Tryz.f233.name,by decide,Tryz.func233.trans (congrArg some (by kernel_rfl))⟩
 f35:=⟨Tryz.f234.name,by decide,Tryz.func234.trans (congrArg some (by kernel_rfl))⟩
 f40:=⟨Tryz.f258.name,by decide,Tryz.func258.trans (congrArg some (by kernel_rfl))⟩
 t0:=Tryz.underlying0
 a0:=Tryz.isAgg0
 z0:=Tryz.sizeOf0
 v0:=Tryz.zeroValue0
 t3:=Tryz.underlying3
 a3:=Tryz.isAgg3
 z3:=Tryz.sizeOf3
 v3:=Tryz.zeroValue3
 t4:=Tryz.underlying4
 a4:=Tryz.isAgg4
 z4:=Tryz.sizeOf4
 v4:=Tryz.zeroValue4
 t5:=Tryz.underlying5
 a5:=Tryz.isAgg5
 z5:=Tryz.sizeOf5
 v5:=Tryz.zeroValue5
 t9:=Tryz.underlying9
 a9:=Tryz.isAgg9
 z9:=Tryz.sizeOf9
 v9:=Tryz.zeroValue9
 t22:=Tryz.underlying55
 a22:=Tryz.isAgg55
 z22:=Tryz.sizeOf55
 v22:=Tryz.zeroValue55
 t23:=Tryz.underlying55
 a23:=Tryz.isAgg55
 z23:=Tryz.sizeOf55
 v23:=Tryz.zeroValue55
 t25:=Tryz.underlying3
 a25:=Tryz.isAgg3
 z25:=Tryz.sizeOf3
 v25:=Tryz.zeroValue3
 t32:=Tryz.underlying210
 a32:=Tryz.isAgg210
 z32:=Tryz.sizeOf210
 v32:=Tryz.zeroValue210
 t35:=Tryz.underlying252
 a35:=Tryz.isAgg252
 z35:=Tryz.sizeOf252
 v35:=Tryz.zeroValue252
 t36:=Tryz.underlying253
 a36:=Tryz.isAgg253
 z36:=Tryz.sizeOf253
 v36:=Tryz.zeroValue253
 t41:=Tryz.underlying176
 a41:=Tryz.isAgg176
 z41:=Tryz.sizeOf176
 v41:=Tryz.zeroValue176
 t44:=Tryz.underlying258
 a44:=Tryz.isAgg258
 z44:=Tryz.sizeOf258
 v44:=Tryz.zeroValue258
 t46:=Tryz.underlying247
 a46:=Tryz.isAgg247
 z46:=Tryz.sizeOf247
 v46:=Tryz.zeroValue247
 t53:=Tryz.underlying292
 a53:=Tryz.isAgg292
 z53:=Tryz.sizeOf292
 v53:=Tryz.zeroValue292
 t57:=Tryz.underlying296
 a57:=Tryz.isAgg296
 z57:=Tryz.sizeOf296
 v57:=Tryz.zeroValue296
 t63:=Tryz.underlying311
 a63:=Tryz.isAgg311
 z63:=Tryz.sizeOf311
 v63:=Tryz.zeroValue311
 t64:=Tryz.underlying98
 a64:=Tryz.isAgg98
 z64:=Tryz.sizeOf98
 v64:=Tryz.zeroValue98 }
def sB (κ:Nat) (x:List Int):Jp (List Int) :=
 ⟨Tryz.prog,82,[ow κ x],κ,cp 3 1 bJ x,fun y=>cp 3 1 bJ y,iA x,x.length < 4611686018427387904,
  fun h=>abk (by kernel_rfl) (fun blk off cap zs w=>AnyM.slices_Sort_int Tryz.Ue blk off cap zs w) (fun p cap w=>AnyM.slices_Sort_int_none Tryz.Ue p cap w) κ 3 x h,
  fun y=>y.length=x.length,by simp [iA]⟩
end
section
open Go Go.Av Go.Shelf Go.Proofs
def Tryz.Jr:Go.Shelf.Ren:=⟨fun | 20=>83 | n=>n,fun | 22=>55 | 3=>3 | 4=>4 | 0=>0 | n=>n,fun | n=>n⟩
theorem Tryz.IQ:Go.Proofs.Lays2.n20 Tryz.prog Tryz.Jr:={
 mixed:=by kernel_rfl
 f20:=Tryz.func83.trans (congrArg some (by kernel_rfl))
 t0:=Tryz.underlying0
 a0:=Tryz.isAgg0
 z0:=Tryz.sizeOf0
 v0:=Tryz.zeroValue0
 t3:=Tryz.underlying3
 a3:=Tryz.isAgg3
 z3:=Tryz.sizeOf3
 v3:=Tryz.zeroValue3
 t4:=Tryz.underlying4
 a4:=Tryz.isAgg4
 z4:=Tryz.sizeOf4
 v4:=Tryz.zeroValue4
 t22:=Tryz.underlying55
 a22:=Tryz.isAgg55
 z22:=Tryz.sizeOf55
 v22:=Tryz.zeroValue55
 i3:=by kernel_rfl }
theorem LD (x:List Int):(Lib.compact x).length≤x.length:=by
 unfold Lib.compact Lib.compactUpTo
 rw [List.length_map]
 exact Nat.le_trans (List.length_filter_le _ _) (by simp)
def nC (κ κ':Nat) (x:List Int):Jq (List Int) :=
 ⟨Tryz.prog,83,[ow κ x],[(κ,cp 3 1 bJ x)],fun y=>ow κ' y,fun y=>[(κ',cp 3 1 bJ y)],Lib.compact x,True,
  fun _=>T9 (by kernel_rfl) x _ (LD x) (fun blk cap w h1 h2 h3=>Any.slices_Compact_int Tryz.IQ blk 0 cap x w h1 h2 h3) (fun p cap w=>Any.slices_Compact_int_empty Tryz.IQ p cap w) κ κ' 3,
  fun y=>y.length≤x.length,LD x⟩
end
def qa (f:aw) (day:Int):Sk (View) :=
 .r 1 ((c9 f day).c) fun x1 =>
 .r 2 (.o [.wK (mkM dB)]) fun _ =>
 .bt
 (.loop (default:Sum (View) ((List (Int × Bool)))) (fun i3=>i3.1≤x1.aU.length) (fun i3=>x1.aU.length - i3.1) ((0,([]:List (Int × Bool))):Nat × (List (Int × Bool)))
 (fun (i3:Nat × (List (Int × Bool)))=>⟨[(22,iv ((i3.1:Nat):Int))],[(17,mpM dB i3.2)]⟩) fun i3=>let aV:=(x1.aU.getD i3.1 default);
 .lt 20 0 i3.1 x1.aU.length
 (.r 5 (.p (bM ((i3.1:Nat):Int) x1.aU.length)) fun _ =>
 .br ((aV.kind) == 7)
 (.r 7 (.aj (.t (T3 dB i3.2)) (.o [.wK (agl dB i3.2 (aV.at_) true)])) fun _ =>
 .r 8 .z fun _ =>
 .wi 22 (aK (((i3.1:Nat):Int)+1)) ((i3.1+1:Nat):Int) <|
 .fin (.inr (i3.1+1,vB i3.2 (aV.at_) true)))
 (.nx 8 22 i3.1 (i3.1+1,i3.2)))
 (.fin (.inl (.inr i3.2))))
 (fun (b2:(List (Int × Bool)))=>⟨[],[(17,mpM dB b2)]⟩) fun b2 =>
 .bind true (fun b4=>b4.length≤0+x1.af.length)
 (.loop (default:Sum (View) ((List Int))) (fun i5=>i5.1≤x1.af.length∧i5.2.length≤0+i5.1) (fun i5=>x1.af.length - i5.1) ((0,[]):Nat × (List Int))
 (fun (i5:Nat × (List Int))=>⟨[(37,iv ((i5.1:Nat):Int))],[(100002,cp 3 1 bJ i5.2),(5,.box (f.cells.map .d++x1.cells.map .d++[iv day,ow 100002 i5.2]))]⟩) fun i5=>let cF:=((i5.1:Nat):Int); let az:=(x1.af.getD i5.1 default);
 .lt 35 0 i5.1 x1.af.length
 (.r 11 (.p (bM cF x1.af.length)) fun _ =>
 .r 12 (.wh ((az.kind) == 2) true (.aj (.t (T3 dB b2)) (.o [.cast 48 (getM dB b2 cF false)]))) fun _ =>
 .br (((az.kind) == 2)&&(!(Ht b2 cF false)))
 (.r 13 (.aj (.o [.cU (dG cN [az.part])]) (.aj (.o [.cU (kx cN i5.2 [az.part])]) (.aj (.t (cN.k6 [az.part])) (.p (uG i5.2.length [az.part].length 8))))) fun _ =>
 .nx 14 37 i5.1 (i5.1+1,i5.2++[az.part]))
 (.nx 14 37 i5.1 (i5.1+1,i5.2)))
 (.fin (.inl (.inr i5.2))))
 (fun (b4:(List Int))=>⟨[],[(100001,cp 3 1 bJ b4),(5,.box (f.cells.map .d++x1.cells.map .d++[iv day,ow 100001 b4]))]⟩) fun b4 =>
 .r 15 ((sB 100001 b4).c) fun x6 =>
 .wn 100001 b4.length x6.length <|
 .r 16 ((nC 100001 64 x6).c) fun x7 =>
 .br (((x7.length:Nat):Int) == 0)
 (.r 18 (.o [.cU (dG cN [0])]) fun _ =>
 .fin ({ all:=f,now:=x1,day:=day,lead:=[0] }:View))
 (.fin ({ all:=f,now:=x1,day:=day,lead:=x7 }:View))
def bN f day:=(qa f day).val
theorem FW (f:aw) (day:Int):(qa f day).dq (fun (x:View)=>x.all=f∧x.now=au f day∧x.day=day∧x.lead.length≠0∧x.lead.length≤1+f.af.length):=by
  unfold qa
  try simp only [c9,nC,sB,Jp.c,Jq.c,aw.Small,ah.Small]
  exact Ly

theorem xW (f:aw) (day:Int):(fun (x:View)=>x.all=f∧x.now=au f day∧x.day=day∧x.lead.length≠0∧x.lead.length≤1+f.af.length) (bN f day):=have h:=Sk.dc _ (FW f day); h
theorem Uf (f:aw) (day:Int) (bn:f.Small):(qa f day).bq (fun _=>True):=by
  simp only [aw.Small,ah.Small] at bn
  unfold qa
  try simp only [c9,nC,sB,Jp.c,Jq.c,aw.Small,ah.Small]
  exact mH

def pJ f day:=kp tok mixed Tryz.func36 [av f.cells,iv day] (fun x=>av x.cells) false (bN f day) (Uf f day) (FW f day)
structure al where
  known:Bool
  n:Int
  deriving Inhabited
def al.cells (c:al):List D:=[dB c.known,dI c.n]
def al.E:Lt al:=⟨al.cells,2,fun _=>rfl,fun _=>rfl⟩
structure l7 where
  cell:al
  order:Int
  path:List Int
  err:Int
  deriving Inhabited
def l7.cells (c:l7):List D:=c.cell.cells++[dI c.order,mN bJ c.path,dI c.err]
structure cG where
  file:aw
  sign:Int
  cL:Int
  gy:Int
  due:Int
  day:Int
  deriving Inhabited
def cG.cells (c:cG):List D:=c.file.cells++[dI c.sign,dI c.cL,dI c.gy,dI c.due,dI c.day]
def mh (a:cZ) (v:cG):Sk (Bool) :=
 .fin (decide (a.at_≤v.sign))
def eM a v:=(mh a v).val
theorem xf (a:cZ) (v:cG):eM a v=(decide (a.at_≤v.sign)):=rfl
theorem FX (a:cZ) (v:cG):(mh a v).bq (fun _=>True):=by
  unfold mh
  exact mP

def rO a v:=kk tok mixed Tryz.func248 [av a.cells,.ref v.cells] (fun x=>bv x) true (mh a v) (eM a v) (u0 (FX a v))
def fg (s:List cZ) (v:cG):Sk (Int) :=
 .bind true (fun b1=>∀ q,q < s.length→eM (s.getD q default) v=false)
 (.loop (default:Sum (Int) (Unit)) (fun i2=>∀ q,q < i2→eM (s.getD q default) v=false) (fun i2=>s.length - i2) (0:Nat)
 (fun (i2:Nat)=>⟨[(8,iv ((i2:Nat):Int))],[]⟩) fun i2 =>
 .lt 0 0 i2 s.length
 (.r 4 (.aj (.p (bM ((i2:Nat):Int) s.length)) ((rO (s.getD i2 default) v).c)) fun x3 =>
 .br x3
 (.fin (.inl (.inl ((i2:Nat):Int))))
 (.nx 6 8 i2 (i2+1)))
 (.fin (.inl (.inr ()))))
 (fun (_:Unit)=>⟨[],[]⟩) fun _ =>
 .fin (-1)
def B4 s v:=(fg s v).val
theorem xX (s:List cZ) (v:cG):(fg s v).dq (fun (x:Int)=>(x = -1∧∀ q,q < s.length→eM (s.getD q default) v=false)∨(0≤x∧x < s.length∧eM (s.getD x.toNat default) v=true∧∀ q,(q:Nat) < x.toNat→eM (s.getD q default) v=false)):=by
  unfold fg
  try simp only [rO,xf]
  exact Yp

theorem yT (s:List cZ) (v:cG):(fg s v).bq (fun _=>True):=by
  unfold fg
  try simp only [rO,xf]
  exact xV

def k8 s v:=kp tok mixed Tryz.func273 [lv cZ.cells s,.fn 248 [.ref v.cells]] (fun x=>iv x) true (B4 s v) (u0 (yT s v)) (xX s v)
def dM (s:List cZ) (v:cG):Sk (Bool) :=
 .r 1 ((k8 s v).c) fun x1 =>
 .fin (decide (x1≥0))
def fh s v:=(dM s v).val
theorem mi (s:List cZ) (v:cG):(dM s v).dq (fun (x:Bool)=>(x=true↔∃ q,q < s.length∧eM (s.getD q default) v=true)):=by
  unfold dM
  try simp only [k8]
  exact Ly

theorem tZ (s:List cZ) (v:cG):(fun (x:Bool)=>(x=true↔∃ q,q < s.length∧eM (s.getD q default) v=true)) (fh s v):=have h:=Sk.dc _ (mi s v); h
theorem vD (s:List cZ) (v:cG):(dM s v).bq (fun _=>True):=by
  unfold dM
  try simp only [k8]
  exact mP

def jg s v:=kp tok mixed Tryz.func247 [lv cZ.cells s,.fn 248 [.ref v.cells]] (fun x=>bv x) true (fh s v) (u0 (vD s v)) (mi s v)
def xg (i:Int) (n:Int):Sk (Bool) :=
 .fin ((decide (i≥0))&&(decide (i < n)))
def iP i n:=(xg i n).val
theorem jz (i:Int) (n:Int):iP i n=((decide (i≥0))&&(decide (i < n))):=rfl
theorem Ug (i:Int) (n:Int):(xg i n).bq (fun _=>True):=by
  unfold xg
  exact mP

def cy i n:=kk tok mixed Tryz.func194 [iv i,iv n] (fun x=>bv x) true (xg i n) (iP i n) (u0 (Ug i n))
def nE (r:ah) (aL:Int):Sk (Int) :=
 .r 1 ((cy aL ((r.aB.length:Nat):Int)).c) fun x1 =>
 .br (!x1)
 (.fin (-1))
 (.r 3 (.p (bM aL r.aB.length)) fun _ =>
 .fin ((r.aB.getD aL.toNat default).order))
def bz r aL:=(nE r aL).val
theorem Hz (r:ah) (aL:Int):(nE r aL).bq (fun _=>True):=by
  unfold nE
  try simp only [cy,jz]
  exact xV

def df r aL:=kk tok mixed Tryz.func202 [av r.cells,iv aL] (fun x=>iv x) true (nE r aL) (bz r aL) (u0 (Hz r aL))
def pb (xY:Bool):Sk (al) :=
 .br xY
 (.fin ({ known:=true,n:=1 }:al))
 (.fin ({ known:=true,n:=0 }:al))
def dr xY:=(pb xY).val
theorem Jt (xY:Bool):(pb xY).bq (fun _=>True):=by
  unfold pb
  exact mP

def kz xY:=kk tok mixed Tryz.func249 [bv xY] (fun x=>av x.cells) true (pb xY) (dr xY) (u0 (Jt xY))
def mQ (f:aw) (kind:Int) (at_:Int):Sk (al) :=
 .bt
 (.loop (default:Sum (al) (Unit)) (fun i2=>i2≤f.facts.length) (fun i2=>f.facts.length - i2) (0:Nat)
 (fun (i2:Nat)=>⟨[(12,iv ((i2:Nat):Int))],[]⟩) fun i2=>let az:=(f.facts.getD i2 default);
 .lt 10 0 i2 f.facts.length
 (.r 3 (.p (bM ((i2:Nat):Int) f.facts.length)) fun _ =>
 .br (((az.kind) == kind)&&((az.at_) == at_))
 (.r 5 ((kz ((az.n) != 0)).c) fun x3 =>
 .fin (.inl (.inl x3)))
 (.nx 6 12 i2 (i2+1)))
 (.fin (.inl (.inr ()))))
 (fun (_:Unit)=>⟨[],[]⟩) fun _ =>
 .fin ({ known:=false,n:=0 }:al)
def gH f kind at_:=(mQ f kind at_).val
theorem LF (f:aw) (kind:Int) (at_:Int):(mQ f kind at_).bq (fun _=>True):=by
  unfold mQ
  try simp only [kz]
  exact mH

def jY f kind at_:=kk tok mixed Tryz.func250 [av f.cells,iv kind,iv at_] (fun x=>av x.cells) true (mQ f kind at_) (gH f kind at_) (u0 (LF f kind at_))
def mR (r:ah) (c_:cG):Sk ((List al)):=let HA:=(decide (c_.cL < (-1))); let rz:=({ known:=false,n:=0 }:al); let kV:=(dk c_.cL 0); let eG:=((c_.file.af.length:Nat):Int); let aV:=(c_.file.af.getD c_.sign.toNat default);
 .r 3 (.dep ((eV c_.sign eG).c) fun x1=>.wh (((!x1)||HA)||(decide (kV≥eG))) false (.wh (c_.due != (-1)) true ((eV c_.due 100001).c))) fun p25 =>
 .br ((((!p25.1)||HA)||(decide (kV≥eG)))||((c_.due != (-1))&&(!p25.2)))
 (.fin [])
 (.r 5 (.p (bM c_.sign c_.file.af.length)) fun _ =>
 .r 6 ((eV (aV.day) 100001).c) fun x3 =>
 .br (!x3)
 (.fin [])
 (.bind false (fun _=>True)
 (.br (c_.due != (-1))
 (.fin (.inr (aK ((aV.day) - c_.due))))
 (.fin (.inr 0)))
 (fun (b4:Int)=>⟨[(9,iv b4)],[]⟩) fun b4 =>
 .r 11 (.aj (.o [.cU (mkC al.E 20 rz)]) (.p (WK (20:Int) 16))) fun _ =>
 .r 12 (.aj (.o [.wK agk]) (.aj (.o [.wK (agj dI 0 c_.file.aM.sum)]) (.aj (.o [.wK (Hs dI [0] [c_.file.aM.sum] rfl 1 c_.file.aM.parts)]) (.aj (.o [.wK (Hs dI [0,1] [c_.file.aM.sum,c_.file.aM.parts] rfl 2 c_.file.aM.aC.kind)]) (.aj (.o [.wK (Hs dI [0,1,2] [c_.file.aM.sum,c_.file.aM.parts,c_.file.aM.aC.kind] rfl 3 c_.file.aM.oz)]) (.aj (.o [.wK (Hs dI [0,1,2,3] [c_.file.aM.sum,c_.file.aM.parts,c_.file.aM.aC.kind,c_.file.aM.oz] rfl 4 (aV.kind))]) (.aj (.o [.wK (Hs dI [0,1,2,3,4] [c_.file.aM.sum,c_.file.aM.parts,c_.file.aM.aC.kind,c_.file.aM.oz,aV.kind] rfl 5 c_.gy)]) (.o [.wK (Hs dI [0,1,2,3,4,5] [c_.file.aM.sum,c_.file.aM.parts,c_.file.aM.aC.kind,c_.file.aM.oz,aV.kind,c_.gy] rfl 6 b4)])))))))) fun _ =>
 .bind true (fun b5=>b5.length=20)
 (.mr 7 (fun g6=>g6.length=20) (List.replicate 20 rz:(List al))
 (fun g6 s8=>⟨[(10,ow 100002 g6)],[(100002,cp 131 2 al.cells g6),(90,.it 74 7 s8)]⟩)
 (fun g9=>⟨[(10,ow 100002 g9)],[(100002,cp 131 2 al.cells g9)]⟩)
 (fun g6 i7 =>
 .PL <|
 .r 14 (.p (i7 < 7)) fun _ =>
 .r 15 (.aj (.p (bM (([0,1,2,3,4,5,6]:List Int).getD i7 0) g6.length)) (.aj (.o [.cU (j6 al.E g6 ((([0,1,2,3,4,5,6]:List Int).getD i7 0).toNat) ({ known:=true,n:=([c_.file.aM.sum,c_.file.aM.parts,c_.file.aM.aC.kind,c_.file.aM.oz,aV.kind,c_.gy,b4]:List Int).getD i7 default }:al))]) (.p ((([0,1,2,3,4,5,6]:List Int).getD i7 0).toNat < g6.length)))) fun _ =>
 .wn 100002 g6.length (g6.set ((([0,1,2,3,4,5,6]:List Int).getD i7 0).toNat) ({ known:=true,n:=([c_.file.aM.sum,c_.file.aM.parts,c_.file.aM.aC.kind,c_.file.aM.oz,aV.kind,c_.gy,b4]:List Int).getD i7 default }:al)).length <|
 .fin (g6.set ((([0,1,2,3,4,5,6]:List Int).getD i7 0).toNat) ({ known:=true,n:=([c_.file.aM.sum,c_.file.aM.parts,c_.file.aM.aC.kind,c_.file.aM.oz,aV.kind,c_.gy,b4]:List Int).getD i7 default }:al))) fun g9 =>
 .PM <|
 .fin (.inr g9))
 (fun (b5:(List al))=>⟨[(90,.any),(10,ow 100001 b5)],[(100001,cp 131 2 al.cells b5)]⟩) fun b5 =>
 .r 16 ((jg c_.file.aN c_).c) fun Ju =>
 .r 17 (.dep ((df r c_.file.aM.aL).c) fun _=>(df r c_.file.aM.rD).c) fun p24 =>
 .r 18 (.aj (.o [.wK agk]) (.aj (.o [.wK (agj dB 7 ((dh .i64 c_.file.aM.flags 1) != 0))]) (.aj (.o [.wK (Hs dB [7] [(dh .i64 c_.file.aM.flags 1) != 0] rfl 8 (c_.file.aM.fY == (-1)))]) (.aj (.o [.wK (Hs dB [7,8] [(dh .i64 c_.file.aM.flags 1) != 0,c_.file.aM.fY == (-1)] rfl 9 ((dh .i64 c_.file.aM.flags 4) != 0))]) (.aj (.o [.wK (Hs dB [7,8,9] [(dh .i64 c_.file.aM.flags 1) != 0,c_.file.aM.fY == (-1),(dh .i64 c_.file.aM.flags 4) != 0] rfl 10 ((dh .i64 c_.file.aM.flags 2) != 0))]) (.aj (.o [.wK (Hs dB [7,8,9,10] [(dh .i64 c_.file.aM.flags 1) != 0,c_.file.aM.fY == (-1),(dh .i64 c_.file.aM.flags 4) != 0,(dh .i64 c_.file.aM.flags 2) != 0] rfl 11 (p24.1 != p24.2))]) (.aj (.o [.wK (Hs dB [7,8,9,10,11] [(dh .i64 c_.file.aM.flags 1) != 0,c_.file.aM.fY == (-1),(dh .i64 c_.file.aM.flags 4) != 0,(dh .i64 c_.file.aM.flags 2) != 0,p24.1 != p24.2] rfl 12 Ju)]) (.aj (.o [.wK (Hs dB [7,8,9,10,11,12] [(dh .i64 c_.file.aM.flags 1) != 0,c_.file.aM.fY == (-1),(dh .i64 c_.file.aM.flags 4) != 0,(dh .i64 c_.file.aM.flags 2) != 0,p24.1 != p24.2,Ju] rfl 13 ((dh .i64 (aV.flags) 1) != 0))]) (.o [.wK (Hs dB [7,8,9,10,11,12,13] [(dh .i64 c_.file.aM.flags 1) != 0,c_.file.aM.fY == (-1),(dh .i64 c_.file.aM.flags 4) != 0,(dh .i64 c_.file.aM.flags 2) != 0,p24.1 != p24.2,Ju,(dh .i64 (aV.flags) 1) != 0] rfl 14 (decide (b4 > 0)))]))))))))) fun _ =>
 .bind true (fun WQ=>WQ.length=20)
 (.mr 8 (fun g14=>g14.length=20) (b5:(List al))
 (fun g14 s16=>⟨[(10,ow 100005 g14)],[(100005,cp 131 2 al.cells g14),(139,.it 114 8 s16)]⟩)
 (fun g18=>⟨[(10,ow 100005 g18)],[(100005,cp 131 2 al.cells g18)]⟩)
 (fun g14 i15 =>
 .PL <|
 .r 20 (.p (i15 < 8)) fun _ =>
 .r 21 (.gw ((kz (([(dh .i64 c_.file.aM.flags 1) != 0,c_.file.aM.fY == (-1),(dh .i64 c_.file.aM.flags 4) != 0,(dh .i64 c_.file.aM.flags 2) != 0,p24.1 != p24.2,Ju,(dh .i64 (aV.flags) 1) != 0,decide (b4 > 0)]:List Bool).getD i15 default)).c) fun x17=>.aj (.p (bM (([7,8,9,10,11,12,13,14]:List Int).getD i15 0) g14.length)) (.aj (.o [.cU (j6 al.E g14 ((([7,8,9,10,11,12,13,14]:List Int).getD i15 0).toNat) x17)]) (.p ((([7,8,9,10,11,12,13,14]:List Int).getD i15 0).toNat < g14.length)))) fun x17 =>
 .wn 100005 g14.length (g14.set ((([7,8,9,10,11,12,13,14]:List Int).getD i15 0).toNat) x17).length <|
 .fin (g14.set ((([7,8,9,10,11,12,13,14]:List Int).getD i15 0).toNat) x17)) fun g18 =>
 .PM <|
 .fin (.inr g18))
 (fun (WQ:(List al))=>⟨[(139,.any),(10,ow 100004 WQ)],[(100004,cp 131 2 al.cells WQ)]⟩) fun WQ =>
 .r 22 (.gw ((jY c_.file 0 c_.sign).c) fun x19=>.aj (.p (bM (15:Int) WQ.length)) (.aj (.o [.cU (j6 al.E WQ 15 x19)]) (.p (15 < WQ.length)))) fun x19 =>
 .wn 100004 WQ.length (WQ.set 15 x19).length <|
 .r 23 (.gw ((jY c_.file 1 c_.sign).c) fun x20=>.aj (.p (bM (16:Int) ((WQ.set 15 x19).length))) (.aj (.o [.cU (j6 al.E (WQ.set 15 x19) 16 x20)]) (.p (16 < (WQ.set 15 x19).length)))) fun x20=>let cF:=((WQ.set 15 x19).set 16 x20);
 .wn 100004 (WQ.set 15 x19).length cF.length <|
 .r 24 (.gw ((jY c_.file 2 c_.sign).c) fun x21=>.aj (.p (bM (17:Int) (cF.length))) (.aj (.o [.cU (j6 al.E cF 17 x21)]) (.p (17 < cF.length)))) fun x21=>let az:=(cF.set 17 x21);
 .wn 100004 cF.length az.length <|
 .r 25 (.gw ((jY c_.file 3 kV).c) fun Uh=>.aj (.p (bM (18:Int) (az.length))) (.aj (.o [.cU (j6 al.E az 18 Uh)]) (.p (18 < az.length)))) fun Uh =>
 .wn 100004 az.length (az.set 18 Uh).length <|
 .r 26 (.gw ((jY c_.file 4 kV).c) fun x23=>.aj (.p (bM (19:Int) ((az.set 18 Uh).length))) (.aj (.o [.cU (j6 al.E (az.set 18 Uh) 19 x23)]) (.p (19 < (az.set 18 Uh).length)))) fun x23=>let B2:=((az.set 18 Uh).set 19 x23);
 .wn 100004 (az.set 18 Uh).length B2.length <|
 .fin B2))
def xh r c_:=(mR r c_).val
theorem adM:(∀ i,i < 7→0≤([0,1,2,3,4,5,6]:List Int).getD i 0∧([0,1,2,3,4,5,6]:List Int).getD i 0 < 20)∧∀ i,i < 7→∀ j,j < 7→i≠j→(([0,1,2,3,4,5,6]:List Int).getD j 0).toNat≠(([0,1,2,3,4,5,6]:List Int).getD i 0).toNat:=by decide
theorem adN:(∀ i,i < 8→0≤([7,8,9,10,11,12,13,14]:List Int).getD i 0∧([7,8,9,10,11,12,13,14]:List Int).getD i 0 < 20)∧∀ i,i < 8→∀ j,j < 8→i≠j→(([7,8,9,10,11,12,13,14]:List Int).getD j 0).toNat≠(([7,8,9,10,11,12,13,14]:List Int).getD i 0).toNat:=by decide
theorem Jv (r:ah) (c_:cG):(mR r c_).dq (fun (x:(List al))=>x=[]∨(x.length=20∧0≤c_.sign∧c_.sign < c_.file.af.length)):=by
  refine Sk.bh _ ?_
  unfold mR
  simp only [Sk.cK,Sk.aD,reduceCtorEq,ON,kk,kp,df,jY,kz,eV,jg,ky,forall_eq,maxLen]
  all_goals (repeat' first | assumption | (apply And.intro) | (intro h))
  all_goals first | trivial | assumption | omega | ((try simp only [LN] at *) <;> first | omega | (refine (aq ?_ ?_).trans ?_ <;> omega) | (simp (disch:=omega) only [aq] at *; omega) | (grind) | (simp_all; done) | (simp_all; omega))

theorem LG (r:ah) (c_:cG):(mR r c_).bq (fun _=>True):=by
  refine Sk.aO _ ?_
  unfold mR
  simp only [Sk.gx,Sk.aD,reduceCtorEq,ON,kk,kp,Sk.dq,df,jY,kz,eV,jg,ky,forall_eq,maxLen]
  all_goals (repeat' first | (apply And.intro) | (intro h))
  all_goals first | trivial | assumption | omega | (have:=adM.1 _ ‹_ < 7›; (try simp only [LN] at *) <;> omega) | (have:=adN.1 _ ‹_ < 8›; (try simp only [LN] at *) <;> omega) | exact List.set_comm _ _ (adM.2 _ ‹_› _ ‹_› ‹_›) | exact List.set_comm _ _ (adN.2 _ ‹_› _ ‹_› ‹_›) | ((try simp only [LN] at *) <;> omega)

def xZ r c_:=kp tok mixed Tryz.func218 [av r.cells,av c_.cells] (fun x=>lv al.cells x) false (xh r c_) (u0 (LG r c_)) (Jv r c_)
def yU (r:ah) (c_:cG):Sk (cG × (List al)) :=
 .r 1 ((c9 c_.file c_.day).c) fun x1=>let az:=({ file:=x1,sign:=c_.sign,cL:=c_.cL,gy:=c_.gy,due:=c_.due,day:=c_.day }:cG);
 .r 2 ((xZ r az).c) fun x2 =>
 .fin (az,x2)
def eO r c_:=(yU r c_).val
theorem LH (r:ah) (c_:cG):(yU r c_).dq (fun (x:cG × (List al))=>x.2=[]∨(x.2.length=20∧0≤x.1.sign∧x.1.sign < x.1.file.af.length)):=by
  unfold yU
  try simp only [c9,xZ,aw.Small,ah.Small]
  exact Ly

theorem Ui (r:ah) (c_:cG):(fun (x:cG × (List al))=>x.2=[]∨(x.2.length=20∧0≤x.1.sign∧x.1.sign < x.1.file.af.length)) (eO r c_):=have h:=Sk.dc _ (LH r c_); h
theorem Zx (r:ah) (c_:cG) (hf:c_.file.Small):(yU r c_).bq (fun _=>True):=by
  simp only [aw.Small,ah.Small] at hf
  unfold yU
  try simp only [c9,xZ,aw.Small,ah.Small]
  exact mH

def LI r c_:=kp tok mixed Tryz.func165 [av r.cells,av c_.cells] (fun x=>.fb [av x.1.cells,lv al.cells x.2]) false (eO r c_) (Zx r c_) (LH r c_)
theorem Uj {α:Type} (p:α→Bool) (l:List α):(l.filter p).filter p=l.filter p:=by simp
theorem B5 {α:Type} (p:α→Bool):∀ (l:List α),(l.takeWhile p).takeWhile p=l.takeWhile p
  | []=>rfl
  | x :: r=>by
    rw [List.takeWhile_cons]
    cases h:p x with
    | false=>rfl
    | true=>rw [if_pos rfl,List.takeWhile_cons,h,if_pos rfl,B5 p r]
def kA (kind at_:Int) (x:Fact) (s:Unit):al ⊕ Unit:=bif (x.kind == kind)&&(x.at_ == at_) then .inl (dr (x.n != 0)) else .inr ()
theorem Re (f:aw) (kind at_:Int):gH f kind at_=walk (kA kind at_) (fun _=>⟨false,0⟩) f.facts ():=by
  simp only [gH,mQ,Sk.cz,Sk.cY,Sk.ct,Sk.bK,Sk.cE,Sk.cV,Sk.bg,fD.wG,kk,kp,kz]
  refine (bD f.facts (fun s i=>i) (kA kind at_) id _ (fun s i hi=>?_) (fun s=>?_) (by simp) ()).trans rfl
  · rw [decide_eq_true (by omega),cond_true]
    unfold kA
    cases (((f.facts.getD i default).kind == kind)&&((f.facts.getD i default).at_ == at_)) <;> rfl
  · rw [decide_eq_false (by omega),cond_false]
theorem LJ {n:Nat} {g:Nat→Int} (h:∀ q,q < n→q≠0→g (q - 1)≤g q) (i:Nat):∀ k,i+k < n→g i≤g (i+k)
  | 0,_=>Int.le_refl _
  | k+1,hk=>Int.le_trans (LJ h i k (by omega)) (h (i+(k+1)) hk (by omega))
theorem Yt {α:Type} [Inhabited α] (p:α→Bool):∀ (l:List α) (i:Nat),i < l.length→(∀ q,q≤i→p (l.getD q default)=true)→i < (l.takeWhile p).length
  | [],i,h,_=>absurd h (by simp)
  | x :: r,i,h,hp=>by
    have h0:p x=true:=hp 0 (by omega)
    rw [List.takeWhile_cons,h0,if_pos rfl,List.length_cons]
    cases i with
    | zero=>omega
    | succ i=>have:=Yt p r i (by simpa using h) (fun q hq=>by have:=hp (q+1) (by omega); simpa using this); omega
theorem dK.mono {r:ah} {f:aw} (h:dK r f) {i j:Nat} (hij:i≤j) (hj:j < f.af.length):(f.af.getD i default).day≤(f.af.getD j default).day:=by
  have:=LJ (n:=f.af.length) (g:=fun q=>(f.af.getD q default).day) (fun q hq h0=>(h.2.2.1 q hq).2.1 h0) i (j - i) (by omega)
  rwa [show i+(j - i)=j by omega] at this
theorem dK.abl {r:ah} {f:aw} (h:dK r f) {d y:Int} (h0:0≤y) (h1:y < f.af.length) (h2:(f.af.getD y.toNat default).day≤d):y < (au f d).af.length:=by
  have:y.toNat < (au f d).af.length:=by
    rw [eW]
    refine Yt _ _ _ (by omega) (fun q hq=>decide_eq_true ?_)
    have:=h.mono hq (by omega)
    omega
  omega
theorem Uk (f:aw) (d:Int):(au f d).aM=f.aM:=by rw [eW]
theorem LK (f:aw) (d:Int) (i:Nat) (h:i < (au f d).af.length):(au f d).af.getD i default=f.af.getD i default:=by
  rw [eW] at h ⊢
  exact (vC _ _ _ h).1
theorem qx (f:aw) (d:Int):(au f d).af.length≤f.af.length:=by
  rw [eW]
  exact (List.takeWhile_sublist _).length_le
theorem Yu {f:aw} (h:f.qu) (d:Int):(au f d).qu:=by
  obtain ⟨h1,h2,h3,h4⟩:=h
  have h2:=(yS (P:=fun x:cZ=>wL x.sum)).1 h2
  have h3:=(yS (P:=fun x:Sign=>wL x.sum)).1 h3
  have h4:=(yS (P:=fun x:cT=>wL x.sum)).1 h4
  unfold aw.qu
  rw [eW]
  exact ⟨h1,(yS (P:=fun x:cZ=>wL x.sum)).2 fun x hx=>h2 x (List.mem_filter.1 hx).1,(yS (P:=fun x:Sign=>wL x.sum)).2 fun x hx=>h3 x ((List.takeWhile_sublist _).subset hx),(yS (P:=fun x:cT=>wL x.sum)).2 fun x hx=>h4 x ((List.takeWhile_sublist _).subset hx)⟩
theorem dK.Yv {r:ah} {f:aw} (h:dK r f) (d:Int):(au f d).qu:=Yu h.aeJ d
theorem qy {f:aw} (h:f.Small) (d:Int):(au f d).Small:=by
  have h1:=B3 f d
  unfold aw.Small at h ⊢
  dsimp only at h1
  omega
theorem dK.ac1 {r:ah} {f:aw} (h:dK r f) (d:Int):∀ i,i < (au f d).af.length→(((au f d).af.getD i default).kind=3∨((au f d).af.getD i default).kind=4)→0≤((au f d).af.getD i default).for_∧((au f d).af.getD i default).for_ < (i:Int):=by
  intro i hi
  rw [LK f d i hi]
  have:=qx f d
  exact (h.2.2.1 i (by omega)).2.2.2.2.2.2.2.2
theorem dK.abm {r:ah} {f:aw} (h:dK r f) (d:Int) {y:Int} (h0:0≤y) (h1:y < (au f d).af.length):0≤((au f d).af.getD y.toNat default).ja∧((au f d).af.getD y.toNat default).ja < (r.bu.length:Int):=by
  rw [LK f d y.toNat (by omega)]
  have:=qx f d
  exact (h.2.2.1 y.toNat (by omega)).1
def lD (s:List Int) (v:Int):Sk (Int) :=
 .bind true (fun b1=>∀ q,q < s.length→(s.getD q default == v)=false)
 (.loop (default:Sum (Int) (Unit)) (fun i2=>∀ q,q < i2→(s.getD q default == v)=false) (fun i2=>s.length - i2) (0:Nat)
 (fun (i2:Nat)=>⟨[(8,iv ((i2:Nat):Int))],[]⟩) fun i2 =>
 .lt 0 0 i2 s.length
 (.r 4 (.p (bM ((i2:Nat):Int) s.length)) fun _ =>
 .br (v == (s.getD i2 default))
 (.fin (.inl (.inl ((i2:Nat):Int))))
 (.nx 6 8 i2 (i2+1)))
 (.fin (.inl (.inr ()))))
 (fun (_:Unit)=>⟨[],[]⟩) fun _ =>
 .fin (-1)
def Rf s v:=(lD s v).val
theorem HB (s:List Int) (v:Int):(lD s v).dq (fun (x:Int)=>(x = -1∧∀ q,q < s.length→(s.getD q default == v)=false)∨(0≤x∧x < s.length∧(s.getD x.toNat default == v)=true∧∀ q,(q:Nat) < x.toNat→(s.getD q default == v)=false)):=by
  unfold lD
  exact Ly

theorem Jw (s:List Int) (v:Int):(lD s v).bq (fun _=>True):=by
  unfold lD
  exact mH

def vE s v:=kp tok mixed Tryz.func49 [lv bJ s,iv v] (fun x=>iv x) true (Rf s v) (u0 (Jw s v)) (HB s v)
def iQ (s:List Int) (v:Int):Sk (Bool) :=
 .r 1 ((vE s v).c) fun x1 =>
 .fin (decide (x1≥0))
def bP s v:=(iQ s v).val
theorem ur (s:List Int) (v:Int):(iQ s v).dq (fun (x:Bool)=>(x=true↔∃ q,q < s.length∧(s.getD q default == v)=true)):=by
  unfold iQ
  try simp only [vE]
  exact Ly

theorem mS (s:List Int) (v:Int):(fun (x:Bool)=>(x=true↔∃ q,q < s.length∧(s.getD q default == v)=true)) (bP s v):=have h:=Sk.dc _ (ur s v); h
theorem EL (s:List Int) (v:Int):(iQ s v).bq (fun _=>True):=by
  unfold iQ
  try simp only [vE]
  exact mP

def aP s v:=kp tok mixed Tryz.func21 [lv bJ s,iv v] (fun x=>bv x) true (bP s v) (u0 (EL s v)) (ur s v)
def sC (ask:Int):Sk (Int × Bool) :=
 .br ((decide (ask < 0))||(decide (ask≥22)))
 (.fin (0,false))
 (.r 3 (.aj (.o [.cU (dG cN [6,7,10,12,13,14,15,16,20,21])]) ((aP [6,7,10,12,13,14,15,16,20,21] ask).c)) fun x1 =>
 .br x1
 (.fin (0,true))
 (.fin (1,true)))
def di ask:=(sC ask).val
theorem NG (ask:Int):(sC ask).bq (fun _=>True):=by
  unfold sC
  try simp only [aP]
  exact mP

def k9 ask:=kk tok mixed Tryz.func166 [iv ask] (fun x=>.fb [iv x.1,bv x.2]) true (sC ask) (di ask) (u0 (NG ask))
def sD (r:ah) (ai:Int) (c_:cG):Sk ((List Int)):=let eG:=(List.replicate 5 (0:Int)); let cF:=(c_.file.af.getD c_.sign.toNat default); let az:=(eG.set 0 ai);
 .r 1 (.p (bM c_.sign c_.file.af.length)) fun _ =>
 .br ((((decide ((cF.ja) < 0))||(decide ((cF.ja)≥((r.bu.length:Nat):Int))))||(decide (ai < 0)))||(decide (ai≥((r.ak.length:Nat):Int))))
 (.fin [])
 (.r 4 (.aj (.o [.cU (mkC cN 5 0)]) (.p (WK (5:Int) 8))) fun _ =>
 .r 5 (.aj (.p (bM (0:Int) (eG.length))) (.aj (.o [.cU (j6 cN eG 0 ai)]) (.p (0 < eG.length)))) fun _ =>
 .wn 42 eG.length az.length <|
 .r 6 (.gw ((df r (cF.aL)).c) fun x1=>.aj (.p (bM (1:Int) (az.length))) (.aj (.o [.cU (j6 cN az 1 x1)]) (.p (1 < az.length)))) fun x1 =>
 .wn 42 az.length (az.set 1 x1).length <|
 .r 7 (.gw ((df r c_.file.aM.rD).c) fun x2=>.aj (.p (bM (2:Int) ((az.set 1 x1).length))) (.aj (.o [.cU (j6 cN (az.set 1 x1) 2 x2)]) (.p (2 < (az.set 1 x1).length)))) fun x2=>let aV:=((az.set 1 x1).set 2 x2);
 .wn 42 (az.set 1 x1).length aV.length <|
 .r 8 (.gw ((df r c_.file.aM.aL).c) fun x3=>.aj (.p (bM (3:Int) (aV.length))) (.aj (.o [.cU (j6 cN aV 3 x3)]) (.p (3 < aV.length)))) fun x3 =>
 .wn 42 aV.length (aV.set 3 x3).length <|
 .r 9 (.aj (.p (bM (cF.ja) r.bu.length)) (.gw ((df r ((r.bu.getD ((cF.ja).toNat) default).aL)).c) fun x4=>.aj (.p (bM (4:Int) ((aV.set 3 x3).length))) (.aj (.o [.cU (j6 cN (aV.set 3 x3) 4 x4)]) (.p (4 < (aV.set 3 x3).length))))) fun x4=>let kV:=((aV.set 3 x3).set 4 x4);
 .wn 42 (aV.set 3 x3).length kV.length <|
 .r 10 ((aP kV (-1)).c) fun x5 =>
 .br x5
 (.fin [])
 (.fin kV))
def gh r ai c_:=(sD r ai c_).val
theorem NH (r:ah) (ai:Int) (c_:cG) (hs:0≤c_.sign∧c_.sign < c_.file.af.length):(sD r ai c_).bq (fun _=>True):=by
  unfold sD
  try simp only [df,aP]
  exact mH

def z6 r ai c_:=kk tok mixed Tryz.func167 [av r.cells,iv ai,av c_.cells] (fun x=>.d (bif x.isEmpty then .v (.slice none 0 0) else mN bJ x)) false (sD r ai c_) (gh r ai c_) (NH r ai c_)
def kb (o:Int) (v:Int):Sk (Bool) :=
 .fin ((decide (o < 0))||(decide (o≥v)))
def dy o v:=(kb o v).val
theorem hZ (o:Int) (v:Int):dy o v=((decide (o < 0))||(decide (o≥v))):=rfl
theorem DN (o:Int) (v:Int):(kb o v).bq (fun _=>True):=by
  unfold kb
  exact mP

def pK o v:=kk tok mixed Tryz.func252 [iv o,.ref [dI v]] (fun x=>bv x) true (kb o v) (dy o v) (u0 (DN o v))
def fj (s:List Int) (v:Int):Sk (Int) :=
 .bind true (fun b1=>∀ q,q < s.length→dy (s.getD q default) v=false)
 (.loop (default:Sum (Int) (Unit)) (fun i2=>∀ q,q < i2→dy (s.getD q default) v=false) (fun i2=>s.length - i2) (0:Nat)
 (fun (i2:Nat)=>⟨[(8,iv ((i2:Nat):Int))],[]⟩) fun i2 =>
 .lt 0 0 i2 s.length
 (.r 4 (.aj (.p (bM ((i2:Nat):Int) s.length)) ((pK (s.getD i2 default) v).c)) fun x3 =>
 .br x3
 (.fin (.inl (.inl ((i2:Nat):Int))))
 (.nx 6 8 i2 (i2+1)))
 (.fin (.inl (.inr ()))))
 (fun (_:Unit)=>⟨[],[]⟩) fun _ =>
 .fin (-1)
def B6 s v:=(fj s v).val
theorem yb (s:List Int) (v:Int):(fj s v).dq (fun (x:Int)=>(x = -1∧∀ q,q < s.length→dy (s.getD q default) v=false)∨(0≤x∧x < s.length∧dy (s.getD x.toNat default) v=true∧∀ q,(q:Nat) < x.toNat→dy (s.getD q default) v=false)):=by
  unfold fj
  try simp only [pK,hZ]
  exact Yp

theorem yV (s:List Int) (v:Int):(fj s v).bq (fun _=>True):=by
  unfold fj
  try simp only [pK,hZ]
  exact xV

def lf s v:=kp tok mixed Tryz.func274 [lv bJ s,.fn 252 [.ref [dI v]]] (fun x=>iv x) true (B6 s v) (u0 (yV s v)) (yb s v)
def dN (s:List Int) (v:Int):Sk (Bool) :=
 .r 1 ((lf s v).c) fun x1 =>
 .fin (decide (x1≥0))
def gL s v:=(dN s v).val
theorem mj (s:List Int) (v:Int):(dN s v).dq (fun (x:Bool)=>(x=true↔∃ q,q < s.length∧dy (s.getD q default) v=true)):=by
  unfold dN
  try simp only [lf]
  exact Ly

theorem ua (s:List Int) (v:Int):(fun (x:Bool)=>(x=true↔∃ q,q < s.length∧dy (s.getD q default) v=true)) (gL s v):=have h:=Sk.dc _ (mj s v); h
theorem vF (s:List Int) (v:Int):(dN s v).bq (fun _=>True):=by
  unfold dN
  try simp only [lf]
  exact mP

def fS s v:=kp tok mixed Tryz.func251 [lv bJ s,.fn 252 [.ref [dI v]]] (fun x=>bv x) true (gL s v) (u0 (vF s v)) (mj s v)
def iI (r:ah) (order:Int) (ask:Int) (places:List Int):Sk (Bool):=let az:=((r.ak.length:Nat):Int);
 .br (((((decide (order < 0))||(decide (order≥az)))||(decide (ask < 0)))||(decide (ask≥22)))||(((places.length:Nat):Int) != 5))
 (.fin false)
 (.r 4 ((fS places az).c) fun x1 =>
 .fin (!x1))
def bR r order ask places:=(iI r order ask places).val
theorem FY (r:ah) (order:Int) (ask:Int) (places:List Int):(iI r order ask places).dq (fun (x:Bool)=>x=true→0≤order∧order < r.ak.length∧places.length=5∧∀ i,i < 5→0≤places.getD i default∧places.getD i default < r.ak.length):=by
  refine Sk.bh _ ?_
  unfold iI
  simp only [Sk.cK,Sk.aD,reduceCtorEq,ON,kk,kp,fS,maxLen]
  all_goals (repeat' first | (apply And.intro) | (intro h))
  all_goals first | trivial | (simp at *; done) | (simp only [LN] at *; omega) | (simp only [LN] at *; grind [hZ])

theorem HC (r:ah) (order:Int) (ask:Int) (places:List Int):(iI r order ask places).bq (fun _=>True):=by
  unfold iI
  try simp only [fS]
  exact mP

def eX r order ask places:=kp tok mixed Tryz.func219 [av r.cells,iv order,iv ask,lv bJ places] (fun x=>bv x) true (bR r order ask places) (u0 (HC r order ask places)) (FY r order ask places)
def gM (r:ah) (order:Int) (ask:Int) (places:List Int):Sk (Int × Bool):=let az:=((r.ak.getD order.toNat default).aE);
 .r 1 ((eX r order ask places).c) fun x1 =>
 .br (!x1)
 (.fin ((-1),false))
 (.r 3 (.p (bM order r.ak.length)) fun _ =>
 .bt
 (.loop (default:Sum (Int × Bool) (Unit)) (fun i3=>i3≤az.length) (fun i3=>az.length - i3) (0:Nat)
 (fun (i3:Nat)=>⟨[(25,iv ((i3:Nat):Int))],[]⟩) fun i3=>let aV:=(az.getD i3 default);
 .lt 23 0 i3 (az.length)
 (.r 5 (.p (bM ((i3:Nat):Int) (az.length))) fun _ =>
 .br (((aV.ask) == ask)&&((aV.ka) != 0))
 (.r 7 (.p (bM (aV.ka) places.length)) fun _ =>
 .fin (.inl (.inl (places.getD ((aV.ka).toNat) default,aV.whole))))
 (.nx 8 25 i3 (i3+1)))
 (.fin (.inl (.inr ()))))
 (fun (_:Unit)=>⟨[],[]⟩) fun _ =>
 .fin (order,false))
def aA r order ask places:=(gM r order ask places).val
theorem PW {l:List Int} {n:Nat} (h0:0 < n) (h:∀ i,i < 5→0≤l.getD i default∧l.getD i default < n) (hl:l.length=5) (k:Nat):0≤l.getD k default∧l.getD k default < n:=by
  by_cases c:k < 5
  · exact h k c
  · have:l.getD k default=0:=by simp [List.getD,List.getElem?_eq_none (by omega:l.length≤k)]
    rw [this]; omega
theorem kd {r:ah} {a b ask:Int} {places:List Int} (h:bR r a ask places=true) (hb:0≤b∧b < r.ak.length):bR r b ask places=true:=by
  simp only [bR,iI,Sk.val,fD.c,kk,kp,fS] at h ⊢
  revert h
  simp only [Bool.cond_eq_ite]
  split
  · intro h; cases h
  · rename_i h1
    intro h
    rw [if_neg]
    · exact h
    · simp only [Bool.or_eq_true,decide_eq_true_eq,not_or] at h1 ⊢
      exact ⟨⟨⟨⟨by omega,by omega⟩,h1.1.1.2⟩,h1.1.2⟩,h1.2⟩
theorem vG (r:ah) (order:Int) (ask:Int) (places:List Int):(gM r order ask places).dq (fun (x:Int × Bool)=>bR r order ask places=true→0≤x.1∧x.1 < r.ak.length):=by
  refine Sk.bh _ ?_
  unfold gM
  simp only [Sk.cK,Sk.aD,reduceCtorEq,ON,kk,kp,eX,ah.cx,maxLen]
  all_goals (repeat' first | (apply And.intro) | (intro h))
  all_goals first | trivial | omega | (simp only [LN] at *; first | omega | (exact (PW (n:=r.ak.length) (by grind) (by grind) (by grind) _).1) | (exact (PW (n:=r.ak.length) (by grind) (by grind) (by grind) _).2) | grind)

theorem DP (r:ah) (order:Int) (ask:Int) (places:List Int):(fun (x:Int × Bool)=>bR r order ask places=true→0≤x.1∧x.1 < r.ak.length) (aA r order ask places):=have h:=Sk.dc _ (vG r order ask places); h
theorem FZ (r:ah) (order:Int) (ask:Int) (places:List Int) (hb:r.cx):(gM r order ask places).bq (fun _=>True):=by
  simp only [ah.cx] at hb
  unfold gM
  try simp only [eX,ah.cx]
  exact mH

def nF r order ask places:=kp tok mixed Tryz.func220 [av r.cells,iv order,iv ask,lv bJ places] (fun x=>.fb [iv x.1,bv x.2]) true (aA r order ask places) (FZ r order ask places) (vG r order ask places)
def jZ (n:Nat) (l:List Int):Prop:=l.length≠0∧l.Nodup∧∀ x,x∈l→0≤x∧x < n
theorem jZ.le {n:Nat} {l:List Int} (h:jZ n l):l.length≤n:=by
  have h1:=List.Nodup.length_le_of_subset (l₁:=l) (l₂:=(List.range n).map Int.ofNat) h.2.1 (fun x hx=>by
    have:=h.2.2 x hx
    exact List.mem_map.2 ⟨x.toNat,List.mem_range.2 (by omega),by simp; omega⟩)
  simpa using h1
theorem jZ.get {n:Nat} {l:List Int} (h:jZ n l) (k:Nat):0≤l.getD k default∧l.getD k default < n:=by
  by_cases hk:k < l.length
  · have e:l.getD k default=l[k]:=by simp [List.getD,hk]
    rw [e]
    exact h.2.2 _ (List.getElem_mem hk)
  · have e:l.getD k default=0:=by simp [List.getD,List.getElem?_eq_none (by omega:l.length≤k)]
    have:=h.le
    have:=h.1
    rw [e]
    omega
theorem jZ.adO {n:Nat} {l:List Int} (h:jZ n l) {x:Int} (hx:0≤x∧x < n):∀ y,y∈l++[x]→0≤y∧y < n:=fun y hy=>by
  rcases List.mem_append.1 hy with h1 | h1
  · exact h.2.2 y h1
  · simp only [List.mem_singleton] at h1; subst h1; exact hx
theorem jZ.snoc {n:Nat} {l:List Int} (h:jZ n l) {x:Int} (hx:0≤x∧x < n) (hn:¬ ∃ q,q < l.length∧(l.getD q default == x)=true):jZ n (l++[x]):=by
  refine ⟨by simp,?_,h.adO hx⟩
  refine List.nodup_append.2 ⟨h.2.1,by simp,fun a ha b hb e=>?_⟩
  simp only [List.mem_singleton] at hb
  subst hb; subst e
  obtain ⟨q,hq,e⟩:=List.getElem_of_mem ha
  exact hn ⟨q,hq,by simp [List.getD,hq,e]⟩
theorem jZ.one {n:Nat} {x:Int} (hx:0≤x∧x < n):jZ n [x]:=⟨by simp,by simp,fun y hy=>by simp only [List.mem_singleton] at hy; subst hy; exact hx⟩
def gW (r:ah) (ai:Int) (ask:Int) (places:List Int):Sk ((List Int) × Int) :=
 .r 1 (.gw ((eX r ai ask places).c) fun x1=>.wh (!x1) false (.p (bM (0:Int) places.length))) fun x1 =>
 .br ((!x1)||((places.getD 0 default) != ai))
 (.fin ([],1))
 (.r 3 (.o [.cU (dG cN [ai])]) fun _ =>
 .loop (default:(List Int) × Int) (fun i2=>jZ r.ak.length i2) (fun i2=>r.ak.length+1 - i2.length) ([ai]:(List Int))
 (fun (i2:(List Int))=>⟨[(10,ow 100001 i2)],[(100001,cp 3 1 bJ i2)]⟩) fun i2=>let az:=(aK (((i2.length:Nat):Int) - 1)); let aV:=(i2.getD (az.toNat) default);
 .r 4 (.aj (.p (bM az i2.length)) (.p (az.toNat < i2.length))) fun _ =>
 .r 5 ((nF r aV ask places).c) fun x3 =>
 .br (x3.1 == aV)
 (.fin (.inl (i2,0)))
 (.r 8 ((aP i2 x3.1).c) fun x4 =>
 .r 9 (.aj (.o [.cU (dG cN [x3.1])]) (.aj (.o [.cU (kx cN i2 [x3.1])]) (.aj (.t (cN.k6 [x3.1])) (.p (uG i2.length [x3.1].length 8))))) fun _ =>
 .r 10 (.wh (!x3.2) false (.wh x4 true (.p (bM x3.1 r.ak.length)))) fun _ =>
 .br ((!x3.2)||(x4&&((r.ak.getD x3.1.toNat default).sA)))
 (.fin (.inl (i2++[x3.1],0)))
 (.br x4
 (.fin (.inl (i2++[x3.1],12)))
 (.fin (.inr (i2++[x3.1]))))))
def bw r ai ask places:=(gW r ai ask places).val
theorem yW (r:ah) (ai:Int) (ask:Int) (places:List Int):(gW r ai ask places).dq (fun (x:(List Int) × Int)=>x.2=0→x.1.length≠0∧(∀ y,y∈x.1→0≤y∧y < r.ak.length)∧x.1.length≤r.ak.length+1):=by
  refine Sk.bh _ ?_
  unfold gW
  simp only [Sk.cK,Sk.aD,reduceCtorEq,ON,kk,kp,nF,eX,aP,aw.Small,ah.Small,ah.cx,maxLen]
  intro x hx hp
  refine ⟨fun _ h=>by omega,fun hc _=>?_⟩
  have VU:x=true:=by simp at hc; exact hc.1
  obtain ⟨h1,h2,h3,h4⟩:=hp VU
  refine ⟨jZ.one ⟨h1,h2⟩,fun i hi _ y hy hy2=>?_⟩
  have hy3:=hy2 (kd (hx ▸ VU) (hi.get _))
  have hle:=hi.le
  refine ⟨fun _=>⟨hi.1,hi.2.2,by omega⟩,fun _ z hz hz2 _ _=>⟨fun _=>⟨by simp,hi.adO hy3,by simp; omega⟩,fun _=>⟨fun _ h=>by omega,fun hz3=>?_⟩⟩⟩
  have hs:=hi.snoc hy3 (by rw [← hz2,hz3]; simp)
  have:=hs.le
  simp only [List.length_append,List.length_cons,List.length_nil] at this ⊢
  exact ⟨hs,by omega⟩

theorem xi (r:ah) (ai:Int) (ask:Int) (places:List Int):(fun (x:(List Int) × Int)=>x.2=0→x.1.length≠0∧(∀ y,y∈x.1→0≤y∧y < r.ak.length)∧x.1.length≤r.ak.length+1) (bw r ai ask places):=have h:=Sk.dc _ (yW r ai ask places); h
theorem Jy (r:ah) (ai:Int) (ask:Int) (places:List Int) (hb:r.cx) (hr:r.Small):(gW r ai ask places).bq (fun _=>True):=by
  simp only [aw.Small,ah.Small,ah.cx] at hb
  simp only [aw.Small,ah.Small,ah.cx] at hr
  refine Sk.aO _ ?_
  unfold gW
  simp only [Sk.gx,Sk.aD,reduceCtorEq,ON,kk,kp,nF,eX,aP,aw.Small,ah.Small,ah.cx,maxLen]
  refine ⟨fun x hx hp VU=>?_,fun x hx hp hc _=>?_⟩
  · have:=hp (by simpa using VU); omega
  have VU:x=true:=by simp at hc; exact hc.1
  obtain ⟨h1,h2,h3,h4⟩:=hp VU
  refine ⟨jZ.one ⟨h1,h2⟩,fun i hi=>?_⟩
  have hle:=hi.le
  have A9:=hi.1
  have hw:aK ((i.length:Int) - 1)=(i.length:Int) - 1:=aq (by omega) (by omega)
  rw [hw]
  refine ⟨⟨⟨by omega,by omega⟩,by omega⟩,fun _=>⟨hb,fun y hy hy2 ajp z hz hz2=>?_⟩⟩
  have hy3:=hy2 (kd (hx ▸ VU) (hi.get _))
  refine ⟨⟨by simp only [List.length_cons,List.length_nil]; omega,by simp only [List.length_cons,List.length_nil]; omega⟩,fun _=>⟨fun _ _=>hy3,fun _ _ hz3=>?_⟩⟩
  have hs:=hi.snoc hy3 (by rw [← hz2,hz3]; simp)
  have:=hs.le
  simp only [List.length_append,List.length_cons,List.length_nil] at this ⊢
  exact ⟨hs,by omega⟩

def vH r ai ask places:=kp tok mixed Tryz.func168 [av r.cells,iv ai,iv ask,lv bJ places] (fun x=>.fb [lv bJ x.1,iv x.2]) false (bw r ai ask places) (u2 (Jy r ai ask places)) (yW r ai ask places)
theorem Kx {n:Nat} {l:List Int} (h1:l.length≠0) (h2:∀ y,y∈l→0≤y∧y < (n:Int)) (k:Nat):0≤l.getD k default∧l.getD k default < n:=by
  by_cases hk:k < l.length
  · have e:l.getD k default=l[k]:=by simp [List.getD,hk]
    rw [e]
    exact h2 _ (List.getElem_mem hk)
  · have e:l.getD k default=0:=by simp [List.getD,List.getElem?_eq_none (by omega:l.length≤k)]
    have h3:=h2 l[0] (List.getElem_mem (by omega))
    rw [e]
    omega
def tq (r:ah) (ai:Int) (aF:Int) (c_:cG):Sk (l7 × (List al)):=let az:=({ known:=false,n:=0 }:al);
 .r 2 ((LI r c_).c) fun x1 =>
 .br (((x1.2.length:Nat):Int) == 0)
 (.fin (({ cell:=az,order:=(-1),path:=[],err:=1 }:l7),[]))
 (.r 5 ((k9 aF).c) fun x2 =>
 .br (!x2.2)
 (.fin (({ cell:=az,order:=(-1),path:=[],err:=1 }:l7),[]))
 (.r 8 ((z6 r ai x1.1).c) fun x3 =>
 .Yf 14 x3.isEmpty nv (lv bJ x3)
 (.PL <|
 .fin (({ cell:=az,order:=(-1),path:=[],err:=1 }:l7),[]))
 (.r 9 (.p (x3.length≠0)) fun _ =>
 .PM <|
 .r 11 ((vH r ai aF x3).c) fun x4=>let aV:=(aK (((x4.1.length:Nat):Int) - 1));
 .br (x4.2 == 0)
 (.r 13 (.p (bM aV x4.1.length)) fun _ =>
 .fin (({ cell:=az,order:=x4.1.getD (aV.toNat) default,path:=x4.1,err:=x4.2 }:l7),x1.2))
 (.fin (({ cell:=az,order:=(-1),path:=x4.1,err:=x4.2 }:l7),x1.2)))))
def F3 r ai aF c_:=(tq r ai aF c_).val
theorem Rg (r:ah) (ai:Int) (aF:Int) (c_:cG):(tq r ai aF c_).dq (fun (x:l7 × (List al))=>x.1.order = -1∨(0≤x.1.order∧x.1.order < r.ak.length∧x.2.length=20)):=by
  refine Sk.bh _ ?_
  unfold tq
  simp only [Sk.cK,Sk.aD,reduceCtorEq,ON,kk,kp,LI,z6,vH,k9,aw.Small,ah.Small,ah.cx,maxLen]
  intro x hx hp
  refine ⟨fun _=>.inl trivial,fun hc x1 _=>⟨fun _=>.inl trivial,fun _ x2 _=>⟨fun _=>.inl trivial,fun _ _ x4 _ hl=>⟨fun h0 _=>.inr ?_,fun _=>.inl trivial⟩⟩⟩⟩
  obtain ⟨h1,h2,h3⟩:=hl (by simpa using h0)
  have h20:x.2.length=20:=by
    rcases hp with h | h
    · rw [h] at hc; simp at hc
    · exact h.1
  exact ⟨(Kx h1 h2 _).1,(Kx h1 h2 _).2,h20⟩

theorem Ul (r:ah) (ai:Int) (aF:Int) (c_:cG) (hf:c_.file.Small) (hb:r.cx) (hr:r.Small):(tq r ai aF c_).bq (fun _=>True):=by
  simp only [aw.Small,ah.Small,ah.cx] at hf
  simp only [aw.Small,ah.Small,ah.cx] at hb
  simp only [aw.Small,ah.Small,ah.cx] at hr
  refine Sk.aO _ ?_
  unfold tq
  simp only [Sk.gx,Sk.aD,reduceCtorEq,ON,kk,kp,LI,z6,vH,k9,aw.Small,ah.Small,ah.cx,maxLen]
  refine ⟨hf,fun x hx hp hc x1 _ _=>?_⟩
  have hp':x.2.length=20∧0≤x.1.sign∧x.1.sign < x.1.file.af.length:=by
    rcases hp with h | h
    · rw [h] at hc; simp at hc
    · exact h
  refine ⟨hp'.2,fun x2 _ he=>⟨fun h=>by simp [List.length_eq_zero_iff.1 h] at he,fun _=>⟨⟨hb,hr⟩,fun x4 _ hl h0=>?_⟩⟩⟩
  obtain ⟨h1,h2,h3⟩:=hl (by simpa using h0)
  rw [aq (by omega) (by omega)]
  omega

def LL r ai aF c_:=kp tok mixed Tryz.func125 [av r.cells,iv ai,iv aF,av c_.cells] (fun x=>.fb [av x.1.cells,lv al.cells x.2]) false (F3 r ai aF c_) (u3 (Ul r ai aF c_)) (Rg r ai aF c_)
def nG (r:jx) (v:Int):Sk (Bool) :=
 .fin (r.ask == v)
def dj r v:=(nG r v).val
theorem yX (r:jx) (v:Int):dj r v=(r.ask == v):=rfl
theorem HD (r:jx) (v:Int):(nG r v).bq (fun _=>True):=by
  unfold nG
  exact mP

def ub r v:=kk tok mixed Tryz.func222 [av r.cells,.ref [dI v]] (fun x=>bv x) true (nG r v) (dj r v) (u0 (HD r v))
def fk (s:List jx) (v:Int):Sk (Int) :=
 .bind true (fun b1=>∀ q,q < s.length→dj (s.getD q default) v=false)
 (.loop (default:Sum (Int) (Unit)) (fun i2=>∀ q,q < i2→dj (s.getD q default) v=false) (fun i2=>s.length - i2) (0:Nat)
 (fun (i2:Nat)=>⟨[(8,iv ((i2:Nat):Int))],[]⟩) fun i2 =>
 .lt 0 0 i2 s.length
 (.r 4 (.aj (.p (bM ((i2:Nat):Int) s.length)) ((ub (s.getD i2 default) v).c)) fun x3 =>
 .br x3
 (.fin (.inl (.inl ((i2:Nat):Int))))
 (.nx 6 8 i2 (i2+1)))
 (.fin (.inl (.inr ()))))
 (fun (_:Unit)=>⟨[],[]⟩) fun _ =>
 .fin (-1)
def bE s v:=(fk s v).val
theorem oA (s:List jx) (v:Int):(fk s v).dq (fun (x:Int)=>(x = -1∧∀ q,q < s.length→dj (s.getD q default) v=false)∨(0≤x∧x < s.length∧dj (s.getD x.toNat default) v=true∧∀ q,(q:Nat) < x.toNat→dj (s.getD q default) v=false)):=by
  unfold fk
  try simp only [ub,yX]
  exact Yp

theorem wM (s:List jx) (v:Int):(fun (x:Int)=>(x = -1∧∀ q,q < s.length→dj (s.getD q default) v=false)∨(0≤x∧x < s.length∧dj (s.getD x.toNat default) v=true∧∀ q,(q:Nat) < x.toNat→dj (s.getD q default) v=false)) (bE s v):=have h:=Sk.dc _ (oA s v); h
theorem yY (s:List jx) (v:Int):(fk s v).bq (fun _=>True):=by
  unfold fk
  try simp only [ub,yX]
  exact xV

def qz s v:=kp tok mixed Tryz.func221 [lv jx.cells s,.fn 222 [.ref [dI v]]] (fun x=>iv x) true (bE s v) (u0 (yY s v)) (oA s v)
def pd (rv:Term→Int→Int) (rp:Term→Int→Prop) (rf:∀ (t:Term) (level:Int),rp t level→jl Tryz.prog 253 [av t.cells,iv level] [] (iv (rv t level)) []) (t:Term) (level:Int):fD (Int):=⟨Tryz.prog,253,[av t.cells,iv level],fun x=>iv x,true,rv t level,rp t level,rf t level,fun _=>True,trivial⟩
def dw (rv:Term→Int→Int) (rp:Term→Int→Prop) (rf:∀ (t:Term) (level:Int),rp t level→jl Tryz.prog 253 [av t.cells,iv level] [] (iv (rv t level)) []) (t:Term) (level:Int):Sk (Int) :=
 .br (decide (level > 8))
 (.fin 61)
 (.bind true (fun b1=>∀ B:Int,1≤B→B≤1000000→(∀ q,q < t.args.length→1≤rv (t.args.getD q default) (aK (level+1))∧rv (t.args.getD q default) (aK (level+1))≤B)→(1:Int)≤b1∧b1≤60+B∧(b1≤60→t.args.length≤60∧∀ q,q < t.args.length→rv (t.args.getD q default) (aK (level+1))≤60))
 (.loop (default:Sum (Int) (Int)) (fun i2=>i2.2≤t.args.length∧(∀ B:Int,1≤B→B≤1000000→(∀ q,q < t.args.length→1≤rv (t.args.getD q default) (aK (level+1))∧rv (t.args.getD q default) (aK (level+1))≤B)→(1+(i2.2:Int))≤i2.1∧i2.1≤60∧∀ q,q < i2.2→rv (t.args.getD q default) (aK (level+1))≤60)) (fun i2=>t.args.length - i2.2) ((1,0):Int × Nat)
 (fun (i2:Int × Nat)=>⟨[(5,iv i2.1),(13,iv ((i2.2:Nat):Int))],[]⟩) fun i2 =>
 .lt 11 0 i2.2 t.args.length
 (.r 6 (.aj (.p (bM ((i2.2:Nat):Int) t.args.length)) (.o [.cast 15 (Zv (Term.EI (t.args.getD i2.2 default)))])) fun _ =>
 .r 7 ((pd rv rp rf (t.args.getD i2.2 default) (aK (level+1))).c) fun x3 =>
 .br (decide ((aK (i2.1+x3)) > 60))
 (.fin (.inl (.inr (aK (i2.1+x3)))))
 (.nx 9 13 i2.2 (aK (i2.1+x3),i2.2+1)))
 (.fin (.inl (.inr i2.1))))
 (fun (b1:Int)=>⟨[(5,iv b1)],[]⟩) fun b1 =>
 .fin b1)
def aJ:Nat→Term→Int→Int
  | 0,_,_=>default
  | fu+1,t,level=>(dw (aJ fu) (fun _ _=>False) (fun _ _=>fun h=>h.elim) t level).val
/-- no node has too many parts -/
inductive vI:Term→Prop
  | mk {t:Term} (h:t.args.length≤60) (h2:∀ q,q < t.args.length→vI (t.args.getD q default)):vI t
theorem Jz (fu:Nat) (rf:∀ (t:Term) (level:Int),t.depth≤fu∧True→jl Tryz.prog 253 [av t.cells,iv level] [] (iv (aJ fu t level)) []) (t:Term) (level:Int) (hm:t.depth≤fu+1):(dw (aJ fu) (fun t level=>t.depth≤fu∧True) rf t level).bq (fun _=>True):=by
  refine Sk.aO _ ?_
  unfold dw
  simp only [Sk.gx,Sk.aD,reduceCtorEq,ON,kk,kp,pd,maxLen]
  intro WR
  have WR:level≤8:=by simp only [LN] at WR; exact WR
  refine ⟨⟨Nat.zero_le _,fun B _ _ _=>⟨by omega,by omega,fun q hq=>absurd hq (by omega)⟩⟩,fun i hi hlen=>⟨fun hc=>⟨⟨by omega,of_decide_eq_true hc⟩,fun _=>⟨?_,fun x hx=>⟨fun hb B b1 b2 hq=>?_,fun hb _=>⟨?_,⟨?_,fun B b1 b2 hq=>?_⟩,?_⟩⟩⟩⟩,fun hc B b1 b2 hq=>?_⟩⟩
  all_goals (try simp only [LN] at hc)
  all_goals (try simp only [LN] at hb)
  · have:=t.gU i.2 (by omega); omega
  · subst hx
    have q1:=hi.2 B b1 b2 hq
    have q2:=hq i.2 (by omega)
    rw [aq (n:=i.1+_) (by omega) (by omega)] at hb ⊢
    exact ⟨by omega,by omega,fun h=>by omega⟩
  · exact aq (by omega) (by omega)
  · omega
  · subst hx
    have q1:=hi.2 B b1 b2 hq
    have q2:=hq i.2 (by omega)
    rw [aq (n:=i.1+_) (by omega) (by omega)] at hb ⊢
    refine ⟨by omega,by omega,fun q Yw=>?_⟩
    by_cases e:q=i.2
    · subst e; omega
    · exact q1.2.2 q (by omega)
  · omega
  · have q1:=hi.2 B b1 b2 hq
    exact ⟨by omega,by omega,fun _=>⟨by omega,fun q Yw=>q1.2.2 q (by omega)⟩⟩

theorem HE (fu:Nat) (rp:Term→Int→Prop) (rf:∀ (t:Term) (level:Int),rp t level→jl Tryz.prog 253 [av t.cells,iv level] [] (iv (aJ fu t level)) []) (t:Term) (level:Int):(dw (aJ fu) rp rf t level).val=aJ (fu+1) t level:=by kernel_rfl
theorem HF (fu:Nat):∀ (t:Term) (level:Int),t.depth≤fu→jl Tryz.prog 253 [av t.cells,iv level] [] (iv (aJ fu t level)) []:=by
  induction fu with
  | zero=>intro t level hm; exact absurd hm (by have:=Term.gK t; omega)
  | succ fu ih =>
    intro t level hm
    have h:jl Tryz.prog 253 [av t.cells,iv level] [] (iv ((dw (aJ fu) (fun t level=>t.depth≤fu∧True) (fun t level h=>ih t level h.1) t level).val)) []:=jl.sk tok mixed (fun x=>iv x) (fun _=>[]) Tryz.func253 rfl (by kernel_rfl) 3000 (dw (aJ fu) (fun t level=>t.depth≤fu∧True) (fun t level h=>ih t level h.1) t level) (by kernel_rfl) (Jz fu _ t level hm)
    rw [HE] at h
    exact h
def F4 (t:Term) (level:Int):Int:=aJ (t.depth) t level
theorem JA (t:Term) (level:Int):jl Tryz.prog 253 [av t.cells,iv level] [] (iv (F4 t level)) []:=HF _ t level (Nat.le_refl _)
def vJ (t:Term) (level:Int):fD (Int):=⟨Tryz.prog,253,[av t.cells,iv level],fun x=>iv x,true,F4 t level,True,fun _=>JA t level,fun _=>True,trivial⟩
theorem Term.PX {B:Nat}:∀ (l:List Term),(∀ q,q < l.length→(l.getD q default).depth≤B)→Term.bT l≤B
  | [],_=>by simp [Term.bT]
  | x :: r,h=>by
    have h0:=h 0 (by simp)
    have:=Term.PX r (fun q hq=>by simpa using h (q+1) (by simpa using hq))
    simp only [Term.bT]
    simp at h0
    omega

theorem pg:∀ (fu:Nat) (t:Term) (level:Int),t.depth≤fu→1≤level→level≤9→1≤aJ fu t level∧aJ fu t level≤61+60 * (9 - level)∧(aJ fu t level≤60→t.depth+level≤9)∧(aJ fu t level≤60→vI t)
  | 0,t,_,hd,_,_=>absurd hd (by have:=t.gK; omega)
  | fu+1,t,level,hd,h1,h9=>by
    have ih:=pg fu
    have key:aJ (fu+1) t level=(dw (aJ fu) (fun _ _=>False) (fun _ _ h=>h.elim) t level).val:=rfl
    rw [key]
    refine Sk.dc (dw (aJ fu) (fun _ _=>False) (fun _ _ h=>h.elim) t level) (L:=fun x=>1≤x∧x≤61+60 * (9 - level)∧(x≤60→t.depth+level≤9)∧(x≤60→vI t)) (Sk.bh _ ?_)
    have hw:aK (level+1)=level+1:=aq (by omega) (by omega)
    unfold dw
    simp only [Sk.cK,Sk.aD,reduceCtorEq,false_implies,rC,iz,bH.z,bH.p,bH.t,bH.pt,bH.o,bH.and,bH.aj,bH.FT,bH.wh,bH.dep,bH.gw,fD.c,kk,kp,fD.nil,fD.EH,lC.c,lC.nil,pd,implies_true,true_and,and_true,and_self,true_implies,forall_eq,forall_const,hw]
    refine ⟨fun h=>⟨by omega,by omega,fun h=>by omega,fun h=>by omega⟩,fun WR=>?_⟩
    have WR:level≤8:=by simp only [LN] at WR; exact WR
    have hq:∀ q,q < t.args.length→1≤aJ fu (t.args.getD q default) (level+1)∧aJ fu (t.args.getD q default) (level+1)≤61+60 * (8 - level):=fun q hq=>by
      have:=ih (t.args.getD q default) (level+1) (by have:=t.gU q hq; omega) (by omega) (by omega)
      omega
    refine ⟨⟨⟨Nat.zero_le _,fun B _ _ _=>⟨by omega,by omega,fun q hq=>absurd hq (by omega)⟩⟩,fun i hi=>⟨fun hc=>⟨fun hb=>?_,fun hb=>⟨⟨?_,fun B b1 b2 hq=>?_⟩,?_⟩⟩,fun hc=>?_⟩⟩,fun b hb=>?_⟩
    all_goals (try simp only [LN] at hc)
    all_goals (try simp only [LN] at hb)
    · intro B b1 b2 hq
      have q1:=hi.2 B b1 b2 hq
      have q2:=hq i.2 (by omega)
      rw [aq (by omega) (by omega)] at hb ⊢
      exact ⟨by omega,by omega,fun h=>by omega⟩
    · omega
    · have q1:=hi.2 B b1 b2 hq
      have q2:=hq i.2 (by omega)
      rw [aq (by omega) (by omega)] at hb ⊢
      refine ⟨by omega,by omega,fun q Yw=>?_⟩
      by_cases e:q=i.2
      · subst e; omega
      · exact q1.2.2 q (by omega)
    · omega
    · intro B b1 b2 hq
      have q1:=hi.2 B b1 b2 hq
      exact ⟨by omega,by omega,fun _=>⟨by omega,fun q Yw=>q1.2.2 q (by omega)⟩⟩
    · have:=hb _ (by omega) (by omega) hq
      refine ⟨this.1,by omega,fun h60=>?_,fun h60=>.mk (this.2.2 h60).1 fun q Yw=>?_⟩
      · have q3:=(this.2.2 h60).2
        have:Term.bT t.args≤(8 - level).toNat:=Term.PX _ (fun q Yw=>by
          have:=(ih (t.args.getD q default) (level+1) (by have:=t.gU q Yw; omega) (by omega) (by omega)).2.2.1 (q3 q Yw)
          omega)
        have e:t.depth=Term.bT t.args+1:=by obtain ⟨_,_,_⟩:=t; rfl
        omega
      · exact (ih (t.args.getD q default) (level+1) (by have:=t.gU q Yw; omega) (by omega) (by omega)).2.2.2 ((this.2.2 h60).2 q Yw)
def xj (n:Int):Sk (Int) :=
 .fin (fB (dk n (-1099511627776)) 1099511627776)
def tu n:=(xj n).val
theorem tv (n:Int):tu n=(fB (dk n (-1099511627776)) 1099511627776):=rfl
theorem Um (n:Int):(xj n).bq (fun _=>True):=by
  unfold xj
  exact mP

def j0 n:=kk tok mixed Tryz.func279 [iv n] (fun x=>iv x) true (xj n) (tu n) (u0 (Um n))
def jn (v:Int):Sk (Int × Bool) :=
 .br ((decide (v < 0))||(decide (v > 19)))
 (.fin (0,false))
 (.br (decide (v < 7))
 (.fin (0,true))
 (.fin (1,true)))
def z7 v:=(jn v).val
theorem JB (v:Int):(jn v).bq (fun _=>True):=by
  unfold jn
  exact mP

def kB v:=kk tok mixed Tryz.func277 [iv v] (fun x=>.fb [iv x.1,bv x.2]) true (jn v) (z7 v) (u0 (JB v))
def jA (t:Term):Sk (Int × Int) :=
 .br (decide (((t.args.length:Nat):Int) > 0))
 (.fin (0,2))
 (.br (t.op == 0)
 (.r 5 ((j0 t.n).c) fun x1 =>
 .br (x1 != t.n)
 (.fin (0,3))
 (.fin (0,0)))
 (.br (t.op == 1)
 (.br ((decide (t.n < 0))||(decide (t.n > 1)))
 (.fin (0,3))
 (.fin (1,0)))
 (.r 12 ((kB t.n).c) fun x2 =>
 .br (!x2.2)
 (.fin (0,10))
 (.fin (x2.1,0)))))
def iJ t:=(jA t).val
theorem Rh (t:Term):(jA t).bq (fun _=>True):=by
  unfold jA
  try simp only [kB,j0,tv]
  exact xV

def xk t:=kk tok mixed Tryz.func275 [av t.cells] (fun x=>.fb [iv x.1,iv x.2]) true (jA t) (iJ t) (u0 (Rh t))
structure Shape where
  args:List Int
  result:Int
  deriving Inhabited
def Shape.cells (c:Shape):List D:=[mN bJ c.args,dI c.result]
def ph (op:Int):Sk (Shape) :=
 .br (op == 3)
 (.r 3 (.o [.cU (dG cN [1])]) fun _ =>
 .fin ({ args:=[1],result:=1 }:Shape))
 (.bind false (fun _=>True)
 (.br (op == 4)
 (.fin (.inr (op == 4)))
 (.fin (.inr (op == 5))))
 (fun (b1:Bool)=>⟨[(8,bv b1)],[]⟩) fun b1 =>
 .br b1
 (.r 6 (.o [.cU (dG cN [1,1])]) fun _ =>
 .fin ({ args:=[1,1],result:=1 }:Shape))
 (.br (op == 6)
 (.r 8 (.o [.cU (dG cN [1,(-1),(-1)])]) fun _ =>
 .fin ({ args:=[1,(-1),(-1)],result:=(-1) }:Shape))
 (.br (op == 7)
 (.r 10 (.o [.cU (dG cN [0,0])]) fun _ =>
 .fin ({ args:=[0,0],result:=1 }:Shape))
 (.br (op == 8)
 (.r 12 (.o [.cU (dG cN [(-1),(-1)])]) fun _ =>
 .fin ({ args:=[(-1),(-1)],result:=1 }:Shape))
 (.r 13 (.o [.cU (dG cN [0,0])]) fun _ =>
 .fin ({ args:=[0,0],result:=0 }:Shape))))))
def bp op:=(ph op).val
theorem JC (op:Int):(ph op).bq (fun _=>True):=by
  unfold ph
  exact mP

def qA op:=kk tok mixed Tryz.func276 [iv op] (fun x=>av x.cells) false (ph op) (bp op) (u0 (JC op))
end
end Go.Proofs.YtaeekeogpbbkcaaGreatDoor
