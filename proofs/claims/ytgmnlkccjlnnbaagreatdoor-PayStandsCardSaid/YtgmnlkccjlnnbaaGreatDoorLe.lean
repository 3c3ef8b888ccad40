/- The types of this program, as the evaluator looks at them. -/
import Derived.Test.YtgmnlkccjlnnbaaGreatDoorLd
import Derived.Test.YtgmnlkccjlnnbaaGreatDoorRows
import Derived.Shelf.SortM.Plain
import Derived.Shelf.SortM.SortNone
import Derived.Ground.SlgmProg
import Derived.Shelf.Slices.CompactI
import Derived.Ground.Names2Prog
set_option linter.unusedSimpArgs false
set_option linter.unusedVariables false
set_option maxHeartbeats 1000000
set_option maxRecDepth 100000
namespace Go.Proofs.YtgmnlkccjlnnbaaGreatDoor
noncomputable section
open Go Go.Av
instance:zl:=⟨[(0,[dI 6,dI 7,dI 10,dI 12,dI 13,dI 14,dI 15,dI 16,dI 20,dI 21])]⟩
def TT:List (Nat × TI):=[
 (3,⟨.int .i64,1,8,[.v (.int .i64 0)],false⟩),
 (4,⟨.bool,1,1,[.v (.bool false)],false⟩),
 (5,⟨.int .u8,1,1,[.v (.int .u8 0)],false⟩),
 (9,⟨.str,1,16,[.v (.string ⟨#[]⟩)],false⟩),
 (22,⟨.slice 9,1,24,[.v (.slice none 0 0)],false⟩),
 (23,⟨.slice 159,1,24,[.v (.slice none 0 0)],false⟩),
 (24,⟨.slice 169,1,24,[.v (.slice none 0 0)],false⟩),
 (25,⟨.slice 171,1,24,[.v (.slice none 0 0)],false⟩),
 (26,⟨.slice 111,1,24,[.v (.slice none 0 0)],false⟩),
 (27,⟨.slice 173,1,24,[.v (.slice none 0 0)],false⟩),
 (28,⟨.slice 175,1,24,[.v (.slice none 0 0)],false⟩),
 (29,⟨.slice 177,1,24,[.v (.slice none 0 0)],false⟩),
 (31,⟨.struct [(0,22),(1,23),(2,24),(3,25),(4,26),(5,27),(6,28),(7,29)],8,192,[.v (.slice none 0 0),.v (.slice none 0 0),.v (.slice none 0 0),.v (.slice none 0 0),.v (.slice none 0 0),.v (.slice none 0 0),.v (.slice none 0 0),.v (.slice none 0 0)],false⟩),
 (33,⟨.struct [(0,3),(1,3),(2,3)],3,24,[.v (.int .i64 0),.v (.int .i64 0),.v (.int .i64 0)],true⟩),
 (35,⟨.struct [(0,3),(1,3),(2,3),(3,3),(4,3),(5,33),(8,3),(9,3),(10,3),(11,3),(12,3),(13,3),(14,3)],15,120,[.v (.int .i64 0),.v (.int .i64 0),.v (.int .i64 0),.v (.int .i64 0),.v (.int .i64 0),.v (.int .i64 0),.v (.int .i64 0),.v (.int .i64 0),.v (.int .i64 0),.v (.int .i64 0),.v (.int .i64 0),.v (.int .i64 0),.v (.int .i64 0),.v (.int .i64 0),.v (.int .i64 0)],false⟩),
 (36,⟨.slice 96,1,24,[.v (.slice none 0 0)],false⟩),
 (37,⟨.slice 115,1,24,[.v (.slice none 0 0)],false⟩),
 (38,⟨.slice 62,1,24,[.v (.slice none 0 0)],false⟩),
 (39,⟨.slice 45,1,24,[.v (.slice none 0 0)],false⟩),
 (41,⟨.struct [(0,35),(15,36),(16,37),(17,38),(18,39)],19,216,[.v (.int .i64 0),.v (.int .i64 0),.v (.int .i64 0),.v (.int .i64 0),.v (.int .i64 0),.v (.int .i64 0),.v (.int .i64 0),.v (.int .i64 0),.v (.int .i64 0),.v (.int .i64 0),.v (.int .i64 0),.v (.int .i64 0),.v (.int .i64 0),.v (.int .i64 0),.v (.int .i64 0),.v (.slice none 0 0),.v (.slice none 0 0),.v (.slice none 0 0),.v (.slice none 0 0)],false⟩),
 (45,⟨.struct [(0,3),(1,3),(2,3)],3,24,[.v (.int .i64 0),.v (.int .i64 0),.v (.int .i64 0)],true⟩),
 (47,⟨.slice 50,1,24,[.v (.slice none 0 0)],false⟩),
 (50,⟨.struct [(0,3),(1,3),(2,3),(3,3),(4,3),(5,3),(6,3),(7,3),(8,3)],9,72,[.v (.int .i64 0),.v (.int .i64 0),.v (.int .i64 0),.v (.int .i64 0),.v (.int .i64 0),.v (.int .i64 0),.v (.int .i64 0),.v (.int .i64 0),.v (.int .i64 0)],true⟩),
 (52,⟨.slice 55,1,24,[.v (.slice none 0 0)],false⟩),
 (55,⟨.struct [(0,3),(1,3),(2,3),(3,3)],4,32,[.v (.int .i64 0),.v (.int .i64 0),.v (.int .i64 0),.v (.int .i64 0)],true⟩),
 (58,⟨.slice 66,1,24,[.v (.slice none 0 0)],false⟩),
 (62,⟨.struct [(0,3),(1,3),(2,3),(3,3),(4,3),(5,3),(6,3),(7,3),(8,3)],9,72,[.v (.int .i64 0),.v (.int .i64 0),.v (.int .i64 0),.v (.int .i64 0),.v (.int .i64 0),.v (.int .i64 0),.v (.int .i64 0),.v (.int .i64 0),.v (.int .i64 0)],true⟩),
 (64,⟨.slice 3,1,24,[.v (.slice none 0 0)],false⟩),
 (66,⟨.struct [(0,3),(1,3),(2,3),(3,3)],4,32,[.v (.int .i64 0),.v (.int .i64 0),.v (.int .i64 0),.v (.int .i64 0)],true⟩),
 (67,⟨.int .i64,1,8,[.v (.int .i64 0)],false⟩),
 (71,⟨.struct [(0,4),(1,3)],2,16,[.v (.bool false),.v (.int .i64 0)],true⟩),
 (73,⟨.map 3 3,1,8,[.v (.map none)],false⟩),
 (77,⟨.other,1,8,[.v .nilFunc],false⟩),
 (79,⟨.other,1,8,[.v .nilFunc],false⟩),
 (81,⟨.struct [(0,41),(19,41),(38,3),(39,64)],40,464,[.v (.int .i64 0),.v (.int .i64 0),.v (.int .i64 0),.v (.int .i64 0),.v (.int .i64 0),.v (.int .i64 0),.v (.int .i64 0),.v (.int .i64 0),.v (.int .i64 0),.v (.int .i64 0),.v (.int .i64 0),.v (.int .i64 0),.v (.int .i64 0),.v (.int .i64 0),.v (.int .i64 0),.v (.slice none 0 0),.v (.slice none 0 0),.v (.slice none 0 0),.v (.slice none 0 0),.v (.int .i64 0),.v (.int .i64 0),.v (.int .i64 0),.v (.int .i64 0),.v (.int .i64 0),.v (.int .i64 0),.v (.int .i64 0),.v (.int .i64 0),.v (.int .i64 0),.v (.int .i64 0),.v (.int .i64 0),.v (.int .i64 0),.v (.int .i64 0),.v (.int .i64 0),.v (.int .i64 0),.v (.slice none 0 0),.v (.slice none 0 0),.v (.slice none 0 0),.v (.slice none 0 0),.v (.int .i64 0),.v (.slice none 0 0)],false⟩),
 (83,⟨.struct [(0,81),(40,31),(48,3),(49,3)],50,672,[.v (.int .i64 0),.v (.int .i64 0),.v (.int .i64 0),.v (.int .i64 0),.v (.int .i64 0),.v (.int .i64 0),.v (.int .i64 0),.v (.int .i64 0),.v (.int .i64 0),.v (.int .i64 0),.v (.int .i64 0),.v (.int .i64 0),.v (.int .i64 0),.v (.int .i64 0),.v (.int .i64 0),.v (.slice none 0 0),.v (.slice none 0 0),.v (.slice none 0 0),.v (.slice none 0 0),.v (.int .i64 0),.v (.int .i64 0),.v (.int .i64 0),.v (.int .i64 0),.v (.int .i64 0),.v (.int .i64 0),.v (.int .i64 0),.v (.int .i64 0),.v (.int .i64 0),.v (.int .i64 0),.v (.int .i64 0),.v (.int .i64 0),.v (.int .i64 0),.v (.int .i64 0),.v (.int .i64 0),.v (.slice none 0 0),.v (.slice none 0 0),.v (.slice none 0 0),.v (.slice none 0 0),.v (.int .i64 0),.v (.slice none 0 0),.v (.slice none 0 0),.v (.slice none 0 0),.v (.slice none 0 0),.v (.slice none 0 0),.v (.slice none 0 0),.v (.slice none 0 0),.v (.slice none 0 0),.v (.slice none 0 0),.v (.int .i64 0),.v (.int .i64 0)],false⟩),
 (86,⟨.slice 131,1,24,[.v (.slice none 0 0)],false⟩),
 (93,⟨.struct [(0,3),(1,3),(2,3)],3,24,[.v (.int .i64 0),.v (.int .i64 0),.v (.int .i64 0)],true⟩),
 (96,⟨.struct [(0,3),(1,3),(2,3),(3,3),(4,3),(5,3),(6,3),(7,3),(8,3)],9,72,[.v (.int .i64 0),.v (.int .i64 0),.v (.int .i64 0),.v (.int .i64 0),.v (.int .i64 0),.v (.int .i64 0),.v (.int .i64 0),.v (.int .i64 0),.v (.int .i64 0)],true⟩),
 (100,⟨.struct [(0,3),(1,3),(2,3),(3,3),(4,3),(5,3),(6,3)],7,56,[.v (.int .i64 0),.v (.int .i64 0),.v (.int .i64 0),.v (.int .i64 0),.v (.int .i64 0),.v (.int .i64 0),.v (.int .i64 0)],true⟩),
 (108,⟨.slice 234,1,24,[.v (.slice none 0 0)],false⟩),
 (109,⟨.slice 165,1,24,[.v (.slice none 0 0)],false⟩),
 (111,⟨.struct [(0,9),(1,4),(2,108),(3,109)],4,72,[.v (.string ⟨#[]⟩),.v (.bool false),.v (.slice none 0 0),.v (.slice none 0 0)],false⟩),
 (115,⟨.struct [(0,3),(1,3)],2,16,[.v (.int .i64 0),.v (.int .i64 0)],true⟩),
 (120,⟨.other,1,8,[.v .nilFunc],false⟩),
 (121,⟨.map 3 4,1,8,[.v (.map none)],false⟩),
 (124,⟨.int .u64,1,8,[.v (.int .u64 0)],false⟩),
 (128,⟨.struct [(0,31),(8,3),(9,3),(10,41),(29,3),(30,3)],31,440,[.v (.slice none 0 0),.v (.slice none 0 0),.v (.slice none 0 0),.v (.slice none 0 0),.v (.slice none 0 0),.v (.slice none 0 0),.v (.slice none 0 0),.v (.slice none 0 0),.v (.int .i64 0),.v (.int .i64 0),.v (.int .i64 0),.v (.int .i64 0),.v (.int .i64 0),.v (.int .i64 0),.v (.int .i64 0),.v (.int .i64 0),.v (.int .i64 0),.v (.int .i64 0),.v (.int .i64 0),.v (.int .i64 0),.v (.int .i64 0),.v (.int .i64 0),.v (.int .i64 0),.v (.int .i64 0),.v (.int .i64 0),.v (.slice none 0 0),.v (.slice none 0 0),.v (.slice none 0 0),.v (.slice none 0 0),.v (.int .i64 0),.v (.int .i64 0)],false⟩),
 (131,⟨.struct [(0,3),(1,3),(2,3),(3,3),(4,3),(5,3),(6,4)],7,56,[.v (.int .i64 0),.v (.int .i64 0),.v (.int .i64 0),.v (.int .i64 0),.v (.int .i64 0),.v (.int .i64 0),.v (.bool false)],true⟩),
 (134,⟨.struct [(0,64),(1,3),(2,3),(3,4),(4,3),(5,64)],6,80,[.v (.slice none 0 0),.v (.int .i64 0),.v (.int .i64 0),.v (.bool false),.v (.int .i64 0),.v (.slice none 0 0)],false⟩),
 (141,⟨.other,1,8,[.v .nilFunc],false⟩),
 (143,⟨.struct [(0,3),(1,3),(2,3),(3,3)],4,32,[.v (.int .i64 0),.v (.int .i64 0),.v (.int .i64 0),.v (.int .i64 0)],true⟩),
 (148,⟨.struct [(0,41),(19,3),(20,3),(21,3),(22,3),(23,3)],24,256,[.v (.int .i64 0),.v (.int .i64 0),.v (.int .i64 0),.v (.int .i64 0),.v (.int .i64 0),.v (.int .i64 0),.v (.int .i64 0),.v (.int .i64 0),.v (.int .i64 0),.v (.int .i64 0),.v (.int .i64 0),.v (.int .i64 0),.v (.int .i64 0),.v (.int .i64 0),.v (.int .i64 0),.v (.slice none 0 0),.v (.slice none 0 0),.v (.slice none 0 0),.v (.slice none 0 0),.v (.int .i64 0),.v (.int .i64 0),.v (.int .i64 0),.v (.int .i64 0),.v (.int .i64 0)],false⟩),
 (151,⟨.struct [(0,71),(2,3),(3,64),(4,67)],5,56,[.v (.bool false),.v (.int .i64 0),.v (.int .i64 0),.v (.slice none 0 0),.v (.int .i64 0)],false⟩),
 (156,⟨.struct [(0,3),(1,3),(2,3),(3,3),(4,3)],5,40,[.v (.int .i64 0),.v (.int .i64 0),.v (.int .i64 0),.v (.int .i64 0),.v (.int .i64 0)],true⟩),
 (159,⟨.struct [(0,9),(1,3),(2,3),(3,64),(4,64),(5,64)],6,104,[.v (.string ⟨#[]⟩),.v (.int .i64 0),.v (.int .i64 0),.v (.slice none 0 0),.v (.slice none 0 0),.v (.slice none 0 0)],false⟩),
 (161,⟨.slice 163,1,24,[.v (.slice none 0 0)],false⟩),
 (163,⟨.struct [(0,3),(1,3),(2,161)],3,40,[.v (.int .i64 0),.v (.int .i64 0),.v (.slice none 0 0)],false⟩),
 (165,⟨.struct [(0,3),(1,163)],4,48,[.v (.int .i64 0),.v (.int .i64 0),.v (.int .i64 0),.v (.slice none 0 0)],false⟩),
 (169,⟨.struct [(0,3)],1,8,[.v (.int .i64 0)],true⟩),
 (171,⟨.struct [(0,9),(1,3),(2,3)],3,32,[.v (.string ⟨#[]⟩),.v (.int .i64 0),.v (.int .i64 0)],true⟩),
 (173,⟨.struct [(0,3),(1,3),(2,3)],3,24,[.v (.int .i64 0),.v (.int .i64 0),.v (.int .i64 0)],true⟩),
 (175,⟨.struct [(0,3),(1,3),(2,3),(3,3),(4,3)],5,40,[.v (.int .i64 0),.v (.int .i64 0),.v (.int .i64 0),.v (.int .i64 0),.v (.int .i64 0)],true⟩),
 (177,⟨.struct [(0,3),(1,3),(2,3)],3,24,[.v (.int .i64 0),.v (.int .i64 0),.v (.int .i64 0)],true⟩),
 (179,⟨.other,1,8,[.v .nilFunc],false⟩),
 (187,⟨.int .i64,1,8,[.v (.int .i64 0)],false⟩),
 (195,⟨.int .u32,1,4,[.v (.int .u32 0)],false⟩),
 (197,⟨.int .u64,1,8,[.v (.int .u64 0)],false⟩),
 (213,⟨.struct [(0,31),(8,3),(9,41),(28,3),(29,3),(30,3)],31,440,[.v (.slice none 0 0),.v (.slice none 0 0),.v (.slice none 0 0),.v (.slice none 0 0),.v (.slice none 0 0),.v (.slice none 0 0),.v (.slice none 0 0),.v (.slice none 0 0),.v (.int .i64 0),.v (.int .i64 0),.v (.int .i64 0),.v (.int .i64 0),.v (.int .i64 0),.v (.int .i64 0),.v (.int .i64 0),.v (.int .i64 0),.v (.int .i64 0),.v (.int .i64 0),.v (.int .i64 0),.v (.int .i64 0),.v (.int .i64 0),.v (.int .i64 0),.v (.int .i64 0),.v (.int .i64 0),.v (.slice none 0 0),.v (.slice none 0 0),.v (.slice none 0 0),.v (.slice none 0 0),.v (.int .i64 0),.v (.int .i64 0),.v (.int .i64 0)],false⟩),
 (218,⟨.slice 71,1,24,[.v (.slice none 0 0)],false⟩),
 (225,⟨.struct [(0,3),(1,3)],2,16,[.v (.int .i64 0),.v (.int .i64 0)],true⟩),
 (234,⟨.struct [(0,3),(1,3),(2,4)],3,24,[.v (.int .i64 0),.v (.int .i64 0),.v (.bool false)],true⟩),
 (236,⟨.int .u64,1,8,[.v (.int .u64 0)],false⟩),
 (240,⟨.other,1,8,[.v (.pointer none)],false⟩),
 (251,⟨.other,1,8,[.v .nilFunc],false⟩),
 (254,⟨.struct [(0,4),(1,3)],2,16,[.v (.bool false),.v (.int .i64 0)],true⟩),
 (290,⟨.array 10 3,10,80,[.v (.int .i64 0),.v (.int .i64 0),.v (.int .i64 0),.v (.int .i64 0),.v (.int .i64 0),.v (.int .i64 0),.v (.int .i64 0),.v (.int .i64 0),.v (.int .i64 0),.v (.int .i64 0)],false⟩),
 (294,⟨.other,1,8,[.v .nilFunc],false⟩),
 (298,⟨.struct [(0,218)],1,24,[.v (.slice none 0 0)],false⟩),
 (304,⟨.struct [(0,197),(1,197)],2,16,[.v (.int .u64 0),.v (.int .u64 0)],true⟩),
 (306,⟨.other,1,16,[.v .nilIface],false⟩),
 (314,⟨.other,1,8,[.v .nilFunc],false⟩),
 (319,⟨.slice 64,1,24,[.v (.slice none 0 0)],false⟩),
 (331,⟨.struct [(0,64),(1,3)],2,32,[.v (.slice none 0 0),.v (.int .i64 0)],false⟩),
 (335,⟨.slice 5,1,24,[.v (.slice none 0 0)],false⟩)]
theorem tok:la Tryz.prog TT:=la.of (by kernel_rfl)
theorem mixed:Tryz.prog.follows .mixedOrders=true:=by kernel_rfl
structure gX where
 name:ByteArray
 order:Int
 aE:Int
 rest:List Int
 eG:List Int
 shut:List Int
 deriving Inhabited
def gX.cells (c:gX):List D:=[.v (.string c.name),dI c.order,dI c.aE,lf bF c.rest,lf bF c.eG,lf bF c.shut]
structure ln where
 Nz:Int
 deriving Inhabited
def ln.cells (c:ln):List D:=[dI c.Nz]
structure yN where
 name:ByteArray
 bQ:Int
 group:Int
 deriving Inhabited
def yN.cells (c:yN):List D:=[.v (.string c.name),dI c.bQ,dI c.group]
structure Choice where
 ask:Int
 cj:Int
 whole:Bool
 deriving Inhabited
def Choice.cells (c:Choice):List D:=[dI c.ask,dI c.cj,dB c.whole]
structure Term where
 op:Int
 n:Int
 args:List Term
instance:Inhabited Term:=⟨⟨default,default,default⟩⟩
mutual
def Term.NA:Term→D
 | ⟨_,_,args⟩=>.sl args.length (Term.Gl args)
def Term.Gl:List Term→Nat→List D
 | [],_=>[]
 | x :: _,0=>[dI x.op,dI x.n,Term.NA x]
 | _ :: r,i+1=>Term.Gl r i
end
def Term.jf (x:Term):List D:=[dI x.op,dI x.n,Term.NA x]
theorem Term.Cw:∀ (l:List Term) (i:Nat),i < l.length→Term.Gl l i=(l.getD i default).jf
 | [],i,h=>absurd h (by simp)
 | x :: r,0,_=>by simp [Term.Gl,Term.jf]
 | x :: r,i+1,h=>by simpa [Term.Gl] using Term.Cw r i (by simpa using h)
def Term.cells (c:Term):List D:=[dI c.op,dI c.n,lf Term.jf c.args]
theorem Term.NB (c:Term):pQ (Term.NA c) (lf Term.jf c.args)∧pQ (lf Term.jf c.args) (Term.NA c):=by
 obtain ⟨op,n,args⟩:=c
 unfold Term.NA
 exact ⟨pQ.sl rfl (fun i hi=>Term.Cw args i hi),pQ.sl rfl (fun i hi=>(Term.Cw args i hi).symm)⟩
theorem Term.Gm (c:Term):uU c.jf c.cells:=.cons .rfl' (.cons .rfl' (.cons ((Term.NB c).1) (.nil)))
mutual
def Term.depth:Term→Nat
 | ⟨_,_,args⟩=>Term.fV args+1
def Term.fV:List Term→Nat
 | []=>0
 | x :: r=>max x.depth (Term.fV r)
end
theorem Term.Kf:∀ (l:List Term) (i:Nat),i < l.length→(l.getD i default).depth≤Term.fV l
 | [],i,h=>absurd h (by simp)
 | x :: r,0,_=>by simp [Term.fV]; omega
 | x :: r,i+1,h=>by
  have:=Term.Kf r i (by simpa using h)
  simp [Term.fV] at this ⊢
  omega
theorem Term.jg (c:Term) (i:Nat) (h:i < c.args.length):(c.args.getD i default).depth < c.depth:=by
 obtain ⟨op,n,args⟩:=c
 have:=Term.Kf args i h
 simp only [Term.depth]
 omega
theorem Term.qT (c:Term):0 < c.depth:=by
 obtain ⟨op,n,args⟩:=c
 simp only [Term.depth]
 omega
structure rA where
 ask:Int
 term:Term
 deriving Inhabited
def rA.cells (c:rA):List D:=[dI c.ask]++c.term.cells
structure Order where
 name:ByteArray
 Fi:Bool
 aP:List Choice
 rules:List rA
 deriving Inhabited
def Order.cells (c:Order):List D:=[.v (.string c.name),dB c.Fi,lf Choice.cells c.aP,lf rA.cells c.rules]
structure cR where
 from_:Int
 bP:Int
 days:Int
 deriving Inhabited
def cR.cells (c:cR):List D:=[dI c.from_,dI c.bP,dI c.days]
def cR.E:Mi cR:=⟨cR.cells,3,fun _=>rfl,fun _=>rfl⟩
structure mw where
 from_:Int
 bP:Int
 num:Int
 den:Int
 since:Int
 deriving Inhabited
def mw.cells (c:mw):List D:=[dI c.from_,dI c.bP,dI c.num,dI c.den,dI c.since]
structure Halt where
 order:Int
 from_:Int
 bP:Int
 deriving Inhabited
def Halt.cells (c:Halt):List D:=[dI c.order,dI c.from_,dI c.bP]
structure ai where
 bN:List ByteArray
 aK:List gX
 eH:List ln
 aQ:List yN
 aC:List Order
 aJ:List cR
 bn:List mw
 dp:List Halt
 deriving Inhabited
def ai.cells (c:ai):List D:=[lf gU c.bN,lf gX.cells c.aK,lf ln.cells c.eH,lf yN.cells c.aQ,lf Order.cells c.aC,lf cR.cells c.aJ,lf mw.cells c.bn,lf Halt.cells c.dp]
def ai.Small (r:ai):Prop:=r.bN.length≤1000000∧r.aK.length≤1000000∧r.eH.length≤1000000∧r.aQ.length≤1000000∧r.aC.length≤1000000∧r.aJ.length≤1000000∧r.bn.length≤1000000∧r.dp.length≤1000000 ∧
 ∀ i,i < r.aC.length→(r.aC.getD i default).aP.length≤1000000∧(r.aC.getD i default).rules.length≤1000000
def ai.ca (r:ai):Prop:=∀ i j,i < r.aC.length→j < (r.aC.getD i default).aP.length→0≤((r.aC.getD i default).aP.getD j default).cj∧((r.aC.getD i default).aP.getD j default).cj < 5
def ai.c6 (r:ai):Prop:=∀ i,i < r.dp.length→(r.dp.getD i default).bP≤100000
structure pD where
 kind:Int
 n:Int
 unit:Int
 deriving Inhabited
def pD.cells (c:pD):List D:=[dI c.kind,dI c.n,dI c.unit]
structure og where
 zW:Int
 rB:Int
 bO:Int
 sum:Int
 aE:Int
 cU:pD
 day:Int
 bQ:Int
 B8:Int
 need:Int
 mW:Int
 flags:Int
 parts:Int
 deriving Inhabited
def og.cells (c:og):List D:=[dI c.zW,dI c.rB,dI c.bO,dI c.sum,dI c.aE]++c.cU.cells++[dI c.day,dI c.bQ,dI c.B8,dI c.need,dI c.mW,dI c.flags,dI c.parts]
structure Sign where
 kind:Int
 part:Int
 dY:Int
 for_:Int
 bP:Int
 sum:Int
 day:Int
 bQ:Int
 flags:Int
 deriving Inhabited
def Sign.cells (c:Sign):List D:=[dI c.kind,dI c.part,dI c.dY,dI c.for_,dI c.bP,dI c.sum,dI c.day,dI c.bQ,dI c.flags]
def Sign.E:Mi Sign:=⟨Sign.cells,9,fun _=>rfl,fun _=>rfl⟩
structure cV where
 at_:Int
 sum:Int
 deriving Inhabited
def cV.cells (c:cV):List D:=[dI c.at_,dI c.sum]
def cV.E:Mi cV:=⟨cV.cells,2,fun _=>rfl,fun _=>rfl⟩
structure bC where
 kind:Int
 dY:Int
 bP:Int
 part:Int
 at_:Int
 sum:Int
 day:Int
 bQ:Int
 form:Int
 deriving Inhabited
def bC.cells (c:bC):List D:=[dI c.kind,dI c.dY,dI c.bP,dI c.part,dI c.at_,dI c.sum,dI c.day,dI c.bQ,dI c.form]
def bC.E:Mi bC:=⟨bC.cells,9,fun _=>rfl,fun _=>rfl⟩
structure Fact where
 kind:Int
 at_:Int
 n:Int
 deriving Inhabited
def Fact.cells (c:Fact):List D:=[dI c.kind,dI c.at_,dI c.n]
def Fact.E:Mi Fact:=⟨Fact.cells,3,fun _=>rfl,fun _=>rfl⟩
structure ar where
 aH:og
 ah:List Sign
 aO:List cV
 au:List bC
 facts:List Fact
 deriving Inhabited
def ar.cells (c:ar):List D:=c.aH.cells++[lf Sign.cells c.ah,lf cV.cells c.aO,lf bC.cells c.au,lf Fact.cells c.facts]
def ar.Small (f:ar):Prop:=f.ah.length≤1000000∧f.aO.length≤1000000∧f.au.length≤1000000∧f.facts.length≤1000000
def ai.fW (r:ai):Prop:=∀ i,i < r.aQ.length→0≤(r.aQ.getD i default).bQ∧(r.aQ.getD i default).bQ < r.aK.length
def ai.c9 (r:ai):Prop:=∀ i,i < r.bn.length→(1≤(r.bn.getD i default).num∧(r.bn.getD i default).num≤1073741824)∧1≤(r.bn.getD i default).den∧(r.bn.getD i default).den≤1073741824
abbrev dk (n:Int):Prop:=0≤n∧n≤1099511627776
def ar.mX (f:ar):Prop:=dk f.aH.sum∧(∀ q,q < f.aO.length→dk (f.aO.getD q default).sum)∧(∀ q,q < f.ah.length→dk (f.ah.getD q default).sum)∧∀ q,q < f.au.length→dk (f.au.getD q default).sum
def NC (f:ar) (q:Nat):Prop:=dk (f.ah.getD q default).sum∧(0≤(f.ah.getD q default).kind∧(f.ah.getD q default).kind≤4)∧((f.ah.getD q default).kind=0↔q=0)∧((f.ah.getD q default).kind=3∨(f.ah.getD q default).kind=4→0≤(f.ah.getD q default).for_∧(f.ah.getD q default).for_ < (q:Int))
def wa (r:ai) (f:ar) (q:Nat):Prop:=(0≤(f.ah.getD q default).dY∧(f.ah.getD q default).dY < r.aQ.length)∧(q≠0→(f.ah.getD (q - 1) default).day≤(f.ah.getD q default).day)∧(f.ah.getD q default).day≤100000∧(q=0→(f.ah.getD q default).day=f.aH.day)∧(0≤(f.ah.getD q default).part∧(f.ah.getD q default).part≤f.aH.parts - 1)∧NC f q
def xi (f:ar) (q:Nat):Prop:=dk (f.au.getD q default).sum∧(f.aH.day≤(f.au.getD q default).day∧(f.au.getD q default).day≤100000)∧(q≠0→(f.au.getD (q - 1) default).day≤(f.au.getD q default).day)∧((f.au.getD q default).kind=6→(0≤(f.au.getD q default).at_∧(f.au.getD q default).at_ < f.ah.length)∧(f.ah.getD (f.au.getD q default).at_.toNat default).day≤(f.au.getD q default).day∧(f.ah.getD (f.au.getD q default).at_.toNat default).dY=(f.au.getD q default).dY)
def sL (r:ai) (b:og):Prop:=(1≤b.sum∧b.sum≤1099511627776)∧(0≤b.B8∧b.B8 < r.aK.length)∧(0≤b.day∧b.day≤100000)∧(1≤b.parts∧b.parts≤4)∧(0≤b.aE∧b.aE < r.bN.length)
def bX (r:ai) (f:ar):Prop:=sL r f.aH∧(f.ah.length≤40∧f.ah.length≠0∧f.aO.length≤4∧f.au.length≤100∧f.facts.length≤200)∧(∀ q,q < f.ah.length→wa r f q)∧(∀ q,q < f.aO.length→dk (f.aO.getD q default).sum)∧∀ q,q < f.au.length→xi f q
theorem bX.small {r:ai} {f:ar} (h:bX r f):f.Small:=by have:=h.2.1; unfold ar.Small; omega
theorem bX.UK {r:ai} {f:ar} (h:bX r f):f.mX:=⟨⟨by have:=h.1.1; omega,h.1.1.2⟩,h.2.2.2.1,fun q hq=>(h.2.2.1 q hq).2.2.2.2.2.1,fun q hq=>(h.2.2.2.2 q hq).1⟩
theorem ug {α:Type} [Inhabited α] {l:List α} {P:α→Prop}:(∀ q,q < l.length→P (l.getD q default))↔∀ x,x∈l→P x:=by
 constructor
 ·intro h x hx
  obtain ⟨i,hi,rfl⟩:=List.getElem_of_mem hx
  have:=h i hi
  rwa [show l.getD i default=l[i] by simp [List.getD,hi]] at this
 ·exact fun h q hq=>h _ (ru hq _)
def O4 (r:ai) (f:ar) (q:Nat):Prop:=(f.ah.getD q default).bP = -1∨(0≤(f.ah.getD q default).bP∧(f.ah.getD q default).bP < r.aQ.length)
def YK (r:ai) (f:ar):Prop:=(f.aH.bO = -1∨(0≤f.aH.bO∧f.aH.bO < r.aQ.length))∧∀ q,q < f.ah.length→O4 r f q
structure Claim where
 aR:Int
 af:Int
 part:Int
 sign:Int
 cj:Int
 mN:Int
 sum:Int
 aE:Int
 state:Int
 deriving Inhabited
def Claim.cells (c:Claim):List D:=[dI c.aR,dI c.af,dI c.part,dI c.sign,dI c.cj,dI c.mN,dI c.sum,dI c.aE,dI c.state]
def Claim.E:Mi Claim:=⟨Claim.cells,9,fun _=>rfl,fun _=>rfl⟩
def mY:Sk ((List Claim)) :=
 .r 1 (.o [.fc (fQ Claim.E [({ aR:=1,af:=3,part:=0,sign:=1,cj:=2,mN:=0,sum:=100,aE:=0,state:=1 }:Claim),({ aR:=2,af:=3,part:=0,sign:=2,cj:=2,mN:=1,sum:=100,aE:=0,state:=1 }:Claim),({ aR:=0,af:=3,part:=0,sign:=0,cj:=2,mN:=2,sum:=100,aE:=0,state:=1 }:Claim)])]) fun _ =>
 .fin [({ aR:=1,af:=3,part:=0,sign:=1,cj:=2,mN:=0,sum:=100,aE:=0,state:=1 }:Claim),({ aR:=2,af:=3,part:=0,sign:=2,cj:=2,mN:=1,sum:=100,aE:=0,state:=1 }:Claim),({ aR:=0,af:=3,part:=0,sign:=0,cj:=2,mN:=2,sum:=100,aE:=0,state:=1 }:Claim)]
def xj:(List Claim):=(mY).val
theorem Cy:(fun (x:(List Claim))=>x.length=3) (xj):=(show xj.length=3 by kernel_rfl)
theorem Gn:(mY).aZ (fun _=>True):=by
 unfold mY
 exact mO
def zr:gV ((List Claim)):=kk tok mixed Tryz.func11 [] (fun x=>lv Claim.cells x) false (mY) (xj) (fun (_:True)=>Gn) (fun (x:(List Claim))=>x.length=3) (Cy)
structure Step where
 aR:Int
 af:Int
 sign:Int
 sum:Int
 deriving Inhabited
def Step.cells (c:Step):List D:=[dI c.aR,dI c.af,dI c.sign,dI c.sum]
def Step.E:Mi Step:=⟨Step.cells,4,fun _=>rfl,fun _=>rfl⟩
def gw (s:List Claim):Sk ((List Claim)) :=
 .O2 0 s.length
 (.HZ <|
 .fin [])
 (.H0 <|
 .r 3 (.al (.o [.fc (fQ Claim.E ([]:List Claim))]) (.al (.o [.fc (mV Claim.E ([]:List Claim) s)]) (.al (.t (Claim.E.src s)) (.p (yw (([]:List Claim).length) s.length 72))))) fun _ =>
 .fin (([]:List Claim)++s))
def mZ s:=(gw s).val
theorem Cz (s:List Claim):(gw s).cC (fun (x:(List Claim))=>x.length=s.length∧x=s):=by
 unfold gw
 simp [Sk.cC,fQ,mV]
theorem sM (s:List Claim):(fun (x:(List Claim))=>x.length=s.length∧x=s) (mZ s):=have h:=Sk.cZ _ (Cz s); h
theorem Eb (s:List Claim) (hs:s.length≤1000000000):(gw s).aZ (fun _=>True):=by
 unfold gw
 exact mu
theorem CA (s:List Claim) (hs:s.length≤1000000000):fA Tryz.prog 30 [lv Claim.cells s] [] (ow 777777 (mZ s)) [(777777,bg 50 9 Claim.cells (mZ s))] :=
 fA.sk tok mixed (fun x=>ow 777777 x) (fun x=>[(777777,bg 50 9 Claim.cells x)]) Tryz.func30 rfl (by kernel_rfl) 3000 (gw s) (by kernel_rfl) (Eb s hs)
def lM (κ:Nat) (s:List Claim):gW ((List Claim)):=⟨Tryz.prog,30,[lv Claim.cells s],fun x=>ow κ x,fun x=>[(κ,bg 50 9 Claim.cells x)],mZ s,(s.length≤1000000000),fun h=>fA.Uy κ (CA s h),fun (x:(List Claim))=>x.length=s.length∧x=s,sM s⟩
def qw (a:bC) (aW:Bool) (c_:Claim):Sk (Bool) :=
 .fin ((c_.af == a.bP)||((c_.af == (-1))&&aW))
def cJ a aW c_:=(qw a aW c_).val
theorem kG (a:bC) (aW:Bool) (c_:Claim):cJ a aW c_=((c_.af == a.bP)||((c_.af == (-1))&&aW)):=rfl
theorem K9 (a:bC) (aW:Bool) (c_:Claim):(qw a aW c_).aZ (fun _=>True):=by
 unfold qw
 exact mO
def sN a aW c_:=kk tok mixed Tryz.func31 [av a.cells,bv aW,av c_.cells] (fun x=>bv x) true (qw a aW c_) (cJ a aW c_) (u0 (K9 a aW c_))
structure Key where
 aR:Int
 af:Int
 part:Int
 sign:Int
 cj:Int
 deriving Inhabited
def Key.cells (c:Key):List D:=[dI c.aR,dI c.af,dI c.part,dI c.sign,dI c.cj]
def yx (c_:Claim):Sk (Key) :=
 .fin ({ aR:=c_.aR,af:=c_.af,part:=c_.part,sign:=c_.sign,cj:=c_.cj }:Key)
def UL c_:=(yx c_).val
theorem yy (c_:Claim):UL c_=({ aR:=c_.aR,af:=c_.af,part:=c_.part,sign:=c_.sign,cj:=c_.cj }:Key):=rfl
theorem Sr (c_:Claim):(yx c_).aZ (fun _=>True):=by
 unfold yx
 exact mO
def pE c_:=kk tok mixed Tryz.func72 [av c_.cells] (fun x=>av x.cells) true (yx c_) (UL c_) (u0 (Sr c_))
def qx (l:List Int):Sk (Int) :=
 .bt
 (.loop (default:Sum (Int) (Int)) (fun i2=>i2.2≤l.length) (fun i2=>l.length - i2.2) ((1,0):Int × Nat)
 (fun (i2:Int × Nat)=>⟨[(3,iv i2.1),(8,iv (i2.2:Int))],[]⟩) fun i2 =>
 .lt 6 0 i2.2 l.length
 (.r 4 (.p (bA (i2.2:Int) l.length)) fun _ =>
 .br ((l.getD i2.2 default) == 0)
 (.fin (.inl (.inl 0)))
 (.br ((l.getD i2.2 default) == 2)
 (.nx 9 8 i2.2 (2,i2.2+1))
 (.nx 9 8 i2.2 (i2.1,i2.2+1))))
 (.fin (.inl (.inr i2.1))))
 (fun (b1:Int)=>⟨[(3,iv b1)],[]⟩) fun b1 =>
 .fin b1
def bind_join l:=(qx l).val
theorem La (l:List Int):(qx l).aZ (fun _=>True):=by
 unfold qx
 exact mu
def pF l:=kk tok mixed Tryz.func103 [lv bF l] (fun x=>iv x) true (qx l) (bind_join l) (u0 (La l))
def sO (a:Int) (b:Int):Sk (Int) :=
 .r 1 (.al (.o [.fc (fQ dr [a,b])]) ((pF [a,b]).c)) fun x1 =>
 .fin x1
def xk a b:=(sO a b).val
theorem ND (a:Int) (b:Int):(sO a b).aZ (fun _=>True):=by
 unfold sO
 try simp only [pF]
 exact mO
def oh a b:=kk tok mixed Tryz.func73 [iv a,iv b] (fun x=>iv x) true (sO a b) (xk a b) (u0 (ND a b))
def my (x y:Claim):Prop:=x.aR=y.aR∧x.af=y.af∧x.part=y.part∧x.sign=y.sign∧x.cj=y.cj
def oj (f:Claim→Claim) (l:List Claim) (c:Claim) (x:List Claim):Prop :=
 (∃ i,i < l.length∧my (l.getD i default) c∧x=l.set i (f (l.getD i default)))∨((∀ i,i < l.length→¬ my (l.getD i default) c)∧x=l++[c])
def fG (c x:Claim):Claim:={ x with sum:=bL x.sum c.sum,state:=xk c.state x.state }
def fJ (c x:Claim):Claim:={ x with sum:=ch 1099511627776 (aq (x.sum+c.sum)),state:=xk x.state c.state }
def iI (a:bC) (x:Claim):Int:=ch (bL 0 a.sum) (bL 0 x.sum)
def jS (a:bC) (st:Bool) (x:Claim):Claim:=bif cJ a st x then { x with sum:=aq (bL 0 x.sum - iI a x) } else x
def wy (x y:Claim):Prop:=my x y∧x.mN=y.mN∧x.aE=y.aE
theorem wy.rfl' (x:Claim):wy x x:=⟨⟨rfl,rfl,rfl,rfl,rfl⟩,rfl,rfl⟩
theorem wy.trans {x y z:Claim} (h:wy x y) (k:wy y z):wy x z:=⟨⟨h.1.1.trans k.1.1,h.1.2.1.trans k.1.2.1,h.1.2.2.1.trans k.1.2.2.1,h.1.2.2.2.1.trans k.1.2.2.2.1,h.1.2.2.2.2.trans k.1.2.2.2.2⟩,h.2.1.trans k.2.1,h.2.2.trans k.2.2⟩
def Ro (x:Claim):Prop:=dk x.sum∧(x.state=1∨x.state=2)
theorem UM {a b:Int} (ha:a=1∨a=2) (hb:b=1∨b=2):xk a b=1∨xk a b=2:=by
 rcases ha with rfl | rfl <;> rcases hb with rfl | rfl
 ·exact .inl (by kernel_rfl)
 ·exact .inr (by kernel_rfl)
 ·exact .inr (by kernel_rfl)
 ·exact .inr (by kernel_rfl)
def Sub (l:List Claim) (a:bC) (c:Claim):Prop:=(c.af=a.dY∧c.cj=a.at_∧c.aR≠a.dY)∧(∃ x∈l,x.aR=c.aR∧x.part=c.part∧x.sign=c.sign∧x.aE=c.aE)∧((∀ x∈l,Ro x)→Ro c)
def Gp (l:List Claim) (a:bC) (qf:List Claim):Prop:=(∀ c∈qf,Sub l a c)∧qf.Pairwise fun x y=>¬ my x y
theorem Gq {a b:Int} (ha:dk a) (hb:dk b):dk (bL a b):=by unfold bL dk at *; split <;> omega
theorem my.comm {x y:Claim} (h:my x y):my y x:=⟨h.1.symm,h.2.1.symm,h.2.2.1.symm,h.2.2.2.1.symm,h.2.2.2.2.symm⟩
theorem my.tr {x y z:Claim} (h:my x y) (k:my y z):my x z:=⟨h.1.trans k.1,h.2.1.trans k.2.1,h.2.2.1.trans k.2.2.1,h.2.2.2.1.trans k.2.2.2.1,h.2.2.2.2.trans k.2.2.2.2⟩
theorem Gr {l:List Claim} {i:Nat} {y x:Claim} (h:x∈l.set i y):x=y∨x∈l:=by
 rcases List.mem_or_eq_of_mem_set h with h | h
 ·exact .inr h
 ·exact .inl h
theorem dM {l:List Claim} {i:Nat} (h:i < l.length):l.getD i default∈l:=ru h _
theorem xl {l:List Claim} {i j:Nat} {y:Claim} (h:j < l.length):(l.set i y).getD j default=if i=j then y else l.getD j default:=by
 simp only [List.getD,List.getElem?_set]
 split
 ·subst_vars; simp [h]
 ·rfl
theorem Gp.group {l:List Claim} {a:bC} {qf x:List Claim} {c:Claim} (h:Gp l a qf) (hc:Sub l a c) (hm:oj (fG c) qf c x):Gp l a x:=by
 rcases hm with ⟨i,hi,hk,rfl⟩ | ⟨hn,rfl⟩
 ·have hs:=h.1 _ (dM hi)
  have hx:my (fG c (qf.getD i default)) (qf.getD i default):=⟨rfl,rfl,rfl,rfl,rfl⟩
  refine ⟨fun z hz=>?_,?_⟩
  ·rcases Gr hz with rfl | hz
   ·exact ⟨hs.1,hs.2.1,fun hP=>⟨Gq (hs.2.2 hP).1 (hc.2.2 hP).1,UM (hc.2.2 hP).2 (hs.2.2 hP).2⟩⟩
   ·exact h.1 z hz
  ·rw [List.pairwise_iff_getElem]
   intro p q hp hq Q5
   have VL:p < qf.length:=by simpa using hp
   have D4:q < qf.length:=by simpa using hq
   have h0:=List.pairwise_iff_getElem.1 h.2 p q VL D4 Q5
   simp only [List.getElem_set]
   have e:∀ j (hj:j < qf.length),i=j→my (fG c (qf.getD i default)) qf[j]:=by
    rintro j hj rfl
    simpa [List.getD,hj] using hx
   intro Xi
   apply h0
   split at Xi <;> split at Xi
   ·omega
   ·exact (e p VL ‹_›).comm.tr Xi
   ·exact Xi.tr (e q D4 ‹_›)
   ·exact Xi
 ·refine ⟨fun z hz=>?_,?_⟩
  ·rcases List.mem_append.1 hz with hz | hz
   ·exact h.1 z hz
   ·rw [List.mem_singleton.1 hz]; exact hc
  ·rw [List.pairwise_append]
   refine ⟨h.2,List.pairwise_singleton _ _,fun x hx y hy=>?_⟩
   rw [List.mem_singleton.1 hy]
   obtain ⟨j,hj,rfl⟩:=List.getElem_of_mem hx
   have:=hn j hj
   rwa [show qf.getD j default=qf[j] by simp [List.getD,hj]] at this
theorem Kg {α:Type}:∀ (l D:List α),l.Pairwise (·≠·)→(∀ x∈l,x∈D)→l.length≤D.length
 | [],D,_,_=>Nat.zero_le _
 | x :: r,D,hp,hs=>by
  classical
  have hx:x∈D:=hs x (by simp)
  rw [List.pairwise_cons] at hp
  have:=Kg r (D.erase x) hp.2 (fun y hy=>(List.mem_erase_of_ne (fun e=>hp.1 y hy e.symm)).2 (hs y (by simp [hy])))
  rw [List.length_erase_of_mem hx] at this
  have Ia:0 < D.length:=List.length_pos_of_mem hx
  simp only [List.length_cons]
  omega
def Mj (x:Claim):Int × Int × Int:=(x.aR,x.part,x.sign)
theorem Gp.len {l:List Claim} {a:bC} {qf:List Claim} (h:Gp l a qf) {D:List (Int × Int × Int)} (hD:∀ x∈l,Mj x∈D):qf.length≤D.length:=by
 have:=Kg (qf.map Mj) D ?_ ?_
 ·simpa using this
 ·rw [List.pairwise_map]
  refine List.Pairwise.imp_of_mem ?_ h.2
  intro x y hx hy qW e
  have hx:=(h.1 x hx).1
  have hy:=(h.1 y hy).1
  simp only [Mj,Prod.mk.injEq] at e
  exact qW ⟨e.1,hx.1.trans hy.1.symm,e.2.1,e.2.2,hx.2.1.trans hy.2.1.symm⟩
 ·intro z hz
  obtain ⟨c,hc,rfl⟩:=List.mem_map.1 hz
  obtain ⟨x,hx,e1,e2,e3,-⟩:=(h.1 c hc).2.1
  have:=hD x hx
  rwa [show Mj x=Mj c by simp [Mj,e1,e2,e3]] at this
def CB (l:List Claim) (a:bC) (st:Bool) (k:Nat) (out qf:List Claim):Prop :=
 out.length=l.length∧(∀ i,i < l.length→out.getD i default=if i < k then jS a st (l.getD i default) else l.getD i default)∧Gp l a qf
theorem CB.init (l:List Claim) (a:bC) (st:Bool):CB l a st 0 l []:=⟨rfl,fun i _=>by simp,fun c hc=>by simp at hc,.nil⟩
theorem CB.skip {l:List Claim} {a:bC} {st:Bool} {k:Nat} {out qf:List Claim} (h:CB l a st k out qf) (hk:k < l.length) (hm:cJ a st (l.getD k default)=false):CB l a st (k+1) out qf:=by
 refine ⟨h.1,fun i hi=>?_,h.2.2⟩
 rw [h.2.1 i hi]
 by_cases Z9:i=k
 ·subst Z9; rw [if_neg (Nat.lt_irrefl i),if_pos (Nat.lt_succ_self i)]; unfold jS; rw [hm]; rfl
 ·by_cases h1:i < k
  ·rw [if_pos h1,if_pos (by omega)]
  ·rw [if_neg h1,if_neg (by omega)]
theorem CB.meet {l:List Claim} {a:bC} {st:Bool} {k:Nat} {out qf aa4:List Claim} (h:CB l a st k out qf) (hk:k < l.length) (hm:cJ a st (l.getD k default)=true) (hi:Gp l a aa4) :
  CB l a st (k+1) (out.set k { out.getD k default with sum:=aq (bL 0 (l.getD k default).sum - iI a (l.getD k default)) }) aa4:=by
 have Mp:=h.2.1 k hk
 rw [if_neg (Nat.lt_irrefl k)] at Mp
 refine ⟨by rw [List.length_set]; exact h.1,fun i hi=>?_,hi⟩
 rw [xl (by rw [h.1]; exact hi)]
 by_cases Z9:k=i
 ·subst Z9; rw [if_pos rfl,if_pos (by omega),Mp]; unfold jS; rw [hm]; rfl
 ·rw [if_neg Z9,h.2.1 i hi]
  by_cases h1:i < k
  ·rw [if_pos h1,if_pos (by omega)]
  ·rw [if_neg h1,if_neg (by omega)]
theorem NF {l:List Claim} {a:bC} {c:Claim} (hc:c∈l) (hd:c.aR≠a.dY) (s:Int) (hs:s=iI a c):Sub l a { c with af:=a.dY,cj:=a.at_,sum:=s }:=by
 subst hs
 refine ⟨⟨rfl,rfl,hd⟩,⟨c,hc,rfl,rfl,rfl,rfl⟩,fun hP=>?_⟩
 have:=(hP c hc).1
 refine ⟨?_,(hP c hc).2⟩
 unfold dk at *
 show 0≤iI a c∧iI a c≤1099511627776
 unfold iI ch bL
 constructor <;> (repeat' split) <;> omega
def Inv1 (a:bC) (m qf:List Claim) (k:Nat) (v:List Claim):Prop :=
 (m.length≤v.length∧v.length≤m.length+k)∧(∀ i,i < m.length→wy (v.getD i default) (m.getD i default)∧((m.getD i default).af≠a.dY→v.getD i default=m.getD i default)) ∧
  (∀ i,m.length≤i→i < v.length→∃ c∈qf,wy (v.getD i default) c)∧((∀ x∈m,Ro x)→(∀ x∈qf,Ro x)→∀ x∈v,Ro x)
theorem Inv1.init (a:bC) (m qf:List Claim):Inv1 a m qf 0 m:=⟨⟨Nat.le_refl _,Nat.le_refl _⟩,fun i hi=>⟨wy.rfl' _,fun _=>rfl⟩,fun i h1 h2=>absurd h2 (by omega),fun h _=>h⟩
theorem YL {c x:Claim} (hc:Ro c) (hx:Ro x):Ro (fJ c x):=by
 refine ⟨?_,UM hx.2 hc.2⟩
 unfold Ro dk at *
 show 0≤ch _ _∧ch _ _≤_
 rw [aD (by omega) (by omega)]
 unfold ch; split <;> omega
theorem Inv1.step {a:bC} {m qf v x:List Claim} {k:Nat} {c:Claim} (h:Inv1 a m qf k v) (hc:c∈qf) (hw:c.af=a.dY) (hm:oj (fJ c) v c x):Inv1 a m qf (k+1) x:=by
 obtain ⟨⟨h1,h2⟩,h3,h4,h5⟩:=h
 rcases hm with ⟨i,hi,hk,rfl⟩ | ⟨hn,rfl⟩
 ·have hl:wy (fJ c (v.getD i default)) (v.getD i default):=⟨⟨rfl,rfl,rfl,rfl,rfl⟩,rfl,rfl⟩
  refine ⟨⟨by simpa using h1,by rw [List.length_set]; omega⟩,fun j hj=>?_,fun j hj QO=>?_,fun hP hQ z hz=>?_⟩
  ·rw [xl (by omega)]
   split
   ·subst_vars
    refine ⟨hl.trans (h3 _ hj).1,fun qW=>absurd ?_ qW⟩
    have e2:=hk.2.1
    have e3:=(h3 _ hj).1.1.2.1
    rw [← e3,e2,hw]
   ·exact h3 j hj
  ·rw [List.length_set] at QO
   rw [xl QO]
   split
   ·subst_vars
    obtain ⟨d,hd,e⟩:=h4 _ hj QO
    exact ⟨d,hd,hl.trans e⟩
   ·exact h4 j hj QO
  ·rcases Gr hz with rfl | hz
   ·exact YL (hQ c hc) (h5 hP hQ _ (dM hi))
   ·exact h5 hP hQ z hz
 ·have e:∀ j,j < v.length→(v++[c]).getD j default=v.getD j default:=fun j hj=>by simp [List.getD,List.getElem?_append_left hj]
  refine ⟨⟨by simp; omega,by simp; omega⟩,fun j hj=>?_,fun j hj QO=>?_,fun hP hQ z hz=>?_⟩
  ·rw [e j (by omega)]; exact h3 j hj
  ·by_cases hjv:j < v.length
   ·rw [e j hjv]; exact h4 j hj hjv
   ·have:j=v.length:=by simp at QO; omega
    subst this
    exact ⟨c,hc,by simp [List.getD]; exact wy.rfl' _⟩
  ·rcases List.mem_append.1 hz with hz | hz
   ·exact h5 hP hQ z hz
   ·rw [List.mem_singleton.1 hz]; exact hQ c hc
structure sP (l:List Claim) (a:bC) (st:Bool) (out:List Claim):Prop where
 len:l.length≤out.length
 old:∀ i,i < l.length→wy (out.getD i default) (l.getD i default)∧((l.getD i default).af≠a.dY→out.getD i default=jS a st (l.getD i default))
 new:∀ i,l.length≤i→i < out.length→(out.getD i default).af=a.dY∧(out.getD i default).cj=a.at_∧(out.getD i default).aR≠a.dY∧∃ x∈l,x.aR=(out.getD i default).aR∧x.part=(out.getD i default).part∧x.sign=(out.getD i default).sign∧x.aE=(out.getD i default).aE
 UK:(∀ x∈l,Ro x)→∀ x∈out,Ro x
 few:∀ D:List (Int × Int × Int),(∀ x∈l,Mj x∈D)→out.length≤l.length+D.length
theorem NG (a:bC) (st:Bool) (x:Claim):wy (jS a st x) x:=by
 unfold jS
 cases cJ a st x
 ·exact wy.rfl' x
 ·exact ⟨⟨rfl,rfl,rfl,rfl,rfl⟩,rfl,rfl⟩
theorem Wu {a:bC} {st:Bool} {x:Claim} (h:Ro x):Ro (jS a st x):=by
 unfold jS
 cases cJ a st x
 ·exact h
 ·refine ⟨?_,h.2⟩
  unfold Ro dk at *
  have h1:0≤iI a x∧iI a x≤x.sum:=by unfold iI ch bL; constructor <;> (repeat' split) <;> omega
  have h2:bL 0 x.sum=x.sum:=by unfold bL; split <;> omega
  show 0≤aq _∧aq _≤_
  rw [h2,aD (by omega) (by omega)]
  omega
theorem sP.mk' {l:List Claim} {a:bC} {st:Bool} {m qf v:List Claim} {k n:Nat} (h0:CB l a st n m qf) (hn:n=l.length) (h1:Inv1 a m qf k v) (hk:k≤qf.length):sP l a st v:=by
 subst hn
 obtain ⟨hl,hr,hi⟩:=h0
 obtain ⟨⟨h11,h12⟩,h13,h14,h15⟩:=h1
 have hr':∀ i,i < l.length→m.getD i default=jS a st (l.getD i default):=fun i h=>by rw [hr i h,if_pos h]
 refine ⟨by omega,fun i h=>?_,fun i h h2=>?_,fun hP=>?_,fun D hD=>?_⟩
 ·have h3:=h13 i (by omega)
  rw [hr' i h] at h3
  refine ⟨h3.1.trans (NG a st _),fun qW=>h3.2 ?_⟩
  rw [(NG a st (l.getD i default)).1.2.1]
  exact qW
 ·obtain ⟨c,hc,e⟩:=h14 i (by omega) h2
  obtain ⟨⟨k1,k2,k3⟩,⟨x,hx,e1,e2,e3,e4⟩,-⟩:=hi.1 c hc
  obtain ⟨⟨f1,f2,f3,f4,f5⟩,-,f6⟩:=e
  exact ⟨f2.trans k1,f5.trans k2,fun z=>k3 (f1 ▸ z),x,hx,e1.trans f1.symm,e2.trans f3.symm,e3.trans f4.symm,e4.trans f6.symm⟩
 ·refine h15 (fun x hx=>?_) (fun x hx=>(hi.1 x hx).2.2 hP)
  obtain ⟨i,fb,rfl⟩:=List.getElem_of_mem hx
  have:=hr' i (by omega)
  rw [show m.getD i default=m[i] by simp [List.getD,fb]] at this
  rw [this]
  exact Wu (hP _ (dM (by omega)))
 ·have:=hi.len hD
  omega
theorem Lb {x c:Claim}:((x.aR == c.aR)&&((x.af == c.af)&&((x.part == c.part)&&((x.sign == c.sign)&&((x.cj == c.cj)&&true)))))=true↔my x c:=by
 simp only [Bool.and_eq_true,beq_iff_eq,Bool.and_true]
 exact Iff.rfl
theorem Rp {l:List Claim} {i:Nat} (h:i < l.length) (y:Claim) (s:Int):(l.set i y).set i { (l.set i y).getD i default with state:=s }=l.set i { y with state:=s }:=by
 rw [List.set_set,xl h,if_pos rfl]
theorem Rq {l:List Claim} {c:Claim} {i:Nat} (h:∀ q,q < i→¬ my (l.getD q default) c) (hk:(((l.getD i default).aR == c.aR)&&(((l.getD i default).af == c.af)&&(((l.getD i default).part == c.part)&&(((l.getD i default).sign == c.sign)&&(((l.getD i default).cj == c.cj)&&true)))))=false):∀ q,q < i+1→¬ my (l.getD q default) c:=by
 intro q hq e
 by_cases h1:q < i
 ·exact h q h1 e
 ·obtain rfl:q=i:=by omega
  rw [Lb.2 e] at hk
  cases hk
theorem oj.len {f:Claim→Claim} {l x:List Claim} {c:Claim} (h:oj f l c x):x.length≤l.length+1:=by
 rcases h with ⟨i,hi,-,rfl⟩ | ⟨-,rfl⟩
 ·rw [List.length_set]; omega
 ·simp
def kH (l:List Claim) (c_:Claim):Sk ((List Claim)) :=
 .bind true (fun b1=>∀ q,q < l.length→¬ my (l.getD q default) c_)
 (.loop (default:Sum ((List Claim)) (Unit)) (fun i2=>i2≤l.length∧∀ q,q < i2→¬ my (l.getD q default) c_) (fun i2=>l.length - i2) (0:Nat)
 (fun (i2:Nat)=>⟨[(9,iv (i2:Int))],[]⟩) fun i2 =>
 .lt 0 0 i2 l.length
 (.r 3 (.al (.p (bA (i2:Int) l.length)) (.p (i2 < l.length))) fun _ =>
 .r 4 (.dep ((pE (l.getD i2 default)).c) fun _=>(pE c_).c) fun p6 =>
 .br ((p6.1.aR == p6.2.aR)&&((p6.1.af == p6.2.af)&&((p6.1.part == p6.2.part)&&((p6.1.sign == p6.2.sign)&&((p6.1.cj == p6.2.cj)&&true)))))
 (.r 5 (.al (.p (bA (i2:Int) l.length)) (.al (.o [.fc (sr Claim.E l i2 ({ l.getD i2 default with sum:=bL ((l.getD i2 default).sum) c_.sum }))]) (.p (i2 < l.length)))) fun _ =>
 .wn 777776 l.length (l.set i2 ({ l.getD i2 default with sum:=bL ((l.getD i2 default).sum) c_.sum })).length <|
 .r 6 (.mM ((oh c_.state ((l.getD i2 default).state)).c) fun x5=>.al (.p (bA (i2:Int) ((l.set i2 ({ l.getD i2 default with sum:=bL ((l.getD i2 default).sum) c_.sum })).length))) (.al (.o [.fc (sr Claim.E (l.set i2 ({ l.getD i2 default with sum:=bL ((l.getD i2 default).sum) c_.sum })) i2 ({ (l.set i2 ({ l.getD i2 default with sum:=bL ((l.getD i2 default).sum) c_.sum })).getD i2 default with state:=x5 }))]) (.p (i2 < (l.set i2 ({ l.getD i2 default with sum:=bL ((l.getD i2 default).sum) c_.sum })).length)))) fun x5 =>
 .wn 777776 (l.set i2 ({ l.getD i2 default with sum:=bL ((l.getD i2 default).sum) c_.sum })).length ((l.set i2 ({ l.getD i2 default with sum:=bL ((l.getD i2 default).sum) c_.sum })).set i2 ({ (l.set i2 ({ l.getD i2 default with sum:=bL ((l.getD i2 default).sum) c_.sum })).getD i2 default with state:=x5 })).length <|
 .fin (.inl (.inl ((l.set i2 ({ l.getD i2 default with sum:=bL ((l.getD i2 default).sum) c_.sum })).set i2 ({ (l.set i2 ({ l.getD i2 default with sum:=bL ((l.getD i2 default).sum) c_.sum })).getD i2 default with state:=x5 })))))
 (.nx 8 9 i2 (i2+1)))
 (.fin (.inl (.inr ()))))
 (fun (_:Unit)=>⟨[],[]⟩) fun _ =>
 .r 9 (.al (.o [.fc (fQ Claim.E [c_])]) (.al (.o [.fc (mV Claim.E l [c_])]) (.al (.t (Claim.E.pB [c_])) (.p (yw l.length [c_].length 72))))) fun _ =>
 .fin (l++[c_])
def oo l c_:=(kH l c_).val
theorem Il (l:List Claim) (c_:Claim):(kH l c_).cC (fun (x:(List Claim))=>oj (fG c_) l c_ x):=by
 refine Sk.aX _ ?_
 unfold kH
 simp only [Sk.cx,Sk.aI,reduceCtorEq,ON,kk,kp,oh,pE,yy,forall_eq,maxLen]
 refine ⟨⟨⟨Nat.zero_le _,fun q hq=>absurd hq (by omega)⟩,fun i hi=>⟨fun hc _=>⟨fun hk _=>?_,fun hk _=>⟨⟨?_,Rq hi.2 hk⟩,by simp only [LN] at hc; omega⟩⟩,fun hc=>?_⟩⟩,fun _ hb _=>.inr ⟨hb,rfl⟩⟩
 all_goals simp only [LN] at hc
 ·exact .inl ⟨i,by omega,Lb.1 hk,Rp (by omega) _ _⟩
 ·omega
 ·exact fun q hq=>hi.2 q (by omega)
theorem xm (l:List Claim) (c_:Claim):(fun (x:(List Claim))=>oj (fG c_) l c_ x) (oo l c_):=have h:=Sk.cZ _ (Il l c_); h
theorem Lc (l:List Claim) (c_:Claim) (hl:l.length≤1000000000000):(kH l c_).aZ (fun _=>True):=by
 refine Sk.aU _ ?_
 unfold kH
 simp only [Sk.jb,Sk.aI,reduceCtorEq,ON,kk,kp,oh,pE,yy,forall_eq,maxLen]
 refine ⟨⟨⟨Nat.zero_le _,fun q hq=>absurd hq (by omega)⟩,fun i hi hm=>⟨fun hc=>?_,fun hc q hq=>hi.2 q (by simp only [LN] at hc; omega)⟩⟩,fun b hb=>?_⟩
 ·simp only [LN] at hc
  refine ⟨⟨⟨by omega,by omega⟩,by omega⟩,fun _=>⟨fun hk=>?_,fun hk _=>⟨(aD (by omega) (by omega)).trans (by omega),⟨by omega,Rq hi.2 hk⟩,by omega⟩⟩⟩
  simp only [List.length_set]
  refine ⟨⟨⟨by omega,by omega⟩,by omega⟩,fun _=>?_⟩
  (repeat' first | exact trivial | (apply And.intro) | (intro h))
  all_goals first | rfl | trivial | omega
 ·simp only [List.length_cons,List.length_nil]
  omega
theorem Im (l:List Claim) (c_:Claim) (hl:l.length≤1000000000000):fA Tryz.prog 32 [ow 777776 l,av c_.cells] [(777776,bg 50 9 Claim.cells l)] (ow 777777 (oo l c_)) [(777777,bg 50 9 Claim.cells (oo l c_))] :=
 fA.sk tok mixed (fun x=>ow 777777 x) (fun x=>[(777777,bg 50 9 Claim.cells x)]) Tryz.func32 rfl (by kernel_rfl) 3000 (kH l c_) (by kernel_rfl) (Lc l c_ hl)
def kI (κ κ':Nat) (l:List Claim) (c_:Claim):xg ((List Claim)):=⟨Tryz.prog,32,[ow κ l,av c_.cells],[(κ,bg 50 9 Claim.cells l)],fun x=>ow κ' x,fun x=>[(κ',bg 50 9 Claim.cells x)],oo l c_,(l.length≤1000000000000),fun h=>fA.UA κ rfl (fA.Uz κ' (Im l c_ h)),fun (x:(List Claim))=>oj (fG c_) l c_ x,xm l c_⟩
def mz (l:List Claim) (c_:Claim):Sk ((List Claim)) :=
 .bind true (fun b1=>∀ q,q < l.length→¬ my (l.getD q default) c_)
 (.loop (default:Sum ((List Claim)) (Unit)) (fun i2=>i2≤l.length∧∀ q,q < i2→¬ my (l.getD q default) c_) (fun i2=>l.length - i2) (0:Nat)
 (fun (i2:Nat)=>⟨[(9,iv (i2:Int))],[]⟩) fun i2 =>
 .lt 0 0 i2 l.length
 (.r 3 (.al (.p (bA (i2:Int) l.length)) (.p (i2 < l.length))) fun _ =>
 .r 4 (.dep ((pE (l.getD i2 default)).c) fun _=>(pE c_).c) fun p6 =>
 .br ((p6.1.aR == p6.2.aR)&&((p6.1.af == p6.2.af)&&((p6.1.part == p6.2.part)&&((p6.1.sign == p6.2.sign)&&((p6.1.cj == p6.2.cj)&&true)))))
 (.r 5 (.al (.p (bA (i2:Int) l.length)) (.al (.o [.fc (sr Claim.E l i2 ({ l.getD i2 default with sum:=ch 1099511627776 (aq (((l.getD i2 default).sum)+c_.sum)) }))]) (.p (i2 < l.length)))) fun _ =>
 .wn 777776 l.length (l.set i2 ({ l.getD i2 default with sum:=ch 1099511627776 (aq (((l.getD i2 default).sum)+c_.sum)) })).length <|
 .r 6 (.mM ((oh ((l.getD i2 default).state) c_.state).c) fun x5=>.al (.p (bA (i2:Int) ((l.set i2 ({ l.getD i2 default with sum:=ch 1099511627776 (aq (((l.getD i2 default).sum)+c_.sum)) })).length))) (.al (.o [.fc (sr Claim.E (l.set i2 ({ l.getD i2 default with sum:=ch 1099511627776 (aq (((l.getD i2 default).sum)+c_.sum)) })) i2 ({ (l.set i2 ({ l.getD i2 default with sum:=ch 1099511627776 (aq (((l.getD i2 default).sum)+c_.sum)) })).getD i2 default with state:=x5 }))]) (.p (i2 < (l.set i2 ({ l.getD i2 default with sum:=ch 1099511627776 (aq (((l.getD i2 default).sum)+c_.sum)) })).length)))) fun x5 =>
 .wn 777776 (l.set i2 ({ l.getD i2 default with sum:=ch 1099511627776 (aq (((l.getD i2 default).sum)+c_.sum)) })).length ((l.set i2 ({ l.getD i2 default with sum:=ch 1099511627776 (aq (((l.getD i2 default).sum)+c_.sum)) })).set i2 ({ (l.set i2 ({ l.getD i2 default with sum:=ch 1099511627776 (aq (((l.getD i2 default).sum)+c_.sum)) })).getD i2 default with state:=x5 })).length <|
 .fin (.inl (.inl ((l.set i2 ({ l.getD i2 default with sum:=ch 1099511627776 (aq (((l.getD i2 default).sum)+c_.sum)) })).set i2 ({ (l.set i2 ({ l.getD i2 default with sum:=ch 1099511627776 (aq (((l.getD i2 default).sum)+c_.sum)) })).getD i2 default with state:=x5 })))))
 (.nx 8 9 i2 (i2+1)))
 (.fin (.inl (.inr ()))))
 (fun (_:Unit)=>⟨[],[]⟩) fun _ =>
 .r 9 (.al (.o [.fc (fQ Claim.E [c_])]) (.al (.o [.fc (mV Claim.E l [c_])]) (.al (.t (Claim.E.pB [c_])) (.p (yw l.length [c_].length 72))))) fun _ =>
 .fin (l++[c_])
def jv l c_:=(mz l c_).val
theorem Ld (l:List Claim) (c_:Claim):(mz l c_).cC (fun (x:(List Claim))=>oj (fJ c_) l c_ x):=by
 refine Sk.aX _ ?_
 unfold mz
 simp only [Sk.cx,Sk.aI,reduceCtorEq,ON,kk,kp,oh,pE,yy,forall_eq,maxLen]
 refine ⟨⟨⟨Nat.zero_le _,fun q hq=>absurd hq (by omega)⟩,fun i hi=>⟨fun hc _=>⟨fun hk _=>?_,fun hk _=>⟨⟨?_,Rq hi.2 hk⟩,by simp only [LN] at hc; omega⟩⟩,fun hc=>?_⟩⟩,fun _ hb _=>.inr ⟨hb,rfl⟩⟩
 all_goals simp only [LN] at hc
 ·exact .inl ⟨i,by omega,Lb.1 hk,Rp (by omega) _ _⟩
 ·omega
 ·exact fun q hq=>hi.2 q (by omega)
theorem zt (l:List Claim) (c_:Claim):(fun (x:(List Claim))=>oj (fJ c_) l c_ x) (jv l c_):=have h:=Sk.cZ _ (Ld l c_); h
theorem NH (l:List Claim) (c_:Claim) (hl:l.length≤1000000000000):(mz l c_).aZ (fun _=>True):=by
 refine Sk.aU _ ?_
 unfold mz
 simp only [Sk.jb,Sk.aI,reduceCtorEq,ON,kk,kp,oh,pE,yy,forall_eq,maxLen]
 refine ⟨⟨⟨Nat.zero_le _,fun q hq=>absurd hq (by omega)⟩,fun i hi hm=>⟨fun hc=>?_,fun hc q hq=>hi.2 q (by simp only [LN] at hc; omega)⟩⟩,fun b hb=>?_⟩
 ·simp only [LN] at hc
  refine ⟨⟨⟨by omega,by omega⟩,by omega⟩,fun _=>⟨fun hk=>?_,fun hk _=>⟨(aD (by omega) (by omega)).trans (by omega),⟨by omega,Rq hi.2 hk⟩,by omega⟩⟩⟩
  simp only [List.length_set]
  refine ⟨⟨⟨by omega,by omega⟩,by omega⟩,fun _=>?_⟩
  (repeat' first | exact trivial | (apply And.intro) | (intro h))
  all_goals first | rfl | trivial | omega
 ·simp only [List.length_cons,List.length_nil]
  omega
theorem Le (l:List Claim) (c_:Claim) (hl:l.length≤1000000000000):fA Tryz.prog 33 [ow 777776 l,av c_.cells] [(777776,bg 50 9 Claim.cells l)] (ow 777777 (jv l c_)) [(777777,bg 50 9 Claim.cells (jv l c_))] :=
 fA.sk tok mixed (fun x=>ow 777777 x) (fun x=>[(777777,bg 50 9 Claim.cells x)]) Tryz.func33 rfl (by kernel_rfl) 3000 (mz l c_) (by kernel_rfl) (NH l c_ hl)
def mA (κ κ':Nat) (l:List Claim) (c_:Claim):xg ((List Claim)):=⟨Tryz.prog,33,[ow κ l,av c_.cells],[(κ,bg 50 9 Claim.cells l)],fun x=>ow κ' x,fun x=>[(κ',bg 50 9 Claim.cells x)],jv l c_,(l.length≤1000000000000),fun h=>fA.UA κ rfl (fA.Uz κ' (Le l c_ h)),fun (x:(List Claim))=>oj (fJ c_) l c_ x,zt l c_⟩
def jh (l:List Claim) (a:bC) (kind:Int) (aW:Bool):Sk ((List Claim) × (List Step)) :=
 .r 2 ((lM 21 l).c) fun x1 =>
 .bind true (fun b2=>CB l a aW l.length b2.1 b2.2.2∧b2.2.1.length≤l.length∧b2.2.2.length≤l.length)
 (.loop (default:Sum ((List Claim) × (List Step)) ((List Claim) × (List Step) × (List Claim))) (fun i3=>i3.2.2.2≤l.length∧CB l a aW i3.2.2.2 i3.1 i3.2.2.1∧i3.2.1.length≤i3.2.2.2∧i3.2.2.1.length≤i3.2.2.2) (fun i3=>l.length - i3.2.2.2) ((x1,[],[],0):(List Claim) × (List Step) × (List Claim) × Nat)
 (fun (i3:(List Claim) × (List Step) × (List Claim) × Nat)=>⟨[(8,ow 100006 i3.1),(9,ow 100007 i3.2.1),(11,ow 100008 i3.2.2.1),(24,iv (i3.2.2.2:Int))],[(100006,bg 50 9 Claim.cells i3.1),(100007,bg 66 4 Step.cells i3.2.1),(100008,bg 50 9 Claim.cells i3.2.2.1)]⟩) fun i3 =>
 .lt 22 0 i3.2.2.2 l.length
 (.r 6 (.p (bA (i3.2.2.2:Int) l.length)) fun _ =>
 .r 7 ((sN a aW (l.getD i3.2.2.2 default)).c) fun x4 =>
 .br (!x4)
 (.nx 14 24 i3.2.2.2 (i3.1,i3.2.1,i3.2.2.1,i3.2.2.2+1))
 (.r 9 (.al (.p (bA (i3.2.2.2:Int) i3.1.length)) (.al (.o [.fc (sr Claim.E i3.1 i3.2.2.2 ({ i3.1.getD i3.2.2.2 default with sum:=aq ((bL 0 ((l.getD i3.2.2.2 default).sum)) - (ch (bL 0 a.sum) (bL 0 ((l.getD i3.2.2.2 default).sum)))) }))]) (.p (i3.2.2.2 < i3.1.length)))) fun _ =>
 .wn 100006 i3.1.length (i3.1.set i3.2.2.2 ({ i3.1.getD i3.2.2.2 default with sum:=aq ((bL 0 ((l.getD i3.2.2.2 default).sum)) - (ch (bL 0 a.sum) (bL 0 ((l.getD i3.2.2.2 default).sum)))) })).length <|
 .r 10 (.al (.o [.fc (fQ Step.E [({ aR:=(l.getD i3.2.2.2 default).aR,af:=(l.getD i3.2.2.2 default).af,sign:=(l.getD i3.2.2.2 default).sign,sum:=ch (bL 0 a.sum) (bL 0 ((l.getD i3.2.2.2 default).sum)) }:Step)])]) (.al (.o [.fc (mV Step.E i3.2.1 [({ aR:=(l.getD i3.2.2.2 default).aR,af:=(l.getD i3.2.2.2 default).af,sign:=(l.getD i3.2.2.2 default).sign,sum:=ch (bL 0 a.sum) (bL 0 ((l.getD i3.2.2.2 default).sum)) }:Step)])]) (.al (.t (Step.E.pB [({ aR:=(l.getD i3.2.2.2 default).aR,af:=(l.getD i3.2.2.2 default).af,sign:=(l.getD i3.2.2.2 default).sign,sum:=ch (bL 0 a.sum) (bL 0 ((l.getD i3.2.2.2 default).sum)) }:Step)])) (.p (yw i3.2.1.length [({ aR:=(l.getD i3.2.2.2 default).aR,af:=(l.getD i3.2.2.2 default).af,sign:=(l.getD i3.2.2.2 default).sign,sum:=ch (bL 0 a.sum) (bL 0 ((l.getD i3.2.2.2 default).sum)) }:Step)].length 32))))) fun _ =>
 .br (((kind != 1)&&((((l.getD i3.2.2.2 default).mN) == 0)||(decide (((l.getD i3.2.2.2 default).sign) < a.at_))))&&(((l.getD i3.2.2.2 default).aR) != a.dY))
 (.r 13 ((kI 100008 90 i3.2.2.1 ({ l.getD i3.2.2.2 default with af:=a.dY,cj:=a.at_,sum:=ch (bL 0 a.sum) (bL 0 ((l.getD i3.2.2.2 default).sum)) })).c) fun x5 =>
 .r 14 .z fun _ =>
 .wi 24 (aq ((i3.2.2.2:Int)+1)) ((i3.2.2.2+1:Nat):Int) <|
 .fin (.inr (i3.1.set i3.2.2.2 ({ i3.1.getD i3.2.2.2 default with sum:=aq ((bL 0 ((l.getD i3.2.2.2 default).sum)) - (ch (bL 0 a.sum) (bL 0 ((l.getD i3.2.2.2 default).sum)))) }),i3.2.1++[({ aR:=(l.getD i3.2.2.2 default).aR,af:=(l.getD i3.2.2.2 default).af,sign:=(l.getD i3.2.2.2 default).sign,sum:=ch (bL 0 a.sum) (bL 0 ((l.getD i3.2.2.2 default).sum)) }:Step)],x5,i3.2.2.2+1)))
 (.r 14 .z fun _ =>
 .wi 24 (aq ((i3.2.2.2:Int)+1)) ((i3.2.2.2+1:Nat):Int) <|
 .fin (.inr (i3.1.set i3.2.2.2 ({ i3.1.getD i3.2.2.2 default with sum:=aq ((bL 0 ((l.getD i3.2.2.2 default).sum)) - (ch (bL 0 a.sum) (bL 0 ((l.getD i3.2.2.2 default).sum)))) }),i3.2.1++[({ aR:=(l.getD i3.2.2.2 default).aR,af:=(l.getD i3.2.2.2 default).af,sign:=(l.getD i3.2.2.2 default).sign,sum:=ch (bL 0 a.sum) (bL 0 ((l.getD i3.2.2.2 default).sum)) }:Step)],i3.2.2.1,i3.2.2.2+1)))))
 (.fin (.inl (.inr (i3.1,i3.2.1,i3.2.2.1)))))
 (fun (b2:(List Claim) × (List Step) × (List Claim))=>⟨[(8,ow 100003 b2.1),(9,ow 100004 b2.2.1),(11,ow 100005 b2.2.2)],[(100003,bg 50 9 Claim.cells b2.1),(100004,bg 66 4 Step.cells b2.2.1),(100005,bg 50 9 Claim.cells b2.2.2)]⟩) fun b2 =>
 .bind true (fun b6=>Inv1 a b2.1 b2.2.2 b2.2.2.length b6)
 (.loop (default:Sum ((List Claim) × (List Step)) ((List Claim))) (fun i7=>i7.2≤b2.2.2.length∧Inv1 a b2.1 b2.2.2 i7.2 i7.1) (fun i7=>b2.2.2.length - i7.2) ((b2.1,0):(List Claim) × Nat)
 (fun (i7:(List Claim) × Nat)=>⟨[(8,ow 100011 i7.1),(94,iv (i7.2:Int))],[(100011,bg 50 9 Claim.cells i7.1)]⟩) fun i7 =>
 .lt 92 0 i7.2 b2.2.2.length
 (.r 17 (.al (.p (bA (i7.2:Int) b2.2.2.length)) (.p (i7.2 < b2.2.2.length))) fun _ =>
 .r 18 ((mA 100011 100 i7.1 (b2.2.2.getD i7.2 default)).c) fun x8 =>
 .nx 19 94 i7.2 (x8,i7.2+1))
 (.fin (.inl (.inr i7.1))))
 (fun (b6:(List Claim))=>⟨[(8,ow 100010 b6)],[(100010,bg 50 9 Claim.cells b6)]⟩) fun b6 =>
 .fz 100004 <|
 .fin (b6,b2.2.1)
def de l a kind aW:=(jh l a kind aW).val
theorem zu (l:List Claim) (a:bC) (kind:Int) (aW:Bool):(jh l a kind aW).cC (fun (x:(List Claim) × (List Step))=>sP l a aW x.1):=by
 refine Sk.aX _ ?_
 unfold jh
 simp only [Sk.cx,Sk.aI,reduceCtorEq,ON,kk,kp,kI,mA,sN,lM,kI,mA,xg.c,kG,forall_eq,maxLen]
 intro hx
 refine ⟨⟨⟨Nat.zero_le _,by rw [hx.2]; exact CB.init l a aW,Nat.le_refl _,Nat.le_refl _⟩,fun i hi=>⟨fun hc _=>?_,fun hc=>?_⟩⟩,fun b hb=>⟨⟨⟨Nat.zero_le _,Inv1.init a _ _⟩,fun i hi=>⟨fun hc _ hM _=>?_,fun hc=>?_⟩⟩,fun b1 HX=>sP.mk' hb.1 rfl HX (Nat.le_refl _)⟩⟩
 all_goals simp only [LN] at hc
 ·have hk:i.2.2.2 < l.length:=by omega
  have hi2:=hi.2.2
  refine ⟨fun hm _=>⟨⟨by omega,hi.2.1.skip hk (by rw [kG]; exact (Bool.not_eq_true' _).mp hm),by omega,by omega⟩,by omega⟩,fun hm _ _=>?_⟩
  have zo:cJ a aW (l.getD i.2.2.2 default)=true:=by rw [kG]; exact (Bool.not_eq_false' _).mp hm
  refine ⟨fun hg hM _=>⟨⟨by omega,hi.2.1.meet hk zo (hi.2.1.2.2.group (NF (dM hk) ?_ _ rfl) hM),?_,?_⟩,by omega⟩,fun _ _=>⟨⟨by omega,hi.2.1.meet hk zo hi.2.1.2.2,?_,by omega⟩,by omega⟩⟩
  ·simp only [LN] at hg
   exact hg.2
  ·rw [List.length_append,List.length_singleton]; omega
  ·exact Nat.le_trans hM.len (by omega)
  ·rw [List.length_append,List.length_singleton]; omega
 ·have e:i.2.2.2=l.length:=by omega
  rw [e] at hi
  exact hi.2
 ·have hk:i.2 < b.2.2.length:=by omega
  have QN:=hb.1.2.2.1 _ (dM hk)
  exact ⟨⟨by omega,hi.2.step (dM hk) QN.1.1 hM⟩,by omega⟩
 ·have e:i.2=b.2.2.length:=by omega
  rw [e] at hi
  exact hi.2
theorem Gs (l:List Claim) (a:bC) (kind:Int) (aW:Bool):(fun (x:(List Claim) × (List Step))=>sP l a aW x.1) (de l a kind aW):=have h:=Sk.cZ _ (zu l a kind aW); h
theorem Be (l:List Claim) (a:bC) (kind:Int) (aW:Bool) (hl:l.length≤1000000000):(jh l a kind aW).aZ (fun _=>True):=by
 refine Sk.aU _ ?_
 unfold jh
 simp only [Sk.jb,Sk.aI,reduceCtorEq,ON,kk,kp,kI,mA,sN,lM,kI,mA,xg.c,kG,forall_eq,maxLen]
 refine ⟨hl,fun hx=>⟨⟨⟨Nat.zero_le _,by rw [hx.2]; exact CB.init l a aW,Nat.le_refl _,Nat.le_refl _⟩,fun i hi ZA=>⟨fun hc=>?_,fun hc=>?_⟩⟩,fun b hb=>⟨⟨Nat.zero_le _,Inv1.init a _ _⟩,fun i hi ZA=>⟨fun hc=>?_,fun hc=>?_⟩⟩⟩⟩
 all_goals simp only [LN] at hc
 ·have hk:i.2.2.2 < l.length:=by omega
  have hi2:=hi.2.2
  have V7:=hi.2.1.1
  have hw:aq ((i.2.2.2:Int)+1)=((i.2.2.2+1:Nat):Int):=(aD (by omega) (by omega)).trans (by omega)
  refine ⟨⟨by omega,by omega⟩,fun _=>⟨fun hm _=>⟨hw,⟨by omega,hi.2.1.skip hk (by rw [kG]; exact (Bool.not_eq_true' _).mp hm),by omega,by omega⟩,by omega⟩,fun hm=>⟨⟨⟨by omega,by omega⟩,by omega⟩,fun _=>⟨by rw [List.length_set],⟨by simp only [List.length_singleton]; omega,by simp only [List.length_singleton]; omega⟩,fun _=>?_⟩⟩⟩⟩
  have zo:cJ a aW (l.getD i.2.2.2 default)=true:=by rw [kG]; exact (Bool.not_eq_false' _).mp hm
  refine ⟨fun hg=>⟨by omega,fun hM _=>⟨hw,⟨by omega,hi.2.1.meet hk zo (hi.2.1.2.2.group (NF (dM hk) ?_ _ rfl) hM),?_,?_⟩,by omega⟩⟩,fun _ _=>⟨hw,⟨by omega,hi.2.1.meet hk zo hi.2.1.2.2,?_,by omega⟩,by omega⟩⟩
  ·simp only [LN] at hg
   exact hg.2
  ·rw [List.length_append,List.length_singleton]; omega
  ·exact Nat.le_trans hM.len (by omega)
  ·rw [List.length_append,List.length_singleton]; omega
 ·have e:i.2.2.2=l.length:=by omega
  rw [e] at hi
  exact hi.2
 ·have hk:i.2 < b.2.2.length:=by omega
  have QN:=hb.1.2.2.1 _ (dM hk)
  have hln:=hi.2.1
  have V7:=hb.1.1
  exact ⟨⟨⟨by omega,by omega⟩,hk⟩,fun _=>⟨by omega,fun hM _=>⟨(aD (by omega) (by omega)).trans (by omega),⟨by omega,hi.2.step (dM hk) QN.1.1 hM⟩,by omega⟩⟩⟩
 ·have e:i.2=b.2.2.length:=by omega
  rw [e] at hi
  exact hi.2
def pG l a kind aW:=kp tok mixed Tryz.func12 [lv Claim.cells l,av a.cells,iv kind,bv aW] (fun x=>.eD [lv Claim.cells x.1,lv Step.cells x.2]) false (de l a kind aW) (Be l a kind aW) (zu l a kind aW)
theorem Io (l:List Claim) (a:bC) (kind:Int) (aW:Bool) (hl:l.length≤1000000000):fA Tryz.prog 12 [lv Claim.cells l,av a.cells,iv kind,bv aW] [] (.eD [ow 777777 (de l a kind aW).1,lv Step.cells ((de l a kind aW).2)]) [(777777,bg 50 9 Claim.cells (de l a kind aW).1)] :=
 fA.sk tok mixed (fun x=>.eD [ow 777777 x.1,lv Step.cells x.2]) (fun x=>[(777777,bg 50 9 Claim.cells x.1)]) Tryz.func12 rfl (by kernel_rfl) 3000 (jh l a kind aW) (by kernel_rfl) (Be l a kind aW hl)
def vk (κ:Nat) (l:List Claim) (a:bC) (kind:Int) (aW:Bool):gW ((List Claim) × (List Step)):=⟨Tryz.prog,12,[lv Claim.cells l,av a.cells,iv kind,bv aW],fun x=>.eD [ow κ x.1,lv Step.cells x.2],fun x=>[(κ,bg 50 9 Claim.cells x.1)],de l a kind aW,(l.length≤1000000000),fun h=>fA.YG κ rfl (Io l a kind aW h),fun (x:(List Claim) × (List Step))=>sP l a aW x.1,Gs l a kind aW⟩
def pH (l:List Claim) (want:List Int):Sk (Bool) :=
 .br (((l.length:Nat):Int) != ((want.length:Nat):Int))
 (.fin false)
 (.bt
 (.loop (default:Sum (Bool) (Unit)) (fun i2=>i2≤l.length) (fun i2=>l.length - i2) (0:Nat)
 (fun (i2:Nat)=>⟨[(5,iv (i2:Int))],[]⟩) fun i2 =>
 .lt 0 0 i2 l.length
 (.r 6 (.al (.p (bA (i2:Int) l.length)) (.p (bA (i2:Int) want.length))) fun _ =>
 .br (((l.getD i2 default).sum) != (want.getD i2 default))
 (.fin (.inl (.inl false)))
 (.nx 5 5 i2 (i2+1)))
 (.fin (.inl (.inr ()))))
 (fun (_:Unit)=>⟨[],[]⟩) fun _ =>
 .fin true)
def UN l want:=(pH l want).val
theorem Lf (l:List Claim) (want:List Int):(pH l want).cC (fun (x:Bool)=>x=true→l.length=want.length):=by
 unfold pH
 exact B7
theorem NI (l:List Claim) (want:List Int):(pH l want).aZ (fun _=>True):=by
 unfold pH
 exact mu
def rC l want:=kp tok mixed Tryz.func13 [lv Claim.cells l,lv bF want] (fun x=>bv x) true (UN l want) (u0 (NI l want)) (Lf l want)
def qy:Sk (Bool) :=
 .r 1 zr.c fun x1 =>
 .r 2 ((pG x1 ({ kind:=6,dY:=1,bP:=3,part:=0,at_:=1,sum:=60,day:=0,bQ:=0,form:=0 }:bC) 1 false).c) fun x2 =>
 .r 3 ((pG x1 ({ kind:=6,dY:=2,bP:=3,part:=0,at_:=2,sum:=60,day:=0,bQ:=0,form:=0 }:bC) 2 false).c) fun x3 =>
 .r 4 ((pG x1 ({ kind:=6,dY:=2,bP:=3,part:=0,at_:=2,sum:=100,day:=0,bQ:=0,form:=0 }:bC) 2 false).c) fun x4 =>
 .r 5 ((pG x4.1 ({ kind:=6,dY:=0,bP:=2,part:=0,at_:=0,sum:=100,day:=0,bQ:=0,form:=0 }:bC) 0 false).c) fun x5 =>
 .r 6 (.al (.o [.fc (fQ dr [40,40,40])]) (.dep ((rC x2.1 [40,40,40]).c) fun x6=>.al (.wh (!x6) false (.o [.fc (fQ dr [40,40,40,60,60])])) (.dep (.wh (!x6) false ((rC x3.1 [40,40,40,60,60]).c)) fun x7=>.al (.wh ((!x6)||(!x7)) false (.o [.fc (fQ dr [0,0,0,100,100])])) (.dep (.wh ((!x6)||(!x7)) false ((rC x4.1 [0,0,0,100,100]).c)) fun x8=>.al (.wh (((!x6)||(!x7))||(!x8)) false (.o [.fc (fQ dr [0,0,0,0,0,100])])) (.wh (((!x6)||(!x7))||(!x8)) false ((rC x5.1 [0,0,0,0,0,100]).c)))))) fun PV =>
 .br (((((!PV.1)||(!PV.2.1))||(!PV.2.2.1))||(!PV.2.2.2))||(((x3.2.length:Nat):Int) != 3))
 (.fin false)
 (.r 8 (.al (.p (bA (3:Int) x3.1.length)) (.wh ((((x3.1.getD 3 default).aR) == 1)&&((((x3.1.getD 3 default).af) == 2)&&((((x3.1.getD 3 default).part) == 0)&&((((x3.1.getD 3 default).sign) == 1)&&((((x3.1.getD 3 default).cj) == 2)&&((((x3.1.getD 3 default).mN) == 0)&&((((x3.1.getD 3 default).sum) == 60)&&((((x3.1.getD 3 default).aE) == 0)&&((((x3.1.getD 3 default).state) == 1)&&true))))))))) true (.p (bA (4:Int) x3.1.length)))) fun _ =>
 .r 9 (.al (.wh (((((x3.1.getD 3 default).aR) == 1)&&((((x3.1.getD 3 default).af) == 2)&&((((x3.1.getD 3 default).part) == 0)&&((((x3.1.getD 3 default).sign) == 1)&&((((x3.1.getD 3 default).cj) == 2)&&((((x3.1.getD 3 default).mN) == 0)&&((((x3.1.getD 3 default).sum) == 60)&&((((x3.1.getD 3 default).aE) == 0)&&((((x3.1.getD 3 default).state) == 1)&&true)))))))))&&((((x3.1.getD 4 default).aR) == 0)&&((((x3.1.getD 4 default).af) == 2)&&((((x3.1.getD 4 default).part) == 0)&&((((x3.1.getD 4 default).sign) == 0)&&((((x3.1.getD 4 default).cj) == 2)&&((((x3.1.getD 4 default).mN) == 2)&&((((x3.1.getD 4 default).sum) == 60)&&((((x3.1.getD 4 default).aE) == 0)&&((((x3.1.getD 4 default).state) == 1)&&true)))))))))) true (.p (bA (5:Int) x5.1.length))) (.wh ((((((x3.1.getD 3 default).aR) == 1)&&((((x3.1.getD 3 default).af) == 2)&&((((x3.1.getD 3 default).part) == 0)&&((((x3.1.getD 3 default).sign) == 1)&&((((x3.1.getD 3 default).cj) == 2)&&((((x3.1.getD 3 default).mN) == 0)&&((((x3.1.getD 3 default).sum) == 60)&&((((x3.1.getD 3 default).aE) == 0)&&((((x3.1.getD 3 default).state) == 1)&&true)))))))))&&((((x3.1.getD 4 default).aR) == 0)&&((((x3.1.getD 4 default).af) == 2)&&((((x3.1.getD 4 default).part) == 0)&&((((x3.1.getD 4 default).sign) == 0)&&((((x3.1.getD 4 default).cj) == 2)&&((((x3.1.getD 4 default).mN) == 2)&&((((x3.1.getD 4 default).sum) == 60)&&((((x3.1.getD 4 default).aE) == 0)&&((((x3.1.getD 4 default).state) == 1)&&true))))))))))&&((((x5.1.getD 5 default).aR) == 1)&&((((x5.1.getD 5 default).af) == 0)&&((((x5.1.getD 5 default).part) == 0)&&((((x5.1.getD 5 default).sign) == 1)&&((((x5.1.getD 5 default).cj) == 0)&&((((x5.1.getD 5 default).mN) == 0)&&((((x5.1.getD 5 default).sum) == 100)&&((((x5.1.getD 5 default).aE) == 0)&&((((x5.1.getD 5 default).state) == 1)&&true)))))))))) true (.p (bA (2:Int) x3.2.length)))) fun _ =>
 .fin (((((((x3.1.getD 3 default).aR) == 1)&&((((x3.1.getD 3 default).af) == 2)&&((((x3.1.getD 3 default).part) == 0)&&((((x3.1.getD 3 default).sign) == 1)&&((((x3.1.getD 3 default).cj) == 2)&&((((x3.1.getD 3 default).mN) == 0)&&((((x3.1.getD 3 default).sum) == 60)&&((((x3.1.getD 3 default).aE) == 0)&&((((x3.1.getD 3 default).state) == 1)&&true)))))))))&&((((x3.1.getD 4 default).aR) == 0)&&((((x3.1.getD 4 default).af) == 2)&&((((x3.1.getD 4 default).part) == 0)&&((((x3.1.getD 4 default).sign) == 0)&&((((x3.1.getD 4 default).cj) == 2)&&((((x3.1.getD 4 default).mN) == 2)&&((((x3.1.getD 4 default).sum) == 60)&&((((x3.1.getD 4 default).aE) == 0)&&((((x3.1.getD 4 default).state) == 1)&&true))))))))))&&((((x5.1.getD 5 default).aR) == 1)&&((((x5.1.getD 5 default).af) == 0)&&((((x5.1.getD 5 default).part) == 0)&&((((x5.1.getD 5 default).sign) == 1)&&((((x5.1.getD 5 default).cj) == 0)&&((((x5.1.getD 5 default).mN) == 0)&&((((x5.1.getD 5 default).sum) == 100)&&((((x5.1.getD 5 default).aE) == 0)&&((((x5.1.getD 5 default).state) == 1)&&true))))))))))&&((((x3.2.getD 2 default).aR) == 0)&&((((x3.2.getD 2 default).af) == 3)&&((((x3.2.getD 2 default).sign) == 0)&&((((x3.2.getD 2 default).sum) == 60)&&true))))))
def CD:Bool:=(qy).val
theorem Gt:(fun (x:Bool)=>x=true) (CD):=(show CD=true by kernel_rfl)
theorem Lg:(qy).aZ (fun _=>True):=by
 refine Sk.aU _ ?_
 unfold qy
 simp only [Sk.jb,Sk.aI,reduceCtorEq,ON,kk,kp,zr,rC,pG,maxLen]
 intro x _ hx
 refine ⟨by omega,fun y1 _ _=>⟨by omega,fun y2 _ _=>⟨by omega,fun y3 _ h3=>⟨?_,fun y4 _ _ z _ hz hc=>?_⟩⟩⟩⟩
 ·have:=h3.few (x.map Mj) (fun c hc=>List.mem_map.2 ⟨c,hc,rfl⟩)
  rw [List.length_map] at this
  omega
 ·simp only [Bool.or_eq_false_iff,Bool.not_eq_false',bne_eq_false_iff_eq] at hc
  obtain ⟨⟨⟨⟨-,z2⟩,z3⟩,z4⟩,z5⟩:=hc
  have e2:=hz.2.1 z2
  have e4:=hz.2.2.2 z4
  simp only [List.length_cons,List.length_nil] at e2 e4
  (repeat' first | exact trivial | (apply And.intro) | (intro h))
  all_goals omega
def xn:gV (Bool):=kk tok mixed Tryz.func5 [] (fun x=>bv x) true (qy) (CD) (fun (_:True)=>Lg) (fun (x:Bool)=>x=true) (Gt)
def rD (r:ai):Sk (Bool) :=
 .bt
 (.loop (default:Sum (Bool) (Unit)) (fun i2=>i2≤r.aK.length) (fun i2=>r.aK.length - i2) (0:Nat)
 (fun (i2:Nat)=>⟨[(3,iv (i2:Int))],[]⟩) fun i2 =>
 .zC 1 1 r.aK.length <|
 .br ((decide ((i2:Int) < ((r.aK.length:Nat):Int)))&&(decide ((i2:Int) < 50)))
 (.r 4 (.al (.p (bA (i2:Int) r.aK.length)) (.al (.wh (decide (((((r.aK.getD i2 default).eG).length:Nat):Int) > 70)) false (.p (bA (i2:Int) r.aK.length))) (.wh ((decide (((((r.aK.getD i2 default).eG).length:Nat):Int) > 70))||(decide (((((r.aK.getD i2 default).shut).length:Nat):Int) > 210))) false (.p (bA (i2:Int) r.aK.length))))) fun _ =>
 .br (((decide (((((r.aK.getD i2 default).eG).length:Nat):Int) > 70))||(decide (((((r.aK.getD i2 default).shut).length:Nat):Int) > 210)))||(decide (((((r.aK.getD i2 default).rest).length:Nat):Int) > 8)))
 (.fin (.inl (.inl false)))
 (.nx 3 3 i2 (i2+1)))
 (.fin (.inl (.inr ()))))
 (fun (_:Unit)=>⟨[],[]⟩) fun _ =>
 .bind true (fun b3=>∀ k,k < r.aC.length→k < 50→(r.aC.getD k default).aP.length≤40∧(r.aC.getD k default).rules.length≤40)
 (.loop (default:Sum (Bool) (Unit)) (fun i4=>(∀ k,k < i4→(r.aC.getD k default).aP.length≤40∧(r.aC.getD k default).rules.length≤40)∧i4≤r.aC.length) (fun i4=>r.aC.length - i4) (0:Nat)
 (fun (i4:Nat)=>⟨[(4,iv (i4:Int))],[]⟩) fun i4 =>
 .zC 1 4 r.aC.length <|
 .br ((decide ((i4:Int) < ((r.aC.length:Nat):Int)))&&(decide ((i4:Int) < 50)))
 (.r 9 (.al (.p (bA (i4:Int) r.aC.length)) (.wh (decide (((((r.aC.getD i4 default).aP).length:Nat):Int) > 40)) false (.p (bA (i4:Int) r.aC.length)))) fun _ =>
 .br ((decide (((((r.aC.getD i4 default).aP).length:Nat):Int) > 40))||(decide (((((r.aC.getD i4 default).rules).length:Nat):Int) > 40)))
 (.fin (.inl (.inl false)))
 (.nx 8 4 i4 (i4+1)))
 (.fin (.inl (.inr ()))))
 (fun (_:Unit)=>⟨[],[]⟩) fun _ =>
 .fin ((((((((decide (((r.bN.length:Nat):Int) < 50))&&(decide (((r.aK.length:Nat):Int) < 50)))&&(decide (((r.eH.length:Nat):Int) < 50)))&&(decide (((r.aQ.length:Nat):Int) < 210)))&&(decide (((r.aC.length:Nat):Int) < 50)))&&(decide (((r.aJ.length:Nat):Int) < 110)))&&(decide (((r.bn.length:Nat):Int) < 110)))&&(decide (((r.dp.length:Nat):Int) < 50)))
def Wv r:=(rD r).val
theorem NJ (r:ai):(rD r).cC (fun (x:Bool)=>x=true→r.Small):=by
 unfold rD
 try simp only [ar.Small,ai.Small]
 exact B7
theorem PW (r:ai):(rD r).aZ (fun _=>True):=by
 unfold rD
 try simp only [ar.Small,ai.Small]
 exact mu
def CE r:=kp tok mixed Tryz.func34 [av r.cells] (fun x=>bv x) true (Wv r) (u0 (PW r)) (NJ r)
def rE (f:ar):Sk (Bool) :=
 .fin ((((decide (((f.ah.length:Nat):Int)≤50))&&(decide (((f.aO.length:Nat):Int)≤10)))&&(decide (((f.au.length:Nat):Int)≤110)))&&(decide (((f.facts.length:Nat):Int)≤220)))
def Rs f:=(rE f).val
theorem Gu (f:ar):Rs f=((((decide (((f.ah.length:Nat):Int)≤50))&&(decide (((f.aO.length:Nat):Int)≤10)))&&(decide (((f.au.length:Nat):Int)≤110)))&&(decide (((f.facts.length:Nat):Int)≤220))):=rfl
theorem NK (f:ar):(rE f).cC (fun (x:Bool)=>x=true→f.Small):=by
 unfold rE
 try simp only [ar.Small,ai.Small]
 exact B7
theorem PX (f:ar):(rE f).aZ (fun _=>True):=by
 unfold rE
 try simp only [ar.Small,ai.Small]
 exact mO
def CF f:=kp tok mixed Tryz.func35 [av f.cells] (fun x=>bv x) true (Rs f) (u0 (PX f)) (NK f)
def DI (rv:Term→Int→Int→Int) (rp:Term→Int→Int→Prop) (rf:∀ (t:Term) (n:Int) (levels:Int),rp t n levels→fA Tryz.prog 125 [av t.cells,iv n,iv levels] [] (iv (rv t n levels)) []) (t:Term) (n:Int) (levels:Int):gV (Int):=⟨Tryz.prog,125,[av t.cells,iv n,iv levels],fun x=>iv x,true,rv t n levels,rp t n levels,rf t n levels,fun _=>True,trivial⟩
def mB (rv:Term→Int→Int→Int) (rp:Term→Int→Int→Prop) (rf:∀ (t:Term) (n:Int) (levels:Int),rp t n levels→fA Tryz.prog 125 [av t.cells,iv n,iv levels] [] (iv (rv t n levels)) []) (t:Term) (n:Int) (levels:Int):Sk (Int) :=
 .br (decide (levels < 1))
 (.fin (-1))
 (.bt
 (.loop (default:Sum (Int) (Int)) (fun i2=>i2.2≤t.args.length) (fun i2=>t.args.length - i2.2) ((aq (n - 1),0):Int × Nat)
 (fun (i2:Int × Nat)=>⟨[(1,iv i2.1),(7,iv (i2.2:Int))],[]⟩) fun i2 =>
 .zC 3 2 t.args.length <|
 .br ((decide ((i2.2:Int) < ((t.args.length:Nat):Int)))&&(decide (i2.1≥0)))
 (.r 7 (.al (.al (.p (bA (i2.2:Int) t.args.length)) (.o [.cast 26 (Wn (Term.Gm (t.args.getD i2.2 default)))])) ((DI rv rp rf (t.args.getD i2.2 default) i2.1 (aq (levels - 1))).c)) fun x3 =>
 .nx 6 7 i2.2 (x3,i2.2+1))
 (.fin (.inl (.inr i2.1))))
 (fun (b1:Int)=>⟨[(1,iv b1)],[]⟩) fun b1 =>
 .fin b1)
def gY:Nat→Term→Int→Int→Int
 | 0,_,_,_=>default
 | fu+1,t,n,levels=>(mB (gY fu) (fun _ _ _=>False) (fun _ _ _=>fun h=>h.elim) t n levels).val
theorem NL (fu:Nat) (rf:∀ (t:Term) (n:Int) (levels:Int),t.depth≤fu∧True→fA Tryz.prog 125 [av t.cells,iv n,iv levels] [] (iv (gY fu t n levels)) []) (t:Term) (n:Int) (levels:Int) (hm:t.depth≤fu+1):(mB (gY fu) (fun t n levels=>t.depth≤fu∧True) rf t n levels).aZ (fun _=>True):=by
 refine Sk.aU _ ?_
 unfold mB
 simp only [Sk.jb,Sk.aI,reduceCtorEq,ON,kk,kp,DI,maxLen]
 all_goals (repeat' first | assumption | (apply And.intro) | (intro h))
 all_goals first | trivial | assumption | omega | (refine Nat.le_of_lt_succ (Nat.lt_of_lt_of_le (Term.jg t _ (by (try simp only [LN] at *); omega)) hm)) | ((try simp only [LN] at *) <;> first | omega | (refine (aD ?_ ?_).trans ?_ <;> omega) | (simp (disch:=omega) only [aD] at *; omega) | (grind) | (simp_all; done) | (simp_all; omega))
theorem Lh (fu:Nat) (rp:Term→Int→Int→Prop) (rf:∀ (t:Term) (n:Int) (levels:Int),rp t n levels→fA Tryz.prog 125 [av t.cells,iv n,iv levels] [] (iv (gY fu t n levels)) []) (t:Term) (n:Int) (levels:Int):(mB (gY fu) rp rf t n levels).val=gY (fu+1) t n levels:=by kernel_rfl
theorem Li (fu:Nat):∀ (t:Term) (n:Int) (levels:Int),t.depth≤fu→fA Tryz.prog 125 [av t.cells,iv n,iv levels] [] (iv (gY fu t n levels)) []:=by
 induction fu with
 | zero=>intro t n levels hm; exact absurd hm (by have:=Term.qT t; omega)
 | succ fu ih =>
  intro t n levels hm
  have h:fA Tryz.prog 125 [av t.cells,iv n,iv levels] [] (iv ((mB (gY fu) (fun t n levels=>t.depth≤fu∧True) (fun t n levels h=>ih t n levels h.1) t n levels).val)) []:=fA.sk tok mixed (fun x=>iv x) (fun _=>[]) Tryz.func125 rfl (by kernel_rfl) 3000 (mB (gY fu) (fun t n levels=>t.depth≤fu∧True) (fun t n levels h=>ih t n levels h.1) t n levels) (by kernel_rfl) (NL fu _ t n levels hm)
  rw [Lh] at h
  exact h
def NM (t:Term) (n:Int) (levels:Int):Int:=gY (t.depth) t n levels
theorem NN (t:Term) (n:Int) (levels:Int):fA Tryz.prog 125 [av t.cells,iv n,iv levels] [] (iv (NM t n levels)) []:=Li _ t n levels (Nat.le_refl _)
def Gv (t:Term) (n:Int) (levels:Int):gV (Int):=⟨Tryz.prog,125,[av t.cells,iv n,iv levels],fun x=>iv x,true,NM t n levels,True,fun _=>NN t n levels,fun _=>True,trivial⟩
def vl (t:Term):Sk (Bool) :=
 .r 1 ((Gv t 100 20).c) fun x1 =>
 .fin (decide (x1≥0))
def Ww t:=(vl t).val
theorem PY (t:Term):(vl t).aZ (fun _=>True):=by
 unfold vl
 try simp only [Gv]
 exact mO
def Kh t:=kk tok mixed Tryz.func74 [av t.cells] (fun x=>bv x) true (vl t) (Ww t) (u0 (PY t))
def vm (o:Order):Sk (Bool) :=
 .br ((decide (((o.rules.length:Nat):Int) > 60))||(decide (((o.aP.length:Nat):Int) > 60)))
 (.fin false)
 (.bt
 (.loop (default:Sum (Bool) (Unit)) (fun i2=>i2≤o.rules.length) (fun i2=>o.rules.length - i2) (0:Nat)
 (fun (i2:Nat)=>⟨[(3,iv (i2:Int))],[]⟩) fun i2 =>
 .lt 1 3 i2 o.rules.length
 (.r 6 (.al (.p (bA (i2:Int) o.rules.length)) ((Kh ((o.rules.getD i2 default).term)).c)) fun x3 =>
 .br (!x3)
 (.fin (.inl (.inl false)))
 (.nx 5 3 i2 (i2+1)))
 (.fin (.inl (.inr ()))))
 (fun (_:Unit)=>⟨[],[]⟩) fun _ =>
 .fin true)
def Wx o:=(vm o).val
theorem PZ (o:Order):(vm o).aZ (fun _=>True):=by
 unfold vm
 try simp only [Kh]
 exact mu
def CG o:=kk tok mixed Tryz.func36 [av o.cells] (fun x=>bv x) true (vm o) (Wx o) (u0 (PZ o))
def rF (r:ai) (f:ar):Sk (Bool) :=
 .r 1 (.dep ((CE r).c) fun x1=>.wh (!x1) false ((CF f).c)) fun p6 =>
 .br ((!p6.1)||(!p6.2))
 (.fin false)
 (.bt
 (.loop (default:Sum (Bool) (Unit)) (fun i4=>i4≤r.aC.length) (fun i4=>r.aC.length - i4) (0:Nat)
 (fun (i4:Nat)=>⟨[(5,iv (i4:Int))],[]⟩) fun i4 =>
 .lt 2 4 i4 r.aC.length
 (.r 6 (.al (.p (bA (i4:Int) r.aC.length)) ((CG (r.aC.getD i4 default)).c)) fun x5 =>
 .br (!x5)
 (.fin (.inl (.inl false)))
 (.nx 5 5 i4 (i4+1)))
 (.fin (.inl (.inr ()))))
 (fun (_:Unit)=>⟨[],[]⟩) fun _ =>
 .fin true)
def Wy r f:=(rF r f).val
theorem NP (r:ai) (f:ar):(rF r f).cC (fun (x:Bool)=>x=true→r.Small∧f.Small):=by
 unfold rF
 try simp only [CE,CF,CG,Gu,ar.Small,ai.Small]
 exact O3
theorem P1 (r:ai) (f:ar):(rF r f).aZ (fun _=>True):=by
 unfold rF
 try simp only [CE,CF,CG,Gu,ar.Small,ai.Small]
 exact wx
def CH r f:=kp tok mixed Tryz.func14 [av r.cells,av f.cells] (fun x=>bv x) true (Wy r f) (u0 (P1 r f)) (NP r f)
def oP (c_:Int):Sk (Bool) :=
 .fin (((decide ((97:Int)≤c_))&&(decide (c_≤122)))||((decide ((65:Int)≤c_))&&(decide (c_≤90))))
def Gw c_:=(oP c_).val
theorem Ip (c_:Int):Gw c_=(((decide ((97:Int)≤c_))&&(decide (c_≤122)))||((decide ((65:Int)≤c_))&&(decide (c_≤90)))):=rfl
theorem Iq (c_:Int):(oP c_).aZ (fun _=>True):=by
 unfold oP
 exact mO
def Bf c_:=kk tok mixed Tryz.func167 [.d (.v (.int .u8 c_))] (fun x=>bv x) true (oP c_) (Gw c_) (u0 (Iq c_))
def sQ (s:ByteArray):Sk (Bool) :=
 .br ((decide (((s.size:Nat):Int) < 1))||(decide (((s.size:Nat):Int) > 20)))
 (.fin false)
 (.bt
 (.loop (default:Sum (Bool) (Unit)) (fun i2=>i2≤s.size) (fun i2=>s.size - i2) (0:Nat)
 (fun (i2:Nat)=>⟨[(3,iv (i2:Int))],[]⟩) fun i2 =>
 .br (decide ((i2:Int) < ((s.size:Nat):Int)))
 (.r 6 (.al (.p (0≤(i2:Int)∧(i2:Int) < ((s.size:Nat):Int))) (.al (.wh (((s.data.toList.getD i2 0).toNat:Int) == 95) false (.p (0≤(i2:Int)∧(i2:Int) < ((s.size:Nat):Int)))) (.wh (((s.data.toList.getD i2 0).toNat:Int) == 95) false (.wh (decide ((48:Int)≤((s.data.toList.getD i2 0).toNat:Int))) true (.p (0≤(i2:Int)∧(i2:Int) < ((s.size:Nat):Int))))))) fun _ =>
 .r 7 (.al (.p (0≤(i2:Int)∧(i2:Int) < ((s.size:Nat):Int))) ((Bf ((s.data.toList.getD i2 0).toNat:Int)).c)) fun x3 =>
 .br ((!x3)&&(((i2:Int) == 0)||(!((((s.data.toList.getD i2 0).toNat:Int) == 95)||((decide ((48:Int)≤((s.data.toList.getD i2 0).toNat:Int)))&&(decide (((s.data.toList.getD i2 0).toNat:Int)≤57)))))))
 (.fin (.inl (.inl false)))
 (.nx 5 3 i2 (i2+1)))
 (.fin (.inl (.inr ()))))
 (fun (_:Unit)=>⟨[],[]⟩) fun _ =>
 .fin true)
def UO s:=(sQ s).val
theorem NQ (s:ByteArray):(sQ s).aZ (fun _=>True):=by
 unfold sQ
 try simp only [Bf,Ip]
 exact wx
def Gx s:=kk tok mixed Tryz.func126 [sv s] (fun x=>bv x) true (sQ s) (UO s) (u0 (NQ s))
def oQ (l:List ByteArray) (n:Int) (s:ByteArray):Sk (Bool) :=
 .bt
 (.loop (default:Sum (Bool) (Unit)) (fun i2=>i2≤l.length) (fun i2=>l.length - i2) (0:Nat)
 (fun (i2:Nat)=>⟨[(7,iv (i2:Int))],[]⟩) fun i2 =>
 .zC 0 0 l.length <|
 .br ((decide ((i2:Int) < n))&&(decide ((i2:Int) < ((l.length:Nat):Int))))
 (.r 4 (.p (bA (i2:Int) l.length)) fun _ =>
 .br ((l.getD i2 default).toList == s.toList)
 (.fin (.inl (.inl true)))
 (.nx 3 7 i2 (i2+1)))
 (.fin (.inl (.inr ()))))
 (fun (_:Unit)=>⟨[],[]⟩) fun _ =>
 .fin false
def P2 l n s:=(oQ l n s).val
theorem Ir (l:List ByteArray) (n:Int) (s:ByteArray):(oQ l n s).aZ (fun _=>True):=by
 unfold oQ
 exact mu
def Bg l n s:=kk tok mixed Tryz.func127 [lv gU l,iv n,sv s] (fun x=>bv x) true (oQ l n s) (P2 l n s) (u0 (Ir l n s))
def qz (l:List ByteArray) (i:Int):Sk (Int) :=
 .r 1 (.al (.p (bA i l.length)) ((Gx (l.getD i.toNat default)).c)) fun x1 =>
 .br (!x1)
 (.fin 2)
 (.r 3 (.al (.p (bA i l.length)) ((Bg l i (l.getD i.toNat default)).c)) fun x2 =>
 .br x2
 (.fin 5)
 (.fin 0))
def Ss l i:=(qz l i).val
theorem Lj (l:List ByteArray) (i:Int) (hi:0≤i∧i < (l.length:Int)):(qz l i).aZ (fun _=>True):=by
 unfold qz
 try simp only [Bg,Gx]
 exact mu
def fM l i:=kk tok mixed Tryz.func75 [lv gU l,iv i] (fun x=>iv x) true (qz l i) (Ss l i) (Lj l i)
def oS (n:Int) (low:Int) (high:Int):Sk (Bool) :=
 .fin ((decide (low≤n))&&(decide (n≤high)))
def Gy n low high:=(oS n low high).val
theorem bj (n:Int) (low:Int) (high:Int):Gy n low high=((decide (low≤n))&&(decide (n≤high))):=rfl
theorem Iu (n:Int) (low:Int) (high:Int):(oS n low high).aZ (fun _=>True):=by
 unfold oS
 exact mO
def ak n low high:=kk tok mixed Tryz.func44 [iv n,iv low,iv high] (fun x=>bv x) true (oS n low high) (Gy n low high) (u0 (Iu n low high))
def oT (l:List Int) (low:Int) (high:Int):Sk (Bool) :=
 .bt
 (.loop (default:Sum (Bool) (Unit)) (fun i2=>i2≤l.length) (fun i2=>l.length - i2) (0:Nat)
 (fun (i2:Nat)=>⟨[(7,iv (i2:Int))],[]⟩) fun i2 =>
 .lt 0 0 i2 l.length
 (.r 4 (.al (.p (bA (i2:Int) l.length)) ((ak (l.getD i2 default) low high).c)) fun x3 =>
 .br (!x3)
 (.fin (.inl (.inl false)))
 (.r 6 (.al (.wh (decide ((i2:Int) > 0)) true (.p (bA (aq ((i2:Int) - 1)) l.length))) (.wh (decide ((i2:Int) > 0)) true (.p (bA (i2:Int) l.length)))) fun _ =>
 .br ((decide ((i2:Int) > 0))&&(decide ((l.getD ((aq ((i2:Int) - 1)).toNat) default)≥(l.getD i2 default))))
 (.fin (.inl (.inl false)))
 (.nx 3 7 i2 (i2+1))))
 (.fin (.inl (.inr ()))))
 (fun (_:Unit)=>⟨[],[]⟩) fun _ =>
 .fin true
def P3 l low high:=(oT l low high).val
theorem Iv (l:List Int) (low:Int) (high:Int):(oT l low high).aZ (fun _=>True):=by
 unfold oT
 try simp only [ak,bj]
 exact wx
def qA l low high:=kk tok mixed Tryz.func128 [lv bF l,iv low,iv high] (fun x=>bv x) true (oT l low high) (P3 l low high) (u0 (Iv l low high))
def kJ (r:ai) (c_:gX):Sk (Bool) :=
 .r 1 (.dep ((ak c_.order 0 (aq (((r.aC.length:Nat):Int) - 1))).c) fun x1=>.wh (!x1) false ((ak c_.aE 0 (aq (((r.bN.length:Nat):Int) - 1))).c)) fun UP =>
 .br ((((!UP.1)||(!UP.2))||(decide (((c_.eG.length:Nat):Int) > 60)))||(decide (((c_.shut.length:Nat):Int) > 200)))
 (.fin false)
 (.bt
 (.loop (default:Sum (Bool) (Unit)) (fun i4=>i4≤c_.eG.length) (fun i4=>c_.eG.length - i4) (0:Nat)
 (fun (i4:Nat)=>⟨[(5,iv (i4:Int))],[]⟩) fun i4 =>
 .lt 3 4 i4 c_.eG.length
 (.r 6 (.al (.p (bA (i4:Int) c_.eG.length)) (.al (.p ((100:Int)≠0)) (.dep ((ak (aq ((c_.eG.getD i4 default).tdiv 100)) 1 12).c) fun x5=>.al (.wh (!x5) false (.p (bA (i4:Int) c_.eG.length))) (.al (.wh (!x5) false (.p ((100:Int)≠0))) (.wh (!x5) false ((ak ((c_.eG.getD i4 default).tmod 100) 1 31).c)))))) fun p7 =>
 .br ((!p7.1)||(!p7.2))
 (.fin (.inl (.inl false)))
 (.nx 5 5 i4 (i4+1)))
 (.fin (.inl (.inr ()))))
 (fun (_:Unit)=>⟨[],[]⟩) fun _ =>
 .r 8 (.dep ((qA c_.rest 0 6).c) fun x8=>.dep (.wh x8 true ((qA c_.eG 0 2000).c)) fun x9=>.wh (x8&&x9) true ((qA c_.shut 0 100000).c)) fun Su =>
 .fin ((Su.1&&Su.2.1)&&Su.2.2))
def Iw r c_:=(kJ r c_).val
theorem CI (r:ai) (c_:gX):(kJ r c_).aZ (fun _=>True):=by
 unfold kJ
 try simp only [qA,ak,bj]
 exact wx
def pT r c_:=kk tok mixed Tryz.func76 [av r.cells,av c_.cells] (fun x=>bv x) true (kJ r c_) (Iw r c_) (u0 (CI r c_))
def lz (r:ai):Sk (Int) :=
 .br (decide (((r.bN.length:Nat):Int) > 8))
 (.fin 6)
 (.bt
 (.loop (default:Sum (Int) (Unit)) (fun i2=>i2≤r.bN.length) (fun i2=>r.bN.length - i2) (0:Nat)
 (fun (i2:Nat)=>⟨[(3,iv (i2:Int))],[]⟩) fun i2 =>
 .lt 1 0 i2 r.bN.length
 (.r 6 ((fM r.bN (i2:Int)).c) fun x3 =>
 .br (x3 != 0)
 (.fin (.inl (.inl x3)))
 (.nx 5 3 i2 (i2+1)))
 (.fin (.inl (.inr ()))))
 (fun (_:Unit)=>⟨[],[]⟩) fun _ =>
 .br (decide (((r.aK.length:Nat):Int) > 40))
 (.fin 6)
 (.bt
 (.loop (default:Sum (Int) (Unit)) (fun i5=>i5.1.length=i5.2∧i5.2≤r.aK.length) (fun i5=>r.aK.length - i5.2) (([],0):(List ByteArray) × Nat)
 (fun (i5:(List ByteArray) × Nat)=>⟨[(5,ow 100001 i5.1),(6,iv (i5.2:Int))],[(100001,bg 9 1 gU i5.1)]⟩) fun i5 =>
 .lt 1 1 i5.2 r.aK.length
 (.r 15 (.al (.p (bA (i5.2:Int) r.aK.length)) (.al (.o [.fc (fQ uc [(r.aK.getD i5.2 default).name])]) (.al (.o [.fc (mV uc i5.1 [(r.aK.getD i5.2 default).name])]) (.al (.t (uc.pB [(r.aK.getD i5.2 default).name])) (.p (yw i5.1.length [(r.aK.getD i5.2 default).name].length 16)))))) fun _ =>
 .r 16 ((fM (i5.1++[(r.aK.getD i5.2 default).name]) (i5.2:Int)).c) fun x6 =>
 .br (x6 != 0)
 (.fin (.inl (.inl x6)))
 (.r 19 (.al (.p (bA (i5.2:Int) r.aK.length)) ((pT r (r.aK.getD i5.2 default)).c)) fun x7 =>
 .br (!x7)
 (.fin (.inl (.inl 1)))
 (.nx 14 6 i5.2 (i5.1++[(r.aK.getD i5.2 default).name],i5.2+1))))
 (.fin (.inl (.inr ()))))
 (fun (_:Unit)=>⟨[],[]⟩) fun _ =>
 .fin 0))
def P4 r:=(lz r).val
theorem Gz (r:ai):(lz r).cC (fun (x:Int)=>x=0→r.bN.length≤8∧r.aK.length≤40):=by
 unfold lz
 try simp only [pT,fM]
 exact B7
theorem Ix (r:ai):(lz r).aZ (fun _=>True):=by
 unfold lz
 try simp only [pT,fM]
 exact mu
def vn r:=kp tok mixed Tryz.func37 [av r.cells] (fun x=>iv x) true (P4 r) (u0 (Ix r)) (Gz r)
def kK (r:ai):Sk (Int) :=
 .br (decide (((r.eH.length:Nat):Int) > 20))
 (.fin 6)
 (.bt
 (.loop (default:Sum (Int) (Unit)) (fun i2=>i2≤r.eH.length) (fun i2=>r.eH.length - i2) (0:Nat)
 (fun (i2:Nat)=>⟨[(3,iv (i2:Int))],[]⟩) fun i2 =>
 .lt 1 2 i2 r.eH.length
 (.r 6 (.al (.p (bA (i2:Int) r.eH.length)) ((ak ((r.eH.getD i2 default).Nz) 0 9).c)) fun x3 =>
 .br (!x3)
 (.fin (.inl (.inl 1)))
 (.nx 5 3 i2 (i2+1)))
 (.fin (.inl (.inr ()))))
 (fun (_:Unit)=>⟨[],[]⟩) fun _ =>
 .br (decide (((r.aQ.length:Nat):Int) > 200))
 (.fin 6)
 (.bind true (fun b4=>r.aK.length≤40→r.fW)
 (.loop (default:Sum (Int) (Unit)) (fun i5=>i5.1.length=i5.2∧i5.2≤r.aQ.length∧(r.aK.length≤40→∀ q,q < i5.2→0≤(r.aQ.getD q default).bQ∧(r.aQ.getD q default).bQ < (r.aK.length:Int))) (fun i5=>r.aQ.length - i5.2) (([],0):(List ByteArray) × Nat)
 (fun (i5:(List ByteArray) × Nat)=>⟨[(4,ow 100001 i5.1),(5,iv (i5.2:Int))],[(100001,bg 9 1 gU i5.1)]⟩) fun i5 =>
 .lt 1 3 i5.2 r.aQ.length
 (.r 14 (.al (.p (bA (i5.2:Int) r.aQ.length)) (.al (.o [.fc (fQ uc [(r.aQ.getD i5.2 default).name])]) (.al (.o [.fc (mV uc i5.1 [(r.aQ.getD i5.2 default).name])]) (.al (.t (uc.pB [(r.aQ.getD i5.2 default).name])) (.p (yw i5.1.length [(r.aQ.getD i5.2 default).name].length 16)))))) fun _ =>
 .r 15 ((fM (i5.1++[(r.aQ.getD i5.2 default).name]) (i5.2:Int)).c) fun x6 =>
 .br (x6 != 0)
 (.fin (.inl (.inl x6)))
 (.r 18 (.al (.p (bA (i5.2:Int) r.aQ.length)) (.dep ((ak ((r.aQ.getD i5.2 default).bQ) 0 (aq (((r.aK.length:Nat):Int) - 1))).c) fun x7=>.al (.wh (!x7) false (.p (bA (i5.2:Int) r.aQ.length))) (.wh (!x7) false ((ak ((r.aQ.getD i5.2 default).group) 0 (aq (((r.eH.length:Nat):Int) - 1))).c)))) fun p9 =>
 .br ((!p9.1)||(!p9.2))
 (.fin (.inl (.inl 1)))
 (.nx 13 5 i5.2 (i5.1++[(r.aQ.getD i5.2 default).name],i5.2+1))))
 (.fin (.inl (.inr ()))))
 (fun (_:Unit)=>⟨[],[]⟩) fun _ =>
 .fin 0))
def Ki r:=(kK r).val
theorem Iy (r:ai) (hP:r.aK.length≤40):(kK r).cC (fun (x:Int)=>x=0→r.eH.length≤20∧r.aQ.length≤200∧r.fW):=by
 refine Sk.aX _ ?_
 unfold kK
 simp only [Sk.cx,Sk.aI,reduceCtorEq,ON,kk,kp,ak,fM,bj,forall_eq,ai.fW,maxLen]
 all_goals exact aa2
theorem GA (r:ai):(fun (x:Int)=>(r.aK.length≤40)→(x=0→r.eH.length≤20∧r.aQ.length≤200∧r.fW)) (Ki r):=fun hP=>Sk.cZ _ (Iy r hP)
theorem Lk (r:ai):(kK r).aZ (fun _=>True):=by
 refine Sk.aU _ ?_
 unfold kK
 simp only [Sk.jb,Sk.aI,reduceCtorEq,ON,kk,kp,ak,fM,bj,forall_eq,ai.fW,maxLen]
 all_goals exact aa2
def xo r:=kk tok mixed Tryz.func38 [av r.cells] (fun x=>iv x) true (kK r) (Ki r) (u0 (Lk r)) (fun (x:Int)=>(r.aK.length≤40)→(x=0→r.eH.length≤20∧r.aQ.length≤200∧r.fW)) (GA r)
def gE (o:Order):Sk (Bool) :=
 .bind true (fun b1=>∀ j:Nat,j < o.aP.length→((j:Int)≤(o.aP.getD j default).ask∧(o.aP.getD j default).ask≤21)∧0≤(o.aP.getD j default).cj∧(o.aP.getD j default).cj < 5)
 (.loop (default:Sum (Bool) (Unit)) (fun i2=>(∀ j:Nat,j < i2→((j:Int)≤(o.aP.getD j default).ask∧(o.aP.getD j default).ask≤21)∧0≤(o.aP.getD j default).cj∧(o.aP.getD j default).cj < 5)∧i2≤o.aP.length) (fun i2=>o.aP.length - i2) (0:Nat)
 (fun (i2:Nat)=>⟨[(3,iv (i2:Int))],[]⟩) fun i2 =>
 .lt 1 2 i2 o.aP.length
 (.r 4 (.al (.p (bA (i2:Int) o.aP.length)) (.dep ((ak ((o.aP.getD i2 default).ask) 0 21).c) fun x3=>.al (.wh (!x3) false (.p (bA (i2:Int) o.aP.length))) (.wh (!x3) false ((ak ((o.aP.getD i2 default).cj) 0 4).c)))) fun p5 =>
 .br ((!p5.1)||(!p5.2))
 (.fin (.inl (.inl false)))
 (.r 6 (.al (.wh (decide ((i2:Int) > 0)) true (.p (bA (aq ((i2:Int) - 1)) o.aP.length))) (.wh (decide ((i2:Int) > 0)) true (.p (bA (i2:Int) o.aP.length)))) fun _ =>
 .br ((decide ((i2:Int) > 0))&&(decide (((o.aP.getD ((aq ((i2:Int) - 1)).toNat) default).ask)≥((o.aP.getD i2 default).ask))))
 (.fin (.inl (.inl false)))
 (.nx 3 3 i2 (i2+1))))
 (.fin (.inl (.inr ()))))
 (fun (_:Unit)=>⟨[],[]⟩) fun _ =>
 .bind true (fun b6=>∀ j:Nat,j < o.rules.length→(j:Int)≤(o.rules.getD j default).ask∧(o.rules.getD j default).ask≤21)
 (.loop (default:Sum (Bool) (Unit)) (fun i7=>(∀ j:Nat,j < i7→(j:Int)≤(o.rules.getD j default).ask∧(o.rules.getD j default).ask≤21)∧i7≤o.rules.length) (fun i7=>o.rules.length - i7) (0:Nat)
 (fun (i7:Nat)=>⟨[(4,iv (i7:Int))],[]⟩) fun i7 =>
 .lt 1 3 i7 o.rules.length
 (.r 11 (.al (.p (bA (i7:Int) o.rules.length)) ((ak ((o.rules.getD i7 default).ask) 0 21).c)) fun x8 =>
 .br (!x8)
 (.fin (.inl (.inl false)))
 (.r 13 (.al (.wh (decide ((i7:Int) > 0)) true (.p (bA (aq ((i7:Int) - 1)) o.rules.length))) (.wh (decide ((i7:Int) > 0)) true (.p (bA (i7:Int) o.rules.length)))) fun _ =>
 .br ((decide ((i7:Int) > 0))&&(decide (((o.rules.getD ((aq ((i7:Int) - 1)).toNat) default).ask)≥((o.rules.getD i7 default).ask))))
 (.fin (.inl (.inl false)))
 (.nx 10 4 i7 (i7+1))))
 (.fin (.inl (.inr ()))))
 (fun (_:Unit)=>⟨[],[]⟩) fun _ =>
 .fin true
def GB o:=(gE o).val
theorem zX (o:Order):(gE o).cC (fun (x:Bool)=>x=true→(∀ j,j < o.aP.length→0≤(o.aP.getD j default).cj∧(o.aP.getD j default).cj < 5)∧o.aP.length≤22∧o.rules.length≤22):=by
 refine Sk.aX _ ?_
 unfold gE
 simp only [Sk.cx,Sk.aI,reduceCtorEq,ON,kk,kp,ak,bj,forall_eq,maxLen]
 refine ⟨⟨⟨fun j hj=>absurd hj (by omega),Nat.zero_le _⟩,fun i hi=>⟨fun hc h1 _ h2 _=>?_,fun hc j hj=>?_⟩⟩,fun _ hJ=>⟨⟨⟨fun j hj=>absurd hj (by omega),Nat.zero_le _⟩,fun i hi=>⟨fun hc h1 _ h2 _=>?_,fun hc j hj=>?_⟩⟩,fun _ hJ2=>⟨fun j hj=>(hJ j hj).2,?_,?_⟩⟩⟩
 rotate_right
 rotate_right
 ·rcases Nat.lt_or_ge 22 o.aP.length with h | h
  ·have:=(hJ 22 h).1; omega
  ·exact h
 ·rcases Nat.lt_or_ge 22 o.rules.length with h | h
  ·have:=hJ2 22 h; omega
  ·exact h
 all_goals simp only [LN] at hc
 ·simp only [LN] at h1 h2
  refine ⟨⟨fun j hj=>?_,by omega⟩,by omega⟩
  by_cases e:j=i
  ·subst e
   refine ⟨⟨?_,by omega⟩,by omega,by omega⟩
   by_cases e0:j=0
   ·subst e0; omega
   ·have h3:=hi.1 (j - 1) (by omega)
    have h4:=h2.resolve_left (by omega)
    rw [aD (by omega) (by omega),show ((j:Int) - 1).toNat=j - 1 by omega] at h4
    omega
  ·exact hi.1 j (by omega)
 ·exact hi.1 j (by omega)
 ·simp only [LN] at h1 h2
  refine ⟨⟨fun j hj=>?_,by omega⟩,by omega⟩
  by_cases e:j=i
  ·subst e
   refine ⟨?_,by omega⟩
   by_cases e0:j=0
   ·subst e0; omega
   ·have h3:=hi.1 (j - 1) (by omega)
    have h4:=h2.resolve_left (by omega)
    rw [aD (by omega) (by omega),show ((j:Int) - 1).toNat=j - 1 by omega] at h4
    omega
  ·exact hi.1 j (by omega)
 ·exact hi.1 j (by omega)
theorem Bh (o:Order):(gE o).aZ (fun _=>True):=by
 refine Sk.aU _ ?_
 unfold gE
 simp only [Sk.jb,Sk.aI,reduceCtorEq,ON,kk,kp,ak,bj,forall_eq,maxLen]
 refine ⟨⟨⟨fun j hj=>absurd hj (by omega),Nat.zero_le _⟩,fun i hi hm=>⟨fun hc=>⟨⟨?_,fun _=>?_⟩,fun h1=>⟨⟨fun h3=>?_,fun _=>?_⟩,fun _ h2 _=>⟨?_,?_⟩⟩⟩,fun hc j hj=>?_⟩⟩,fun _ hJ=>⟨⟨fun j hj=>absurd hj (by omega),Nat.zero_le _⟩,fun i hi hm=>⟨fun hc=>⟨?_,fun h1=>⟨⟨fun h3=>?_,fun _=>?_⟩,fun _ h2 _=>⟨?_,?_⟩⟩⟩,fun hc j hj=>?_⟩⟩⟩
 all_goals simp only [LN] at hc
 ·exact ⟨by omega,by omega⟩
 ·exact ⟨by omega,by omega⟩
 ·simp only [LN] at h3
  rw [aD (by omega) (by omega)]
  exact ⟨by omega,by omega⟩
 ·exact ⟨by omega,by omega⟩
 ·exact (aD (by omega) (by omega)).trans (by omega)
 ·simp only [LN] at h1 h2
  refine ⟨⟨fun j hj=>?_,by omega⟩,by omega⟩
  by_cases e:j=i
  ·subst e
   refine ⟨⟨?_,by omega⟩,by omega,by omega⟩
   by_cases e0:j=0
   ·subst e0; omega
   ·have h3:=hi.1 (j - 1) (by omega)
    have h4:=h2.resolve_left (by omega)
    rw [aD (by omega) (by omega),show ((j:Int) - 1).toNat=j - 1 by omega] at h4
    omega
  ·exact hi.1 j (by omega)
 ·exact hi.1 j (by omega)
 ·exact ⟨by omega,by omega⟩
 ·simp only [LN] at h3
  rw [aD (by omega) (by omega)]
  exact ⟨by omega,by omega⟩
 ·exact ⟨by omega,by omega⟩
 ·exact (aD (by omega) (by omega)).trans (by omega)
 ·simp only [LN] at h1 h2
  refine ⟨⟨fun j hj=>?_,by omega⟩,by omega⟩
  by_cases e:j=i
  ·subst e
   refine ⟨?_,by omega⟩
   by_cases e0:j=0
   ·subst e0; omega
   ·have h3:=hi.1 (j - 1) (by omega)
    have h4:=h2.resolve_left (by omega)
    rw [aD (by omega) (by omega),show ((j:Int) - 1).toNat=j - 1 by omega] at h4
    omega
  ·exact hi.1 j (by omega)
 ·exact hi.1 j (by omega)
def ot o:=kp tok mixed Tryz.func77 [av o.cells] (fun x=>bv x) true (GB o) (u0 (Bh o)) (zX o)
def lA (r:ai):Sk (Int) :=
 .br (decide (((r.aC.length:Nat):Int) > 20))
 (.fin 6)
 (.bind true (fun b1=>r.ca∧(∀ i,i < r.aC.length→(r.aC.getD i default).aP.length≤22∧(r.aC.getD i default).rules.length≤22))
 (.loop (default:Sum (Int) (Unit)) (fun i2=>i2.1.length=i2.2∧i2.2≤r.aC.length∧(∀ i j,i < i2.2→j < (r.aC.getD i default).aP.length→0≤((r.aC.getD i default).aP.getD j default).cj∧((r.aC.getD i default).aP.getD j default).cj < 5)∧(∀ i,i < i2.2→(r.aC.getD i default).aP.length≤22∧(r.aC.getD i default).rules.length≤22)) (fun i2=>r.aC.length - i2.2) (([],0):(List ByteArray) × Nat)
 (fun (i2:(List ByteArray) × Nat)=>⟨[(3,ow 100001 i2.1),(4,iv (i2.2:Int))],[(100001,bg 9 1 gU i2.1)]⟩) fun i2 =>
 .lt 1 4 i2.2 r.aC.length
 (.r 7 (.al (.p (bA (i2.2:Int) r.aC.length)) (.al (.o [.fc (fQ uc [(r.aC.getD i2.2 default).name])]) (.al (.o [.fc (mV uc i2.1 [(r.aC.getD i2.2 default).name])]) (.al (.t (uc.pB [(r.aC.getD i2.2 default).name])) (.p (yw i2.1.length [(r.aC.getD i2.2 default).name].length 16)))))) fun _ =>
 .r 8 ((fM (i2.1++[(r.aC.getD i2.2 default).name]) (i2.2:Int)).c) fun x3 =>
 .br (x3 != 0)
 (.fin (.inl (.inl x3)))
 (.r 11 (.al (.p (bA (i2.2:Int) r.aC.length)) ((ot (r.aC.getD i2.2 default)).c)) fun x4 =>
 .br (!x4)
 (.fin (.inl (.inl 1)))
 (.nx 6 4 i2.2 (i2.1++[(r.aC.getD i2.2 default).name],i2.2+1))))
 (.fin (.inl (.inr ()))))
 (fun (_:Unit)=>⟨[],[]⟩) fun _ =>
 .fin 0)
def P5 r:=(lA r).val
theorem GC (r:ai):(lA r).cC (fun (x:Int)=>x=0→r.ca∧r.aC.length≤20∧(∀ i,i < r.aC.length→(r.aC.getD i default).aP.length≤22∧(r.aC.getD i default).rules.length≤22)):=by
 unfold lA
 try simp only [ot,fM,ai.ca]
 exact B7
theorem Iz (r:ai):(lA r).aZ (fun _=>True):=by
 unfold lA
 try simp only [ot,fM,ai.ca]
 exact mu
def vo r:=kp tok mixed Tryz.func39 [av r.cells] (fun x=>iv x) true (P5 r) (u0 (Iz r)) (GC r)
def kj (r:ai):Sk (Int) :=
 .br (decide (((r.aJ.length:Nat):Int) > 100))
 (.fin 6)
 (.bt
 (.loop (default:Sum (Int) (Unit)) (fun i2=>i2≤r.aJ.length) (fun i2=>r.aJ.length - i2) (0:Nat)
 (fun (i2:Nat)=>⟨[(3,iv (i2:Int))],[]⟩) fun i2 =>
 .lt 1 5 i2 r.aJ.length
 (.bt
 (.r 6 (.p (bA (i2:Int) r.aJ.length)) fun _ =>
 .r 7 (.dep ((ak ((r.aJ.getD i2 default).from_) 0 (aq (((r.aK.length:Nat):Int) - 1))).c) fun x4=>.dep (.wh (!x4) false ((ak ((r.aJ.getD i2 default).bP) 0 (aq (((r.aK.length:Nat):Int) - 1))).c)) fun x5=>.wh ((!x4)||(!x5)) false ((ak ((r.aJ.getD i2 default).days) 1 20000).c)) fun p9 =>
 .br (((!p9.1)||(!p9.2.1))||(!p9.2.2))
 (.fin (.inl (.inl (.inl 1))))
 (.bt
 (.loop (default:Sum (Sum (Sum (Sum (Int) (Unit)) (Nat)) (Int × (List cR) × Int × cR × Int × (List gX) × Int × Int × Bool × Bool × Bool × Bool × Bool × Bool × Int × Int × Bool)) (Int × Int × Int × Bool)) (fun i8=>i8≤i2) (fun i8=>i2 - i8) (0:Nat)
 (fun (i8:Nat)=>⟨[(5,iv (i8:Int))],[]⟩) fun i8 =>
 .br (decide ((i8:Int) < (i2:Int)))
 (.r 12 (.al (.p (bA (i8:Int) r.aJ.length)) (.wh (((r.aJ.getD i8 default).from_) == ((r.aJ.getD i2 default).from_)) true (.p (bA (i8:Int) r.aJ.length)))) fun _ =>
 .br ((((r.aJ.getD i8 default).from_) == ((r.aJ.getD i2 default).from_))&&(((r.aJ.getD i8 default).bP) == ((r.aJ.getD i2 default).bP)))
 (.fin (.inl (.inl (.inl (.inl (.inl 5))))))
 (.nx 11 5 i8 (i8+1)))
 (.fin (.inl (.inr ((i8:Int),(i8:Int),(i2:Int),decide ((i8:Int) < (i2:Int)))))))
 (fun (b7:Int × Int × Int × Bool)=>⟨[(5,iv b7.1),(46,iv b7.2.1),(47,iv b7.2.2.1),(48,bv b7.2.2.2)],[]⟩) fun b7 =>
 .fin (.inr (b7.1,r.aJ,(i2:Int),r.aJ.getD i2 default,(r.aJ.getD i2 default).from_,r.aK,((r.aK.length:Nat):Int),aq (((r.aK.length:Nat):Int) - 1),p9.1,!p9.1,!p9.1,(!p9.1)||(!p9.2.1),(!p9.1)||(!p9.2.1),((!p9.1)||(!p9.2.1))||(!p9.2.2),b7.2.1,b7.2.2.1,b7.2.2.2))))
 (fun (b3:Int × (List cR) × Int × cR × Int × (List gX) × Int × Int × Bool × Bool × Bool × Bool × Bool × Bool × Int × Int × Bool)=>⟨[(5,iv b3.1),(18,lv cR.cells b3.2.1),(19,iv b3.2.2.1),(21,av b3.2.2.2.1.cells),(23,iv b3.2.2.2.2.1),(25,lv gX.cells b3.2.2.2.2.2.1),(26,iv b3.2.2.2.2.2.2.1),(27,iv b3.2.2.2.2.2.2.2.1),(28,bv b3.2.2.2.2.2.2.2.2.1),(29,bv b3.2.2.2.2.2.2.2.2.2.1),(30,bv b3.2.2.2.2.2.2.2.2.2.2.1),(39,bv b3.2.2.2.2.2.2.2.2.2.2.2.1),(40,bv b3.2.2.2.2.2.2.2.2.2.2.2.2.1),(45,bv b3.2.2.2.2.2.2.2.2.2.2.2.2.2.1),(46,iv b3.2.2.2.2.2.2.2.2.2.2.2.2.2.2.1),(47,iv b3.2.2.2.2.2.2.2.2.2.2.2.2.2.2.2.1),(48,bv b3.2.2.2.2.2.2.2.2.2.2.2.2.2.2.2.2)],[]⟩) fun _ =>
 .nx 5 3 i2 (i2+1))
 (.fin (.inl (.inr ()))))
 (fun (_:Unit)=>⟨[],[]⟩) fun _ =>
 .fin 0)
def NR r:=(kj r).val
theorem Ec (r:ai):(kj r).cC (fun (x:Int)=>x=0→r.aJ.length≤100):=by
 unfold kj
 try simp only [ak,bj]
 exact O3
theorem GD (r:ai):(kj r).aZ (fun _=>True):=by
 unfold kj
 try simp only [ak,bj]
 exact wx
def tl r:=kp tok mixed Tryz.func40 [av r.cells] (fun x=>iv x) true (NR r) (u0 (GD r)) (Ec r)
def lB (r:ai):Sk (Int) :=
 .br (decide (((r.bn.length:Nat):Int) > 100))
 (.fin 6)
 (.bind true (fun b1=>r.c9)
 (.loop (default:Sum (Int) (Unit)) (fun i2=>i2≤r.bn.length∧(∀ i,i < i2→(1≤(r.bn.getD i default).num∧(r.bn.getD i default).num≤1073741824)∧1≤(r.bn.getD i default).den∧(r.bn.getD i default).den≤1073741824)) (fun i2=>r.bn.length - i2) (0:Nat)
 (fun (i2:Nat)=>⟨[(3,iv (i2:Int))],[]⟩) fun i2 =>
 .lt 1 6 i2 r.bn.length
 (.r 6 (.p (bA (i2:Int) r.bn.length)) fun _ =>
 .r 7 (.dep ((ak ((r.bn.getD i2 default).from_) 0 (aq (((r.bN.length:Nat):Int) - 1))).c) fun x3=>.wh (!x3) false ((ak ((r.bn.getD i2 default).bP) 0 (aq (((r.bN.length:Nat):Int) - 1))).c)) fun p9 =>
 .br (((!p9.1)||(!p9.2))||(((r.bn.getD i2 default).from_) == ((r.bn.getD i2 default).bP)))
 (.fin (.inl (.inl 1)))
 (.r 9 (.dep ((ak ((r.bn.getD i2 default).num) 1 1073741824).c) fun x5=>.dep (.wh (!x5) false ((ak ((r.bn.getD i2 default).den) 1 1073741824).c)) fun x6=>.wh ((!x5)||(!x6)) false ((ak ((r.bn.getD i2 default).since) 0 100000).c)) fun p8 =>
 .br (((!p8.1)||(!p8.2.1))||(!p8.2.2))
 (.fin (.inl (.inl 1)))
 (.nx 5 3 i2 (i2+1))))
 (.fin (.inl (.inr ()))))
 (fun (_:Unit)=>⟨[],[]⟩) fun _ =>
 .br (decide (((r.dp.length:Nat):Int) > 20))
 (.fin 6)
 (.bind true (fun PK=>r.c6)
 (.loop (default:Sum (Int) (Unit)) (fun i11=>i11≤r.dp.length∧(∀ i,i < i11→(r.dp.getD i default).bP≤100000)) (fun i11=>r.dp.length - i11) (0:Nat)
 (fun (i11:Nat)=>⟨[(5,iv (i11:Int))],[]⟩) fun i11 =>
 .lt 1 7 i11 r.dp.length
 (.r 16 (.p (bA (i11:Int) r.dp.length)) fun _ =>
 .r 17 (.dep ((ak ((r.dp.getD i11 default).order) 0 (aq (((r.aC.length:Nat):Int) - 1))).c) fun Wz=>.wh (!Wz) false ((ak ((r.dp.getD i11 default).from_) 0 ((r.dp.getD i11 default).bP)).c)) fun p14 =>
 .br (((!p14.1)||(!p14.2))||(decide (((r.dp.getD i11 default).bP) > 100000)))
 (.fin (.inl (.inl 1)))
 (.nx 15 5 i11 (i11+1)))
 (.fin (.inl (.inr ()))))
 (fun (_:Unit)=>⟨[],[]⟩) fun _ =>
 .fin 0))
def P6 r:=(lB r).val
theorem GF (r:ai):(lB r).cC (fun (x:Int)=>x=0→r.bn.length≤100∧r.dp.length≤20∧r.c9∧r.c6):=by
 unfold lB
 try simp only [ak,bj,ai.c6,ai.c9]
 exact O3
theorem IA (r:ai):(lB r).aZ (fun _=>True):=by
 unfold lB
 try simp only [ak,bj,ai.c6,ai.c9]
 exact wx
def vp r:=kp tok mixed Tryz.func41 [av r.cells] (fun x=>iv x) true (P6 r) (u0 (IA r)) (GF r)
def na (r:ai):Sk (Int) :=
 .r 1 ((vn r).c) fun x1 =>
 .bind false (fun b2=>b2=0→r.bN.length≤8∧r.aK.length≤40∧r.eH.length≤20∧r.aQ.length≤200∧r.fW)
 (.br (x1 == 0)
 (.r 3 ((xo r).c) fun x3 =>
 .fin (.inr x3))
 (.fin (.inr x1)))
 (fun (b2:Int)=>⟨[(3,iv b2)],[]⟩) fun b2 =>
 .bind false (fun b4=>b4=0→r.bN.length≤8∧r.aK.length≤40∧r.eH.length≤20∧r.aQ.length≤200∧r.fW∧r.ca∧r.aC.length≤20∧(∀ i,i < r.aC.length→(r.aC.getD i default).aP.length≤22∧(r.aC.getD i default).rules.length≤22))
 (.br (b2 == 0)
 (.r 5 ((vo r).c) fun x5 =>
 .fin (.inr x5))
 (.fin (.inr b2)))
 (fun (b4:Int)=>⟨[(3,iv b4)],[]⟩) fun b4 =>
 .bind false (fun b6=>b6=0→r.bN.length≤8∧r.aK.length≤40∧r.eH.length≤20∧r.aQ.length≤200∧r.fW∧r.ca∧r.aC.length≤20∧(∀ i,i < r.aC.length→(r.aC.getD i default).aP.length≤22∧(r.aC.getD i default).rules.length≤22)∧r.aJ.length≤100)
 (.br (b4 == 0)
 (.r 7 ((tl r).c) fun x7 =>
 .fin (.inr x7))
 (.fin (.inr b4)))
 (fun (b6:Int)=>⟨[(3,iv b6)],[]⟩) fun b6 =>
 .br (b6 == 0)
 (.r 9 ((vp r).c) fun x8 =>
 .fin x8)
 (.fin b6)
def Sv r:=(na r).val
theorem IB (r:ai):(na r).cC (fun (x:Int)=>x=0→r.bN.length≤8∧r.aK.length≤40∧r.eH.length≤20∧r.aQ.length≤200∧r.fW∧r.ca∧r.aC.length≤20∧(∀ i,i < r.aC.length→(r.aC.getD i default).aP.length≤22∧(r.aC.getD i default).rules.length≤22)∧r.aJ.length≤100∧r.bn.length≤100∧r.dp.length≤20∧r.c9∧r.c6):=by
 refine Sk.aX _ ?_
 unfold na
 simp only [Sk.cx,Sk.aI,reduceCtorEq,ON,kk,kp,vn,xo,vo,vp,tl,maxLen]
 intro x _ hx
 refine ⟨⟨fun h y _ hy h0=>?_,fun h h0=>?_⟩,fun b _ hb=>⟨⟨fun h y _ hy h0=>?_,fun h h0=>?_⟩,fun b2 _ wI=>⟨⟨fun h y _ hy h0=>?_,fun h h0=>?_⟩,fun b3 _ Fb=>⟨fun h y _ hy h0=>?_,fun h h0=>?_⟩⟩⟩⟩
 ·have hx:=hx (by simpa using h); have hy:=hy hx.2 h0; exact ⟨hx.1,hx.2,hy⟩
 ·rw [h0] at h; exact absurd h (by decide)
 ·have hb:=hb (by simpa using h); exact ⟨hb.1,hb.2.1,hb.2.2.1,hb.2.2.2.1,hb.2.2.2.2,hy h0⟩
 ·rw [h0] at h; exact absurd h (by decide)
 ·have hb:=wI (by simpa using h); exact ⟨hb.1,hb.2.1,hb.2.2.1,hb.2.2.2.1,hb.2.2.2.2.1,hb.2.2.2.2.2.1,hb.2.2.2.2.2.2.1,hb.2.2.2.2.2.2.2,hy h0⟩
 ·rw [h0] at h; exact absurd h (by decide)
 ·have hb:=Fb (by simpa using h); exact ⟨hb.1,hb.2.1,hb.2.2.1,hb.2.2.2.1,hb.2.2.2.2.1,hb.2.2.2.2.2.1,hb.2.2.2.2.2.2.1,hb.2.2.2.2.2.2.2.1,hb.2.2.2.2.2.2.2.2,hy h0⟩
 ·rw [h0] at h; exact absurd h (by decide)
theorem Ll (r:ai):(na r).aZ (fun _=>True):=by
 refine Sk.aU _ ?_
 unfold na
 simp only [Sk.jb,Sk.aI,reduceCtorEq,ON,kk,kp,vn,xo,vo,vp,tl,maxLen]
 intro x _ hx
 refine ⟨⟨fun h y _ hy h0=>?_,fun h h0=>?_⟩,fun b _ hb=>⟨⟨fun h y _ hy h0=>?_,fun h h0=>?_⟩,fun b2 _ wI=>⟨fun h y _ hy h0=>?_,fun h h0=>?_⟩⟩⟩
 ·have hx:=hx (by simpa using h); have hy:=hy hx.2 h0; exact ⟨hx.1,hx.2,hy⟩
 ·rw [h0] at h; exact absurd h (by decide)
 ·have hb:=hb (by simpa using h); exact ⟨hb.1,hb.2.1,hb.2.2.1,hb.2.2.2.1,hb.2.2.2.2,hy h0⟩
 ·rw [h0] at h; exact absurd h (by decide)
 ·have hb:=wI (by simpa using h); exact ⟨hb.1,hb.2.1,hb.2.2.1,hb.2.2.2.1,hb.2.2.2.2.1,hb.2.2.2.2.2.1,hb.2.2.2.2.2.2.1,hb.2.2.2.2.2.2.2,hy h0⟩
 ·rw [h0] at h; exact absurd h (by decide)
def mC r:=kp tok mixed Tryz.func15 [av r.cells] (fun x=>iv x) true (Sv r) (u0 (Ll r)) (IB r)
def yz (n:Int) (length:Int):Sk (Bool) :=
 .fin ((decide (n≥0))&&(decide (n < length)))
def UQ n length:=(yz n length).val
theorem yA (n:Int) (length:Int):UQ n length=((decide (n≥0))&&(decide (n < length))):=rfl
theorem Sw (n:Int) (length:Int):(yz n length).aZ (fun _=>True):=by
 unfold yz
 exact mO
def lC n length:=kk tok mixed Tryz.func78 [iv n,iv length] (fun x=>bv x) true (yz n length) (UQ n length) (u0 (Sw n length))
def pI (n:Int) (length:Int):Sk (Bool) :=
 .r 1 (.wh (n == (-1)) false ((lC n length).c)) fun x1 =>
 .fin ((n == (-1))||x1)
def UR n length:=(pI n length).val
theorem Lm (n:Int) (length:Int):(pI n length).cC (fun (x:Bool)=>x=true→n = -1∨(0≤n∧n < length)):=by
 unfold pI
 try simp only [lC,yA]
 exact O3
theorem NS (n:Int) (length:Int):(pI n length).aZ (fun _=>True):=by
 unfold pI
 try simp only [lC,yA]
 exact wx
def vq n length:=kp tok mixed Tryz.func79 [iv n,iv length] (fun x=>bv x) true (UR n length) (u0 (NS n length)) (Lm n length)
def qB (day:Int):Sk (Bool) :=
 .fin ((decide (day≥0))&&(decide (day≤100000)))
def Kj day:=(qB day).val
theorem Bi (day:Int):Kj day=((decide (day≥0))&&(decide (day≤100000))):=rfl
theorem Ln (day:Int):(qB day).aZ (fun _=>True):=by
 unfold qB
 exact mO
def xp day:=kk tok mixed Tryz.func80 [iv day] (fun x=>bv x) true (qB day) (Kj day) (u0 (Ln day))
def qC (b:og):Sk (Bool) :=
 .br ((b.cU.kind == 0)||(b.cU.kind == 4))
 (.fin ((b.cU.n == 0)&&(b.cU.unit == 0)))
 (.br ((b.cU.kind == 1)||(b.cU.kind == 2))
 (.fin (((decide (b.cU.n≥1))&&(decide (b.cU.n≤400)))&&((b.cU.unit == 0)||(b.cU.unit == 1))))
 (.fin ((((b.cU.kind == 3)&&(decide (b.cU.n≥b.day)))&&(decide (b.cU.n≤100000)))&&(b.cU.unit == 0))))
def Sx b:=(qC b).val
theorem Lo (b:og):(qC b).aZ (fun _=>True):=by
 unfold qC
 exact mO
def xq b:=kk tok mixed Tryz.func81 [av b.cells] (fun x=>bv x) true (qC b) (Sx b) (u0 (Lo b))
def oU (r:ai) (from_:Int) (bP:Int):Sk (Int × Int) :=
 .bt
 (.loop (default:Sum (Int × Int) (Unit)) (fun i2=>i2≤r.aJ.length) (fun i2=>r.aJ.length - i2) (0:Nat)
 (fun (i2:Nat)=>⟨[(8,iv (i2:Int))],[]⟩) fun i2 =>
 .lt 3 5 i2 r.aJ.length
 (.r 4 (.al (.p (bA (i2:Int) r.aJ.length)) (.wh (((r.aJ.getD i2 default).from_) == from_) true (.p (bA (i2:Int) r.aJ.length)))) fun _ =>
 .br ((((r.aJ.getD i2 default).from_) == from_)&&(((r.aJ.getD i2 default).bP) == bP))
 (.r 5 (.p (bA (i2:Int) r.aJ.length)) fun _ =>
 .fin (.inl (.inl ((r.aJ.getD i2 default).days,0))))
 (.nx 3 8 i2 (i2+1)))
 (.fin (.inl (.inr ()))))
 (fun (_:Unit)=>⟨[],[]⟩) fun _ =>
 .fin (0,4)
def P7 r from_ bP:=(oU r from_ bP).val
theorem IC (r:ai) (from_:Int) (bP:Int):(oU r from_ bP).aZ (fun _=>True):=by
 unfold oU
 exact mu
def vr r from_ bP:=kk tok mixed Tryz.func82 [av r.cells,iv from_,iv bP] (fun x=>.eD [iv x.1,iv x.2]) true (oU r from_ bP) (P7 r from_ bP) (u0 (IC r from_ bP))
def nb (r:ai) (b:og):Sk (Int) :=
 .r 1 ((mC r).c) fun x1 =>
 .br (x1 != 0)
 (.fin x1)
 (.r 6 (.dep ((lC b.zW ((r.aQ.length:Nat):Int)).c) fun x2=>.dep (.wh (!x2) false ((lC b.rB ((r.aQ.length:Nat):Int)).c)) fun x3=>.dep (.wh ((!x2)||(!x3)) false ((vq b.bO ((r.aQ.length:Nat):Int)).c)) fun x4=>.dep (.wh (((!x2)||(!x3))||(!x4)) false ((vq b.need ((r.aQ.length:Nat):Int)).c)) fun x5=>.dep (.wh ((((!x2)||(!x3))||(!x4))||(!x5)) false ((lC b.aE ((r.bN.length:Nat):Int)).c)) fun x6=>.dep (.wh (((((!x2)||(!x3))||(!x4))||(!x5))||(!x6)) false ((lC b.bQ ((r.aK.length:Nat):Int)).c)) fun x7=>.wh ((((((!x2)||(!x3))||(!x4))||(!x5))||(!x6))||(!x7)) false ((lC b.B8 ((r.aK.length:Nat):Int)).c)) fun UP =>
 .br (((((((!UP.1)||(!UP.2.1))||(!UP.2.2.1))||(!UP.2.2.2.1))||(!UP.2.2.2.2.1))||(!UP.2.2.2.2.2.1))||(!UP.2.2.2.2.2.2))
 (.fin 1)
 (.r 8 (.wh ((decide (b.sum < 1))||(decide (b.sum > 1099511627776))) false ((xp b.day).c)) fun x9 =>
 .br (((((decide (b.sum < 1))||(decide (b.sum > 1099511627776)))||(!x9))||(decide (b.mW < 0)))||(decide (b.mW > 1000)))
 (.fin 3)
 (.br ((decide (b.parts < 1))||(decide (b.parts > 4)))
 (.fin 15)
 (.r 12 (.wh (((decide (b.flags < 0))||(decide (b.flags > 7)))||((b.bO == (-1))&&((dc .i64 b.flags 4) != 0))) false ((xq b).c)) fun Mk =>
 .br ((((decide (b.flags < 0))||(decide (b.flags > 7)))||((b.bO == (-1))&&((dc .i64 b.flags 4) != 0)))||(!Mk))
 (.fin 2)
 (.br (b.cU.kind != 4)
 (.fin 0)
 (.r 16 ((vr r b.bQ b.B8).c) fun YM =>
 .fin YM.2))))))
def Sy r b:=(nb r b).val
theorem ID (r:ai) (b:og):(nb r b).cC (fun (x:Int)=>x=0→sL r b∧(b.bO = -1∨(0≤b.bO∧b.bO < r.aQ.length))):=by
 refine Sk.aX _ ?_
 unfold nb
 simp (maxSteps:=2000000) only [Sk.cx,Sk.aI,reduceCtorEq,ON,kk,kp,xp,mC,vr,xq,lC,vq,Bi,yA,forall_eq,ai.ca,ai.c6,ai.fW,ai.c9,maxLen]
 all_goals (repeat' first | assumption | (apply And.intro) | (intro h))
 all_goals first | trivial | assumption | omega | ((try simp only [LN] at *) <;> first | omega | (refine (aD ?_ ?_).trans ?_ <;> omega) | (simp (disch:=omega) only [aD] at *; omega) | (grind) | (simp_all; done) | (simp_all; omega))
theorem Lp (r:ai) (b:og):(nb r b).aZ (fun _=>True):=by
 refine Sk.aU _ ?_
 unfold nb
 simp (maxSteps:=2000000) only [Sk.jb,Sk.aI,reduceCtorEq,ON,kk,kp,xp,mC,vr,xq,lC,vq,Bi,yA,forall_eq,ai.ca,ai.c6,ai.fW,ai.c9,maxLen]
def xr r b:=kp tok mixed Tryz.func42 [av r.cells,av b.cells] (fun x=>iv x) true (Sy r b) (u0 (Lp r b)) (ID r b)
def yB (f:ar) (i:Int) (part:Int):Sk (Bool) :=
 .r 1 (.wh (i == 0) false (.p (bA i f.ah.length))) fun _ =>
 .fin ((i == 0)||(((f.ah.getD i.toNat default).part) == part))
def YN f i part:=(yB f i part).val
theorem Sz (f:ar) (i:Int) (part:Int) (hs:i=0∨(0≤i∧i < (f.ah.length:Int))):(yB f i part).aZ (fun _=>True):=by
 unfold yB
 exact mu
def uh f i part:=kk tok mixed Tryz.func130 [av f.cells,iv i,iv part] (fun x=>bv x) true (yB f i part) (YN f i part) (Sz f i part)
def kL (f:ar) (i:Int):Sk (Bool) :=
 .r 1 (.p (bA i f.ah.length)) fun _ =>
 .r 2 (.dep ((ak ((f.ah.getD i.toNat default).for_) 0 (aq (i - 1))).c) fun x1=>.al (.wh x1 true (.p (bA i f.ah.length))) (.wh x1 true ((uh f ((f.ah.getD i.toNat default).for_) ((f.ah.getD i.toNat default).part)).c))) fun p3 =>
 .fin (p3.1&&p3.2)
def Kk f i:=(kL f i).val
theorem IE (f:ar) (i:Int) (hP:(0≤i∧i < (f.ah.length:Int))∧f.ah.length≤40):(kL f i).cC (fun (x:Bool)=>x=true→0≤(f.ah.getD i.toNat default).for_∧(f.ah.getD i.toNat default).for_ < i):=by
 unfold kL
 try simp only [ak,uh,bj]
 exact O3
theorem GG (f:ar) (i:Int):(fun (x:Bool)=>((0≤i∧i < (f.ah.length:Int))∧f.ah.length≤40)→(x=true→0≤(f.ah.getD i.toNat default).for_∧(f.ah.getD i.toNat default).for_ < i)) (Kk f i):=fun hP=>Sk.cZ _ (IE f i hP)
theorem Lq (f:ar) (i:Int) (hs:0≤i∧i < (f.ah.length:Int)) (hn:f.ah.length≤40):(kL f i).aZ (fun _=>True):=by
 unfold kL
 try simp only [ak,uh,bj]
 exact wx
def sR f i:=kk tok mixed Tryz.func129 [av f.cells,iv i] (fun x=>bv x) true (kL f i) (Kk f i) (u2 (Lq f i)) (fun (x:Bool)=>((0≤i∧i < (f.ah.length:Int))∧f.ah.length≤40)→(x=true→0≤(f.ah.getD i.toNat default).for_∧(f.ah.getD i.toNat default).for_ < i)) (GG f i)
def mD (r:ai) (f:ar) (i:Int):Sk (Bool) :=
 .r 1 (.p (bA i f.ah.length)) fun _ =>
 .r 2 ((ak ((f.ah.getD i.toNat default).sum) 1 1099511627776).c) fun x1 =>
 .br (((f.ah.getD i.toNat default).kind) == 0)
 (.fin ((((((((i == 0)&&(((f.ah.getD i.toNat default).dY) == f.aH.zW))&&(((f.ah.getD i.toNat default).for_) == (-1)))&&(((f.ah.getD i.toNat default).bP) == (-1)))&&(((f.ah.getD i.toNat default).sum) == 0))&&((((f.ah.getD i.toNat default).flags) == 0)||(((f.ah.getD i.toNat default).flags) == 1)))&&(((f.ah.getD i.toNat default).part) == 0))&&(((f.ah.getD i.toNat default).bQ) == f.aH.bQ)))
 (.br (((f.ah.getD i.toNat default).kind) == 1)
 (.fin ((((((decide (i > 0))&&(((f.ah.getD i.toNat default).dY) == f.aH.rB))&&(((f.ah.getD i.toNat default).for_) == (-1)))&&(((f.ah.getD i.toNat default).bP) == (-1)))&&x1)&&(((f.ah.getD i.toNat default).flags) == 0)))
 (.br (((f.ah.getD i.toNat default).kind) == 2)
 (.r 9 (.al (.p ((2:Int)≠0)) (.p ((2:Int)≠0))) fun _ =>
 .r 10 (.al (.p ((4:Int)≠0)) (.p ((2:Int)≠0))) fun _ =>
 .r 11 (.dep (.wh ((decide (i > 0))&&(((f.ah.getD i.toNat default).for_) == (-1))) true ((ak ((f.ah.getD i.toNat default).bP) (-1) (aq (((r.aQ.length:Nat):Int) - 1))).c)) fun x2=>.wh ((((decide (i > 0))&&(((f.ah.getD i.toNat default).for_) == (-1)))&&x2)&&(((f.ah.getD i.toNat default).sum) == 0)) true ((ak ((f.ah.getD i.toNat default).flags) 0 7).c)) fun p4 =>
 .fin ((((((decide (i > 0))&&(((f.ah.getD i.toNat default).for_) == (-1)))&&p4.1)&&(((f.ah.getD i.toNat default).sum) == 0))&&p4.2)&&(!((((aq (((f.ah.getD i.toNat default).flags).tdiv 2)).tmod 2) == 1)&&(((aq (((f.ah.getD i.toNat default).flags).tdiv 4)).tmod 2) == 1)))))
 (.br (((f.ah.getD i.toNat default).kind) == 3)
 (.r 13 (.wh ((((i == 0)||(((f.ah.getD i.toNat default).bP) != (-1)))||(((f.ah.getD i.toNat default).sum) != 0))||(((f.ah.getD i.toNat default).flags) != 0)) false ((sR f i).c)) fun x5 =>
 .br (((((i == 0)||(((f.ah.getD i.toNat default).bP) != (-1)))||(((f.ah.getD i.toNat default).sum) != 0))||(((f.ah.getD i.toNat default).flags) != 0))||(!x5))
 (.fin false)
 (.r 15 (.p (bA ((f.ah.getD i.toNat default).for_) f.ah.length)) fun _ =>
 .fin (((f.ah.getD (((f.ah.getD i.toNat default).for_).toNat) default).kind) != 3)))
 (.br (((f.ah.getD i.toNat default).kind) == 4)
 (.r 17 (.wh (((((i == 0)||(((f.ah.getD i.toNat default).bP) != (-1)))||(!x1))||(((f.ah.getD i.toNat default).flags) != 0))||(((f.ah.getD i.toNat default).dY) == f.aH.rB)) false ((sR f i).c)) fun x6 =>
 .br ((((((i == 0)||(((f.ah.getD i.toNat default).bP) != (-1)))||(!x1))||(((f.ah.getD i.toNat default).flags) != 0))||(((f.ah.getD i.toNat default).dY) == f.aH.rB))||(!x6))
 (.fin false)
 (.r 19 (.al (.p (bA ((f.ah.getD i.toNat default).for_) f.ah.length)) (.wh (((f.ah.getD (((f.ah.getD i.toNat default).for_).toNat) default).kind) == 0) false (.p (bA ((f.ah.getD i.toNat default).for_) f.ah.length)))) fun _ =>
 .fin ((((f.ah.getD (((f.ah.getD i.toNat default).for_).toNat) default).kind) == 0)||(((f.ah.getD (((f.ah.getD i.toNat default).for_).toNat) default).kind) == 2))))
 (.fin false)))))
def NT r f i:=(mD r f i).val
theorem Lr (r:ai) (f:ar) (i:Int) (hP:(0≤i∧i < (f.ah.length:Int))∧f.ah.length≤40∧r.aQ.length≤200):(mD r f i).cC (fun (x:Bool)=>x=true→NC f i.toNat∧O4 r f i.toNat):=by
 refine Sk.aX _ ?_
 unfold mD
 simp only [Sk.cx,Sk.aI,reduceCtorEq,ON,kk,kp,ak,sR,bj,forall_eq,maxLen]
 obtain ⟨hi,hn,hr⟩:=hP
 have hw:aq ((r.aQ.length:Int) - 1)=(r.aQ.length:Int) - 1:=aD (by omega) (by omega)
 rw [hw]
 unfold NC O4 dk
 generalize f.ah.getD i.toNat default=s at *
 refine fun _=>⟨fun k0 h=>?_,fun k0=>⟨fun k1 h=>?_,fun k1=>⟨fun k2 _ _ h=>?_,fun k2=>⟨fun k3 hb h _ _=>?_,fun k3 k4 hb h _ _=>?_⟩⟩⟩⟩
 all_goals simp only [LN] at *
 ·exact ⟨⟨by omega,by omega,by omega,by omega⟩,by omega⟩
 ·exact ⟨⟨by omega,by omega,by omega,by omega⟩,by omega⟩
 ·exact ⟨⟨by omega,by omega,by omega,by omega⟩,by omega⟩
 ·have:=hb ⟨hi,hn⟩ h.2
  exact ⟨⟨by omega,by omega,by omega,fun _=>by omega⟩,by omega⟩
 ·have:=hb ⟨hi,hn⟩ h.2
  exact ⟨⟨by omega,by omega,by omega,fun _=>by omega⟩,by omega⟩
theorem IG (r:ai) (f:ar) (i:Int):(fun (x:Bool)=>((0≤i∧i < (f.ah.length:Int))∧f.ah.length≤40∧r.aQ.length≤200)→(x=true→NC f i.toNat∧O4 r f i.toNat)) (NT r f i):=fun hP=>Sk.cZ _ (Lr r f i hP)
theorem NU (r:ai) (f:ar) (i:Int) (hs:0≤i∧i < (f.ah.length:Int)) (hn:f.ah.length≤40):(mD r f i).aZ (fun _=>True):=by
 unfold mD
 try simp only [ak,sR,bj]
 exact wx
def zY r f i:=kk tok mixed Tryz.func83 [av r.cells,av f.cells,iv i] (fun x=>bv x) true (mD r f i) (NT r f i) (u2 (NU r f i)) (fun (x:Bool)=>((0≤i∧i < (f.ah.length:Int))∧f.ah.length≤40∧r.aQ.length≤200)→(x=true→NC f i.toNat∧O4 r f i.toNat)) (IG r f i)
def kM (r:ai) (f:ar) (i:Int):Sk (Int) :=
 .r 1 (.p (bA i f.ah.length)) fun _ =>
 .r 2 ((ak ((f.ah.getD i.toNat default).part) 0 (aq (f.aH.parts - 1))).c) fun x1 =>
 .br (!x1)
 (.fin 15)
 (.r 4 (.dep ((ak ((f.ah.getD i.toNat default).dY) 0 (aq (((r.aQ.length:Nat):Int) - 1))).c) fun x2=>.wh (!x2) false ((ak ((f.ah.getD i.toNat default).bQ) 0 (aq (((r.aK.length:Nat):Int) - 1))).c)) fun p8 =>
 .br ((!p8.1)||(!p8.2))
 (.fin 1)
 (.br (((i == 0)&&(((f.ah.getD i.toNat default).day) != f.aH.day))||(decide (((f.ah.getD i.toNat default).day) > 100000)))
 (.fin 13)
 (.bind false (fun b4=>i > 0→(f.ah.getD (aq (i - 1)).toNat default).day≤(f.ah.getD i.toNat default).day)
 (.br (decide (i > 0))
 (.r 9 (.p (bA (aq (i - 1)) f.ah.length)) fun _ =>
 .br (decide (((f.ah.getD i.toNat default).day) < ((f.ah.getD ((aq (i - 1)).toNat) default).day)))
 (.fin (.inl 13))
 (.fin (.inr ())))
 (.fin (.inr ())))
 (fun (_:Unit)=>⟨[],[]⟩) fun _ =>
 .r 11 ((zY r f i).c) fun x5 =>
 .br (!x5)
 (.fin 14)
 (.bt
 (.loop (default:Sum (Int) (Unit)) (fun i7=>0≤i7∧i7≤i) (fun i7=>(i - i7).toNat) (0:Int)
 (fun (i7:Int)=>⟨[(8,iv i7)],[]⟩) fun i7 =>
 .br ((decide (i7 < i))&&(((f.ah.getD i.toNat default).kind) == 1))
 (.r 16 (.al (.p (bA i7 f.ah.length)) (.wh (((f.ah.getD i7.toNat default).kind) == 1) true (.p (bA i7 f.ah.length)))) fun _ =>
 .br ((((f.ah.getD i7.toNat default).kind) == 1)&&(((f.ah.getD i7.toNat default).part) == ((f.ah.getD i.toNat default).part)))
 (.fin (.inl (.inl 5)))
 (.fin (.inr (aq (i7+1)))))
 (.fin (.inl (.inr ()))))
 (fun (_:Unit)=>⟨[],[]⟩) fun _ =>
 .fin 0))))
def Kl r f i:=(kM r f i).val
theorem IH (r:ai) (f:ar) (i:Int) (hP:(0≤i∧i < (f.ah.length:Int))∧f.ah.length≤40∧r.aQ.length≤200∧(sL r f.aH∧(f.aH.bO = -1∨(0≤f.aH.bO∧f.aH.bO < r.aQ.length)))):(kM r f i).cC (fun (x:Int)=>x=0→wa r f i.toNat∧O4 r f i.toNat):=by
 refine Sk.aX _ ?_
 unfold kM
 simp only [Sk.cx,Sk.aI,reduceCtorEq,ON,kk,kp,ak,zY,bj,forall_eq,maxLen]
 intro _
 obtain ⟨hi,hn,hr,hB,-⟩:=hP
 have YO:=hB.2.2.2.1
 refine ⟨fun _ h=>absurd h (by decide),fun h1=>⟨fun _ h=>absurd h (by decide),fun h2=>⟨fun _ h=>absurd h (by decide),fun h3=>⟨⟨fun h4 _=>⟨fun _ h=>absurd h (by decide),fun h5 _=>by simpa using h5⟩,fun h4 h=>?_⟩,fun _ _ h6 hF=>⟨fun _ h=>absurd h (by decide),fun h7=>⟨⟨⟨by omega,by omega⟩,fun k hk hc _=>⟨fun _ h=>absurd h (by decide),fun _=>?_⟩⟩,fun _=>?_⟩⟩⟩⟩⟩⟩
 ·simp only [LN] at h4; omega
 ·simp only [LN] at hc
  rw [aD (by omega) (by omega)]
  omega
 ·have hF:=hF ⟨hi,hn,hr⟩ (by simpa using h7)
  simp only [LN] at h1 h2 h3
  rw [aD (n:=f.aH.parts - 1) (by omega) (by omega)] at h1
  rw [aD (n:=(r.aQ.length:Int) - 1) (by omega) (by omega)] at h2
  refine ⟨⟨by omega,fun h0=>?_,by omega,fun h0=>?_,by omega,hF.1⟩,hF.2⟩
  ·have:=h6 (by omega)
   rw [aD (by omega) (by omega),show (i - 1).toNat=i.toNat - 1 by omega] at this
   exact this
  ·rcases h3.1 with h | h
   ·omega
   ·exact h
theorem GH (r:ai) (f:ar) (i:Int):(fun (x:Int)=>((0≤i∧i < (f.ah.length:Int))∧f.ah.length≤40∧r.aQ.length≤200∧(sL r f.aH∧(f.aH.bO = -1∨(0≤f.aH.bO∧f.aH.bO < r.aQ.length))))→(x=0→wa r f i.toNat∧O4 r f i.toNat)) (Kl r f i):=fun hP=>Sk.cZ _ (IH r f i hP)
theorem Ls (r:ai) (f:ar) (i:Int) (hs:0≤i∧i < (f.ah.length:Int)) (hn:f.ah.length≤40):(kM r f i).aZ (fun _=>True):=by
 unfold kM
 try simp only [ak,zY,bj]
 exact wx
def xt r f i:=kk tok mixed Tryz.func43 [av r.cells,av f.cells,iv i] (fun x=>iv x) true (kM r f i) (Kl r f i) (u2 (Ls r f i)) (fun (x:Int)=>((0≤i∧i < (f.ah.length:Int))∧f.ah.length≤40∧r.aQ.length≤200∧(sL r f.aH∧(f.aH.bO = -1∨(0≤f.aH.bO∧f.aH.bO < r.aQ.length))))→(x=0→wa r f i.toNat∧O4 r f i.toNat)) (GH r f i)
def kN (r:ai) (f:ar) (a:bC):Sk (Bool) :=
 .r 1 ((ak a.dY 0 (aq (((r.aQ.length:Nat):Int) - 1))).c) fun x1 =>
 .br (!x1)
 (.fin false)
 (.r 3 ((ak a.bP 0 (aq (((r.aQ.length:Nat):Int) - 1))).c) fun x2 =>
 .r 4 ((ak a.sum 0 1099511627776).c) fun x3 =>
 .r 5 ((ak a.at_ 0 (aq (((f.ah.length:Nat):Int) - 1))).c) fun x4 =>
 .bind false (fun b5=>b5=true→0≤a.at_∧a.at_ < (f.ah.length:Int))
 (.br x4
 (.r 7 ((uh f a.at_ a.part).c) fun x6 =>
 .fin (.inr x6))
 (.fin (.inr x4)))
 (fun (b5:Bool)=>⟨[(9,bv b5)],[]⟩) fun b5 =>
 .bind false (fun b7=>b7=true→(0≤a.at_∧a.at_ < (f.ah.length:Int))∧(f.ah.getD a.at_.toNat default).dY=a.dY)
 (.br b5
 (.r 10 (.p (bA a.at_ f.ah.length)) fun _ =>
 .fin (.inr (((f.ah.getD a.at_.toNat default).dY) == a.dY)))
 (.fin (.inr false)))
 (fun (b7:Bool)=>⟨[(10,bv b7)],[]⟩) fun b7 =>
 .bind false (fun _=>True)
 (.br (a.kind == 0)
 (.fin (.inr (a.kind == 0)))
 (.br (a.kind == 1)
 (.fin (.inr (a.kind == 1)))
 (.fin (.inr (a.kind == 2)))))
 (fun (b8:Bool)=>⟨[(56,bv b8)],[]⟩) fun b8 =>
 .br b8
 (.fin (((x2&&(a.at_ == (-1)))&&(a.sum == 0))&&(a.form == 0)))
 (.bind false (fun _=>True)
 (.br (a.kind == 3)
 (.fin (.inr (a.kind == 3)))
 (.fin (.inr (a.kind == 5))))
 (fun (b9:Bool)=>⟨[(76,bv b9)],[]⟩) fun b9 =>
 .br b9
 (.fin (((x2&&(a.at_ == (-1)))&&x3)&&(a.form == 0)))
 (.br (a.kind == 4)
 (.fin (((x2&&(a.at_ == (-1)))&&x3)&&((a.form == 0)||(a.form == 1))))
 (.br (a.kind == 6)
 (.fin ((((x2&&b7)&&x3)&&(decide (a.sum > 0)))&&(a.form == 0)))
 (.br (a.kind == 9)
 (.fin ((((a.bP == (-1))&&b7)&&(a.sum == 0))&&(a.form == 0)))
 (.bind false (fun _=>True)
 (.br (a.kind == 7)
 (.fin (.inr (a.kind == 7)))
 (.fin (.inr (a.kind == 8))))
 (fun (PK:Bool)=>⟨[(151,bv PK)],[]⟩) fun PK =>
 .br PK
 (.fin ((((a.bP == (-1))&&b5)&&(a.sum == 0))&&(a.form == 0)))
 (.fin false)))))))
def Km r f a:=(kN r f a).val
theorem II (r:ai) (f:ar) (a:bC) (hP:f.ah.length≤40):(kN r f a).cC (fun (x:Bool)=>x=true→dk a.sum∧a.at_ < (f.ah.length:Int)∧(a.kind=6→0≤a.at_∧(f.ah.getD a.at_.toNat default).dY=a.dY)):=by
 unfold kN
 try simp only [ak,uh,bj]
 exact O3
theorem GI (r:ai) (f:ar) (a:bC):(fun (x:Bool)=>(f.ah.length≤40)→(x=true→dk a.sum∧a.at_ < (f.ah.length:Int)∧(a.kind=6→0≤a.at_∧(f.ah.getD a.at_.toNat default).dY=a.dY))) (Km r f a):=fun hP=>Sk.cZ _ (II r f a hP)
theorem Lt (r:ai) (f:ar) (a:bC) (hn:f.ah.length≤40):(kN r f a).aZ (fun _=>True):=by
 unfold kN
 try simp only [ak,uh,bj]
 exact wx
def xu r f a:=kk tok mixed Tryz.func84 [av r.cells,av f.cells,av a.cells] (fun x=>bv x) true (kN r f a) (Km r f a) (Lt r f a) (fun (x:Bool)=>(f.ah.length≤40)→(x=true→dk a.sum∧a.at_ < (f.ah.length:Int)∧(a.kind=6→0≤a.at_∧(f.ah.getD a.at_.toNat default).dY=a.dY))) (GI r f a)
def mE (r:ai) (f:ar) (i:Int):Sk (Int) :=
 .r 1 (.p (bA i f.au.length)) fun _ =>
 .r 2 ((ak ((f.au.getD i.toNat default).part) 0 (aq (f.aH.parts - 1))).c) fun x1 =>
 .br (!x1)
 (.fin 15)
 (.r 4 (.dep ((ak ((f.au.getD i.toNat default).bQ) 0 (aq (((r.aK.length:Nat):Int) - 1))).c) fun x2=>.wh (!x2) false ((ak ((f.au.getD i.toNat default).kind) 0 9).c)) fun p6 =>
 .br ((!p6.1)||(!p6.2))
 (.fin 1)
 (.r 6 ((xu r f (f.au.getD i.toNat default)).c) fun x4 =>
 .br (!x4)
 (.fin 14)
 (.br ((decide (((f.au.getD i.toNat default).day) < f.aH.day))||(decide (((f.au.getD i.toNat default).day) > 100000)))
 (.fin 13)
 (.bind false (fun b5=>0≤(f.au.getD i.toNat default).at_→(f.ah.getD (f.au.getD i.toNat default).at_.toNat default).day≤(f.au.getD i.toNat default).day)
 (.br (decide (((f.au.getD i.toNat default).at_)≥0))
 (.r 11 (.p (bA ((f.au.getD i.toNat default).at_) f.ah.length)) fun _ =>
 .br (decide (((f.au.getD i.toNat default).day) < ((f.ah.getD (((f.au.getD i.toNat default).at_).toNat) default).day)))
 (.fin (.inl 13))
 (.fin (.inr ())))
 (.fin (.inr ())))
 (fun (_:Unit)=>⟨[],[]⟩) fun _ =>
 .br (decide (i > 0))
 (.r 14 (.p (bA (aq (i - 1)) f.au.length)) fun _ =>
 .br (decide (((f.au.getD i.toNat default).day) < ((f.au.getD ((aq (i - 1)).toNat) default).day)))
 (.fin 13)
 (.fin 0))
 (.fin 0)))))
def NV r f i:=(mE r f i).val
theorem Lu (r:ai) (f:ar) (i:Int) (hP:(0≤i∧i < (f.au.length:Int))∧f.ah.length≤40∧f.au.length≤100):(mE r f i).cC (fun (x:Int)=>x=0→xi f i.toNat):=by
 refine Sk.aX _ ?_
 unfold mE
 simp only [Sk.cx,Sk.aI,reduceCtorEq,ON,kk,kp,ak,xu,bj,forall_eq,maxLen]
 intro _
 refine ⟨fun _ h=>absurd h (by decide),fun h1=>⟨fun _ h=>absurd h (by decide),fun h2 hA=>⟨fun _ h=>absurd h (by decide),fun h3=>⟨fun _ h=>absurd h (by decide),fun h4=>⟨⟨fun _ _=>⟨fun _ h=>absurd h (by decide),fun hd _=>by simp only [LN] at hd; exact hd⟩,fun h0 h=>by simp only [LN] at h0; omega⟩,fun _ _ NW=>⟨fun h5 _=>⟨fun _ h=>absurd h (by decide),fun h6=>?_⟩,fun h5=>?_⟩⟩⟩⟩⟩⟩
 all_goals have hA:=hA hP.2.1 (by simpa using h3)
 all_goals simp only [LN] at h4 h5
 ·simp only [LN] at h6
  rw [aD (by omega) (by omega),show (i - 1).toNat=i.toNat - 1 by omega] at h6
  exact ⟨hA.1,by omega,fun _=>h6,fun hk=>⟨⟨(hA.2.2 hk).1,hA.2.1⟩,NW (hA.2.2 hk).1,(hA.2.2 hk).2⟩⟩
 ·exact ⟨hA.1,by omega,fun h=>by omega,fun hk=>⟨⟨(hA.2.2 hk).1,hA.2.1⟩,NW (hA.2.2 hk).1,(hA.2.2 hk).2⟩⟩
theorem IJ (r:ai) (f:ar) (i:Int):(fun (x:Int)=>((0≤i∧i < (f.au.length:Int))∧f.ah.length≤40∧f.au.length≤100)→(x=0→xi f i.toNat)) (NV r f i):=fun hP=>Sk.cZ _ (Lu r f i hP)
theorem NX (r:ai) (f:ar) (i:Int) (hs:0≤i∧i < (f.au.length:Int)) (hn:f.ah.length≤40) (ha:f.au.length≤100):(mE r f i).aZ (fun _=>True):=by
 unfold mE
 try simp only [ak,xu,bj]
 exact wx
def zZ r f i:=kk tok mixed Tryz.func45 [av r.cells,av f.cells,iv i] (fun x=>iv x) true (mE r f i) (NV r f i) (u3 (NX r f i)) (fun (x:Int)=>((0≤i∧i < (f.au.length:Int))∧f.ah.length≤40∧f.au.length≤100)→(x=0→xi f i.toNat)) (IJ r f i)
def qD (f:ar) (i:Int):Sk (Int) :=
 .r 1 (.p (bA i f.facts.length)) fun _ =>
 .r 2 (.dep ((ak ((f.facts.getD i.toNat default).kind) 0 4).c) fun x1=>.dep (.wh (!x1) false ((ak ((f.facts.getD i.toNat default).at_) 0 (aq (((f.ah.length:Nat):Int) - 1))).c)) fun x2=>.wh ((!x1)||(!x2)) false ((ak ((f.facts.getD i.toNat default).n) 0 1).c)) fun p4 =>
 .br (((!p4.1)||(!p4.2.1))||(!p4.2.2))
 (.fin 1)
 (.br (decide (i > 0))
 (.r 5 (.p (bA (aq (i - 1)) f.facts.length)) fun _ =>
 .br ((decide (((f.facts.getD ((aq (i - 1)).toNat) default).at_) > ((f.facts.getD i.toNat default).at_)))||((((f.facts.getD ((aq (i - 1)).toNat) default).at_) == ((f.facts.getD i.toNat default).at_))&&(decide (((f.facts.getD ((aq (i - 1)).toNat) default).kind)≥((f.facts.getD i.toNat default).kind)))))
 (.fin 5)
 (.fin 0))
 (.fin 0))
def SA f i:=(qD f i).val
theorem Lv (f:ar) (i:Int) (hs:0≤i∧i < (f.facts.length:Int)) (ha:f.facts.length≤200):(qD f i).aZ (fun _=>True):=by
 unfold qD
 try simp only [ak,bj]
 exact wx
def xw f i:=kk tok mixed Tryz.func46 [av f.cells,iv i] (fun x=>iv x) true (qD f i) (SA f i) (u2 (Lv f i))
def kO (r:ai) (f:ar):Sk (Int) :=
 .br ((((decide (((f.ah.length:Nat):Int) > 40))||(decide (((f.aO.length:Nat):Int) > 4)))||(decide (((f.au.length:Nat):Int) > 100)))||(decide (((f.facts.length:Nat):Int) > 200)))
 (.fin 6)
 (.r 3 ((xr r f.aH).c) fun x1 =>
 .bind false (fun b2=>b2=0→(sL r f.aH∧(f.aH.bO = -1∨(0≤f.aH.bO∧f.aH.bO < r.aQ.length)))∧f.ah.length≠0)
 (.br ((x1 == 0)&&(((f.ah.length:Nat):Int) == 0))
 (.fin (.inr 14))
 (.fin (.inr x1)))
 (fun (b2:Int)=>⟨[(5,iv b2)],[]⟩) fun b2 =>
 .bind true (fun b3=>b3=0→(sL r f.aH∧(f.aH.bO = -1∨(0≤f.aH.bO∧f.aH.bO < r.aQ.length)))∧f.ah.length≠0∧(r.aQ.length≤200→(∀ q,q < f.ah.length→wa r f q∧O4 r f q)))
 (.loop (default:Sum (Int) (Int)) (fun i4=>i4.2≤f.ah.length∧(i4.1=0→(sL r f.aH∧(f.aH.bO = -1∨(0≤f.aH.bO∧f.aH.bO < r.aQ.length)))∧f.ah.length≠0∧(r.aQ.length≤200→(∀ q,q < i4.2→wa r f q∧O4 r f q)))) (fun i4=>f.ah.length - i4.2) ((b2,0):Int × Nat)
 (fun (i4:Int × Nat)=>⟨[(5,iv i4.1),(6,iv (i4.2:Int))],[]⟩) fun i4 =>
 .zC 3 15 f.ah.length <|
 .br ((decide ((i4.2:Int) < ((f.ah.length:Nat):Int)))&&(i4.1 == 0))
 (.r 9 ((xt r f (i4.2:Int)).c) fun x5 =>
 .nx 8 6 i4.2 (x5,i4.2+1))
 (.fin (.inl (.inr i4.1))))
 (fun (b3:Int)=>⟨[(5,iv b3)],[]⟩) fun b3 =>
 .bind true (fun b6=>b6=0→(sL r f.aH∧(f.aH.bO = -1∨(0≤f.aH.bO∧f.aH.bO < r.aQ.length)))∧f.ah.length≠0∧(r.aQ.length≤200→(∀ q,q < f.ah.length→wa r f q∧O4 r f q))∧(∀ q,q < f.aO.length→dk (f.aO.getD q default).sum))
 (.loop (default:Sum (Int) (Int)) (fun i7=>i7.2≤f.aO.length∧(i7.1=0→(sL r f.aH∧(f.aH.bO = -1∨(0≤f.aH.bO∧f.aH.bO < r.aQ.length)))∧f.ah.length≠0∧(r.aQ.length≤200→(∀ q,q < f.ah.length→wa r f q∧O4 r f q))∧(∀ q,q < i7.2→dk (f.aO.getD q default).sum))) (fun i7=>f.aO.length - i7.2) ((b3,0):Int × Nat)
 (fun (i7:Int × Nat)=>⟨[(5,iv i7.1),(7,iv (i7.2:Int))],[]⟩) fun i7 =>
 .zC 3 16 f.aO.length <|
 .br ((decide ((i7.2:Int) < ((f.aO.length:Nat):Int)))&&(i7.1 == 0))
 (.bind false (fun _=>True)
 (.br (decide ((i7.2:Int) > 0))
 (.r 15 (.p (bA (aq ((i7.2:Int) - 1)) f.aO.length)) fun _ =>
 .fin (.inr (aq (((f.aO.getD ((aq ((i7.2:Int) - 1)).toNat) default).at_)+1))))
 (.fin (.inr 1)))
 (fun (b8:Int)=>⟨[(8,iv b8)],[]⟩) fun b8 =>
 .r 16 (.al (.p (bA (i7.2:Int) f.aO.length)) ((ak ((f.aO.getD i7.2 default).at_) b8 ((f.ah.length:Nat):Int)).c)) fun x9 =>
 .br (!x9)
 (.nx 12 7 i7.2 (1,i7.2+1))
 (.r 18 (.al (.p (bA (i7.2:Int) f.aO.length)) ((ak ((f.aO.getD i7.2 default).sum) 1 1099511627776).c)) fun Mk =>
 .br (!Mk)
 (.nx 12 7 i7.2 (3,i7.2+1))
 (.nx 12 7 i7.2 (i7.1,i7.2+1))))
 (.fin (.inl (.inr i7.1))))
 (fun (b6:Int)=>⟨[(5,iv b6)],[]⟩) fun b6 =>
 .bind true (fun ZU=>ZU=0→(sL r f.aH∧(f.aH.bO = -1∨(0≤f.aH.bO∧f.aH.bO < r.aQ.length)))∧f.ah.length≠0∧(r.aQ.length≤200→(∀ q,q < f.ah.length→wa r f q∧O4 r f q))∧(∀ q,q < f.aO.length→dk (f.aO.getD q default).sum)∧(∀ q,q < f.au.length→xi f q))
 (.loop (default:Sum (Int) (Int)) (fun i12=>i12.2≤f.au.length∧(i12.1=0→(sL r f.aH∧(f.aH.bO = -1∨(0≤f.aH.bO∧f.aH.bO < r.aQ.length)))∧f.ah.length≠0∧(r.aQ.length≤200→(∀ q,q < f.ah.length→wa r f q∧O4 r f q))∧(∀ q,q < f.aO.length→dk (f.aO.getD q default).sum)∧(∀ q,q < i12.2→xi f q))) (fun i12=>f.au.length - i12.2) ((b6,0):Int × Nat)
 (fun (i12:Int × Nat)=>⟨[(5,iv i12.1),(9,iv (i12.2:Int))],[]⟩) fun i12 =>
 .zC 3 17 f.au.length <|
 .br ((decide ((i12.2:Int) < ((f.au.length:Nat):Int)))&&(i12.1 == 0))
 (.r 23 ((zZ r f (i12.2:Int)).c) fun GJ =>
 .nx 22 9 i12.2 (GJ,i12.2+1))
 (.fin (.inl (.inr i12.1))))
 (fun (ZU:Int)=>⟨[(5,iv ZU)],[]⟩) fun ZU =>
 .bind true (fun B9=>B9=0→(sL r f.aH∧(f.aH.bO = -1∨(0≤f.aH.bO∧f.aH.bO < r.aQ.length)))∧f.ah.length≠0∧(r.aQ.length≤200→(∀ q,q < f.ah.length→wa r f q∧O4 r f q))∧(∀ q,q < f.aO.length→dk (f.aO.getD q default).sum)∧(∀ q,q < f.au.length→xi f q))
 (.loop (default:Sum (Int) (Int)) (fun i15=>i15.2≤f.facts.length∧(i15.1=0→(sL r f.aH∧(f.aH.bO = -1∨(0≤f.aH.bO∧f.aH.bO < r.aQ.length)))∧f.ah.length≠0∧(r.aQ.length≤200→(∀ q,q < f.ah.length→wa r f q∧O4 r f q))∧(∀ q,q < f.aO.length→dk (f.aO.getD q default).sum)∧(∀ q,q < f.au.length→xi f q))) (fun i15=>f.facts.length - i15.2) ((ZU,0):Int × Nat)
 (fun (i15:Int × Nat)=>⟨[(5,iv i15.1),(10,iv (i15.2:Int))],[]⟩) fun i15 =>
 .zC 3 18 f.facts.length <|
 .br ((decide ((i15.2:Int) < ((f.facts.length:Nat):Int)))&&(i15.1 == 0))
 (.r 27 ((xw f (i15.2:Int)).c) fun SB =>
 .nx 26 10 i15.2 (SB,i15.2+1))
 (.fin (.inl (.inr i15.1))))
 (fun (B9:Int)=>⟨[(5,iv B9)],[]⟩) fun B9 =>
 .fin B9)
def Kn r f:=(kO r f).val
theorem IK (r:ai) (f:ar) (hP:r.aQ.length≤200):(kO r f).cC (fun (x:Int)=>x=0→bX r f∧YK r f):=by
 refine Sk.aX _ ?_
 unfold kO
 simp only [Sk.cx,Sk.aI,reduceCtorEq,ON,kk,kp,ak,xr,zZ,xw,xt,bj,forall_eq,maxLen]
 have ext:∀ {P:Nat→Prop} {i:Nat},(∀ q,q < i→P q)→P i→∀ q,q < i+1→P q:=fun h h2 q hq=>(Nat.lt_succ_iff_lt_or_eq.1 hq).elim (h q) (fun e=>e ▸ h2)
 refine ⟨fun _ h=>absurd h (by decide),fun hb hB=>?_⟩
 simp only [LN] at hb
 refine ⟨⟨fun _ h=>absurd h (by decide),fun h0 h=>⟨hB h,fun e=>?_⟩⟩,fun b1 _ HX=>⟨⟨⟨Nat.zero_le _,fun h=>⟨(HX h).1,(HX h).2,fun _ q hq=>absurd hq (by omega)⟩⟩,fun i hi=>⟨fun hc hs _=>?_,fun hc h=>?_⟩⟩,fun b2 wI=>⟨⟨⟨Nat.zero_le _,fun h=>⟨(wI h).1,(wI h).2.1,(wI h).2.2,fun q hq=>absurd hq (by omega)⟩⟩,fun i hi=>⟨fun hc b _=>⟨fun _ _=>?_,fun _=>⟨fun _ _=>?_,fun hs _=>?_⟩⟩,fun hc h=>?_⟩⟩,fun b3 Fb=>⟨⟨⟨Nat.zero_le _,fun h=>⟨(Fb h).1,(Fb h).2.1,(Fb h).2.2.1,(Fb h).2.2.2,fun q hq=>absurd hq (by omega)⟩⟩,fun i hi=>⟨fun hc hs _=>?_,fun hc h=>?_⟩⟩,fun b4 hb4=>⟨⟨⟨Nat.zero_le _,hb4⟩,fun i hi=>⟨fun hc _=>?_,fun _ h=>hi.2 h⟩⟩,fun b5 hb5 h=>?_⟩⟩⟩⟩⟩
 ·simp [e,h] at h0
 ·simp only [LN] at hc
  obtain ⟨a1,a2,a3⟩:=hi.2 hc.2
  exact ⟨⟨by omega,fun h=>⟨a1,a2,fun hr=>ext (a3 hr) (hs ⟨⟨by omega,by omega⟩,by omega,hr,a1⟩ h)⟩⟩,by omega⟩
 ·simp only [LN] at hc
  have e:i.2=f.ah.length:=by omega
  exact e ▸ hi.2 h
 ·simp only [LN] at hc
  exact ⟨⟨by omega,fun h=>absurd h (by decide)⟩,by omega⟩
 ·simp only [LN] at hc
  exact ⟨⟨by omega,fun h=>absurd h (by decide)⟩,by omega⟩
 ·simp only [LN] at hc hs
  obtain ⟨a1,a2,a3,a4⟩:=hi.2 hc.2
  exact ⟨⟨by omega,fun h=>⟨a1,a2,a3,ext a4 ⟨by omega,by omega⟩⟩⟩,by omega⟩
 ·simp only [LN] at hc
  have e:i.2=f.aO.length:=by omega
  exact e ▸ hi.2 h
 ·simp only [LN] at hc
  obtain ⟨a1,a2,a3,a4,a5⟩:=hi.2 hc.2
  exact ⟨⟨by omega,fun h=>⟨a1,a2,a3,a4,ext a5 (hs ⟨⟨by omega,by omega⟩,by omega,by omega⟩ h)⟩⟩,by omega⟩
 ·simp only [LN] at hc
  have e:i.2=f.au.length:=by omega
  exact e ▸ hi.2 h
 ·simp only [LN] at hc
  exact ⟨⟨by omega,fun _=>hi.2 hc.2⟩,by omega⟩
 ·obtain ⟨a1,a2,a3,a4,a5⟩:=hb5 h
  exact ⟨⟨a1.1,⟨by omega,a2,by omega,by omega,by omega⟩,fun q hq=>(a3 hP q hq).1,a4,a5⟩,a1.2,fun q hq=>(a3 hP q hq).2⟩
theorem GK (r:ai) (f:ar):(fun (x:Int)=>(r.aQ.length≤200)→(x=0→bX r f∧YK r f)) (Kn r f):=fun hP=>Sk.cZ _ (IK r f hP)
theorem Lw (r:ai) (f:ar):(kO r f).aZ (fun _=>True):=by
 refine Sk.aU _ ?_
 unfold kO
 simp only [Sk.jb,Sk.aI,reduceCtorEq,ON,kk,kp,ak,xr,zZ,xw,xt,bj,forall_eq,maxLen]
 have ext:∀ {P:Nat→Prop} {i:Nat},(∀ q,q < i→P q)→P i→∀ q,q < i+1→P q:=fun h h2 q hq=>(Nat.lt_succ_iff_lt_or_eq.1 hq).elim (h q) (fun e=>e ▸ h2)
 have w1:∀ i n:Nat,i < n→n≤200→aq ((i:Int)+1)=((i+1:Nat):Int):=fun i n h h2=>(aD (by omega) (by omega)).trans (by omega)
 refine fun hb hB=>?_
 simp only [LN] at hb
 refine ⟨⟨fun _ h=>absurd h (by decide),fun h0 h=>⟨hB h,fun e=>?_⟩⟩,fun b1 _ HX=>⟨⟨⟨Nat.zero_le _,fun h=>⟨(HX h).1,(HX h).2,fun _ q hq=>absurd hq (by omega)⟩⟩,fun i hi hm=>⟨fun hc=>⟨?_,fun hs _=>⟨?_,?_⟩⟩,fun hc h=>?_⟩⟩,fun b2 wI=>⟨⟨⟨Nat.zero_le _,fun h=>⟨(wI h).1,(wI h).2.1,(wI h).2.2,fun q hq=>absurd hq (by omega)⟩⟩,fun i hi hm=>⟨fun hc=>⟨fun h2=>?_,fun b _=>⟨?_,fun _ _=>⟨?_,?_⟩,fun _=>⟨?_,fun _ _=>⟨?_,?_⟩,fun hs _=>⟨?_,?_⟩⟩⟩⟩,fun hc h=>?_⟩⟩,fun b3 Fb=>⟨⟨⟨Nat.zero_le _,fun h=>⟨(Fb h).1,(Fb h).2.1,(Fb h).2.2.1,(Fb h).2.2.2,fun q hq=>absurd hq (by omega)⟩⟩,fun i hi hm=>⟨fun hc=>⟨?_,fun hs _=>⟨?_,?_⟩⟩,fun hc h=>?_⟩⟩,fun b4 hb4=>⟨⟨Nat.zero_le _,hb4⟩,fun i hi hm=>⟨fun hc=>⟨?_,fun _=>⟨?_,?_⟩⟩,fun _ h=>hi.2 h⟩⟩⟩⟩⟩⟩
 ·simp [e,h] at h0
 all_goals simp only [LN] at hc
 ·exact ⟨⟨by omega,by omega⟩,by omega⟩
 ·exact w1 _ _ (by omega) (show f.ah.length≤200 from by omega)
 ·obtain ⟨a1,a2,a3⟩:=hi.2 hc.2
  exact ⟨⟨by omega,fun h=>⟨a1,a2,fun hr=>ext (a3 hr) (hs ⟨⟨by omega,by omega⟩,by omega,hr,a1⟩ h)⟩⟩,by omega⟩
 ·have e:i.2=f.ah.length:=by omega
  exact e ▸ hi.2 h
 ·simp only [LN] at h2
  rw [aD (by omega) (by omega)]
  exact ⟨by omega,by omega⟩
 ·exact ⟨by omega,by omega⟩
 ·exact w1 _ _ (by omega) (show f.aO.length≤200 from by omega)
 ·exact ⟨⟨by omega,fun h=>absurd h (by decide)⟩,by omega⟩
 ·exact ⟨by omega,by omega⟩
 ·exact w1 _ _ (by omega) (show f.aO.length≤200 from by omega)
 ·exact ⟨⟨by omega,fun h=>absurd h (by decide)⟩,by omega⟩
 ·exact w1 _ _ (by omega) (show f.aO.length≤200 from by omega)
 ·simp only [LN] at hs
  obtain ⟨a1,a2,a3,a4⟩:=hi.2 hc.2
  exact ⟨⟨by omega,fun h=>⟨a1,a2,a3,ext a4 ⟨by omega,by omega⟩⟩⟩,by omega⟩
 ·have e:i.2=f.aO.length:=by omega
  exact e ▸ hi.2 h
 ·exact ⟨⟨by omega,by omega⟩,by omega,by omega⟩
 ·exact w1 _ _ (by omega) (show f.au.length≤200 from by omega)
 ·obtain ⟨a1,a2,a3,a4,a5⟩:=hi.2 hc.2
  exact ⟨⟨by omega,fun h=>⟨a1,a2,a3,a4,ext a5 (hs ⟨⟨by omega,by omega⟩,by omega,by omega⟩ h)⟩⟩,by omega⟩
 ·have e:i.2=f.au.length:=by omega
  exact e ▸ hi.2 h
 ·exact ⟨⟨by omega,by omega⟩,by omega⟩
 ·exact w1 _ _ (by omega) (show f.facts.length≤200 from by omega)
 ·exact ⟨⟨by omega,fun _=>hi.2 hc.2⟩,by omega⟩
def xy r f:=kk tok mixed Tryz.func16 [av r.cells,av f.cells] (fun x=>iv x) true (kO r f) (Kn r f) (u0 (Lw r f)) (fun (x:Int)=>(r.aQ.length≤200)→(x=0→bX r f∧YK r f)) (GK r f)
def rG (r:ai) (f:ar):Sk (Bool) :=
 .r 1 (.dep ((CH r f).c) fun x1=>.dep (.wh x1 true ((mC r).c)) fun x2=>.wh (x1&&(x2 == 0)) true ((xy r f).c)) fun p4 =>
 .fin ((((p4.1&&(p4.2.1 == 0))&&(p4.2.2 == 0))&&(decide (((f.ah.length:Nat):Int)≤20)))&&(decide (((f.au.length:Nat):Int)≤30)))
def WA r f:=(rG r f).val
theorem NY (r:ai) (f:ar):(rG r f).cC (fun (x:Bool)=>x=true→r.Small∧r.ca∧r.c6∧r.fW∧r.c9∧bX r f∧YK r f):=by
 refine Sk.aX _ ?_
 unfold rG
 simp only [Sk.cx,Sk.aI,reduceCtorEq,ON,kk,kp,mC,xy,CH,maxLen]
 intro x _ hx hc
 simp only [Bool.and_eq_true,beq_iff_eq,decide_eq_true_eq] at hc
 obtain ⟨⟨⟨⟨h1,h2⟩,h3⟩,-⟩,-⟩:=hc
 obtain ⟨a1,a2,a3,a4,a5,a6,a7,a8,a9,b1,b2,b3,b4⟩:=hx.2.1 h2
 exact ⟨(hx.1 h1).1,a6,b4,a5,b3,(hx.2.2 a4 h3).1,(hx.2.2 a4 h3).2⟩
theorem P8 (r:ai) (f:ar):(rG r f).aZ (fun _=>True):=by
 refine Sk.aU _ ?_
 unfold rG
 simp only [Sk.jb,Sk.aI,reduceCtorEq,ON,kk,kp,mC,xy,CH,maxLen]
def CJ r f:=kp tok mixed Tryz.func6 [av r.cells,av f.cells] (fun x=>bv x) true (WA r f) (u0 (P8 r f)) (NY r f)
structure aA where
 af:Int
 place:Int
 fX:Int
 rest:Int
 deriving Inhabited
def aA.cells (c:aA):List D:=[dI c.af,dI c.place,dI c.fX,dI c.rest]
def aA.E:Mi aA:=⟨aA.cells,4,fun _=>rfl,fun _=>rfl⟩
def kP (i:Int) (n:Int):Sk (Bool) :=
 .fin ((decide (i≥0))&&(decide (i < n)))
def zw i n:=(kP i n).val
theorem iJ (i:Int) (n:Int):zw i n=((decide (i≥0))&&(decide (i < n))):=rfl
theorem CK (i:Int) (n:Int):(kP i n).aZ (fun _=>True):=by
 unfold kP
 exact mO
def dm i n:=kk tok mixed Tryz.func85 [iv i,iv n] (fun x=>bv x) true (kP i n) (zw i n) (u0 (CK i n))
def kQ (f:ar) (day:Int):Sk (ar) :=
 .bind true (fun b1=>b1.length≤f.ah.length)
 (.loop (default:Sum (ar) ((List Sign))) (fun i2=>i2.2.length≤i2.1∧i2.1≤f.ah.length) (fun i2=>f.ah.length - i2.1) ((0,[]):Nat × (List Sign))
 (fun (i2:Nat × (List Sign))=>⟨[(20,iv (i2.1:Int))],[(100002,bg 96 9 Sign.cells i2.2),(5,.box (f.aH.cells.map .d++[ow 100002 i2.2]++[nv,nv,nv]))]⟩) fun i2 =>
 .lt 18 0 i2.1 f.ah.length
 (.r 4 (.p (bA (i2.1:Int) f.ah.length)) fun _ =>
 .br (decide (((f.ah.getD i2.1 default).day) > day))
 (.fin (.inl (.inr i2.2)))
 (.r 6 (.al (.o [.fc (fQ Sign.E [f.ah.getD i2.1 default])]) (.al (.o [.fc (mV Sign.E i2.2 [f.ah.getD i2.1 default])]) (.al (.t (Sign.E.pB [f.ah.getD i2.1 default])) (.p (yw i2.2.length [f.ah.getD i2.1 default].length 72))))) fun _ =>
 .nx 7 20 i2.1 (i2.1+1,i2.2++[f.ah.getD i2.1 default])))
 (.fin (.inl (.inr i2.2))))
 (fun (b1:(List Sign))=>⟨[],[(100001,bg 96 9 Sign.cells b1),(5,.box (f.aH.cells.map .d++[ow 100001 b1]++[nv,nv,nv]))]⟩) fun b1 =>
 .bind true (fun b3=>b3.length≤f.au.length)
 (.loop (default:Sum (ar) ((List bC))) (fun i4=>i4.2.length≤i4.1∧i4.1≤f.au.length) (fun i4=>f.au.length - i4.1) ((0,[]):Nat × (List bC))
 (fun (i4:Nat × (List bC))=>⟨[(38,iv (i4.1:Int))],[(100005,bg 62 9 bC.cells i4.2),(5,.box (f.aH.cells.map .d++[ow 100001 b1]++[nv,ow 100005 i4.2]++[nv]))]⟩) fun i4 =>
 .lt 36 0 i4.1 f.au.length
 (.r 10 (.p (bA (i4.1:Int) f.au.length)) fun _ =>
 .br (decide (((f.au.getD i4.1 default).day) > day))
 (.fin (.inl (.inr i4.2)))
 (.r 12 (.al (.o [.fc (fQ bC.E [f.au.getD i4.1 default])]) (.al (.o [.fc (mV bC.E i4.2 [f.au.getD i4.1 default])]) (.al (.t (bC.E.pB [f.au.getD i4.1 default])) (.p (yw i4.2.length [f.au.getD i4.1 default].length 72))))) fun _ =>
 .nx 13 38 i4.1 (i4.1+1,i4.2++[f.au.getD i4.1 default])))
 (.fin (.inl (.inr i4.2))))
 (fun (b3:(List bC))=>⟨[],[(100004,bg 62 9 bC.cells b3),(5,.box (f.aH.cells.map .d++[ow 100001 b1]++[nv,ow 100004 b3]++[nv]))]⟩) fun b3 =>
 .bind true (fun b5=>b5.length≤f.aO.length)
 (.loop (default:Sum (ar) ((List cV))) (fun i6=>i6.2.length≤i6.1∧i6.1≤f.aO.length) (fun i6=>f.aO.length - i6.1) ((0,[]):Nat × (List cV))
 (fun (i6:Nat × (List cV))=>⟨[(56,iv (i6.1:Int))],[(100008,bg 115 2 cV.cells i6.2),(5,.box (f.aH.cells.map .d++[ow 100001 b1,ow 100008 i6.2,ow 100004 b3]++[nv]))]⟩) fun i6 =>
 .lt 54 0 i6.1 f.aO.length
 (.r 16 (.p (bA (i6.1:Int) f.aO.length)) fun _ =>
 .br (decide (((f.aO.getD i6.1 default).at_)≤((b1.length:Nat):Int)))
 (.r 18 (.al (.o [.fc (fQ cV.E [f.aO.getD i6.1 default])]) (.al (.o [.fc (mV cV.E i6.2 [f.aO.getD i6.1 default])]) (.al (.t (cV.E.pB [f.aO.getD i6.1 default])) (.p (yw i6.2.length [f.aO.getD i6.1 default].length 16))))) fun _ =>
 .nx 19 56 i6.1 (i6.1+1,i6.2++[f.aO.getD i6.1 default]))
 (.nx 19 56 i6.1 (i6.1+1,i6.2)))
 (.fin (.inl (.inr i6.2))))
 (fun (b5:(List cV))=>⟨[],[(100007,bg 115 2 cV.cells b5),(5,.box (f.aH.cells.map .d++[ow 100001 b1,ow 100007 b5,ow 100004 b3]++[nv]))]⟩) fun b5 =>
 .bind true (fun b7=>b7.length≤f.facts.length)
 (.loop (default:Sum (ar) ((List Fact))) (fun i8=>i8.2.length≤i8.1∧i8.1≤f.facts.length) (fun i8=>f.facts.length - i8.1) ((0,[]):Nat × (List Fact))
 (fun (i8:Nat × (List Fact))=>⟨[(76,iv (i8.1:Int))],[(100011,bg 45 3 Fact.cells i8.2),(5,.box (f.aH.cells.map .d++[ow 100001 b1,ow 100007 b5,ow 100004 b3,ow 100011 i8.2]))]⟩) fun i8 =>
 .lt 74 0 i8.1 f.facts.length
 (.r 22 (.p (bA (i8.1:Int) f.facts.length)) fun _ =>
 .r 23 ((dm ((f.facts.getD i8.1 default).at_) ((b1.length:Nat):Int)).c) fun x9 =>
 .br x9
 (.r 24 (.al (.o [.fc (fQ Fact.E [f.facts.getD i8.1 default])]) (.al (.o [.fc (mV Fact.E i8.2 [f.facts.getD i8.1 default])]) (.al (.t (Fact.E.pB [f.facts.getD i8.1 default])) (.p (yw i8.2.length [f.facts.getD i8.1 default].length 24))))) fun _ =>
 .nx 25 76 i8.1 (i8.1+1,i8.2++[f.facts.getD i8.1 default]))
 (.nx 25 76 i8.1 (i8.1+1,i8.2)))
 (.fin (.inl (.inr i8.2))))
 (fun (b7:(List Fact))=>⟨[],[(100010,bg 45 3 Fact.cells b7),(5,.box (f.aH.cells.map .d++[ow 100001 b1,ow 100007 b5,ow 100004 b3,ow 100010 b7]))]⟩) fun b7 =>
 .fin ({ f with ah:=b1,aO:=b5,au:=b3,facts:=b7 })
def aB f day:=(kQ f day).val
theorem zx (f:ar) (day:Int):(kQ f day).cC (fun (x:ar)=>x.ah.length≤f.ah.length∧x.au.length≤f.au.length∧x.aO.length≤f.aO.length∧x.facts.length≤f.facts.length):=by
 unfold kQ
 try simp only [dm,iJ,ar.Small,ai.Small]
 exact O3
theorem rH (f:ar) (day:Int):(fun (x:ar)=>x.ah.length≤f.ah.length∧x.au.length≤f.au.length∧x.aO.length≤f.aO.length∧x.facts.length≤f.facts.length) (aB f day):=have h:=Sk.cZ _ (zx f day); h
theorem Lx (f:ar) (day:Int) (hf:f.Small):(kQ f day).aZ (fun _=>True):=by
 simp only [ar.Small,ai.Small] at hf
 unfold kQ
 try simp only [dm,iJ,ar.Small,ai.Small]
 exact wx
def bT f day:=kp tok mixed Tryz.func47 [av f.cells,iv day] (fun x=>av x.cells) false (aB f day) (Lx f day) (zx f day)
theorem sS {α:Type} (p:α→Bool):∀ (l s:List α),l.foldl (fun s x=>bif p x then s++[x] else s) s=s++l.filter p
 | [],s=>by simp
 | x :: r,s=>by
  simp only [List.foldl_cons,List.filter_cons]
  cases h:p x with
  | true=>simp [sS p r]
  | false=>simp [sS p r]
theorem z6 {α β:Type} (p:α→Bool) (g:List α→β):∀ (l s:List α),walk (fun x s=>bif !(p x) then Sum.inl (g s) else Sum.inr (s++[x])) g l s=g (s++l.takeWhile p)
 | [],s=>by simp [walk]
 | x :: r,s=>by
  simp only [walk,List.takeWhile_cons]
  cases h:p x with
  | true =>
   show walk (fun x s=>bif !(p x) then Sum.inl (g s) else Sum.inr (s++[x])) g r (s++[x])=_
   rw [z6 p g r (s++[x])]
   simp
  | false=>simp
theorem kR (f:ar) (day:Int):aB f day=ar.mk f.aH (f.ah.takeWhile (fun s=>decide (s.day≤day)))
  (f.aO.filter (fun a=>decide (a.at_≤((f.ah.takeWhile (fun s=>decide (s.day≤day))).length:Int)))) (f.au.takeWhile (fun a=>decide (a.day≤day)))
  (f.facts.filter (fun x=>decide (x.at_≥0)&&decide (x.at_ < ((f.ah.takeWhile (fun s=>decide (s.day≤day))).length:Int)))):=by
 simp only [aB,kQ,Sk.pC,Sk.rq,Sk.vj,Sk.oe,Sk.ue,Sk.xh,Sk.jR,gV.Kb,kk,kp,dm,iJ]
 have h1:∀ (n:Nat) (d:ar ⊕ List Sign),f.ah.length < n→iter (fun i2:Nat × List Sign=>bif decide ((i2.1:Int) < (f.ah.length:Int)) then (bif decide ((f.ah.getD i2.1 default).day > day) then (Sum.inl (Sum.inr i2.2)) else (Sum.inr (i2.1+1,i2.2++[f.ah.getD i2.1 default]))) else Sum.inl (Sum.inr i2.2)) d n (0,[])=(Sum.inr (f.ah.takeWhile (fun s=>decide (s.day≤day))):ar ⊕ List Sign):=by
  intro n d hn
  rw [l9 f.ah (fun s i=>(i,s)) (fun x s=>bif !(decide (x.day≤day)) then Sum.inl (Sum.inr s) else Sum.inr (s++[x])) (fun s=>Sum.inr s) (fun s i hi=>?_) (fun s=>?_) hn []]
  ·exact z6 _ (fun s=>(Sum.inr s:ar ⊕ List Sign)) f.ah []
  ·rw [decide_eq_true (by omega),cond_true]
   by_cases c:(f.ah.getD i default).day > day
   ·rw [decide_eq_true c,decide_eq_false (by omega)]; rfl
   ·rw [decide_eq_false c,decide_eq_true (by omega)]; rfl
  ·rw [decide_eq_false (by omega),cond_false]
 rw [h1 _ _ (by simp)]
 have h2:∀ (n:Nat) (d:ar ⊕ List bC),f.au.length < n→iter (fun i2:Nat × List bC=>bif decide ((i2.1:Int) < (f.au.length:Int)) then (bif decide ((f.au.getD i2.1 default).day > day) then (Sum.inl (Sum.inr i2.2)) else (Sum.inr (i2.1+1,i2.2++[f.au.getD i2.1 default]))) else Sum.inl (Sum.inr i2.2)) d n (0,[])=(Sum.inr (f.au.takeWhile (fun s=>decide (s.day≤day))):ar ⊕ List bC):=by
  intro n d hn
  rw [l9 f.au (fun s i=>(i,s)) (fun x s=>bif !(decide (x.day≤day)) then Sum.inl (Sum.inr s) else Sum.inr (s++[x])) (fun s=>Sum.inr s) (fun s i hi=>?_) (fun s=>?_) hn []]
  ·exact z6 _ (fun s=>(Sum.inr s:ar ⊕ List bC)) f.au []
  ·rw [decide_eq_true (by omega),cond_true]
   by_cases c:(f.au.getD i default).day > day
   ·rw [decide_eq_true c,decide_eq_false (by omega)]; rfl
   ·rw [decide_eq_false c,decide_eq_true (by omega)]; rfl
  ·rw [decide_eq_false (by omega),cond_false]
 simp only [qR]
 rw [h2 _ _ (by simp)]
 simp only [qR]
 generalize f.ah.takeWhile (fun s=>decide (s.day≤day))=b1
 have h3:∀ (n:Nat) (d:ar ⊕ List cV),f.aO.length < n→iter (fun i2:Nat × List cV=>bif decide ((i2.1:Int) < (f.aO.length:Int)) then (bif decide ((f.aO.getD i2.1 default).at_≤(b1.length:Int)) then (Sum.inr (i2.1+1,i2.2++[f.aO.getD i2.1 default])) else (Sum.inr (i2.1+1,i2.2))) else Sum.inl (Sum.inr i2.2)) d n (0,[])=(Sum.inr (f.aO.filter (fun a=>decide (a.at_≤(b1.length:Int)))):ar ⊕ List cV):=by
  intro n d hn
  rw [l9 f.aO (fun s i=>(i,s)) (fun x s=>Sum.inr (bif decide (x.at_≤(b1.length:Int)) then s++[x] else s)) (fun s=>Sum.inr s) (fun s i hi=>?_) (fun s=>?_) hn []]
  ·rw [qS (fun (x:cV) s=>bif decide (x.at_≤(b1.length:Int)) then s++[x] else s),sS]; rfl
  ·rw [decide_eq_true (by omega),cond_true]
   cases decide ((f.aO.getD i default).at_≤(b1.length:Int)) <;> rfl
  ·rw [decide_eq_false (by omega),cond_false]
 rw [h3 _ _ (by simp)]
 simp only [qR]
 have h4:∀ (n:Nat) (d:ar ⊕ List Fact),f.facts.length < n→iter (fun i2:Nat × List Fact=>bif decide ((i2.1:Int) < (f.facts.length:Int)) then (bif (decide ((f.facts.getD i2.1 default).at_≥0)&&decide ((f.facts.getD i2.1 default).at_ < (b1.length:Int))) then (Sum.inr (i2.1+1,i2.2++[f.facts.getD i2.1 default])) else (Sum.inr (i2.1+1,i2.2))) else Sum.inl (Sum.inr i2.2)) d n (0,[])=(Sum.inr (f.facts.filter (fun a=>decide (a.at_≥0)&&decide (a.at_ < (b1.length:Int)))):ar ⊕ List Fact):=by
  intro n d hn
  rw [l9 f.facts (fun s i=>(i,s)) (fun x s=>Sum.inr (bif (decide (x.at_≥0)&&decide (x.at_ < (b1.length:Int))) then s++[x] else s)) (fun s=>Sum.inr s) (fun s i hi=>?_) (fun s=>?_) hn []]
  ·rw [qS (fun (x:Fact) s=>bif (decide (x.at_≥0)&&decide (x.at_ < (b1.length:Int))) then s++[x] else s),sS]; rfl
  ·rw [decide_eq_true (by omega),cond_true]
   cases (decide ((f.facts.getD i default).at_≥0)&&decide ((f.facts.getD i default).at_ < (b1.length:Int))) <;> rfl
  ·rw [decide_eq_false (by omega),cond_false]
 rw [h4 _ _ (by simp)]
 rfl
theorem rI {α:Type} [Inhabited α] (p:α→Bool):∀ (l:List α) (i:Nat),i < (l.takeWhile p).length→(l.takeWhile p).getD i default=l.getD i default∧i < l.length∧p (l.getD i default)=true
 | [],i,h=>by simp at h
 | x :: r,i,h=>by
  rw [List.takeWhile_cons] at h ⊢
  cases hp:p x with
  | false=>rw [hp] at h; simp at h
  | true =>
   rw [hp] at h
   simp only [if_true,List.length_cons] at h ⊢
   cases i with
   | zero=>exact ⟨rfl,by simp,hp⟩
   | succ i =>
    have:=rI p r i (by omega)
    exact ⟨by simpa using this.1,by simpa using this.2.1,by simpa using this.2.2⟩
structure View where
 all:ar
 now:ar
 day:Int
 lead:List Int
 deriving Inhabited
def View.cells (c:View):List D:=c.all.cells++c.now.cells++[dI c.day,lf bF c.lead]
def View.ma (v:View):Prop:=∀ i,i < v.now.ah.length→((v.now.ah.getD i default).kind=3∨(v.now.ah.getD i default).kind=4)→0≤(v.now.ah.getD i default).for_∧(v.now.ah.getD i default).for_ < (i:Int)
structure fD where
 view:View
 r:ai
 forum:Int
 due:Int
 deriving Inhabited
def fD.cells (c:fD):List D:=c.view.cells++c.r.cells++[dI c.forum,dI c.due]
section
open Go Go.Av Go.Shelf Go.Proofs
def Tryz.Ly:Go.Shelf.Ren:=⟨fun | 5=>97 | 8=>51 | 7=>136 | 19=>95 | 20=>96 | 10=>169 | 11=>170 | 12=>171 | 13=>172 | 14=>173 | 15=>174 | 16=>175 | 17=>176 | 18=>177 | 30=>206 | 31=>132 | 32=>133 | 33=>207 | 34=>208 | 35=>209 | 40=>226 | n=>n,fun | 23=>64 | 25=>3 | 3=>3 | 32=>124 | 22=>64 | 0=>0 | 44=>195 | 46=>197 | 4=>4 | 36=>188 | 35=>187 | 41=>192 | 5=>5 | 9=>9 | 53=>236 | 57=>240 | 63=>275 | 64=>97 | n=>n,fun | n=>n⟩
theorem Tryz.NZ:Go.Proofs.SlLaysM.n5 Tryz.prog Tryz.Ly:={
 mixed:=by kernel_rfl
 f5:=⟨Tryz.f97.name,by decide,Tryz.func97.trans (congrArg some (by kernel_rfl))⟩
 f7:=⟨Tryz.f136.name,by decide,Tryz.func136.trans (congrArg some (by kernel_rfl))⟩
 f8:=Tryz.func51.trans (congrArg some (by kernel_rfl))
 f10:=⟨Tryz.f169.name,by decide,Tryz.func169.trans (congrArg some (by kernel_rfl))⟩
 f11:=⟨Tryz.f170.name,by decide,Tryz.func170.trans (congrArg some (by kernel_rfl))⟩
 f12:=⟨Tryz.f171.name,by decide,Tryz.func171.trans (congrArg some (by kernel_rfl))⟩
 f13:=⟨Tryz.f172.name,by decide,Tryz.func172.trans (congrArg some (by kernel_rfl))⟩
 f14:=⟨Tryz.f173.name,by decide,Tryz.func173.trans (congrArg some (by kernel_rfl))⟩
 f15:=⟨Tryz.f174.name,by decide,Tryz.func174.trans (congrArg some (by kernel_rfl))⟩
 f16:=⟨Tryz.f175.name,by decide,Tryz.func175.trans (congrArg some (by kernel_rfl))⟩
 f17:=⟨Tryz.f176.name,by decide,Tryz.func176.trans (congrArg some (by kernel_rfl))⟩
 f18:=⟨Tryz.f177.name,by decide,Tryz.func177.trans (congrArg some (by kernel_rfl))⟩
 f19:=Tryz.func95.trans (congrArg some (by kernel_rfl))
 f20:=Tryz.func96.trans (congrArg some (by kernel_rfl))
 f30:=⟨Tryz.f206.name,by decide,Tryz.func206.trans (congrArg some (by kernel_rfl))⟩
 f31:=Tryz.func132.trans (congrArg some (by kernel_rfl))
 f32:=Tryz.func133.trans (congrArg some (by kernel_rfl))
 f33:=⟨Tryz.f207.name,by decide,Tryz.func207.trans (congrArg some (by kernel_rfl))⟩
 f34:=⟨Tryz.f208.name,by decide,Tryz.func208.trans (congrArg some (by kernel_rfl))⟩
 f35:=⟨Tryz.f209.name,by decide,Tryz.func209.trans (congrArg some (by kernel_rfl))⟩
 f40:=⟨Tryz.f226.name,by decide,Tryz.func226.trans (congrArg some (by kernel_rfl))⟩
 t0:=Tryz.underlying0
 a0:=Tryz.isAgg0
 z0:=Tryz.sizeOf0
 v0:=Tryz.zeroValue0
 t3:=Tryz.underlying3
 a3:=Tryz.isAgg3
 z3:=Tryz.sizeOf3
 v3:=Tryz.zeroValue3
 t4:=Tryz.underlying4
 a4:=Tryz.isAgg4
 z4:=Tryz.sizeOf4
 v4:=Tryz.zeroValue4
 t5:=Tryz.underlying5
 a5:=Tryz.isAgg5
 z5:=Tryz.sizeOf5
 v5:=Tryz.zeroValue5
 t9:=Tryz.underlying9
 a9:=Tryz.isAgg9
 z9:=Tryz.sizeOf9
 v9:=Tryz.zeroValue9
 t22:=Tryz.underlying64
 a22:=Tryz.isAgg64
 z22:=Tryz.sizeOf64
 v22:=Tryz.zeroValue64
 t23:=Tryz.underlying64
 a23:=Tryz.isAgg64
 z23:=Tryz.sizeOf64
 v23:=Tryz.zeroValue64
 t25:=Tryz.underlying3
 a25:=Tryz.isAgg3
 z25:=Tryz.sizeOf3
 v25:=Tryz.zeroValue3
 t32:=Tryz.underlying124
 a32:=Tryz.isAgg124
 z32:=Tryz.sizeOf124
 v32:=Tryz.zeroValue124
 t35:=Tryz.underlying187
 a35:=Tryz.isAgg187
 z35:=Tryz.sizeOf187
 v35:=Tryz.zeroValue187
 t36:=Tryz.underlying188
 a36:=Tryz.isAgg188
 z36:=Tryz.sizeOf188
 v36:=Tryz.zeroValue188
 t41:=Tryz.underlying192
 a41:=Tryz.isAgg192
 z41:=Tryz.sizeOf192
 v41:=Tryz.zeroValue192
 t44:=Tryz.underlying195
 a44:=Tryz.isAgg195
 z44:=Tryz.sizeOf195
 v44:=Tryz.zeroValue195
 t46:=Tryz.underlying197
 a46:=Tryz.isAgg197
 z46:=Tryz.sizeOf197
 v46:=Tryz.zeroValue197
 t53:=Tryz.underlying236
 a53:=Tryz.isAgg236
 z53:=Tryz.sizeOf236
 v53:=Tryz.zeroValue236
 t57:=Tryz.underlying240
 a57:=Tryz.isAgg240
 z57:=Tryz.sizeOf240
 v57:=Tryz.zeroValue240
 t63:=Tryz.underlying275
 a63:=Tryz.isAgg275
 z63:=Tryz.sizeOf275
 v63:=Tryz.zeroValue275
 t64:=Tryz.underlying97
 a64:=Tryz.isAgg97
 z64:=Tryz.sizeOf97
 v64:=Tryz.zeroValue97 }
def oV (κ:Nat) (x:List Int):zV (List Int) :=
 ⟨Tryz.prog,97,[ow κ x],κ,bg 3 1 bF x,fun y=>bg 3 1 bF y,ry x,x.length < 4611686018427387904,
  fun h=>UG (by kernel_rfl) (fun blk off cap zs w=>AnyM.slices_Sort_int Tryz.NZ blk off cap zs w) (fun p cap w=>AnyM.slices_Sort_int_none Tryz.NZ p cap w) κ 3 x h,
  fun y=>y.length=x.length,by simp [ry]⟩
end
section
open Go Go.Av Go.Shelf Go.Proofs
def Tryz.Ed:Go.Shelf.Ren:=⟨fun | 20=>98 | n=>n,fun | 22=>64 | 3=>3 | 4=>4 | 0=>0 | n=>n,fun | n=>n⟩
theorem Tryz.DJ:Go.Proofs.Lays2.n20 Tryz.prog Tryz.Ed:={
 mixed:=by kernel_rfl
 f20:=Tryz.func98.trans (congrArg some (by kernel_rfl))
 t0:=Tryz.underlying0
 a0:=Tryz.isAgg0
 z0:=Tryz.sizeOf0
 v0:=Tryz.zeroValue0
 t3:=Tryz.underlying3
 a3:=Tryz.isAgg3
 z3:=Tryz.sizeOf3
 v3:=Tryz.zeroValue3
 t4:=Tryz.underlying4
 a4:=Tryz.isAgg4
 z4:=Tryz.sizeOf4
 v4:=Tryz.zeroValue4
 t22:=Tryz.underlying64
 a22:=Tryz.isAgg64
 z22:=Tryz.sizeOf64
 v22:=Tryz.zeroValue64
 i3:=by kernel_rfl }
theorem GL (x:List Int):(Lib.compact x).length≤x.length:=by
 unfold Lib.compact Lib.compactUpTo
 rw [List.length_map]
 exact Nat.le_trans (List.length_filter_le _ _) (by simp)
def kS (κ κ':Nat) (x:List Int):xg (List Int) :=
 ⟨Tryz.prog,98,[ow κ x],[(κ,bg 3 1 bF x)],fun y=>ow κ' y,fun y=>[(κ',bg 3 1 bF y)],Lib.compact x,True,
  fun _=>Nx (by kernel_rfl) x _ (GL x) (fun blk cap w h1 h2 h3=>Any.slices_Compact_int Tryz.DJ blk 0 cap x w h1 h2 h3) (fun p cap w=>Any.slices_Compact_int_empty Tryz.DJ p cap w) κ κ' 3,
  fun y=>y.length≤x.length,GL x⟩
end
end
end Go.Proofs.YtgmnlkccjlnnbaaGreatDoor
