/- The types of this program, as the evaluator looks at them. -/
import Derived.Test.YtgmnlkccjlnnbaaGreatDoorLd
import Derived.Test.YtgmnlkccjlnnbaaGreatDoorRows
import Derived.Shelf.SortM.Plain
import Derived.Shelf.SortM.SortNone
import Derived.Ground.SlgmProg
import Derived.Shelf.Slices.CompactI
import Derived.Ground.Names2Prog
set_option linter.unusedSimpArgs false
set_option linter.unusedVariables false
set_option maxHeartbeats 1000000
set_option maxRecDepth 100000
namespace Go.Proofs.YtgmnlkccjlnnbaaGreatDoor
noncomputable section
open Go Go.Av
instance:yp:=⟨[(0,[dI 6,dI 7,dI 10,dI 12,dI 13,dI 14,dI 15,dI 16,dI 20,dI 21])]⟩
def TT:List (Nat × TI):=[
 (3,⟨.int .i64,1,8,[.v (.int .i64 0)],false⟩),
 (4,⟨.bool,1,1,[.v (.bool false)],false⟩),
 (5,⟨.int .u8,1,1,[.v (.int .u8 0)],false⟩),
 (9,⟨.str,1,16,[.v (.string ⟨#[]⟩)],false⟩),
 (22,⟨.slice 9,1,24,[.v (.slice none 0 0)],false⟩),
 (23,⟨.slice 159,1,24,[.v (.slice none 0 0)],false⟩),
 (24,⟨.slice 169,1,24,[.v (.slice none 0 0)],false⟩),
 (25,⟨.slice 171,1,24,[.v (.slice none 0 0)],false⟩),
 (26,⟨.slice 111,1,24,[.v (.slice none 0 0)],false⟩),
 (27,⟨.slice 173,1,24,[.v (.slice none 0 0)],false⟩),
 (28,⟨.slice 175,1,24,[.v (.slice none 0 0)],false⟩),
 (29,⟨.slice 177,1,24,[.v (.slice none 0 0)],false⟩),
 (31,⟨.struct [(0,22),(1,23),(2,24),(3,25),(4,26),(5,27),(6,28),(7,29)],8,192,[.v (.slice none 0 0),.v (.slice none 0 0),.v (.slice none 0 0),.v (.slice none 0 0),.v (.slice none 0 0),.v (.slice none 0 0),.v (.slice none 0 0),.v (.slice none 0 0)],false⟩),
 (33,⟨.struct [(0,3),(1,3),(2,3)],3,24,[.v (.int .i64 0),.v (.int .i64 0),.v (.int .i64 0)],true⟩),
 (35,⟨.struct [(0,3),(1,3),(2,3),(3,3),(4,3),(5,33),(8,3),(9,3),(10,3),(11,3),(12,3),(13,3),(14,3)],15,120,[.v (.int .i64 0),.v (.int .i64 0),.v (.int .i64 0),.v (.int .i64 0),.v (.int .i64 0),.v (.int .i64 0),.v (.int .i64 0),.v (.int .i64 0),.v (.int .i64 0),.v (.int .i64 0),.v (.int .i64 0),.v (.int .i64 0),.v (.int .i64 0),.v (.int .i64 0),.v (.int .i64 0)],false⟩),
 (36,⟨.slice 96,1,24,[.v (.slice none 0 0)],false⟩),
 (37,⟨.slice 115,1,24,[.v (.slice none 0 0)],false⟩),
 (38,⟨.slice 62,1,24,[.v (.slice none 0 0)],false⟩),
 (39,⟨.slice 45,1,24,[.v (.slice none 0 0)],false⟩),
 (41,⟨.struct [(0,35),(15,36),(16,37),(17,38),(18,39)],19,216,[.v (.int .i64 0),.v (.int .i64 0),.v (.int .i64 0),.v (.int .i64 0),.v (.int .i64 0),.v (.int .i64 0),.v (.int .i64 0),.v (.int .i64 0),.v (.int .i64 0),.v (.int .i64 0),.v (.int .i64 0),.v (.int .i64 0),.v (.int .i64 0),.v (.int .i64 0),.v (.int .i64 0),.v (.slice none 0 0),.v (.slice none 0 0),.v (.slice none 0 0),.v (.slice none 0 0)],false⟩),
 (45,⟨.struct [(0,3),(1,3),(2,3)],3,24,[.v (.int .i64 0),.v (.int .i64 0),.v (.int .i64 0)],true⟩),
 (47,⟨.slice 50,1,24,[.v (.slice none 0 0)],false⟩),
 (50,⟨.struct [(0,3),(1,3),(2,3),(3,3),(4,3),(5,3),(6,3),(7,3),(8,3)],9,72,[.v (.int .i64 0),.v (.int .i64 0),.v (.int .i64 0),.v (.int .i64 0),.v (.int .i64 0),.v (.int .i64 0),.v (.int .i64 0),.v (.int .i64 0),.v (.int .i64 0)],true⟩),
 (52,⟨.slice 55,1,24,[.v (.slice none 0 0)],false⟩),
 (55,⟨.struct [(0,3),(1,3),(2,3),(3,3)],4,32,[.v (.int .i64 0),.v (.int .i64 0),.v (.int .i64 0),.v (.int .i64 0)],true⟩),
 (58,⟨.slice 66,1,24,[.v (.slice none 0 0)],false⟩),
 (62,⟨.struct [(0,3),(1,3),(2,3),(3,3),(4,3),(5,3),(6,3),(7,3),(8,3)],9,72,[.v (.int .i64 0),.v (.int .i64 0),.v (.int .i64 0),.v (.int .i64 0),.v (.int .i64 0),.v (.int .i64 0),.v (.int .i64 0),.v (.int .i64 0),.v (.int .i64 0)],true⟩),
 (64,⟨.slice 3,1,24,[.v (.slice none 0 0)],false⟩),
 (66,⟨.struct [(0,3),(1,3),(2,3),(3,3)],4,32,[.v (.int .i64 0),.v (.int .i64 0),.v (.int .i64 0),.v (.int .i64 0)],true⟩),
 (67,⟨.int .i64,1,8,[.v (.int .i64 0)],false⟩),
 (71,⟨.struct [(0,4),(1,3)],2,16,[.v (.bool false),.v (.int .i64 0)],true⟩),
 (73,⟨.map 3 3,1,8,[.v (.map none)],false⟩),
 (77,⟨.other,1,8,[.v .nilFunc],false⟩),
 (79,⟨.other,1,8,[.v .nilFunc],false⟩),
 (81,⟨.struct [(0,41),(19,41),(38,3),(39,64)],40,464,[.v (.int .i64 0),.v (.int .i64 0),.v (.int .i64 0),.v (.int .i64 0),.v (.int .i64 0),.v (.int .i64 0),.v (.int .i64 0),.v (.int .i64 0),.v (.int .i64 0),.v (.int .i64 0),.v (.int .i64 0),.v (.int .i64 0),.v (.int .i64 0),.v (.int .i64 0),.v (.int .i64 0),.v (.slice none 0 0),.v (.slice none 0 0),.v (.slice none 0 0),.v (.slice none 0 0),.v (.int .i64 0),.v (.int .i64 0),.v (.int .i64 0),.v (.int .i64 0),.v (.int .i64 0),.v (.int .i64 0),.v (.int .i64 0),.v (.int .i64 0),.v (.int .i64 0),.v (.int .i64 0),.v (.int .i64 0),.v (.int .i64 0),.v (.int .i64 0),.v (.int .i64 0),.v (.int .i64 0),.v (.slice none 0 0),.v (.slice none 0 0),.v (.slice none 0 0),.v (.slice none 0 0),.v (.int .i64 0),.v (.slice none 0 0)],false⟩),
 (83,⟨.struct [(0,81),(40,31),(48,3),(49,3)],50,672,[.v (.int .i64 0),.v (.int .i64 0),.v (.int .i64 0),.v (.int .i64 0),.v (.int .i64 0),.v (.int .i64 0),.v (.int .i64 0),.v (.int .i64 0),.v (.int .i64 0),.v (.int .i64 0),.v (.int .i64 0),.v (.int .i64 0),.v (.int .i64 0),.v (.int .i64 0),.v (.int .i64 0),.v (.slice none 0 0),.v (.slice none 0 0),.v (.slice none 0 0),.v (.slice none 0 0),.v (.int .i64 0),.v (.int .i64 0),.v (.int .i64 0),.v (.int .i64 0),.v (.int .i64 0),.v (.int .i64 0),.v (.int .i64 0),.v (.int .i64 0),.v (.int .i64 0),.v (.int .i64 0),.v (.int .i64 0),.v (.int .i64 0),.v (.int .i64 0),.v (.int .i64 0),.v (.int .i64 0),.v (.slice none 0 0),.v (.slice none 0 0),.v (.slice none 0 0),.v (.slice none 0 0),.v (.int .i64 0),.v (.slice none 0 0),.v (.slice none 0 0),.v (.slice none 0 0),.v (.slice none 0 0),.v (.slice none 0 0),.v (.slice none 0 0),.v (.slice none 0 0),.v (.slice none 0 0),.v (.slice none 0 0),.v (.int .i64 0),.v (.int .i64 0)],false⟩),
 (86,⟨.slice 131,1,24,[.v (.slice none 0 0)],false⟩),
 (93,⟨.struct [(0,3),(1,3),(2,3)],3,24,[.v (.int .i64 0),.v (.int .i64 0),.v (.int .i64 0)],true⟩),
 (96,⟨.struct [(0,3),(1,3),(2,3),(3,3),(4,3),(5,3),(6,3),(7,3),(8,3)],9,72,[.v (.int .i64 0),.v (.int .i64 0),.v (.int .i64 0),.v (.int .i64 0),.v (.int .i64 0),.v (.int .i64 0),.v (.int .i64 0),.v (.int .i64 0),.v (.int .i64 0)],true⟩),
 (100,⟨.struct [(0,3),(1,3),(2,3),(3,3),(4,3),(5,3),(6,3)],7,56,[.v (.int .i64 0),.v (.int .i64 0),.v (.int .i64 0),.v (.int .i64 0),.v (.int .i64 0),.v (.int .i64 0),.v (.int .i64 0)],true⟩),
 (108,⟨.slice 234,1,24,[.v (.slice none 0 0)],false⟩),
 (109,⟨.slice 165,1,24,[.v (.slice none 0 0)],false⟩),
 (111,⟨.struct [(0,9),(1,4),(2,108),(3,109)],4,72,[.v (.string ⟨#[]⟩),.v (.bool false),.v (.slice none 0 0),.v (.slice none 0 0)],false⟩),
 (115,⟨.struct [(0,3),(1,3)],2,16,[.v (.int .i64 0),.v (.int .i64 0)],true⟩),
 (120,⟨.other,1,8,[.v .nilFunc],false⟩),
 (121,⟨.map 3 4,1,8,[.v (.map none)],false⟩),
 (124,⟨.int .u64,1,8,[.v (.int .u64 0)],false⟩),
 (128,⟨.struct [(0,31),(8,3),(9,3),(10,41),(29,3),(30,3)],31,440,[.v (.slice none 0 0),.v (.slice none 0 0),.v (.slice none 0 0),.v (.slice none 0 0),.v (.slice none 0 0),.v (.slice none 0 0),.v (.slice none 0 0),.v (.slice none 0 0),.v (.int .i64 0),.v (.int .i64 0),.v (.int .i64 0),.v (.int .i64 0),.v (.int .i64 0),.v (.int .i64 0),.v (.int .i64 0),.v (.int .i64 0),.v (.int .i64 0),.v (.int .i64 0),.v (.int .i64 0),.v (.int .i64 0),.v (.int .i64 0),.v (.int .i64 0),.v (.int .i64 0),.v (.int .i64 0),.v (.int .i64 0),.v (.slice none 0 0),.v (.slice none 0 0),.v (.slice none 0 0),.v (.slice none 0 0),.v (.int .i64 0),.v (.int .i64 0)],false⟩),
 (131,⟨.struct [(0,3),(1,3),(2,3),(3,3),(4,3),(5,3),(6,4)],7,56,[.v (.int .i64 0),.v (.int .i64 0),.v (.int .i64 0),.v (.int .i64 0),.v (.int .i64 0),.v (.int .i64 0),.v (.bool false)],true⟩),
 (134,⟨.struct [(0,64),(1,3),(2,3),(3,4),(4,3),(5,64)],6,80,[.v (.slice none 0 0),.v (.int .i64 0),.v (.int .i64 0),.v (.bool false),.v (.int .i64 0),.v (.slice none 0 0)],false⟩),
 (141,⟨.other,1,8,[.v .nilFunc],false⟩),
 (143,⟨.struct [(0,3),(1,3),(2,3),(3,3)],4,32,[.v (.int .i64 0),.v (.int .i64 0),.v (.int .i64 0),.v (.int .i64 0)],true⟩),
 (148,⟨.struct [(0,41),(19,3),(20,3),(21,3),(22,3),(23,3)],24,256,[.v (.int .i64 0),.v (.int .i64 0),.v (.int .i64 0),.v (.int .i64 0),.v (.int .i64 0),.v (.int .i64 0),.v (.int .i64 0),.v (.int .i64 0),.v (.int .i64 0),.v (.int .i64 0),.v (.int .i64 0),.v (.int .i64 0),.v (.int .i64 0),.v (.int .i64 0),.v (.int .i64 0),.v (.slice none 0 0),.v (.slice none 0 0),.v (.slice none 0 0),.v (.slice none 0 0),.v (.int .i64 0),.v (.int .i64 0),.v (.int .i64 0),.v (.int .i64 0),.v (.int .i64 0)],false⟩),
 (151,⟨.struct [(0,71),(2,3),(3,64),(4,67)],5,56,[.v (.bool false),.v (.int .i64 0),.v (.int .i64 0),.v (.slice none 0 0),.v (.int .i64 0)],false⟩),
 (156,⟨.struct [(0,3),(1,3),(2,3),(3,3),(4,3)],5,40,[.v (.int .i64 0),.v (.int .i64 0),.v (.int .i64 0),.v (.int .i64 0),.v (.int .i64 0)],true⟩),
 (159,⟨.struct [(0,9),(1,3),(2,3),(3,64),(4,64),(5,64)],6,104,[.v (.string ⟨#[]⟩),.v (.int .i64 0),.v (.int .i64 0),.v (.slice none 0 0),.v (.slice none 0 0),.v (.slice none 0 0)],false⟩),
 (161,⟨.slice 163,1,24,[.v (.slice none 0 0)],false⟩),
 (163,⟨.struct [(0,3),(1,3),(2,161)],3,40,[.v (.int .i64 0),.v (.int .i64 0),.v (.slice none 0 0)],false⟩),
 (165,⟨.struct [(0,3),(1,163)],4,48,[.v (.int .i64 0),.v (.int .i64 0),.v (.int .i64 0),.v (.slice none 0 0)],false⟩),
 (169,⟨.struct [(0,3)],1,8,[.v (.int .i64 0)],true⟩),
 (171,⟨.struct [(0,9),(1,3),(2,3)],3,32,[.v (.string ⟨#[]⟩),.v (.int .i64 0),.v (.int .i64 0)],true⟩),
 (173,⟨.struct [(0,3),(1,3),(2,3)],3,24,[.v (.int .i64 0),.v (.int .i64 0),.v (.int .i64 0)],true⟩),
 (175,⟨.struct [(0,3),(1,3),(2,3),(3,3),(4,3)],5,40,[.v (.int .i64 0),.v (.int .i64 0),.v (.int .i64 0),.v (.int .i64 0),.v (.int .i64 0)],true⟩),
 (177,⟨.struct [(0,3),(1,3),(2,3)],3,24,[.v (.int .i64 0),.v (.int .i64 0),.v (.int .i64 0)],true⟩),
 (179,⟨.other,1,8,[.v .nilFunc],false⟩),
 (187,⟨.int .i64,1,8,[.v (.int .i64 0)],false⟩),
 (195,⟨.int .u32,1,4,[.v (.int .u32 0)],false⟩),
 (197,⟨.int .u64,1,8,[.v (.int .u64 0)],false⟩),
 (213,⟨.struct [(0,31),(8,3),(9,41),(28,3),(29,3),(30,3)],31,440,[.v (.slice none 0 0),.v (.slice none 0 0),.v (.slice none 0 0),.v (.slice none 0 0),.v (.slice none 0 0),.v (.slice none 0 0),.v (.slice none 0 0),.v (.slice none 0 0),.v (.int .i64 0),.v (.int .i64 0),.v (.int .i64 0),.v (.int .i64 0),.v (.int .i64 0),.v (.int .i64 0),.v (.int .i64 0),.v (.int .i64 0),.v (.int .i64 0),.v (.int .i64 0),.v (.int .i64 0),.v (.int .i64 0),.v (.int .i64 0),.v (.int .i64 0),.v (.int .i64 0),.v (.int .i64 0),.v (.slice none 0 0),.v (.slice none 0 0),.v (.slice none 0 0),.v (.slice none 0 0),.v (.int .i64 0),.v (.int .i64 0),.v (.int .i64 0)],false⟩),
 (218,⟨.slice 71,1,24,[.v (.slice none 0 0)],false⟩),
 (225,⟨.struct [(0,3),(1,3)],2,16,[.v (.int .i64 0),.v (.int .i64 0)],true⟩),
 (234,⟨.struct [(0,3),(1,3),(2,4)],3,24,[.v (.int .i64 0),.v (.int .i64 0),.v (.bool false)],true⟩),
 (236,⟨.int .u64,1,8,[.v (.int .u64 0)],false⟩),
 (240,⟨.other,1,8,[.v (.pointer none)],false⟩),
 (251,⟨.other,1,8,[.v .nilFunc],false⟩),
 (254,⟨.struct [(0,4),(1,3)],2,16,[.v (.bool false),.v (.int .i64 0)],true⟩),
 (290,⟨.array 10 3,10,80,[.v (.int .i64 0),.v (.int .i64 0),.v (.int .i64 0),.v (.int .i64 0),.v (.int .i64 0),.v (.int .i64 0),.v (.int .i64 0),.v (.int .i64 0),.v (.int .i64 0),.v (.int .i64 0)],false⟩),
 (294,⟨.other,1,8,[.v .nilFunc],false⟩),
 (298,⟨.struct [(0,218)],1,24,[.v (.slice none 0 0)],false⟩),
 (304,⟨.struct [(0,197),(1,197)],2,16,[.v (.int .u64 0),.v (.int .u64 0)],true⟩),
 (306,⟨.other,1,16,[.v .nilIface],false⟩),
 (314,⟨.other,1,8,[.v .nilFunc],false⟩),
 (319,⟨.slice 64,1,24,[.v (.slice none 0 0)],false⟩),
 (331,⟨.struct [(0,64),(1,3)],2,32,[.v (.slice none 0 0),.v (.int .i64 0)],false⟩),
 (335,⟨.slice 5,1,24,[.v (.slice none 0 0)],false⟩)]
theorem tok:mX Tryz.prog TT:=mX.of (by kernel_rfl)
theorem mixed:Tryz.prog.follows .mixedOrders=true:=by kernel_rfl
structure jB where
 name:ByteArray
 order:Int
 az:Int
 rest:List Int
 fO:List Int
 shut:List Int
 deriving Inhabited
def jB.cells (c:jB):List D:=[.v (.string c.name),dI c.order,dI c.az,mW bU c.rest,mW bU c.fO,mW bU c.shut]
structure mZ where
 Px:Int
 deriving Inhabited
def mZ.cells (c:mZ):List D:=[dI c.Px]
structure AA where
 name:ByteArray
 bZ:Int
 group:Int
 deriving Inhabited
def AA.cells (c:AA):List D:=[.v (.string c.name),dI c.bZ,dI c.group]
structure Choice where
 ask:Int
 cz:Int
 whole:Bool
 deriving Inhabited
def Choice.cells (c:Choice):List D:=[dI c.ask,dI c.cz,dB c.whole]
structure Term where
 op:Int
 n:Int
 args:List Term
instance:Inhabited Term:=⟨⟨default,default,default⟩⟩
mutual
def Term.Py:Term→D
 | ⟨_,_,args⟩=>.sl args.length (Term.HS args)
def Term.HS:List Term→Nat→List D
 | [],_=>[]
 | x :: _,0=>[dI x.op,dI x.n,Term.Py x]
 | _ :: r,i+1=>Term.HS r i
end
def Term.kA (x:Term):List D:=[dI x.op,dI x.n,Term.Py x]
theorem Term.D4:∀ (l:List Term) (i:Nat),i < l.length→Term.HS l i=(l.getD i default).kA
 | [],i,h=>absurd h (by simp)
 | x :: r,0,_=>by simp [Term.HS,Term.kA]
 | x :: r,i+1,h=>by simpa [Term.HS] using Term.D4 r i (by simpa using h)
def Term.cells (c:Term):List D:=[dI c.op,dI c.n,mW Term.kA c.args]
theorem Term.Pz (c:Term):rV (Term.Py c) (mW Term.kA c.args)∧rV (mW Term.kA c.args) (Term.Py c):=by
 obtain ⟨op,n,args⟩:=c
 unfold Term.Py
 exact ⟨rV.sl rfl (fun i hi=>Term.D4 args i hi),rV.sl rfl (fun i hi=>(Term.D4 args i hi).symm)⟩
theorem Term.HT (c:Term):wO c.kA c.cells:=.cons .rfl' (.cons .rfl' (.cons ((Term.Pz c).1) (.nil)))
mutual
def Term.depth:Term→Nat
 | ⟨_,_,args⟩=>Term.eR args+1
def Term.eR:List Term→Nat
 | []=>0
 | x :: r=>max x.depth (Term.eR r)
end
theorem Term.Lt:∀ (l:List Term) (i:Nat),i < l.length→(l.getD i default).depth≤Term.eR l
 | [],i,h=>absurd h (by simp)
 | x :: r,0,_=>by simp [Term.eR]; omega
 | x :: r,i+1,h=>by
  have:=Term.Lt r i (by simpa using h)
  simp [Term.eR] at this ⊢
  omega
theorem Term.kB (c:Term) (i:Nat) (h:i < c.args.length):(c.args.getD i default).depth < c.depth:=by
 obtain ⟨op,n,args⟩:=c
 have:=Term.Lt args i h
 simp only [Term.depth]
 omega
theorem Term.tu (c:Term):0 < c.depth:=by
 obtain ⟨op,n,args⟩:=c
 simp only [Term.depth]
 omega
structure tL where
 ask:Int
 term:Term
 deriving Inhabited
def tL.cells (c:tL):List D:=[dI c.ask]++c.term.cells
structure Order where
 name:ByteArray
 GK:Bool
 aV:List Choice
 rules:List tL
 deriving Inhabited
def Order.cells (c:Order):List D:=[.v (.string c.name),dB c.GK,mW Choice.cells c.aV,mW tL.cells c.rules]
structure dC where
 from_:Int
 cj:Int
 days:Int
 deriving Inhabited
def dC.cells (c:dC):List D:=[dI c.from_,dI c.cj,dI c.days]
def dC.E:Pn dC:=⟨dC.cells,3,fun _=>rfl,fun _=>rfl⟩
structure oJ where
 from_:Int
 cj:Int
 num:Int
 den:Int
 since:Int
 deriving Inhabited
def oJ.cells (c:oJ):List D:=[dI c.from_,dI c.cj,dI c.num,dI c.den,dI c.since]
structure Halt where
 order:Int
 from_:Int
 cj:Int
 deriving Inhabited
def Halt.cells (c:Halt):List D:=[dI c.order,dI c.from_,dI c.cj]
structure ah where
 ck:List ByteArray
 aI:List jB
 fP:List mZ
 bm:List AA
 aE:List Order
 aM:List dC
 bE:List oJ
 ep:List Halt
 deriving Inhabited
def ah.cells (c:ah):List D:=[mW jA c.ck,mW jB.cells c.aI,mW mZ.cells c.fP,mW AA.cells c.bm,mW Order.cells c.aE,mW dC.cells c.aM,mW oJ.cells c.bE,mW Halt.cells c.ep]
def ah.Small (r:ah):Prop:=r.ck.length≤1000000∧r.aI.length≤1000000∧r.fP.length≤1000000∧r.bm.length≤1000000∧r.aE.length≤1000000∧r.aM.length≤1000000∧r.bE.length≤1000000∧r.ep.length≤1000000 ∧
 ∀ i,i < r.aE.length→(r.aE.getD i default).aV.length≤1000000∧(r.aE.getD i default).rules.length≤1000000
def ah.cG (r:ah):Prop:=∀ i j,i < r.aE.length→j < (r.aE.getD i default).aV.length→0≤((r.aE.getD i default).aV.getD j default).cz∧((r.aE.getD i default).aV.getD j default).cz < 5
def ah.dQ (r:ah):Prop:=∀ i,i < r.ep.length→(r.ep.getD i default).cj≤100000
structure rF where
 kind:Int
 n:Int
 unit:Int
 deriving Inhabited
def rF.cells (c:rF):List D:=[dI c.kind,dI c.n,dI c.unit]
structure qd where
 Bs:Int
 na:Int
 kr:Int
 sum:Int
 az:Int
 cR:rF
 day:Int
 bZ:Int
 yo:Int
 need:Int
 lg:Int
 flags:Int
 parts:Int
 deriving Inhabited
def qd.cells (c:qd):List D:=[dI c.Bs,dI c.na,dI c.kr,dI c.sum,dI c.az]++c.cR.cells++[dI c.day,dI c.bZ,dI c.yo,dI c.need,dI c.lg,dI c.flags,dI c.parts]
structure Sign where
 kind:Int
 part:Int
 dt:Int
 for_:Int
 cj:Int
 sum:Int
 day:Int
 bZ:Int
 flags:Int
 deriving Inhabited
def Sign.cells (c:Sign):List D:=[dI c.kind,dI c.part,dI c.dt,dI c.for_,dI c.cj,dI c.sum,dI c.day,dI c.bZ,dI c.flags]
def Sign.E:Pn Sign:=⟨Sign.cells,9,fun _=>rfl,fun _=>rfl⟩
structure di where
 at_:Int
 sum:Int
 deriving Inhabited
def di.cells (c:di):List D:=[dI c.at_,dI c.sum]
def di.E:Pn di:=⟨di.cells,2,fun _=>rfl,fun _=>rfl⟩
structure bh where
 kind:Int
 dt:Int
 cj:Int
 part:Int
 at_:Int
 sum:Int
 day:Int
 bZ:Int
 form:Int
 deriving Inhabited
def bh.cells (c:bh):List D:=[dI c.kind,dI c.dt,dI c.cj,dI c.part,dI c.at_,dI c.sum,dI c.day,dI c.bZ,dI c.form]
def bh.E:Pn bh:=⟨bh.cells,9,fun _=>rfl,fun _=>rfl⟩
structure Fact where
 kind:Int
 at_:Int
 n:Int
 deriving Inhabited
def Fact.cells (c:Fact):List D:=[dI c.kind,dI c.at_,dI c.n]
def Fact.E:Pn Fact:=⟨Fact.cells,3,fun _=>rfl,fun _=>rfl⟩
structure al where
 aR:qd
 af:List Sign
 aN:List di
 aA:List bh
 facts:List Fact
 deriving Inhabited
def al.cells (c:al):List D:=c.aR.cells++[mW Sign.cells c.af,mW di.cells c.aN,mW bh.cells c.aA,mW Fact.cells c.facts]
def al.Small (f:al):Prop:=f.af.length≤1000000∧f.aN.length≤1000000∧f.aA.length≤1000000∧f.facts.length≤1000000
def ah.iI (r:ah):Prop:=∀ i,i < r.bm.length→0≤(r.bm.getD i default).bZ∧(r.bm.getD i default).bZ < r.aI.length
def ah.dj (r:ah):Prop:=∀ i,i < r.bE.length→(1≤(r.bE.getD i default).num∧(r.bE.getD i default).num≤1073741824)∧1≤(r.bE.getD i default).den∧(r.bE.getD i default).den≤1073741824
abbrev jK (n:Int):Prop:=0≤n∧n≤1099511627776
def al.pw (f:al):Prop:=jK f.aR.sum∧(∀ q,q < f.aN.length→jK (f.aN.getD q default).sum)∧(∀ q,q < f.af.length→jK (f.af.getD q default).sum)∧∀ q,q < f.aA.length→jK (f.aA.getD q default).sum
def PA (f:al) (q:Nat):Prop:=jK (f.af.getD q default).sum∧(0≤(f.af.getD q default).kind∧(f.af.getD q default).kind≤4)∧((f.af.getD q default).kind=0↔q=0)∧((f.af.getD q default).kind=3∨(f.af.getD q default).kind=4→0≤(f.af.getD q default).for_∧(f.af.getD q default).for_ < (q:Int))
def xT (r:ah) (f:al) (q:Nat):Prop:=(0≤(f.af.getD q default).dt∧(f.af.getD q default).dt < r.bm.length)∧(q≠0→(f.af.getD (q - 1) default).day≤(f.af.getD q default).day)∧(f.af.getD q default).day≤100000∧(q=0→(f.af.getD q default).day=f.aR.day)∧(0≤(f.af.getD q default).part∧(f.af.getD q default).part≤f.aR.parts - 1)∧PA f q
def yQ (f:al) (q:Nat):Prop:=jK (f.aA.getD q default).sum∧(f.aR.day≤(f.aA.getD q default).day∧(f.aA.getD q default).day≤100000)∧(q≠0→(f.aA.getD (q - 1) default).day≤(f.aA.getD q default).day)∧((f.aA.getD q default).kind=6→(0≤(f.aA.getD q default).at_∧(f.aA.getD q default).at_ < f.af.length)∧(f.af.getD (f.aA.getD q default).at_.toNat default).day≤(f.aA.getD q default).day∧(f.af.getD (f.aA.getD q default).at_.toNat default).dt=(f.aA.getD q default).dt)
def uJ (r:ah) (b:qd):Prop:=(1≤b.sum∧b.sum≤1099511627776)∧(0≤b.yo∧b.yo < r.aI.length)∧(0≤b.day∧b.day≤100000)∧(1≤b.parts∧b.parts≤4)∧(0≤b.az∧b.az < r.ck.length)
def cm (r:ah) (f:al):Prop:=uJ r f.aR∧(f.af.length≤40∧f.af.length≠0∧f.aN.length≤4∧f.aA.length≤100∧f.facts.length≤300)∧(∀ q,q < f.af.length→xT r f q)∧(∀ q,q < f.aN.length→jK (f.aN.getD q default).sum)∧∀ q,q < f.aA.length→yQ f q
theorem cm.small {r:ah} {f:al} (h:cm r f):f.Small:=by have:=h.2.1; unfold al.Small; omega
theorem cm.UK {r:ah} {f:al} (h:cm r f):f.pw:=⟨⟨by have:=h.1.1; omega,h.1.1.2⟩,h.2.2.2.1,fun q hq=>(h.2.2.1 q hq).2.2.2.2.2.1,fun q hq=>(h.2.2.2.2 q hq).1⟩
theorem tM {α:Type} [Inhabited α] {l:List α} {P:α→Prop}:(∀ q,q < l.length→P (l.getD q default))↔∀ x,x∈l→P x:=by
 constructor
 ·intro h x hx
  obtain ⟨i,hi,rfl⟩:=List.getElem_of_mem hx
  have:=h i hi
  rwa [show l.getD i default=l[i] by simp [List.getD,hi]] at this
 ·exact fun h q hq=>h _ (tK hq _)
structure Claim where
 aF:Int
 ak:Int
 part:Int
 sign:Int
 cz:Int
 dR:Int
 sum:Int
 az:Int
 state:Int
 deriving Inhabited
def Claim.cells (c:Claim):List D:=[dI c.aF,dI c.ak,dI c.part,dI c.sign,dI c.cz,dI c.dR,dI c.sum,dI c.az,dI c.state]
def Claim.E:Pn Claim:=⟨Claim.cells,9,fun _=>rfl,fun _=>rfl⟩
def py:Sk ((List Claim)) :=
 .r 1 (.o [.fU (gB Claim.E [({ aF:=1,ak:=3,part:=0,sign:=1,cz:=2,dR:=0,sum:=100,az:=0,state:=1 }:Claim),({ aF:=2,ak:=3,part:=0,sign:=2,cz:=2,dR:=1,sum:=100,az:=0,state:=1 }:Claim),({ aF:=0,ak:=3,part:=0,sign:=0,cz:=2,dR:=2,sum:=100,az:=0,state:=1 }:Claim)])]) fun _ =>
 .fin [({ aF:=1,ak:=3,part:=0,sign:=1,cz:=2,dR:=0,sum:=100,az:=0,state:=1 }:Claim),({ aF:=2,ak:=3,part:=0,sign:=2,cz:=2,dR:=1,sum:=100,az:=0,state:=1 }:Claim),({ aF:=0,ak:=3,part:=0,sign:=0,cz:=2,dR:=2,sum:=100,az:=0,state:=1 }:Claim)]
def yR:(List Claim):=(py).val
theorem D5:(fun (x:(List Claim))=>x.length=3) (yR):=(show yR.length=3 by kernel_rfl)
theorem HU:(py).bz (fun _=>True):=by
 unfold py
 exact pv
def A3:gn ((List Claim)):=kk tok mixed Tryz.func11 [] (fun x=>lv Claim.cells x) false (py) (yR) (fun (_:True)=>HU) (fun (x:(List Claim))=>x.length=3) (D5)
structure Step where
 aF:Int
 ak:Int
 sign:Int
 sum:Int
 deriving Inhabited
def Step.cells (c:Step):List D:=[dI c.aF,dI c.ak,dI c.sign,dI c.sum]
def Step.E:Pn Step:=⟨Step.cells,4,fun _=>rfl,fun _=>rfl⟩
def iM (s:List Claim):Sk ((List Claim)) :=
 .Ra 0 s.length
 (.JU <|
 .fin [])
 (.JV <|
 .r 3 (.aq (.o [.fU (gB Claim.E ([]:List Claim))]) (.aq (.o [.fU (og Claim.E ([]:List Claim) s)]) (.aq (.t (Claim.E.src s)) (.p (ym (([]:List Claim).length) s.length 72))))) fun _ =>
 .fin (([]:List Claim)++s))
def pz s:=(iM s).val
theorem D6 (s:List Claim):(iM s).cZ (fun (x:(List Claim))=>x.length=s.length∧x=s):=by
 unfold iM
 simp [Sk.cZ,gB,og]
theorem uK (s:List Claim):(fun (x:(List Claim))=>x.length=s.length∧x=s) (pz s):=have h:=Sk.de _ (D6 s); h
theorem FC (s:List Claim) (hs:s.length≤1000000000):(iM s).bz (fun _=>True):=by
 unfold iM
 exact oj
theorem D7 (s:List Claim) (hs:s.length≤1000000000):gu Tryz.prog 30 [lv Claim.cells s] [] (ow 777777 (pz s)) [(777777,bO 50 9 Claim.cells (pz s))] :=
 gu.sk tok mixed (fun x=>ow 777777 x) (fun x=>[(777777,bO 50 9 Claim.cells x)]) Tryz.func30 rfl (by kernel_rfl) 3000 (iM s) (by kernel_rfl) (FC s hs)
def nH (κ:Nat) (s:List Claim):iY ((List Claim)):=⟨Tryz.prog,30,[lv Claim.cells s],fun x=>ow κ x,fun x=>[(κ,bO 50 9 Claim.cells x)],pz s,(s.length≤1000000000),fun h=>gu.WL κ (D7 s h),fun (x:(List Claim))=>x.length=s.length∧x=s,uK s⟩
def sN (a:bh) (ba:Bool) (c_:Claim):Sk (Bool) :=
 .fin ((c_.ak == a.cj)||((c_.ak == (-1))&&ba))
def dE a ba c_:=(sN a ba c_).val
theorem ja (a:bh) (ba:Bool) (c_:Claim):dE a ba c_=((c_.ak == a.cj)||((c_.ak == (-1))&&ba)):=rfl
theorem Mw (a:bh) (ba:Bool) (c_:Claim):(sN a ba c_).bz (fun _=>True):=by
 unfold sN
 exact pv
def uL a ba c_:=kk tok mixed Tryz.func31 [av a.cells,bv ba,av c_.cells] (fun x=>bv x) true (sN a ba c_) (dE a ba c_) (u0 (Mw a ba c_))
structure Key where
 aF:Int
 ak:Int
 part:Int
 sign:Int
 cz:Int
 deriving Inhabited
def Key.cells (c:Key):List D:=[dI c.aF,dI c.ak,dI c.part,dI c.sign,dI c.cz]
def z7 (c_:Claim):Sk (Key) :=
 .fin ({ aF:=c_.aF,ak:=c_.ak,part:=c_.part,sign:=c_.sign,cz:=c_.cz }:Key)
def WW c_:=(z7 c_).val
theorem z8 (c_:Claim):WW c_=({ aF:=c_.aF,ak:=c_.ak,part:=c_.part,sign:=c_.sign,cz:=c_.cz }:Key):=rfl
theorem UL (c_:Claim):(z7 c_).bz (fun _=>True):=by
 unfold z7
 exact pv
def rG c_:=kk tok mixed Tryz.func72 [av c_.cells] (fun x=>av x.cells) true (z7 c_) (WW c_) (u0 (UL c_))
def jn:List Int→Int→Int
 | [],o=>o
 | x :: r,o=>if x=0 then 0 else if x=2 then jn r 2 else jn r o
theorem CE {l:List Int} {n:Nat} (h:n < l.length) (o:Int):jn (l.drop n) o=if l.getD n default=0 then 0 else if l.getD n default=2 then jn (l.drop (n+1)) 2 else jn (l.drop (n+1)) o:=by
 rw [List.drop_eq_getElem_cons h]
 simp only [jn,List.getD,List.getElem?_eq_getElem h,Option.getD_some]
def pA (l:List Int):Sk (Int) :=
 .bind true (fun b1=>b1=jn l 1)
 (.loop (default:Sum (Int) (Int)) (fun i2=>i2.2≤l.length∧jn l 1=jn (l.drop i2.2) i2.1) (fun i2=>l.length - i2.2) ((1,0):Int × Nat)
 (fun (i2:Int × Nat)=>⟨[(3,iv i2.1),(8,iv (i2.2:Int))],[]⟩) fun i2 =>
 .lt 6 0 i2.2 l.length
 (.r 4 (.p (bG (i2.2:Int) l.length)) fun _ =>
 .br ((l.getD i2.2 default) == 0)
 (.fin (.inl (.inl 0)))
 (.br ((l.getD i2.2 default) == 2)
 (.nx 9 8 i2.2 (2,i2.2+1))
 (.nx 9 8 i2.2 (i2.1,i2.2+1))))
 (.fin (.inl (.inr i2.1))))
 (fun (b1:Int)=>⟨[(3,iv b1)],[]⟩) fun b1 =>
 .fin b1
def bind_join l:=(pA l).val
theorem A4 (l:List Int):(pA l).cZ (fun (x:Int)=>x=jn l 1):=by
 refine Sk.bp _ ?_
 unfold pA
 simp only [Sk.cV,Sk.aO,reduceCtorEq,ON,kk,kp,maxLen]
 all_goals simp only [LN] at *
 refine ⟨⟨⟨Nat.zero_le _,by simp⟩,fun i hi=>⟨fun hc _=>⟨fun h=>?_,fun h=>⟨fun h2 _=>⟨⟨by omega,?_⟩,by omega⟩,fun h2 _=>⟨⟨by omega,?_⟩,by omega⟩⟩⟩,fun hc=>?_⟩⟩,fun b hb=>hb⟩
 ·rw [hi.2,CE (by omega),if_pos h]
 ·rw [hi.2,CE (by omega),if_neg h,if_pos h2]
 ·rw [hi.2,CE (by omega),if_neg h,if_neg h2]
 ·rw [hi.2,List.drop_eq_nil_of_le (by omega)]; rfl
theorem HV (l:List Int):(fun (x:Int)=>x=jn l 1) (bind_join l):=have h:=Sk.de _ (A4 l); h
theorem Mx (l:List Int):(pA l).bz (fun _=>True):=by
 refine Sk.aX _ ?_
 unfold pA
 simp only [Sk.kq,Sk.aO,reduceCtorEq,ON,kk,kp,maxLen]
 all_goals simp only [LN] at *
 have wi:∀ n:Nat,n < l.length→l.length≤9223372036854775807→au ((n:Int)+1)=((n+1:Nat):Int):=fun n h h1=>by rw [aG (by omega) (by omega)]; omega
 refine ⟨⟨Nat.zero_le _,by simp⟩,fun i hi hm=>⟨fun hc=>⟨by omega,fun _ h=>⟨fun h2 _=>⟨wi _ (by omega) (by omega),⟨by omega,?_⟩,by omega⟩,fun h2 _=>⟨wi _ (by omega) (by omega),⟨by omega,?_⟩,by omega⟩⟩⟩,fun hc=>?_⟩⟩
 ·rw [hi.2,CE (by omega),if_neg h,if_pos h2]
 ·rw [hi.2,CE (by omega),if_neg h,if_neg h2]
 ·rw [hi.2,List.drop_eq_nil_of_le (by omega)]; rfl
def oK l:=kp tok mixed Tryz.func103 [lv bU l] (fun x=>iv x) true (bind_join l) (u0 (Mx l)) (A4 l)
def uM (a:Int) (b:Int):Sk (Int) :=
 .r 1 (.aq (.o [.fU (gB eA [a,b])]) ((oK [a,b]).c)) fun x1 =>
 .fin x1
def nk a b:=(uM a b).val
theorem PB (a:Int) (b:Int):(uM a b).bz (fun _=>True):=by
 unfold uM
 try simp only [oK]
 exact pv
def qt a b:=kk tok mixed Tryz.func73 [iv a,iv b] (fun x=>iv x) true (uM a b) (nk a b) (u0 (PB a b))
def dw (x y:Claim):Prop:=x.aF=y.aF∧x.ak=y.ak∧x.part=y.part∧x.sign=y.sign∧x.cz=y.cz
def rY (f:Claim→Claim) (l:List Claim) (c:Claim) (x:List Claim):Prop :=
 (∃ i,i < l.length∧dw (l.getD i default) c∧x=l.set i (f (l.getD i default)))∨((∀ i,i < l.length→¬ dw (l.getD i default) c)∧x=l++[c])
def fG (c x:Claim):Claim:={ x with sum:=cg x.sum c.sum,state:=nk c.state x.state }
def fJ (c x:Claim):Claim:={ x with sum:=bL 1099511627776 (au (x.sum+c.sum)),state:=nk x.state c.state }
def iJ (a:bh) (x:Claim):Int:=bL (cg 0 a.sum) (cg 0 x.sum)
def gh (a:bh) (st:Bool) (x:Claim):Claim:=bif dE a st x then { x with sum:=au (cg 0 x.sum - iJ a x) } else x
def yS (x y:Claim):Prop:=dw x y∧x.dR=y.dR∧x.az=y.az
theorem yS.rfl' (x:Claim):yS x x:=⟨⟨rfl,rfl,rfl,rfl,rfl⟩,rfl,rfl⟩
theorem yS.trans {x y z:Claim} (h:yS x y) (k:yS y z):yS x z:=⟨⟨h.1.1.trans k.1.1,h.1.2.1.trans k.1.2.1,h.1.2.2.1.trans k.1.2.2.1,h.1.2.2.2.1.trans k.1.2.2.2.1,h.1.2.2.2.2.trans k.1.2.2.2.2⟩,h.2.1.trans k.2.1,h.2.2.trans k.2.2⟩
def HW (x:Claim):Prop:=jK x.sum∧(x.state=1∨x.state=2)
theorem RY {a b:Int} (ha:a=1∨a=2) (hb:b=1∨b=2):nk a b=1∨nk a b=2:=by
 rcases ha with rfl | rfl <;> rcases hb with rfl | rfl
 ·exact .inl (by kernel_rfl)
 ·exact .inr (by kernel_rfl)
 ·exact .inr (by kernel_rfl)
 ·exact .inr (by kernel_rfl)
def Sub (l:List Claim) (a:bh) (c:Claim):Prop:=(c.ak=a.dt∧c.cz=a.at_∧c.aF≠a.dt)∧(∃ x∈l,x.aF=c.aF∧x.part=c.part∧x.sign=c.sign∧x.az=c.az)∧((∀ x∈l,HW x)→HW c)
def HX (l:List Claim) (a:bh) (mn:List Claim):Prop:=(∀ c∈mn,Sub l a c)∧mn.Pairwise fun x y=>¬ dw x y
theorem WX {a b:Int} (ha:jK a) (hb:jK b):jK (cg a b):=by unfold cg jK at *; split <;> omega
theorem dw.comm {x y:Claim} (h:dw x y):dw y x:=⟨h.1.symm,h.2.1.symm,h.2.2.1.symm,h.2.2.2.1.symm,h.2.2.2.2.symm⟩
theorem dw.tr {x y z:Claim} (h:dw x y) (k:dw y z):dw x z:=⟨h.1.trans k.1,h.2.1.trans k.2.1,h.2.2.1.trans k.2.2.1,h.2.2.2.1.trans k.2.2.2.1,h.2.2.2.2.trans k.2.2.2.2⟩
theorem PC {l:List Claim} {i:Nat} {y x:Claim} (h:x∈l.set i y):x=y∨x∈l:=by
 rcases List.mem_or_eq_of_mem_set h with h | h
 ·exact .inr h
 ·exact .inl h
theorem j2 {l:List Claim} {i:Nat} (h:i < l.length):l.getD i default∈l:=tK h _
theorem CF {l:List Claim} {i j:Nat} {y:Claim} (h:j < l.length):(l.set i y).getD j default=if i=j then y else l.getD j default:=by
 simp only [List.getD,List.getElem?_set]
 split
 ·subst_vars; simp [h]
 ·rfl
theorem HX.group {l:List Claim} {a:bh} {mn x:List Claim} {c:Claim} (h:HX l a mn) (hc:Sub l a c) (hm:rY (fG c) mn c x):HX l a x:=by
 rcases hm with ⟨i,hi,hk,rfl⟩ | ⟨hn,rfl⟩
 ·have hs:=h.1 _ (j2 hi)
  have hx:dw (fG c (mn.getD i default)) (mn.getD i default):=⟨rfl,rfl,rfl,rfl,rfl⟩
  refine ⟨fun z hz=>?_,?_⟩
  ·rcases PC hz with rfl | hz
   ·exact ⟨hs.1,hs.2.1,fun hP=>⟨WX (hs.2.2 hP).1 (hc.2.2 hP).1,RY (hc.2.2 hP).2 (hs.2.2 hP).2⟩⟩
   ·exact h.1 z hz
  ·rw [List.pairwise_iff_getElem]
   intro p q hp hq hpq
   have Yg:p < mn.length:=by simpa using hp
   have OH:q < mn.length:=by simpa using hq
   have h0:=List.pairwise_iff_getElem.1 h.2 p q Yg OH hpq
   simp only [List.getElem_set]
   have e:∀ j (hj:j < mn.length),i=j→dw (fG c (mn.getD i default)) mn[j]:=by
    rintro j hj rfl
    simpa [List.getD,hj] using hx
   intro XY
   apply h0
   split at XY <;> split at XY
   ·omega
   ·exact (e p Yg ‹_›).comm.tr XY
   ·exact XY.tr (e q OH ‹_›)
   ·exact XY
 ·refine ⟨fun z hz=>?_,?_⟩
  ·rcases List.mem_append.1 hz with hz | hz
   ·exact h.1 z hz
   ·rw [List.mem_singleton.1 hz]; exact hc
  ·rw [List.pairwise_append]
   refine ⟨h.2,List.pairwise_singleton _ _,fun x hx y hy=>?_⟩
   rw [List.mem_singleton.1 hy]
   obtain ⟨j,hj,rfl⟩:=List.getElem_of_mem hx
   have:=hn j hj
   rwa [show mn.getD j default=mn[j] by simp [List.getD,hj]] at this
theorem Lu {α:Type}:∀ (l D:List α),l.Pairwise (·≠·)→(∀ x∈l,x∈D)→l.length≤D.length
 | [],D,_,_=>Nat.zero_le _
 | x :: r,D,hp,hs=>by
  classical
  have hx:x∈D:=hs x (by simp)
  rw [List.pairwise_cons] at hp
  have:=Lu r (D.erase x) hp.2 (fun y hy=>(List.mem_erase_of_ne (fun e=>hp.1 y hy e.symm)).2 (hs y (by simp [hy])))
  rw [List.length_erase_of_mem hx] at this
  have J3:0 < D.length:=List.length_pos_of_mem hx
  simp only [List.length_cons]
  omega
def Oa (x:Claim):Int × Int × Int:=(x.aF,x.part,x.sign)
theorem HX.len {l:List Claim} {a:bh} {mn:List Claim} (h:HX l a mn) {D:List (Int × Int × Int)} (hD:∀ x∈l,Oa x∈D):mn.length≤D.length:=by
 have:=Lu (mn.map Oa) D ?_ ?_
 ·simpa using this
 ·rw [List.pairwise_map]
  refine List.Pairwise.imp_of_mem ?_ h.2
  intro x y hx hy xN e
  have hx:=(h.1 x hx).1
  have hy:=(h.1 y hy).1
  simp only [Oa,Prod.mk.injEq] at e
  exact xN ⟨e.1,hx.1.trans hy.1.symm,e.2.1,e.2.2,hx.2.1.trans hy.2.1.symm⟩
 ·intro z hz
  obtain ⟨c,hc,rfl⟩:=List.mem_map.1 hz
  obtain ⟨x,hx,e1,e2,e3,-⟩:=(h.1 c hc).2.1
  have:=hD x hx
  rwa [show Oa x=Oa c by simp [Oa,e1,e2,e3]] at this
def D8 (l:List Claim) (a:bh) (st:Bool) (k:Nat) (out mn:List Claim):Prop :=
 out.length=l.length∧(∀ i,i < l.length→out.getD i default=if i < k then gh a st (l.getD i default) else l.getD i default)∧HX l a mn
theorem D8.init (l:List Claim) (a:bh) (st:Bool):D8 l a st 0 l []:=⟨rfl,fun i _=>by simp,fun c hc=>by simp at hc,.nil⟩
theorem D8.skip {l:List Claim} {a:bh} {st:Bool} {k:Nat} {out mn:List Claim} (h:D8 l a st k out mn) (hk:k < l.length) (hm:dE a st (l.getD k default)=false):D8 l a st (k+1) out mn:=by
 refine ⟨h.1,fun i hi=>?_,h.2.2⟩
 rw [h.2.1 i hi]
 by_cases hik:i=k
 ·subst hik; rw [if_neg (Nat.lt_irrefl i),if_pos (Nat.lt_succ_self i)]; unfold gh; rw [hm]; rfl
 ·by_cases h1:i < k
  ·rw [if_pos h1,if_pos (by omega)]
  ·rw [if_neg h1,if_neg (by omega)]
theorem D8.meet {l:List Claim} {a:bh} {st:Bool} {k:Nat} {out mn acv:List Claim} (h:D8 l a st k out mn) (hk:k < l.length) (hm:dE a st (l.getD k default)=true) (hi:HX l a acv) :
  D8 l a st (k+1) (out.set k { out.getD k default with sum:=au (cg 0 (l.getD k default).sum - iJ a (l.getD k default)) }) acv:=by
 have Oi:=h.2.1 k hk
 rw [if_neg (Nat.lt_irrefl k)] at Oi
 refine ⟨by rw [List.length_set]; exact h.1,fun i hi=>?_,hi⟩
 rw [CF (by rw [h.1]; exact hi)]
 by_cases hik:k=i
 ·subst hik; rw [if_pos rfl,if_pos (by omega),Oi]; unfold gh; rw [hm]; rfl
 ·rw [if_neg hik,h.2.1 i hi]
  by_cases h1:i < k
  ·rw [if_pos h1,if_pos (by omega)]
  ·rw [if_neg h1,if_neg (by omega)]
theorem PD {l:List Claim} {a:bh} {c:Claim} (hc:c∈l) (hd:c.aF≠a.dt) (s:Int) (hs:s=iJ a c):Sub l a { c with ak:=a.dt,cz:=a.at_,sum:=s }:=by
 subst hs
 refine ⟨⟨rfl,rfl,hd⟩,⟨c,hc,rfl,rfl,rfl,rfl⟩,fun hP=>?_⟩
 have:=(hP c hc).1
 refine ⟨?_,(hP c hc).2⟩
 unfold jK at *
 show 0≤iJ a c∧iJ a c≤1099511627776
 unfold iJ bL cg
 constructor <;> (repeat' split) <;> omega
def Inv1 (a:bh) (m mn:List Claim) (k:Nat) (v:List Claim):Prop :=
 (m.length≤v.length∧v.length≤m.length+k)∧(∀ i,i < m.length→yS (v.getD i default) (m.getD i default)∧((m.getD i default).ak≠a.dt→v.getD i default=m.getD i default)) ∧
  (∀ i,m.length≤i→i < v.length→∃ c∈mn,yS (v.getD i default) c)∧((∀ x∈m,HW x)→(∀ x∈mn,HW x)→∀ x∈v,HW x)
theorem Inv1.init (a:bh) (m mn:List Claim):Inv1 a m mn 0 m:=⟨⟨Nat.le_refl _,Nat.le_refl _⟩,fun i hi=>⟨yS.rfl' _,fun _=>rfl⟩,fun i h1 h2=>absurd h2 (by omega),fun h _=>h⟩
theorem WY {c x:Claim} (hc:HW c) (hx:HW x):HW (fJ c x):=by
 refine ⟨?_,RY hx.2 hc.2⟩
 unfold HW jK at *
 show 0≤bL _ _∧bL _ _≤_
 rw [aG (by omega) (by omega)]
 unfold bL; split <;> omega
theorem Inv1.step {a:bh} {m mn v x:List Claim} {k:Nat} {c:Claim} (h:Inv1 a m mn k v) (hc:c∈mn) (hw:c.ak=a.dt) (hm:rY (fJ c) v c x):Inv1 a m mn (k+1) x:=by
 obtain ⟨⟨h1,h2⟩,h3,h4,h5⟩:=h
 rcases hm with ⟨i,hi,hk,rfl⟩ | ⟨hn,rfl⟩
 ·have hl:yS (fJ c (v.getD i default)) (v.getD i default):=⟨⟨rfl,rfl,rfl,rfl,rfl⟩,rfl,rfl⟩
  refine ⟨⟨by simpa using h1,by rw [List.length_set]; omega⟩,fun j hj=>?_,fun j hj SZ=>?_,fun hP hQ z hz=>?_⟩
  ·rw [CF (by omega)]
   split
   ·subst_vars
    refine ⟨hl.trans (h3 _ hj).1,fun xN=>absurd ?_ xN⟩
    have e2:=hk.2.1
    have e3:=(h3 _ hj).1.1.2.1
    rw [← e3,e2,hw]
   ·exact h3 j hj
  ·rw [List.length_set] at SZ
   rw [CF SZ]
   split
   ·subst_vars
    obtain ⟨d,hd,e⟩:=h4 _ hj SZ
    exact ⟨d,hd,hl.trans e⟩
   ·exact h4 j hj SZ
  ·rcases PC hz with rfl | hz
   ·exact WY (hQ c hc) (h5 hP hQ _ (j2 hi))
   ·exact h5 hP hQ z hz
 ·have e:∀ j,j < v.length→(v++[c]).getD j default=v.getD j default:=fun j hj=>by simp [List.getD,List.getElem?_append_left hj]
  refine ⟨⟨by simp; omega,by simp; omega⟩,fun j hj=>?_,fun j hj SZ=>?_,fun hP hQ z hz=>?_⟩
  ·rw [e j (by omega)]; exact h3 j hj
  ·by_cases hjv:j < v.length
   ·rw [e j hjv]; exact h4 j hj hjv
   ·have:j=v.length:=by simp at SZ; omega
    subst this
    exact ⟨c,hc,by simp [List.getD]; exact yS.rfl' _⟩
  ·rcases List.mem_append.1 hz with hz | hz
   ·exact h5 hP hQ z hz
   ·rw [List.mem_singleton.1 hz]; exact hQ c hc
structure xe (l:List Claim) (a:bh) (st:Bool) (out:List Claim):Prop where
 len:l.length≤out.length
 old:∀ i,i < l.length→yS (out.getD i default) (l.getD i default)∧((l.getD i default).ak≠a.dt→out.getD i default=gh a st (l.getD i default))
 new:∀ i,l.length≤i→i < out.length→(out.getD i default).ak=a.dt∧(out.getD i default).cz=a.at_∧(out.getD i default).aF≠a.dt∧∃ x∈l,x.aF=(out.getD i default).aF∧x.part=(out.getD i default).part∧x.sign=(out.getD i default).sign∧x.az=(out.getD i default).az
 UK:(∀ x∈l,HW x)→∀ x∈out,HW x
 few:∀ D:List (Int × Int × Int),(∀ x∈l,Oa x∈D)→out.length≤l.length+D.length
theorem CG (a:bh) (st:Bool) (x:Claim):yS (gh a st x) x:=by
 unfold gh
 cases dE a st x
 ·exact yS.rfl' x
 ·exact ⟨⟨rfl,rfl,rfl,rfl,rfl⟩,rfl,rfl⟩
theorem GL {a:bh} {st:Bool} {x:Claim} (h:HW x):HW (gh a st x):=by
 unfold gh
 cases dE a st x
 ·exact h
 ·refine ⟨?_,h.2⟩
  unfold HW jK at *
  have h1:0≤iJ a x∧iJ a x≤x.sum:=by unfold iJ bL cg; constructor <;> (repeat' split) <;> omega
  have h2:cg 0 x.sum=x.sum:=by unfold cg; split <;> omega
  show 0≤au _∧au _≤_
  rw [h2,aG (by omega) (by omega)]
  omega
theorem xe.mk' {l:List Claim} {a:bh} {st:Bool} {m mn v:List Claim} {k n:Nat} (h0:D8 l a st n m mn) (hn:n=l.length) (h1:Inv1 a m mn k v) (hk:k≤mn.length):xe l a st v:=by
 subst hn
 obtain ⟨hl,hr,hi⟩:=h0
 obtain ⟨⟨h11,h12⟩,h13,h14,h15⟩:=h1
 have hr':∀ i,i < l.length→m.getD i default=gh a st (l.getD i default):=fun i h=>by rw [hr i h,if_pos h]
 refine ⟨by omega,fun i h=>?_,fun i h h2=>?_,fun hP=>?_,fun D hD=>?_⟩
 ·have h3:=h13 i (by omega)
  rw [hr' i h] at h3
  refine ⟨h3.1.trans (CG a st _),fun xN=>h3.2 ?_⟩
  rw [(CG a st (l.getD i default)).1.2.1]
  exact xN
 ·obtain ⟨c,hc,e⟩:=h14 i (by omega) h2
  obtain ⟨⟨k1,k2,k3⟩,⟨x,hx,e1,e2,e3,e4⟩,-⟩:=hi.1 c hc
  obtain ⟨⟨f1,f2,f3,f4,f5⟩,-,f6⟩:=e
  exact ⟨f2.trans k1,f5.trans k2,fun z=>k3 (f1 ▸ z),x,hx,e1.trans f1.symm,e2.trans f3.symm,e3.trans f4.symm,e4.trans f6.symm⟩
 ·refine h15 (fun x hx=>?_) (fun x hx=>(hi.1 x hx).2.2 hP)
  obtain ⟨i,fM,rfl⟩:=List.getElem_of_mem hx
  have:=hr' i (by omega)
  rw [show m.getD i default=m[i] by simp [List.getD,fM]] at this
  rw [this]
  exact GL (hP _ (j2 (by omega)))
 ·have:=hi.len hD
  omega
theorem My {x c:Claim}:((x.aF == c.aF)&&((x.ak == c.ak)&&((x.part == c.part)&&((x.sign == c.sign)&&((x.cz == c.cz)&&true)))))=true↔dw x c:=by
 simp only [Bool.and_eq_true,beq_iff_eq,Bool.and_true]
 exact Iff.rfl
theorem TE {l:List Claim} {i:Nat} (h:i < l.length) (y:Claim) (s:Int):(l.set i y).set i { (l.set i y).getD i default with state:=s }=l.set i { y with state:=s }:=by
 rw [List.set_set,CF h,if_pos rfl]
theorem TF {l:List Claim} {c:Claim} {i:Nat} (h:∀ q,q < i→¬ dw (l.getD q default) c) (hk:(((l.getD i default).aF == c.aF)&&(((l.getD i default).ak == c.ak)&&(((l.getD i default).part == c.part)&&(((l.getD i default).sign == c.sign)&&(((l.getD i default).cz == c.cz)&&true)))))=false):∀ q,q < i+1→¬ dw (l.getD q default) c:=by
 intro q hq e
 by_cases h1:q < i
 ·exact h q h1 e
 ·obtain rfl:q=i:=by omega
  rw [My.2 e] at hk
  cases hk
theorem rY.len {f:Claim→Claim} {l x:List Claim} {c:Claim} (h:rY f l c x):x.length≤l.length+1:=by
 rcases h with ⟨i,hi,-,rfl⟩ | ⟨-,rfl⟩
 ·rw [List.length_set]; omega
 ·simp
def mo (l:List Claim) (c_:Claim):Sk ((List Claim)) :=
 .bind true (fun b1=>∀ q,q < l.length→¬ dw (l.getD q default) c_)
 (.loop (default:Sum ((List Claim)) (Unit)) (fun i2=>i2≤l.length∧∀ q,q < i2→¬ dw (l.getD q default) c_) (fun i2=>l.length - i2) (0:Nat)
 (fun (i2:Nat)=>⟨[(9,iv (i2:Int))],[]⟩) fun i2 =>
 .lt 0 0 i2 l.length
 (.r 3 (.aq (.p (bG (i2:Int) l.length)) (.p (i2 < l.length))) fun _ =>
 .r 4 (.dep ((rG (l.getD i2 default)).c) fun _=>(rG c_).c) fun p6 =>
 .br ((p6.1.aF == p6.2.aF)&&((p6.1.ak == p6.2.ak)&&((p6.1.part == p6.2.part)&&((p6.1.sign == p6.2.sign)&&((p6.1.cz == p6.2.cz)&&true)))))
 (.r 5 (.aq (.p (bG (i2:Int) l.length)) (.aq (.o [.fU (vU Claim.E l i2 ({ l.getD i2 default with sum:=cg ((l.getD i2 default).sum) c_.sum }))]) (.p (i2 < l.length)))) fun _ =>
 .wn 777776 l.length (l.set i2 ({ l.getD i2 default with sum:=cg ((l.getD i2 default).sum) c_.sum })).length <|
 .r 6 (.o9 ((qt c_.state ((l.getD i2 default).state)).c) fun x5=>.aq (.p (bG (i2:Int) ((l.set i2 ({ l.getD i2 default with sum:=cg ((l.getD i2 default).sum) c_.sum })).length))) (.aq (.o [.fU (vU Claim.E (l.set i2 ({ l.getD i2 default with sum:=cg ((l.getD i2 default).sum) c_.sum })) i2 ({ (l.set i2 ({ l.getD i2 default with sum:=cg ((l.getD i2 default).sum) c_.sum })).getD i2 default with state:=x5 }))]) (.p (i2 < (l.set i2 ({ l.getD i2 default with sum:=cg ((l.getD i2 default).sum) c_.sum })).length)))) fun x5 =>
 .wn 777776 (l.set i2 ({ l.getD i2 default with sum:=cg ((l.getD i2 default).sum) c_.sum })).length ((l.set i2 ({ l.getD i2 default with sum:=cg ((l.getD i2 default).sum) c_.sum })).set i2 ({ (l.set i2 ({ l.getD i2 default with sum:=cg ((l.getD i2 default).sum) c_.sum })).getD i2 default with state:=x5 })).length <|
 .fin (.inl (.inl ((l.set i2 ({ l.getD i2 default with sum:=cg ((l.getD i2 default).sum) c_.sum })).set i2 ({ (l.set i2 ({ l.getD i2 default with sum:=cg ((l.getD i2 default).sum) c_.sum })).getD i2 default with state:=x5 })))))
 (.nx 8 9 i2 (i2+1)))
 (.fin (.inl (.inr ()))))
 (fun (_:Unit)=>⟨[],[]⟩) fun _ =>
 .r 9 (.aq (.o [.fU (gB Claim.E [c_])]) (.aq (.o [.fU (og Claim.E l [c_])]) (.aq (.t (Claim.E.qc [c_])) (.p (ym l.length [c_].length 72))))) fun _ =>
 .fin (l++[c_])
def oL l c_:=(mo l c_).val
theorem Kb (l:List Claim) (c_:Claim):(mo l c_).cZ (fun (x:(List Claim))=>rY (fG c_) l c_ x):=by
 refine Sk.bp _ ?_
 unfold mo
 simp only [Sk.cV,Sk.aO,reduceCtorEq,ON,kk,kp,qt,rG,z8,forall_eq,maxLen]
 refine ⟨⟨⟨Nat.zero_le _,fun q hq=>absurd hq (by omega)⟩,fun i hi=>⟨fun hc _=>⟨fun hk _=>?_,fun hk _=>⟨⟨?_,TF hi.2 hk⟩,by simp only [LN] at hc; omega⟩⟩,fun hc=>?_⟩⟩,fun _ hb _=>.inr ⟨hb,rfl⟩⟩
 all_goals simp only [LN] at hc
 ·exact .inl ⟨i,by omega,My.1 hk,TE (by omega) _ _⟩
 ·omega
 ·exact fun q hq=>hi.2 q (by omega)
theorem yT (l:List Claim) (c_:Claim):(fun (x:(List Claim))=>rY (fG c_) l c_ x) (oL l c_):=have h:=Sk.de _ (Kb l c_); h
theorem Mz (l:List Claim) (c_:Claim) (hl:l.length≤1000000000000):(mo l c_).bz (fun _=>True):=by
 refine Sk.aX _ ?_
 unfold mo
 simp only [Sk.kq,Sk.aO,reduceCtorEq,ON,kk,kp,qt,rG,z8,forall_eq,maxLen]
 refine ⟨⟨⟨Nat.zero_le _,fun q hq=>absurd hq (by omega)⟩,fun i hi hm=>⟨fun hc=>?_,fun hc q hq=>hi.2 q (by simp only [LN] at hc; omega)⟩⟩,fun b hb=>?_⟩
 ·simp only [LN] at hc
  refine ⟨⟨⟨by omega,by omega⟩,by omega⟩,fun _=>⟨fun hk=>?_,fun hk _=>⟨(aG (by omega) (by omega)).trans (by omega),⟨by omega,TF hi.2 hk⟩,by omega⟩⟩⟩
  simp only [List.length_set]
  refine ⟨⟨⟨by omega,by omega⟩,by omega⟩,fun _=>?_⟩
  (repeat' first | exact trivial | (apply And.intro) | (intro h))
  all_goals first | rfl | trivial | omega
 ·simp only [List.length_cons,List.length_nil]
  omega
theorem Kc (l:List Claim) (c_:Claim) (hl:l.length≤1000000000000):gu Tryz.prog 32 [ow 777776 l,av c_.cells] [(777776,bO 50 9 Claim.cells l)] (ow 777777 (oL l c_)) [(777777,bO 50 9 Claim.cells (oL l c_))] :=
 gu.sk tok mixed (fun x=>ow 777777 x) (fun x=>[(777777,bO 50 9 Claim.cells x)]) Tryz.func32 rfl (by kernel_rfl) 3000 (mo l c_) (by kernel_rfl) (Mz l c_ hl)
def mq (κ κ':Nat) (l:List Claim) (c_:Claim):yO ((List Claim)):=⟨Tryz.prog,32,[ow κ l,av c_.cells],[(κ,bO 50 9 Claim.cells l)],fun x=>ow κ' x,fun x=>[(κ',bO 50 9 Claim.cells x)],oL l c_,(l.length≤1000000000000),fun h=>gu.WO κ rfl (gu.WN κ' (Kc l c_ h)),fun (x:(List Claim))=>rY (fG c_) l c_ x,yT l c_⟩
def oM (l:List Claim) (c_:Claim):Sk ((List Claim)) :=
 .bind true (fun b1=>∀ q,q < l.length→¬ dw (l.getD q default) c_)
 (.loop (default:Sum ((List Claim)) (Unit)) (fun i2=>i2≤l.length∧∀ q,q < i2→¬ dw (l.getD q default) c_) (fun i2=>l.length - i2) (0:Nat)
 (fun (i2:Nat)=>⟨[(9,iv (i2:Int))],[]⟩) fun i2 =>
 .lt 0 0 i2 l.length
 (.r 3 (.aq (.p (bG (i2:Int) l.length)) (.p (i2 < l.length))) fun _ =>
 .r 4 (.dep ((rG (l.getD i2 default)).c) fun _=>(rG c_).c) fun p6 =>
 .br ((p6.1.aF == p6.2.aF)&&((p6.1.ak == p6.2.ak)&&((p6.1.part == p6.2.part)&&((p6.1.sign == p6.2.sign)&&((p6.1.cz == p6.2.cz)&&true)))))
 (.r 5 (.aq (.p (bG (i2:Int) l.length)) (.aq (.o [.fU (vU Claim.E l i2 ({ l.getD i2 default with sum:=bL 1099511627776 (au (((l.getD i2 default).sum)+c_.sum)) }))]) (.p (i2 < l.length)))) fun _ =>
 .wn 777776 l.length (l.set i2 ({ l.getD i2 default with sum:=bL 1099511627776 (au (((l.getD i2 default).sum)+c_.sum)) })).length <|
 .r 6 (.o9 ((qt ((l.getD i2 default).state) c_.state).c) fun x5=>.aq (.p (bG (i2:Int) ((l.set i2 ({ l.getD i2 default with sum:=bL 1099511627776 (au (((l.getD i2 default).sum)+c_.sum)) })).length))) (.aq (.o [.fU (vU Claim.E (l.set i2 ({ l.getD i2 default with sum:=bL 1099511627776 (au (((l.getD i2 default).sum)+c_.sum)) })) i2 ({ (l.set i2 ({ l.getD i2 default with sum:=bL 1099511627776 (au (((l.getD i2 default).sum)+c_.sum)) })).getD i2 default with state:=x5 }))]) (.p (i2 < (l.set i2 ({ l.getD i2 default with sum:=bL 1099511627776 (au (((l.getD i2 default).sum)+c_.sum)) })).length)))) fun x5 =>
 .wn 777776 (l.set i2 ({ l.getD i2 default with sum:=bL 1099511627776 (au (((l.getD i2 default).sum)+c_.sum)) })).length ((l.set i2 ({ l.getD i2 default with sum:=bL 1099511627776 (au (((l.getD i2 default).sum)+c_.sum)) })).set i2 ({ (l.set i2 ({ l.getD i2 default with sum:=bL 1099511627776 (au (((l.getD i2 default).sum)+c_.sum)) })).getD i2 default with state:=x5 })).length <|
 .fin (.inl (.inl ((l.set i2 ({ l.getD i2 default with sum:=bL 1099511627776 (au (((l.getD i2 default).sum)+c_.sum)) })).set i2 ({ (l.set i2 ({ l.getD i2 default with sum:=bL 1099511627776 (au (((l.getD i2 default).sum)+c_.sum)) })).getD i2 default with state:=x5 })))))
 (.nx 8 9 i2 (i2+1)))
 (.fin (.inl (.inr ()))))
 (fun (_:Unit)=>⟨[],[]⟩) fun _ =>
 .r 9 (.aq (.o [.fU (gB Claim.E [c_])]) (.aq (.o [.fU (og Claim.E l [c_])]) (.aq (.t (Claim.E.qc [c_])) (.p (ym l.length [c_].length 72))))) fun _ =>
 .fin (l++[c_])
def jb l c_:=(oM l c_).val
theorem MA (l:List Claim) (c_:Claim):(oM l c_).cZ (fun (x:(List Claim))=>rY (fJ c_) l c_ x):=by
 refine Sk.bp _ ?_
 unfold oM
 simp only [Sk.cV,Sk.aO,reduceCtorEq,ON,kk,kp,qt,rG,z8,forall_eq,maxLen]
 refine ⟨⟨⟨Nat.zero_le _,fun q hq=>absurd hq (by omega)⟩,fun i hi=>⟨fun hc _=>⟨fun hk _=>?_,fun hk _=>⟨⟨?_,TF hi.2 hk⟩,by simp only [LN] at hc; omega⟩⟩,fun hc=>?_⟩⟩,fun _ hb _=>.inr ⟨hb,rfl⟩⟩
 all_goals simp only [LN] at hc
 ·exact .inl ⟨i,by omega,My.1 hk,TE (by omega) _ _⟩
 ·omega
 ·exact fun q hq=>hi.2 q (by omega)
theorem A5 (l:List Claim) (c_:Claim):(fun (x:(List Claim))=>rY (fJ c_) l c_ x) (jb l c_):=have h:=Sk.de _ (MA l c_); h
theorem PE (l:List Claim) (c_:Claim) (hl:l.length≤1000000000000):(oM l c_).bz (fun _=>True):=by
 refine Sk.aX _ ?_
 unfold oM
 simp only [Sk.kq,Sk.aO,reduceCtorEq,ON,kk,kp,qt,rG,z8,forall_eq,maxLen]
 refine ⟨⟨⟨Nat.zero_le _,fun q hq=>absurd hq (by omega)⟩,fun i hi hm=>⟨fun hc=>?_,fun hc q hq=>hi.2 q (by simp only [LN] at hc; omega)⟩⟩,fun b hb=>?_⟩
 ·simp only [LN] at hc
  refine ⟨⟨⟨by omega,by omega⟩,by omega⟩,fun _=>⟨fun hk=>?_,fun hk _=>⟨(aG (by omega) (by omega)).trans (by omega),⟨by omega,TF hi.2 hk⟩,by omega⟩⟩⟩
  simp only [List.length_set]
  refine ⟨⟨⟨by omega,by omega⟩,by omega⟩,fun _=>?_⟩
  (repeat' first | exact trivial | (apply And.intro) | (intro h))
  all_goals first | rfl | trivial | omega
 ·simp only [List.length_cons,List.length_nil]
  omega
theorem MB (l:List Claim) (c_:Claim) (hl:l.length≤1000000000000):gu Tryz.prog 33 [ow 777776 l,av c_.cells] [(777776,bO 50 9 Claim.cells l)] (ow 777777 (jb l c_)) [(777777,bO 50 9 Claim.cells (jb l c_))] :=
 gu.sk tok mixed (fun x=>ow 777777 x) (fun x=>[(777777,bO 50 9 Claim.cells x)]) Tryz.func33 rfl (by kernel_rfl) 3000 (oM l c_) (by kernel_rfl) (PE l c_ hl)
def oO (κ κ':Nat) (l:List Claim) (c_:Claim):yO ((List Claim)):=⟨Tryz.prog,33,[ow κ l,av c_.cells],[(κ,bO 50 9 Claim.cells l)],fun x=>ow κ' x,fun x=>[(κ',bO 50 9 Claim.cells x)],jb l c_,(l.length≤1000000000000),fun h=>gu.WO κ rfl (gu.WN κ' (MB l c_ h)),fun (x:(List Claim))=>rY (fJ c_) l c_ x,A5 l c_⟩
def kC (l:List Claim) (a:bh) (kind:Int) (ba:Bool):Sk ((List Claim) × (List Step)) :=
 .r 2 ((nH 21 l).c) fun x1 =>
 .bind true (fun b2=>D8 l a ba l.length b2.1 b2.2.2∧b2.2.1.length≤l.length∧b2.2.2.length≤l.length)
 (.loop (default:Sum ((List Claim) × (List Step)) ((List Claim) × (List Step) × (List Claim))) (fun i3=>i3.2.2.2≤l.length∧D8 l a ba i3.2.2.2 i3.1 i3.2.2.1∧i3.2.1.length≤i3.2.2.2∧i3.2.2.1.length≤i3.2.2.2) (fun i3=>l.length - i3.2.2.2) ((x1,[],[],0):(List Claim) × (List Step) × (List Claim) × Nat)
 (fun (i3:(List Claim) × (List Step) × (List Claim) × Nat)=>⟨[(8,ow 100006 i3.1),(9,ow 100007 i3.2.1),(11,ow 100008 i3.2.2.1),(24,iv (i3.2.2.2:Int))],[(100006,bO 50 9 Claim.cells i3.1),(100007,bO 66 4 Step.cells i3.2.1),(100008,bO 50 9 Claim.cells i3.2.2.1)]⟩) fun i3 =>
 .lt 22 0 i3.2.2.2 l.length
 (.r 6 (.p (bG (i3.2.2.2:Int) l.length)) fun _ =>
 .r 7 ((uL a ba (l.getD i3.2.2.2 default)).c) fun x4 =>
 .br (!x4)
 (.nx 14 24 i3.2.2.2 (i3.1,i3.2.1,i3.2.2.1,i3.2.2.2+1))
 (.r 9 (.aq (.p (bG (i3.2.2.2:Int) i3.1.length)) (.aq (.o [.fU (vU Claim.E i3.1 i3.2.2.2 ({ i3.1.getD i3.2.2.2 default with sum:=au ((cg 0 ((l.getD i3.2.2.2 default).sum)) - (bL (cg 0 a.sum) (cg 0 ((l.getD i3.2.2.2 default).sum)))) }))]) (.p (i3.2.2.2 < i3.1.length)))) fun _ =>
 .wn 100006 i3.1.length (i3.1.set i3.2.2.2 ({ i3.1.getD i3.2.2.2 default with sum:=au ((cg 0 ((l.getD i3.2.2.2 default).sum)) - (bL (cg 0 a.sum) (cg 0 ((l.getD i3.2.2.2 default).sum)))) })).length <|
 .r 10 (.aq (.o [.fU (gB Step.E [({ aF:=(l.getD i3.2.2.2 default).aF,ak:=(l.getD i3.2.2.2 default).ak,sign:=(l.getD i3.2.2.2 default).sign,sum:=bL (cg 0 a.sum) (cg 0 ((l.getD i3.2.2.2 default).sum)) }:Step)])]) (.aq (.o [.fU (og Step.E i3.2.1 [({ aF:=(l.getD i3.2.2.2 default).aF,ak:=(l.getD i3.2.2.2 default).ak,sign:=(l.getD i3.2.2.2 default).sign,sum:=bL (cg 0 a.sum) (cg 0 ((l.getD i3.2.2.2 default).sum)) }:Step)])]) (.aq (.t (Step.E.qc [({ aF:=(l.getD i3.2.2.2 default).aF,ak:=(l.getD i3.2.2.2 default).ak,sign:=(l.getD i3.2.2.2 default).sign,sum:=bL (cg 0 a.sum) (cg 0 ((l.getD i3.2.2.2 default).sum)) }:Step)])) (.p (ym i3.2.1.length [({ aF:=(l.getD i3.2.2.2 default).aF,ak:=(l.getD i3.2.2.2 default).ak,sign:=(l.getD i3.2.2.2 default).sign,sum:=bL (cg 0 a.sum) (cg 0 ((l.getD i3.2.2.2 default).sum)) }:Step)].length 32))))) fun _ =>
 .br (((kind != 1)&&((((l.getD i3.2.2.2 default).dR) == 0)||(decide (((l.getD i3.2.2.2 default).sign) < a.at_))))&&(((l.getD i3.2.2.2 default).aF) != a.dt))
 (.r 13 ((mq 100008 90 i3.2.2.1 ({ l.getD i3.2.2.2 default with ak:=a.dt,cz:=a.at_,sum:=bL (cg 0 a.sum) (cg 0 ((l.getD i3.2.2.2 default).sum)) })).c) fun x5 =>
 .r 14 .z fun _ =>
 .wi 24 (au ((i3.2.2.2:Int)+1)) ((i3.2.2.2+1:Nat):Int) <|
 .fin (.inr (i3.1.set i3.2.2.2 ({ i3.1.getD i3.2.2.2 default with sum:=au ((cg 0 ((l.getD i3.2.2.2 default).sum)) - (bL (cg 0 a.sum) (cg 0 ((l.getD i3.2.2.2 default).sum)))) }),i3.2.1++[({ aF:=(l.getD i3.2.2.2 default).aF,ak:=(l.getD i3.2.2.2 default).ak,sign:=(l.getD i3.2.2.2 default).sign,sum:=bL (cg 0 a.sum) (cg 0 ((l.getD i3.2.2.2 default).sum)) }:Step)],x5,i3.2.2.2+1)))
 (.r 14 .z fun _ =>
 .wi 24 (au ((i3.2.2.2:Int)+1)) ((i3.2.2.2+1:Nat):Int) <|
 .fin (.inr (i3.1.set i3.2.2.2 ({ i3.1.getD i3.2.2.2 default with sum:=au ((cg 0 ((l.getD i3.2.2.2 default).sum)) - (bL (cg 0 a.sum) (cg 0 ((l.getD i3.2.2.2 default).sum)))) }),i3.2.1++[({ aF:=(l.getD i3.2.2.2 default).aF,ak:=(l.getD i3.2.2.2 default).ak,sign:=(l.getD i3.2.2.2 default).sign,sum:=bL (cg 0 a.sum) (cg 0 ((l.getD i3.2.2.2 default).sum)) }:Step)],i3.2.2.1,i3.2.2.2+1)))))
 (.fin (.inl (.inr (i3.1,i3.2.1,i3.2.2.1)))))
 (fun (b2:(List Claim) × (List Step) × (List Claim))=>⟨[(8,ow 100003 b2.1),(9,ow 100004 b2.2.1),(11,ow 100005 b2.2.2)],[(100003,bO 50 9 Claim.cells b2.1),(100004,bO 66 4 Step.cells b2.2.1),(100005,bO 50 9 Claim.cells b2.2.2)]⟩) fun b2 =>
 .bind true (fun b6=>Inv1 a b2.1 b2.2.2 b2.2.2.length b6)
 (.loop (default:Sum ((List Claim) × (List Step)) ((List Claim))) (fun i7=>i7.2≤b2.2.2.length∧Inv1 a b2.1 b2.2.2 i7.2 i7.1) (fun i7=>b2.2.2.length - i7.2) ((b2.1,0):(List Claim) × Nat)
 (fun (i7:(List Claim) × Nat)=>⟨[(8,ow 100011 i7.1),(94,iv (i7.2:Int))],[(100011,bO 50 9 Claim.cells i7.1)]⟩) fun i7 =>
 .lt 92 0 i7.2 b2.2.2.length
 (.r 17 (.aq (.p (bG (i7.2:Int) b2.2.2.length)) (.p (i7.2 < b2.2.2.length))) fun _ =>
 .r 18 ((oO 100011 100 i7.1 (b2.2.2.getD i7.2 default)).c) fun x8 =>
 .nx 19 94 i7.2 (x8,i7.2+1))
 (.fin (.inl (.inr i7.1))))
 (fun (b6:(List Claim))=>⟨[(8,ow 100010 b6)],[(100010,bO 50 9 Claim.cells b6)]⟩) fun b6 =>
 .fz 100004 <|
 .fin (b6,b2.2.1)
def gQ l a kind ba:=(kC l a kind ba).val
theorem A6 (l:List Claim) (a:bh) (kind:Int) (ba:Bool):(kC l a kind ba).cZ (fun (x:(List Claim) × (List Step))=>xe l a ba x.1):=by
 refine Sk.bp _ ?_
 unfold kC
 simp only [Sk.cV,Sk.aO,reduceCtorEq,ON,kk,kp,mq,oO,uL,nH,mq,oO,yO.c,ja,forall_eq,maxLen]
 intro hx
 refine ⟨⟨⟨Nat.zero_le _,by rw [hx.2]; exact D8.init l a ba,Nat.le_refl _,Nat.le_refl _⟩,fun i hi=>⟨fun hc _=>?_,fun hc=>?_⟩⟩,fun b hb=>⟨⟨⟨Nat.zero_le _,Inv1.init a _ _⟩,fun i hi=>⟨fun hc _ hM _=>?_,fun hc=>?_⟩⟩,fun b1 Lg=>xe.mk' hb.1 rfl Lg (Nat.le_refl _)⟩⟩
 all_goals simp only [LN] at hc
 ·have hk:i.2.2.2 < l.length:=by omega
  have hi2:=hi.2.2
  refine ⟨fun hm _=>⟨⟨by omega,hi.2.1.skip hk (by rw [ja]; exact (Bool.not_eq_true' _).mp hm),by omega,by omega⟩,by omega⟩,fun hm _ _=>?_⟩
  have AZ:dE a ba (l.getD i.2.2.2 default)=true:=by rw [ja]; exact (Bool.not_eq_false' _).mp hm
  refine ⟨fun hg hM _=>⟨⟨by omega,hi.2.1.meet hk AZ (hi.2.1.2.2.group (PD (j2 hk) ?_ _ rfl) hM),?_,?_⟩,by omega⟩,fun _ _=>⟨⟨by omega,hi.2.1.meet hk AZ hi.2.1.2.2,?_,by omega⟩,by omega⟩⟩
  ·simp only [LN] at hg
   exact hg.2
  ·rw [List.length_append,List.length_singleton]; omega
  ·exact Nat.le_trans hM.len (by omega)
  ·rw [List.length_append,List.length_singleton]; omega
 ·have e:i.2.2.2=l.length:=by omega
  rw [e] at hi
  exact hi.2
 ·have hk:i.2 < b.2.2.length:=by omega
  have Q5:=hb.1.2.2.1 _ (j2 hk)
  exact ⟨⟨by omega,hi.2.step (j2 hk) Q5.1.1 hM⟩,by omega⟩
 ·have e:i.2=b.2.2.length:=by omega
  rw [e] at hi
  exact hi.2
theorem HZ (l:List Claim) (a:bh) (kind:Int) (ba:Bool):(fun (x:(List Claim) × (List Step))=>xe l a ba x.1) (gQ l a kind ba):=have h:=Sk.de _ (A6 l a kind ba); h
theorem CH (l:List Claim) (a:bh) (kind:Int) (ba:Bool) (hl:l.length≤1000000000):(kC l a kind ba).bz (fun _=>True):=by
 refine Sk.aX _ ?_
 unfold kC
 simp only [Sk.kq,Sk.aO,reduceCtorEq,ON,kk,kp,mq,oO,uL,nH,mq,oO,yO.c,ja,forall_eq,maxLen]
 refine ⟨hl,fun hx=>⟨⟨⟨Nat.zero_le _,by rw [hx.2]; exact D8.init l a ba,Nat.le_refl _,Nat.le_refl _⟩,fun i hi Vw=>⟨fun hc=>?_,fun hc=>?_⟩⟩,fun b hb=>⟨⟨Nat.zero_le _,Inv1.init a _ _⟩,fun i hi Vw=>⟨fun hc=>?_,fun hc=>?_⟩⟩⟩⟩
 all_goals simp only [LN] at hc
 ·have hk:i.2.2.2 < l.length:=by omega
  have hi2:=hi.2.2
  have hol:=hi.2.1.1
  have hw:au ((i.2.2.2:Int)+1)=((i.2.2.2+1:Nat):Int):=(aG (by omega) (by omega)).trans (by omega)
  refine ⟨⟨by omega,by omega⟩,fun _=>⟨fun hm _=>⟨hw,⟨by omega,hi.2.1.skip hk (by rw [ja]; exact (Bool.not_eq_true' _).mp hm),by omega,by omega⟩,by omega⟩,fun hm=>⟨⟨⟨by omega,by omega⟩,by omega⟩,fun _=>⟨by rw [List.length_set],⟨by simp only [List.length_singleton]; omega,by simp only [List.length_singleton]; omega⟩,fun _=>?_⟩⟩⟩⟩
  have AZ:dE a ba (l.getD i.2.2.2 default)=true:=by rw [ja]; exact (Bool.not_eq_false' _).mp hm
  refine ⟨fun hg=>⟨by omega,fun hM _=>⟨hw,⟨by omega,hi.2.1.meet hk AZ (hi.2.1.2.2.group (PD (j2 hk) ?_ _ rfl) hM),?_,?_⟩,by omega⟩⟩,fun _ _=>⟨hw,⟨by omega,hi.2.1.meet hk AZ hi.2.1.2.2,?_,by omega⟩,by omega⟩⟩
  ·simp only [LN] at hg
   exact hg.2
  ·rw [List.length_append,List.length_singleton]; omega
  ·exact Nat.le_trans hM.len (by omega)
  ·rw [List.length_append,List.length_singleton]; omega
 ·have e:i.2.2.2=l.length:=by omega
  rw [e] at hi
  exact hi.2
 ·have hk:i.2 < b.2.2.length:=by omega
  have Q5:=hb.1.2.2.1 _ (j2 hk)
  have hln:=hi.2.1
  have hol:=hb.1.1
  exact ⟨⟨⟨by omega,by omega⟩,hk⟩,fun _=>⟨by omega,fun hM _=>⟨(aG (by omega) (by omega)).trans (by omega),⟨by omega,hi.2.step (j2 hk) Q5.1.1 hM⟩,by omega⟩⟩⟩
 ·have e:i.2=b.2.2.length:=by omega
  rw [e] at hi
  exact hi.2
def rH l a kind ba:=kp tok mixed Tryz.func12 [lv Claim.cells l,av a.cells,iv kind,bv ba] (fun x=>.fL [lv Claim.cells x.1,lv Step.cells x.2]) false (gQ l a kind ba) (CH l a kind ba) (A6 l a kind ba)
theorem Kd (l:List Claim) (a:bh) (kind:Int) (ba:Bool) (hl:l.length≤1000000000):gu Tryz.prog 12 [lv Claim.cells l,av a.cells,iv kind,bv ba] [] (.fL [ow 777777 (gQ l a kind ba).1,lv Step.cells ((gQ l a kind ba).2)]) [(777777,bO 50 9 Claim.cells (gQ l a kind ba).1)] :=
 gu.sk tok mixed (fun x=>.fL [ow 777777 x.1,lv Step.cells x.2]) (fun x=>[(777777,bO 50 9 Claim.cells x.1)]) Tryz.func12 rfl (by kernel_rfl) 3000 (kC l a kind ba) (by kernel_rfl) (CH l a kind ba hl)
def sO (κ:Nat) (l:List Claim) (a:bh) (kind:Int) (ba:Bool):iY ((List Claim) × (List Step)):=⟨Tryz.prog,12,[lv Claim.cells l,av a.cells,iv kind,bv ba],fun x=>.fL [ow κ x.1,lv Step.cells x.2],fun x=>[(κ,bO 50 9 Claim.cells x.1)],gQ l a kind ba,(l.length≤1000000000),fun h=>gu.WM κ rfl (Kd l a kind ba h),fun (x:(List Claim) × (List Step))=>xe l a ba x.1,HZ l a kind ba⟩
def rI (l:List Claim) (want:List Int):Sk (Bool) :=
 .br (((l.length:Nat):Int) != ((want.length:Nat):Int))
 (.fin false)
 (.bt
 (.loop (default:Sum (Bool) (Unit)) (fun i2=>i2≤l.length) (fun i2=>l.length - i2) (0:Nat)
 (fun (i2:Nat)=>⟨[(5,iv (i2:Int))],[]⟩) fun i2 =>
 .lt 0 0 i2 l.length
 (.r 6 (.aq (.p (bG (i2:Int) l.length)) (.p (bG (i2:Int) want.length))) fun _ =>
 .br (((l.getD i2 default).sum) != (want.getD i2 default))
 (.fin (.inl (.inl false)))
 (.nx 5 5 i2 (i2+1)))
 (.fin (.inl (.inr ()))))
 (fun (_:Unit)=>⟨[],[]⟩) fun _ =>
 .fin true)
def WZ l want:=(rI l want).val
theorem MC (l:List Claim) (want:List Int):(rI l want).cZ (fun (x:Bool)=>x=true→l.length=want.length):=by
 unfold rI
 exact DE
theorem PF (l:List Claim) (want:List Int):(rI l want).bz (fun _=>True):=by
 unfold rI
 exact oj
def tN l want:=kp tok mixed Tryz.func13 [lv Claim.cells l,lv bU want] (fun x=>bv x) true (WZ l want) (u0 (PF l want)) (MC l want)
def sP:Sk (Bool) :=
 .r 1 A3.c fun x1 =>
 .r 2 ((rH x1 ({ kind:=6,dt:=1,cj:=3,part:=0,at_:=1,sum:=60,day:=0,bZ:=0,form:=0 }:bh) 1 false).c) fun x2 =>
 .r 3 ((rH x1 ({ kind:=6,dt:=2,cj:=3,part:=0,at_:=2,sum:=60,day:=0,bZ:=0,form:=0 }:bh) 2 false).c) fun x3 =>
 .r 4 ((rH x1 ({ kind:=6,dt:=2,cj:=3,part:=0,at_:=2,sum:=100,day:=0,bZ:=0,form:=0 }:bh) 2 false).c) fun x4 =>
 .r 5 ((rH x4.1 ({ kind:=6,dt:=0,cj:=2,part:=0,at_:=0,sum:=100,day:=0,bZ:=0,form:=0 }:bh) 0 false).c) fun x5 =>
 .r 6 (.aq (.o [.fU (gB eA [40,40,40])]) (.dep ((tN x2.1 [40,40,40]).c) fun x6=>.aq (.wh (!x6) false (.o [.fU (gB eA [40,40,40,60,60])])) (.dep (.wh (!x6) false ((tN x3.1 [40,40,40,60,60]).c)) fun x7=>.aq (.wh ((!x6)||(!x7)) false (.o [.fU (gB eA [0,0,0,100,100])])) (.dep (.wh ((!x6)||(!x7)) false ((tN x4.1 [0,0,0,100,100]).c)) fun x8=>.aq (.wh (((!x6)||(!x7))||(!x8)) false (.o [.fU (gB eA [0,0,0,0,0,100])])) (.wh (((!x6)||(!x7))||(!x8)) false ((tN x5.1 [0,0,0,0,0,100]).c)))))) fun RZ =>
 .br (((((!RZ.1)||(!RZ.2.1))||(!RZ.2.2.1))||(!RZ.2.2.2))||(((x3.2.length:Nat):Int) != 3))
 (.fin false)
 (.r 8 (.aq (.p (bG (3:Int) x3.1.length)) (.wh ((((x3.1.getD 3 default).aF) == 1)&&((((x3.1.getD 3 default).ak) == 2)&&((((x3.1.getD 3 default).part) == 0)&&((((x3.1.getD 3 default).sign) == 1)&&((((x3.1.getD 3 default).cz) == 2)&&((((x3.1.getD 3 default).dR) == 0)&&((((x3.1.getD 3 default).sum) == 60)&&((((x3.1.getD 3 default).az) == 0)&&((((x3.1.getD 3 default).state) == 1)&&true))))))))) true (.p (bG (4:Int) x3.1.length)))) fun _ =>
 .r 9 (.aq (.wh (((((x3.1.getD 3 default).aF) == 1)&&((((x3.1.getD 3 default).ak) == 2)&&((((x3.1.getD 3 default).part) == 0)&&((((x3.1.getD 3 default).sign) == 1)&&((((x3.1.getD 3 default).cz) == 2)&&((((x3.1.getD 3 default).dR) == 0)&&((((x3.1.getD 3 default).sum) == 60)&&((((x3.1.getD 3 default).az) == 0)&&((((x3.1.getD 3 default).state) == 1)&&true)))))))))&&((((x3.1.getD 4 default).aF) == 0)&&((((x3.1.getD 4 default).ak) == 2)&&((((x3.1.getD 4 default).part) == 0)&&((((x3.1.getD 4 default).sign) == 0)&&((((x3.1.getD 4 default).cz) == 2)&&((((x3.1.getD 4 default).dR) == 2)&&((((x3.1.getD 4 default).sum) == 60)&&((((x3.1.getD 4 default).az) == 0)&&((((x3.1.getD 4 default).state) == 1)&&true)))))))))) true (.p (bG (5:Int) x5.1.length))) (.wh ((((((x3.1.getD 3 default).aF) == 1)&&((((x3.1.getD 3 default).ak) == 2)&&((((x3.1.getD 3 default).part) == 0)&&((((x3.1.getD 3 default).sign) == 1)&&((((x3.1.getD 3 default).cz) == 2)&&((((x3.1.getD 3 default).dR) == 0)&&((((x3.1.getD 3 default).sum) == 60)&&((((x3.1.getD 3 default).az) == 0)&&((((x3.1.getD 3 default).state) == 1)&&true)))))))))&&((((x3.1.getD 4 default).aF) == 0)&&((((x3.1.getD 4 default).ak) == 2)&&((((x3.1.getD 4 default).part) == 0)&&((((x3.1.getD 4 default).sign) == 0)&&((((x3.1.getD 4 default).cz) == 2)&&((((x3.1.getD 4 default).dR) == 2)&&((((x3.1.getD 4 default).sum) == 60)&&((((x3.1.getD 4 default).az) == 0)&&((((x3.1.getD 4 default).state) == 1)&&true))))))))))&&((((x5.1.getD 5 default).aF) == 1)&&((((x5.1.getD 5 default).ak) == 0)&&((((x5.1.getD 5 default).part) == 0)&&((((x5.1.getD 5 default).sign) == 1)&&((((x5.1.getD 5 default).cz) == 0)&&((((x5.1.getD 5 default).dR) == 0)&&((((x5.1.getD 5 default).sum) == 100)&&((((x5.1.getD 5 default).az) == 0)&&((((x5.1.getD 5 default).state) == 1)&&true)))))))))) true (.p (bG (2:Int) x3.2.length)))) fun _ =>
 .fin (((((((x3.1.getD 3 default).aF) == 1)&&((((x3.1.getD 3 default).ak) == 2)&&((((x3.1.getD 3 default).part) == 0)&&((((x3.1.getD 3 default).sign) == 1)&&((((x3.1.getD 3 default).cz) == 2)&&((((x3.1.getD 3 default).dR) == 0)&&((((x3.1.getD 3 default).sum) == 60)&&((((x3.1.getD 3 default).az) == 0)&&((((x3.1.getD 3 default).state) == 1)&&true)))))))))&&((((x3.1.getD 4 default).aF) == 0)&&((((x3.1.getD 4 default).ak) == 2)&&((((x3.1.getD 4 default).part) == 0)&&((((x3.1.getD 4 default).sign) == 0)&&((((x3.1.getD 4 default).cz) == 2)&&((((x3.1.getD 4 default).dR) == 2)&&((((x3.1.getD 4 default).sum) == 60)&&((((x3.1.getD 4 default).az) == 0)&&((((x3.1.getD 4 default).state) == 1)&&true))))))))))&&((((x5.1.getD 5 default).aF) == 1)&&((((x5.1.getD 5 default).ak) == 0)&&((((x5.1.getD 5 default).part) == 0)&&((((x5.1.getD 5 default).sign) == 1)&&((((x5.1.getD 5 default).cz) == 0)&&((((x5.1.getD 5 default).dR) == 0)&&((((x5.1.getD 5 default).sum) == 100)&&((((x5.1.getD 5 default).az) == 0)&&((((x5.1.getD 5 default).state) == 1)&&true))))))))))&&((((x3.2.getD 2 default).aF) == 0)&&((((x3.2.getD 2 default).ak) == 3)&&((((x3.2.getD 2 default).sign) == 0)&&((((x3.2.getD 2 default).sum) == 60)&&true))))))
def D9:Bool:=(sP).val
theorem H0:(fun (x:Bool)=>x=true) (D9):=(show D9=true by kernel_rfl)
theorem MD:(sP).bz (fun _=>True):=by
 refine Sk.aX _ ?_
 unfold sP
 simp only [Sk.kq,Sk.aO,reduceCtorEq,ON,kk,kp,A3,tN,rH,maxLen]
 intro x _ hx
 refine ⟨by omega,fun y1 _ _=>⟨by omega,fun y2 _ _=>⟨by omega,fun y3 _ h3=>⟨?_,fun y4 _ _ z _ hz hc=>?_⟩⟩⟩⟩
 ·have:=h3.few (x.map Oa) (fun c hc=>List.mem_map.2 ⟨c,hc,rfl⟩)
  rw [List.length_map] at this
  omega
 ·simp only [Bool.or_eq_false_iff,Bool.not_eq_false',bne_eq_false_iff_eq] at hc
  obtain ⟨⟨⟨⟨-,z2⟩,z3⟩,z4⟩,z5⟩:=hc
  have e2:=hz.2.1 z2
  have e4:=hz.2.2.2 z4
  simp only [List.length_cons,List.length_nil] at e2 e4
  (repeat' first | exact trivial | (apply And.intro) | (intro h))
  all_goals omega
def yU:gn (Bool):=kk tok mixed Tryz.func5 [] (fun x=>bv x) true (sP) (D9) (fun (_:True)=>MD) (fun (x:Bool)=>x=true) (H0)
def tP (r:ah):Sk (Bool) :=
 .bt
 (.loop (default:Sum (Bool) (Unit)) (fun i2=>i2≤r.aI.length) (fun i2=>r.aI.length - i2) (0:Nat)
 (fun (i2:Nat)=>⟨[(3,iv (i2:Int))],[]⟩) fun i2 =>
 .Be 1 1 r.aI.length <|
 .br ((decide ((i2:Int) < ((r.aI.length:Nat):Int)))&&(decide ((i2:Int) < 50)))
 (.r 4 (.aq (.p (bG (i2:Int) r.aI.length)) (.aq (.wh (decide (((((r.aI.getD i2 default).fO).length:Nat):Int) > 70)) false (.p (bG (i2:Int) r.aI.length))) (.wh ((decide (((((r.aI.getD i2 default).fO).length:Nat):Int) > 70))||(decide (((((r.aI.getD i2 default).shut).length:Nat):Int) > 210))) false (.p (bG (i2:Int) r.aI.length))))) fun _ =>
 .br (((decide (((((r.aI.getD i2 default).fO).length:Nat):Int) > 70))||(decide (((((r.aI.getD i2 default).shut).length:Nat):Int) > 210)))||(decide (((((r.aI.getD i2 default).rest).length:Nat):Int) > 8)))
 (.fin (.inl (.inl false)))
 (.nx 3 3 i2 (i2+1)))
 (.fin (.inl (.inr ()))))
 (fun (_:Unit)=>⟨[],[]⟩) fun _ =>
 .bind true (fun b3=>∀ k,k < r.aE.length→k < 50→(r.aE.getD k default).aV.length≤40∧(r.aE.getD k default).rules.length≤40)
 (.loop (default:Sum (Bool) (Unit)) (fun i4=>(∀ k,k < i4→(r.aE.getD k default).aV.length≤40∧(r.aE.getD k default).rules.length≤40)∧i4≤r.aE.length) (fun i4=>r.aE.length - i4) (0:Nat)
 (fun (i4:Nat)=>⟨[(4,iv (i4:Int))],[]⟩) fun i4 =>
 .Be 1 4 r.aE.length <|
 .br ((decide ((i4:Int) < ((r.aE.length:Nat):Int)))&&(decide ((i4:Int) < 50)))
 (.r 9 (.aq (.p (bG (i4:Int) r.aE.length)) (.wh (decide (((((r.aE.getD i4 default).aV).length:Nat):Int) > 40)) false (.p (bG (i4:Int) r.aE.length)))) fun _ =>
 .br ((decide (((((r.aE.getD i4 default).aV).length:Nat):Int) > 40))||(decide (((((r.aE.getD i4 default).rules).length:Nat):Int) > 40)))
 (.fin (.inl (.inl false)))
 (.nx 8 4 i4 (i4+1)))
 (.fin (.inl (.inr ()))))
 (fun (_:Unit)=>⟨[],[]⟩) fun _ =>
 .fin ((((((((decide (((r.ck.length:Nat):Int) < 50))&&(decide (((r.aI.length:Nat):Int) < 50)))&&(decide (((r.fP.length:Nat):Int) < 50)))&&(decide (((r.bm.length:Nat):Int) < 210)))&&(decide (((r.aE.length:Nat):Int) < 50)))&&(decide (((r.aM.length:Nat):Int) < 110)))&&(decide (((r.bE.length:Nat):Int) < 110)))&&(decide (((r.ep.length:Nat):Int) < 50)))
def YX r:=(tP r).val
theorem PG (r:ah):(tP r).cZ (fun (x:Bool)=>x=true→r.Small):=by
 unfold tP
 try simp only [al.Small,ah.Small]
 exact DE
theorem R0 (r:ah):(tP r).bz (fun _=>True):=by
 unfold tP
 try simp only [al.Small,ah.Small]
 exact oj
def Ea r:=kp tok mixed Tryz.func34 [av r.cells] (fun x=>bv x) true (YX r) (u0 (R0 r)) (PG r)
def qu (f:al):Sk (Bool) :=
 .fin ((((decide (((f.af.length:Nat):Int)≤50))&&(decide (((f.aN.length:Nat):Int)≤10)))&&(decide (((f.aA.length:Nat):Int)≤110)))&&(decide (((f.facts.length:Nat):Int)≤220)))
def CI f:=(qu f).val
theorem H2 (f:al):CI f=((((decide (((f.af.length:Nat):Int)≤50))&&(decide (((f.aN.length:Nat):Int)≤10)))&&(decide (((f.aA.length:Nat):Int)≤110)))&&(decide (((f.facts.length:Nat):Int)≤220))):=rfl
theorem PH (f:al):(qu f).cZ (fun (x:Bool)=>x=true→f.Small):=by
 unfold qu
 try simp only [al.Small,ah.Small]
 exact DE
theorem R1 (f:al):(qu f).bz (fun _=>True):=by
 unfold qu
 try simp only [al.Small,ah.Small]
 exact pv
def Aa f:=kp tok mixed Tryz.func35 [av f.cells] (fun x=>bv x) true (CI f) (u0 (R1 f)) (PH f)
def E9 (rv:Term→Int→Int→Int) (rp:Term→Int→Int→Prop) (rf:∀ (t:Term) (n:Int) (levels:Int),rp t n levels→gu Tryz.prog 125 [av t.cells,iv n,iv levels] [] (iv (rv t n levels)) []) (t:Term) (n:Int) (levels:Int):gn (Int):=⟨Tryz.prog,125,[av t.cells,iv n,iv levels],fun x=>iv x,true,rv t n levels,rp t n levels,rf t n levels,fun _=>True,trivial⟩
def oP (rv:Term→Int→Int→Int) (rp:Term→Int→Int→Prop) (rf:∀ (t:Term) (n:Int) (levels:Int),rp t n levels→gu Tryz.prog 125 [av t.cells,iv n,iv levels] [] (iv (rv t n levels)) []) (t:Term) (n:Int) (levels:Int):Sk (Int) :=
 .br (decide (levels < 1))
 (.fin (-1))
 (.bt
 (.loop (default:Sum (Int) (Int)) (fun i2=>i2.2≤t.args.length) (fun i2=>t.args.length - i2.2) ((au (n - 1),0):Int × Nat)
 (fun (i2:Int × Nat)=>⟨[(1,iv i2.1),(7,iv (i2.2:Int))],[]⟩) fun i2 =>
 .Be 3 2 t.args.length <|
 .br ((decide ((i2.2:Int) < ((t.args.length:Nat):Int)))&&(decide (i2.1≥0)))
 (.r 7 (.aq (.aq (.p (bG (i2.2:Int) t.args.length)) (.o [.cast 26 (YR (Term.HT (t.args.getD i2.2 default)))])) ((E9 rv rp rf (t.args.getD i2.2 default) i2.1 (au (levels - 1))).c)) fun x3 =>
 .nx 6 7 i2.2 (x3,i2.2+1))
 (.fin (.inl (.inr i2.1))))
 (fun (b1:Int)=>⟨[(1,iv b1)],[]⟩) fun b1 =>
 .fin b1)
def jC:Nat→Term→Int→Int→Int
 | 0,_,_,_=>default
 | fu+1,t,n,levels=>(oP (jC fu) (fun _ _ _=>False) (fun _ _ _=>fun h=>h.elim) t n levels).val
theorem PI (fu:Nat) (rf:∀ (t:Term) (n:Int) (levels:Int),t.depth≤fu∧True→gu Tryz.prog 125 [av t.cells,iv n,iv levels] [] (iv (jC fu t n levels)) []) (t:Term) (n:Int) (levels:Int) (hm:t.depth≤fu+1):(oP (jC fu) (fun t n levels=>t.depth≤fu∧True) rf t n levels).bz (fun _=>True):=by
 refine Sk.aX _ ?_
 unfold oP
 simp only [Sk.kq,Sk.aO,reduceCtorEq,ON,kk,kp,E9,maxLen]
 all_goals (repeat' first | assumption | (apply And.intro) | (intro h))
 all_goals first | trivial | assumption | omega | (refine Nat.le_of_lt_succ (Nat.lt_of_lt_of_le (Term.kB t _ (by (try simp only [LN] at *); omega)) hm)) | ((try simp only [LN] at *) <;> first | omega | (refine (aG ?_ ?_).trans ?_ <;> omega) | (simp (disch:=omega) only [aG] at *; omega) | (grind) | (simp_all; done) | (simp_all; omega))
theorem ME (fu:Nat) (rp:Term→Int→Int→Prop) (rf:∀ (t:Term) (n:Int) (levels:Int),rp t n levels→gu Tryz.prog 125 [av t.cells,iv n,iv levels] [] (iv (jC fu t n levels)) []) (t:Term) (n:Int) (levels:Int):(oP (jC fu) rp rf t n levels).val=jC (fu+1) t n levels:=by kernel_rfl
theorem MF (fu:Nat):∀ (t:Term) (n:Int) (levels:Int),t.depth≤fu→gu Tryz.prog 125 [av t.cells,iv n,iv levels] [] (iv (jC fu t n levels)) []:=by
 induction fu with
 | zero=>intro t n levels hm; exact absurd hm (by have:=Term.tu t; omega)
 | succ fu ih =>
  intro t n levels hm
  have h:gu Tryz.prog 125 [av t.cells,iv n,iv levels] [] (iv ((oP (jC fu) (fun t n levels=>t.depth≤fu∧True) (fun t n levels h=>ih t n levels h.1) t n levels).val)) []:=gu.sk tok mixed (fun x=>iv x) (fun _=>[]) Tryz.func125 rfl (by kernel_rfl) 3000 (oP (jC fu) (fun t n levels=>t.depth≤fu∧True) (fun t n levels h=>ih t n levels h.1) t n levels) (by kernel_rfl) (PI fu _ t n levels hm)
  rw [ME] at h
  exact h
def PJ (t:Term) (n:Int) (levels:Int):Int:=jC (t.depth) t n levels
theorem PK (t:Term) (n:Int) (levels:Int):gu Tryz.prog 125 [av t.cells,iv n,iv levels] [] (iv (PJ t n levels)) []:=MF _ t n levels (Nat.le_refl _)
def H3 (t:Term) (n:Int) (levels:Int):gn (Int):=⟨Tryz.prog,125,[av t.cells,iv n,iv levels],fun x=>iv x,true,PJ t n levels,True,fun _=>PK t n levels,fun _=>True,trivial⟩
def xf (t:Term):Sk (Bool) :=
 .r 1 ((H3 t 100 20).c) fun x1 =>
 .fin (decide (x1≥0))
def YY t:=(xf t).val
theorem R2 (t:Term):(xf t).bz (fun _=>True):=by
 unfold xf
 try simp only [H3]
 exact pv
def Lv t:=kk tok mixed Tryz.func74 [av t.cells] (fun x=>bv x) true (xf t) (YY t) (u0 (R2 t))
def xg (o:Order):Sk (Bool) :=
 .br ((decide (((o.rules.length:Nat):Int) > 60))||(decide (((o.aV.length:Nat):Int) > 60)))
 (.fin false)
 (.bt
 (.loop (default:Sum (Bool) (Unit)) (fun i2=>i2≤o.rules.length) (fun i2=>o.rules.length - i2) (0:Nat)
 (fun (i2:Nat)=>⟨[(3,iv (i2:Int))],[]⟩) fun i2 =>
 .lt 1 3 i2 o.rules.length
 (.r 6 (.aq (.p (bG (i2:Int) o.rules.length)) ((Lv ((o.rules.getD i2 default).term)).c)) fun x3 =>
 .br (!x3)
 (.fin (.inl (.inl false)))
 (.nx 5 3 i2 (i2+1)))
 (.fin (.inl (.inr ()))))
 (fun (_:Unit)=>⟨[],[]⟩) fun _ =>
 .fin true)
def YZ o:=(xg o).val
theorem R3 (o:Order):(xg o).bz (fun _=>True):=by
 unfold xg
 try simp only [Lv]
 exact oj
def Eb o:=kk tok mixed Tryz.func36 [av o.cells] (fun x=>bv x) true (xg o) (YZ o) (u0 (R3 o))
def qv (r:ah) (f:al):Sk (Bool) :=
 .r 1 (.dep ((Ea r).c) fun x1=>.wh (!x1) false ((Aa f).c)) fun p6 =>
 .br ((!p6.1)||(!p6.2))
 (.fin false)
 (.bt
 (.loop (default:Sum (Bool) (Unit)) (fun i4=>i4≤r.aE.length) (fun i4=>r.aE.length - i4) (0:Nat)
 (fun (i4:Nat)=>⟨[(5,iv (i4:Int))],[]⟩) fun i4 =>
 .lt 2 4 i4 r.aE.length
 (.r 6 (.aq (.p (bG (i4:Int) r.aE.length)) ((Eb (r.aE.getD i4 default)).c)) fun x5 =>
 .br (!x5)
 (.fin (.inl (.inl false)))
 (.nx 5 5 i4 (i4+1)))
 (.fin (.inl (.inr ()))))
 (fun (_:Unit)=>⟨[],[]⟩) fun _ =>
 .fin true)
def GM r f:=(qv r f).val
theorem PL (r:ah) (f:al):(qv r f).cZ (fun (x:Bool)=>x=true→r.Small∧f.Small):=by
 unfold qv
 try simp only [Ea,Aa,Eb,H2,al.Small,ah.Small]
 exact RW
theorem R4 (r:ah) (f:al):(qv r f).bz (fun _=>True):=by
 unfold qv
 try simp only [Ea,Aa,Eb,H2,al.Small,ah.Small]
 exact yn
def Ab r f:=kp tok mixed Tryz.func14 [av r.cells,av f.cells] (fun x=>bv x) true (GM r f) (u0 (R4 r f)) (PL r f)
def qQ (c_:Int):Sk (Bool) :=
 .fin (((decide ((97:Int)≤c_))&&(decide (c_≤122)))||((decide ((65:Int)≤c_))&&(decide (c_≤90))))
def H4 c_:=(qQ c_).val
theorem Ke (c_:Int):H4 c_=(((decide ((97:Int)≤c_))&&(decide (c_≤122)))||((decide ((65:Int)≤c_))&&(decide (c_≤90)))):=rfl
theorem Kf (c_:Int):(qQ c_).bz (fun _=>True):=by
 unfold qQ
 exact pv
def CJ c_:=kk tok mixed Tryz.func167 [.d (.v (.int .u8 c_))] (fun x=>bv x) true (qQ c_) (H4 c_) (u0 (Kf c_))
def uN (s:ByteArray):Sk (Bool) :=
 .br ((decide (((s.size:Nat):Int) < 1))||(decide (((s.size:Nat):Int) > 20)))
 (.fin false)
 (.bt
 (.loop (default:Sum (Bool) (Unit)) (fun i2=>i2≤s.size) (fun i2=>s.size - i2) (0:Nat)
 (fun (i2:Nat)=>⟨[(3,iv (i2:Int))],[]⟩) fun i2 =>
 .br (decide ((i2:Int) < ((s.size:Nat):Int)))
 (.r 6 (.aq (.p (0≤(i2:Int)∧(i2:Int) < ((s.size:Nat):Int))) (.aq (.wh (((s.data.toList.getD i2 0).toNat:Int) == 95) false (.p (0≤(i2:Int)∧(i2:Int) < ((s.size:Nat):Int)))) (.wh (((s.data.toList.getD i2 0).toNat:Int) == 95) false (.wh (decide ((48:Int)≤((s.data.toList.getD i2 0).toNat:Int))) true (.p (0≤(i2:Int)∧(i2:Int) < ((s.size:Nat):Int))))))) fun _ =>
 .r 7 (.aq (.p (0≤(i2:Int)∧(i2:Int) < ((s.size:Nat):Int))) ((CJ ((s.data.toList.getD i2 0).toNat:Int)).c)) fun x3 =>
 .br ((!x3)&&(((i2:Int) == 0)||(!((((s.data.toList.getD i2 0).toNat:Int) == 95)||((decide ((48:Int)≤((s.data.toList.getD i2 0).toNat:Int)))&&(decide (((s.data.toList.getD i2 0).toNat:Int)≤57)))))))
 (.fin (.inl (.inl false)))
 (.nx 5 3 i2 (i2+1)))
 (.fin (.inl (.inr ()))))
 (fun (_:Unit)=>⟨[],[]⟩) fun _ =>
 .fin true)
def W6 s:=(uN s).val
theorem PM (s:ByteArray):(uN s).bz (fun _=>True):=by
 unfold uN
 try simp only [CJ,Ke]
 exact yn
def H5 s:=kk tok mixed Tryz.func126 [sv s] (fun x=>bv x) true (uN s) (W6 s) (u0 (PM s))
def qR (l:List ByteArray) (n:Int) (s:ByteArray):Sk (Bool) :=
 .bt
 (.loop (default:Sum (Bool) (Unit)) (fun i2=>i2≤l.length) (fun i2=>l.length - i2) (0:Nat)
 (fun (i2:Nat)=>⟨[(7,iv (i2:Int))],[]⟩) fun i2 =>
 .Be 0 0 l.length <|
 .br ((decide ((i2:Int) < n))&&(decide ((i2:Int) < ((l.length:Nat):Int))))
 (.r 4 (.p (bG (i2:Int) l.length)) fun _ =>
 .br ((l.getD i2 default).toList == s.toList)
 (.fin (.inl (.inl true)))
 (.nx 3 7 i2 (i2+1)))
 (.fin (.inl (.inr ()))))
 (fun (_:Unit)=>⟨[],[]⟩) fun _ =>
 .fin false
def R5 l n s:=(qR l n s).val
theorem Kg (l:List ByteArray) (n:Int) (s:ByteArray):(qR l n s).bz (fun _=>True):=by
 unfold qR
 exact oj
def CK l n s:=kk tok mixed Tryz.func127 [lv jA l,iv n,sv s] (fun x=>bv x) true (qR l n s) (R5 l n s) (u0 (Kg l n s))
def sQ (l:List ByteArray) (i:Int):Sk (Int) :=
 .r 1 (.aq (.p (bG i l.length)) ((H5 (l.getD i.toNat default)).c)) fun x1 =>
 .br (!x1)
 (.fin 2)
 (.r 3 (.aq (.p (bG i l.length)) ((CK l i (l.getD i.toNat default)).c)) fun x2 =>
 .br x2
 (.fin 5)
 (.fin 0))
def UM l i:=(sQ l i).val
theorem MG (l:List ByteArray) (i:Int) (hi:0≤i∧i < (l.length:Int)):(sQ l i).bz (fun _=>True):=by
 unfold sQ
 try simp only [CK,H5]
 exact oj
def gK l i:=kk tok mixed Tryz.func75 [lv jA l,iv i] (fun x=>iv x) true (sQ l i) (UM l i) (MG l i)
def qS (n:Int) (low:Int) (high:Int):Sk (Bool) :=
 .fin ((decide (low≤n))&&(decide (n≤high)))
def H6 n low high:=(qS n low high).val
theorem bB (n:Int) (low:Int) (high:Int):H6 n low high=((decide (low≤n))&&(decide (n≤high))):=rfl
theorem Kh (n:Int) (low:Int) (high:Int):(qS n low high).bz (fun _=>True):=by
 unfold qS
 exact pv
def ar n low high:=kk tok mixed Tryz.func44 [iv n,iv low,iv high] (fun x=>bv x) true (qS n low high) (H6 n low high) (u0 (Kh n low high))
def qT (l:List Int) (low:Int) (high:Int):Sk (Bool) :=
 .bt
 (.loop (default:Sum (Bool) (Unit)) (fun i2=>i2≤l.length) (fun i2=>l.length - i2) (0:Nat)
 (fun (i2:Nat)=>⟨[(7,iv (i2:Int))],[]⟩) fun i2 =>
 .lt 0 0 i2 l.length
 (.r 4 (.aq (.p (bG (i2:Int) l.length)) ((ar (l.getD i2 default) low high).c)) fun x3 =>
 .br (!x3)
 (.fin (.inl (.inl false)))
 (.r 6 (.aq (.wh (decide ((i2:Int) > 0)) true (.p (bG (au ((i2:Int) - 1)) l.length))) (.wh (decide ((i2:Int) > 0)) true (.p (bG (i2:Int) l.length)))) fun _ =>
 .br ((decide ((i2:Int) > 0))&&(decide ((l.getD ((au ((i2:Int) - 1)).toNat) default)≥(l.getD i2 default))))
 (.fin (.inl (.inl false)))
 (.nx 3 7 i2 (i2+1))))
 (.fin (.inl (.inr ()))))
 (fun (_:Unit)=>⟨[],[]⟩) fun _ =>
 .fin true
def R6 l low high:=(qT l low high).val
theorem Ki (l:List Int) (low:Int) (high:Int):(qT l low high).bz (fun _=>True):=by
 unfold qT
 try simp only [ar,bB]
 exact yn
def sR l low high:=kk tok mixed Tryz.func128 [lv bU l,iv low,iv high] (fun x=>bv x) true (qT l low high) (R6 l low high) (u0 (Ki l low high))
def mu (r:ah) (c_:jB):Sk (Bool) :=
 .r 1 (.dep ((ar c_.order 0 (au (((r.aE.length:Nat):Int) - 1))).c) fun x1=>.wh (!x1) false ((ar c_.az 0 (au (((r.ck.length:Nat):Int) - 1))).c)) fun W7 =>
 .br ((((!W7.1)||(!W7.2))||(decide (((c_.fO.length:Nat):Int) > 60)))||(decide (((c_.shut.length:Nat):Int) > 200)))
 (.fin false)
 (.bt
 (.loop (default:Sum (Bool) (Unit)) (fun i4=>i4≤c_.fO.length) (fun i4=>c_.fO.length - i4) (0:Nat)
 (fun (i4:Nat)=>⟨[(5,iv (i4:Int))],[]⟩) fun i4 =>
 .lt 3 4 i4 c_.fO.length
 (.r 6 (.aq (.p (bG (i4:Int) c_.fO.length)) (.aq (.p ((100:Int)≠0)) (.dep ((ar (au ((c_.fO.getD i4 default).tdiv 100)) 1 12).c) fun x5=>.aq (.wh (!x5) false (.p (bG (i4:Int) c_.fO.length))) (.aq (.wh (!x5) false (.p ((100:Int)≠0))) (.wh (!x5) false ((ar ((c_.fO.getD i4 default).tmod 100) 1 31).c)))))) fun p7 =>
 .br ((!p7.1)||(!p7.2))
 (.fin (.inl (.inl false)))
 (.nx 5 5 i4 (i4+1)))
 (.fin (.inl (.inr ()))))
 (fun (_:Unit)=>⟨[],[]⟩) fun _ =>
 .r 8 (.dep ((sR c_.rest 0 6).c) fun x8=>.dep (.wh x8 true ((sR c_.fO 0 2000).c)) fun x9=>.wh (x8&&x9) true ((sR c_.shut 0 100000).c)) fun UN =>
 .fin ((UN.1&&UN.2.1)&&UN.2.2))
def Kj r c_:=(mu r c_).val
theorem Ec (r:ah) (c_:jB):(mu r c_).bz (fun _=>True):=by
 unfold mu
 try simp only [sR,ar,bB]
 exact yn
def rZ r c_:=kk tok mixed Tryz.func76 [av r.cells,av c_.cells] (fun x=>bv x) true (mu r c_) (Kj r c_) (u0 (Ec r c_))
def nm (r:ah):Sk (Int) :=
 .br (decide (((r.ck.length:Nat):Int) > 8))
 (.fin 6)
 (.bt
 (.loop (default:Sum (Int) (Unit)) (fun i2=>i2≤r.ck.length) (fun i2=>r.ck.length - i2) (0:Nat)
 (fun (i2:Nat)=>⟨[(3,iv (i2:Int))],[]⟩) fun i2 =>
 .lt 1 0 i2 r.ck.length
 (.r 6 ((gK r.ck (i2:Int)).c) fun x3 =>
 .br (x3 != 0)
 (.fin (.inl (.inl x3)))
 (.nx 5 3 i2 (i2+1)))
 (.fin (.inl (.inr ()))))
 (fun (_:Unit)=>⟨[],[]⟩) fun _ =>
 .br (decide (((r.aI.length:Nat):Int) > 40))
 (.fin 6)
 (.bt
 (.loop (default:Sum (Int) (Unit)) (fun i5=>i5.1.length=i5.2∧i5.2≤r.aI.length) (fun i5=>r.aI.length - i5.2) (([],0):(List ByteArray) × Nat)
 (fun (i5:(List ByteArray) × Nat)=>⟨[(5,ow 100001 i5.1),(6,iv (i5.2:Int))],[(100001,bO 9 1 jA i5.1)]⟩) fun i5 =>
 .lt 1 1 i5.2 r.aI.length
 (.r 15 (.aq (.p (bG (i5.2:Int) r.aI.length)) (.aq (.o [.fU (gB vT [(r.aI.getD i5.2 default).name])]) (.aq (.o [.fU (og vT i5.1 [(r.aI.getD i5.2 default).name])]) (.aq (.t (vT.qc [(r.aI.getD i5.2 default).name])) (.p (ym i5.1.length [(r.aI.getD i5.2 default).name].length 16)))))) fun _ =>
 .r 16 ((gK (i5.1++[(r.aI.getD i5.2 default).name]) (i5.2:Int)).c) fun x6 =>
 .br (x6 != 0)
 (.fin (.inl (.inl x6)))
 (.r 19 (.aq (.p (bG (i5.2:Int) r.aI.length)) ((rZ r (r.aI.getD i5.2 default)).c)) fun x7 =>
 .br (!x7)
 (.fin (.inl (.inl 1)))
 (.nx 14 6 i5.2 (i5.1++[(r.aI.getD i5.2 default).name],i5.2+1))))
 (.fin (.inl (.inr ()))))
 (fun (_:Unit)=>⟨[],[]⟩) fun _ =>
 .fin 0))
def R7 r:=(nm r).val
theorem H7 (r:ah):(nm r).cZ (fun (x:Int)=>x=0→r.ck.length≤8∧r.aI.length≤40):=by
 unfold nm
 try simp only [rZ,gK]
 exact DE
theorem Kk (r:ah):(nm r).bz (fun _=>True):=by
 unfold nm
 try simp only [rZ,gK]
 exact oj
def xh r:=kp tok mixed Tryz.func37 [av r.cells] (fun x=>iv x) true (R7 r) (u0 (Kk r)) (H7 r)
def mw (r:ah):Sk (Int) :=
 .br (decide (((r.fP.length:Nat):Int) > 20))
 (.fin 6)
 (.bt
 (.loop (default:Sum (Int) (Unit)) (fun i2=>i2≤r.fP.length) (fun i2=>r.fP.length - i2) (0:Nat)
 (fun (i2:Nat)=>⟨[(3,iv (i2:Int))],[]⟩) fun i2 =>
 .lt 1 2 i2 r.fP.length
 (.r 6 (.aq (.p (bG (i2:Int) r.fP.length)) ((ar ((r.fP.getD i2 default).Px) 0 9).c)) fun x3 =>
 .br (!x3)
 (.fin (.inl (.inl 1)))
 (.nx 5 3 i2 (i2+1)))
 (.fin (.inl (.inr ()))))
 (fun (_:Unit)=>⟨[],[]⟩) fun _ =>
 .br (decide (((r.bm.length:Nat):Int) > 200))
 (.fin 6)
 (.bind true (fun b4=>r.aI.length≤40→r.iI)
 (.loop (default:Sum (Int) (Unit)) (fun i5=>i5.1.length=i5.2∧i5.2≤r.bm.length∧(r.aI.length≤40→∀ q,q < i5.2→0≤(r.bm.getD q default).bZ∧(r.bm.getD q default).bZ < (r.aI.length:Int))) (fun i5=>r.bm.length - i5.2) (([],0):(List ByteArray) × Nat)
 (fun (i5:(List ByteArray) × Nat)=>⟨[(4,ow 100001 i5.1),(5,iv (i5.2:Int))],[(100001,bO 9 1 jA i5.1)]⟩) fun i5 =>
 .lt 1 3 i5.2 r.bm.length
 (.r 14 (.aq (.p (bG (i5.2:Int) r.bm.length)) (.aq (.o [.fU (gB vT [(r.bm.getD i5.2 default).name])]) (.aq (.o [.fU (og vT i5.1 [(r.bm.getD i5.2 default).name])]) (.aq (.t (vT.qc [(r.bm.getD i5.2 default).name])) (.p (ym i5.1.length [(r.bm.getD i5.2 default).name].length 16)))))) fun _ =>
 .r 15 ((gK (i5.1++[(r.bm.getD i5.2 default).name]) (i5.2:Int)).c) fun x6 =>
 .br (x6 != 0)
 (.fin (.inl (.inl x6)))
 (.r 18 (.aq (.p (bG (i5.2:Int) r.bm.length)) (.dep ((ar ((r.bm.getD i5.2 default).bZ) 0 (au (((r.aI.length:Nat):Int) - 1))).c) fun x7=>.aq (.wh (!x7) false (.p (bG (i5.2:Int) r.bm.length))) (.wh (!x7) false ((ar ((r.bm.getD i5.2 default).group) 0 (au (((r.fP.length:Nat):Int) - 1))).c)))) fun p9 =>
 .br ((!p9.1)||(!p9.2))
 (.fin (.inl (.inl 1)))
 (.nx 13 5 i5.2 (i5.1++[(r.bm.getD i5.2 default).name],i5.2+1))))
 (.fin (.inl (.inr ()))))
 (fun (_:Unit)=>⟨[],[]⟩) fun _ =>
 .fin 0))
def Lw r:=(mw r).val
theorem Kl (r:ah) (hP:r.aI.length≤40):(mw r).cZ (fun (x:Int)=>x=0→r.fP.length≤20∧r.bm.length≤200∧r.iI):=by
 refine Sk.bp _ ?_
 unfold mw
 simp only [Sk.cV,Sk.aO,reduceCtorEq,ON,kk,kp,ar,gK,bB,forall_eq,ah.iI,maxLen]
 all_goals exact acs
theorem H8 (r:ah):(fun (x:Int)=>(r.aI.length≤40)→(x=0→r.fP.length≤20∧r.bm.length≤200∧r.iI)) (Lw r):=fun hP=>Sk.de _ (Kl r hP)
theorem MH (r:ah):(mw r).bz (fun _=>True):=by
 refine Sk.aX _ ?_
 unfold mw
 simp only [Sk.kq,Sk.aO,reduceCtorEq,ON,kk,kp,ar,gK,bB,forall_eq,ah.iI,maxLen]
 all_goals exact acs
def yV r:=kk tok mixed Tryz.func38 [av r.cells] (fun x=>iv x) true (mw r) (Lw r) (u0 (MH r)) (fun (x:Int)=>(r.aI.length≤40)→(x=0→r.fP.length≤20∧r.bm.length≤200∧r.iI)) (H8 r)
def jc (o:Order):Sk (Bool) :=
 .bind true (fun b1=>∀ j:Nat,j < o.aV.length→((j:Int)≤(o.aV.getD j default).ask∧(o.aV.getD j default).ask≤21)∧0≤(o.aV.getD j default).cz∧(o.aV.getD j default).cz < 5)
 (.loop (default:Sum (Bool) (Unit)) (fun i2=>(∀ j:Nat,j < i2→((j:Int)≤(o.aV.getD j default).ask∧(o.aV.getD j default).ask≤21)∧0≤(o.aV.getD j default).cz∧(o.aV.getD j default).cz < 5)∧i2≤o.aV.length) (fun i2=>o.aV.length - i2) (0:Nat)
 (fun (i2:Nat)=>⟨[(3,iv (i2:Int))],[]⟩) fun i2 =>
 .lt 1 2 i2 o.aV.length
 (.r 4 (.aq (.p (bG (i2:Int) o.aV.length)) (.dep ((ar ((o.aV.getD i2 default).ask) 0 21).c) fun x3=>.aq (.wh (!x3) false (.p (bG (i2:Int) o.aV.length))) (.wh (!x3) false ((ar ((o.aV.getD i2 default).cz) 0 4).c)))) fun p5 =>
 .br ((!p5.1)||(!p5.2))
 (.fin (.inl (.inl false)))
 (.r 6 (.aq (.wh (decide ((i2:Int) > 0)) true (.p (bG (au ((i2:Int) - 1)) o.aV.length))) (.wh (decide ((i2:Int) > 0)) true (.p (bG (i2:Int) o.aV.length)))) fun _ =>
 .br ((decide ((i2:Int) > 0))&&(decide (((o.aV.getD ((au ((i2:Int) - 1)).toNat) default).ask)≥((o.aV.getD i2 default).ask))))
 (.fin (.inl (.inl false)))
 (.nx 3 3 i2 (i2+1))))
 (.fin (.inl (.inr ()))))
 (fun (_:Unit)=>⟨[],[]⟩) fun _ =>
 .bind true (fun b6=>∀ j:Nat,j < o.rules.length→(j:Int)≤(o.rules.getD j default).ask∧(o.rules.getD j default).ask≤21)
 (.loop (default:Sum (Bool) (Unit)) (fun i7=>(∀ j:Nat,j < i7→(j:Int)≤(o.rules.getD j default).ask∧(o.rules.getD j default).ask≤21)∧i7≤o.rules.length) (fun i7=>o.rules.length - i7) (0:Nat)
 (fun (i7:Nat)=>⟨[(4,iv (i7:Int))],[]⟩) fun i7 =>
 .lt 1 3 i7 o.rules.length
 (.r 11 (.aq (.p (bG (i7:Int) o.rules.length)) ((ar ((o.rules.getD i7 default).ask) 0 21).c)) fun x8 =>
 .br (!x8)
 (.fin (.inl (.inl false)))
 (.r 13 (.aq (.wh (decide ((i7:Int) > 0)) true (.p (bG (au ((i7:Int) - 1)) o.rules.length))) (.wh (decide ((i7:Int) > 0)) true (.p (bG (i7:Int) o.rules.length)))) fun _ =>
 .br ((decide ((i7:Int) > 0))&&(decide (((o.rules.getD ((au ((i7:Int) - 1)).toNat) default).ask)≥((o.rules.getD i7 default).ask))))
 (.fin (.inl (.inl false)))
 (.nx 10 4 i7 (i7+1))))
 (.fin (.inl (.inr ()))))
 (fun (_:Unit)=>⟨[],[]⟩) fun _ =>
 .fin true
def H9 o:=(jc o).val
theorem Bt (o:Order):(jc o).cZ (fun (x:Bool)=>x=true→(∀ j,j < o.aV.length→0≤(o.aV.getD j default).cz∧(o.aV.getD j default).cz < 5)∧o.aV.length≤22∧o.rules.length≤22):=by
 refine Sk.bp _ ?_
 unfold jc
 simp only [Sk.cV,Sk.aO,reduceCtorEq,ON,kk,kp,ar,bB,forall_eq,maxLen]
 refine ⟨⟨⟨fun j hj=>absurd hj (by omega),Nat.zero_le _⟩,fun i hi=>⟨fun hc h1 _ h2 _=>?_,fun hc j hj=>?_⟩⟩,fun _ hJ=>⟨⟨⟨fun j hj=>absurd hj (by omega),Nat.zero_le _⟩,fun i hi=>⟨fun hc h1 _ h2 _=>?_,fun hc j hj=>?_⟩⟩,fun _ hJ2=>⟨fun j hj=>(hJ j hj).2,?_,?_⟩⟩⟩
 rotate_right
 rotate_right
 ·rcases Nat.lt_or_ge 22 o.aV.length with h | h
  ·have:=(hJ 22 h).1; omega
  ·exact h
 ·rcases Nat.lt_or_ge 22 o.rules.length with h | h
  ·have:=hJ2 22 h; omega
  ·exact h
 all_goals simp only [LN] at hc
 ·simp only [LN] at h1 h2
  refine ⟨⟨fun j hj=>?_,by omega⟩,by omega⟩
  by_cases e:j=i
  ·subst e
   refine ⟨⟨?_,by omega⟩,by omega,by omega⟩
   by_cases e0:j=0
   ·subst e0; omega
   ·have h3:=hi.1 (j - 1) (by omega)
    have h4:=h2.resolve_left (by omega)
    rw [aG (by omega) (by omega),show ((j:Int) - 1).toNat=j - 1 by omega] at h4
    omega
  ·exact hi.1 j (by omega)
 ·exact hi.1 j (by omega)
 ·simp only [LN] at h1 h2
  refine ⟨⟨fun j hj=>?_,by omega⟩,by omega⟩
  by_cases e:j=i
  ·subst e
   refine ⟨?_,by omega⟩
   by_cases e0:j=0
   ·subst e0; omega
   ·have h3:=hi.1 (j - 1) (by omega)
    have h4:=h2.resolve_left (by omega)
    rw [aG (by omega) (by omega),show ((j:Int) - 1).toNat=j - 1 by omega] at h4
    omega
  ·exact hi.1 j (by omega)
 ·exact hi.1 j (by omega)
theorem CM (o:Order):(jc o).bz (fun _=>True):=by
 refine Sk.aX _ ?_
 unfold jc
 simp only [Sk.kq,Sk.aO,reduceCtorEq,ON,kk,kp,ar,bB,forall_eq,maxLen]
 refine ⟨⟨⟨fun j hj=>absurd hj (by omega),Nat.zero_le _⟩,fun i hi hm=>⟨fun hc=>⟨⟨?_,fun _=>?_⟩,fun h1=>⟨⟨fun h3=>?_,fun _=>?_⟩,fun _ h2 _=>⟨?_,?_⟩⟩⟩,fun hc j hj=>?_⟩⟩,fun _ hJ=>⟨⟨fun j hj=>absurd hj (by omega),Nat.zero_le _⟩,fun i hi hm=>⟨fun hc=>⟨?_,fun h1=>⟨⟨fun h3=>?_,fun _=>?_⟩,fun _ h2 _=>⟨?_,?_⟩⟩⟩,fun hc j hj=>?_⟩⟩⟩
 all_goals simp only [LN] at hc
 ·exact ⟨by omega,by omega⟩
 ·exact ⟨by omega,by omega⟩
 ·simp only [LN] at h3
  rw [aG (by omega) (by omega)]
  exact ⟨by omega,by omega⟩
 ·exact ⟨by omega,by omega⟩
 ·exact (aG (by omega) (by omega)).trans (by omega)
 ·simp only [LN] at h1 h2
  refine ⟨⟨fun j hj=>?_,by omega⟩,by omega⟩
  by_cases e:j=i
  ·subst e
   refine ⟨⟨?_,by omega⟩,by omega,by omega⟩
   by_cases e0:j=0
   ·subst e0; omega
   ·have h3:=hi.1 (j - 1) (by omega)
    have h4:=h2.resolve_left (by omega)
    rw [aG (by omega) (by omega),show ((j:Int) - 1).toNat=j - 1 by omega] at h4
    omega
  ·exact hi.1 j (by omega)
 ·exact hi.1 j (by omega)
 ·exact ⟨by omega,by omega⟩
 ·simp only [LN] at h3
  rw [aG (by omega) (by omega)]
  exact ⟨by omega,by omega⟩
 ·exact ⟨by omega,by omega⟩
 ·exact (aG (by omega) (by omega)).trans (by omega)
 ·simp only [LN] at h1 h2
  refine ⟨⟨fun j hj=>?_,by omega⟩,by omega⟩
  by_cases e:j=i
  ·subst e
   refine ⟨?_,by omega⟩
   by_cases e0:j=0
   ·subst e0; omega
   ·have h3:=hi.1 (j - 1) (by omega)
    have h4:=h2.resolve_left (by omega)
    rw [aG (by omega) (by omega),show ((j:Int) - 1).toNat=j - 1 by omega] at h4
    omega
  ·exact hi.1 j (by omega)
 ·exact hi.1 j (by omega)
def qw o:=kp tok mixed Tryz.func77 [av o.cells] (fun x=>bv x) true (H9 o) (u0 (CM o)) (Bt o)
def np (r:ah):Sk (Int) :=
 .br (decide (((r.aE.length:Nat):Int) > 20))
 (.fin 6)
 (.bind true (fun b1=>r.cG∧(∀ i,i < r.aE.length→(r.aE.getD i default).aV.length≤22∧(r.aE.getD i default).rules.length≤22))
 (.loop (default:Sum (Int) (Unit)) (fun i2=>i2.1.length=i2.2∧i2.2≤r.aE.length∧(∀ i j,i < i2.2→j < (r.aE.getD i default).aV.length→0≤((r.aE.getD i default).aV.getD j default).cz∧((r.aE.getD i default).aV.getD j default).cz < 5)∧(∀ i,i < i2.2→(r.aE.getD i default).aV.length≤22∧(r.aE.getD i default).rules.length≤22)) (fun i2=>r.aE.length - i2.2) (([],0):(List ByteArray) × Nat)
 (fun (i2:(List ByteArray) × Nat)=>⟨[(3,ow 100001 i2.1),(4,iv (i2.2:Int))],[(100001,bO 9 1 jA i2.1)]⟩) fun i2 =>
 .lt 1 4 i2.2 r.aE.length
 (.r 7 (.aq (.p (bG (i2.2:Int) r.aE.length)) (.aq (.o [.fU (gB vT [(r.aE.getD i2.2 default).name])]) (.aq (.o [.fU (og vT i2.1 [(r.aE.getD i2.2 default).name])]) (.aq (.t (vT.qc [(r.aE.getD i2.2 default).name])) (.p (ym i2.1.length [(r.aE.getD i2.2 default).name].length 16)))))) fun _ =>
 .r 8 ((gK (i2.1++[(r.aE.getD i2.2 default).name]) (i2.2:Int)).c) fun x3 =>
 .br (x3 != 0)
 (.fin (.inl (.inl x3)))
 (.r 11 (.aq (.p (bG (i2.2:Int) r.aE.length)) ((qw (r.aE.getD i2.2 default)).c)) fun x4 =>
 .br (!x4)
 (.fin (.inl (.inl 1)))
 (.nx 6 4 i2.2 (i2.1++[(r.aE.getD i2.2 default).name],i2.2+1))))
 (.fin (.inl (.inr ()))))
 (fun (_:Unit)=>⟨[],[]⟩) fun _ =>
 .fin 0)
def R8 r:=(np r).val
theorem Ia (r:ah):(np r).cZ (fun (x:Int)=>x=0→r.cG∧r.aE.length≤20∧(∀ i,i < r.aE.length→(r.aE.getD i default).aV.length≤22∧(r.aE.getD i default).rules.length≤22)):=by
 unfold np
 try simp only [qw,gK,ah.cG]
 exact DE
theorem Km (r:ah):(np r).bz (fun _=>True):=by
 unfold np
 try simp only [qw,gK,ah.cG]
 exact oj
def xi r:=kp tok mixed Tryz.func39 [av r.cells] (fun x=>iv x) true (R8 r) (u0 (Km r)) (Ia r)
def lV (r:ah):Sk (Int) :=
 .br (decide (((r.aM.length:Nat):Int) > 100))
 (.fin 6)
 (.bt
 (.loop (default:Sum (Int) (Unit)) (fun i2=>i2≤r.aM.length) (fun i2=>r.aM.length - i2) (0:Nat)
 (fun (i2:Nat)=>⟨[(3,iv (i2:Int))],[]⟩) fun i2 =>
 .lt 1 5 i2 r.aM.length
 (.bt
 (.r 6 (.p (bG (i2:Int) r.aM.length)) fun _ =>
 .r 7 (.dep ((ar ((r.aM.getD i2 default).from_) 0 (au (((r.aI.length:Nat):Int) - 1))).c) fun x4=>.dep (.wh (!x4) false ((ar ((r.aM.getD i2 default).cj) 0 (au (((r.aI.length:Nat):Int) - 1))).c)) fun x5=>.wh ((!x4)||(!x5)) false ((ar ((r.aM.getD i2 default).days) 1 20000).c)) fun p9 =>
 .br (((!p9.1)||(!p9.2.1))||(!p9.2.2))
 (.fin (.inl (.inl (.inl 1))))
 (.bt
 (.loop (default:Sum (Sum (Sum (Sum (Int) (Unit)) (Nat)) (Int × (List dC) × Int × dC × Int × (List jB) × Int × Int × Bool × Bool × Bool × Bool × Bool × Bool × Int × Int × Bool)) (Int × Int × Int × Bool)) (fun i8=>i8≤i2) (fun i8=>i2 - i8) (0:Nat)
 (fun (i8:Nat)=>⟨[(5,iv (i8:Int))],[]⟩) fun i8 =>
 .br (decide ((i8:Int) < (i2:Int)))
 (.r 12 (.aq (.p (bG (i8:Int) r.aM.length)) (.wh (((r.aM.getD i8 default).from_) == ((r.aM.getD i2 default).from_)) true (.p (bG (i8:Int) r.aM.length)))) fun _ =>
 .br ((((r.aM.getD i8 default).from_) == ((r.aM.getD i2 default).from_))&&(((r.aM.getD i8 default).cj) == ((r.aM.getD i2 default).cj)))
 (.fin (.inl (.inl (.inl (.inl (.inl 5))))))
 (.nx 11 5 i8 (i8+1)))
 (.fin (.inl (.inr ((i8:Int),(i8:Int),(i2:Int),decide ((i8:Int) < (i2:Int)))))))
 (fun (b7:Int × Int × Int × Bool)=>⟨[(5,iv b7.1),(46,iv b7.2.1),(47,iv b7.2.2.1),(48,bv b7.2.2.2)],[]⟩) fun b7 =>
 .fin (.inr (b7.1,r.aM,(i2:Int),r.aM.getD i2 default,(r.aM.getD i2 default).from_,r.aI,((r.aI.length:Nat):Int),au (((r.aI.length:Nat):Int) - 1),p9.1,!p9.1,!p9.1,(!p9.1)||(!p9.2.1),(!p9.1)||(!p9.2.1),((!p9.1)||(!p9.2.1))||(!p9.2.2),b7.2.1,b7.2.2.1,b7.2.2.2))))
 (fun (b3:Int × (List dC) × Int × dC × Int × (List jB) × Int × Int × Bool × Bool × Bool × Bool × Bool × Bool × Int × Int × Bool)=>⟨[(5,iv b3.1),(18,lv dC.cells b3.2.1),(19,iv b3.2.2.1),(21,av b3.2.2.2.1.cells),(23,iv b3.2.2.2.2.1),(25,lv jB.cells b3.2.2.2.2.2.1),(26,iv b3.2.2.2.2.2.2.1),(27,iv b3.2.2.2.2.2.2.2.1),(28,bv b3.2.2.2.2.2.2.2.2.1),(29,bv b3.2.2.2.2.2.2.2.2.2.1),(30,bv b3.2.2.2.2.2.2.2.2.2.2.1),(39,bv b3.2.2.2.2.2.2.2.2.2.2.2.1),(40,bv b3.2.2.2.2.2.2.2.2.2.2.2.2.1),(45,bv b3.2.2.2.2.2.2.2.2.2.2.2.2.2.1),(46,iv b3.2.2.2.2.2.2.2.2.2.2.2.2.2.2.1),(47,iv b3.2.2.2.2.2.2.2.2.2.2.2.2.2.2.2.1),(48,bv b3.2.2.2.2.2.2.2.2.2.2.2.2.2.2.2.2)],[]⟩) fun _ =>
 .nx 5 3 i2 (i2+1))
 (.fin (.inl (.inr ()))))
 (fun (_:Unit)=>⟨[],[]⟩) fun _ =>
 .fin 0)
def PN r:=(lV r).val
theorem FD (r:ah):(lV r).cZ (fun (x:Int)=>x=0→r.aM.length≤100):=by
 unfold lV
 try simp only [ar,bB]
 exact RW
theorem Ib (r:ah):(lV r).bz (fun _=>True):=by
 unfold lV
 try simp only [ar,bB]
 exact yn
def vf r:=kp tok mixed Tryz.func40 [av r.cells] (fun x=>iv x) true (PN r) (u0 (Ib r)) (FD r)
def nr (r:ah):Sk (Int) :=
 .br (decide (((r.bE.length:Nat):Int) > 100))
 (.fin 6)
 (.bind true (fun b1=>r.dj)
 (.loop (default:Sum (Int) (Unit)) (fun i2=>i2≤r.bE.length∧(∀ i,i < i2→(1≤(r.bE.getD i default).num∧(r.bE.getD i default).num≤1073741824)∧1≤(r.bE.getD i default).den∧(r.bE.getD i default).den≤1073741824)) (fun i2=>r.bE.length - i2) (0:Nat)
 (fun (i2:Nat)=>⟨[(3,iv (i2:Int))],[]⟩) fun i2 =>
 .lt 1 6 i2 r.bE.length
 (.r 6 (.p (bG (i2:Int) r.bE.length)) fun _ =>
 .r 7 (.dep ((ar ((r.bE.getD i2 default).from_) 0 (au (((r.ck.length:Nat):Int) - 1))).c) fun x3=>.wh (!x3) false ((ar ((r.bE.getD i2 default).cj) 0 (au (((r.ck.length:Nat):Int) - 1))).c)) fun p9 =>
 .br (((!p9.1)||(!p9.2))||(((r.bE.getD i2 default).from_) == ((r.bE.getD i2 default).cj)))
 (.fin (.inl (.inl 1)))
 (.r 9 (.dep ((ar ((r.bE.getD i2 default).num) 1 1073741824).c) fun x5=>.dep (.wh (!x5) false ((ar ((r.bE.getD i2 default).den) 1 1073741824).c)) fun x6=>.wh ((!x5)||(!x6)) false ((ar ((r.bE.getD i2 default).since) 0 100000).c)) fun p8 =>
 .br (((!p8.1)||(!p8.2.1))||(!p8.2.2))
 (.fin (.inl (.inl 1)))
 (.nx 5 3 i2 (i2+1))))
 (.fin (.inl (.inr ()))))
 (fun (_:Unit)=>⟨[],[]⟩) fun _ =>
 .br (decide (((r.ep.length:Nat):Int) > 20))
 (.fin 6)
 (.bind true (fun b10=>r.dQ)
 (.loop (default:Sum (Int) (Unit)) (fun i11=>i11≤r.ep.length∧(∀ i,i < i11→(r.ep.getD i default).cj≤100000)) (fun i11=>r.ep.length - i11) (0:Nat)
 (fun (i11:Nat)=>⟨[(5,iv (i11:Int))],[]⟩) fun i11 =>
 .lt 1 7 i11 r.ep.length
 (.r 16 (.p (bG (i11:Int) r.ep.length)) fun _ =>
 .r 17 (.dep ((ar ((r.ep.getD i11 default).order) 0 (au (((r.aE.length:Nat):Int) - 1))).c) fun Y0=>.wh (!Y0) false ((ar ((r.ep.getD i11 default).from_) 0 ((r.ep.getD i11 default).cj)).c)) fun p14 =>
 .br (((!p14.1)||(!p14.2))||(decide (((r.ep.getD i11 default).cj) > 100000)))
 (.fin (.inl (.inl 1)))
 (.nx 15 5 i11 (i11+1)))
 (.fin (.inl (.inr ()))))
 (fun (_:Unit)=>⟨[],[]⟩) fun _ =>
 .fin 0))
def R9 r:=(nr r).val
theorem Ic (r:ah):(nr r).cZ (fun (x:Int)=>x=0→r.bE.length≤100∧r.ep.length≤20∧r.dj∧r.dQ):=by
 unfold nr
 try simp only [ar,bB,ah.dQ,ah.dj]
 exact RW
theorem Kn (r:ah):(nr r).bz (fun _=>True):=by
 unfold nr
 try simp only [ar,bB,ah.dQ,ah.dj]
 exact yn
def xj r:=kp tok mixed Tryz.func41 [av r.cells] (fun x=>iv x) true (R9 r) (u0 (Kn r)) (Ic r)
def pB (r:ah):Sk (Int) :=
 .r 1 ((xh r).c) fun x1 =>
 .bind false (fun b2=>b2=0→r.ck.length≤8∧r.aI.length≤40∧r.fP.length≤20∧r.bm.length≤200∧r.iI)
 (.br (x1 == 0)
 (.r 3 ((yV r).c) fun x3 =>
 .fin (.inr x3))
 (.fin (.inr x1)))
 (fun (b2:Int)=>⟨[(3,iv b2)],[]⟩) fun b2 =>
 .bind false (fun b4=>b4=0→r.ck.length≤8∧r.aI.length≤40∧r.fP.length≤20∧r.bm.length≤200∧r.iI∧r.cG∧r.aE.length≤20∧(∀ i,i < r.aE.length→(r.aE.getD i default).aV.length≤22∧(r.aE.getD i default).rules.length≤22))
 (.br (b2 == 0)
 (.r 5 ((xi r).c) fun x5 =>
 .fin (.inr x5))
 (.fin (.inr b2)))
 (fun (b4:Int)=>⟨[(3,iv b4)],[]⟩) fun b4 =>
 .bind false (fun b6=>b6=0→r.ck.length≤8∧r.aI.length≤40∧r.fP.length≤20∧r.bm.length≤200∧r.iI∧r.cG∧r.aE.length≤20∧(∀ i,i < r.aE.length→(r.aE.getD i default).aV.length≤22∧(r.aE.getD i default).rules.length≤22)∧r.aM.length≤100)
 (.br (b4 == 0)
 (.r 7 ((vf r).c) fun x7 =>
 .fin (.inr x7))
 (.fin (.inr b4)))
 (fun (b6:Int)=>⟨[(3,iv b6)],[]⟩) fun b6 =>
 .br (b6 == 0)
 (.r 9 ((xj r).c) fun x8 =>
 .fin x8)
 (.fin b6)
def UO r:=(pB r).val
theorem Ko (r:ah):(pB r).cZ (fun (x:Int)=>x=0→r.ck.length≤8∧r.aI.length≤40∧r.fP.length≤20∧r.bm.length≤200∧r.iI∧r.cG∧r.aE.length≤20∧(∀ i,i < r.aE.length→(r.aE.getD i default).aV.length≤22∧(r.aE.getD i default).rules.length≤22)∧r.aM.length≤100∧r.bE.length≤100∧r.ep.length≤20∧r.dj∧r.dQ):=by
 refine Sk.bp _ ?_
 unfold pB
 simp only [Sk.cV,Sk.aO,reduceCtorEq,ON,kk,kp,xh,yV,xi,xj,vf,maxLen]
 intro x _ hx
 refine ⟨⟨fun h y _ hy h0=>?_,fun h h0=>?_⟩,fun b _ hb=>⟨⟨fun h y _ hy h0=>?_,fun h h0=>?_⟩,fun b2 _ wN=>⟨⟨fun h y _ hy h0=>?_,fun h h0=>?_⟩,fun b3 _ JS=>⟨fun h y _ hy h0=>?_,fun h h0=>?_⟩⟩⟩⟩
 ·have hx:=hx (by simpa using h); have hy:=hy hx.2 h0; exact ⟨hx.1,hx.2,hy⟩
 ·rw [h0] at h; exact absurd h (by decide)
 ·have hb:=hb (by simpa using h); exact ⟨hb.1,hb.2.1,hb.2.2.1,hb.2.2.2.1,hb.2.2.2.2,hy h0⟩
 ·rw [h0] at h; exact absurd h (by decide)
 ·have hb:=wN (by simpa using h); exact ⟨hb.1,hb.2.1,hb.2.2.1,hb.2.2.2.1,hb.2.2.2.2.1,hb.2.2.2.2.2.1,hb.2.2.2.2.2.2.1,hb.2.2.2.2.2.2.2,hy h0⟩
 ·rw [h0] at h; exact absurd h (by decide)
 ·have hb:=JS (by simpa using h); exact ⟨hb.1,hb.2.1,hb.2.2.1,hb.2.2.2.1,hb.2.2.2.2.1,hb.2.2.2.2.2.1,hb.2.2.2.2.2.2.1,hb.2.2.2.2.2.2.2.1,hb.2.2.2.2.2.2.2.2,hy h0⟩
 ·rw [h0] at h; exact absurd h (by decide)
theorem MI (r:ah):(pB r).bz (fun _=>True):=by
 refine Sk.aX _ ?_
 unfold pB
 simp only [Sk.kq,Sk.aO,reduceCtorEq,ON,kk,kp,xh,yV,xi,xj,vf,maxLen]
 intro x _ hx
 refine ⟨⟨fun h y _ hy h0=>?_,fun h h0=>?_⟩,fun b _ hb=>⟨⟨fun h y _ hy h0=>?_,fun h h0=>?_⟩,fun b2 _ wN=>⟨fun h y _ hy h0=>?_,fun h h0=>?_⟩⟩⟩
 ·have hx:=hx (by simpa using h); have hy:=hy hx.2 h0; exact ⟨hx.1,hx.2,hy⟩
 ·rw [h0] at h; exact absurd h (by decide)
 ·have hb:=hb (by simpa using h); exact ⟨hb.1,hb.2.1,hb.2.2.1,hb.2.2.2.1,hb.2.2.2.2,hy h0⟩
 ·rw [h0] at h; exact absurd h (by decide)
 ·have hb:=wN (by simpa using h); exact ⟨hb.1,hb.2.1,hb.2.2.1,hb.2.2.2.1,hb.2.2.2.2.1,hb.2.2.2.2.2.1,hb.2.2.2.2.2.2.1,hb.2.2.2.2.2.2.2,hy h0⟩
 ·rw [h0] at h; exact absurd h (by decide)
def oQ r:=kp tok mixed Tryz.func15 [av r.cells] (fun x=>iv x) true (UO r) (u0 (MI r)) (Ko r)
def Ac (n:Int) (length:Int):Sk (Bool) :=
 .fin ((decide (n≥0))&&(decide (n < length)))
def W8 n length:=(Ac n length).val
theorem Ed (n:Int) (length:Int):W8 n length=((decide (n≥0))&&(decide (n < length))):=rfl
theorem UP (n:Int) (length:Int):(Ac n length).bz (fun _=>True):=by
 unfold Ac
 exact pv
def pC n length:=kk tok mixed Tryz.func78 [iv n,iv length] (fun x=>bv x) true (Ac n length) (W8 n length) (u0 (UP n length))
def uO (n:Int) (length:Int):Sk (Bool) :=
 .r 1 (.wh (n == (-1)) false ((pC n length).c)) fun x1 =>
 .fin ((n == (-1))||x1)
def W9 n length:=(uO n length).val
theorem PO (n:Int) (length:Int):(uO n length).bz (fun _=>True):=by
 unfold uO
 try simp only [pC,Ed]
 exact yn
def xk n length:=kk tok mixed Tryz.func79 [iv n,iv length] (fun x=>bv x) true (uO n length) (W9 n length) (u0 (PO n length))
def sS (day:Int):Sk (Bool) :=
 .fin ((decide (day≥0))&&(decide (day≤100000)))
def Lx day:=(sS day).val
theorem CN (day:Int):Lx day=((decide (day≥0))&&(decide (day≤100000))):=rfl
theorem MJ (day:Int):(sS day).bz (fun _=>True):=by
 unfold sS
 exact pv
def yW day:=kk tok mixed Tryz.func80 [iv day] (fun x=>bv x) true (sS day) (Lx day) (u0 (MJ day))
def sT (b:qd):Sk (Bool) :=
 .br ((b.cR.kind == 0)||(b.cR.kind == 4))
 (.fin ((b.cR.n == 0)&&(b.cR.unit == 0)))
 (.br ((b.cR.kind == 1)||(b.cR.kind == 2))
 (.fin (((decide (b.cR.n≥1))&&(decide (b.cR.n≤400)))&&((b.cR.unit == 0)||(b.cR.unit == 1))))
 (.fin ((((b.cR.kind == 3)&&(decide (b.cR.n≥b.day)))&&(decide (b.cR.n≤100000)))&&(b.cR.unit == 0))))
def UQ b:=(sT b).val
theorem MK (b:qd):(sT b).bz (fun _=>True):=by
 unfold sT
 exact pv
def yX b:=kk tok mixed Tryz.func81 [av b.cells] (fun x=>bv x) true (sT b) (UQ b) (u0 (MK b))
def qU (r:ah) (from_:Int) (cj:Int):Sk (Int × Int) :=
 .bt
 (.loop (default:Sum (Int × Int) (Unit)) (fun i2=>i2≤r.aM.length) (fun i2=>r.aM.length - i2) (0:Nat)
 (fun (i2:Nat)=>⟨[(8,iv (i2:Int))],[]⟩) fun i2 =>
 .lt 3 5 i2 r.aM.length
 (.r 4 (.aq (.p (bG (i2:Int) r.aM.length)) (.wh (((r.aM.getD i2 default).from_) == from_) true (.p (bG (i2:Int) r.aM.length)))) fun _ =>
 .br ((((r.aM.getD i2 default).from_) == from_)&&(((r.aM.getD i2 default).cj) == cj))
 (.r 5 (.p (bG (i2:Int) r.aM.length)) fun _ =>
 .fin (.inl (.inl ((r.aM.getD i2 default).days,0))))
 (.nx 3 8 i2 (i2+1)))
 (.fin (.inl (.inr ()))))
 (fun (_:Unit)=>⟨[],[]⟩) fun _ =>
 .fin (0,4)
def Sa r from_ cj:=(qU r from_ cj).val
theorem Kq (r:ah) (from_:Int) (cj:Int):(qU r from_ cj).bz (fun _=>True):=by
 unfold qU
 exact oj
def xl r from_ cj:=kk tok mixed Tryz.func82 [av r.cells,iv from_,iv cj] (fun x=>.fL [iv x.1,iv x.2]) true (qU r from_ cj) (Sa r from_ cj) (u0 (Kq r from_ cj))
def pD (r:ah) (b:qd):Sk (Int) :=
 .r 1 ((oQ r).c) fun x1 =>
 .br (x1 != 0)
 (.fin x1)
 (.r 6 (.dep ((pC b.Bs ((r.bm.length:Nat):Int)).c) fun x2=>.dep (.wh (!x2) false ((pC b.na ((r.bm.length:Nat):Int)).c)) fun x3=>.dep (.wh ((!x2)||(!x3)) false ((xk b.kr ((r.bm.length:Nat):Int)).c)) fun x4=>.dep (.wh (((!x2)||(!x3))||(!x4)) false ((xk b.need ((r.bm.length:Nat):Int)).c)) fun x5=>.dep (.wh ((((!x2)||(!x3))||(!x4))||(!x5)) false ((pC b.az ((r.ck.length:Nat):Int)).c)) fun x6=>.dep (.wh (((((!x2)||(!x3))||(!x4))||(!x5))||(!x6)) false ((pC b.bZ ((r.aI.length:Nat):Int)).c)) fun x7=>.wh ((((((!x2)||(!x3))||(!x4))||(!x5))||(!x6))||(!x7)) false ((pC b.yo ((r.aI.length:Nat):Int)).c)) fun W7 =>
 .br (((((((!W7.1)||(!W7.2.1))||(!W7.2.2.1))||(!W7.2.2.2.1))||(!W7.2.2.2.2.1))||(!W7.2.2.2.2.2.1))||(!W7.2.2.2.2.2.2))
 (.fin 1)
 (.r 8 (.wh ((decide (b.sum < 1))||(decide (b.sum > 1099511627776))) false ((yW b.day).c)) fun x9 =>
 .br (((((decide (b.sum < 1))||(decide (b.sum > 1099511627776)))||(!x9))||(decide (b.lg < 0)))||(decide (b.lg > 1000)))
 (.fin 3)
 (.br ((decide (b.parts < 1))||(decide (b.parts > 4)))
 (.fin 15)
 (.r 12 (.wh (((decide (b.flags < 0))||(decide (b.flags > 7)))||((b.kr == (-1))&&((dP .i64 b.flags 4) != 0))) false ((yX b).c)) fun Oc =>
 .br ((((decide (b.flags < 0))||(decide (b.flags > 7)))||((b.kr == (-1))&&((dP .i64 b.flags 4) != 0)))||(!Oc))
 (.fin 2)
 (.br (b.cR.kind != 4)
 (.fin 0)
 (.r 16 ((xl r b.bZ b.yo).c) fun x11 =>
 .fin x11.2))))))
def UR r b:=(pD r b).val
theorem Kr (r:ah) (b:qd):(pD r b).cZ (fun (x:Int)=>x=0→uJ r b):=by
 refine Sk.bp _ ?_
 unfold pD
 simp (maxSteps:=2000000) only [Sk.cV,Sk.aO,reduceCtorEq,ON,kk,kp,yW,oQ,xl,yX,pC,xk,CN,Ed,forall_eq,ah.cG,ah.dQ,ah.iI,ah.dj,maxLen]
 all_goals (repeat' first | assumption | (apply And.intro) | (intro h))
 all_goals first | trivial | assumption | omega | ((try simp only [LN] at *) <;> first | omega | (refine (aG ?_ ?_).trans ?_ <;> omega) | (simp (disch:=omega) only [aG] at *; omega) | (grind) | (simp_all; done) | (simp_all; omega))
theorem ML (r:ah) (b:qd):(pD r b).bz (fun _=>True):=by
 refine Sk.aX _ ?_
 unfold pD
 simp (maxSteps:=2000000) only [Sk.kq,Sk.aO,reduceCtorEq,ON,kk,kp,yW,oQ,xl,yX,pC,xk,CN,Ed,forall_eq,ah.cG,ah.dQ,ah.iI,ah.dj,maxLen]
def yY r b:=kp tok mixed Tryz.func42 [av r.cells,av b.cells] (fun x=>iv x) true (UR r b) (u0 (ML r b)) (Kr r b)
def Ad (f:al) (i:Int) (part:Int):Sk (Bool) :=
 .r 1 (.wh (i == 0) false (.p (bG i f.af.length))) fun _ =>
 .fin ((i == 0)||(((f.af.getD i.toNat default).part) == part))
def aaN f i part:=(Ad f i part).val
theorem US (f:al) (i:Int) (part:Int) (hs:i=0∨(0≤i∧i < (f.af.length:Int))):(Ad f i part).bz (fun _=>True):=by
 unfold Ad
 exact oj
def vX f i part:=kk tok mixed Tryz.func130 [av f.cells,iv i,iv part] (fun x=>bv x) true (Ad f i part) (aaN f i part) (US f i part)
def my (f:al) (i:Int):Sk (Bool) :=
 .r 1 (.p (bG i f.af.length)) fun _ =>
 .r 2 (.dep ((ar ((f.af.getD i.toNat default).for_) 0 (au (i - 1))).c) fun x1=>.aq (.wh x1 true (.p (bG i f.af.length))) (.wh x1 true ((vX f ((f.af.getD i.toNat default).for_) ((f.af.getD i.toNat default).part)).c))) fun p3 =>
 .fin (p3.1&&p3.2)
def Ly f i:=(my f i).val
theorem Ks (f:al) (i:Int) (hP:(0≤i∧i < (f.af.length:Int))∧f.af.length≤40):(my f i).cZ (fun (x:Bool)=>x=true→0≤(f.af.getD i.toNat default).for_∧(f.af.getD i.toNat default).for_ < i):=by
 unfold my
 try simp only [ar,vX,bB]
 exact RW
theorem Ie (f:al) (i:Int):(fun (x:Bool)=>((0≤i∧i < (f.af.length:Int))∧f.af.length≤40)→(x=true→0≤(f.af.getD i.toNat default).for_∧(f.af.getD i.toNat default).for_ < i)) (Ly f i):=fun hP=>Sk.de _ (Ks f i hP)
theorem MM (f:al) (i:Int) (hs:0≤i∧i < (f.af.length:Int)) (hn:f.af.length≤40):(my f i).bz (fun _=>True):=by
 unfold my
 try simp only [ar,vX,bB]
 exact yn
def uP f i:=kk tok mixed Tryz.func129 [av f.cells,iv i] (fun x=>bv x) true (my f i) (Ly f i) (u2 (MM f i)) (fun (x:Bool)=>((0≤i∧i < (f.af.length:Int))∧f.af.length≤40)→(x=true→0≤(f.af.getD i.toNat default).for_∧(f.af.getD i.toNat default).for_ < i)) (Ie f i)
def oS (r:ah) (f:al) (i:Int):Sk (Bool) :=
 .r 1 (.p (bG i f.af.length)) fun _ =>
 .r 2 ((ar ((f.af.getD i.toNat default).sum) 1 1099511627776).c) fun x1 =>
 .br (((f.af.getD i.toNat default).kind) == 0)
 (.fin ((((((((i == 0)&&(((f.af.getD i.toNat default).dt) == f.aR.Bs))&&(((f.af.getD i.toNat default).for_) == (-1)))&&(((f.af.getD i.toNat default).cj) == (-1)))&&(((f.af.getD i.toNat default).sum) == 0))&&((((f.af.getD i.toNat default).flags) == 0)||(((f.af.getD i.toNat default).flags) == 1)))&&(((f.af.getD i.toNat default).part) == 0))&&(((f.af.getD i.toNat default).bZ) == f.aR.bZ)))
 (.br (((f.af.getD i.toNat default).kind) == 1)
 (.fin ((((((decide (i > 0))&&(((f.af.getD i.toNat default).dt) == f.aR.na))&&(((f.af.getD i.toNat default).for_) == (-1)))&&(((f.af.getD i.toNat default).cj) == (-1)))&&x1)&&(((f.af.getD i.toNat default).flags) == 0)))
 (.br (((f.af.getD i.toNat default).kind) == 2)
 (.r 9 (.aq (.p ((2:Int)≠0)) (.p ((2:Int)≠0))) fun _ =>
 .r 10 (.aq (.p ((4:Int)≠0)) (.p ((2:Int)≠0))) fun _ =>
 .r 11 (.dep (.wh ((decide (i > 0))&&(((f.af.getD i.toNat default).for_) == (-1))) true ((ar ((f.af.getD i.toNat default).cj) (-1) (au (((r.bm.length:Nat):Int) - 1))).c)) fun x2=>.wh ((((decide (i > 0))&&(((f.af.getD i.toNat default).for_) == (-1)))&&x2)&&(((f.af.getD i.toNat default).sum) == 0)) true ((ar ((f.af.getD i.toNat default).flags) 0 7).c)) fun p4 =>
 .fin ((((((decide (i > 0))&&(((f.af.getD i.toNat default).for_) == (-1)))&&p4.1)&&(((f.af.getD i.toNat default).sum) == 0))&&p4.2)&&(!((((au (((f.af.getD i.toNat default).flags).tdiv 2)).tmod 2) == 1)&&(((au (((f.af.getD i.toNat default).flags).tdiv 4)).tmod 2) == 1)))))
 (.br (((f.af.getD i.toNat default).kind) == 3)
 (.r 13 (.wh ((((i == 0)||(((f.af.getD i.toNat default).cj) != (-1)))||(((f.af.getD i.toNat default).sum) != 0))||(((f.af.getD i.toNat default).flags) != 0)) false ((uP f i).c)) fun x5 =>
 .br (((((i == 0)||(((f.af.getD i.toNat default).cj) != (-1)))||(((f.af.getD i.toNat default).sum) != 0))||(((f.af.getD i.toNat default).flags) != 0))||(!x5))
 (.fin false)
 (.r 15 (.p (bG ((f.af.getD i.toNat default).for_) f.af.length)) fun _ =>
 .fin (((f.af.getD (((f.af.getD i.toNat default).for_).toNat) default).kind) != 3)))
 (.br (((f.af.getD i.toNat default).kind) == 4)
 (.r 17 (.wh (((((i == 0)||(((f.af.getD i.toNat default).cj) != (-1)))||(!x1))||(((f.af.getD i.toNat default).flags) != 0))||(((f.af.getD i.toNat default).dt) == f.aR.na)) false ((uP f i).c)) fun x6 =>
 .br ((((((i == 0)||(((f.af.getD i.toNat default).cj) != (-1)))||(!x1))||(((f.af.getD i.toNat default).flags) != 0))||(((f.af.getD i.toNat default).dt) == f.aR.na))||(!x6))
 (.fin false)
 (.r 19 (.aq (.p (bG ((f.af.getD i.toNat default).for_) f.af.length)) (.wh (((f.af.getD (((f.af.getD i.toNat default).for_).toNat) default).kind) == 0) false (.p (bG ((f.af.getD i.toNat default).for_) f.af.length)))) fun _ =>
 .fin ((((f.af.getD (((f.af.getD i.toNat default).for_).toNat) default).kind) == 0)||(((f.af.getD (((f.af.getD i.toNat default).for_).toNat) default).kind) == 2))))
 (.fin false)))))
def PQ r f i:=(oS r f i).val
theorem MN (r:ah) (f:al) (i:Int) (hP:(0≤i∧i < (f.af.length:Int))∧f.af.length≤40):(oS r f i).cZ (fun (x:Bool)=>x=true→PA f i.toNat):=by
 unfold oS
 try simp only [ar,uP,bB]
 exact RW
theorem Kt (r:ah) (f:al) (i:Int):(fun (x:Bool)=>((0≤i∧i < (f.af.length:Int))∧f.af.length≤40)→(x=true→PA f i.toNat)) (PQ r f i):=fun hP=>Sk.de _ (MN r f i hP)
theorem PR (r:ah) (f:al) (i:Int) (hs:0≤i∧i < (f.af.length:Int)) (hn:f.af.length≤40):(oS r f i).bz (fun _=>True):=by
 unfold oS
 try simp only [ar,uP,bB]
 exact yn
def Bu r f i:=kk tok mixed Tryz.func83 [av r.cells,av f.cells,iv i] (fun x=>bv x) true (oS r f i) (PQ r f i) (u2 (PR r f i)) (fun (x:Bool)=>((0≤i∧i < (f.af.length:Int))∧f.af.length≤40)→(x=true→PA f i.toNat)) (Kt r f i)
def mz (r:ah) (f:al) (i:Int):Sk (Int) :=
 .r 1 (.p (bG i f.af.length)) fun _ =>
 .r 2 ((ar ((f.af.getD i.toNat default).part) 0 (au (f.aR.parts - 1))).c) fun x1 =>
 .br (!x1)
 (.fin 15)
 (.r 4 (.dep ((ar ((f.af.getD i.toNat default).dt) 0 (au (((r.bm.length:Nat):Int) - 1))).c) fun x2=>.wh (!x2) false ((ar ((f.af.getD i.toNat default).bZ) 0 (au (((r.aI.length:Nat):Int) - 1))).c)) fun p8 =>
 .br ((!p8.1)||(!p8.2))
 (.fin 1)
 (.br (((i == 0)&&(((f.af.getD i.toNat default).day) != f.aR.day))||(decide (((f.af.getD i.toNat default).day) > 100000)))
 (.fin 13)
 (.bind false (fun b4=>i > 0→(f.af.getD (au (i - 1)).toNat default).day≤(f.af.getD i.toNat default).day)
 (.br (decide (i > 0))
 (.r 9 (.p (bG (au (i - 1)) f.af.length)) fun _ =>
 .br (decide (((f.af.getD i.toNat default).day) < ((f.af.getD ((au (i - 1)).toNat) default).day)))
 (.fin (.inl 13))
 (.fin (.inr ())))
 (.fin (.inr ())))
 (fun (_:Unit)=>⟨[],[]⟩) fun _ =>
 .r 11 ((Bu r f i).c) fun x5 =>
 .br (!x5)
 (.fin 14)
 (.bt
 (.loop (default:Sum (Int) (Unit)) (fun i7=>0≤i7∧i7≤i) (fun i7=>(i - i7).toNat) (0:Int)
 (fun (i7:Int)=>⟨[(8,iv i7)],[]⟩) fun i7 =>
 .br ((decide (i7 < i))&&(((f.af.getD i.toNat default).kind) == 1))
 (.r 16 (.aq (.p (bG i7 f.af.length)) (.wh (((f.af.getD i7.toNat default).kind) == 1) true (.p (bG i7 f.af.length)))) fun _ =>
 .br ((((f.af.getD i7.toNat default).kind) == 1)&&(((f.af.getD i7.toNat default).part) == ((f.af.getD i.toNat default).part)))
 (.fin (.inl (.inl 5)))
 (.fin (.inr (au (i7+1)))))
 (.fin (.inl (.inr ()))))
 (fun (_:Unit)=>⟨[],[]⟩) fun _ =>
 .fin 0))))
def Lz r f i:=(mz r f i).val
theorem Ku (r:ah) (f:al) (i:Int) (hP:(0≤i∧i < (f.af.length:Int))∧f.af.length≤40∧r.bm.length≤200∧uJ r f.aR):(mz r f i).cZ (fun (x:Int)=>x=0→xT r f i.toNat):=by
 refine Sk.bp _ ?_
 unfold mz
 simp only [Sk.cV,Sk.aO,reduceCtorEq,ON,kk,kp,ar,Bu,bB,forall_eq,maxLen]
 intro _
 obtain ⟨hi,hn,hr,hB⟩:=hP
 have hB2:=hB.2.2.2.1
 refine ⟨fun _ h=>absurd h (by decide),fun h1=>⟨fun _ h=>absurd h (by decide),fun h2=>⟨fun _ h=>absurd h (by decide),fun h3=>⟨⟨fun h4 _=>⟨fun _ h=>absurd h (by decide),fun h5 _=>by simpa using h5⟩,fun h4 h=>?_⟩,fun _ _ h6 hF=>⟨fun _ h=>absurd h (by decide),fun h7=>⟨⟨⟨by omega,by omega⟩,fun k hk hc _=>⟨fun _ h=>absurd h (by decide),fun _=>?_⟩⟩,fun _=>?_⟩⟩⟩⟩⟩⟩
 ·simp only [LN] at h4; omega
 ·simp only [LN] at hc
  rw [aG (by omega) (by omega)]
  omega
 ·have hF:=hF ⟨hi,hn⟩ (by simpa using h7)
  simp only [LN] at h1 h2 h3
  rw [aG (n:=f.aR.parts - 1) (by omega) (by omega)] at h1
  rw [aG (n:=(r.bm.length:Int) - 1) (by omega) (by omega)] at h2
  refine ⟨by omega,fun h0=>?_,by omega,fun h0=>?_,by omega,hF⟩
  ·have:=h6 (by omega)
   rw [aG (by omega) (by omega),show (i - 1).toNat=i.toNat - 1 by omega] at this
   exact this
  ·rcases h3.1 with h | h
   ·omega
   ·exact h
theorem Ig (r:ah) (f:al) (i:Int):(fun (x:Int)=>((0≤i∧i < (f.af.length:Int))∧f.af.length≤40∧r.bm.length≤200∧uJ r f.aR)→(x=0→xT r f i.toNat)) (Lz r f i):=fun hP=>Sk.de _ (Ku r f i hP)
theorem MO (r:ah) (f:al) (i:Int) (hs:0≤i∧i < (f.af.length:Int)) (hn:f.af.length≤40):(mz r f i).bz (fun _=>True):=by
 unfold mz
 try simp only [ar,Bu,bB]
 exact yn
def yZ r f i:=kk tok mixed Tryz.func43 [av r.cells,av f.cells,iv i] (fun x=>iv x) true (mz r f i) (Lz r f i) (u2 (MO r f i)) (fun (x:Int)=>((0≤i∧i < (f.af.length:Int))∧f.af.length≤40∧r.bm.length≤200∧uJ r f.aR)→(x=0→xT r f i.toNat)) (Ig r f i)
def mA (r:ah) (f:al) (a:bh):Sk (Bool) :=
 .r 1 ((ar a.dt 0 (au (((r.bm.length:Nat):Int) - 1))).c) fun x1 =>
 .br (!x1)
 (.fin false)
 (.r 3 ((ar a.cj 0 (au (((r.bm.length:Nat):Int) - 1))).c) fun x2 =>
 .r 4 ((ar a.sum 0 1099511627776).c) fun x3 =>
 .r 5 ((ar a.at_ 0 (au (((f.af.length:Nat):Int) - 1))).c) fun x4 =>
 .bind false (fun b5=>b5=true→0≤a.at_∧a.at_ < (f.af.length:Int))
 (.br x4
 (.r 7 ((vX f a.at_ a.part).c) fun x6 =>
 .fin (.inr x6))
 (.fin (.inr x4)))
 (fun (b5:Bool)=>⟨[(9,bv b5)],[]⟩) fun b5 =>
 .bind false (fun b7=>b7=true→(0≤a.at_∧a.at_ < (f.af.length:Int))∧(f.af.getD a.at_.toNat default).dt=a.dt)
 (.br b5
 (.r 10 (.p (bG a.at_ f.af.length)) fun _ =>
 .fin (.inr (((f.af.getD a.at_.toNat default).dt) == a.dt)))
 (.fin (.inr false)))
 (fun (b7:Bool)=>⟨[(10,bv b7)],[]⟩) fun b7 =>
 .bind false (fun _=>True)
 (.br (a.kind == 0)
 (.fin (.inr (a.kind == 0)))
 (.br (a.kind == 1)
 (.fin (.inr (a.kind == 1)))
 (.fin (.inr (a.kind == 2)))))
 (fun (b8:Bool)=>⟨[(56,bv b8)],[]⟩) fun b8 =>
 .br b8
 (.fin (((x2&&(a.at_ == (-1)))&&(a.sum == 0))&&(a.form == 0)))
 (.bind false (fun _=>True)
 (.br (a.kind == 3)
 (.fin (.inr (a.kind == 3)))
 (.fin (.inr (a.kind == 5))))
 (fun (b9:Bool)=>⟨[(76,bv b9)],[]⟩) fun b9 =>
 .br b9
 (.fin (((x2&&(a.at_ == (-1)))&&x3)&&(a.form == 0)))
 (.br (a.kind == 4)
 (.fin (((x2&&(a.at_ == (-1)))&&x3)&&((a.form == 0)||(a.form == 1))))
 (.br (a.kind == 6)
 (.fin ((((x2&&b7)&&x3)&&(decide (a.sum > 0)))&&(a.form == 0)))
 (.br (a.kind == 9)
 (.fin ((((a.cj == (-1))&&b7)&&(a.sum == 0))&&(a.form == 0)))
 (.bind false (fun _=>True)
 (.br (a.kind == 7)
 (.fin (.inr (a.kind == 7)))
 (.fin (.inr (a.kind == 8))))
 (fun (b10:Bool)=>⟨[(151,bv b10)],[]⟩) fun b10 =>
 .br b10
 (.fin ((((a.cj == (-1))&&b5)&&(a.sum == 0))&&(a.form == 0)))
 (.fin false)))))))
def LA r f a:=(mA r f a).val
theorem Kv (r:ah) (f:al) (a:bh) (hP:f.af.length≤40):(mA r f a).cZ (fun (x:Bool)=>x=true→jK a.sum∧a.at_ < (f.af.length:Int)∧(a.kind=6→0≤a.at_∧(f.af.getD a.at_.toNat default).dt=a.dt)):=by
 unfold mA
 try simp only [ar,vX,bB]
 exact RW
theorem Ih (r:ah) (f:al) (a:bh):(fun (x:Bool)=>(f.af.length≤40)→(x=true→jK a.sum∧a.at_ < (f.af.length:Int)∧(a.kind=6→0≤a.at_∧(f.af.getD a.at_.toNat default).dt=a.dt))) (LA r f a):=fun hP=>Sk.de _ (Kv r f a hP)
theorem MP (r:ah) (f:al) (a:bh) (hn:f.af.length≤40):(mA r f a).bz (fun _=>True):=by
 unfold mA
 try simp only [ar,vX,bB]
 exact yn
def za r f a:=kk tok mixed Tryz.func84 [av r.cells,av f.cells,av a.cells] (fun x=>bv x) true (mA r f a) (LA r f a) (MP r f a) (fun (x:Bool)=>(f.af.length≤40)→(x=true→jK a.sum∧a.at_ < (f.af.length:Int)∧(a.kind=6→0≤a.at_∧(f.af.getD a.at_.toNat default).dt=a.dt))) (Ih r f a)
def oT (r:ah) (f:al) (i:Int):Sk (Int) :=
 .r 1 (.p (bG i f.aA.length)) fun _ =>
 .r 2 ((ar ((f.aA.getD i.toNat default).part) 0 (au (f.aR.parts - 1))).c) fun x1 =>
 .br (!x1)
 (.fin 15)
 (.r 4 (.dep ((ar ((f.aA.getD i.toNat default).bZ) 0 (au (((r.aI.length:Nat):Int) - 1))).c) fun x2=>.wh (!x2) false ((ar ((f.aA.getD i.toNat default).kind) 0 9).c)) fun p6 =>
 .br ((!p6.1)||(!p6.2))
 (.fin 1)
 (.r 6 ((za r f (f.aA.getD i.toNat default)).c) fun x4 =>
 .br (!x4)
 (.fin 14)
 (.br ((decide (((f.aA.getD i.toNat default).day) < f.aR.day))||(decide (((f.aA.getD i.toNat default).day) > 100000)))
 (.fin 13)
 (.bind false (fun b5=>0≤(f.aA.getD i.toNat default).at_→(f.af.getD (f.aA.getD i.toNat default).at_.toNat default).day≤(f.aA.getD i.toNat default).day)
 (.br (decide (((f.aA.getD i.toNat default).at_)≥0))
 (.r 11 (.p (bG ((f.aA.getD i.toNat default).at_) f.af.length)) fun _ =>
 .br (decide (((f.aA.getD i.toNat default).day) < ((f.af.getD (((f.aA.getD i.toNat default).at_).toNat) default).day)))
 (.fin (.inl 13))
 (.fin (.inr ())))
 (.fin (.inr ())))
 (fun (_:Unit)=>⟨[],[]⟩) fun _ =>
 .br (decide (i > 0))
 (.r 14 (.p (bG (au (i - 1)) f.aA.length)) fun _ =>
 .br (decide (((f.aA.getD i.toNat default).day) < ((f.aA.getD ((au (i - 1)).toNat) default).day)))
 (.fin 13)
 (.fin 0))
 (.fin 0)))))
def PS r f i:=(oT r f i).val
theorem MQ (r:ah) (f:al) (i:Int) (hP:(0≤i∧i < (f.aA.length:Int))∧f.af.length≤40∧f.aA.length≤100):(oT r f i).cZ (fun (x:Int)=>x=0→yQ f i.toNat):=by
 refine Sk.bp _ ?_
 unfold oT
 simp only [Sk.cV,Sk.aO,reduceCtorEq,ON,kk,kp,ar,za,bB,forall_eq,maxLen]
 intro _
 refine ⟨fun _ h=>absurd h (by decide),fun h1=>⟨fun _ h=>absurd h (by decide),fun h2 hA=>⟨fun _ h=>absurd h (by decide),fun h3=>⟨fun _ h=>absurd h (by decide),fun h4=>⟨⟨fun _ _=>⟨fun _ h=>absurd h (by decide),fun hd _=>by simp only [LN] at hd; exact hd⟩,fun h0 h=>by simp only [LN] at h0; omega⟩,fun _ _ PT=>⟨fun h5 _=>⟨fun _ h=>absurd h (by decide),fun h6=>?_⟩,fun h5=>?_⟩⟩⟩⟩⟩⟩
 all_goals have hA:=hA hP.2.1 (by simpa using h3)
 all_goals simp only [LN] at h4 h5
 ·simp only [LN] at h6
  rw [aG (by omega) (by omega),show (i - 1).toNat=i.toNat - 1 by omega] at h6
  exact ⟨hA.1,by omega,fun _=>h6,fun hk=>⟨⟨(hA.2.2 hk).1,hA.2.1⟩,PT (hA.2.2 hk).1,(hA.2.2 hk).2⟩⟩
 ·exact ⟨hA.1,by omega,fun h=>by omega,fun hk=>⟨⟨(hA.2.2 hk).1,hA.2.1⟩,PT (hA.2.2 hk).1,(hA.2.2 hk).2⟩⟩
theorem Kw (r:ah) (f:al) (i:Int):(fun (x:Int)=>((0≤i∧i < (f.aA.length:Int))∧f.af.length≤40∧f.aA.length≤100)→(x=0→yQ f i.toNat)) (PS r f i):=fun hP=>Sk.de _ (MQ r f i hP)
theorem PU (r:ah) (f:al) (i:Int) (hs:0≤i∧i < (f.aA.length:Int)) (hn:f.af.length≤40) (ha:f.aA.length≤100):(oT r f i).bz (fun _=>True):=by
 unfold oT
 try simp only [ar,za,bB]
 exact yn
def Bv r f i:=kk tok mixed Tryz.func45 [av r.cells,av f.cells,iv i] (fun x=>iv x) true (oT r f i) (PS r f i) (u3 (PU r f i)) (fun (x:Int)=>((0≤i∧i < (f.aA.length:Int))∧f.af.length≤40∧f.aA.length≤100)→(x=0→yQ f i.toNat)) (Kw r f i)
def sU (f:al) (i:Int):Sk (Int) :=
 .r 1 (.p (bG i f.facts.length)) fun _ =>
 .r 2 (.dep ((ar ((f.facts.getD i.toNat default).kind) 0 4).c) fun x1=>.dep (.wh (!x1) false ((ar ((f.facts.getD i.toNat default).at_) 0 (au (((f.af.length:Nat):Int) - 1))).c)) fun x2=>.wh ((!x1)||(!x2)) false ((ar ((f.facts.getD i.toNat default).n) 0 1).c)) fun p4 =>
 .br (((!p4.1)||(!p4.2.1))||(!p4.2.2))
 (.fin 1)
 (.br (decide (i > 0))
 (.r 5 (.p (bG (au (i - 1)) f.facts.length)) fun _ =>
 .br ((decide (((f.facts.getD ((au (i - 1)).toNat) default).at_) > ((f.facts.getD i.toNat default).at_)))||((((f.facts.getD ((au (i - 1)).toNat) default).at_) == ((f.facts.getD i.toNat default).at_))&&(decide (((f.facts.getD ((au (i - 1)).toNat) default).kind)≥((f.facts.getD i.toNat default).kind)))))
 (.fin 5)
 (.fin 0))
 (.fin 0))
def UT f i:=(sU f i).val
theorem MR (f:al) (i:Int) (hs:0≤i∧i < (f.facts.length:Int)) (ha:f.facts.length≤200):(sU f i).bz (fun _=>True):=by
 unfold sU
 try simp only [ar,bB]
 exact yn
def zb f i:=kk tok mixed Tryz.func46 [av f.cells,iv i] (fun x=>iv x) true (sU f i) (UT f i) (u2 (MR f i))
def mB (r:ah) (f:al):Sk (Int) :=
 .br ((((decide (((f.af.length:Nat):Int) > 40))||(decide (((f.aN.length:Nat):Int) > 4)))||(decide (((f.aA.length:Nat):Int) > 100)))||(decide (((f.facts.length:Nat):Int) > 200)))
 (.fin 6)
 (.r 3 ((yY r f.aR).c) fun x1 =>
 .bind false (fun b2=>b2=0→uJ r f.aR∧f.af.length≠0)
 (.br ((x1 == 0)&&(((f.af.length:Nat):Int) == 0))
 (.fin (.inr 14))
 (.fin (.inr x1)))
 (fun (b2:Int)=>⟨[(5,iv b2)],[]⟩) fun b2 =>
 .bind true (fun b3=>b3=0→uJ r f.aR∧f.af.length≠0∧(r.bm.length≤200→(∀ q,q < f.af.length→xT r f q)))
 (.loop (default:Sum (Int) (Int)) (fun i4=>i4.2≤f.af.length∧(i4.1=0→uJ r f.aR∧f.af.length≠0∧(r.bm.length≤200→(∀ q,q < i4.2→xT r f q)))) (fun i4=>f.af.length - i4.2) ((b2,0):Int × Nat)
 (fun (i4:Int × Nat)=>⟨[(5,iv i4.1),(6,iv (i4.2:Int))],[]⟩) fun i4 =>
 .Be 3 15 f.af.length <|
 .br ((decide ((i4.2:Int) < ((f.af.length:Nat):Int)))&&(i4.1 == 0))
 (.r 9 ((yZ r f (i4.2:Int)).c) fun x5 =>
 .nx 8 6 i4.2 (x5,i4.2+1))
 (.fin (.inl (.inr i4.1))))
 (fun (b3:Int)=>⟨[(5,iv b3)],[]⟩) fun b3 =>
 .bind true (fun b6=>b6=0→uJ r f.aR∧f.af.length≠0∧(r.bm.length≤200→(∀ q,q < f.af.length→xT r f q))∧(∀ q,q < f.aN.length→jK (f.aN.getD q default).sum))
 (.loop (default:Sum (Int) (Int)) (fun i7=>i7.2≤f.aN.length∧(i7.1=0→uJ r f.aR∧f.af.length≠0∧(r.bm.length≤200→(∀ q,q < f.af.length→xT r f q))∧(∀ q,q < i7.2→jK (f.aN.getD q default).sum))) (fun i7=>f.aN.length - i7.2) ((b3,0):Int × Nat)
 (fun (i7:Int × Nat)=>⟨[(5,iv i7.1),(7,iv (i7.2:Int))],[]⟩) fun i7 =>
 .Be 3 16 f.aN.length <|
 .br ((decide ((i7.2:Int) < ((f.aN.length:Nat):Int)))&&(i7.1 == 0))
 (.bind false (fun _=>True)
 (.br (decide ((i7.2:Int) > 0))
 (.r 15 (.p (bG (au ((i7.2:Int) - 1)) f.aN.length)) fun _ =>
 .fin (.inr (au (((f.aN.getD ((au ((i7.2:Int) - 1)).toNat) default).at_)+1))))
 (.fin (.inr 1)))
 (fun (b8:Int)=>⟨[(8,iv b8)],[]⟩) fun b8 =>
 .r 16 (.aq (.p (bG (i7.2:Int) f.aN.length)) ((ar ((f.aN.getD i7.2 default).at_) b8 ((f.af.length:Nat):Int)).c)) fun x9 =>
 .br (!x9)
 (.nx 12 7 i7.2 (1,i7.2+1))
 (.r 18 (.aq (.p (bG (i7.2:Int) f.aN.length)) ((ar ((f.aN.getD i7.2 default).sum) 1 1099511627776).c)) fun Oc =>
 .br (!Oc)
 (.nx 12 7 i7.2 (3,i7.2+1))
 (.nx 12 7 i7.2 (i7.1,i7.2+1))))
 (.fin (.inl (.inr i7.1))))
 (fun (b6:Int)=>⟨[(5,iv b6)],[]⟩) fun b6 =>
 .bind true (fun UU=>UU=0→uJ r f.aR∧f.af.length≠0∧(r.bm.length≤200→(∀ q,q < f.af.length→xT r f q))∧(∀ q,q < f.aN.length→jK (f.aN.getD q default).sum)∧(∀ q,q < f.aA.length→yQ f q))
 (.loop (default:Sum (Int) (Int)) (fun i12=>i12.2≤f.aA.length∧(i12.1=0→uJ r f.aR∧f.af.length≠0∧(r.bm.length≤200→(∀ q,q < f.af.length→xT r f q))∧(∀ q,q < f.aN.length→jK (f.aN.getD q default).sum)∧(∀ q,q < i12.2→yQ f q))) (fun i12=>f.aA.length - i12.2) ((b6,0):Int × Nat)
 (fun (i12:Int × Nat)=>⟨[(5,iv i12.1),(9,iv (i12.2:Int))],[]⟩) fun i12 =>
 .Be 3 17 f.aA.length <|
 .br ((decide ((i12.2:Int) < ((f.aA.length:Nat):Int)))&&(i12.1 == 0))
 (.r 23 ((Bv r f (i12.2:Int)).c) fun Ii =>
 .nx 22 9 i12.2 (Ii,i12.2+1))
 (.fin (.inl (.inr i12.1))))
 (fun (UU:Int)=>⟨[(5,iv UU)],[]⟩) fun UU =>
 .bind true (fun GN=>GN=0→uJ r f.aR∧f.af.length≠0∧(r.bm.length≤200→(∀ q,q < f.af.length→xT r f q))∧(∀ q,q < f.aN.length→jK (f.aN.getD q default).sum)∧(∀ q,q < f.aA.length→yQ f q))
 (.loop (default:Sum (Int) (Int)) (fun i15=>i15.2≤f.facts.length∧(i15.1=0→uJ r f.aR∧f.af.length≠0∧(r.bm.length≤200→(∀ q,q < f.af.length→xT r f q))∧(∀ q,q < f.aN.length→jK (f.aN.getD q default).sum)∧(∀ q,q < f.aA.length→yQ f q))) (fun i15=>f.facts.length - i15.2) ((UU,0):Int × Nat)
 (fun (i15:Int × Nat)=>⟨[(5,iv i15.1),(10,iv (i15.2:Int))],[]⟩) fun i15 =>
 .Be 3 18 f.facts.length <|
 .br ((decide ((i15.2:Int) < ((f.facts.length:Nat):Int)))&&(i15.1 == 0))
 (.r 27 ((zb f (i15.2:Int)).c) fun UW =>
 .nx 26 10 i15.2 (UW,i15.2+1))
 (.fin (.inl (.inr i15.1))))
 (fun (GN:Int)=>⟨[(5,iv GN)],[]⟩) fun GN =>
 .fin GN)
def LB r f:=(mB r f).val
theorem Kx (r:ah) (f:al) (hP:r.bm.length≤200):(mB r f).cZ (fun (x:Int)=>x=0→cm r f):=by
 refine Sk.bp _ ?_
 unfold mB
 simp only [Sk.cV,Sk.aO,reduceCtorEq,ON,kk,kp,ar,yY,Bv,zb,yZ,bB,forall_eq,maxLen]
 have ext:∀ {P:Nat→Prop} {i:Nat},(∀ q,q < i→P q)→P i→∀ q,q < i+1→P q:=fun h h2 q hq=>(Nat.lt_succ_iff_lt_or_eq.1 hq).elim (h q) (fun e=>e ▸ h2)
 refine ⟨fun _ h=>absurd h (by decide),fun hb hB=>?_⟩
 simp only [LN] at hb
 refine ⟨⟨fun _ h=>absurd h (by decide),fun h0 h=>⟨hB h,fun e=>?_⟩⟩,fun b1 _ Lg=>⟨⟨⟨Nat.zero_le _,fun h=>⟨(Lg h).1,(Lg h).2,fun _ q hq=>absurd hq (by omega)⟩⟩,fun i hi=>⟨fun hc hs _=>?_,fun hc h=>?_⟩⟩,fun b2 wN=>⟨⟨⟨Nat.zero_le _,fun h=>⟨(wN h).1,(wN h).2.1,(wN h).2.2,fun q hq=>absurd hq (by omega)⟩⟩,fun i hi=>⟨fun hc b _=>⟨fun _ _=>?_,fun _=>⟨fun _ _=>?_,fun hs _=>?_⟩⟩,fun hc h=>?_⟩⟩,fun b3 JS=>⟨⟨⟨Nat.zero_le _,fun h=>⟨(JS h).1,(JS h).2.1,(JS h).2.2.1,(JS h).2.2.2,fun q hq=>absurd hq (by omega)⟩⟩,fun i hi=>⟨fun hc hs _=>?_,fun hc h=>?_⟩⟩,fun b4 hb4=>⟨⟨⟨Nat.zero_le _,hb4⟩,fun i hi=>⟨fun hc _=>?_,fun _ h=>hi.2 h⟩⟩,fun b5 hb5 h=>?_⟩⟩⟩⟩⟩
 ·simp [e,h] at h0
 ·simp only [LN] at hc
  obtain ⟨a1,a2,a3⟩:=hi.2 hc.2
  exact ⟨⟨by omega,fun h=>⟨a1,a2,fun hr=>ext (a3 hr) (hs ⟨⟨by omega,by omega⟩,by omega,hr,a1⟩ h)⟩⟩,by omega⟩
 ·simp only [LN] at hc
  have e:i.2=f.af.length:=by omega
  exact e ▸ hi.2 h
 ·simp only [LN] at hc
  exact ⟨⟨by omega,fun h=>absurd h (by decide)⟩,by omega⟩
 ·simp only [LN] at hc
  exact ⟨⟨by omega,fun h=>absurd h (by decide)⟩,by omega⟩
 ·simp only [LN] at hc hs
  obtain ⟨a1,a2,a3,a4⟩:=hi.2 hc.2
  exact ⟨⟨by omega,fun h=>⟨a1,a2,a3,ext a4 ⟨by omega,by omega⟩⟩⟩,by omega⟩
 ·simp only [LN] at hc
  have e:i.2=f.aN.length:=by omega
  exact e ▸ hi.2 h
 ·simp only [LN] at hc
  obtain ⟨a1,a2,a3,a4,a5⟩:=hi.2 hc.2
  exact ⟨⟨by omega,fun h=>⟨a1,a2,a3,a4,ext a5 (hs ⟨⟨by omega,by omega⟩,by omega,by omega⟩ h)⟩⟩,by omega⟩
 ·simp only [LN] at hc
  have e:i.2=f.aA.length:=by omega
  exact e ▸ hi.2 h
 ·simp only [LN] at hc
  exact ⟨⟨by omega,fun _=>hi.2 hc.2⟩,by omega⟩
 ·obtain ⟨a1,a2,a3,a4,a5⟩:=hb5 h
  exact ⟨a1,⟨by omega,a2,by omega,by omega,by omega⟩,a3 hP,a4,a5⟩
theorem Ij (r:ah) (f:al):(fun (x:Int)=>(r.bm.length≤200)→(x=0→cm r f)) (LB r f):=fun hP=>Sk.de _ (Kx r f hP)
theorem MS (r:ah) (f:al):(mB r f).bz (fun _=>True):=by
 refine Sk.aX _ ?_
 unfold mB
 simp only [Sk.kq,Sk.aO,reduceCtorEq,ON,kk,kp,ar,yY,Bv,zb,yZ,bB,forall_eq,maxLen]
 have ext:∀ {P:Nat→Prop} {i:Nat},(∀ q,q < i→P q)→P i→∀ q,q < i+1→P q:=fun h h2 q hq=>(Nat.lt_succ_iff_lt_or_eq.1 hq).elim (h q) (fun e=>e ▸ h2)
 have w1:∀ i n:Nat,i < n→n≤200→au ((i:Int)+1)=((i+1:Nat):Int):=fun i n h h2=>(aG (by omega) (by omega)).trans (by omega)
 refine fun hb hB=>?_
 simp only [LN] at hb
 refine ⟨⟨fun _ h=>absurd h (by decide),fun h0 h=>⟨hB h,fun e=>?_⟩⟩,fun b1 _ Lg=>⟨⟨⟨Nat.zero_le _,fun h=>⟨(Lg h).1,(Lg h).2,fun _ q hq=>absurd hq (by omega)⟩⟩,fun i hi hm=>⟨fun hc=>⟨?_,fun hs _=>⟨?_,?_⟩⟩,fun hc h=>?_⟩⟩,fun b2 wN=>⟨⟨⟨Nat.zero_le _,fun h=>⟨(wN h).1,(wN h).2.1,(wN h).2.2,fun q hq=>absurd hq (by omega)⟩⟩,fun i hi hm=>⟨fun hc=>⟨fun h2=>?_,fun b _=>⟨?_,fun _ _=>⟨?_,?_⟩,fun _=>⟨?_,fun _ _=>⟨?_,?_⟩,fun hs _=>⟨?_,?_⟩⟩⟩⟩,fun hc h=>?_⟩⟩,fun b3 JS=>⟨⟨⟨Nat.zero_le _,fun h=>⟨(JS h).1,(JS h).2.1,(JS h).2.2.1,(JS h).2.2.2,fun q hq=>absurd hq (by omega)⟩⟩,fun i hi hm=>⟨fun hc=>⟨?_,fun hs _=>⟨?_,?_⟩⟩,fun hc h=>?_⟩⟩,fun b4 hb4=>⟨⟨Nat.zero_le _,hb4⟩,fun i hi hm=>⟨fun hc=>⟨?_,fun _=>⟨?_,?_⟩⟩,fun _ h=>hi.2 h⟩⟩⟩⟩⟩⟩
 ·simp [e,h] at h0
 all_goals simp only [LN] at hc
 ·exact ⟨⟨by omega,by omega⟩,by omega⟩
 ·exact w1 _ _ (by omega) (show f.af.length≤200 from by omega)
 ·obtain ⟨a1,a2,a3⟩:=hi.2 hc.2
  exact ⟨⟨by omega,fun h=>⟨a1,a2,fun hr=>ext (a3 hr) (hs ⟨⟨by omega,by omega⟩,by omega,hr,a1⟩ h)⟩⟩,by omega⟩
 ·have e:i.2=f.af.length:=by omega
  exact e ▸ hi.2 h
 ·simp only [LN] at h2
  rw [aG (by omega) (by omega)]
  exact ⟨by omega,by omega⟩
 ·exact ⟨by omega,by omega⟩
 ·exact w1 _ _ (by omega) (show f.aN.length≤200 from by omega)
 ·exact ⟨⟨by omega,fun h=>absurd h (by decide)⟩,by omega⟩
 ·exact ⟨by omega,by omega⟩
 ·exact w1 _ _ (by omega) (show f.aN.length≤200 from by omega)
 ·exact ⟨⟨by omega,fun h=>absurd h (by decide)⟩,by omega⟩
 ·exact w1 _ _ (by omega) (show f.aN.length≤200 from by omega)
 ·simp only [LN] at hs
  obtain ⟨a1,a2,a3,a4⟩:=hi.2 hc.2
  exact ⟨⟨by omega,fun h=>⟨a1,a2,a3,ext a4 ⟨by omega,by omega⟩⟩⟩,by omega⟩
 ·have e:i.2=f.aN.length:=by omega
  exact e ▸ hi.2 h
 ·exact ⟨⟨by omega,by omega⟩,by omega,by omega⟩
 ·exact w1 _ _ (by omega) (show f.aA.length≤200 from by omega)
 ·obtain ⟨a1,a2,a3,a4,a5⟩:=hi.2 hc.2
  exact ⟨⟨by omega,fun h=>⟨a1,a2,a3,a4,ext a5 (hs ⟨⟨by omega,by omega⟩,by omega,by omega⟩ h)⟩⟩,by omega⟩
 ·have e:i.2=f.aA.length:=by omega
  exact e ▸ hi.2 h
 ·exact ⟨⟨by omega,by omega⟩,by omega⟩
 ·exact w1 _ _ (by omega) (show f.facts.length≤200 from by omega)
 ·exact ⟨⟨by omega,fun _=>hi.2 hc.2⟩,by omega⟩
def zc r f:=kk tok mixed Tryz.func16 [av r.cells,av f.cells] (fun x=>iv x) true (mB r f) (LB r f) (u0 (MS r f)) (fun (x:Int)=>(r.bm.length≤200)→(x=0→cm r f)) (Ij r f)
def qx (r:ah) (f:al):Sk (Bool) :=
 .r 1 (.dep ((Ab r f).c) fun x1=>.dep (.wh x1 true ((oQ r).c)) fun x2=>.wh (x1&&(x2 == 0)) true ((zc r f).c)) fun p4 =>
 .fin ((((p4.1&&(p4.2.1 == 0))&&(p4.2.2 == 0))&&(decide (((f.af.length:Nat):Int)≤20)))&&(decide (((f.aA.length:Nat):Int)≤30)))
def MT r f:=(qx r f).val
theorem PV (r:ah) (f:al):(qx r f).cZ (fun (x:Bool)=>x=true→r.Small∧r.cG∧r.dQ∧r.iI∧r.dj∧cm r f):=by
 refine Sk.bp _ ?_
 unfold qx
 simp only [Sk.cV,Sk.aO,reduceCtorEq,ON,kk,kp,oQ,zc,Ab,maxLen]
 intro x _ hx hc
 simp only [Bool.and_eq_true,beq_iff_eq,decide_eq_true_eq] at hc
 obtain ⟨⟨⟨⟨h1,h2⟩,h3⟩,-⟩,-⟩:=hc
 obtain ⟨a1,a2,a3,a4,a5,a6,a7,a8,a9,b1,b2,b3,b4⟩:=hx.2.1 h2
 exact ⟨(hx.1 h1).1,a6,b4,a5,b3,hx.2.2 a4 h3⟩
theorem Sb (r:ah) (f:al):(qx r f).bz (fun _=>True):=by
 refine Sk.aX _ ?_
 unfold qx
 simp only [Sk.kq,Sk.aO,reduceCtorEq,ON,kk,kp,oQ,zc,Ab,maxLen]
def Ee r f:=kp tok mixed Tryz.func6 [av r.cells,av f.cells] (fun x=>bv x) true (MT r f) (u0 (Sb r f)) (PV r f)
structure aH where
 known:Bool
 n:Int
 deriving Inhabited
def aH.cells (c:aH):List D:=[dB c.known,dI c.n]
def aH.E:Pn aH:=⟨aH.cells,2,fun _=>rfl,fun _=>rfl⟩
def rJ (f:al) (kind:Int) (at_:Int):Sk (aH) :=
 .bt
 (.loop (default:Sum (aH) (Unit)) (fun i2=>i2≤f.facts.length) (fun i2=>f.facts.length - i2) (0:Nat)
 (fun (i2:Nat)=>⟨[(7,iv (i2:Int))],[]⟩) fun i2 =>
 .lt 3 18 i2 f.facts.length
 (.r 4 (.aq (.p (bG (i2:Int) f.facts.length)) (.wh (((f.facts.getD i2 default).kind) == kind) true (.p (bG (i2:Int) f.facts.length)))) fun _ =>
 .br ((((f.facts.getD i2 default).kind) == kind)&&(((f.facts.getD i2 default).at_) == at_))
 (.r 5 (.p (bG (i2:Int) f.facts.length)) fun _ =>
 .br (((f.facts.getD i2 default).n) == 0)
 (.fin (.inl (.inl ({ known:=true,n:=0 }:aH))))
 (.fin (.inl (.inl ({ known:=true,n:=1 }:aH)))))
 (.nx 3 7 i2 (i2+1)))
 (.fin (.inl (.inr ()))))
 (fun (_:Unit)=>⟨[],[]⟩) fun _ =>
 .fin ({ known:=false,n:=0 }:aH)
def CO f kind at_:=(rJ f kind at_).val
theorem PW (f:al) (kind:Int) (at_:Int):(rJ f kind at_).bz (fun _=>True):=by
 unfold rJ
 exact oj
def Bw f kind at_:=kk tok mixed Tryz.func17 [av f.cells,iv kind,iv at_] (fun x=>av x.cells) true (rJ f kind at_) (CO f kind at_) (u0 (PW f kind at_))
def rK (f:al) (x_:Fact):Sk (al) :=
 .r 1 ((Bw f x_.kind x_.at_).c) fun x1 =>
 .br x1.known
 (.fin f)
 (.bind true (fun b2=>b2.length≤0+f.facts.length)
 (.loop (default:Sum (al) ((List Fact))) (fun i3=>i3.2≤f.facts.length∧i3.1.length≤0+i3.2) (fun i3=>f.facts.length - i3.2) (([],0):(List Fact) × Nat)
 (fun (i3:(List Fact) × Nat)=>⟨[(5,ow 100002 i3.1),(6,iv (i3.2:Int))],[(100002,bO 45 3 Fact.cells i3.1)]⟩) fun i3 =>
 .lt 2 18 i3.2 f.facts.length
 (.r 7 (.p (bG (i3.2:Int) f.facts.length)) fun _ =>
 .br ((decide (((f.facts.getD i3.2 default).at_) < x_.at_))||((((f.facts.getD i3.2 default).at_) == x_.at_)&&(decide (((f.facts.getD i3.2 default).kind) < x_.kind))))
 (.r 9 (.aq (.o [.fU (gB Fact.E [f.facts.getD i3.2 default])]) (.aq (.o [.fU (og Fact.E i3.1 [f.facts.getD i3.2 default])]) (.aq (.t (Fact.E.qc [f.facts.getD i3.2 default])) (.p (ym i3.1.length [f.facts.getD i3.2 default].length 24))))) fun _ =>
 .nx 6 6 i3.2 (i3.1++[f.facts.getD i3.2 default],i3.2+1))
 (.nx 6 6 i3.2 (i3.1,i3.2+1)))
 (.fin (.inl (.inr i3.1))))
 (fun (b2:(List Fact))=>⟨[(5,ow 100001 b2)],[(100001,bO 45 3 Fact.cells b2)]⟩) fun b2 =>
 .r 10 (.aq (.o [.fU (gB Fact.E [x_])]) (.aq (.o [.fU (og Fact.E b2 [x_])]) (.aq (.t (Fact.E.qc [x_])) (.p (ym b2.length [x_].length 24))))) fun _ =>
 .bind true (fun b4=>b4.length≤(b2++[x_]).length+f.facts.length)
 (.loop (default:Sum (al) ((List Fact))) (fun i5=>i5.2≤f.facts.length∧i5.1.length≤(b2++[x_]).length+i5.2) (fun i5=>f.facts.length - i5.2) ((b2++[x_],0):(List Fact) × Nat)
 (fun (i5:(List Fact) × Nat)=>⟨[(5,ow 100005 i5.1),(8,iv (i5.2:Int))],[(100005,bO 45 3 Fact.cells i5.1)]⟩) fun i5 =>
 .lt 2 18 i5.2 f.facts.length
 (.r 14 (.p (bG (i5.2:Int) f.facts.length)) fun _ =>
 .br ((decide (((f.facts.getD i5.2 default).at_) > x_.at_))||((((f.facts.getD i5.2 default).at_) == x_.at_)&&(decide (((f.facts.getD i5.2 default).kind) > x_.kind))))
 (.r 16 (.aq (.o [.fU (gB Fact.E [f.facts.getD i5.2 default])]) (.aq (.o [.fU (og Fact.E i5.1 [f.facts.getD i5.2 default])]) (.aq (.t (Fact.E.qc [f.facts.getD i5.2 default])) (.p (ym i5.1.length [f.facts.getD i5.2 default].length 24))))) fun _ =>
 .nx 13 8 i5.2 (i5.1++[f.facts.getD i5.2 default],i5.2+1))
 (.nx 13 8 i5.2 (i5.1,i5.2+1)))
 (.fin (.inl (.inr i5.1))))
 (fun (b4:(List Fact))=>⟨[(5,ow 100004 b4)],[(100004,bO 45 3 Fact.cells b4)]⟩) fun b4 =>
 .fin ({ f with facts:=b4 }))
def tQ f x_:=(rK f x_).val
theorem PX (f:al) (x_:Fact) (hf:f.facts.length≤1000000):(rK f x_).bz (fun _=>True):=by
 unfold rK
 try simp only [Bw]
 exact oj
def Bx f x_:=kk tok mixed Tryz.func7 [av f.cells,av x_.cells] (fun x=>av x.cells) false (rK f x_) (tQ f x_) (PX f x_)
def mC (i:Int) (n:Int):Sk (Bool) :=
 .fin ((decide (i≥0))&&(decide (i < n)))
def A7 i n:=(mC i n).val
theorem j3 (i:Int) (n:Int):A7 i n=((decide (i≥0))&&(decide (i < n))):=rfl
theorem Ef (i:Int) (n:Int):(mC i n).bz (fun _=>True):=by
 unfold mC
 exact pv
def ef i n:=kk tok mixed Tryz.func85 [iv i,iv n] (fun x=>bv x) true (mC i n) (A7 i n) (u0 (Ef i n))
def mD (f:al) (day:Int):Sk (al) :=
 .bind true (fun b1=>b1.length≤f.af.length)
 (.loop (default:Sum (al) ((List Sign))) (fun i2=>i2.2.length≤i2.1∧i2.1≤f.af.length) (fun i2=>f.af.length - i2.1) ((0,[]):Nat × (List Sign))
 (fun (i2:Nat × (List Sign))=>⟨[(20,iv (i2.1:Int))],[(100002,bO 96 9 Sign.cells i2.2),(5,.box (f.aR.cells.map .d++[ow 100002 i2.2]++[nv,nv,nv]))]⟩) fun i2 =>
 .lt 18 0 i2.1 f.af.length
 (.r 4 (.p (bG (i2.1:Int) f.af.length)) fun _ =>
 .br (decide (((f.af.getD i2.1 default).day) > day))
 (.fin (.inl (.inr i2.2)))
 (.r 6 (.aq (.o [.fU (gB Sign.E [f.af.getD i2.1 default])]) (.aq (.o [.fU (og Sign.E i2.2 [f.af.getD i2.1 default])]) (.aq (.t (Sign.E.qc [f.af.getD i2.1 default])) (.p (ym i2.2.length [f.af.getD i2.1 default].length 72))))) fun _ =>
 .nx 7 20 i2.1 (i2.1+1,i2.2++[f.af.getD i2.1 default])))
 (.fin (.inl (.inr i2.2))))
 (fun (b1:(List Sign))=>⟨[],[(100001,bO 96 9 Sign.cells b1),(5,.box (f.aR.cells.map .d++[ow 100001 b1]++[nv,nv,nv]))]⟩) fun b1 =>
 .bind true (fun b3=>b3.length≤f.aA.length)
 (.loop (default:Sum (al) ((List bh))) (fun i4=>i4.2.length≤i4.1∧i4.1≤f.aA.length) (fun i4=>f.aA.length - i4.1) ((0,[]):Nat × (List bh))
 (fun (i4:Nat × (List bh))=>⟨[(38,iv (i4.1:Int))],[(100005,bO 62 9 bh.cells i4.2),(5,.box (f.aR.cells.map .d++[ow 100001 b1]++[nv,ow 100005 i4.2]++[nv]))]⟩) fun i4 =>
 .lt 36 0 i4.1 f.aA.length
 (.r 10 (.p (bG (i4.1:Int) f.aA.length)) fun _ =>
 .br (decide (((f.aA.getD i4.1 default).day) > day))
 (.fin (.inl (.inr i4.2)))
 (.r 12 (.aq (.o [.fU (gB bh.E [f.aA.getD i4.1 default])]) (.aq (.o [.fU (og bh.E i4.2 [f.aA.getD i4.1 default])]) (.aq (.t (bh.E.qc [f.aA.getD i4.1 default])) (.p (ym i4.2.length [f.aA.getD i4.1 default].length 72))))) fun _ =>
 .nx 13 38 i4.1 (i4.1+1,i4.2++[f.aA.getD i4.1 default])))
 (.fin (.inl (.inr i4.2))))
 (fun (b3:(List bh))=>⟨[],[(100004,bO 62 9 bh.cells b3),(5,.box (f.aR.cells.map .d++[ow 100001 b1]++[nv,ow 100004 b3]++[nv]))]⟩) fun b3 =>
 .bind true (fun b5=>b5.length≤f.aN.length)
 (.loop (default:Sum (al) ((List di))) (fun i6=>i6.2.length≤i6.1∧i6.1≤f.aN.length) (fun i6=>f.aN.length - i6.1) ((0,[]):Nat × (List di))
 (fun (i6:Nat × (List di))=>⟨[(56,iv (i6.1:Int))],[(100008,bO 115 2 di.cells i6.2),(5,.box (f.aR.cells.map .d++[ow 100001 b1,ow 100008 i6.2,ow 100004 b3]++[nv]))]⟩) fun i6 =>
 .lt 54 0 i6.1 f.aN.length
 (.r 16 (.p (bG (i6.1:Int) f.aN.length)) fun _ =>
 .br (decide (((f.aN.getD i6.1 default).at_)≤((b1.length:Nat):Int)))
 (.r 18 (.aq (.o [.fU (gB di.E [f.aN.getD i6.1 default])]) (.aq (.o [.fU (og di.E i6.2 [f.aN.getD i6.1 default])]) (.aq (.t (di.E.qc [f.aN.getD i6.1 default])) (.p (ym i6.2.length [f.aN.getD i6.1 default].length 16))))) fun _ =>
 .nx 19 56 i6.1 (i6.1+1,i6.2++[f.aN.getD i6.1 default]))
 (.nx 19 56 i6.1 (i6.1+1,i6.2)))
 (.fin (.inl (.inr i6.2))))
 (fun (b5:(List di))=>⟨[],[(100007,bO 115 2 di.cells b5),(5,.box (f.aR.cells.map .d++[ow 100001 b1,ow 100007 b5,ow 100004 b3]++[nv]))]⟩) fun b5 =>
 .bind true (fun b7=>b7.length≤f.facts.length)
 (.loop (default:Sum (al) ((List Fact))) (fun i8=>i8.2.length≤i8.1∧i8.1≤f.facts.length) (fun i8=>f.facts.length - i8.1) ((0,[]):Nat × (List Fact))
 (fun (i8:Nat × (List Fact))=>⟨[(76,iv (i8.1:Int))],[(100011,bO 45 3 Fact.cells i8.2),(5,.box (f.aR.cells.map .d++[ow 100001 b1,ow 100007 b5,ow 100004 b3,ow 100011 i8.2]))]⟩) fun i8 =>
 .lt 74 0 i8.1 f.facts.length
 (.r 22 (.p (bG (i8.1:Int) f.facts.length)) fun _ =>
 .r 23 ((ef ((f.facts.getD i8.1 default).at_) ((b1.length:Nat):Int)).c) fun x9 =>
 .br x9
 (.r 24 (.aq (.o [.fU (gB Fact.E [f.facts.getD i8.1 default])]) (.aq (.o [.fU (og Fact.E i8.2 [f.facts.getD i8.1 default])]) (.aq (.t (Fact.E.qc [f.facts.getD i8.1 default])) (.p (ym i8.2.length [f.facts.getD i8.1 default].length 24))))) fun _ =>
 .nx 25 76 i8.1 (i8.1+1,i8.2++[f.facts.getD i8.1 default]))
 (.nx 25 76 i8.1 (i8.1+1,i8.2)))
 (.fin (.inl (.inr i8.2))))
 (fun (b7:(List Fact))=>⟨[],[(100010,bO 45 3 Fact.cells b7),(5,.box (f.aR.cells.map .d++[ow 100001 b1,ow 100007 b5,ow 100004 b3,ow 100010 b7]))]⟩) fun b7 =>
 .fin ({ f with af:=b1,aN:=b5,aA:=b3,facts:=b7 })
def ai f day:=(mD f day).val
theorem A8 (f:al) (day:Int):(mD f day).cZ (fun (x:al)=>x.af.length≤f.af.length∧x.aA.length≤f.aA.length∧x.aN.length≤f.aN.length∧x.facts.length≤f.facts.length):=by
 unfold mD
 try simp only [ef,j3,al.Small,ah.Small]
 exact RW
theorem Ik (f:al) (day:Int):(fun (x:al)=>x.af.length≤f.af.length∧x.aA.length≤f.aA.length∧x.aN.length≤f.aN.length∧x.facts.length≤f.facts.length) (ai f day):=have h:=Sk.de _ (A8 f day); h
theorem MU (f:al) (day:Int) (hf:f.Small):(mD f day).bz (fun _=>True):=by
 simp only [al.Small,ah.Small] at hf
 unfold mD
 try simp only [ef,j3,al.Small,ah.Small]
 exact yn
def ch f day:=kp tok mixed Tryz.func47 [av f.cells,iv day] (fun x=>av x.cells) false (ai f day) (MU f day) (A8 f day)
theorem oU {α:Type} (p:α→Bool):∀ (l s:List α),l.foldl (fun s x=>bif p x then s++[x] else s) s=s++l.filter p
 | [],s=>by simp
 | x :: r,s=>by
  simp only [List.foldl_cons,List.filter_cons]
  cases h:p x with
  | true=>simp [oU p r]
  | false=>simp [oU p r]
theorem Bz {α β:Type} (p:α→Bool) (g:List α→β):∀ (l s:List α),walk (fun x s=>bif !(p x) then Sum.inl (g s) else Sum.inr (s++[x])) g l s=g (s++l.takeWhile p)
 | [],s=>by simp [walk]
 | x :: r,s=>by
  simp only [walk,List.takeWhile_cons]
  cases h:p x with
  | true =>
   show walk (fun x s=>bif !(p x) then Sum.inl (g s) else Sum.inr (s++[x])) g r (s++[x])=_
   rw [Bz p g r (s++[x])]
   simp
  | false=>simp
theorem gE (f:al) (day:Int):ai f day=al.mk f.aR (f.af.takeWhile (fun s=>decide (s.day≤day)))
  (f.aN.filter (fun a=>decide (a.at_≤((f.af.takeWhile (fun s=>decide (s.day≤day))).length:Int)))) (f.aA.takeWhile (fun a=>decide (a.day≤day)))
  (f.facts.filter (fun x=>decide (x.at_≥0)&&decide (x.at_ < ((f.af.takeWhile (fun s=>decide (s.day≤day))).length:Int)))):=by
 simp only [ai,mD,Sk.dh,Sk.gd,Sk.iZ,Sk.eQ,Sk.iG,Sk.lU,Sk.cO,gn.xS,kk,kp,ef,j3]
 have h1:∀ (n:Nat) (d:al ⊕ List Sign),f.af.length < n→iter (fun i2:Nat × List Sign=>bif decide ((i2.1:Int) < (f.af.length:Int)) then (bif decide ((f.af.getD i2.1 default).day > day) then (Sum.inl (Sum.inr i2.2)) else (Sum.inr (i2.1+1,i2.2++[f.af.getD i2.1 default]))) else Sum.inl (Sum.inr i2.2)) d n (0,[])=(Sum.inr (f.af.takeWhile (fun s=>decide (s.day≤day))):al ⊕ List Sign):=by
  intro n d hn
  rw [oh f.af (fun s i=>(i,s)) (fun x s=>bif !(decide (x.day≤day)) then Sum.inl (Sum.inr s) else Sum.inr (s++[x])) (fun s=>Sum.inr s) (fun s i hi=>?_) (fun s=>?_) hn []]
  ·exact Bz _ (fun s=>(Sum.inr s:al ⊕ List Sign)) f.af []
  ·rw [decide_eq_true (by omega),cond_true]
   by_cases c:(f.af.getD i default).day > day
   ·rw [decide_eq_true c,decide_eq_false (by omega)]; rfl
   ·rw [decide_eq_false c,decide_eq_true (by omega)]; rfl
  ·rw [decide_eq_false (by omega),cond_false]
 rw [h1 _ _ (by simp)]
 have h2:∀ (n:Nat) (d:al ⊕ List bh),f.aA.length < n→iter (fun i2:Nat × List bh=>bif decide ((i2.1:Int) < (f.aA.length:Int)) then (bif decide ((f.aA.getD i2.1 default).day > day) then (Sum.inl (Sum.inr i2.2)) else (Sum.inr (i2.1+1,i2.2++[f.aA.getD i2.1 default]))) else Sum.inl (Sum.inr i2.2)) d n (0,[])=(Sum.inr (f.aA.takeWhile (fun s=>decide (s.day≤day))):al ⊕ List bh):=by
  intro n d hn
  rw [oh f.aA (fun s i=>(i,s)) (fun x s=>bif !(decide (x.day≤day)) then Sum.inl (Sum.inr s) else Sum.inr (s++[x])) (fun s=>Sum.inr s) (fun s i hi=>?_) (fun s=>?_) hn []]
  ·exact Bz _ (fun s=>(Sum.inr s:al ⊕ List bh)) f.aA []
  ·rw [decide_eq_true (by omega),cond_true]
   by_cases c:(f.aA.getD i default).day > day
   ·rw [decide_eq_true c,decide_eq_false (by omega)]; rfl
   ·rw [decide_eq_false c,decide_eq_true (by omega)]; rfl
  ·rw [decide_eq_false (by omega),cond_false]
 simp only [tq]
 rw [h2 _ _ (by simp)]
 simp only [tq]
 generalize f.af.takeWhile (fun s=>decide (s.day≤day))=b1
 have h3:∀ (n:Nat) (d:al ⊕ List di),f.aN.length < n→iter (fun i2:Nat × List di=>bif decide ((i2.1:Int) < (f.aN.length:Int)) then (bif decide ((f.aN.getD i2.1 default).at_≤(b1.length:Int)) then (Sum.inr (i2.1+1,i2.2++[f.aN.getD i2.1 default])) else (Sum.inr (i2.1+1,i2.2))) else Sum.inl (Sum.inr i2.2)) d n (0,[])=(Sum.inr (f.aN.filter (fun a=>decide (a.at_≤(b1.length:Int)))):al ⊕ List di):=by
  intro n d hn
  rw [oh f.aN (fun s i=>(i,s)) (fun x s=>Sum.inr (bif decide (x.at_≤(b1.length:Int)) then s++[x] else s)) (fun s=>Sum.inr s) (fun s i hi=>?_) (fun s=>?_) hn []]
  ·rw [j1 (fun (x:di) s=>bif decide (x.at_≤(b1.length:Int)) then s++[x] else s),oU]; rfl
  ·rw [decide_eq_true (by omega),cond_true]
   cases decide ((f.aN.getD i default).at_≤(b1.length:Int)) <;> rfl
  ·rw [decide_eq_false (by omega),cond_false]
 rw [h3 _ _ (by simp)]
 simp only [tq]
 have h4:∀ (n:Nat) (d:al ⊕ List Fact),f.facts.length < n→iter (fun i2:Nat × List Fact=>bif decide ((i2.1:Int) < (f.facts.length:Int)) then (bif (decide ((f.facts.getD i2.1 default).at_≥0)&&decide ((f.facts.getD i2.1 default).at_ < (b1.length:Int))) then (Sum.inr (i2.1+1,i2.2++[f.facts.getD i2.1 default])) else (Sum.inr (i2.1+1,i2.2))) else Sum.inl (Sum.inr i2.2)) d n (0,[])=(Sum.inr (f.facts.filter (fun a=>decide (a.at_≥0)&&decide (a.at_ < (b1.length:Int)))):al ⊕ List Fact):=by
  intro n d hn
  rw [oh f.facts (fun s i=>(i,s)) (fun x s=>Sum.inr (bif (decide (x.at_≥0)&&decide (x.at_ < (b1.length:Int))) then s++[x] else s)) (fun s=>Sum.inr s) (fun s i hi=>?_) (fun s=>?_) hn []]
  ·rw [j1 (fun (x:Fact) s=>bif (decide (x.at_≥0)&&decide (x.at_ < (b1.length:Int))) then s++[x] else s),oU]; rfl
  ·rw [decide_eq_true (by omega),cond_true]
   cases (decide ((f.facts.getD i default).at_≥0)&&decide ((f.facts.getD i default).at_ < (b1.length:Int))) <;> rfl
  ·rw [decide_eq_false (by omega),cond_false]
 rw [h4 _ _ (by simp)]
 rfl
theorem zd {α:Type} [Inhabited α] (p:α→Bool):∀ (l:List α) (i:Nat),i < (l.takeWhile p).length→(l.takeWhile p).getD i default=l.getD i default∧i < l.length∧p (l.getD i default)=true
 | [],i,h=>by simp at h
 | x :: r,i,h=>by
  rw [List.takeWhile_cons] at h ⊢
  cases hp:p x with
  | false=>rw [hp] at h; simp at h
  | true =>
   rw [hp] at h
   simp only [if_true,List.length_cons] at h ⊢
   cases i with
   | zero=>exact ⟨rfl,by simp,hp⟩
   | succ i =>
    have:=zd p r i (by omega)
    exact ⟨by simpa using this.1,by simpa using this.2.1,by simpa using this.2.2⟩
structure View where
 all:al
 now:al
 day:Int
 lead:List Int
 deriving Inhabited
def View.cells (c:View):List D:=c.all.cells++c.now.cells++[dI c.day,mW bU c.lead]
def View.jD (v:View):Prop:=∀ i,i < v.now.af.length→((v.now.af.getD i default).kind=3∨(v.now.af.getD i default).kind=4)→0≤(v.now.af.getD i default).for_∧(v.now.af.getD i default).for_ < (i:Int)
structure eu where
 view:View
 r:ah
 forum:Int
 due:Int
 deriving Inhabited
def eu.cells (c:eu):List D:=c.view.cells++c.r.cells++[dI c.forum,dI c.due]
section
open Go Go.Av Go.Shelf Go.Proofs
def Tryz.MV:Go.Shelf.Ren:=⟨fun | 5=>97 | 8=>51 | 7=>136 | 19=>95 | 20=>96 | 10=>169 | 11=>170 | 12=>171 | 13=>172 | 14=>173 | 15=>174 | 16=>175 | 17=>176 | 18=>177 | 30=>206 | 31=>132 | 32=>133 | 33=>207 | 34=>208 | 35=>209 | 40=>226 | n=>n,fun | 23=>64 | 25=>3 | 3=>3 | 32=>124 | 22=>64 | 0=>0 | 44=>195 | 46=>197 | 4=>4 | 36=>188 | 35=>187 | 41=>192 | 5=>5 | 9=>9 | 53=>236 | 57=>240 | 63=>275 | 64=>97 | n=>n,fun | n=>n⟩
theorem Tryz.PY:Go.Proofs.SlLaysM.n5 Tryz.prog Tryz.MV:={
 mixed:=by kernel_rfl
 f5:=⟨Tryz.f97.name,by decide,Tryz.func97.trans (congrArg some (by kernel_rfl))⟩
 f7:=⟨Tryz.f136.name,by decide,Tryz.func136.trans (congrArg some (by kernel_rfl))⟩
 f8:=Tryz.func51.trans (congrArg some (by kernel_rfl))
 f10:=⟨Tryz.f169.name,by decide,Tryz.func169.trans (congrArg some (by kernel_rfl))⟩
 f11:=⟨Tryz.f170.name,by decide,Tryz.func170.trans (congrArg some (by kernel_rfl))⟩
 f12:=⟨Tryz.f171.name,by decide,Tryz.func171.trans (congrArg some (by kernel_rfl))⟩
 f13:=⟨Tryz.f172.name,by decide,Tryz.func172.trans (congrArg some (by kernel_rfl))⟩
 f14:=⟨Tryz.f173.name,by decide,Tryz.func173.trans (congrArg some (by kernel_rfl))⟩
 f15:=⟨Tryz.f174.name,by decide,Tryz.func174.trans (congrArg some (by kernel_rfl))⟩
 f16:=⟨Tryz.f175.name,by decide,Tryz.func175.trans (congrArg some (by kernel_rfl))⟩
 f17:=⟨Tryz.f176.name,by decide,Tryz.func176.trans (congrArg some (by kernel_rfl))⟩
 f18:=⟨Tryz.f177.name,by decide,Tryz.func177.trans (congrArg some (by kernel_rfl))⟩
 f19:=Tryz.func95.trans (congrArg some (by kernel_rfl))
 f20:=Tryz.func96.trans (congrArg some (by kernel_rfl))
 f30:=⟨Tryz.f206.name,by decide,Tryz.func206.trans (congrArg some (by kernel_rfl))⟩
 f31:=Tryz.func132.trans (congrArg some (by kernel_rfl))
 f32:=Tryz.func133.trans (congrArg some (by kernel_rfl))
 f33:=⟨Tryz.f207.name,by decide,Tryz.func207.trans (congrArg some (by kernel_rfl))⟩
 f34:=⟨Tryz.f208.name,by decide,Tryz.func208.trans (congrArg some (by kernel_rfl))⟩
 f35:=⟨Tryz.f209.name,by decide,Tryz.func209.trans (congrArg some (by kernel_rfl))⟩
 f40:=⟨Tryz.f226.name,by decide,Tryz.func226.trans (congrArg some (by kernel_rfl))⟩
 t0:=Tryz.underlying0
 a0:=Tryz.isAgg0
 z0:=Tryz.sizeOf0
 v0:=Tryz.zeroValue0
 t3:=Tryz.underlying3
 a3:=Tryz.isAgg3
 z3:=Tryz.sizeOf3
 v3:=Tryz.zeroValue3
 t4:=Tryz.underlying4
 a4:=Tryz.isAgg4
 z4:=Tryz.sizeOf4
 v4:=Tryz.zeroValue4
 t5:=Tryz.underlying5
 a5:=Tryz.isAgg5
 z5:=Tryz.sizeOf5
 v5:=Tryz.zeroValue5
 t9:=Tryz.underlying9
 a9:=Tryz.isAgg9
 z9:=Tryz.sizeOf9
 v9:=Tryz.zeroValue9
 t22:=Tryz.underlying64
 a22:=Tryz.isAgg64
 z22:=Tryz.sizeOf64
 v22:=Tryz.zeroValue64
 t23:=Tryz.underlying64
 a23:=Tryz.isAgg64
 z23:=Tryz.sizeOf64
 v23:=Tryz.zeroValue64
 t25:=Tryz.underlying3
 a25:=Tryz.isAgg3
 z25:=Tryz.sizeOf3
 v25:=Tryz.zeroValue3
 t32:=Tryz.underlying124
 a32:=Tryz.isAgg124
 z32:=Tryz.sizeOf124
 v32:=Tryz.zeroValue124
 t35:=Tryz.underlying187
 a35:=Tryz.isAgg187
 z35:=Tryz.sizeOf187
 v35:=Tryz.zeroValue187
 t36:=Tryz.underlying188
 a36:=Tryz.isAgg188
 z36:=Tryz.sizeOf188
 v36:=Tryz.zeroValue188
 t41:=Tryz.underlying192
 a41:=Tryz.isAgg192
 z41:=Tryz.sizeOf192
 v41:=Tryz.zeroValue192
 t44:=Tryz.underlying195
 a44:=Tryz.isAgg195
 z44:=Tryz.sizeOf195
 v44:=Tryz.zeroValue195
 t46:=Tryz.underlying197
 a46:=Tryz.isAgg197
 z46:=Tryz.sizeOf197
 v46:=Tryz.zeroValue197
 t53:=Tryz.underlying236
 a53:=Tryz.isAgg236
 z53:=Tryz.sizeOf236
 v53:=Tryz.zeroValue236
 t57:=Tryz.underlying240
 a57:=Tryz.isAgg240
 z57:=Tryz.sizeOf240
 v57:=Tryz.zeroValue240
 t63:=Tryz.underlying275
 a63:=Tryz.isAgg275
 z63:=Tryz.sizeOf275
 v63:=Tryz.zeroValue275
 t64:=Tryz.underlying97
 a64:=Tryz.isAgg97
 z64:=Tryz.sizeOf97
 v64:=Tryz.zeroValue97 }
def qV (κ:Nat) (x:List Int):FB (List Int) :=
 ⟨Tryz.prog,97,[ow κ x],κ,bO 3 1 bU x,fun y=>bO 3 1 bU y,iH x,x.length < 4611686018427387904,
  fun h=>WV (by kernel_rfl) (fun blk off cap zs w=>AnyM.slices_Sort_int Tryz.PY blk off cap zs w) (fun p cap w=>AnyM.slices_Sort_int_none Tryz.PY p cap w) κ 3 x h,
  fun y=>y.length=x.length,by simp [iH]⟩
end
section
open Go Go.Av Go.Shelf Go.Proofs
def Tryz.FE:Go.Shelf.Ren:=⟨fun | 20=>98 | n=>n,fun | 22=>64 | 3=>3 | 4=>4 | 0=>0 | n=>n,fun | n=>n⟩
theorem Tryz.Fa:Go.Proofs.Lays2.n20 Tryz.prog Tryz.FE:={
 mixed:=by kernel_rfl
 f20:=Tryz.func98.trans (congrArg some (by kernel_rfl))
 t0:=Tryz.underlying0
 a0:=Tryz.isAgg0
 z0:=Tryz.sizeOf0
 v0:=Tryz.zeroValue0
 t3:=Tryz.underlying3
 a3:=Tryz.isAgg3
 z3:=Tryz.sizeOf3
 v3:=Tryz.zeroValue3
 t4:=Tryz.underlying4
 a4:=Tryz.isAgg4
 z4:=Tryz.sizeOf4
 v4:=Tryz.zeroValue4
 t22:=Tryz.underlying64
 a22:=Tryz.isAgg64
 z22:=Tryz.sizeOf64
 v22:=Tryz.zeroValue64
 i3:=by kernel_rfl }
theorem Il (x:List Int):(Lib.compact x).length≤x.length:=by
 unfold Lib.compact Lib.compactUpTo
 rw [List.length_map]
 exact Nat.le_trans (List.length_filter_le _ _) (by simp)
def mE (κ κ':Nat) (x:List Int):yO (List Int) :=
 ⟨Tryz.prog,98,[ow κ x],[(κ,bO 3 1 bU x)],fun y=>ow κ' y,fun y=>[(κ',bO 3 1 bU y)],Lib.compact x,True,
  fun _=>Pw (by kernel_rfl) x _ (Il x) (fun blk cap w h1 h2 h3=>Any.slices_Compact_int Tryz.Fa blk 0 cap x w h1 h2 h3) (fun p cap w=>Any.slices_Compact_int_empty Tryz.Fa p cap w) κ κ' 3,
  fun y=>y.length≤x.length,Il x⟩
end
end
end Go.Proofs.YtgmnlkccjlnnbaaGreatDoor
