/- The types of this program, as the evaluator looks at them. -/
import Derived.Test.YtgmnlkccjlnnbaaGreatDoorLd
import Derived.Test.YtgmnlkccjlnnbaaGreatDoorRows
import Derived.Shelf.SortM.Plain
import Derived.Shelf.SortM.SortNone
import Derived.Ground.SlgmProg
import Derived.Shelf.Slices.CompactI
import Derived.Ground.Names2Prog
set_option linter.unusedSimpArgs false
set_option linter.unusedVariables false
set_option maxHeartbeats 1000000
set_option maxRecDepth 100000
namespace Go.Proofs.YtgmnlkccjlnnbaaGreatDoor
noncomputable section
open Go Go.Av
instance:ym:=⟨[(0,[dI 6,dI 7,dI 10,dI 12,dI 13,dI 14,dI 15,dI 16,dI 20,dI 21])]⟩
def TT:List (Nat × TI):=[
 (3,⟨.int .i64,1,8,[.v (.int .i64 0)],false⟩),
 (4,⟨.bool,1,1,[.v (.bool false)],false⟩),
 (5,⟨.int .u8,1,1,[.v (.int .u8 0)],false⟩),
 (9,⟨.str,1,16,[.v (.string ⟨#[]⟩)],false⟩),
 (22,⟨.slice 9,1,24,[.v (.slice none 0 0)],false⟩),
 (23,⟨.slice 159,1,24,[.v (.slice none 0 0)],false⟩),
 (24,⟨.slice 169,1,24,[.v (.slice none 0 0)],false⟩),
 (25,⟨.slice 171,1,24,[.v (.slice none 0 0)],false⟩),
 (26,⟨.slice 111,1,24,[.v (.slice none 0 0)],false⟩),
 (27,⟨.slice 173,1,24,[.v (.slice none 0 0)],false⟩),
 (28,⟨.slice 175,1,24,[.v (.slice none 0 0)],false⟩),
 (29,⟨.slice 177,1,24,[.v (.slice none 0 0)],false⟩),
 (31,⟨.struct [(0,22),(1,23),(2,24),(3,25),(4,26),(5,27),(6,28),(7,29)],8,192,[.v (.slice none 0 0),.v (.slice none 0 0),.v (.slice none 0 0),.v (.slice none 0 0),.v (.slice none 0 0),.v (.slice none 0 0),.v (.slice none 0 0),.v (.slice none 0 0)],false⟩),
 (33,⟨.struct [(0,3),(1,3),(2,3)],3,24,[.v (.int .i64 0),.v (.int .i64 0),.v (.int .i64 0)],true⟩),
 (35,⟨.struct [(0,3),(1,3),(2,3),(3,3),(4,3),(5,33),(8,3),(9,3),(10,3),(11,3),(12,3),(13,3),(14,3)],15,120,[.v (.int .i64 0),.v (.int .i64 0),.v (.int .i64 0),.v (.int .i64 0),.v (.int .i64 0),.v (.int .i64 0),.v (.int .i64 0),.v (.int .i64 0),.v (.int .i64 0),.v (.int .i64 0),.v (.int .i64 0),.v (.int .i64 0),.v (.int .i64 0),.v (.int .i64 0),.v (.int .i64 0)],false⟩),
 (36,⟨.slice 96,1,24,[.v (.slice none 0 0)],false⟩),
 (37,⟨.slice 115,1,24,[.v (.slice none 0 0)],false⟩),
 (38,⟨.slice 62,1,24,[.v (.slice none 0 0)],false⟩),
 (39,⟨.slice 45,1,24,[.v (.slice none 0 0)],false⟩),
 (41,⟨.struct [(0,35),(15,36),(16,37),(17,38),(18,39)],19,216,[.v (.int .i64 0),.v (.int .i64 0),.v (.int .i64 0),.v (.int .i64 0),.v (.int .i64 0),.v (.int .i64 0),.v (.int .i64 0),.v (.int .i64 0),.v (.int .i64 0),.v (.int .i64 0),.v (.int .i64 0),.v (.int .i64 0),.v (.int .i64 0),.v (.int .i64 0),.v (.int .i64 0),.v (.slice none 0 0),.v (.slice none 0 0),.v (.slice none 0 0),.v (.slice none 0 0)],false⟩),
 (45,⟨.struct [(0,3),(1,3),(2,3)],3,24,[.v (.int .i64 0),.v (.int .i64 0),.v (.int .i64 0)],true⟩),
 (47,⟨.slice 50,1,24,[.v (.slice none 0 0)],false⟩),
 (50,⟨.struct [(0,3),(1,3),(2,3),(3,3),(4,3),(5,3),(6,3),(7,3),(8,3)],9,72,[.v (.int .i64 0),.v (.int .i64 0),.v (.int .i64 0),.v (.int .i64 0),.v (.int .i64 0),.v (.int .i64 0),.v (.int .i64 0),.v (.int .i64 0),.v (.int .i64 0)],true⟩),
 (52,⟨.slice 55,1,24,[.v (.slice none 0 0)],false⟩),
 (55,⟨.struct [(0,3),(1,3),(2,3),(3,3)],4,32,[.v (.int .i64 0),.v (.int .i64 0),.v (.int .i64 0),.v (.int .i64 0)],true⟩),
 (58,⟨.slice 66,1,24,[.v (.slice none 0 0)],false⟩),
 (62,⟨.struct [(0,3),(1,3),(2,3),(3,3),(4,3),(5,3),(6,3),(7,3),(8,3)],9,72,[.v (.int .i64 0),.v (.int .i64 0),.v (.int .i64 0),.v (.int .i64 0),.v (.int .i64 0),.v (.int .i64 0),.v (.int .i64 0),.v (.int .i64 0),.v (.int .i64 0)],true⟩),
 (64,⟨.slice 3,1,24,[.v (.slice none 0 0)],false⟩),
 (66,⟨.struct [(0,3),(1,3),(2,3),(3,3)],4,32,[.v (.int .i64 0),.v (.int .i64 0),.v (.int .i64 0),.v (.int .i64 0)],true⟩),
 (67,⟨.int .i64,1,8,[.v (.int .i64 0)],false⟩),
 (71,⟨.struct [(0,4),(1,3)],2,16,[.v (.bool false),.v (.int .i64 0)],true⟩),
 (73,⟨.map 3 3,1,8,[.v (.map none)],false⟩),
 (77,⟨.other,1,8,[.v .nilFunc],false⟩),
 (79,⟨.other,1,8,[.v .nilFunc],false⟩),
 (81,⟨.struct [(0,41),(19,41),(38,3),(39,64)],40,464,[.v (.int .i64 0),.v (.int .i64 0),.v (.int .i64 0),.v (.int .i64 0),.v (.int .i64 0),.v (.int .i64 0),.v (.int .i64 0),.v (.int .i64 0),.v (.int .i64 0),.v (.int .i64 0),.v (.int .i64 0),.v (.int .i64 0),.v (.int .i64 0),.v (.int .i64 0),.v (.int .i64 0),.v (.slice none 0 0),.v (.slice none 0 0),.v (.slice none 0 0),.v (.slice none 0 0),.v (.int .i64 0),.v (.int .i64 0),.v (.int .i64 0),.v (.int .i64 0),.v (.int .i64 0),.v (.int .i64 0),.v (.int .i64 0),.v (.int .i64 0),.v (.int .i64 0),.v (.int .i64 0),.v (.int .i64 0),.v (.int .i64 0),.v (.int .i64 0),.v (.int .i64 0),.v (.int .i64 0),.v (.slice none 0 0),.v (.slice none 0 0),.v (.slice none 0 0),.v (.slice none 0 0),.v (.int .i64 0),.v (.slice none 0 0)],false⟩),
 (83,⟨.struct [(0,81),(40,31),(48,3),(49,3)],50,672,[.v (.int .i64 0),.v (.int .i64 0),.v (.int .i64 0),.v (.int .i64 0),.v (.int .i64 0),.v (.int .i64 0),.v (.int .i64 0),.v (.int .i64 0),.v (.int .i64 0),.v (.int .i64 0),.v (.int .i64 0),.v (.int .i64 0),.v (.int .i64 0),.v (.int .i64 0),.v (.int .i64 0),.v (.slice none 0 0),.v (.slice none 0 0),.v (.slice none 0 0),.v (.slice none 0 0),.v (.int .i64 0),.v (.int .i64 0),.v (.int .i64 0),.v (.int .i64 0),.v (.int .i64 0),.v (.int .i64 0),.v (.int .i64 0),.v (.int .i64 0),.v (.int .i64 0),.v (.int .i64 0),.v (.int .i64 0),.v (.int .i64 0),.v (.int .i64 0),.v (.int .i64 0),.v (.int .i64 0),.v (.slice none 0 0),.v (.slice none 0 0),.v (.slice none 0 0),.v (.slice none 0 0),.v (.int .i64 0),.v (.slice none 0 0),.v (.slice none 0 0),.v (.slice none 0 0),.v (.slice none 0 0),.v (.slice none 0 0),.v (.slice none 0 0),.v (.slice none 0 0),.v (.slice none 0 0),.v (.slice none 0 0),.v (.int .i64 0),.v (.int .i64 0)],false⟩),
 (86,⟨.slice 131,1,24,[.v (.slice none 0 0)],false⟩),
 (93,⟨.struct [(0,3),(1,3),(2,3)],3,24,[.v (.int .i64 0),.v (.int .i64 0),.v (.int .i64 0)],true⟩),
 (96,⟨.struct [(0,3),(1,3),(2,3),(3,3),(4,3),(5,3),(6,3),(7,3),(8,3)],9,72,[.v (.int .i64 0),.v (.int .i64 0),.v (.int .i64 0),.v (.int .i64 0),.v (.int .i64 0),.v (.int .i64 0),.v (.int .i64 0),.v (.int .i64 0),.v (.int .i64 0)],true⟩),
 (100,⟨.struct [(0,3),(1,3),(2,3),(3,3),(4,3),(5,3),(6,3)],7,56,[.v (.int .i64 0),.v (.int .i64 0),.v (.int .i64 0),.v (.int .i64 0),.v (.int .i64 0),.v (.int .i64 0),.v (.int .i64 0)],true⟩),
 (108,⟨.slice 234,1,24,[.v (.slice none 0 0)],false⟩),
 (109,⟨.slice 165,1,24,[.v (.slice none 0 0)],false⟩),
 (111,⟨.struct [(0,9),(1,4),(2,108),(3,109)],4,72,[.v (.string ⟨#[]⟩),.v (.bool false),.v (.slice none 0 0),.v (.slice none 0 0)],false⟩),
 (115,⟨.struct [(0,3),(1,3)],2,16,[.v (.int .i64 0),.v (.int .i64 0)],true⟩),
 (120,⟨.other,1,8,[.v .nilFunc],false⟩),
 (121,⟨.map 3 4,1,8,[.v (.map none)],false⟩),
 (124,⟨.int .u64,1,8,[.v (.int .u64 0)],false⟩),
 (128,⟨.struct [(0,31),(8,3),(9,3),(10,41),(29,3),(30,3)],31,440,[.v (.slice none 0 0),.v (.slice none 0 0),.v (.slice none 0 0),.v (.slice none 0 0),.v (.slice none 0 0),.v (.slice none 0 0),.v (.slice none 0 0),.v (.slice none 0 0),.v (.int .i64 0),.v (.int .i64 0),.v (.int .i64 0),.v (.int .i64 0),.v (.int .i64 0),.v (.int .i64 0),.v (.int .i64 0),.v (.int .i64 0),.v (.int .i64 0),.v (.int .i64 0),.v (.int .i64 0),.v (.int .i64 0),.v (.int .i64 0),.v (.int .i64 0),.v (.int .i64 0),.v (.int .i64 0),.v (.int .i64 0),.v (.slice none 0 0),.v (.slice none 0 0),.v (.slice none 0 0),.v (.slice none 0 0),.v (.int .i64 0),.v (.int .i64 0)],false⟩),
 (131,⟨.struct [(0,3),(1,3),(2,3),(3,3),(4,3),(5,3),(6,4)],7,56,[.v (.int .i64 0),.v (.int .i64 0),.v (.int .i64 0),.v (.int .i64 0),.v (.int .i64 0),.v (.int .i64 0),.v (.bool false)],true⟩),
 (134,⟨.struct [(0,64),(1,3),(2,3),(3,4),(4,3),(5,64)],6,80,[.v (.slice none 0 0),.v (.int .i64 0),.v (.int .i64 0),.v (.bool false),.v (.int .i64 0),.v (.slice none 0 0)],false⟩),
 (141,⟨.other,1,8,[.v .nilFunc],false⟩),
 (143,⟨.struct [(0,3),(1,3),(2,3),(3,3)],4,32,[.v (.int .i64 0),.v (.int .i64 0),.v (.int .i64 0),.v (.int .i64 0)],true⟩),
 (148,⟨.struct [(0,41),(19,3),(20,3),(21,3),(22,3),(23,3)],24,256,[.v (.int .i64 0),.v (.int .i64 0),.v (.int .i64 0),.v (.int .i64 0),.v (.int .i64 0),.v (.int .i64 0),.v (.int .i64 0),.v (.int .i64 0),.v (.int .i64 0),.v (.int .i64 0),.v (.int .i64 0),.v (.int .i64 0),.v (.int .i64 0),.v (.int .i64 0),.v (.int .i64 0),.v (.slice none 0 0),.v (.slice none 0 0),.v (.slice none 0 0),.v (.slice none 0 0),.v (.int .i64 0),.v (.int .i64 0),.v (.int .i64 0),.v (.int .i64 0),.v (.int .i64 0)],false⟩),
 (151,⟨.struct [(0,71),(2,3),(3,64),(4,67)],5,56,[.v (.bool false),.v (.int .i64 0),.v (.int .i64 0),.v (.slice none 0 0),.v (.int .i64 0)],false⟩),
 (156,⟨.struct [(0,3),(1,3),(2,3),(3,3),(4,3)],5,40,[.v (.int .i64 0),.v (.int .i64 0),.v (.int .i64 0),.v (.int .i64 0),.v (.int .i64 0)],true⟩),
 (159,⟨.struct [(0,9),(1,3),(2,3),(3,64),(4,64),(5,64)],6,104,[.v (.string ⟨#[]⟩),.v (.int .i64 0),.v (.int .i64 0),.v (.slice none 0 0),.v (.slice none 0 0),.v (.slice none 0 0)],false⟩),
 (161,⟨.slice 163,1,24,[.v (.slice none 0 0)],false⟩),
 (163,⟨.struct [(0,3),(1,3),(2,161)],3,40,[.v (.int .i64 0),.v (.int .i64 0),.v (.slice none 0 0)],false⟩),
 (165,⟨.struct [(0,3),(1,163)],4,48,[.v (.int .i64 0),.v (.int .i64 0),.v (.int .i64 0),.v (.slice none 0 0)],false⟩),
 (169,⟨.struct [(0,3)],1,8,[.v (.int .i64 0)],true⟩),
 (171,⟨.struct [(0,9),(1,3),(2,3)],3,32,[.v (.string ⟨#[]⟩),.v (.int .i64 0),.v (.int .i64 0)],true⟩),
 (173,⟨.struct [(0,3),(1,3),(2,3)],3,24,[.v (.int .i64 0),.v (.int .i64 0),.v (.int .i64 0)],true⟩),
 (175,⟨.struct [(0,3),(1,3),(2,3),(3,3),(4,3)],5,40,[.v (.int .i64 0),.v (.int .i64 0),.v (.int .i64 0),.v (.int .i64 0),.v (.int .i64 0)],true⟩),
 (177,⟨.struct [(0,3),(1,3),(2,3)],3,24,[.v (.int .i64 0),.v (.int .i64 0),.v (.int .i64 0)],true⟩),
 (179,⟨.other,1,8,[.v .nilFunc],false⟩),
 (187,⟨.int .i64,1,8,[.v (.int .i64 0)],false⟩),
 (195,⟨.int .u32,1,4,[.v (.int .u32 0)],false⟩),
 (197,⟨.int .u64,1,8,[.v (.int .u64 0)],false⟩),
 (213,⟨.struct [(0,31),(8,3),(9,41),(28,3),(29,3),(30,3)],31,440,[.v (.slice none 0 0),.v (.slice none 0 0),.v (.slice none 0 0),.v (.slice none 0 0),.v (.slice none 0 0),.v (.slice none 0 0),.v (.slice none 0 0),.v (.slice none 0 0),.v (.int .i64 0),.v (.int .i64 0),.v (.int .i64 0),.v (.int .i64 0),.v (.int .i64 0),.v (.int .i64 0),.v (.int .i64 0),.v (.int .i64 0),.v (.int .i64 0),.v (.int .i64 0),.v (.int .i64 0),.v (.int .i64 0),.v (.int .i64 0),.v (.int .i64 0),.v (.int .i64 0),.v (.int .i64 0),.v (.slice none 0 0),.v (.slice none 0 0),.v (.slice none 0 0),.v (.slice none 0 0),.v (.int .i64 0),.v (.int .i64 0),.v (.int .i64 0)],false⟩),
 (218,⟨.slice 71,1,24,[.v (.slice none 0 0)],false⟩),
 (225,⟨.struct [(0,3),(1,3)],2,16,[.v (.int .i64 0),.v (.int .i64 0)],true⟩),
 (234,⟨.struct [(0,3),(1,3),(2,4)],3,24,[.v (.int .i64 0),.v (.int .i64 0),.v (.bool false)],true⟩),
 (236,⟨.int .u64,1,8,[.v (.int .u64 0)],false⟩),
 (240,⟨.other,1,8,[.v (.pointer none)],false⟩),
 (251,⟨.other,1,8,[.v .nilFunc],false⟩),
 (254,⟨.struct [(0,4),(1,3)],2,16,[.v (.bool false),.v (.int .i64 0)],true⟩),
 (290,⟨.array 10 3,10,80,[.v (.int .i64 0),.v (.int .i64 0),.v (.int .i64 0),.v (.int .i64 0),.v (.int .i64 0),.v (.int .i64 0),.v (.int .i64 0),.v (.int .i64 0),.v (.int .i64 0),.v (.int .i64 0)],false⟩),
 (294,⟨.other,1,8,[.v .nilFunc],false⟩),
 (298,⟨.struct [(0,218)],1,24,[.v (.slice none 0 0)],false⟩),
 (304,⟨.struct [(0,197),(1,197)],2,16,[.v (.int .u64 0),.v (.int .u64 0)],true⟩),
 (306,⟨.other,1,16,[.v .nilIface],false⟩),
 (314,⟨.other,1,8,[.v .nilFunc],false⟩),
 (319,⟨.slice 64,1,24,[.v (.slice none 0 0)],false⟩),
 (331,⟨.struct [(0,64),(1,3)],2,32,[.v (.slice none 0 0),.v (.int .i64 0)],false⟩),
 (335,⟨.slice 5,1,24,[.v (.slice none 0 0)],false⟩)]
theorem tok:mW Tryz.prog TT:=mW.of (by kernel_rfl)
theorem mixed:Tryz.prog.follows .mixedOrders=true:=by kernel_rfl
structure jA where
 name:ByteArray
 order:Int
 az:Int
 rest:List Int
 fO:List Int
 shut:List Int
 deriving Inhabited
def jA.cells (c:jA):List D:=[.v (.string c.name),dI c.order,dI c.az,mV bU c.rest,mV bU c.fO,mV bU c.shut]
structure mY where
 Pt:Int
 deriving Inhabited
def mY.cells (c:mY):List D:=[dI c.Pt]
structure Aw where
 name:ByteArray
 bZ:Int
 group:Int
 deriving Inhabited
def Aw.cells (c:Aw):List D:=[.v (.string c.name),dI c.bZ,dI c.group]
structure Choice where
 ask:Int
 cz:Int
 whole:Bool
 deriving Inhabited
def Choice.cells (c:Choice):List D:=[dI c.ask,dI c.cz,dB c.whole]
structure Term where
 op:Int
 n:Int
 args:List Term
instance:Inhabited Term:=⟨⟨default,default,default⟩⟩
mutual
def Term.Pu:Term→D
 | ⟨_,_,args⟩=>.sl args.length (Term.HO args)
def Term.HO:List Term→Nat→List D
 | [],_=>[]
 | x :: _,0=>[dI x.op,dI x.n,Term.Pu x]
 | _ :: r,i+1=>Term.HO r i
end
def Term.kz (x:Term):List D:=[dI x.op,dI x.n,Term.Pu x]
theorem Term.D1:∀ (l:List Term) (i:Nat),i < l.length→Term.HO l i=(l.getD i default).kz
 | [],i,h=>absurd h (by simp)
 | x :: r,0,_=>by simp [Term.HO,Term.kz]
 | x :: r,i+1,h=>by simpa [Term.HO] using Term.D1 r i (by simpa using h)
def Term.cells (c:Term):List D:=[dI c.op,dI c.n,mV Term.kz c.args]
theorem Term.Pv (c:Term):rT (Term.Pu c) (mV Term.kz c.args)∧rT (mV Term.kz c.args) (Term.Pu c):=by
 obtain ⟨op,n,args⟩:=c
 unfold Term.Pu
 exact ⟨rT.sl rfl (fun i hi=>Term.D1 args i hi),rT.sl rfl (fun i hi=>(Term.D1 args i hi).symm)⟩
theorem Term.HP (c:Term):wL c.kz c.cells:=.cons .rfl' (.cons .rfl' (.cons ((Term.Pv c).1) (.nil)))
mutual
def Term.depth:Term→Nat
 | ⟨_,_,args⟩=>Term.eR args+1
def Term.eR:List Term→Nat
 | []=>0
 | x :: r=>max x.depth (Term.eR r)
end
theorem Term.Lq:∀ (l:List Term) (i:Nat),i < l.length→(l.getD i default).depth≤Term.eR l
 | [],i,h=>absurd h (by simp)
 | x :: r,0,_=>by simp [Term.eR]; omega
 | x :: r,i+1,h=>by
  have:=Term.Lq r i (by simpa using h)
  simp [Term.eR] at this ⊢
  omega
theorem Term.kA (c:Term) (i:Nat) (h:i < c.args.length):(c.args.getD i default).depth < c.depth:=by
 obtain ⟨op,n,args⟩:=c
 have:=Term.Lq args i h
 simp only [Term.depth]
 omega
theorem Term.tp (c:Term):0 < c.depth:=by
 obtain ⟨op,n,args⟩:=c
 simp only [Term.depth]
 omega
structure tJ where
 ask:Int
 term:Term
 deriving Inhabited
def tJ.cells (c:tJ):List D:=[dI c.ask]++c.term.cells
structure Order where
 name:ByteArray
 GH:Bool
 aV:List Choice
 rules:List tJ
 deriving Inhabited
def Order.cells (c:Order):List D:=[.v (.string c.name),dB c.GH,mV Choice.cells c.aV,mV tJ.cells c.rules]
structure dC where
 from_:Int
 cj:Int
 days:Int
 deriving Inhabited
def dC.cells (c:dC):List D:=[dI c.from_,dI c.cj,dI c.days]
def dC.E:Pk dC:=⟨dC.cells,3,fun _=>rfl,fun _=>rfl⟩
structure oI where
 from_:Int
 cj:Int
 num:Int
 den:Int
 since:Int
 deriving Inhabited
def oI.cells (c:oI):List D:=[dI c.from_,dI c.cj,dI c.num,dI c.den,dI c.since]
structure Halt where
 order:Int
 from_:Int
 cj:Int
 deriving Inhabited
def Halt.cells (c:Halt):List D:=[dI c.order,dI c.from_,dI c.cj]
structure ah where
 ck:List ByteArray
 aI:List jA
 fP:List mY
 bm:List Aw
 aE:List Order
 aM:List dC
 bE:List oI
 ep:List Halt
 deriving Inhabited
def ah.cells (c:ah):List D:=[mV jz c.ck,mV jA.cells c.aI,mV mY.cells c.fP,mV Aw.cells c.bm,mV Order.cells c.aE,mV dC.cells c.aM,mV oI.cells c.bE,mV Halt.cells c.ep]
def ah.Small (r:ah):Prop:=r.ck.length≤1000000∧r.aI.length≤1000000∧r.fP.length≤1000000∧r.bm.length≤1000000∧r.aE.length≤1000000∧r.aM.length≤1000000∧r.bE.length≤1000000∧r.ep.length≤1000000 ∧
 ∀ i,i < r.aE.length→(r.aE.getD i default).aV.length≤1000000∧(r.aE.getD i default).rules.length≤1000000
def ah.cG (r:ah):Prop:=∀ i j,i < r.aE.length→j < (r.aE.getD i default).aV.length→0≤((r.aE.getD i default).aV.getD j default).cz∧((r.aE.getD i default).aV.getD j default).cz < 5
def ah.dQ (r:ah):Prop:=∀ i,i < r.ep.length→(r.ep.getD i default).cj≤100000
structure rD where
 kind:Int
 n:Int
 unit:Int
 deriving Inhabited
def rD.cells (c:rD):List D:=[dI c.kind,dI c.n,dI c.unit]
structure qc where
 Bo:Int
 mZ:Int
 kq:Int
 sum:Int
 az:Int
 cR:rD
 day:Int
 bZ:Int
 yk:Int
 need:Int
 lf:Int
 flags:Int
 parts:Int
 deriving Inhabited
def qc.cells (c:qc):List D:=[dI c.Bo,dI c.mZ,dI c.kq,dI c.sum,dI c.az]++c.cR.cells++[dI c.day,dI c.bZ,dI c.yk,dI c.need,dI c.lf,dI c.flags,dI c.parts]
structure Sign where
 kind:Int
 part:Int
 dt:Int
 for_:Int
 cj:Int
 sum:Int
 day:Int
 bZ:Int
 flags:Int
 deriving Inhabited
def Sign.cells (c:Sign):List D:=[dI c.kind,dI c.part,dI c.dt,dI c.for_,dI c.cj,dI c.sum,dI c.day,dI c.bZ,dI c.flags]
def Sign.E:Pk Sign:=⟨Sign.cells,9,fun _=>rfl,fun _=>rfl⟩
structure di where
 at_:Int
 sum:Int
 deriving Inhabited
def di.cells (c:di):List D:=[dI c.at_,dI c.sum]
def di.E:Pk di:=⟨di.cells,2,fun _=>rfl,fun _=>rfl⟩
structure bh where
 kind:Int
 dt:Int
 cj:Int
 part:Int
 at_:Int
 sum:Int
 day:Int
 bZ:Int
 form:Int
 deriving Inhabited
def bh.cells (c:bh):List D:=[dI c.kind,dI c.dt,dI c.cj,dI c.part,dI c.at_,dI c.sum,dI c.day,dI c.bZ,dI c.form]
def bh.E:Pk bh:=⟨bh.cells,9,fun _=>rfl,fun _=>rfl⟩
structure Fact where
 kind:Int
 at_:Int
 n:Int
 deriving Inhabited
def Fact.cells (c:Fact):List D:=[dI c.kind,dI c.at_,dI c.n]
def Fact.E:Pk Fact:=⟨Fact.cells,3,fun _=>rfl,fun _=>rfl⟩
structure al where
 aR:qc
 af:List Sign
 aN:List di
 aA:List bh
 facts:List Fact
 deriving Inhabited
def al.cells (c:al):List D:=c.aR.cells++[mV Sign.cells c.af,mV di.cells c.aN,mV bh.cells c.aA,mV Fact.cells c.facts]
def al.Small (f:al):Prop:=f.af.length≤1000000∧f.aN.length≤1000000∧f.aA.length≤1000000∧f.facts.length≤1000000
def ah.iH (r:ah):Prop:=∀ i,i < r.bm.length→0≤(r.bm.getD i default).bZ∧(r.bm.getD i default).bZ < r.aI.length
def ah.dj (r:ah):Prop:=∀ i,i < r.bE.length→(1≤(r.bE.getD i default).num∧(r.bE.getD i default).num≤1073741824)∧1≤(r.bE.getD i default).den∧(r.bE.getD i default).den≤1073741824
abbrev jJ (n:Int):Prop:=0≤n∧n≤1099511627776
def al.pv (f:al):Prop:=jJ f.aR.sum∧(∀ q,q < f.aN.length→jJ (f.aN.getD q default).sum)∧(∀ q,q < f.af.length→jJ (f.af.getD q default).sum)∧∀ q,q < f.aA.length→jJ (f.aA.getD q default).sum
def Pw (f:al) (q:Nat):Prop:=jJ (f.af.getD q default).sum∧(0≤(f.af.getD q default).kind∧(f.af.getD q default).kind≤4)∧((f.af.getD q default).kind=0↔q=0)∧((f.af.getD q default).kind=3∨(f.af.getD q default).kind=4→0≤(f.af.getD q default).for_∧(f.af.getD q default).for_ < (q:Int))
def xQ (r:ah) (f:al) (q:Nat):Prop:=(0≤(f.af.getD q default).dt∧(f.af.getD q default).dt < r.bm.length)∧(q≠0→(f.af.getD (q - 1) default).day≤(f.af.getD q default).day)∧(f.af.getD q default).day≤100000∧(q=0→(f.af.getD q default).day=f.aR.day)∧(0≤(f.af.getD q default).part∧(f.af.getD q default).part≤f.aR.parts - 1)∧Pw f q
def yN (f:al) (q:Nat):Prop:=jJ (f.aA.getD q default).sum∧(f.aR.day≤(f.aA.getD q default).day∧(f.aA.getD q default).day≤100000)∧(q≠0→(f.aA.getD (q - 1) default).day≤(f.aA.getD q default).day)∧((f.aA.getD q default).kind=6→(0≤(f.aA.getD q default).at_∧(f.aA.getD q default).at_ < f.af.length)∧(f.af.getD (f.aA.getD q default).at_.toNat default).day≤(f.aA.getD q default).day∧(f.af.getD (f.aA.getD q default).at_.toNat default).dt=(f.aA.getD q default).dt)
def uH (r:ah) (b:qc):Prop:=(1≤b.sum∧b.sum≤1099511627776)∧(0≤b.yk∧b.yk < r.aI.length)∧(0≤b.day∧b.day≤100000)∧(1≤b.parts∧b.parts≤4)∧(0≤b.az∧b.az < r.ck.length)
def cm (r:ah) (f:al):Prop:=uH r f.aR∧(f.af.length≤40∧f.af.length≠0∧f.aN.length≤4∧f.aA.length≤100∧f.facts.length≤300)∧(∀ q,q < f.af.length→xQ r f q)∧(∀ q,q < f.aN.length→jJ (f.aN.getD q default).sum)∧∀ q,q < f.aA.length→yN f q
theorem cm.small {r:ah} {f:al} (h:cm r f):f.Small:=by have:=h.2.1; unfold al.Small; omega
theorem cm.UH {r:ah} {f:al} (h:cm r f):f.pv:=⟨⟨by have:=h.1.1; omega,h.1.1.2⟩,h.2.2.2.1,fun q hq=>(h.2.2.1 q hq).2.2.2.2.2.1,fun q hq=>(h.2.2.2.2 q hq).1⟩
theorem tK {α:Type} [Inhabited α] {l:List α} {P:α→Prop}:(∀ q,q < l.length→P (l.getD q default))↔∀ x,x∈l→P x:=by
 constructor
 ·intro h x hx
  obtain ⟨i,hi,rfl⟩:=List.getElem_of_mem hx
  have:=h i hi
  rwa [show l.getD i default=l[i] by simp [List.getD,hi]] at this
 ·exact fun h q hq=>h _ (tI hq _)
structure Claim where
 aF:Int
 ak:Int
 part:Int
 sign:Int
 cz:Int
 dR:Int
 sum:Int
 az:Int
 state:Int
 deriving Inhabited
def Claim.cells (c:Claim):List D:=[dI c.aF,dI c.ak,dI c.part,dI c.sign,dI c.cz,dI c.dR,dI c.sum,dI c.az,dI c.state]
def Claim.E:Pk Claim:=⟨Claim.cells,9,fun _=>rfl,fun _=>rfl⟩
def pw:Sk ((List Claim)) :=
 .r 1 (.o [.fU (gA Claim.E [({ aF:=1,ak:=3,part:=0,sign:=1,cz:=2,dR:=0,sum:=100,az:=0,state:=1 }:Claim),({ aF:=2,ak:=3,part:=0,sign:=2,cz:=2,dR:=1,sum:=100,az:=0,state:=1 }:Claim),({ aF:=0,ak:=3,part:=0,sign:=0,cz:=2,dR:=2,sum:=100,az:=0,state:=1 }:Claim)])]) fun _ =>
 .fin [({ aF:=1,ak:=3,part:=0,sign:=1,cz:=2,dR:=0,sum:=100,az:=0,state:=1 }:Claim),({ aF:=2,ak:=3,part:=0,sign:=2,cz:=2,dR:=1,sum:=100,az:=0,state:=1 }:Claim),({ aF:=0,ak:=3,part:=0,sign:=0,cz:=2,dR:=2,sum:=100,az:=0,state:=1 }:Claim)]
def yO:(List Claim):=(pw).val
theorem D2:(fun (x:(List Claim))=>x.length=3) (yO):=(show yO.length=3 by kernel_rfl)
theorem HR:(pw).bz (fun _=>True):=by
 unfold pw
 exact pq
def AZ:gm ((List Claim)):=kk tok mixed Tryz.func11 [] (fun x=>lv Claim.cells x) false (pw) (yO) (fun (_:True)=>HR) (fun (x:(List Claim))=>x.length=3) (D2)
structure Step where
 aF:Int
 ak:Int
 sign:Int
 sum:Int
 deriving Inhabited
def Step.cells (c:Step):List D:=[dI c.aF,dI c.ak,dI c.sign,dI c.sum]
def Step.E:Pk Step:=⟨Step.cells,4,fun _=>rfl,fun _=>rfl⟩
def iL (s:List Claim):Sk ((List Claim)) :=
 .Q6 0 s.length
 (.JQ <|
 .fin [])
 (.JR <|
 .r 3 (.aq (.o [.fU (gA Claim.E ([]:List Claim))]) (.aq (.o [.fU (oe Claim.E ([]:List Claim) s)]) (.aq (.t (Claim.E.src s)) (.p (yi (([]:List Claim).length) s.length 72))))) fun _ =>
 .fin (([]:List Claim)++s))
def py s:=(iL s).val
theorem D3 (s:List Claim):(iL s).cZ (fun (x:(List Claim))=>x.length=s.length∧x=s):=by
 unfold iL
 simp [Sk.cZ,gA,oe]
theorem uI (s:List Claim):(fun (x:(List Claim))=>x.length=s.length∧x=s) (py s):=have h:=Sk.de _ (D3 s); h
theorem Fz (s:List Claim) (hs:s.length≤1000000000):(iL s).bz (fun _=>True):=by
 unfold iL
 exact oh
theorem D4 (s:List Claim) (hs:s.length≤1000000000):gr Tryz.prog 30 [lv Claim.cells s] [] (ow 777777 (py s)) [(777777,bO 50 9 Claim.cells (py s))] :=
 gr.sk tok mixed (fun x=>ow 777777 x) (fun x=>[(777777,bO 50 9 Claim.cells x)]) Tryz.func30 rfl (by kernel_rfl) 3000 (iL s) (by kernel_rfl) (Fz s hs)
def nG (κ:Nat) (s:List Claim):iX ((List Claim)):=⟨Tryz.prog,30,[lv Claim.cells s],fun x=>ow κ x,fun x=>[(κ,bO 50 9 Claim.cells x)],py s,(s.length≤1000000000),fun h=>gr.WI κ (D4 s h),fun (x:(List Claim))=>x.length=s.length∧x=s,uI s⟩
def sL (a:bh) (ba:Bool) (c_:Claim):Sk (Bool) :=
 .fin ((c_.ak == a.cj)||((c_.ak == (-1))&&ba))
def dE a ba c_:=(sL a ba c_).val
theorem iZ (a:bh) (ba:Bool) (c_:Claim):dE a ba c_=((c_.ak == a.cj)||((c_.ak == (-1))&&ba)):=rfl
theorem Ms (a:bh) (ba:Bool) (c_:Claim):(sL a ba c_).bz (fun _=>True):=by
 unfold sL
 exact pq
def uJ a ba c_:=kk tok mixed Tryz.func31 [av a.cells,bv ba,av c_.cells] (fun x=>bv x) true (sL a ba c_) (dE a ba c_) (u0 (Ms a ba c_))
structure Key where
 aF:Int
 ak:Int
 part:Int
 sign:Int
 cz:Int
 deriving Inhabited
def Key.cells (c:Key):List D:=[dI c.aF,dI c.ak,dI c.part,dI c.sign,dI c.cz]
def zY (c_:Claim):Sk (Key) :=
 .fin ({ aF:=c_.aF,ak:=c_.ak,part:=c_.part,sign:=c_.sign,cz:=c_.cz }:Key)
def WT c_:=(zY c_).val
theorem zZ (c_:Claim):WT c_=({ aF:=c_.aF,ak:=c_.ak,part:=c_.part,sign:=c_.sign,cz:=c_.cz }:Key):=rfl
theorem UI (c_:Claim):(zY c_).bz (fun _=>True):=by
 unfold zY
 exact pq
def rE c_:=kk tok mixed Tryz.func72 [av c_.cells] (fun x=>av x.cells) true (zY c_) (WT c_) (u0 (UI c_))
def jn:List Int→Int→Int
 | [],o=>o
 | x :: r,o=>if x=0 then 0 else if x=2 then jn r 2 else jn r o
theorem CA {l:List Int} {n:Nat} (h:n < l.length) (o:Int):jn (l.drop n) o=if l.getD n default=0 then 0 else if l.getD n default=2 then jn (l.drop (n+1)) 2 else jn (l.drop (n+1)) o:=by
 rw [List.drop_eq_getElem_cons h]
 simp only [jn,List.getD,List.getElem?_eq_getElem h,Option.getD_some]
def pz (l:List Int):Sk (Int) :=
 .bind true (fun b1=>b1=jn l 1)
 (.loop (default:Sum (Int) (Int)) (fun i2=>i2.2≤l.length∧jn l 1=jn (l.drop i2.2) i2.1) (fun i2=>l.length - i2.2) ((1,0):Int × Nat)
 (fun (i2:Int × Nat)=>⟨[(3,iv i2.1),(8,iv (i2.2:Int))],[]⟩) fun i2 =>
 .lt 6 0 i2.2 l.length
 (.r 4 (.p (bG (i2.2:Int) l.length)) fun _ =>
 .br ((l.getD i2.2 default) == 0)
 (.fin (.inl (.inl 0)))
 (.br ((l.getD i2.2 default) == 2)
 (.nx 9 8 i2.2 (2,i2.2+1))
 (.nx 9 8 i2.2 (i2.1,i2.2+1))))
 (.fin (.inl (.inr i2.1))))
 (fun (b1:Int)=>⟨[(3,iv b1)],[]⟩) fun b1 =>
 .fin b1
def bind_join l:=(pz l).val
theorem A0 (l:List Int):(pz l).cZ (fun (x:Int)=>x=jn l 1):=by
 refine Sk.bp _ ?_
 unfold pz
 simp only [Sk.cU,Sk.aO,reduceCtorEq,ON,kk,kp,maxLen]
 all_goals simp only [LN] at *
 refine ⟨⟨⟨Nat.zero_le _,by simp⟩,fun i hi=>⟨fun hc _=>⟨fun h=>?_,fun h=>⟨fun h2 _=>⟨⟨by omega,?_⟩,by omega⟩,fun h2 _=>⟨⟨by omega,?_⟩,by omega⟩⟩⟩,fun hc=>?_⟩⟩,fun b hb=>hb⟩
 ·rw [hi.2,CA (by omega),if_pos h]
 ·rw [hi.2,CA (by omega),if_neg h,if_pos h2]
 ·rw [hi.2,CA (by omega),if_neg h,if_neg h2]
 ·rw [hi.2,List.drop_eq_nil_of_le (by omega)]; rfl
theorem HS (l:List Int):(fun (x:Int)=>x=jn l 1) (bind_join l):=have h:=Sk.de _ (A0 l); h
theorem Mt (l:List Int):(pz l).bz (fun _=>True):=by
 refine Sk.aX _ ?_
 unfold pz
 simp only [Sk.km,Sk.aO,reduceCtorEq,ON,kk,kp,maxLen]
 all_goals simp only [LN] at *
 have wi:∀ n:Nat,n < l.length→l.length≤9223372036854775807→au ((n:Int)+1)=((n+1:Nat):Int):=fun n h h1=>by rw [aG (by omega) (by omega)]; omega
 refine ⟨⟨Nat.zero_le _,by simp⟩,fun i hi hm=>⟨fun hc=>⟨by omega,fun _ h=>⟨fun h2 _=>⟨wi _ (by omega) (by omega),⟨by omega,?_⟩,by omega⟩,fun h2 _=>⟨wi _ (by omega) (by omega),⟨by omega,?_⟩,by omega⟩⟩⟩,fun hc=>?_⟩⟩
 ·rw [hi.2,CA (by omega),if_neg h,if_pos h2]
 ·rw [hi.2,CA (by omega),if_neg h,if_neg h2]
 ·rw [hi.2,List.drop_eq_nil_of_le (by omega)]; rfl
def oJ l:=kp tok mixed Tryz.func103 [lv bU l] (fun x=>iv x) true (bind_join l) (u0 (Mt l)) (A0 l)
def uK (a:Int) (b:Int):Sk (Int) :=
 .r 1 (.aq (.o [.fU (gA eA [a,b])]) ((oJ [a,b]).c)) fun x1 =>
 .fin x1
def nj a b:=(uK a b).val
theorem Px (a:Int) (b:Int):(uK a b).bz (fun _=>True):=by
 unfold uK
 try simp only [oJ]
 exact pq
def qp a b:=kk tok mixed Tryz.func73 [iv a,iv b] (fun x=>iv x) true (uK a b) (nj a b) (u0 (Px a b))
def dw (x y:Claim):Prop:=x.aF=y.aF∧x.ak=y.ak∧x.part=y.part∧x.sign=y.sign∧x.cz=y.cz
def rW (f:Claim→Claim) (l:List Claim) (c:Claim) (x:List Claim):Prop :=
 (∃ i,i < l.length∧dw (l.getD i default) c∧x=l.set i (f (l.getD i default)))∨((∀ i,i < l.length→¬ dw (l.getD i default) c)∧x=l++[c])
def fG (c x:Claim):Claim:={ x with sum:=cg x.sum c.sum,state:=nj c.state x.state }
def fJ (c x:Claim):Claim:={ x with sum:=bL 1099511627776 (au (x.sum+c.sum)),state:=nj x.state c.state }
def iI (a:bh) (x:Claim):Int:=bL (cg 0 a.sum) (cg 0 x.sum)
def gh (a:bh) (st:Bool) (x:Claim):Claim:=bif dE a st x then { x with sum:=au (cg 0 x.sum - iI a x) } else x
def yP (x y:Claim):Prop:=dw x y∧x.dR=y.dR∧x.az=y.az
theorem yP.rfl' (x:Claim):yP x x:=⟨⟨rfl,rfl,rfl,rfl,rfl⟩,rfl,rfl⟩
theorem yP.trans {x y z:Claim} (h:yP x y) (k:yP y z):yP x z:=⟨⟨h.1.1.trans k.1.1,h.1.2.1.trans k.1.2.1,h.1.2.2.1.trans k.1.2.2.1,h.1.2.2.2.1.trans k.1.2.2.2.1,h.1.2.2.2.2.trans k.1.2.2.2.2⟩,h.2.1.trans k.2.1,h.2.2.trans k.2.2⟩
def HT (x:Claim):Prop:=jJ x.sum∧(x.state=1∨x.state=2)
theorem RU {a b:Int} (ha:a=1∨a=2) (hb:b=1∨b=2):nj a b=1∨nj a b=2:=by
 rcases ha with rfl | rfl <;> rcases hb with rfl | rfl
 ·exact .inl (by kernel_rfl)
 ·exact .inr (by kernel_rfl)
 ·exact .inr (by kernel_rfl)
 ·exact .inr (by kernel_rfl)
def Sub (l:List Claim) (a:bh) (c:Claim):Prop:=(c.ak=a.dt∧c.cz=a.at_∧c.aF≠a.dt)∧(∃ x∈l,x.aF=c.aF∧x.part=c.part∧x.sign=c.sign∧x.az=c.az)∧((∀ x∈l,HT x)→HT c)
def HU (l:List Claim) (a:bh) (mj:List Claim):Prop:=(∀ c∈mj,Sub l a c)∧mj.Pairwise fun x y=>¬ dw x y
theorem WU {a b:Int} (ha:jJ a) (hb:jJ b):jJ (cg a b):=by unfold cg jJ at *; split <;> omega
theorem dw.comm {x y:Claim} (h:dw x y):dw y x:=⟨h.1.symm,h.2.1.symm,h.2.2.1.symm,h.2.2.2.1.symm,h.2.2.2.2.symm⟩
theorem dw.tr {x y z:Claim} (h:dw x y) (k:dw y z):dw x z:=⟨h.1.trans k.1,h.2.1.trans k.2.1,h.2.2.1.trans k.2.2.1,h.2.2.2.1.trans k.2.2.2.1,h.2.2.2.2.trans k.2.2.2.2⟩
theorem Py {l:List Claim} {i:Nat} {y x:Claim} (h:x∈l.set i y):x=y∨x∈l:=by
 rcases List.mem_or_eq_of_mem_set h with h | h
 ·exact .inr h
 ·exact .inl h
theorem j1 {l:List Claim} {i:Nat} (h:i < l.length):l.getD i default∈l:=tI h _
theorem CB {l:List Claim} {i j:Nat} {y:Claim} (h:j < l.length):(l.set i y).getD j default=if i=j then y else l.getD j default:=by
 simp only [List.getD,List.getElem?_set]
 split
 ·subst_vars; simp [h]
 ·rfl
theorem HU.group {l:List Claim} {a:bh} {mj x:List Claim} {c:Claim} (h:HU l a mj) (hc:Sub l a c) (hm:rW (fG c) mj c x):HU l a x:=by
 rcases hm with ⟨i,hi,hk,rfl⟩ | ⟨hn,rfl⟩
 ·have hs:=h.1 _ (j1 hi)
  have hx:dw (fG c (mj.getD i default)) (mj.getD i default):=⟨rfl,rfl,rfl,rfl,rfl⟩
  refine ⟨fun z hz=>?_,?_⟩
  ·rcases Py hz with rfl | hz
   ·exact ⟨hs.1,hs.2.1,fun hP=>⟨WU (hs.2.2 hP).1 (hc.2.2 hP).1,RU (hc.2.2 hP).2 (hs.2.2 hP).2⟩⟩
   ·exact h.1 z hz
  ·rw [List.pairwise_iff_getElem]
   intro p q hp hq hpq
   have Yd:p < mj.length:=by simpa using hp
   have OD:q < mj.length:=by simpa using hq
   have h0:=List.pairwise_iff_getElem.1 h.2 p q Yd OD hpq
   simp only [List.getElem_set]
   have e:∀ j (hj:j < mj.length),i=j→dw (fG c (mj.getD i default)) mj[j]:=by
    rintro j hj rfl
    simpa [List.getD,hj] using hx
   intro XV
   apply h0
   split at XV <;> split at XV
   ·omega
   ·exact (e p Yd ‹_›).comm.tr XV
   ·exact XV.tr (e q OD ‹_›)
   ·exact XV
 ·refine ⟨fun z hz=>?_,?_⟩
  ·rcases List.mem_append.1 hz with hz | hz
   ·exact h.1 z hz
   ·rw [List.mem_singleton.1 hz]; exact hc
  ·rw [List.pairwise_append]
   refine ⟨h.2,List.pairwise_singleton _ _,fun x hx y hy=>?_⟩
   rw [List.mem_singleton.1 hy]
   obtain ⟨j,hj,rfl⟩:=List.getElem_of_mem hx
   have:=hn j hj
   rwa [show mj.getD j default=mj[j] by simp [List.getD,hj]] at this
theorem Lr {α:Type}:∀ (l D:List α),l.Pairwise (·≠·)→(∀ x∈l,x∈D)→l.length≤D.length
 | [],D,_,_=>Nat.zero_le _
 | x :: r,D,hp,hs=>by
  classical
  have hx:x∈D:=hs x (by simp)
  rw [List.pairwise_cons] at hp
  have:=Lr r (D.erase x) hp.2 (fun y hy=>(List.mem_erase_of_ne (fun e=>hp.1 y hy e.symm)).2 (hs y (by simp [hy])))
  rw [List.length_erase_of_mem hx] at this
  have JZ:0 < D.length:=List.length_pos_of_mem hx
  simp only [List.length_cons]
  omega
def N7 (x:Claim):Int × Int × Int:=(x.aF,x.part,x.sign)
theorem HU.len {l:List Claim} {a:bh} {mj:List Claim} (h:HU l a mj) {D:List (Int × Int × Int)} (hD:∀ x∈l,N7 x∈D):mj.length≤D.length:=by
 have:=Lr (mj.map N7) D ?_ ?_
 ·simpa using this
 ·rw [List.pairwise_map]
  refine List.Pairwise.imp_of_mem ?_ h.2
  intro x y hx hy xK e
  have hx:=(h.1 x hx).1
  have hy:=(h.1 y hy).1
  simp only [N7,Prod.mk.injEq] at e
  exact xK ⟨e.1,hx.1.trans hy.1.symm,e.2.1,e.2.2,hx.2.1.trans hy.2.1.symm⟩
 ·intro z hz
  obtain ⟨c,hc,rfl⟩:=List.mem_map.1 hz
  obtain ⟨x,hx,e1,e2,e3,-⟩:=(h.1 c hc).2.1
  have:=hD x hx
  rwa [show N7 x=N7 c by simp [N7,e1,e2,e3]] at this
def D5 (l:List Claim) (a:bh) (st:Bool) (k:Nat) (out mj:List Claim):Prop :=
 out.length=l.length∧(∀ i,i < l.length→out.getD i default=if i < k then gh a st (l.getD i default) else l.getD i default)∧HU l a mj
theorem D5.init (l:List Claim) (a:bh) (st:Bool):D5 l a st 0 l []:=⟨rfl,fun i _=>by simp,fun c hc=>by simp at hc,.nil⟩
theorem D5.skip {l:List Claim} {a:bh} {st:Bool} {k:Nat} {out mj:List Claim} (h:D5 l a st k out mj) (hk:k < l.length) (hm:dE a st (l.getD k default)=false):D5 l a st (k+1) out mj:=by
 refine ⟨h.1,fun i hi=>?_,h.2.2⟩
 rw [h.2.1 i hi]
 by_cases hik:i=k
 ·subst hik; rw [if_neg (Nat.lt_irrefl i),if_pos (Nat.lt_succ_self i)]; unfold gh; rw [hm]; rfl
 ·by_cases h1:i < k
  ·rw [if_pos h1,if_pos (by omega)]
  ·rw [if_neg h1,if_neg (by omega)]
theorem D5.meet {l:List Claim} {a:bh} {st:Bool} {k:Nat} {out mj acs:List Claim} (h:D5 l a st k out mj) (hk:k < l.length) (hm:dE a st (l.getD k default)=true) (hi:HU l a acs) :
  D5 l a st (k+1) (out.set k { out.getD k default with sum:=au (cg 0 (l.getD k default).sum - iI a (l.getD k default)) }) acs:=by
 have Oe:=h.2.1 k hk
 rw [if_neg (Nat.lt_irrefl k)] at Oe
 refine ⟨by rw [List.length_set]; exact h.1,fun i hi=>?_,hi⟩
 rw [CB (by rw [h.1]; exact hi)]
 by_cases hik:k=i
 ·subst hik; rw [if_pos rfl,if_pos (by omega),Oe]; unfold gh; rw [hm]; rfl
 ·rw [if_neg hik,h.2.1 i hi]
  by_cases h1:i < k
  ·rw [if_pos h1,if_pos (by omega)]
  ·rw [if_neg h1,if_neg (by omega)]
theorem Pz {l:List Claim} {a:bh} {c:Claim} (hc:c∈l) (hd:c.aF≠a.dt) (s:Int) (hs:s=iI a c):Sub l a { c with ak:=a.dt,cz:=a.at_,sum:=s }:=by
 subst hs
 refine ⟨⟨rfl,rfl,hd⟩,⟨c,hc,rfl,rfl,rfl,rfl⟩,fun hP=>?_⟩
 have:=(hP c hc).1
 refine ⟨?_,(hP c hc).2⟩
 unfold jJ at *
 show 0≤iI a c∧iI a c≤1099511627776
 unfold iI bL cg
 constructor <;> (repeat' split) <;> omega
def Inv1 (a:bh) (m mj:List Claim) (k:Nat) (v:List Claim):Prop :=
 (m.length≤v.length∧v.length≤m.length+k)∧(∀ i,i < m.length→yP (v.getD i default) (m.getD i default)∧((m.getD i default).ak≠a.dt→v.getD i default=m.getD i default)) ∧
  (∀ i,m.length≤i→i < v.length→∃ c∈mj,yP (v.getD i default) c)∧((∀ x∈m,HT x)→(∀ x∈mj,HT x)→∀ x∈v,HT x)
theorem Inv1.init (a:bh) (m mj:List Claim):Inv1 a m mj 0 m:=⟨⟨Nat.le_refl _,Nat.le_refl _⟩,fun i hi=>⟨yP.rfl' _,fun _=>rfl⟩,fun i h1 h2=>absurd h2 (by omega),fun h _=>h⟩
theorem WV {c x:Claim} (hc:HT c) (hx:HT x):HT (fJ c x):=by
 refine ⟨?_,RU hx.2 hc.2⟩
 unfold HT jJ at *
 show 0≤bL _ _∧bL _ _≤_
 rw [aG (by omega) (by omega)]
 unfold bL; split <;> omega
theorem Inv1.step {a:bh} {m mj v x:List Claim} {k:Nat} {c:Claim} (h:Inv1 a m mj k v) (hc:c∈mj) (hw:c.ak=a.dt) (hm:rW (fJ c) v c x):Inv1 a m mj (k+1) x:=by
 obtain ⟨⟨h1,h2⟩,h3,h4,h5⟩:=h
 rcases hm with ⟨i,hi,hk,rfl⟩ | ⟨hn,rfl⟩
 ·have hl:yP (fJ c (v.getD i default)) (v.getD i default):=⟨⟨rfl,rfl,rfl,rfl,rfl⟩,rfl,rfl⟩
  refine ⟨⟨by simpa using h1,by rw [List.length_set]; omega⟩,fun j hj=>?_,fun j hj SU=>?_,fun hP hQ z hz=>?_⟩
  ·rw [CB (by omega)]
   split
   ·subst_vars
    refine ⟨hl.trans (h3 _ hj).1,fun xK=>absurd ?_ xK⟩
    have e2:=hk.2.1
    have e3:=(h3 _ hj).1.1.2.1
    rw [← e3,e2,hw]
   ·exact h3 j hj
  ·rw [List.length_set] at SU
   rw [CB SU]
   split
   ·subst_vars
    obtain ⟨d,hd,e⟩:=h4 _ hj SU
    exact ⟨d,hd,hl.trans e⟩
   ·exact h4 j hj SU
  ·rcases Py hz with rfl | hz
   ·exact WV (hQ c hc) (h5 hP hQ _ (j1 hi))
   ·exact h5 hP hQ z hz
 ·have e:∀ j,j < v.length→(v++[c]).getD j default=v.getD j default:=fun j hj=>by simp [List.getD,List.getElem?_append_left hj]
  refine ⟨⟨by simp; omega,by simp; omega⟩,fun j hj=>?_,fun j hj SU=>?_,fun hP hQ z hz=>?_⟩
  ·rw [e j (by omega)]; exact h3 j hj
  ·by_cases hjv:j < v.length
   ·rw [e j hjv]; exact h4 j hj hjv
   ·have:j=v.length:=by simp at SU; omega
    subst this
    exact ⟨c,hc,by simp [List.getD]; exact yP.rfl' _⟩
  ·rcases List.mem_append.1 hz with hz | hz
   ·exact h5 hP hQ z hz
   ·rw [List.mem_singleton.1 hz]; exact hQ c hc
structure xa (l:List Claim) (a:bh) (st:Bool) (out:List Claim):Prop where
 len:l.length≤out.length
 old:∀ i,i < l.length→yP (out.getD i default) (l.getD i default)∧((l.getD i default).ak≠a.dt→out.getD i default=gh a st (l.getD i default))
 new:∀ i,l.length≤i→i < out.length→(out.getD i default).ak=a.dt∧(out.getD i default).cz=a.at_∧(out.getD i default).aF≠a.dt∧∃ x∈l,x.aF=(out.getD i default).aF∧x.part=(out.getD i default).part∧x.sign=(out.getD i default).sign∧x.az=(out.getD i default).az
 UH:(∀ x∈l,HT x)→∀ x∈out,HT x
 few:∀ D:List (Int × Int × Int),(∀ x∈l,N7 x∈D)→out.length≤l.length+D.length
theorem CD (a:bh) (st:Bool) (x:Claim):yP (gh a st x) x:=by
 unfold gh
 cases dE a st x
 ·exact yP.rfl' x
 ·exact ⟨⟨rfl,rfl,rfl,rfl,rfl⟩,rfl,rfl⟩
theorem GI {a:bh} {st:Bool} {x:Claim} (h:HT x):HT (gh a st x):=by
 unfold gh
 cases dE a st x
 ·exact h
 ·refine ⟨?_,h.2⟩
  unfold HT jJ at *
  have h1:0≤iI a x∧iI a x≤x.sum:=by unfold iI bL cg; constructor <;> (repeat' split) <;> omega
  have h2:cg 0 x.sum=x.sum:=by unfold cg; split <;> omega
  show 0≤au _∧au _≤_
  rw [h2,aG (by omega) (by omega)]
  omega
theorem xa.mk' {l:List Claim} {a:bh} {st:Bool} {m mj v:List Claim} {k n:Nat} (h0:D5 l a st n m mj) (hn:n=l.length) (h1:Inv1 a m mj k v) (hk:k≤mj.length):xa l a st v:=by
 subst hn
 obtain ⟨hl,hr,hi⟩:=h0
 obtain ⟨⟨h11,h12⟩,h13,h14,h15⟩:=h1
 have hr':∀ i,i < l.length→m.getD i default=gh a st (l.getD i default):=fun i h=>by rw [hr i h,if_pos h]
 refine ⟨by omega,fun i h=>?_,fun i h h2=>?_,fun hP=>?_,fun D hD=>?_⟩
 ·have h3:=h13 i (by omega)
  rw [hr' i h] at h3
  refine ⟨h3.1.trans (CD a st _),fun xK=>h3.2 ?_⟩
  rw [(CD a st (l.getD i default)).1.2.1]
  exact xK
 ·obtain ⟨c,hc,e⟩:=h14 i (by omega) h2
  obtain ⟨⟨k1,k2,k3⟩,⟨x,hx,e1,e2,e3,e4⟩,-⟩:=hi.1 c hc
  obtain ⟨⟨f1,f2,f3,f4,f5⟩,-,f6⟩:=e
  exact ⟨f2.trans k1,f5.trans k2,fun z=>k3 (f1 ▸ z),x,hx,e1.trans f1.symm,e2.trans f3.symm,e3.trans f4.symm,e4.trans f6.symm⟩
 ·refine h15 (fun x hx=>?_) (fun x hx=>(hi.1 x hx).2.2 hP)
  obtain ⟨i,fM,rfl⟩:=List.getElem_of_mem hx
  have:=hr' i (by omega)
  rw [show m.getD i default=m[i] by simp [List.getD,fM]] at this
  rw [this]
  exact GI (hP _ (j1 (by omega)))
 ·have:=hi.len hD
  omega
theorem Mv {x c:Claim}:((x.aF == c.aF)&&((x.ak == c.ak)&&((x.part == c.part)&&((x.sign == c.sign)&&((x.cz == c.cz)&&true)))))=true↔dw x c:=by
 simp only [Bool.and_eq_true,beq_iff_eq,Bool.and_true]
 exact Iff.rfl
theorem Tz {l:List Claim} {i:Nat} (h:i < l.length) (y:Claim) (s:Int):(l.set i y).set i { (l.set i y).getD i default with state:=s }=l.set i { y with state:=s }:=by
 rw [List.set_set,CB h,if_pos rfl]
theorem TA {l:List Claim} {c:Claim} {i:Nat} (h:∀ q,q < i→¬ dw (l.getD q default) c) (hk:(((l.getD i default).aF == c.aF)&&(((l.getD i default).ak == c.ak)&&(((l.getD i default).part == c.part)&&(((l.getD i default).sign == c.sign)&&(((l.getD i default).cz == c.cz)&&true)))))=false):∀ q,q < i+1→¬ dw (l.getD q default) c:=by
 intro q hq e
 by_cases h1:q < i
 ·exact h q h1 e
 ·obtain rfl:q=i:=by omega
  rw [Mv.2 e] at hk
  cases hk
theorem rW.len {f:Claim→Claim} {l x:List Claim} {c:Claim} (h:rW f l c x):x.length≤l.length+1:=by
 rcases h with ⟨i,hi,-,rfl⟩ | ⟨-,rfl⟩
 ·rw [List.length_set]; omega
 ·simp
def ml (l:List Claim) (c_:Claim):Sk ((List Claim)) :=
 .bind true (fun b1=>∀ q,q < l.length→¬ dw (l.getD q default) c_)
 (.loop (default:Sum ((List Claim)) (Unit)) (fun i2=>i2≤l.length∧∀ q,q < i2→¬ dw (l.getD q default) c_) (fun i2=>l.length - i2) (0:Nat)
 (fun (i2:Nat)=>⟨[(9,iv (i2:Int))],[]⟩) fun i2 =>
 .lt 0 0 i2 l.length
 (.r 3 (.aq (.p (bG (i2:Int) l.length)) (.p (i2 < l.length))) fun _ =>
 .r 4 (.dep ((rE (l.getD i2 default)).c) fun _=>(rE c_).c) fun p6 =>
 .br ((p6.1.aF == p6.2.aF)&&((p6.1.ak == p6.2.ak)&&((p6.1.part == p6.2.part)&&((p6.1.sign == p6.2.sign)&&((p6.1.cz == p6.2.cz)&&true)))))
 (.r 5 (.aq (.p (bG (i2:Int) l.length)) (.aq (.o [.fU (vS Claim.E l i2 ({ l.getD i2 default with sum:=cg ((l.getD i2 default).sum) c_.sum }))]) (.p (i2 < l.length)))) fun _ =>
 .wn 777776 l.length (l.set i2 ({ l.getD i2 default with sum:=cg ((l.getD i2 default).sum) c_.sum })).length <|
 .r 6 (.o8 ((qp c_.state ((l.getD i2 default).state)).c) fun x5=>.aq (.p (bG (i2:Int) ((l.set i2 ({ l.getD i2 default with sum:=cg ((l.getD i2 default).sum) c_.sum })).length))) (.aq (.o [.fU (vS Claim.E (l.set i2 ({ l.getD i2 default with sum:=cg ((l.getD i2 default).sum) c_.sum })) i2 ({ (l.set i2 ({ l.getD i2 default with sum:=cg ((l.getD i2 default).sum) c_.sum })).getD i2 default with state:=x5 }))]) (.p (i2 < (l.set i2 ({ l.getD i2 default with sum:=cg ((l.getD i2 default).sum) c_.sum })).length)))) fun x5 =>
 .wn 777776 (l.set i2 ({ l.getD i2 default with sum:=cg ((l.getD i2 default).sum) c_.sum })).length ((l.set i2 ({ l.getD i2 default with sum:=cg ((l.getD i2 default).sum) c_.sum })).set i2 ({ (l.set i2 ({ l.getD i2 default with sum:=cg ((l.getD i2 default).sum) c_.sum })).getD i2 default with state:=x5 })).length <|
 .fin (.inl (.inl ((l.set i2 ({ l.getD i2 default with sum:=cg ((l.getD i2 default).sum) c_.sum })).set i2 ({ (l.set i2 ({ l.getD i2 default with sum:=cg ((l.getD i2 default).sum) c_.sum })).getD i2 default with state:=x5 })))))
 (.nx 8 9 i2 (i2+1)))
 (.fin (.inl (.inr ()))))
 (fun (_:Unit)=>⟨[],[]⟩) fun _ =>
 .r 9 (.aq (.o [.fU (gA Claim.E [c_])]) (.aq (.o [.fU (oe Claim.E l [c_])]) (.aq (.t (Claim.E.qb [c_])) (.p (yi l.length [c_].length 72))))) fun _ =>
 .fin (l++[c_])
def oK l c_:=(ml l c_).val
theorem J8 (l:List Claim) (c_:Claim):(ml l c_).cZ (fun (x:(List Claim))=>rW (fG c_) l c_ x):=by
 refine Sk.bp _ ?_
 unfold ml
 simp only [Sk.cU,Sk.aO,reduceCtorEq,ON,kk,kp,qp,rE,zZ,forall_eq,maxLen]
 refine ⟨⟨⟨Nat.zero_le _,fun q hq=>absurd hq (by omega)⟩,fun i hi=>⟨fun hc _=>⟨fun hk _=>?_,fun hk _=>⟨⟨?_,TA hi.2 hk⟩,by simp only [LN] at hc; omega⟩⟩,fun hc=>?_⟩⟩,fun _ hb _=>.inr ⟨hb,rfl⟩⟩
 all_goals simp only [LN] at hc
 ·exact .inl ⟨i,by omega,Mv.1 hk,Tz (by omega) _ _⟩
 ·omega
 ·exact fun q hq=>hi.2 q (by omega)
theorem yQ (l:List Claim) (c_:Claim):(fun (x:(List Claim))=>rW (fG c_) l c_ x) (oK l c_):=have h:=Sk.de _ (J8 l c_); h
theorem Mw (l:List Claim) (c_:Claim) (hl:l.length≤1000000000000):(ml l c_).bz (fun _=>True):=by
 refine Sk.aX _ ?_
 unfold ml
 simp only [Sk.km,Sk.aO,reduceCtorEq,ON,kk,kp,qp,rE,zZ,forall_eq,maxLen]
 refine ⟨⟨⟨Nat.zero_le _,fun q hq=>absurd hq (by omega)⟩,fun i hi hm=>⟨fun hc=>?_,fun hc q hq=>hi.2 q (by simp only [LN] at hc; omega)⟩⟩,fun b hb=>?_⟩
 ·simp only [LN] at hc
  refine ⟨⟨⟨by omega,by omega⟩,by omega⟩,fun _=>⟨fun hk=>?_,fun hk _=>⟨(aG (by omega) (by omega)).trans (by omega),⟨by omega,TA hi.2 hk⟩,by omega⟩⟩⟩
  simp only [List.length_set]
  refine ⟨⟨⟨by omega,by omega⟩,by omega⟩,fun _=>?_⟩
  (repeat' first | exact trivial | (apply And.intro) | (intro h))
  all_goals first | rfl | trivial | omega
 ·simp only [List.length_cons,List.length_nil]
  omega
theorem J9 (l:List Claim) (c_:Claim) (hl:l.length≤1000000000000):gr Tryz.prog 32 [ow 777776 l,av c_.cells] [(777776,bO 50 9 Claim.cells l)] (ow 777777 (oK l c_)) [(777777,bO 50 9 Claim.cells (oK l c_))] :=
 gr.sk tok mixed (fun x=>ow 777777 x) (fun x=>[(777777,bO 50 9 Claim.cells x)]) Tryz.func32 rfl (by kernel_rfl) 3000 (ml l c_) (by kernel_rfl) (Mw l c_ hl)
def mn (κ κ':Nat) (l:List Claim) (c_:Claim):yL ((List Claim)):=⟨Tryz.prog,32,[ow κ l,av c_.cells],[(κ,bO 50 9 Claim.cells l)],fun x=>ow κ' x,fun x=>[(κ',bO 50 9 Claim.cells x)],oK l c_,(l.length≤1000000000000),fun h=>gr.WL κ rfl (gr.WK κ' (J9 l c_ h)),fun (x:(List Claim))=>rW (fG c_) l c_ x,yQ l c_⟩
def oL (l:List Claim) (c_:Claim):Sk ((List Claim)) :=
 .bind true (fun b1=>∀ q,q < l.length→¬ dw (l.getD q default) c_)
 (.loop (default:Sum ((List Claim)) (Unit)) (fun i2=>i2≤l.length∧∀ q,q < i2→¬ dw (l.getD q default) c_) (fun i2=>l.length - i2) (0:Nat)
 (fun (i2:Nat)=>⟨[(9,iv (i2:Int))],[]⟩) fun i2 =>
 .lt 0 0 i2 l.length
 (.r 3 (.aq (.p (bG (i2:Int) l.length)) (.p (i2 < l.length))) fun _ =>
 .r 4 (.dep ((rE (l.getD i2 default)).c) fun _=>(rE c_).c) fun p6 =>
 .br ((p6.1.aF == p6.2.aF)&&((p6.1.ak == p6.2.ak)&&((p6.1.part == p6.2.part)&&((p6.1.sign == p6.2.sign)&&((p6.1.cz == p6.2.cz)&&true)))))
 (.r 5 (.aq (.p (bG (i2:Int) l.length)) (.aq (.o [.fU (vS Claim.E l i2 ({ l.getD i2 default with sum:=bL 1099511627776 (au (((l.getD i2 default).sum)+c_.sum)) }))]) (.p (i2 < l.length)))) fun _ =>
 .wn 777776 l.length (l.set i2 ({ l.getD i2 default with sum:=bL 1099511627776 (au (((l.getD i2 default).sum)+c_.sum)) })).length <|
 .r 6 (.o8 ((qp ((l.getD i2 default).state) c_.state).c) fun x5=>.aq (.p (bG (i2:Int) ((l.set i2 ({ l.getD i2 default with sum:=bL 1099511627776 (au (((l.getD i2 default).sum)+c_.sum)) })).length))) (.aq (.o [.fU (vS Claim.E (l.set i2 ({ l.getD i2 default with sum:=bL 1099511627776 (au (((l.getD i2 default).sum)+c_.sum)) })) i2 ({ (l.set i2 ({ l.getD i2 default with sum:=bL 1099511627776 (au (((l.getD i2 default).sum)+c_.sum)) })).getD i2 default with state:=x5 }))]) (.p (i2 < (l.set i2 ({ l.getD i2 default with sum:=bL 1099511627776 (au (((l.getD i2 default).sum)+c_.sum)) })).length)))) fun x5 =>
 .wn 777776 (l.set i2 ({ l.getD i2 default with sum:=bL 1099511627776 (au (((l.getD i2 default).sum)+c_.sum)) })).length ((l.set i2 ({ l.getD i2 default with sum:=bL 1099511627776 (au (((l.getD i2 default).sum)+c_.sum)) })).set i2 ({ (l.set i2 ({ l.getD i2 default with sum:=bL 1099511627776 (au (((l.getD i2 default).sum)+c_.sum)) })).getD i2 default with state:=x5 })).length <|
 .fin (.inl (.inl ((l.set i2 ({ l.getD i2 default with sum:=bL 1099511627776 (au (((l.getD i2 default).sum)+c_.sum)) })).set i2 ({ (l.set i2 ({ l.getD i2 default with sum:=bL 1099511627776 (au (((l.getD i2 default).sum)+c_.sum)) })).getD i2 default with state:=x5 })))))
 (.nx 8 9 i2 (i2+1)))
 (.fin (.inl (.inr ()))))
 (fun (_:Unit)=>⟨[],[]⟩) fun _ =>
 .r 9 (.aq (.o [.fU (gA Claim.E [c_])]) (.aq (.o [.fU (oe Claim.E l [c_])]) (.aq (.t (Claim.E.qb [c_])) (.p (yi l.length [c_].length 72))))) fun _ =>
 .fin (l++[c_])
def ja l c_:=(oL l c_).val
theorem Mx (l:List Claim) (c_:Claim):(oL l c_).cZ (fun (x:(List Claim))=>rW (fJ c_) l c_ x):=by
 refine Sk.bp _ ?_
 unfold oL
 simp only [Sk.cU,Sk.aO,reduceCtorEq,ON,kk,kp,qp,rE,zZ,forall_eq,maxLen]
 refine ⟨⟨⟨Nat.zero_le _,fun q hq=>absurd hq (by omega)⟩,fun i hi=>⟨fun hc _=>⟨fun hk _=>?_,fun hk _=>⟨⟨?_,TA hi.2 hk⟩,by simp only [LN] at hc; omega⟩⟩,fun hc=>?_⟩⟩,fun _ hb _=>.inr ⟨hb,rfl⟩⟩
 all_goals simp only [LN] at hc
 ·exact .inl ⟨i,by omega,Mv.1 hk,Tz (by omega) _ _⟩
 ·omega
 ·exact fun q hq=>hi.2 q (by omega)
theorem A1 (l:List Claim) (c_:Claim):(fun (x:(List Claim))=>rW (fJ c_) l c_ x) (ja l c_):=have h:=Sk.de _ (Mx l c_); h
theorem PA (l:List Claim) (c_:Claim) (hl:l.length≤1000000000000):(oL l c_).bz (fun _=>True):=by
 refine Sk.aX _ ?_
 unfold oL
 simp only [Sk.km,Sk.aO,reduceCtorEq,ON,kk,kp,qp,rE,zZ,forall_eq,maxLen]
 refine ⟨⟨⟨Nat.zero_le _,fun q hq=>absurd hq (by omega)⟩,fun i hi hm=>⟨fun hc=>?_,fun hc q hq=>hi.2 q (by simp only [LN] at hc; omega)⟩⟩,fun b hb=>?_⟩
 ·simp only [LN] at hc
  refine ⟨⟨⟨by omega,by omega⟩,by omega⟩,fun _=>⟨fun hk=>?_,fun hk _=>⟨(aG (by omega) (by omega)).trans (by omega),⟨by omega,TA hi.2 hk⟩,by omega⟩⟩⟩
  simp only [List.length_set]
  refine ⟨⟨⟨by omega,by omega⟩,by omega⟩,fun _=>?_⟩
  (repeat' first | exact trivial | (apply And.intro) | (intro h))
  all_goals first | rfl | trivial | omega
 ·simp only [List.length_cons,List.length_nil]
  omega
theorem My (l:List Claim) (c_:Claim) (hl:l.length≤1000000000000):gr Tryz.prog 33 [ow 777776 l,av c_.cells] [(777776,bO 50 9 Claim.cells l)] (ow 777777 (ja l c_)) [(777777,bO 50 9 Claim.cells (ja l c_))] :=
 gr.sk tok mixed (fun x=>ow 777777 x) (fun x=>[(777777,bO 50 9 Claim.cells x)]) Tryz.func33 rfl (by kernel_rfl) 3000 (oL l c_) (by kernel_rfl) (PA l c_ hl)
def oM (κ κ':Nat) (l:List Claim) (c_:Claim):yL ((List Claim)):=⟨Tryz.prog,33,[ow κ l,av c_.cells],[(κ,bO 50 9 Claim.cells l)],fun x=>ow κ' x,fun x=>[(κ',bO 50 9 Claim.cells x)],ja l c_,(l.length≤1000000000000),fun h=>gr.WL κ rfl (gr.WK κ' (My l c_ h)),fun (x:(List Claim))=>rW (fJ c_) l c_ x,A1 l c_⟩
def kB (l:List Claim) (a:bh) (kind:Int) (ba:Bool):Sk ((List Claim) × (List Step)) :=
 .r 2 ((nG 21 l).c) fun x1 =>
 .bind true (fun b2=>D5 l a ba l.length b2.1 b2.2.2∧b2.2.1.length≤l.length∧b2.2.2.length≤l.length)
 (.loop (default:Sum ((List Claim) × (List Step)) ((List Claim) × (List Step) × (List Claim))) (fun i3=>i3.2.2.2≤l.length∧D5 l a ba i3.2.2.2 i3.1 i3.2.2.1∧i3.2.1.length≤i3.2.2.2∧i3.2.2.1.length≤i3.2.2.2) (fun i3=>l.length - i3.2.2.2) ((x1,[],[],0):(List Claim) × (List Step) × (List Claim) × Nat)
 (fun (i3:(List Claim) × (List Step) × (List Claim) × Nat)=>⟨[(8,ow 100006 i3.1),(9,ow 100007 i3.2.1),(11,ow 100008 i3.2.2.1),(24,iv (i3.2.2.2:Int))],[(100006,bO 50 9 Claim.cells i3.1),(100007,bO 66 4 Step.cells i3.2.1),(100008,bO 50 9 Claim.cells i3.2.2.1)]⟩) fun i3 =>
 .lt 22 0 i3.2.2.2 l.length
 (.r 6 (.p (bG (i3.2.2.2:Int) l.length)) fun _ =>
 .r 7 ((uJ a ba (l.getD i3.2.2.2 default)).c) fun x4 =>
 .br (!x4)
 (.nx 14 24 i3.2.2.2 (i3.1,i3.2.1,i3.2.2.1,i3.2.2.2+1))
 (.r 9 (.aq (.p (bG (i3.2.2.2:Int) i3.1.length)) (.aq (.o [.fU (vS Claim.E i3.1 i3.2.2.2 ({ i3.1.getD i3.2.2.2 default with sum:=au ((cg 0 ((l.getD i3.2.2.2 default).sum)) - (bL (cg 0 a.sum) (cg 0 ((l.getD i3.2.2.2 default).sum)))) }))]) (.p (i3.2.2.2 < i3.1.length)))) fun _ =>
 .wn 100006 i3.1.length (i3.1.set i3.2.2.2 ({ i3.1.getD i3.2.2.2 default with sum:=au ((cg 0 ((l.getD i3.2.2.2 default).sum)) - (bL (cg 0 a.sum) (cg 0 ((l.getD i3.2.2.2 default).sum)))) })).length <|
 .r 10 (.aq (.o [.fU (gA Step.E [({ aF:=(l.getD i3.2.2.2 default).aF,ak:=(l.getD i3.2.2.2 default).ak,sign:=(l.getD i3.2.2.2 default).sign,sum:=bL (cg 0 a.sum) (cg 0 ((l.getD i3.2.2.2 default).sum)) }:Step)])]) (.aq (.o [.fU (oe Step.E i3.2.1 [({ aF:=(l.getD i3.2.2.2 default).aF,ak:=(l.getD i3.2.2.2 default).ak,sign:=(l.getD i3.2.2.2 default).sign,sum:=bL (cg 0 a.sum) (cg 0 ((l.getD i3.2.2.2 default).sum)) }:Step)])]) (.aq (.t (Step.E.qb [({ aF:=(l.getD i3.2.2.2 default).aF,ak:=(l.getD i3.2.2.2 default).ak,sign:=(l.getD i3.2.2.2 default).sign,sum:=bL (cg 0 a.sum) (cg 0 ((l.getD i3.2.2.2 default).sum)) }:Step)])) (.p (yi i3.2.1.length [({ aF:=(l.getD i3.2.2.2 default).aF,ak:=(l.getD i3.2.2.2 default).ak,sign:=(l.getD i3.2.2.2 default).sign,sum:=bL (cg 0 a.sum) (cg 0 ((l.getD i3.2.2.2 default).sum)) }:Step)].length 32))))) fun _ =>
 .br (((kind != 1)&&((((l.getD i3.2.2.2 default).dR) == 0)||(decide (((l.getD i3.2.2.2 default).sign) < a.at_))))&&(((l.getD i3.2.2.2 default).aF) != a.dt))
 (.r 13 ((mn 100008 90 i3.2.2.1 ({ l.getD i3.2.2.2 default with ak:=a.dt,cz:=a.at_,sum:=bL (cg 0 a.sum) (cg 0 ((l.getD i3.2.2.2 default).sum)) })).c) fun x5 =>
 .r 14 .z fun _ =>
 .wi 24 (au ((i3.2.2.2:Int)+1)) ((i3.2.2.2+1:Nat):Int) <|
 .fin (.inr (i3.1.set i3.2.2.2 ({ i3.1.getD i3.2.2.2 default with sum:=au ((cg 0 ((l.getD i3.2.2.2 default).sum)) - (bL (cg 0 a.sum) (cg 0 ((l.getD i3.2.2.2 default).sum)))) }),i3.2.1++[({ aF:=(l.getD i3.2.2.2 default).aF,ak:=(l.getD i3.2.2.2 default).ak,sign:=(l.getD i3.2.2.2 default).sign,sum:=bL (cg 0 a.sum) (cg 0 ((l.getD i3.2.2.2 default).sum)) }:Step)],x5,i3.2.2.2+1)))
 (.r 14 .z fun _ =>
 .wi 24 (au ((i3.2.2.2:Int)+1)) ((i3.2.2.2+1:Nat):Int) <|
 .fin (.inr (i3.1.set i3.2.2.2 ({ i3.1.getD i3.2.2.2 default with sum:=au ((cg 0 ((l.getD i3.2.2.2 default).sum)) - (bL (cg 0 a.sum) (cg 0 ((l.getD i3.2.2.2 default).sum)))) }),i3.2.1++[({ aF:=(l.getD i3.2.2.2 default).aF,ak:=(l.getD i3.2.2.2 default).ak,sign:=(l.getD i3.2.2.2 default).sign,sum:=bL (cg 0 a.sum) (cg 0 ((l.getD i3.2.2.2 default).sum)) }:Step)],i3.2.2.1,i3.2.2.2+1)))))
 (.fin (.inl (.inr (i3.1,i3.2.1,i3.2.2.1)))))
 (fun (b2:(List Claim) × (List Step) × (List Claim))=>⟨[(8,ow 100003 b2.1),(9,ow 100004 b2.2.1),(11,ow 100005 b2.2.2)],[(100003,bO 50 9 Claim.cells b2.1),(100004,bO 66 4 Step.cells b2.2.1),(100005,bO 50 9 Claim.cells b2.2.2)]⟩) fun b2 =>
 .bind true (fun b6=>Inv1 a b2.1 b2.2.2 b2.2.2.length b6)
 (.loop (default:Sum ((List Claim) × (List Step)) ((List Claim))) (fun i7=>i7.2≤b2.2.2.length∧Inv1 a b2.1 b2.2.2 i7.2 i7.1) (fun i7=>b2.2.2.length - i7.2) ((b2.1,0):(List Claim) × Nat)
 (fun (i7:(List Claim) × Nat)=>⟨[(8,ow 100011 i7.1),(94,iv (i7.2:Int))],[(100011,bO 50 9 Claim.cells i7.1)]⟩) fun i7 =>
 .lt 92 0 i7.2 b2.2.2.length
 (.r 17 (.aq (.p (bG (i7.2:Int) b2.2.2.length)) (.p (i7.2 < b2.2.2.length))) fun _ =>
 .r 18 ((oM 100011 100 i7.1 (b2.2.2.getD i7.2 default)).c) fun x8 =>
 .nx 19 94 i7.2 (x8,i7.2+1))
 (.fin (.inl (.inr i7.1))))
 (fun (b6:(List Claim))=>⟨[(8,ow 100010 b6)],[(100010,bO 50 9 Claim.cells b6)]⟩) fun b6 =>
 .fz 100004 <|
 .fin (b6,b2.2.1)
def gP l a kind ba:=(kB l a kind ba).val
theorem A2 (l:List Claim) (a:bh) (kind:Int) (ba:Bool):(kB l a kind ba).cZ (fun (x:(List Claim) × (List Step))=>xa l a ba x.1):=by
 refine Sk.bp _ ?_
 unfold kB
 simp only [Sk.cU,Sk.aO,reduceCtorEq,ON,kk,kp,mn,oM,uJ,nG,mn,oM,yL.c,iZ,forall_eq,maxLen]
 intro hx
 refine ⟨⟨⟨Nat.zero_le _,by rw [hx.2]; exact D5.init l a ba,Nat.le_refl _,Nat.le_refl _⟩,fun i hi=>⟨fun hc _=>?_,fun hc=>?_⟩⟩,fun b hb=>⟨⟨⟨Nat.zero_le _,Inv1.init a _ _⟩,fun i hi=>⟨fun hc _ hM _=>?_,fun hc=>?_⟩⟩,fun b1 Ld=>xa.mk' hb.1 rfl Ld (Nat.le_refl _)⟩⟩
 all_goals simp only [LN] at hc
 ·have hk:i.2.2.2 < l.length:=by omega
  have hi2:=hi.2.2
  refine ⟨fun hm _=>⟨⟨by omega,hi.2.1.skip hk (by rw [iZ]; exact (Bool.not_eq_true' _).mp hm),by omega,by omega⟩,by omega⟩,fun hm _ _=>?_⟩
  have AU:dE a ba (l.getD i.2.2.2 default)=true:=by rw [iZ]; exact (Bool.not_eq_false' _).mp hm
  refine ⟨fun hg hM _=>⟨⟨by omega,hi.2.1.meet hk AU (hi.2.1.2.2.group (Pz (j1 hk) ?_ _ rfl) hM),?_,?_⟩,by omega⟩,fun _ _=>⟨⟨by omega,hi.2.1.meet hk AU hi.2.1.2.2,?_,by omega⟩,by omega⟩⟩
  ·simp only [LN] at hg
   exact hg.2
  ·rw [List.length_append,List.length_singleton]; omega
  ·exact Nat.le_trans hM.len (by omega)
  ·rw [List.length_append,List.length_singleton]; omega
 ·have e:i.2.2.2=l.length:=by omega
  rw [e] at hi
  exact hi.2
 ·have hk:i.2 < b.2.2.length:=by omega
  have Q1:=hb.1.2.2.1 _ (j1 hk)
  exact ⟨⟨by omega,hi.2.step (j1 hk) Q1.1.1 hM⟩,by omega⟩
 ·have e:i.2=b.2.2.length:=by omega
  rw [e] at hi
  exact hi.2
theorem HV (l:List Claim) (a:bh) (kind:Int) (ba:Bool):(fun (x:(List Claim) × (List Step))=>xa l a ba x.1) (gP l a kind ba):=have h:=Sk.de _ (A2 l a kind ba); h
theorem CE (l:List Claim) (a:bh) (kind:Int) (ba:Bool) (hl:l.length≤1000000000):(kB l a kind ba).bz (fun _=>True):=by
 refine Sk.aX _ ?_
 unfold kB
 simp only [Sk.km,Sk.aO,reduceCtorEq,ON,kk,kp,mn,oM,uJ,nG,mn,oM,yL.c,iZ,forall_eq,maxLen]
 refine ⟨hl,fun hx=>⟨⟨⟨Nat.zero_le _,by rw [hx.2]; exact D5.init l a ba,Nat.le_refl _,Nat.le_refl _⟩,fun i hi Vt=>⟨fun hc=>?_,fun hc=>?_⟩⟩,fun b hb=>⟨⟨Nat.zero_le _,Inv1.init a _ _⟩,fun i hi Vt=>⟨fun hc=>?_,fun hc=>?_⟩⟩⟩⟩
 all_goals simp only [LN] at hc
 ·have hk:i.2.2.2 < l.length:=by omega
  have hi2:=hi.2.2
  have hol:=hi.2.1.1
  have hw:au ((i.2.2.2:Int)+1)=((i.2.2.2+1:Nat):Int):=(aG (by omega) (by omega)).trans (by omega)
  refine ⟨⟨by omega,by omega⟩,fun _=>⟨fun hm _=>⟨hw,⟨by omega,hi.2.1.skip hk (by rw [iZ]; exact (Bool.not_eq_true' _).mp hm),by omega,by omega⟩,by omega⟩,fun hm=>⟨⟨⟨by omega,by omega⟩,by omega⟩,fun _=>⟨by rw [List.length_set],⟨by simp only [List.length_singleton]; omega,by simp only [List.length_singleton]; omega⟩,fun _=>?_⟩⟩⟩⟩
  have AU:dE a ba (l.getD i.2.2.2 default)=true:=by rw [iZ]; exact (Bool.not_eq_false' _).mp hm
  refine ⟨fun hg=>⟨by omega,fun hM _=>⟨hw,⟨by omega,hi.2.1.meet hk AU (hi.2.1.2.2.group (Pz (j1 hk) ?_ _ rfl) hM),?_,?_⟩,by omega⟩⟩,fun _ _=>⟨hw,⟨by omega,hi.2.1.meet hk AU hi.2.1.2.2,?_,by omega⟩,by omega⟩⟩
  ·simp only [LN] at hg
   exact hg.2
  ·rw [List.length_append,List.length_singleton]; omega
  ·exact Nat.le_trans hM.len (by omega)
  ·rw [List.length_append,List.length_singleton]; omega
 ·have e:i.2.2.2=l.length:=by omega
  rw [e] at hi
  exact hi.2
 ·have hk:i.2 < b.2.2.length:=by omega
  have Q1:=hb.1.2.2.1 _ (j1 hk)
  have hln:=hi.2.1
  have hol:=hb.1.1
  exact ⟨⟨⟨by omega,by omega⟩,hk⟩,fun _=>⟨by omega,fun hM _=>⟨(aG (by omega) (by omega)).trans (by omega),⟨by omega,hi.2.step (j1 hk) Q1.1.1 hM⟩,by omega⟩⟩⟩
 ·have e:i.2=b.2.2.length:=by omega
  rw [e] at hi
  exact hi.2
def rF l a kind ba:=kp tok mixed Tryz.func12 [lv Claim.cells l,av a.cells,iv kind,bv ba] (fun x=>.fL [lv Claim.cells x.1,lv Step.cells x.2]) false (gP l a kind ba) (CE l a kind ba) (A2 l a kind ba)
theorem Ka (l:List Claim) (a:bh) (kind:Int) (ba:Bool) (hl:l.length≤1000000000):gr Tryz.prog 12 [lv Claim.cells l,av a.cells,iv kind,bv ba] [] (.fL [ow 777777 (gP l a kind ba).1,lv Step.cells ((gP l a kind ba).2)]) [(777777,bO 50 9 Claim.cells (gP l a kind ba).1)] :=
 gr.sk tok mixed (fun x=>.fL [ow 777777 x.1,lv Step.cells x.2]) (fun x=>[(777777,bO 50 9 Claim.cells x.1)]) Tryz.func12 rfl (by kernel_rfl) 3000 (kB l a kind ba) (by kernel_rfl) (CE l a kind ba hl)
def sM (κ:Nat) (l:List Claim) (a:bh) (kind:Int) (ba:Bool):iX ((List Claim) × (List Step)):=⟨Tryz.prog,12,[lv Claim.cells l,av a.cells,iv kind,bv ba],fun x=>.fL [ow κ x.1,lv Step.cells x.2],fun x=>[(κ,bO 50 9 Claim.cells x.1)],gP l a kind ba,(l.length≤1000000000),fun h=>gr.WJ κ rfl (Ka l a kind ba h),fun (x:(List Claim) × (List Step))=>xa l a ba x.1,HV l a kind ba⟩
def rG (l:List Claim) (want:List Int):Sk (Bool) :=
 .br (((l.length:Nat):Int) != ((want.length:Nat):Int))
 (.fin false)
 (.bt
 (.loop (default:Sum (Bool) (Unit)) (fun i2=>i2≤l.length) (fun i2=>l.length - i2) (0:Nat)
 (fun (i2:Nat)=>⟨[(5,iv (i2:Int))],[]⟩) fun i2 =>
 .lt 0 0 i2 l.length
 (.r 6 (.aq (.p (bG (i2:Int) l.length)) (.p (bG (i2:Int) want.length))) fun _ =>
 .br (((l.getD i2 default).sum) != (want.getD i2 default))
 (.fin (.inl (.inl false)))
 (.nx 5 5 i2 (i2+1)))
 (.fin (.inl (.inr ()))))
 (fun (_:Unit)=>⟨[],[]⟩) fun _ =>
 .fin true)
def WW l want:=(rG l want).val
theorem Mz (l:List Claim) (want:List Int):(rG l want).cZ (fun (x:Bool)=>x=true→l.length=want.length):=by
 unfold rG
 exact DB
theorem PB (l:List Claim) (want:List Int):(rG l want).bz (fun _=>True):=by
 unfold rG
 exact oh
def tL l want:=kp tok mixed Tryz.func13 [lv Claim.cells l,lv bU want] (fun x=>bv x) true (WW l want) (u0 (PB l want)) (Mz l want)
def sN:Sk (Bool) :=
 .r 1 AZ.c fun x1 =>
 .r 2 ((rF x1 ({ kind:=6,dt:=1,cj:=3,part:=0,at_:=1,sum:=60,day:=0,bZ:=0,form:=0 }:bh) 1 false).c) fun x2 =>
 .r 3 ((rF x1 ({ kind:=6,dt:=2,cj:=3,part:=0,at_:=2,sum:=60,day:=0,bZ:=0,form:=0 }:bh) 2 false).c) fun x3 =>
 .r 4 ((rF x1 ({ kind:=6,dt:=2,cj:=3,part:=0,at_:=2,sum:=100,day:=0,bZ:=0,form:=0 }:bh) 2 false).c) fun x4 =>
 .r 5 ((rF x4.1 ({ kind:=6,dt:=0,cj:=2,part:=0,at_:=0,sum:=100,day:=0,bZ:=0,form:=0 }:bh) 0 false).c) fun x5 =>
 .r 6 (.aq (.o [.fU (gA eA [40,40,40])]) (.dep ((tL x2.1 [40,40,40]).c) fun x6=>.aq (.wh (!x6) false (.o [.fU (gA eA [40,40,40,60,60])])) (.dep (.wh (!x6) false ((tL x3.1 [40,40,40,60,60]).c)) fun x7=>.aq (.wh ((!x6)||(!x7)) false (.o [.fU (gA eA [0,0,0,100,100])])) (.dep (.wh ((!x6)||(!x7)) false ((tL x4.1 [0,0,0,100,100]).c)) fun x8=>.aq (.wh (((!x6)||(!x7))||(!x8)) false (.o [.fU (gA eA [0,0,0,0,0,100])])) (.wh (((!x6)||(!x7))||(!x8)) false ((tL x5.1 [0,0,0,0,0,100]).c)))))) fun RV =>
 .br (((((!RV.1)||(!RV.2.1))||(!RV.2.2.1))||(!RV.2.2.2))||(((x3.2.length:Nat):Int) != 3))
 (.fin false)
 (.r 8 (.aq (.p (bG (3:Int) x3.1.length)) (.wh ((((x3.1.getD 3 default).aF) == 1)&&((((x3.1.getD 3 default).ak) == 2)&&((((x3.1.getD 3 default).part) == 0)&&((((x3.1.getD 3 default).sign) == 1)&&((((x3.1.getD 3 default).cz) == 2)&&((((x3.1.getD 3 default).dR) == 0)&&((((x3.1.getD 3 default).sum) == 60)&&((((x3.1.getD 3 default).az) == 0)&&((((x3.1.getD 3 default).state) == 1)&&true))))))))) true (.p (bG (4:Int) x3.1.length)))) fun _ =>
 .r 9 (.aq (.wh (((((x3.1.getD 3 default).aF) == 1)&&((((x3.1.getD 3 default).ak) == 2)&&((((x3.1.getD 3 default).part) == 0)&&((((x3.1.getD 3 default).sign) == 1)&&((((x3.1.getD 3 default).cz) == 2)&&((((x3.1.getD 3 default).dR) == 0)&&((((x3.1.getD 3 default).sum) == 60)&&((((x3.1.getD 3 default).az) == 0)&&((((x3.1.getD 3 default).state) == 1)&&true)))))))))&&((((x3.1.getD 4 default).aF) == 0)&&((((x3.1.getD 4 default).ak) == 2)&&((((x3.1.getD 4 default).part) == 0)&&((((x3.1.getD 4 default).sign) == 0)&&((((x3.1.getD 4 default).cz) == 2)&&((((x3.1.getD 4 default).dR) == 2)&&((((x3.1.getD 4 default).sum) == 60)&&((((x3.1.getD 4 default).az) == 0)&&((((x3.1.getD 4 default).state) == 1)&&true)))))))))) true (.p (bG (5:Int) x5.1.length))) (.wh ((((((x3.1.getD 3 default).aF) == 1)&&((((x3.1.getD 3 default).ak) == 2)&&((((x3.1.getD 3 default).part) == 0)&&((((x3.1.getD 3 default).sign) == 1)&&((((x3.1.getD 3 default).cz) == 2)&&((((x3.1.getD 3 default).dR) == 0)&&((((x3.1.getD 3 default).sum) == 60)&&((((x3.1.getD 3 default).az) == 0)&&((((x3.1.getD 3 default).state) == 1)&&true)))))))))&&((((x3.1.getD 4 default).aF) == 0)&&((((x3.1.getD 4 default).ak) == 2)&&((((x3.1.getD 4 default).part) == 0)&&((((x3.1.getD 4 default).sign) == 0)&&((((x3.1.getD 4 default).cz) == 2)&&((((x3.1.getD 4 default).dR) == 2)&&((((x3.1.getD 4 default).sum) == 60)&&((((x3.1.getD 4 default).az) == 0)&&((((x3.1.getD 4 default).state) == 1)&&true))))))))))&&((((x5.1.getD 5 default).aF) == 1)&&((((x5.1.getD 5 default).ak) == 0)&&((((x5.1.getD 5 default).part) == 0)&&((((x5.1.getD 5 default).sign) == 1)&&((((x5.1.getD 5 default).cz) == 0)&&((((x5.1.getD 5 default).dR) == 0)&&((((x5.1.getD 5 default).sum) == 100)&&((((x5.1.getD 5 default).az) == 0)&&((((x5.1.getD 5 default).state) == 1)&&true)))))))))) true (.p (bG (2:Int) x3.2.length)))) fun _ =>
 .fin (((((((x3.1.getD 3 default).aF) == 1)&&((((x3.1.getD 3 default).ak) == 2)&&((((x3.1.getD 3 default).part) == 0)&&((((x3.1.getD 3 default).sign) == 1)&&((((x3.1.getD 3 default).cz) == 2)&&((((x3.1.getD 3 default).dR) == 0)&&((((x3.1.getD 3 default).sum) == 60)&&((((x3.1.getD 3 default).az) == 0)&&((((x3.1.getD 3 default).state) == 1)&&true)))))))))&&((((x3.1.getD 4 default).aF) == 0)&&((((x3.1.getD 4 default).ak) == 2)&&((((x3.1.getD 4 default).part) == 0)&&((((x3.1.getD 4 default).sign) == 0)&&((((x3.1.getD 4 default).cz) == 2)&&((((x3.1.getD 4 default).dR) == 2)&&((((x3.1.getD 4 default).sum) == 60)&&((((x3.1.getD 4 default).az) == 0)&&((((x3.1.getD 4 default).state) == 1)&&true))))))))))&&((((x5.1.getD 5 default).aF) == 1)&&((((x5.1.getD 5 default).ak) == 0)&&((((x5.1.getD 5 default).part) == 0)&&((((x5.1.getD 5 default).sign) == 1)&&((((x5.1.getD 5 default).cz) == 0)&&((((x5.1.getD 5 default).dR) == 0)&&((((x5.1.getD 5 default).sum) == 100)&&((((x5.1.getD 5 default).az) == 0)&&((((x5.1.getD 5 default).state) == 1)&&true))))))))))&&((((x3.2.getD 2 default).aF) == 0)&&((((x3.2.getD 2 default).ak) == 3)&&((((x3.2.getD 2 default).sign) == 0)&&((((x3.2.getD 2 default).sum) == 60)&&true))))))
def D6:Bool:=(sN).val
theorem HW:(fun (x:Bool)=>x=true) (D6):=(show D6=true by kernel_rfl)
theorem MA:(sN).bz (fun _=>True):=by
 refine Sk.aX _ ?_
 unfold sN
 simp only [Sk.km,Sk.aO,reduceCtorEq,ON,kk,kp,AZ,tL,rF,maxLen]
 intro x _ hx
 refine ⟨by omega,fun y1 _ _=>⟨by omega,fun y2 _ _=>⟨by omega,fun y3 _ h3=>⟨?_,fun y4 _ _ z _ hz hc=>?_⟩⟩⟩⟩
 ·have:=h3.few (x.map N7) (fun c hc=>List.mem_map.2 ⟨c,hc,rfl⟩)
  rw [List.length_map] at this
  omega
 ·simp only [Bool.or_eq_false_iff,Bool.not_eq_false',bne_eq_false_iff_eq] at hc
  obtain ⟨⟨⟨⟨-,z2⟩,z3⟩,z4⟩,z5⟩:=hc
  have e2:=hz.2.1 z2
  have e4:=hz.2.2.2 z4
  simp only [List.length_cons,List.length_nil] at e2 e4
  (repeat' first | exact trivial | (apply And.intro) | (intro h))
  all_goals omega
def yR:gm (Bool):=kk tok mixed Tryz.func5 [] (fun x=>bv x) true (sN) (D6) (fun (_:True)=>MA) (fun (x:Bool)=>x=true) (HW)
def tM (r:ah):Sk (Bool) :=
 .bt
 (.loop (default:Sum (Bool) (Unit)) (fun i2=>i2≤r.aI.length) (fun i2=>r.aI.length - i2) (0:Nat)
 (fun (i2:Nat)=>⟨[(3,iv (i2:Int))],[]⟩) fun i2 =>
 .Ba 1 1 r.aI.length <|
 .br ((decide ((i2:Int) < ((r.aI.length:Nat):Int)))&&(decide ((i2:Int) < 50)))
 (.r 4 (.aq (.p (bG (i2:Int) r.aI.length)) (.aq (.wh (decide (((((r.aI.getD i2 default).fO).length:Nat):Int) > 70)) false (.p (bG (i2:Int) r.aI.length))) (.wh ((decide (((((r.aI.getD i2 default).fO).length:Nat):Int) > 70))||(decide (((((r.aI.getD i2 default).shut).length:Nat):Int) > 210))) false (.p (bG (i2:Int) r.aI.length))))) fun _ =>
 .br (((decide (((((r.aI.getD i2 default).fO).length:Nat):Int) > 70))||(decide (((((r.aI.getD i2 default).shut).length:Nat):Int) > 210)))||(decide (((((r.aI.getD i2 default).rest).length:Nat):Int) > 8)))
 (.fin (.inl (.inl false)))
 (.nx 3 3 i2 (i2+1)))
 (.fin (.inl (.inr ()))))
 (fun (_:Unit)=>⟨[],[]⟩) fun _ =>
 .bind true (fun b3=>∀ k,k < r.aE.length→k < 50→(r.aE.getD k default).aV.length≤40∧(r.aE.getD k default).rules.length≤40)
 (.loop (default:Sum (Bool) (Unit)) (fun i4=>(∀ k,k < i4→(r.aE.getD k default).aV.length≤40∧(r.aE.getD k default).rules.length≤40)∧i4≤r.aE.length) (fun i4=>r.aE.length - i4) (0:Nat)
 (fun (i4:Nat)=>⟨[(4,iv (i4:Int))],[]⟩) fun i4 =>
 .Ba 1 4 r.aE.length <|
 .br ((decide ((i4:Int) < ((r.aE.length:Nat):Int)))&&(decide ((i4:Int) < 50)))
 (.r 9 (.aq (.p (bG (i4:Int) r.aE.length)) (.wh (decide (((((r.aE.getD i4 default).aV).length:Nat):Int) > 40)) false (.p (bG (i4:Int) r.aE.length)))) fun _ =>
 .br ((decide (((((r.aE.getD i4 default).aV).length:Nat):Int) > 40))||(decide (((((r.aE.getD i4 default).rules).length:Nat):Int) > 40)))
 (.fin (.inl (.inl false)))
 (.nx 8 4 i4 (i4+1)))
 (.fin (.inl (.inr ()))))
 (fun (_:Unit)=>⟨[],[]⟩) fun _ =>
 .fin ((((((((decide (((r.ck.length:Nat):Int) < 50))&&(decide (((r.aI.length:Nat):Int) < 50)))&&(decide (((r.fP.length:Nat):Int) < 50)))&&(decide (((r.bm.length:Nat):Int) < 210)))&&(decide (((r.aE.length:Nat):Int) < 50)))&&(decide (((r.aM.length:Nat):Int) < 110)))&&(decide (((r.bE.length:Nat):Int) < 110)))&&(decide (((r.ep.length:Nat):Int) < 50)))
def YT r:=(tM r).val
theorem PC (r:ah):(tM r).cZ (fun (x:Bool)=>x=true→r.Small):=by
 unfold tM
 try simp only [al.Small,ah.Small]
 exact DB
theorem RW (r:ah):(tM r).bz (fun _=>True):=by
 unfold tM
 try simp only [al.Small,ah.Small]
 exact oh
def D7 r:=kp tok mixed Tryz.func34 [av r.cells] (fun x=>bv x) true (YT r) (u0 (RW r)) (PC r)
def qt (f:al):Sk (Bool) :=
 .fin ((((decide (((f.af.length:Nat):Int)≤50))&&(decide (((f.aN.length:Nat):Int)≤10)))&&(decide (((f.aA.length:Nat):Int)≤110)))&&(decide (((f.facts.length:Nat):Int)≤220)))
def CF f:=(qt f).val
theorem HX (f:al):CF f=((((decide (((f.af.length:Nat):Int)≤50))&&(decide (((f.aN.length:Nat):Int)≤10)))&&(decide (((f.aA.length:Nat):Int)≤110)))&&(decide (((f.facts.length:Nat):Int)≤220))):=rfl
theorem PD (f:al):(qt f).cZ (fun (x:Bool)=>x=true→f.Small):=by
 unfold qt
 try simp only [al.Small,ah.Small]
 exact DB
theorem RX (f:al):(qt f).bz (fun _=>True):=by
 unfold qt
 try simp only [al.Small,ah.Small]
 exact pq
def z6 f:=kp tok mixed Tryz.func35 [av f.cells] (fun x=>bv x) true (CF f) (u0 (RX f)) (PD f)
def E6 (rv:Term→Int→Int→Int) (rp:Term→Int→Int→Prop) (rf:∀ (t:Term) (n:Int) (levels:Int),rp t n levels→gr Tryz.prog 125 [av t.cells,iv n,iv levels] [] (iv (rv t n levels)) []) (t:Term) (n:Int) (levels:Int):gm (Int):=⟨Tryz.prog,125,[av t.cells,iv n,iv levels],fun x=>iv x,true,rv t n levels,rp t n levels,rf t n levels,fun _=>True,trivial⟩
def oO (rv:Term→Int→Int→Int) (rp:Term→Int→Int→Prop) (rf:∀ (t:Term) (n:Int) (levels:Int),rp t n levels→gr Tryz.prog 125 [av t.cells,iv n,iv levels] [] (iv (rv t n levels)) []) (t:Term) (n:Int) (levels:Int):Sk (Int) :=
 .br (decide (levels < 1))
 (.fin (-1))
 (.bt
 (.loop (default:Sum (Int) (Int)) (fun i2=>i2.2≤t.args.length) (fun i2=>t.args.length - i2.2) ((au (n - 1),0):Int × Nat)
 (fun (i2:Int × Nat)=>⟨[(1,iv i2.1),(7,iv (i2.2:Int))],[]⟩) fun i2 =>
 .Ba 3 2 t.args.length <|
 .br ((decide ((i2.2:Int) < ((t.args.length:Nat):Int)))&&(decide (i2.1≥0)))
 (.r 7 (.aq (.aq (.p (bG (i2.2:Int) t.args.length)) (.o [.cast 26 (YO (Term.HP (t.args.getD i2.2 default)))])) ((E6 rv rp rf (t.args.getD i2.2 default) i2.1 (au (levels - 1))).c)) fun x3 =>
 .nx 6 7 i2.2 (x3,i2.2+1))
 (.fin (.inl (.inr i2.1))))
 (fun (b1:Int)=>⟨[(1,iv b1)],[]⟩) fun b1 =>
 .fin b1)
def jB:Nat→Term→Int→Int→Int
 | 0,_,_,_=>default
 | fu+1,t,n,levels=>(oO (jB fu) (fun _ _ _=>False) (fun _ _ _=>fun h=>h.elim) t n levels).val
theorem PE (fu:Nat) (rf:∀ (t:Term) (n:Int) (levels:Int),t.depth≤fu∧True→gr Tryz.prog 125 [av t.cells,iv n,iv levels] [] (iv (jB fu t n levels)) []) (t:Term) (n:Int) (levels:Int) (hm:t.depth≤fu+1):(oO (jB fu) (fun t n levels=>t.depth≤fu∧True) rf t n levels).bz (fun _=>True):=by
 refine Sk.aX _ ?_
 unfold oO
 simp only [Sk.km,Sk.aO,reduceCtorEq,ON,kk,kp,E6,maxLen]
 all_goals (repeat' first | assumption | (apply And.intro) | (intro h))
 all_goals first | trivial | assumption | omega | (refine Nat.le_of_lt_succ (Nat.lt_of_lt_of_le (Term.kA t _ (by (try simp only [LN] at *); omega)) hm)) | ((try simp only [LN] at *) <;> first | omega | (refine (aG ?_ ?_).trans ?_ <;> omega) | (simp (disch:=omega) only [aG] at *; omega) | (grind) | (simp_all; done) | (simp_all; omega))
theorem MB (fu:Nat) (rp:Term→Int→Int→Prop) (rf:∀ (t:Term) (n:Int) (levels:Int),rp t n levels→gr Tryz.prog 125 [av t.cells,iv n,iv levels] [] (iv (jB fu t n levels)) []) (t:Term) (n:Int) (levels:Int):(oO (jB fu) rp rf t n levels).val=jB (fu+1) t n levels:=by kernel_rfl
theorem MC (fu:Nat):∀ (t:Term) (n:Int) (levels:Int),t.depth≤fu→gr Tryz.prog 125 [av t.cells,iv n,iv levels] [] (iv (jB fu t n levels)) []:=by
 induction fu with
 | zero=>intro t n levels hm; exact absurd hm (by have:=Term.tp t; omega)
 | succ fu ih =>
  intro t n levels hm
  have h:gr Tryz.prog 125 [av t.cells,iv n,iv levels] [] (iv ((oO (jB fu) (fun t n levels=>t.depth≤fu∧True) (fun t n levels h=>ih t n levels h.1) t n levels).val)) []:=gr.sk tok mixed (fun x=>iv x) (fun _=>[]) Tryz.func125 rfl (by kernel_rfl) 3000 (oO (jB fu) (fun t n levels=>t.depth≤fu∧True) (fun t n levels h=>ih t n levels h.1) t n levels) (by kernel_rfl) (PE fu _ t n levels hm)
  rw [MB] at h
  exact h
def PF (t:Term) (n:Int) (levels:Int):Int:=jB (t.depth) t n levels
theorem PG (t:Term) (n:Int) (levels:Int):gr Tryz.prog 125 [av t.cells,iv n,iv levels] [] (iv (PF t n levels)) []:=MC _ t n levels (Nat.le_refl _)
def HZ (t:Term) (n:Int) (levels:Int):gm (Int):=⟨Tryz.prog,125,[av t.cells,iv n,iv levels],fun x=>iv x,true,PF t n levels,True,fun _=>PG t n levels,fun _=>True,trivial⟩
def xb (t:Term):Sk (Bool) :=
 .r 1 ((HZ t 100 20).c) fun x1 =>
 .fin (decide (x1≥0))
def YU t:=(xb t).val
theorem RY (t:Term):(xb t).bz (fun _=>True):=by
 unfold xb
 try simp only [HZ]
 exact pq
def Ls t:=kk tok mixed Tryz.func74 [av t.cells] (fun x=>bv x) true (xb t) (YU t) (u0 (RY t))
def xc (o:Order):Sk (Bool) :=
 .br ((decide (((o.rules.length:Nat):Int) > 60))||(decide (((o.aV.length:Nat):Int) > 60)))
 (.fin false)
 (.bt
 (.loop (default:Sum (Bool) (Unit)) (fun i2=>i2≤o.rules.length) (fun i2=>o.rules.length - i2) (0:Nat)
 (fun (i2:Nat)=>⟨[(3,iv (i2:Int))],[]⟩) fun i2 =>
 .lt 1 3 i2 o.rules.length
 (.r 6 (.aq (.p (bG (i2:Int) o.rules.length)) ((Ls ((o.rules.getD i2 default).term)).c)) fun x3 =>
 .br (!x3)
 (.fin (.inl (.inl false)))
 (.nx 5 3 i2 (i2+1)))
 (.fin (.inl (.inr ()))))
 (fun (_:Unit)=>⟨[],[]⟩) fun _ =>
 .fin true)
def YV o:=(xc o).val
theorem RZ (o:Order):(xc o).bz (fun _=>True):=by
 unfold xc
 try simp only [Ls]
 exact oh
def D8 o:=kk tok mixed Tryz.func36 [av o.cells] (fun x=>bv x) true (xc o) (YV o) (u0 (RZ o))
def qu (r:ah) (f:al):Sk (Bool) :=
 .r 1 (.dep ((D7 r).c) fun x1=>.wh (!x1) false ((z6 f).c)) fun p6 =>
 .br ((!p6.1)||(!p6.2))
 (.fin false)
 (.bt
 (.loop (default:Sum (Bool) (Unit)) (fun i4=>i4≤r.aE.length) (fun i4=>r.aE.length - i4) (0:Nat)
 (fun (i4:Nat)=>⟨[(5,iv (i4:Int))],[]⟩) fun i4 =>
 .lt 2 4 i4 r.aE.length
 (.r 6 (.aq (.p (bG (i4:Int) r.aE.length)) ((D8 (r.aE.getD i4 default)).c)) fun x5 =>
 .br (!x5)
 (.fin (.inl (.inl false)))
 (.nx 5 5 i4 (i4+1)))
 (.fin (.inl (.inr ()))))
 (fun (_:Unit)=>⟨[],[]⟩) fun _ =>
 .fin true)
def GJ r f:=(qu r f).val
theorem PH (r:ah) (f:al):(qu r f).cZ (fun (x:Bool)=>x=true→r.Small∧f.Small):=by
 unfold qu
 try simp only [D7,z6,D8,HX,al.Small,ah.Small]
 exact RS
theorem R0 (r:ah) (f:al):(qu r f).bz (fun _=>True):=by
 unfold qu
 try simp only [D7,z6,D8,HX,al.Small,ah.Small]
 exact yj
def z7 r f:=kp tok mixed Tryz.func14 [av r.cells,av f.cells] (fun x=>bv x) true (GJ r f) (u0 (R0 r f)) (PH r f)
def qP (c_:Int):Sk (Bool) :=
 .fin (((decide ((97:Int)≤c_))&&(decide (c_≤122)))||((decide ((65:Int)≤c_))&&(decide (c_≤90))))
def H0 c_:=(qP c_).val
theorem Kb (c_:Int):H0 c_=(((decide ((97:Int)≤c_))&&(decide (c_≤122)))||((decide ((65:Int)≤c_))&&(decide (c_≤90)))):=rfl
theorem Kc (c_:Int):(qP c_).bz (fun _=>True):=by
 unfold qP
 exact pq
def CG c_:=kk tok mixed Tryz.func167 [.d (.v (.int .u8 c_))] (fun x=>bv x) true (qP c_) (H0 c_) (u0 (Kc c_))
def uL (s:ByteArray):Sk (Bool) :=
 .br ((decide (((s.size:Nat):Int) < 1))||(decide (((s.size:Nat):Int) > 20)))
 (.fin false)
 (.bt
 (.loop (default:Sum (Bool) (Unit)) (fun i2=>i2≤s.size) (fun i2=>s.size - i2) (0:Nat)
 (fun (i2:Nat)=>⟨[(3,iv (i2:Int))],[]⟩) fun i2 =>
 .br (decide ((i2:Int) < ((s.size:Nat):Int)))
 (.r 6 (.aq (.p (0≤(i2:Int)∧(i2:Int) < ((s.size:Nat):Int))) (.aq (.wh (((s.data.toList.getD i2 0).toNat:Int) == 95) false (.p (0≤(i2:Int)∧(i2:Int) < ((s.size:Nat):Int)))) (.wh (((s.data.toList.getD i2 0).toNat:Int) == 95) false (.wh (decide ((48:Int)≤((s.data.toList.getD i2 0).toNat:Int))) true (.p (0≤(i2:Int)∧(i2:Int) < ((s.size:Nat):Int))))))) fun _ =>
 .r 7 (.aq (.p (0≤(i2:Int)∧(i2:Int) < ((s.size:Nat):Int))) ((CG ((s.data.toList.getD i2 0).toNat:Int)).c)) fun x3 =>
 .br ((!x3)&&(((i2:Int) == 0)||(!((((s.data.toList.getD i2 0).toNat:Int) == 95)||((decide ((48:Int)≤((s.data.toList.getD i2 0).toNat:Int)))&&(decide (((s.data.toList.getD i2 0).toNat:Int)≤57)))))))
 (.fin (.inl (.inl false)))
 (.nx 5 3 i2 (i2+1)))
 (.fin (.inl (.inr ()))))
 (fun (_:Unit)=>⟨[],[]⟩) fun _ =>
 .fin true)
def WX s:=(uL s).val
theorem PI (s:ByteArray):(uL s).bz (fun _=>True):=by
 unfold uL
 try simp only [CG,Kb]
 exact yj
def H2 s:=kk tok mixed Tryz.func126 [sv s] (fun x=>bv x) true (uL s) (WX s) (u0 (PI s))
def qQ (l:List ByteArray) (n:Int) (s:ByteArray):Sk (Bool) :=
 .bt
 (.loop (default:Sum (Bool) (Unit)) (fun i2=>i2≤l.length) (fun i2=>l.length - i2) (0:Nat)
 (fun (i2:Nat)=>⟨[(7,iv (i2:Int))],[]⟩) fun i2 =>
 .Ba 0 0 l.length <|
 .br ((decide ((i2:Int) < n))&&(decide ((i2:Int) < ((l.length:Nat):Int))))
 (.r 4 (.p (bG (i2:Int) l.length)) fun _ =>
 .br ((l.getD i2 default).toList == s.toList)
 (.fin (.inl (.inl true)))
 (.nx 3 7 i2 (i2+1)))
 (.fin (.inl (.inr ()))))
 (fun (_:Unit)=>⟨[],[]⟩) fun _ =>
 .fin false
def R1 l n s:=(qQ l n s).val
theorem Kd (l:List ByteArray) (n:Int) (s:ByteArray):(qQ l n s).bz (fun _=>True):=by
 unfold qQ
 exact oh
def CH l n s:=kk tok mixed Tryz.func127 [lv jz l,iv n,sv s] (fun x=>bv x) true (qQ l n s) (R1 l n s) (u0 (Kd l n s))
def sO (l:List ByteArray) (i:Int):Sk (Int) :=
 .r 1 (.aq (.p (bG i l.length)) ((H2 (l.getD i.toNat default)).c)) fun x1 =>
 .br (!x1)
 (.fin 2)
 (.r 3 (.aq (.p (bG i l.length)) ((CH l i (l.getD i.toNat default)).c)) fun x2 =>
 .br x2
 (.fin 5)
 (.fin 0))
def UJ l i:=(sO l i).val
theorem MD (l:List ByteArray) (i:Int) (hi:0≤i∧i < (l.length:Int)):(sO l i).bz (fun _=>True):=by
 unfold sO
 try simp only [CH,H2]
 exact oh
def gJ l i:=kk tok mixed Tryz.func75 [lv jz l,iv i] (fun x=>iv x) true (sO l i) (UJ l i) (MD l i)
def qR (n:Int) (low:Int) (high:Int):Sk (Bool) :=
 .fin ((decide (low≤n))&&(decide (n≤high)))
def H3 n low high:=(qR n low high).val
theorem bB (n:Int) (low:Int) (high:Int):H3 n low high=((decide (low≤n))&&(decide (n≤high))):=rfl
theorem Ke (n:Int) (low:Int) (high:Int):(qR n low high).bz (fun _=>True):=by
 unfold qR
 exact pq
def ar n low high:=kk tok mixed Tryz.func44 [iv n,iv low,iv high] (fun x=>bv x) true (qR n low high) (H3 n low high) (u0 (Ke n low high))
def qS (l:List Int) (low:Int) (high:Int):Sk (Bool) :=
 .bt
 (.loop (default:Sum (Bool) (Unit)) (fun i2=>i2≤l.length) (fun i2=>l.length - i2) (0:Nat)
 (fun (i2:Nat)=>⟨[(7,iv (i2:Int))],[]⟩) fun i2 =>
 .lt 0 0 i2 l.length
 (.r 4 (.aq (.p (bG (i2:Int) l.length)) ((ar (l.getD i2 default) low high).c)) fun x3 =>
 .br (!x3)
 (.fin (.inl (.inl false)))
 (.r 6 (.aq (.wh (decide ((i2:Int) > 0)) true (.p (bG (au ((i2:Int) - 1)) l.length))) (.wh (decide ((i2:Int) > 0)) true (.p (bG (i2:Int) l.length)))) fun _ =>
 .br ((decide ((i2:Int) > 0))&&(decide ((l.getD ((au ((i2:Int) - 1)).toNat) default)≥(l.getD i2 default))))
 (.fin (.inl (.inl false)))
 (.nx 3 7 i2 (i2+1))))
 (.fin (.inl (.inr ()))))
 (fun (_:Unit)=>⟨[],[]⟩) fun _ =>
 .fin true
def R2 l low high:=(qS l low high).val
theorem Kf (l:List Int) (low:Int) (high:Int):(qS l low high).bz (fun _=>True):=by
 unfold qS
 try simp only [ar,bB]
 exact yj
def sP l low high:=kk tok mixed Tryz.func128 [lv bU l,iv low,iv high] (fun x=>bv x) true (qS l low high) (R2 l low high) (u0 (Kf l low high))
def mo (r:ah) (c_:jA):Sk (Bool) :=
 .r 1 (.dep ((ar c_.order 0 (au (((r.aE.length:Nat):Int) - 1))).c) fun x1=>.wh (!x1) false ((ar c_.az 0 (au (((r.ck.length:Nat):Int) - 1))).c)) fun WY =>
 .br ((((!WY.1)||(!WY.2))||(decide (((c_.fO.length:Nat):Int) > 60)))||(decide (((c_.shut.length:Nat):Int) > 200)))
 (.fin false)
 (.bt
 (.loop (default:Sum (Bool) (Unit)) (fun i4=>i4≤c_.fO.length) (fun i4=>c_.fO.length - i4) (0:Nat)
 (fun (i4:Nat)=>⟨[(5,iv (i4:Int))],[]⟩) fun i4 =>
 .lt 3 4 i4 c_.fO.length
 (.r 6 (.aq (.p (bG (i4:Int) c_.fO.length)) (.aq (.p ((100:Int)≠0)) (.dep ((ar (au ((c_.fO.getD i4 default).tdiv 100)) 1 12).c) fun x5=>.aq (.wh (!x5) false (.p (bG (i4:Int) c_.fO.length))) (.aq (.wh (!x5) false (.p ((100:Int)≠0))) (.wh (!x5) false ((ar ((c_.fO.getD i4 default).tmod 100) 1 31).c)))))) fun p7 =>
 .br ((!p7.1)||(!p7.2))
 (.fin (.inl (.inl false)))
 (.nx 5 5 i4 (i4+1)))
 (.fin (.inl (.inr ()))))
 (fun (_:Unit)=>⟨[],[]⟩) fun _ =>
 .r 8 (.dep ((sP c_.rest 0 6).c) fun x8=>.dep (.wh x8 true ((sP c_.fO 0 2000).c)) fun x9=>.wh (x8&&x9) true ((sP c_.shut 0 100000).c)) fun UK =>
 .fin ((UK.1&&UK.2.1)&&UK.2.2))
def Kg r c_:=(mo r c_).val
theorem D9 (r:ah) (c_:jA):(mo r c_).bz (fun _=>True):=by
 unfold mo
 try simp only [sP,ar,bB]
 exact yj
def rX r c_:=kk tok mixed Tryz.func76 [av r.cells,av c_.cells] (fun x=>bv x) true (mo r c_) (Kg r c_) (u0 (D9 r c_))
def nk (r:ah):Sk (Int) :=
 .br (decide (((r.ck.length:Nat):Int) > 8))
 (.fin 6)
 (.bt
 (.loop (default:Sum (Int) (Unit)) (fun i2=>i2≤r.ck.length) (fun i2=>r.ck.length - i2) (0:Nat)
 (fun (i2:Nat)=>⟨[(3,iv (i2:Int))],[]⟩) fun i2 =>
 .lt 1 0 i2 r.ck.length
 (.r 6 ((gJ r.ck (i2:Int)).c) fun x3 =>
 .br (x3 != 0)
 (.fin (.inl (.inl x3)))
 (.nx 5 3 i2 (i2+1)))
 (.fin (.inl (.inr ()))))
 (fun (_:Unit)=>⟨[],[]⟩) fun _ =>
 .br (decide (((r.aI.length:Nat):Int) > 40))
 (.fin 6)
 (.bt
 (.loop (default:Sum (Int) (Unit)) (fun i5=>i5.1.length=i5.2∧i5.2≤r.aI.length) (fun i5=>r.aI.length - i5.2) (([],0):(List ByteArray) × Nat)
 (fun (i5:(List ByteArray) × Nat)=>⟨[(5,ow 100001 i5.1),(6,iv (i5.2:Int))],[(100001,bO 9 1 jz i5.1)]⟩) fun i5 =>
 .lt 1 1 i5.2 r.aI.length
 (.r 15 (.aq (.p (bG (i5.2:Int) r.aI.length)) (.aq (.o [.fU (gA vR [(r.aI.getD i5.2 default).name])]) (.aq (.o [.fU (oe vR i5.1 [(r.aI.getD i5.2 default).name])]) (.aq (.t (vR.qb [(r.aI.getD i5.2 default).name])) (.p (yi i5.1.length [(r.aI.getD i5.2 default).name].length 16)))))) fun _ =>
 .r 16 ((gJ (i5.1++[(r.aI.getD i5.2 default).name]) (i5.2:Int)).c) fun x6 =>
 .br (x6 != 0)
 (.fin (.inl (.inl x6)))
 (.r 19 (.aq (.p (bG (i5.2:Int) r.aI.length)) ((rX r (r.aI.getD i5.2 default)).c)) fun x7 =>
 .br (!x7)
 (.fin (.inl (.inl 1)))
 (.nx 14 6 i5.2 (i5.1++[(r.aI.getD i5.2 default).name],i5.2+1))))
 (.fin (.inl (.inr ()))))
 (fun (_:Unit)=>⟨[],[]⟩) fun _ =>
 .fin 0))
def R3 r:=(nk r).val
theorem H4 (r:ah):(nk r).cZ (fun (x:Int)=>x=0→r.ck.length≤8∧r.aI.length≤40):=by
 unfold nk
 try simp only [rX,gJ]
 exact DB
theorem Kh (r:ah):(nk r).bz (fun _=>True):=by
 unfold nk
 try simp only [rX,gJ]
 exact oh
def xe r:=kp tok mixed Tryz.func37 [av r.cells] (fun x=>iv x) true (R3 r) (u0 (Kh r)) (H4 r)
def mq (r:ah):Sk (Int) :=
 .br (decide (((r.fP.length:Nat):Int) > 20))
 (.fin 6)
 (.bt
 (.loop (default:Sum (Int) (Unit)) (fun i2=>i2≤r.fP.length) (fun i2=>r.fP.length - i2) (0:Nat)
 (fun (i2:Nat)=>⟨[(3,iv (i2:Int))],[]⟩) fun i2 =>
 .lt 1 2 i2 r.fP.length
 (.r 6 (.aq (.p (bG (i2:Int) r.fP.length)) ((ar ((r.fP.getD i2 default).Pt) 0 9).c)) fun x3 =>
 .br (!x3)
 (.fin (.inl (.inl 1)))
 (.nx 5 3 i2 (i2+1)))
 (.fin (.inl (.inr ()))))
 (fun (_:Unit)=>⟨[],[]⟩) fun _ =>
 .br (decide (((r.bm.length:Nat):Int) > 200))
 (.fin 6)
 (.bind true (fun b4=>r.aI.length≤40→r.iH)
 (.loop (default:Sum (Int) (Unit)) (fun i5=>i5.1.length=i5.2∧i5.2≤r.bm.length∧(r.aI.length≤40→∀ q,q < i5.2→0≤(r.bm.getD q default).bZ∧(r.bm.getD q default).bZ < (r.aI.length:Int))) (fun i5=>r.bm.length - i5.2) (([],0):(List ByteArray) × Nat)
 (fun (i5:(List ByteArray) × Nat)=>⟨[(4,ow 100001 i5.1),(5,iv (i5.2:Int))],[(100001,bO 9 1 jz i5.1)]⟩) fun i5 =>
 .lt 1 3 i5.2 r.bm.length
 (.r 14 (.aq (.p (bG (i5.2:Int) r.bm.length)) (.aq (.o [.fU (gA vR [(r.bm.getD i5.2 default).name])]) (.aq (.o [.fU (oe vR i5.1 [(r.bm.getD i5.2 default).name])]) (.aq (.t (vR.qb [(r.bm.getD i5.2 default).name])) (.p (yi i5.1.length [(r.bm.getD i5.2 default).name].length 16)))))) fun _ =>
 .r 15 ((gJ (i5.1++[(r.bm.getD i5.2 default).name]) (i5.2:Int)).c) fun x6 =>
 .br (x6 != 0)
 (.fin (.inl (.inl x6)))
 (.r 18 (.aq (.p (bG (i5.2:Int) r.bm.length)) (.dep ((ar ((r.bm.getD i5.2 default).bZ) 0 (au (((r.aI.length:Nat):Int) - 1))).c) fun x7=>.aq (.wh (!x7) false (.p (bG (i5.2:Int) r.bm.length))) (.wh (!x7) false ((ar ((r.bm.getD i5.2 default).group) 0 (au (((r.fP.length:Nat):Int) - 1))).c)))) fun p9 =>
 .br ((!p9.1)||(!p9.2))
 (.fin (.inl (.inl 1)))
 (.nx 13 5 i5.2 (i5.1++[(r.bm.getD i5.2 default).name],i5.2+1))))
 (.fin (.inl (.inr ()))))
 (fun (_:Unit)=>⟨[],[]⟩) fun _ =>
 .fin 0))
def Lt r:=(mq r).val
theorem Ki (r:ah) (hP:r.aI.length≤40):(mq r).cZ (fun (x:Int)=>x=0→r.fP.length≤20∧r.bm.length≤200∧r.iH):=by
 refine Sk.bp _ ?_
 unfold mq
 simp only [Sk.cU,Sk.aO,reduceCtorEq,ON,kk,kp,ar,gJ,bB,forall_eq,ah.iH,maxLen]
 all_goals exact acp
theorem H5 (r:ah):(fun (x:Int)=>(r.aI.length≤40)→(x=0→r.fP.length≤20∧r.bm.length≤200∧r.iH)) (Lt r):=fun hP=>Sk.de _ (Ki r hP)
theorem ME (r:ah):(mq r).bz (fun _=>True):=by
 refine Sk.aX _ ?_
 unfold mq
 simp only [Sk.km,Sk.aO,reduceCtorEq,ON,kk,kp,ar,gJ,bB,forall_eq,ah.iH,maxLen]
 all_goals exact acp
def yS r:=kk tok mixed Tryz.func38 [av r.cells] (fun x=>iv x) true (mq r) (Lt r) (u0 (ME r)) (fun (x:Int)=>(r.aI.length≤40)→(x=0→r.fP.length≤20∧r.bm.length≤200∧r.iH)) (H5 r)
def jb (o:Order):Sk (Bool) :=
 .bind true (fun b1=>∀ j:Nat,j < o.aV.length→((j:Int)≤(o.aV.getD j default).ask∧(o.aV.getD j default).ask≤21)∧0≤(o.aV.getD j default).cz∧(o.aV.getD j default).cz < 5)
 (.loop (default:Sum (Bool) (Unit)) (fun i2=>(∀ j:Nat,j < i2→((j:Int)≤(o.aV.getD j default).ask∧(o.aV.getD j default).ask≤21)∧0≤(o.aV.getD j default).cz∧(o.aV.getD j default).cz < 5)∧i2≤o.aV.length) (fun i2=>o.aV.length - i2) (0:Nat)
 (fun (i2:Nat)=>⟨[(3,iv (i2:Int))],[]⟩) fun i2 =>
 .lt 1 2 i2 o.aV.length
 (.r 4 (.aq (.p (bG (i2:Int) o.aV.length)) (.dep ((ar ((o.aV.getD i2 default).ask) 0 21).c) fun x3=>.aq (.wh (!x3) false (.p (bG (i2:Int) o.aV.length))) (.wh (!x3) false ((ar ((o.aV.getD i2 default).cz) 0 4).c)))) fun p5 =>
 .br ((!p5.1)||(!p5.2))
 (.fin (.inl (.inl false)))
 (.r 6 (.aq (.wh (decide ((i2:Int) > 0)) true (.p (bG (au ((i2:Int) - 1)) o.aV.length))) (.wh (decide ((i2:Int) > 0)) true (.p (bG (i2:Int) o.aV.length)))) fun _ =>
 .br ((decide ((i2:Int) > 0))&&(decide (((o.aV.getD ((au ((i2:Int) - 1)).toNat) default).ask)≥((o.aV.getD i2 default).ask))))
 (.fin (.inl (.inl false)))
 (.nx 3 3 i2 (i2+1))))
 (.fin (.inl (.inr ()))))
 (fun (_:Unit)=>⟨[],[]⟩) fun _ =>
 .bind true (fun b6=>∀ j:Nat,j < o.rules.length→(j:Int)≤(o.rules.getD j default).ask∧(o.rules.getD j default).ask≤21)
 (.loop (default:Sum (Bool) (Unit)) (fun i7=>(∀ j:Nat,j < i7→(j:Int)≤(o.rules.getD j default).ask∧(o.rules.getD j default).ask≤21)∧i7≤o.rules.length) (fun i7=>o.rules.length - i7) (0:Nat)
 (fun (i7:Nat)=>⟨[(4,iv (i7:Int))],[]⟩) fun i7 =>
 .lt 1 3 i7 o.rules.length
 (.r 11 (.aq (.p (bG (i7:Int) o.rules.length)) ((ar ((o.rules.getD i7 default).ask) 0 21).c)) fun x8 =>
 .br (!x8)
 (.fin (.inl (.inl false)))
 (.r 13 (.aq (.wh (decide ((i7:Int) > 0)) true (.p (bG (au ((i7:Int) - 1)) o.rules.length))) (.wh (decide ((i7:Int) > 0)) true (.p (bG (i7:Int) o.rules.length)))) fun _ =>
 .br ((decide ((i7:Int) > 0))&&(decide (((o.rules.getD ((au ((i7:Int) - 1)).toNat) default).ask)≥((o.rules.getD i7 default).ask))))
 (.fin (.inl (.inl false)))
 (.nx 10 4 i7 (i7+1))))
 (.fin (.inl (.inr ()))))
 (fun (_:Unit)=>⟨[],[]⟩) fun _ =>
 .fin true
def H6 o:=(jb o).val
theorem Bp (o:Order):(jb o).cZ (fun (x:Bool)=>x=true→(∀ j,j < o.aV.length→0≤(o.aV.getD j default).cz∧(o.aV.getD j default).cz < 5)∧o.aV.length≤22∧o.rules.length≤22):=by
 refine Sk.bp _ ?_
 unfold jb
 simp only [Sk.cU,Sk.aO,reduceCtorEq,ON,kk,kp,ar,bB,forall_eq,maxLen]
 refine ⟨⟨⟨fun j hj=>absurd hj (by omega),Nat.zero_le _⟩,fun i hi=>⟨fun hc h1 _ h2 _=>?_,fun hc j hj=>?_⟩⟩,fun _ hJ=>⟨⟨⟨fun j hj=>absurd hj (by omega),Nat.zero_le _⟩,fun i hi=>⟨fun hc h1 _ h2 _=>?_,fun hc j hj=>?_⟩⟩,fun _ hJ2=>⟨fun j hj=>(hJ j hj).2,?_,?_⟩⟩⟩
 rotate_right
 rotate_right
 ·rcases Nat.lt_or_ge 22 o.aV.length with h | h
  ·have:=(hJ 22 h).1; omega
  ·exact h
 ·rcases Nat.lt_or_ge 22 o.rules.length with h | h
  ·have:=hJ2 22 h; omega
  ·exact h
 all_goals simp only [LN] at hc
 ·simp only [LN] at h1 h2
  refine ⟨⟨fun j hj=>?_,by omega⟩,by omega⟩
  by_cases e:j=i
  ·subst e
   refine ⟨⟨?_,by omega⟩,by omega,by omega⟩
   by_cases e0:j=0
   ·subst e0; omega
   ·have h3:=hi.1 (j - 1) (by omega)
    have h4:=h2.resolve_left (by omega)
    rw [aG (by omega) (by omega),show ((j:Int) - 1).toNat=j - 1 by omega] at h4
    omega
  ·exact hi.1 j (by omega)
 ·exact hi.1 j (by omega)
 ·simp only [LN] at h1 h2
  refine ⟨⟨fun j hj=>?_,by omega⟩,by omega⟩
  by_cases e:j=i
  ·subst e
   refine ⟨?_,by omega⟩
   by_cases e0:j=0
   ·subst e0; omega
   ·have h3:=hi.1 (j - 1) (by omega)
    have h4:=h2.resolve_left (by omega)
    rw [aG (by omega) (by omega),show ((j:Int) - 1).toNat=j - 1 by omega] at h4
    omega
  ·exact hi.1 j (by omega)
 ·exact hi.1 j (by omega)
theorem CI (o:Order):(jb o).bz (fun _=>True):=by
 refine Sk.aX _ ?_
 unfold jb
 simp only [Sk.km,Sk.aO,reduceCtorEq,ON,kk,kp,ar,bB,forall_eq,maxLen]
 refine ⟨⟨⟨fun j hj=>absurd hj (by omega),Nat.zero_le _⟩,fun i hi hm=>⟨fun hc=>⟨⟨?_,fun _=>?_⟩,fun h1=>⟨⟨fun h3=>?_,fun _=>?_⟩,fun _ h2 _=>⟨?_,?_⟩⟩⟩,fun hc j hj=>?_⟩⟩,fun _ hJ=>⟨⟨fun j hj=>absurd hj (by omega),Nat.zero_le _⟩,fun i hi hm=>⟨fun hc=>⟨?_,fun h1=>⟨⟨fun h3=>?_,fun _=>?_⟩,fun _ h2 _=>⟨?_,?_⟩⟩⟩,fun hc j hj=>?_⟩⟩⟩
 all_goals simp only [LN] at hc
 ·exact ⟨by omega,by omega⟩
 ·exact ⟨by omega,by omega⟩
 ·simp only [LN] at h3
  rw [aG (by omega) (by omega)]
  exact ⟨by omega,by omega⟩
 ·exact ⟨by omega,by omega⟩
 ·exact (aG (by omega) (by omega)).trans (by omega)
 ·simp only [LN] at h1 h2
  refine ⟨⟨fun j hj=>?_,by omega⟩,by omega⟩
  by_cases e:j=i
  ·subst e
   refine ⟨⟨?_,by omega⟩,by omega,by omega⟩
   by_cases e0:j=0
   ·subst e0; omega
   ·have h3:=hi.1 (j - 1) (by omega)
    have h4:=h2.resolve_left (by omega)
    rw [aG (by omega) (by omega),show ((j:Int) - 1).toNat=j - 1 by omega] at h4
    omega
  ·exact hi.1 j (by omega)
 ·exact hi.1 j (by omega)
 ·exact ⟨by omega,by omega⟩
 ·simp only [LN] at h3
  rw [aG (by omega) (by omega)]
  exact ⟨by omega,by omega⟩
 ·exact ⟨by omega,by omega⟩
 ·exact (aG (by omega) (by omega)).trans (by omega)
 ·simp only [LN] at h1 h2
  refine ⟨⟨fun j hj=>?_,by omega⟩,by omega⟩
  by_cases e:j=i
  ·subst e
   refine ⟨?_,by omega⟩
   by_cases e0:j=0
   ·subst e0; omega
   ·have h3:=hi.1 (j - 1) (by omega)
    have h4:=h2.resolve_left (by omega)
    rw [aG (by omega) (by omega),show ((j:Int) - 1).toNat=j - 1 by omega] at h4
    omega
  ·exact hi.1 j (by omega)
 ·exact hi.1 j (by omega)
def qv o:=kp tok mixed Tryz.func77 [av o.cells] (fun x=>bv x) true (H6 o) (u0 (CI o)) (Bp o)
def nm (r:ah):Sk (Int) :=
 .br (decide (((r.aE.length:Nat):Int) > 20))
 (.fin 6)
 (.bind true (fun b1=>r.cG∧(∀ i,i < r.aE.length→(r.aE.getD i default).aV.length≤22∧(r.aE.getD i default).rules.length≤22))
 (.loop (default:Sum (Int) (Unit)) (fun i2=>i2.1.length=i2.2∧i2.2≤r.aE.length∧(∀ i j,i < i2.2→j < (r.aE.getD i default).aV.length→0≤((r.aE.getD i default).aV.getD j default).cz∧((r.aE.getD i default).aV.getD j default).cz < 5)∧(∀ i,i < i2.2→(r.aE.getD i default).aV.length≤22∧(r.aE.getD i default).rules.length≤22)) (fun i2=>r.aE.length - i2.2) (([],0):(List ByteArray) × Nat)
 (fun (i2:(List ByteArray) × Nat)=>⟨[(3,ow 100001 i2.1),(4,iv (i2.2:Int))],[(100001,bO 9 1 jz i2.1)]⟩) fun i2 =>
 .lt 1 4 i2.2 r.aE.length
 (.r 7 (.aq (.p (bG (i2.2:Int) r.aE.length)) (.aq (.o [.fU (gA vR [(r.aE.getD i2.2 default).name])]) (.aq (.o [.fU (oe vR i2.1 [(r.aE.getD i2.2 default).name])]) (.aq (.t (vR.qb [(r.aE.getD i2.2 default).name])) (.p (yi i2.1.length [(r.aE.getD i2.2 default).name].length 16)))))) fun _ =>
 .r 8 ((gJ (i2.1++[(r.aE.getD i2.2 default).name]) (i2.2:Int)).c) fun x3 =>
 .br (x3 != 0)
 (.fin (.inl (.inl x3)))
 (.r 11 (.aq (.p (bG (i2.2:Int) r.aE.length)) ((qv (r.aE.getD i2.2 default)).c)) fun x4 =>
 .br (!x4)
 (.fin (.inl (.inl 1)))
 (.nx 6 4 i2.2 (i2.1++[(r.aE.getD i2.2 default).name],i2.2+1))))
 (.fin (.inl (.inr ()))))
 (fun (_:Unit)=>⟨[],[]⟩) fun _ =>
 .fin 0)
def R4 r:=(nm r).val
theorem H7 (r:ah):(nm r).cZ (fun (x:Int)=>x=0→r.cG∧r.aE.length≤20∧(∀ i,i < r.aE.length→(r.aE.getD i default).aV.length≤22∧(r.aE.getD i default).rules.length≤22)):=by
 unfold nm
 try simp only [qv,gJ,ah.cG]
 exact DB
theorem Kj (r:ah):(nm r).bz (fun _=>True):=by
 unfold nm
 try simp only [qv,gJ,ah.cG]
 exact oh
def xf r:=kp tok mixed Tryz.func39 [av r.cells] (fun x=>iv x) true (R4 r) (u0 (Kj r)) (H7 r)
def lU (r:ah):Sk (Int) :=
 .br (decide (((r.aM.length:Nat):Int) > 100))
 (.fin 6)
 (.bt
 (.loop (default:Sum (Int) (Unit)) (fun i2=>i2≤r.aM.length) (fun i2=>r.aM.length - i2) (0:Nat)
 (fun (i2:Nat)=>⟨[(3,iv (i2:Int))],[]⟩) fun i2 =>
 .lt 1 5 i2 r.aM.length
 (.bt
 (.r 6 (.p (bG (i2:Int) r.aM.length)) fun _ =>
 .r 7 (.dep ((ar ((r.aM.getD i2 default).from_) 0 (au (((r.aI.length:Nat):Int) - 1))).c) fun x4=>.dep (.wh (!x4) false ((ar ((r.aM.getD i2 default).cj) 0 (au (((r.aI.length:Nat):Int) - 1))).c)) fun x5=>.wh ((!x4)||(!x5)) false ((ar ((r.aM.getD i2 default).days) 1 20000).c)) fun p9 =>
 .br (((!p9.1)||(!p9.2.1))||(!p9.2.2))
 (.fin (.inl (.inl (.inl 1))))
 (.bt
 (.loop (default:Sum (Sum (Sum (Sum (Int) (Unit)) (Nat)) (Int × (List dC) × Int × dC × Int × (List jA) × Int × Int × Bool × Bool × Bool × Bool × Bool × Bool × Int × Int × Bool)) (Int × Int × Int × Bool)) (fun i8=>i8≤i2) (fun i8=>i2 - i8) (0:Nat)
 (fun (i8:Nat)=>⟨[(5,iv (i8:Int))],[]⟩) fun i8 =>
 .br (decide ((i8:Int) < (i2:Int)))
 (.r 12 (.aq (.p (bG (i8:Int) r.aM.length)) (.wh (((r.aM.getD i8 default).from_) == ((r.aM.getD i2 default).from_)) true (.p (bG (i8:Int) r.aM.length)))) fun _ =>
 .br ((((r.aM.getD i8 default).from_) == ((r.aM.getD i2 default).from_))&&(((r.aM.getD i8 default).cj) == ((r.aM.getD i2 default).cj)))
 (.fin (.inl (.inl (.inl (.inl (.inl 5))))))
 (.nx 11 5 i8 (i8+1)))
 (.fin (.inl (.inr ((i8:Int),(i8:Int),(i2:Int),decide ((i8:Int) < (i2:Int)))))))
 (fun (b7:Int × Int × Int × Bool)=>⟨[(5,iv b7.1),(46,iv b7.2.1),(47,iv b7.2.2.1),(48,bv b7.2.2.2)],[]⟩) fun b7 =>
 .fin (.inr (b7.1,r.aM,(i2:Int),r.aM.getD i2 default,(r.aM.getD i2 default).from_,r.aI,((r.aI.length:Nat):Int),au (((r.aI.length:Nat):Int) - 1),p9.1,!p9.1,!p9.1,(!p9.1)||(!p9.2.1),(!p9.1)||(!p9.2.1),((!p9.1)||(!p9.2.1))||(!p9.2.2),b7.2.1,b7.2.2.1,b7.2.2.2))))
 (fun (b3:Int × (List dC) × Int × dC × Int × (List jA) × Int × Int × Bool × Bool × Bool × Bool × Bool × Bool × Int × Int × Bool)=>⟨[(5,iv b3.1),(18,lv dC.cells b3.2.1),(19,iv b3.2.2.1),(21,av b3.2.2.2.1.cells),(23,iv b3.2.2.2.2.1),(25,lv jA.cells b3.2.2.2.2.2.1),(26,iv b3.2.2.2.2.2.2.1),(27,iv b3.2.2.2.2.2.2.2.1),(28,bv b3.2.2.2.2.2.2.2.2.1),(29,bv b3.2.2.2.2.2.2.2.2.2.1),(30,bv b3.2.2.2.2.2.2.2.2.2.2.1),(39,bv b3.2.2.2.2.2.2.2.2.2.2.2.1),(40,bv b3.2.2.2.2.2.2.2.2.2.2.2.2.1),(45,bv b3.2.2.2.2.2.2.2.2.2.2.2.2.2.1),(46,iv b3.2.2.2.2.2.2.2.2.2.2.2.2.2.2.1),(47,iv b3.2.2.2.2.2.2.2.2.2.2.2.2.2.2.2.1),(48,bv b3.2.2.2.2.2.2.2.2.2.2.2.2.2.2.2.2)],[]⟩) fun _ =>
 .nx 5 3 i2 (i2+1))
 (.fin (.inl (.inr ()))))
 (fun (_:Unit)=>⟨[],[]⟩) fun _ =>
 .fin 0)
def PJ r:=(lU r).val
theorem FA (r:ah):(lU r).cZ (fun (x:Int)=>x=0→r.aM.length≤100):=by
 unfold lU
 try simp only [ar,bB]
 exact RS
theorem H8 (r:ah):(lU r).bz (fun _=>True):=by
 unfold lU
 try simp only [ar,bB]
 exact yj
def vc r:=kp tok mixed Tryz.func40 [av r.cells] (fun x=>iv x) true (PJ r) (u0 (H8 r)) (FA r)
def np (r:ah):Sk (Int) :=
 .br (decide (((r.bE.length:Nat):Int) > 100))
 (.fin 6)
 (.bind true (fun b1=>r.dj)
 (.loop (default:Sum (Int) (Unit)) (fun i2=>i2≤r.bE.length∧(∀ i,i < i2→(1≤(r.bE.getD i default).num∧(r.bE.getD i default).num≤1073741824)∧1≤(r.bE.getD i default).den∧(r.bE.getD i default).den≤1073741824)) (fun i2=>r.bE.length - i2) (0:Nat)
 (fun (i2:Nat)=>⟨[(3,iv (i2:Int))],[]⟩) fun i2 =>
 .lt 1 6 i2 r.bE.length
 (.r 6 (.p (bG (i2:Int) r.bE.length)) fun _ =>
 .r 7 (.dep ((ar ((r.bE.getD i2 default).from_) 0 (au (((r.ck.length:Nat):Int) - 1))).c) fun x3=>.wh (!x3) false ((ar ((r.bE.getD i2 default).cj) 0 (au (((r.ck.length:Nat):Int) - 1))).c)) fun p9 =>
 .br (((!p9.1)||(!p9.2))||(((r.bE.getD i2 default).from_) == ((r.bE.getD i2 default).cj)))
 (.fin (.inl (.inl 1)))
 (.r 9 (.dep ((ar ((r.bE.getD i2 default).num) 1 1073741824).c) fun x5=>.dep (.wh (!x5) false ((ar ((r.bE.getD i2 default).den) 1 1073741824).c)) fun x6=>.wh ((!x5)||(!x6)) false ((ar ((r.bE.getD i2 default).since) 0 100000).c)) fun p8 =>
 .br (((!p8.1)||(!p8.2.1))||(!p8.2.2))
 (.fin (.inl (.inl 1)))
 (.nx 5 3 i2 (i2+1))))
 (.fin (.inl (.inr ()))))
 (fun (_:Unit)=>⟨[],[]⟩) fun _ =>
 .br (decide (((r.ep.length:Nat):Int) > 20))
 (.fin 6)
 (.bind true (fun b10=>r.dQ)
 (.loop (default:Sum (Int) (Unit)) (fun i11=>i11≤r.ep.length∧(∀ i,i < i11→(r.ep.getD i default).cj≤100000)) (fun i11=>r.ep.length - i11) (0:Nat)
 (fun (i11:Nat)=>⟨[(5,iv (i11:Int))],[]⟩) fun i11 =>
 .lt 1 7 i11 r.ep.length
 (.r 16 (.p (bG (i11:Int) r.ep.length)) fun _ =>
 .r 17 (.dep ((ar ((r.ep.getD i11 default).order) 0 (au (((r.aE.length:Nat):Int) - 1))).c) fun YX=>.wh (!YX) false ((ar ((r.ep.getD i11 default).from_) 0 ((r.ep.getD i11 default).cj)).c)) fun p14 =>
 .br (((!p14.1)||(!p14.2))||(decide (((r.ep.getD i11 default).cj) > 100000)))
 (.fin (.inl (.inl 1)))
 (.nx 15 5 i11 (i11+1)))
 (.fin (.inl (.inr ()))))
 (fun (_:Unit)=>⟨[],[]⟩) fun _ =>
 .fin 0))
def R5 r:=(np r).val
theorem H9 (r:ah):(np r).cZ (fun (x:Int)=>x=0→r.bE.length≤100∧r.ep.length≤20∧r.dj∧r.dQ):=by
 unfold np
 try simp only [ar,bB,ah.dQ,ah.dj]
 exact RS
theorem Kk (r:ah):(np r).bz (fun _=>True):=by
 unfold np
 try simp only [ar,bB,ah.dQ,ah.dj]
 exact yj
def xg r:=kp tok mixed Tryz.func41 [av r.cells] (fun x=>iv x) true (R5 r) (u0 (Kk r)) (H9 r)
def pA (r:ah):Sk (Int) :=
 .r 1 ((xe r).c) fun x1 =>
 .bind false (fun b2=>b2=0→r.ck.length≤8∧r.aI.length≤40∧r.fP.length≤20∧r.bm.length≤200∧r.iH)
 (.br (x1 == 0)
 (.r 3 ((yS r).c) fun x3 =>
 .fin (.inr x3))
 (.fin (.inr x1)))
 (fun (b2:Int)=>⟨[(3,iv b2)],[]⟩) fun b2 =>
 .bind false (fun b4=>b4=0→r.ck.length≤8∧r.aI.length≤40∧r.fP.length≤20∧r.bm.length≤200∧r.iH∧r.cG∧r.aE.length≤20∧(∀ i,i < r.aE.length→(r.aE.getD i default).aV.length≤22∧(r.aE.getD i default).rules.length≤22))
 (.br (b2 == 0)
 (.r 5 ((xf r).c) fun x5 =>
 .fin (.inr x5))
 (.fin (.inr b2)))
 (fun (b4:Int)=>⟨[(3,iv b4)],[]⟩) fun b4 =>
 .bind false (fun b6=>b6=0→r.ck.length≤8∧r.aI.length≤40∧r.fP.length≤20∧r.bm.length≤200∧r.iH∧r.cG∧r.aE.length≤20∧(∀ i,i < r.aE.length→(r.aE.getD i default).aV.length≤22∧(r.aE.getD i default).rules.length≤22)∧r.aM.length≤100)
 (.br (b4 == 0)
 (.r 7 ((vc r).c) fun x7 =>
 .fin (.inr x7))
 (.fin (.inr b4)))
 (fun (b6:Int)=>⟨[(3,iv b6)],[]⟩) fun b6 =>
 .br (b6 == 0)
 (.r 9 ((xg r).c) fun x8 =>
 .fin x8)
 (.fin b6)
def UL r:=(pA r).val
theorem Kl (r:ah):(pA r).cZ (fun (x:Int)=>x=0→r.ck.length≤8∧r.aI.length≤40∧r.fP.length≤20∧r.bm.length≤200∧r.iH∧r.cG∧r.aE.length≤20∧(∀ i,i < r.aE.length→(r.aE.getD i default).aV.length≤22∧(r.aE.getD i default).rules.length≤22)∧r.aM.length≤100∧r.bE.length≤100∧r.ep.length≤20∧r.dj∧r.dQ):=by
 refine Sk.bp _ ?_
 unfold pA
 simp only [Sk.cU,Sk.aO,reduceCtorEq,ON,kk,kp,xe,yS,xf,xg,vc,maxLen]
 intro x _ hx
 refine ⟨⟨fun h y _ hy h0=>?_,fun h h0=>?_⟩,fun b _ hb=>⟨⟨fun h y _ hy h0=>?_,fun h h0=>?_⟩,fun b2 _ wK=>⟨⟨fun h y _ hy h0=>?_,fun h h0=>?_⟩,fun b3 _ JO=>⟨fun h y _ hy h0=>?_,fun h h0=>?_⟩⟩⟩⟩
 ·have hx:=hx (by simpa using h); have hy:=hy hx.2 h0; exact ⟨hx.1,hx.2,hy⟩
 ·rw [h0] at h; exact absurd h (by decide)
 ·have hb:=hb (by simpa using h); exact ⟨hb.1,hb.2.1,hb.2.2.1,hb.2.2.2.1,hb.2.2.2.2,hy h0⟩
 ·rw [h0] at h; exact absurd h (by decide)
 ·have hb:=wK (by simpa using h); exact ⟨hb.1,hb.2.1,hb.2.2.1,hb.2.2.2.1,hb.2.2.2.2.1,hb.2.2.2.2.2.1,hb.2.2.2.2.2.2.1,hb.2.2.2.2.2.2.2,hy h0⟩
 ·rw [h0] at h; exact absurd h (by decide)
 ·have hb:=JO (by simpa using h); exact ⟨hb.1,hb.2.1,hb.2.2.1,hb.2.2.2.1,hb.2.2.2.2.1,hb.2.2.2.2.2.1,hb.2.2.2.2.2.2.1,hb.2.2.2.2.2.2.2.1,hb.2.2.2.2.2.2.2.2,hy h0⟩
 ·rw [h0] at h; exact absurd h (by decide)
theorem MF (r:ah):(pA r).bz (fun _=>True):=by
 refine Sk.aX _ ?_
 unfold pA
 simp only [Sk.km,Sk.aO,reduceCtorEq,ON,kk,kp,xe,yS,xf,xg,vc,maxLen]
 intro x _ hx
 refine ⟨⟨fun h y _ hy h0=>?_,fun h h0=>?_⟩,fun b _ hb=>⟨⟨fun h y _ hy h0=>?_,fun h h0=>?_⟩,fun b2 _ wK=>⟨fun h y _ hy h0=>?_,fun h h0=>?_⟩⟩⟩
 ·have hx:=hx (by simpa using h); have hy:=hy hx.2 h0; exact ⟨hx.1,hx.2,hy⟩
 ·rw [h0] at h; exact absurd h (by decide)
 ·have hb:=hb (by simpa using h); exact ⟨hb.1,hb.2.1,hb.2.2.1,hb.2.2.2.1,hb.2.2.2.2,hy h0⟩
 ·rw [h0] at h; exact absurd h (by decide)
 ·have hb:=wK (by simpa using h); exact ⟨hb.1,hb.2.1,hb.2.2.1,hb.2.2.2.1,hb.2.2.2.2.1,hb.2.2.2.2.2.1,hb.2.2.2.2.2.2.1,hb.2.2.2.2.2.2.2,hy h0⟩
 ·rw [h0] at h; exact absurd h (by decide)
def oP r:=kp tok mixed Tryz.func15 [av r.cells] (fun x=>iv x) true (UL r) (u0 (MF r)) (Kl r)
def z8 (n:Int) (length:Int):Sk (Bool) :=
 .fin ((decide (n≥0))&&(decide (n < length)))
def WZ n length:=(z8 n length).val
theorem Ea (n:Int) (length:Int):WZ n length=((decide (n≥0))&&(decide (n < length))):=rfl
theorem UM (n:Int) (length:Int):(z8 n length).bz (fun _=>True):=by
 unfold z8
 exact pq
def pB n length:=kk tok mixed Tryz.func78 [iv n,iv length] (fun x=>bv x) true (z8 n length) (WZ n length) (u0 (UM n length))
def uM (n:Int) (length:Int):Sk (Bool) :=
 .r 1 (.wh (n == (-1)) false ((pB n length).c)) fun x1 =>
 .fin ((n == (-1))||x1)
def W6 n length:=(uM n length).val
theorem PK (n:Int) (length:Int):(uM n length).bz (fun _=>True):=by
 unfold uM
 try simp only [pB,Ea]
 exact yj
def xh n length:=kk tok mixed Tryz.func79 [iv n,iv length] (fun x=>bv x) true (uM n length) (W6 n length) (u0 (PK n length))
def sQ (day:Int):Sk (Bool) :=
 .fin ((decide (day≥0))&&(decide (day≤100000)))
def Lu day:=(sQ day).val
theorem CJ (day:Int):Lu day=((decide (day≥0))&&(decide (day≤100000))):=rfl
theorem MG (day:Int):(sQ day).bz (fun _=>True):=by
 unfold sQ
 exact pq
def yT day:=kk tok mixed Tryz.func80 [iv day] (fun x=>bv x) true (sQ day) (Lu day) (u0 (MG day))
def sR (b:qc):Sk (Bool) :=
 .br ((b.cR.kind == 0)||(b.cR.kind == 4))
 (.fin ((b.cR.n == 0)&&(b.cR.unit == 0)))
 (.br ((b.cR.kind == 1)||(b.cR.kind == 2))
 (.fin (((decide (b.cR.n≥1))&&(decide (b.cR.n≤400)))&&((b.cR.unit == 0)||(b.cR.unit == 1))))
 (.fin ((((b.cR.kind == 3)&&(decide (b.cR.n≥b.day)))&&(decide (b.cR.n≤100000)))&&(b.cR.unit == 0))))
def UN b:=(sR b).val
theorem MH (b:qc):(sR b).bz (fun _=>True):=by
 unfold sR
 exact pq
def yU b:=kk tok mixed Tryz.func81 [av b.cells] (fun x=>bv x) true (sR b) (UN b) (u0 (MH b))
def qT (r:ah) (from_:Int) (cj:Int):Sk (Int × Int) :=
 .bt
 (.loop (default:Sum (Int × Int) (Unit)) (fun i2=>i2≤r.aM.length) (fun i2=>r.aM.length - i2) (0:Nat)
 (fun (i2:Nat)=>⟨[(8,iv (i2:Int))],[]⟩) fun i2 =>
 .lt 3 5 i2 r.aM.length
 (.r 4 (.aq (.p (bG (i2:Int) r.aM.length)) (.wh (((r.aM.getD i2 default).from_) == from_) true (.p (bG (i2:Int) r.aM.length)))) fun _ =>
 .br ((((r.aM.getD i2 default).from_) == from_)&&(((r.aM.getD i2 default).cj) == cj))
 (.r 5 (.p (bG (i2:Int) r.aM.length)) fun _ =>
 .fin (.inl (.inl ((r.aM.getD i2 default).days,0))))
 (.nx 3 8 i2 (i2+1)))
 (.fin (.inl (.inr ()))))
 (fun (_:Unit)=>⟨[],[]⟩) fun _ =>
 .fin (0,4)
def R6 r from_ cj:=(qT r from_ cj).val
theorem Km (r:ah) (from_:Int) (cj:Int):(qT r from_ cj).bz (fun _=>True):=by
 unfold qT
 exact oh
def xi r from_ cj:=kk tok mixed Tryz.func82 [av r.cells,iv from_,iv cj] (fun x=>.fL [iv x.1,iv x.2]) true (qT r from_ cj) (R6 r from_ cj) (u0 (Km r from_ cj))
def pC (r:ah) (b:qc):Sk (Int) :=
 .r 1 ((oP r).c) fun x1 =>
 .br (x1 != 0)
 (.fin x1)
 (.r 6 (.dep ((pB b.Bo ((r.bm.length:Nat):Int)).c) fun x2=>.dep (.wh (!x2) false ((pB b.mZ ((r.bm.length:Nat):Int)).c)) fun x3=>.dep (.wh ((!x2)||(!x3)) false ((xh b.kq ((r.bm.length:Nat):Int)).c)) fun x4=>.dep (.wh (((!x2)||(!x3))||(!x4)) false ((xh b.need ((r.bm.length:Nat):Int)).c)) fun x5=>.dep (.wh ((((!x2)||(!x3))||(!x4))||(!x5)) false ((pB b.az ((r.ck.length:Nat):Int)).c)) fun x6=>.dep (.wh (((((!x2)||(!x3))||(!x4))||(!x5))||(!x6)) false ((pB b.bZ ((r.aI.length:Nat):Int)).c)) fun x7=>.wh ((((((!x2)||(!x3))||(!x4))||(!x5))||(!x6))||(!x7)) false ((pB b.yk ((r.aI.length:Nat):Int)).c)) fun WY =>
 .br (((((((!WY.1)||(!WY.2.1))||(!WY.2.2.1))||(!WY.2.2.2.1))||(!WY.2.2.2.2.1))||(!WY.2.2.2.2.2.1))||(!WY.2.2.2.2.2.2))
 (.fin 1)
 (.r 8 (.wh ((decide (b.sum < 1))||(decide (b.sum > 1099511627776))) false ((yT b.day).c)) fun x9 =>
 .br (((((decide (b.sum < 1))||(decide (b.sum > 1099511627776)))||(!x9))||(decide (b.lf < 0)))||(decide (b.lf > 1000)))
 (.fin 3)
 (.br ((decide (b.parts < 1))||(decide (b.parts > 4)))
 (.fin 15)
 (.r 12 (.wh (((decide (b.flags < 0))||(decide (b.flags > 7)))||((b.kq == (-1))&&((dP .i64 b.flags 4) != 0))) false ((yU b).c)) fun N8 =>
 .br ((((decide (b.flags < 0))||(decide (b.flags > 7)))||((b.kq == (-1))&&((dP .i64 b.flags 4) != 0)))||(!N8))
 (.fin 2)
 (.br (b.cR.kind != 4)
 (.fin 0)
 (.r 16 ((xi r b.bZ b.yk).c) fun x11 =>
 .fin x11.2))))))
def UO r b:=(pC r b).val
theorem Kn (r:ah) (b:qc):(pC r b).cZ (fun (x:Int)=>x=0→uH r b):=by
 refine Sk.bp _ ?_
 unfold pC
 simp (maxSteps:=2000000) only [Sk.cU,Sk.aO,reduceCtorEq,ON,kk,kp,yT,oP,xi,yU,pB,xh,CJ,Ea,forall_eq,ah.cG,ah.dQ,ah.iH,ah.dj,maxLen]
 all_goals (repeat' first | assumption | (apply And.intro) | (intro h))
 all_goals first | trivial | assumption | omega | ((try simp only [LN] at *) <;> first | omega | (refine (aG ?_ ?_).trans ?_ <;> omega) | (simp (disch:=omega) only [aG] at *; omega) | (grind) | (simp_all; done) | (simp_all; omega))
theorem MI (r:ah) (b:qc):(pC r b).bz (fun _=>True):=by
 refine Sk.aX _ ?_
 unfold pC
 simp (maxSteps:=2000000) only [Sk.km,Sk.aO,reduceCtorEq,ON,kk,kp,yT,oP,xi,yU,pB,xh,CJ,Ea,forall_eq,ah.cG,ah.dQ,ah.iH,ah.dj,maxLen]
def yV r b:=kp tok mixed Tryz.func42 [av r.cells,av b.cells] (fun x=>iv x) true (UO r b) (u0 (MI r b)) (Kn r b)
def Aa (f:al) (i:Int) (part:Int):Sk (Bool) :=
 .r 1 (.wh (i == 0) false (.p (bG i f.af.length))) fun _ =>
 .fin ((i == 0)||(((f.af.getD i.toNat default).part) == part))
def aaK f i part:=(Aa f i part).val
theorem UP (f:al) (i:Int) (part:Int) (hs:i=0∨(0≤i∧i < (f.af.length:Int))):(Aa f i part).bz (fun _=>True):=by
 unfold Aa
 exact oh
def vV f i part:=kk tok mixed Tryz.func130 [av f.cells,iv i,iv part] (fun x=>bv x) true (Aa f i part) (aaK f i part) (UP f i part)
def mu (f:al) (i:Int):Sk (Bool) :=
 .r 1 (.p (bG i f.af.length)) fun _ =>
 .r 2 (.dep ((ar ((f.af.getD i.toNat default).for_) 0 (au (i - 1))).c) fun x1=>.aq (.wh x1 true (.p (bG i f.af.length))) (.wh x1 true ((vV f ((f.af.getD i.toNat default).for_) ((f.af.getD i.toNat default).part)).c))) fun p3 =>
 .fin (p3.1&&p3.2)
def Lv f i:=(mu f i).val
theorem Ko (f:al) (i:Int) (hP:(0≤i∧i < (f.af.length:Int))∧f.af.length≤40):(mu f i).cZ (fun (x:Bool)=>x=true→0≤(f.af.getD i.toNat default).for_∧(f.af.getD i.toNat default).for_ < i):=by
 unfold mu
 try simp only [ar,vV,bB]
 exact RS
theorem Ia (f:al) (i:Int):(fun (x:Bool)=>((0≤i∧i < (f.af.length:Int))∧f.af.length≤40)→(x=true→0≤(f.af.getD i.toNat default).for_∧(f.af.getD i.toNat default).for_ < i)) (Lv f i):=fun hP=>Sk.de _ (Ko f i hP)
theorem MJ (f:al) (i:Int) (hs:0≤i∧i < (f.af.length:Int)) (hn:f.af.length≤40):(mu f i).bz (fun _=>True):=by
 unfold mu
 try simp only [ar,vV,bB]
 exact yj
def uN f i:=kk tok mixed Tryz.func129 [av f.cells,iv i] (fun x=>bv x) true (mu f i) (Lv f i) (u2 (MJ f i)) (fun (x:Bool)=>((0≤i∧i < (f.af.length:Int))∧f.af.length≤40)→(x=true→0≤(f.af.getD i.toNat default).for_∧(f.af.getD i.toNat default).for_ < i)) (Ia f i)
def oQ (r:ah) (f:al) (i:Int):Sk (Bool) :=
 .r 1 (.p (bG i f.af.length)) fun _ =>
 .r 2 ((ar ((f.af.getD i.toNat default).sum) 1 1099511627776).c) fun x1 =>
 .br (((f.af.getD i.toNat default).kind) == 0)
 (.fin ((((((((i == 0)&&(((f.af.getD i.toNat default).dt) == f.aR.Bo))&&(((f.af.getD i.toNat default).for_) == (-1)))&&(((f.af.getD i.toNat default).cj) == (-1)))&&(((f.af.getD i.toNat default).sum) == 0))&&((((f.af.getD i.toNat default).flags) == 0)||(((f.af.getD i.toNat default).flags) == 1)))&&(((f.af.getD i.toNat default).part) == 0))&&(((f.af.getD i.toNat default).bZ) == f.aR.bZ)))
 (.br (((f.af.getD i.toNat default).kind) == 1)
 (.fin ((((((decide (i > 0))&&(((f.af.getD i.toNat default).dt) == f.aR.mZ))&&(((f.af.getD i.toNat default).for_) == (-1)))&&(((f.af.getD i.toNat default).cj) == (-1)))&&x1)&&(((f.af.getD i.toNat default).flags) == 0)))
 (.br (((f.af.getD i.toNat default).kind) == 2)
 (.r 9 (.aq (.p ((2:Int)≠0)) (.p ((2:Int)≠0))) fun _ =>
 .r 10 (.aq (.p ((4:Int)≠0)) (.p ((2:Int)≠0))) fun _ =>
 .r 11 (.dep (.wh ((decide (i > 0))&&(((f.af.getD i.toNat default).for_) == (-1))) true ((ar ((f.af.getD i.toNat default).cj) (-1) (au (((r.bm.length:Nat):Int) - 1))).c)) fun x2=>.wh ((((decide (i > 0))&&(((f.af.getD i.toNat default).for_) == (-1)))&&x2)&&(((f.af.getD i.toNat default).sum) == 0)) true ((ar ((f.af.getD i.toNat default).flags) 0 7).c)) fun p4 =>
 .fin ((((((decide (i > 0))&&(((f.af.getD i.toNat default).for_) == (-1)))&&p4.1)&&(((f.af.getD i.toNat default).sum) == 0))&&p4.2)&&(!((((au (((f.af.getD i.toNat default).flags).tdiv 2)).tmod 2) == 1)&&(((au (((f.af.getD i.toNat default).flags).tdiv 4)).tmod 2) == 1)))))
 (.br (((f.af.getD i.toNat default).kind) == 3)
 (.r 13 (.wh ((((i == 0)||(((f.af.getD i.toNat default).cj) != (-1)))||(((f.af.getD i.toNat default).sum) != 0))||(((f.af.getD i.toNat default).flags) != 0)) false ((uN f i).c)) fun x5 =>
 .br (((((i == 0)||(((f.af.getD i.toNat default).cj) != (-1)))||(((f.af.getD i.toNat default).sum) != 0))||(((f.af.getD i.toNat default).flags) != 0))||(!x5))
 (.fin false)
 (.r 15 (.p (bG ((f.af.getD i.toNat default).for_) f.af.length)) fun _ =>
 .fin (((f.af.getD (((f.af.getD i.toNat default).for_).toNat) default).kind) != 3)))
 (.br (((f.af.getD i.toNat default).kind) == 4)
 (.r 17 (.wh (((((i == 0)||(((f.af.getD i.toNat default).cj) != (-1)))||(!x1))||(((f.af.getD i.toNat default).flags) != 0))||(((f.af.getD i.toNat default).dt) == f.aR.mZ)) false ((uN f i).c)) fun x6 =>
 .br ((((((i == 0)||(((f.af.getD i.toNat default).cj) != (-1)))||(!x1))||(((f.af.getD i.toNat default).flags) != 0))||(((f.af.getD i.toNat default).dt) == f.aR.mZ))||(!x6))
 (.fin false)
 (.r 19 (.aq (.p (bG ((f.af.getD i.toNat default).for_) f.af.length)) (.wh (((f.af.getD (((f.af.getD i.toNat default).for_).toNat) default).kind) == 0) false (.p (bG ((f.af.getD i.toNat default).for_) f.af.length)))) fun _ =>
 .fin ((((f.af.getD (((f.af.getD i.toNat default).for_).toNat) default).kind) == 0)||(((f.af.getD (((f.af.getD i.toNat default).for_).toNat) default).kind) == 2))))
 (.fin false)))))
def PL r f i:=(oQ r f i).val
theorem MK (r:ah) (f:al) (i:Int) (hP:(0≤i∧i < (f.af.length:Int))∧f.af.length≤40):(oQ r f i).cZ (fun (x:Bool)=>x=true→Pw f i.toNat):=by
 unfold oQ
 try simp only [ar,uN,bB]
 exact RS
theorem Kq (r:ah) (f:al) (i:Int):(fun (x:Bool)=>((0≤i∧i < (f.af.length:Int))∧f.af.length≤40)→(x=true→Pw f i.toNat)) (PL r f i):=fun hP=>Sk.de _ (MK r f i hP)
theorem PM (r:ah) (f:al) (i:Int) (hs:0≤i∧i < (f.af.length:Int)) (hn:f.af.length≤40):(oQ r f i).bz (fun _=>True):=by
 unfold oQ
 try simp only [ar,uN,bB]
 exact yj
def Bq r f i:=kk tok mixed Tryz.func83 [av r.cells,av f.cells,iv i] (fun x=>bv x) true (oQ r f i) (PL r f i) (u2 (PM r f i)) (fun (x:Bool)=>((0≤i∧i < (f.af.length:Int))∧f.af.length≤40)→(x=true→Pw f i.toNat)) (Kq r f i)
def mw (r:ah) (f:al) (i:Int):Sk (Int) :=
 .r 1 (.p (bG i f.af.length)) fun _ =>
 .r 2 ((ar ((f.af.getD i.toNat default).part) 0 (au (f.aR.parts - 1))).c) fun x1 =>
 .br (!x1)
 (.fin 15)
 (.r 4 (.dep ((ar ((f.af.getD i.toNat default).dt) 0 (au (((r.bm.length:Nat):Int) - 1))).c) fun x2=>.wh (!x2) false ((ar ((f.af.getD i.toNat default).bZ) 0 (au (((r.aI.length:Nat):Int) - 1))).c)) fun p8 =>
 .br ((!p8.1)||(!p8.2))
 (.fin 1)
 (.br (((i == 0)&&(((f.af.getD i.toNat default).day) != f.aR.day))||(decide (((f.af.getD i.toNat default).day) > 100000)))
 (.fin 13)
 (.bind false (fun b4=>i > 0→(f.af.getD (au (i - 1)).toNat default).day≤(f.af.getD i.toNat default).day)
 (.br (decide (i > 0))
 (.r 9 (.p (bG (au (i - 1)) f.af.length)) fun _ =>
 .br (decide (((f.af.getD i.toNat default).day) < ((f.af.getD ((au (i - 1)).toNat) default).day)))
 (.fin (.inl 13))
 (.fin (.inr ())))
 (.fin (.inr ())))
 (fun (_:Unit)=>⟨[],[]⟩) fun _ =>
 .r 11 ((Bq r f i).c) fun x5 =>
 .br (!x5)
 (.fin 14)
 (.bt
 (.loop (default:Sum (Int) (Unit)) (fun i7=>0≤i7∧i7≤i) (fun i7=>(i - i7).toNat) (0:Int)
 (fun (i7:Int)=>⟨[(8,iv i7)],[]⟩) fun i7 =>
 .br ((decide (i7 < i))&&(((f.af.getD i.toNat default).kind) == 1))
 (.r 16 (.aq (.p (bG i7 f.af.length)) (.wh (((f.af.getD i7.toNat default).kind) == 1) true (.p (bG i7 f.af.length)))) fun _ =>
 .br ((((f.af.getD i7.toNat default).kind) == 1)&&(((f.af.getD i7.toNat default).part) == ((f.af.getD i.toNat default).part)))
 (.fin (.inl (.inl 5)))
 (.fin (.inr (au (i7+1)))))
 (.fin (.inl (.inr ()))))
 (fun (_:Unit)=>⟨[],[]⟩) fun _ =>
 .fin 0))))
def Lw r f i:=(mw r f i).val
theorem Kr (r:ah) (f:al) (i:Int) (hP:(0≤i∧i < (f.af.length:Int))∧f.af.length≤40∧r.bm.length≤200∧uH r f.aR):(mw r f i).cZ (fun (x:Int)=>x=0→xQ r f i.toNat):=by
 refine Sk.bp _ ?_
 unfold mw
 simp only [Sk.cU,Sk.aO,reduceCtorEq,ON,kk,kp,ar,Bq,bB,forall_eq,maxLen]
 intro _
 obtain ⟨hi,hn,hr,hB⟩:=hP
 have hB2:=hB.2.2.2.1
 refine ⟨fun _ h=>absurd h (by decide),fun h1=>⟨fun _ h=>absurd h (by decide),fun h2=>⟨fun _ h=>absurd h (by decide),fun h3=>⟨⟨fun h4 _=>⟨fun _ h=>absurd h (by decide),fun h5 _=>by simpa using h5⟩,fun h4 h=>?_⟩,fun _ _ h6 hF=>⟨fun _ h=>absurd h (by decide),fun h7=>⟨⟨⟨by omega,by omega⟩,fun k hk hc _=>⟨fun _ h=>absurd h (by decide),fun _=>?_⟩⟩,fun _=>?_⟩⟩⟩⟩⟩⟩
 ·simp only [LN] at h4; omega
 ·simp only [LN] at hc
  rw [aG (by omega) (by omega)]
  omega
 ·have hF:=hF ⟨hi,hn⟩ (by simpa using h7)
  simp only [LN] at h1 h2 h3
  rw [aG (n:=f.aR.parts - 1) (by omega) (by omega)] at h1
  rw [aG (n:=(r.bm.length:Int) - 1) (by omega) (by omega)] at h2
  refine ⟨by omega,fun h0=>?_,by omega,fun h0=>?_,by omega,hF⟩
  ·have:=h6 (by omega)
   rw [aG (by omega) (by omega),show (i - 1).toNat=i.toNat - 1 by omega] at this
   exact this
  ·rcases h3.1 with h | h
   ·omega
   ·exact h
theorem Ib (r:ah) (f:al) (i:Int):(fun (x:Int)=>((0≤i∧i < (f.af.length:Int))∧f.af.length≤40∧r.bm.length≤200∧uH r f.aR)→(x=0→xQ r f i.toNat)) (Lw r f i):=fun hP=>Sk.de _ (Kr r f i hP)
theorem ML (r:ah) (f:al) (i:Int) (hs:0≤i∧i < (f.af.length:Int)) (hn:f.af.length≤40):(mw r f i).bz (fun _=>True):=by
 unfold mw
 try simp only [ar,Bq,bB]
 exact yj
def yW r f i:=kk tok mixed Tryz.func43 [av r.cells,av f.cells,iv i] (fun x=>iv x) true (mw r f i) (Lw r f i) (u2 (ML r f i)) (fun (x:Int)=>((0≤i∧i < (f.af.length:Int))∧f.af.length≤40∧r.bm.length≤200∧uH r f.aR)→(x=0→xQ r f i.toNat)) (Ib r f i)
def my (r:ah) (f:al) (a:bh):Sk (Bool) :=
 .r 1 ((ar a.dt 0 (au (((r.bm.length:Nat):Int) - 1))).c) fun x1 =>
 .br (!x1)
 (.fin false)
 (.r 3 ((ar a.cj 0 (au (((r.bm.length:Nat):Int) - 1))).c) fun x2 =>
 .r 4 ((ar a.sum 0 1099511627776).c) fun x3 =>
 .r 5 ((ar a.at_ 0 (au (((f.af.length:Nat):Int) - 1))).c) fun x4 =>
 .bind false (fun b5=>b5=true→0≤a.at_∧a.at_ < (f.af.length:Int))
 (.br x4
 (.r 7 ((vV f a.at_ a.part).c) fun x6 =>
 .fin (.inr x6))
 (.fin (.inr x4)))
 (fun (b5:Bool)=>⟨[(9,bv b5)],[]⟩) fun b5 =>
 .bind false (fun b7=>b7=true→(0≤a.at_∧a.at_ < (f.af.length:Int))∧(f.af.getD a.at_.toNat default).dt=a.dt)
 (.br b5
 (.r 10 (.p (bG a.at_ f.af.length)) fun _ =>
 .fin (.inr (((f.af.getD a.at_.toNat default).dt) == a.dt)))
 (.fin (.inr false)))
 (fun (b7:Bool)=>⟨[(10,bv b7)],[]⟩) fun b7 =>
 .bind false (fun _=>True)
 (.br (a.kind == 0)
 (.fin (.inr (a.kind == 0)))
 (.br (a.kind == 1)
 (.fin (.inr (a.kind == 1)))
 (.fin (.inr (a.kind == 2)))))
 (fun (b8:Bool)=>⟨[(56,bv b8)],[]⟩) fun b8 =>
 .br b8
 (.fin (((x2&&(a.at_ == (-1)))&&(a.sum == 0))&&(a.form == 0)))
 (.bind false (fun _=>True)
 (.br (a.kind == 3)
 (.fin (.inr (a.kind == 3)))
 (.fin (.inr (a.kind == 5))))
 (fun (b9:Bool)=>⟨[(76,bv b9)],[]⟩) fun b9 =>
 .br b9
 (.fin (((x2&&(a.at_ == (-1)))&&x3)&&(a.form == 0)))
 (.br (a.kind == 4)
 (.fin (((x2&&(a.at_ == (-1)))&&x3)&&((a.form == 0)||(a.form == 1))))
 (.br (a.kind == 6)
 (.fin ((((x2&&b7)&&x3)&&(decide (a.sum > 0)))&&(a.form == 0)))
 (.br (a.kind == 9)
 (.fin ((((a.cj == (-1))&&b7)&&(a.sum == 0))&&(a.form == 0)))
 (.bind false (fun _=>True)
 (.br (a.kind == 7)
 (.fin (.inr (a.kind == 7)))
 (.fin (.inr (a.kind == 8))))
 (fun (b10:Bool)=>⟨[(151,bv b10)],[]⟩) fun b10 =>
 .br b10
 (.fin ((((a.cj == (-1))&&b5)&&(a.sum == 0))&&(a.form == 0)))
 (.fin false)))))))
def Lx r f a:=(my r f a).val
theorem Ks (r:ah) (f:al) (a:bh) (hP:f.af.length≤40):(my r f a).cZ (fun (x:Bool)=>x=true→jJ a.sum∧a.at_ < (f.af.length:Int)∧(a.kind=6→0≤a.at_∧(f.af.getD a.at_.toNat default).dt=a.dt)):=by
 unfold my
 try simp only [ar,vV,bB]
 exact RS
theorem Ic (r:ah) (f:al) (a:bh):(fun (x:Bool)=>(f.af.length≤40)→(x=true→jJ a.sum∧a.at_ < (f.af.length:Int)∧(a.kind=6→0≤a.at_∧(f.af.getD a.at_.toNat default).dt=a.dt))) (Lx r f a):=fun hP=>Sk.de _ (Ks r f a hP)
theorem MM (r:ah) (f:al) (a:bh) (hn:f.af.length≤40):(my r f a).bz (fun _=>True):=by
 unfold my
 try simp only [ar,vV,bB]
 exact yj
def yX r f a:=kk tok mixed Tryz.func84 [av r.cells,av f.cells,av a.cells] (fun x=>bv x) true (my r f a) (Lx r f a) (MM r f a) (fun (x:Bool)=>(f.af.length≤40)→(x=true→jJ a.sum∧a.at_ < (f.af.length:Int)∧(a.kind=6→0≤a.at_∧(f.af.getD a.at_.toNat default).dt=a.dt))) (Ic r f a)
def oS (r:ah) (f:al) (i:Int):Sk (Int) :=
 .r 1 (.p (bG i f.aA.length)) fun _ =>
 .r 2 ((ar ((f.aA.getD i.toNat default).part) 0 (au (f.aR.parts - 1))).c) fun x1 =>
 .br (!x1)
 (.fin 15)
 (.r 4 (.dep ((ar ((f.aA.getD i.toNat default).bZ) 0 (au (((r.aI.length:Nat):Int) - 1))).c) fun x2=>.wh (!x2) false ((ar ((f.aA.getD i.toNat default).kind) 0 9).c)) fun p6 =>
 .br ((!p6.1)||(!p6.2))
 (.fin 1)
 (.r 6 ((yX r f (f.aA.getD i.toNat default)).c) fun x4 =>
 .br (!x4)
 (.fin 14)
 (.br ((decide (((f.aA.getD i.toNat default).day) < f.aR.day))||(decide (((f.aA.getD i.toNat default).day) > 100000)))
 (.fin 13)
 (.bind false (fun b5=>0≤(f.aA.getD i.toNat default).at_→(f.af.getD (f.aA.getD i.toNat default).at_.toNat default).day≤(f.aA.getD i.toNat default).day)
 (.br (decide (((f.aA.getD i.toNat default).at_)≥0))
 (.r 11 (.p (bG ((f.aA.getD i.toNat default).at_) f.af.length)) fun _ =>
 .br (decide (((f.aA.getD i.toNat default).day) < ((f.af.getD (((f.aA.getD i.toNat default).at_).toNat) default).day)))
 (.fin (.inl 13))
 (.fin (.inr ())))
 (.fin (.inr ())))
 (fun (_:Unit)=>⟨[],[]⟩) fun _ =>
 .br (decide (i > 0))
 (.r 14 (.p (bG (au (i - 1)) f.aA.length)) fun _ =>
 .br (decide (((f.aA.getD i.toNat default).day) < ((f.aA.getD ((au (i - 1)).toNat) default).day)))
 (.fin 13)
 (.fin 0))
 (.fin 0)))))
def PN r f i:=(oS r f i).val
theorem MN (r:ah) (f:al) (i:Int) (hP:(0≤i∧i < (f.aA.length:Int))∧f.af.length≤40∧f.aA.length≤100):(oS r f i).cZ (fun (x:Int)=>x=0→yN f i.toNat):=by
 refine Sk.bp _ ?_
 unfold oS
 simp only [Sk.cU,Sk.aO,reduceCtorEq,ON,kk,kp,ar,yX,bB,forall_eq,maxLen]
 intro _
 refine ⟨fun _ h=>absurd h (by decide),fun h1=>⟨fun _ h=>absurd h (by decide),fun h2 hA=>⟨fun _ h=>absurd h (by decide),fun h3=>⟨fun _ h=>absurd h (by decide),fun h4=>⟨⟨fun _ _=>⟨fun _ h=>absurd h (by decide),fun hd _=>by simp only [LN] at hd; exact hd⟩,fun h0 h=>by simp only [LN] at h0; omega⟩,fun _ _ PO=>⟨fun h5 _=>⟨fun _ h=>absurd h (by decide),fun h6=>?_⟩,fun h5=>?_⟩⟩⟩⟩⟩⟩
 all_goals have hA:=hA hP.2.1 (by simpa using h3)
 all_goals simp only [LN] at h4 h5
 ·simp only [LN] at h6
  rw [aG (by omega) (by omega),show (i - 1).toNat=i.toNat - 1 by omega] at h6
  exact ⟨hA.1,by omega,fun _=>h6,fun hk=>⟨⟨(hA.2.2 hk).1,hA.2.1⟩,PO (hA.2.2 hk).1,(hA.2.2 hk).2⟩⟩
 ·exact ⟨hA.1,by omega,fun h=>by omega,fun hk=>⟨⟨(hA.2.2 hk).1,hA.2.1⟩,PO (hA.2.2 hk).1,(hA.2.2 hk).2⟩⟩
theorem Kt (r:ah) (f:al) (i:Int):(fun (x:Int)=>((0≤i∧i < (f.aA.length:Int))∧f.af.length≤40∧f.aA.length≤100)→(x=0→yN f i.toNat)) (PN r f i):=fun hP=>Sk.de _ (MN r f i hP)
theorem PQ (r:ah) (f:al) (i:Int) (hs:0≤i∧i < (f.aA.length:Int)) (hn:f.af.length≤40) (ha:f.aA.length≤100):(oS r f i).bz (fun _=>True):=by
 unfold oS
 try simp only [ar,yX,bB]
 exact yj
def Br r f i:=kk tok mixed Tryz.func45 [av r.cells,av f.cells,iv i] (fun x=>iv x) true (oS r f i) (PN r f i) (u3 (PQ r f i)) (fun (x:Int)=>((0≤i∧i < (f.aA.length:Int))∧f.af.length≤40∧f.aA.length≤100)→(x=0→yN f i.toNat)) (Kt r f i)
def sS (f:al) (i:Int):Sk (Int) :=
 .r 1 (.p (bG i f.facts.length)) fun _ =>
 .r 2 (.dep ((ar ((f.facts.getD i.toNat default).kind) 0 4).c) fun x1=>.dep (.wh (!x1) false ((ar ((f.facts.getD i.toNat default).at_) 0 (au (((f.af.length:Nat):Int) - 1))).c)) fun x2=>.wh ((!x1)||(!x2)) false ((ar ((f.facts.getD i.toNat default).n) 0 1).c)) fun p4 =>
 .br (((!p4.1)||(!p4.2.1))||(!p4.2.2))
 (.fin 1)
 (.br (decide (i > 0))
 (.r 5 (.p (bG (au (i - 1)) f.facts.length)) fun _ =>
 .br ((decide (((f.facts.getD ((au (i - 1)).toNat) default).at_) > ((f.facts.getD i.toNat default).at_)))||((((f.facts.getD ((au (i - 1)).toNat) default).at_) == ((f.facts.getD i.toNat default).at_))&&(decide (((f.facts.getD ((au (i - 1)).toNat) default).kind)≥((f.facts.getD i.toNat default).kind)))))
 (.fin 5)
 (.fin 0))
 (.fin 0))
def UQ f i:=(sS f i).val
theorem MO (f:al) (i:Int) (hs:0≤i∧i < (f.facts.length:Int)) (ha:f.facts.length≤200):(sS f i).bz (fun _=>True):=by
 unfold sS
 try simp only [ar,bB]
 exact yj
def yY f i:=kk tok mixed Tryz.func46 [av f.cells,iv i] (fun x=>iv x) true (sS f i) (UQ f i) (u2 (MO f i))
def mz (r:ah) (f:al):Sk (Int) :=
 .br ((((decide (((f.af.length:Nat):Int) > 40))||(decide (((f.aN.length:Nat):Int) > 4)))||(decide (((f.aA.length:Nat):Int) > 100)))||(decide (((f.facts.length:Nat):Int) > 200)))
 (.fin 6)
 (.r 3 ((yV r f.aR).c) fun x1 =>
 .bind false (fun b2=>b2=0→uH r f.aR∧f.af.length≠0)
 (.br ((x1 == 0)&&(((f.af.length:Nat):Int) == 0))
 (.fin (.inr 14))
 (.fin (.inr x1)))
 (fun (b2:Int)=>⟨[(5,iv b2)],[]⟩) fun b2 =>
 .bind true (fun b3=>b3=0→uH r f.aR∧f.af.length≠0∧(r.bm.length≤200→(∀ q,q < f.af.length→xQ r f q)))
 (.loop (default:Sum (Int) (Int)) (fun i4=>i4.2≤f.af.length∧(i4.1=0→uH r f.aR∧f.af.length≠0∧(r.bm.length≤200→(∀ q,q < i4.2→xQ r f q)))) (fun i4=>f.af.length - i4.2) ((b2,0):Int × Nat)
 (fun (i4:Int × Nat)=>⟨[(5,iv i4.1),(6,iv (i4.2:Int))],[]⟩) fun i4 =>
 .Ba 3 15 f.af.length <|
 .br ((decide ((i4.2:Int) < ((f.af.length:Nat):Int)))&&(i4.1 == 0))
 (.r 9 ((yW r f (i4.2:Int)).c) fun x5 =>
 .nx 8 6 i4.2 (x5,i4.2+1))
 (.fin (.inl (.inr i4.1))))
 (fun (b3:Int)=>⟨[(5,iv b3)],[]⟩) fun b3 =>
 .bind true (fun b6=>b6=0→uH r f.aR∧f.af.length≠0∧(r.bm.length≤200→(∀ q,q < f.af.length→xQ r f q))∧(∀ q,q < f.aN.length→jJ (f.aN.getD q default).sum))
 (.loop (default:Sum (Int) (Int)) (fun i7=>i7.2≤f.aN.length∧(i7.1=0→uH r f.aR∧f.af.length≠0∧(r.bm.length≤200→(∀ q,q < f.af.length→xQ r f q))∧(∀ q,q < i7.2→jJ (f.aN.getD q default).sum))) (fun i7=>f.aN.length - i7.2) ((b3,0):Int × Nat)
 (fun (i7:Int × Nat)=>⟨[(5,iv i7.1),(7,iv (i7.2:Int))],[]⟩) fun i7 =>
 .Ba 3 16 f.aN.length <|
 .br ((decide ((i7.2:Int) < ((f.aN.length:Nat):Int)))&&(i7.1 == 0))
 (.bind false (fun _=>True)
 (.br (decide ((i7.2:Int) > 0))
 (.r 15 (.p (bG (au ((i7.2:Int) - 1)) f.aN.length)) fun _ =>
 .fin (.inr (au (((f.aN.getD ((au ((i7.2:Int) - 1)).toNat) default).at_)+1))))
 (.fin (.inr 1)))
 (fun (b8:Int)=>⟨[(8,iv b8)],[]⟩) fun b8 =>
 .r 16 (.aq (.p (bG (i7.2:Int) f.aN.length)) ((ar ((f.aN.getD i7.2 default).at_) b8 ((f.af.length:Nat):Int)).c)) fun x9 =>
 .br (!x9)
 (.nx 12 7 i7.2 (1,i7.2+1))
 (.r 18 (.aq (.p (bG (i7.2:Int) f.aN.length)) ((ar ((f.aN.getD i7.2 default).sum) 1 1099511627776).c)) fun N8 =>
 .br (!N8)
 (.nx 12 7 i7.2 (3,i7.2+1))
 (.nx 12 7 i7.2 (i7.1,i7.2+1))))
 (.fin (.inl (.inr i7.1))))
 (fun (b6:Int)=>⟨[(5,iv b6)],[]⟩) fun b6 =>
 .bind true (fun UR=>UR=0→uH r f.aR∧f.af.length≠0∧(r.bm.length≤200→(∀ q,q < f.af.length→xQ r f q))∧(∀ q,q < f.aN.length→jJ (f.aN.getD q default).sum)∧(∀ q,q < f.aA.length→yN f q))
 (.loop (default:Sum (Int) (Int)) (fun i12=>i12.2≤f.aA.length∧(i12.1=0→uH r f.aR∧f.af.length≠0∧(r.bm.length≤200→(∀ q,q < f.af.length→xQ r f q))∧(∀ q,q < f.aN.length→jJ (f.aN.getD q default).sum)∧(∀ q,q < i12.2→yN f q))) (fun i12=>f.aA.length - i12.2) ((b6,0):Int × Nat)
 (fun (i12:Int × Nat)=>⟨[(5,iv i12.1),(9,iv (i12.2:Int))],[]⟩) fun i12 =>
 .Ba 3 17 f.aA.length <|
 .br ((decide ((i12.2:Int) < ((f.aA.length:Nat):Int)))&&(i12.1 == 0))
 (.r 23 ((Br r f (i12.2:Int)).c) fun Ie =>
 .nx 22 9 i12.2 (Ie,i12.2+1))
 (.fin (.inl (.inr i12.1))))
 (fun (UR:Int)=>⟨[(5,iv UR)],[]⟩) fun UR =>
 .bind true (fun GK=>GK=0→uH r f.aR∧f.af.length≠0∧(r.bm.length≤200→(∀ q,q < f.af.length→xQ r f q))∧(∀ q,q < f.aN.length→jJ (f.aN.getD q default).sum)∧(∀ q,q < f.aA.length→yN f q))
 (.loop (default:Sum (Int) (Int)) (fun i15=>i15.2≤f.facts.length∧(i15.1=0→uH r f.aR∧f.af.length≠0∧(r.bm.length≤200→(∀ q,q < f.af.length→xQ r f q))∧(∀ q,q < f.aN.length→jJ (f.aN.getD q default).sum)∧(∀ q,q < f.aA.length→yN f q))) (fun i15=>f.facts.length - i15.2) ((UR,0):Int × Nat)
 (fun (i15:Int × Nat)=>⟨[(5,iv i15.1),(10,iv (i15.2:Int))],[]⟩) fun i15 =>
 .Ba 3 18 f.facts.length <|
 .br ((decide ((i15.2:Int) < ((f.facts.length:Nat):Int)))&&(i15.1 == 0))
 (.r 27 ((yY f (i15.2:Int)).c) fun US =>
 .nx 26 10 i15.2 (US,i15.2+1))
 (.fin (.inl (.inr i15.1))))
 (fun (GK:Int)=>⟨[(5,iv GK)],[]⟩) fun GK =>
 .fin GK)
def Ly r f:=(mz r f).val
theorem Ku (r:ah) (f:al) (hP:r.bm.length≤200):(mz r f).cZ (fun (x:Int)=>x=0→cm r f):=by
 refine Sk.bp _ ?_
 unfold mz
 simp only [Sk.cU,Sk.aO,reduceCtorEq,ON,kk,kp,ar,yV,Br,yY,yW,bB,forall_eq,maxLen]
 have ext:∀ {P:Nat→Prop} {i:Nat},(∀ q,q < i→P q)→P i→∀ q,q < i+1→P q:=fun h h2 q hq=>(Nat.lt_succ_iff_lt_or_eq.1 hq).elim (h q) (fun e=>e ▸ h2)
 refine ⟨fun _ h=>absurd h (by decide),fun hb hB=>?_⟩
 simp only [LN] at hb
 refine ⟨⟨fun _ h=>absurd h (by decide),fun h0 h=>⟨hB h,fun e=>?_⟩⟩,fun b1 _ Ld=>⟨⟨⟨Nat.zero_le _,fun h=>⟨(Ld h).1,(Ld h).2,fun _ q hq=>absurd hq (by omega)⟩⟩,fun i hi=>⟨fun hc hs _=>?_,fun hc h=>?_⟩⟩,fun b2 wK=>⟨⟨⟨Nat.zero_le _,fun h=>⟨(wK h).1,(wK h).2.1,(wK h).2.2,fun q hq=>absurd hq (by omega)⟩⟩,fun i hi=>⟨fun hc b _=>⟨fun _ _=>?_,fun _=>⟨fun _ _=>?_,fun hs _=>?_⟩⟩,fun hc h=>?_⟩⟩,fun b3 JO=>⟨⟨⟨Nat.zero_le _,fun h=>⟨(JO h).1,(JO h).2.1,(JO h).2.2.1,(JO h).2.2.2,fun q hq=>absurd hq (by omega)⟩⟩,fun i hi=>⟨fun hc hs _=>?_,fun hc h=>?_⟩⟩,fun b4 hb4=>⟨⟨⟨Nat.zero_le _,hb4⟩,fun i hi=>⟨fun hc _=>?_,fun _ h=>hi.2 h⟩⟩,fun b5 hb5 h=>?_⟩⟩⟩⟩⟩
 ·simp [e,h] at h0
 ·simp only [LN] at hc
  obtain ⟨a1,a2,a3⟩:=hi.2 hc.2
  exact ⟨⟨by omega,fun h=>⟨a1,a2,fun hr=>ext (a3 hr) (hs ⟨⟨by omega,by omega⟩,by omega,hr,a1⟩ h)⟩⟩,by omega⟩
 ·simp only [LN] at hc
  have e:i.2=f.af.length:=by omega
  exact e ▸ hi.2 h
 ·simp only [LN] at hc
  exact ⟨⟨by omega,fun h=>absurd h (by decide)⟩,by omega⟩
 ·simp only [LN] at hc
  exact ⟨⟨by omega,fun h=>absurd h (by decide)⟩,by omega⟩
 ·simp only [LN] at hc hs
  obtain ⟨a1,a2,a3,a4⟩:=hi.2 hc.2
  exact ⟨⟨by omega,fun h=>⟨a1,a2,a3,ext a4 ⟨by omega,by omega⟩⟩⟩,by omega⟩
 ·simp only [LN] at hc
  have e:i.2=f.aN.length:=by omega
  exact e ▸ hi.2 h
 ·simp only [LN] at hc
  obtain ⟨a1,a2,a3,a4,a5⟩:=hi.2 hc.2
  exact ⟨⟨by omega,fun h=>⟨a1,a2,a3,a4,ext a5 (hs ⟨⟨by omega,by omega⟩,by omega,by omega⟩ h)⟩⟩,by omega⟩
 ·simp only [LN] at hc
  have e:i.2=f.aA.length:=by omega
  exact e ▸ hi.2 h
 ·simp only [LN] at hc
  exact ⟨⟨by omega,fun _=>hi.2 hc.2⟩,by omega⟩
 ·obtain ⟨a1,a2,a3,a4,a5⟩:=hb5 h
  exact ⟨a1,⟨by omega,a2,by omega,by omega,by omega⟩,a3 hP,a4,a5⟩
theorem Ig (r:ah) (f:al):(fun (x:Int)=>(r.bm.length≤200)→(x=0→cm r f)) (Ly r f):=fun hP=>Sk.de _ (Ku r f hP)
theorem MP (r:ah) (f:al):(mz r f).bz (fun _=>True):=by
 refine Sk.aX _ ?_
 unfold mz
 simp only [Sk.km,Sk.aO,reduceCtorEq,ON,kk,kp,ar,yV,Br,yY,yW,bB,forall_eq,maxLen]
 have ext:∀ {P:Nat→Prop} {i:Nat},(∀ q,q < i→P q)→P i→∀ q,q < i+1→P q:=fun h h2 q hq=>(Nat.lt_succ_iff_lt_or_eq.1 hq).elim (h q) (fun e=>e ▸ h2)
 have w1:∀ i n:Nat,i < n→n≤200→au ((i:Int)+1)=((i+1:Nat):Int):=fun i n h h2=>(aG (by omega) (by omega)).trans (by omega)
 refine fun hb hB=>?_
 simp only [LN] at hb
 refine ⟨⟨fun _ h=>absurd h (by decide),fun h0 h=>⟨hB h,fun e=>?_⟩⟩,fun b1 _ Ld=>⟨⟨⟨Nat.zero_le _,fun h=>⟨(Ld h).1,(Ld h).2,fun _ q hq=>absurd hq (by omega)⟩⟩,fun i hi hm=>⟨fun hc=>⟨?_,fun hs _=>⟨?_,?_⟩⟩,fun hc h=>?_⟩⟩,fun b2 wK=>⟨⟨⟨Nat.zero_le _,fun h=>⟨(wK h).1,(wK h).2.1,(wK h).2.2,fun q hq=>absurd hq (by omega)⟩⟩,fun i hi hm=>⟨fun hc=>⟨fun h2=>?_,fun b _=>⟨?_,fun _ _=>⟨?_,?_⟩,fun _=>⟨?_,fun _ _=>⟨?_,?_⟩,fun hs _=>⟨?_,?_⟩⟩⟩⟩,fun hc h=>?_⟩⟩,fun b3 JO=>⟨⟨⟨Nat.zero_le _,fun h=>⟨(JO h).1,(JO h).2.1,(JO h).2.2.1,(JO h).2.2.2,fun q hq=>absurd hq (by omega)⟩⟩,fun i hi hm=>⟨fun hc=>⟨?_,fun hs _=>⟨?_,?_⟩⟩,fun hc h=>?_⟩⟩,fun b4 hb4=>⟨⟨Nat.zero_le _,hb4⟩,fun i hi hm=>⟨fun hc=>⟨?_,fun _=>⟨?_,?_⟩⟩,fun _ h=>hi.2 h⟩⟩⟩⟩⟩⟩
 ·simp [e,h] at h0
 all_goals simp only [LN] at hc
 ·exact ⟨⟨by omega,by omega⟩,by omega⟩
 ·exact w1 _ _ (by omega) (show f.af.length≤200 from by omega)
 ·obtain ⟨a1,a2,a3⟩:=hi.2 hc.2
  exact ⟨⟨by omega,fun h=>⟨a1,a2,fun hr=>ext (a3 hr) (hs ⟨⟨by omega,by omega⟩,by omega,hr,a1⟩ h)⟩⟩,by omega⟩
 ·have e:i.2=f.af.length:=by omega
  exact e ▸ hi.2 h
 ·simp only [LN] at h2
  rw [aG (by omega) (by omega)]
  exact ⟨by omega,by omega⟩
 ·exact ⟨by omega,by omega⟩
 ·exact w1 _ _ (by omega) (show f.aN.length≤200 from by omega)
 ·exact ⟨⟨by omega,fun h=>absurd h (by decide)⟩,by omega⟩
 ·exact ⟨by omega,by omega⟩
 ·exact w1 _ _ (by omega) (show f.aN.length≤200 from by omega)
 ·exact ⟨⟨by omega,fun h=>absurd h (by decide)⟩,by omega⟩
 ·exact w1 _ _ (by omega) (show f.aN.length≤200 from by omega)
 ·simp only [LN] at hs
  obtain ⟨a1,a2,a3,a4⟩:=hi.2 hc.2
  exact ⟨⟨by omega,fun h=>⟨a1,a2,a3,ext a4 ⟨by omega,by omega⟩⟩⟩,by omega⟩
 ·have e:i.2=f.aN.length:=by omega
  exact e ▸ hi.2 h
 ·exact ⟨⟨by omega,by omega⟩,by omega,by omega⟩
 ·exact w1 _ _ (by omega) (show f.aA.length≤200 from by omega)
 ·obtain ⟨a1,a2,a3,a4,a5⟩:=hi.2 hc.2
  exact ⟨⟨by omega,fun h=>⟨a1,a2,a3,a4,ext a5 (hs ⟨⟨by omega,by omega⟩,by omega,by omega⟩ h)⟩⟩,by omega⟩
 ·have e:i.2=f.aA.length:=by omega
  exact e ▸ hi.2 h
 ·exact ⟨⟨by omega,by omega⟩,by omega⟩
 ·exact w1 _ _ (by omega) (show f.facts.length≤200 from by omega)
 ·exact ⟨⟨by omega,fun _=>hi.2 hc.2⟩,by omega⟩
def yZ r f:=kk tok mixed Tryz.func16 [av r.cells,av f.cells] (fun x=>iv x) true (mz r f) (Ly r f) (u0 (MP r f)) (fun (x:Int)=>(r.bm.length≤200)→(x=0→cm r f)) (Ig r f)
def qw (r:ah) (f:al):Sk (Bool) :=
 .r 1 (.dep ((z7 r f).c) fun x1=>.dep (.wh x1 true ((oP r).c)) fun x2=>.wh (x1&&(x2 == 0)) true ((yZ r f).c)) fun p4 =>
 .fin ((((p4.1&&(p4.2.1 == 0))&&(p4.2.2 == 0))&&(decide (((f.af.length:Nat):Int)≤20)))&&(decide (((f.aA.length:Nat):Int)≤30)))
def MQ r f:=(qw r f).val
theorem PR (r:ah) (f:al):(qw r f).cZ (fun (x:Bool)=>x=true→r.Small∧r.cG∧r.dQ∧r.iH∧r.dj∧cm r f):=by
 refine Sk.bp _ ?_
 unfold qw
 simp only [Sk.cU,Sk.aO,reduceCtorEq,ON,kk,kp,oP,yZ,z7,maxLen]
 intro x _ hx hc
 simp only [Bool.and_eq_true,beq_iff_eq,decide_eq_true_eq] at hc
 obtain ⟨⟨⟨⟨h1,h2⟩,h3⟩,-⟩,-⟩:=hc
 obtain ⟨a1,a2,a3,a4,a5,a6,a7,a8,a9,b1,b2,b3,b4⟩:=hx.2.1 h2
 exact ⟨(hx.1 h1).1,a6,b4,a5,b3,hx.2.2 a4 h3⟩
theorem R7 (r:ah) (f:al):(qw r f).bz (fun _=>True):=by
 refine Sk.aX _ ?_
 unfold qw
 simp only [Sk.km,Sk.aO,reduceCtorEq,ON,kk,kp,oP,yZ,z7,maxLen]
def Eb r f:=kp tok mixed Tryz.func6 [av r.cells,av f.cells] (fun x=>bv x) true (MQ r f) (u0 (R7 r f)) (PR r f)
structure aH where
 known:Bool
 n:Int
 deriving Inhabited
def aH.cells (c:aH):List D:=[dB c.known,dI c.n]
def aH.E:Pk aH:=⟨aH.cells,2,fun _=>rfl,fun _=>rfl⟩
def rH (f:al) (kind:Int) (at_:Int):Sk (aH) :=
 .bt
 (.loop (default:Sum (aH) (Unit)) (fun i2=>i2≤f.facts.length) (fun i2=>f.facts.length - i2) (0:Nat)
 (fun (i2:Nat)=>⟨[(7,iv (i2:Int))],[]⟩) fun i2 =>
 .lt 3 18 i2 f.facts.length
 (.r 4 (.aq (.p (bG (i2:Int) f.facts.length)) (.wh (((f.facts.getD i2 default).kind) == kind) true (.p (bG (i2:Int) f.facts.length)))) fun _ =>
 .br ((((f.facts.getD i2 default).kind) == kind)&&(((f.facts.getD i2 default).at_) == at_))
 (.r 5 (.p (bG (i2:Int) f.facts.length)) fun _ =>
 .br (((f.facts.getD i2 default).n) == 0)
 (.fin (.inl (.inl ({ known:=true,n:=0 }:aH))))
 (.fin (.inl (.inl ({ known:=true,n:=1 }:aH)))))
 (.nx 3 7 i2 (i2+1)))
 (.fin (.inl (.inr ()))))
 (fun (_:Unit)=>⟨[],[]⟩) fun _ =>
 .fin ({ known:=false,n:=0 }:aH)
def CK f kind at_:=(rH f kind at_).val
theorem PS (f:al) (kind:Int) (at_:Int):(rH f kind at_).bz (fun _=>True):=by
 unfold rH
 exact oh
def Bs f kind at_:=kk tok mixed Tryz.func17 [av f.cells,iv kind,iv at_] (fun x=>av x.cells) true (rH f kind at_) (CK f kind at_) (u0 (PS f kind at_))
def rI (f:al) (x_:Fact):Sk (al) :=
 .r 1 ((Bs f x_.kind x_.at_).c) fun x1 =>
 .br x1.known
 (.fin f)
 (.bind true (fun b2=>b2.length≤0+f.facts.length)
 (.loop (default:Sum (al) ((List Fact))) (fun i3=>i3.2≤f.facts.length∧i3.1.length≤0+i3.2) (fun i3=>f.facts.length - i3.2) (([],0):(List Fact) × Nat)
 (fun (i3:(List Fact) × Nat)=>⟨[(5,ow 100002 i3.1),(6,iv (i3.2:Int))],[(100002,bO 45 3 Fact.cells i3.1)]⟩) fun i3 =>
 .lt 2 18 i3.2 f.facts.length
 (.r 7 (.p (bG (i3.2:Int) f.facts.length)) fun _ =>
 .br ((decide (((f.facts.getD i3.2 default).at_) < x_.at_))||((((f.facts.getD i3.2 default).at_) == x_.at_)&&(decide (((f.facts.getD i3.2 default).kind) < x_.kind))))
 (.r 9 (.aq (.o [.fU (gA Fact.E [f.facts.getD i3.2 default])]) (.aq (.o [.fU (oe Fact.E i3.1 [f.facts.getD i3.2 default])]) (.aq (.t (Fact.E.qb [f.facts.getD i3.2 default])) (.p (yi i3.1.length [f.facts.getD i3.2 default].length 24))))) fun _ =>
 .nx 6 6 i3.2 (i3.1++[f.facts.getD i3.2 default],i3.2+1))
 (.nx 6 6 i3.2 (i3.1,i3.2+1)))
 (.fin (.inl (.inr i3.1))))
 (fun (b2:(List Fact))=>⟨[(5,ow 100001 b2)],[(100001,bO 45 3 Fact.cells b2)]⟩) fun b2 =>
 .r 10 (.aq (.o [.fU (gA Fact.E [x_])]) (.aq (.o [.fU (oe Fact.E b2 [x_])]) (.aq (.t (Fact.E.qb [x_])) (.p (yi b2.length [x_].length 24))))) fun _ =>
 .bind true (fun b4=>b4.length≤(b2++[x_]).length+f.facts.length)
 (.loop (default:Sum (al) ((List Fact))) (fun i5=>i5.2≤f.facts.length∧i5.1.length≤(b2++[x_]).length+i5.2) (fun i5=>f.facts.length - i5.2) ((b2++[x_],0):(List Fact) × Nat)
 (fun (i5:(List Fact) × Nat)=>⟨[(5,ow 100005 i5.1),(8,iv (i5.2:Int))],[(100005,bO 45 3 Fact.cells i5.1)]⟩) fun i5 =>
 .lt 2 18 i5.2 f.facts.length
 (.r 14 (.p (bG (i5.2:Int) f.facts.length)) fun _ =>
 .br ((decide (((f.facts.getD i5.2 default).at_) > x_.at_))||((((f.facts.getD i5.2 default).at_) == x_.at_)&&(decide (((f.facts.getD i5.2 default).kind) > x_.kind))))
 (.r 16 (.aq (.o [.fU (gA Fact.E [f.facts.getD i5.2 default])]) (.aq (.o [.fU (oe Fact.E i5.1 [f.facts.getD i5.2 default])]) (.aq (.t (Fact.E.qb [f.facts.getD i5.2 default])) (.p (yi i5.1.length [f.facts.getD i5.2 default].length 24))))) fun _ =>
 .nx 13 8 i5.2 (i5.1++[f.facts.getD i5.2 default],i5.2+1))
 (.nx 13 8 i5.2 (i5.1,i5.2+1)))
 (.fin (.inl (.inr i5.1))))
 (fun (b4:(List Fact))=>⟨[(5,ow 100004 b4)],[(100004,bO 45 3 Fact.cells b4)]⟩) fun b4 =>
 .fin ({ f with facts:=b4 }))
def tN f x_:=(rI f x_).val
theorem PT (f:al) (x_:Fact) (hf:f.facts.length≤1000000):(rI f x_).bz (fun _=>True):=by
 unfold rI
 try simp only [Bs]
 exact oh
def Bt f x_:=kk tok mixed Tryz.func7 [av f.cells,av x_.cells] (fun x=>av x.cells) false (rI f x_) (tN f x_) (PT f x_)
def mA (i:Int) (n:Int):Sk (Bool) :=
 .fin ((decide (i≥0))&&(decide (i < n)))
def A3 i n:=(mA i n).val
theorem j2 (i:Int) (n:Int):A3 i n=((decide (i≥0))&&(decide (i < n))):=rfl
theorem Ec (i:Int) (n:Int):(mA i n).bz (fun _=>True):=by
 unfold mA
 exact pq
def ef i n:=kk tok mixed Tryz.func85 [iv i,iv n] (fun x=>bv x) true (mA i n) (A3 i n) (u0 (Ec i n))
def mB (f:al) (day:Int):Sk (al) :=
 .bind true (fun b1=>b1.length≤f.af.length)
 (.loop (default:Sum (al) ((List Sign))) (fun i2=>i2.2.length≤i2.1∧i2.1≤f.af.length) (fun i2=>f.af.length - i2.1) ((0,[]):Nat × (List Sign))
 (fun (i2:Nat × (List Sign))=>⟨[(20,iv (i2.1:Int))],[(100002,bO 96 9 Sign.cells i2.2),(5,.box (f.aR.cells.map .d++[ow 100002 i2.2]++[nv,nv,nv]))]⟩) fun i2 =>
 .lt 18 0 i2.1 f.af.length
 (.r 4 (.p (bG (i2.1:Int) f.af.length)) fun _ =>
 .br (decide (((f.af.getD i2.1 default).day) > day))
 (.fin (.inl (.inr i2.2)))
 (.r 6 (.aq (.o [.fU (gA Sign.E [f.af.getD i2.1 default])]) (.aq (.o [.fU (oe Sign.E i2.2 [f.af.getD i2.1 default])]) (.aq (.t (Sign.E.qb [f.af.getD i2.1 default])) (.p (yi i2.2.length [f.af.getD i2.1 default].length 72))))) fun _ =>
 .nx 7 20 i2.1 (i2.1+1,i2.2++[f.af.getD i2.1 default])))
 (.fin (.inl (.inr i2.2))))
 (fun (b1:(List Sign))=>⟨[],[(100001,bO 96 9 Sign.cells b1),(5,.box (f.aR.cells.map .d++[ow 100001 b1]++[nv,nv,nv]))]⟩) fun b1 =>
 .bind true (fun b3=>b3.length≤f.aA.length)
 (.loop (default:Sum (al) ((List bh))) (fun i4=>i4.2.length≤i4.1∧i4.1≤f.aA.length) (fun i4=>f.aA.length - i4.1) ((0,[]):Nat × (List bh))
 (fun (i4:Nat × (List bh))=>⟨[(38,iv (i4.1:Int))],[(100005,bO 62 9 bh.cells i4.2),(5,.box (f.aR.cells.map .d++[ow 100001 b1]++[nv,ow 100005 i4.2]++[nv]))]⟩) fun i4 =>
 .lt 36 0 i4.1 f.aA.length
 (.r 10 (.p (bG (i4.1:Int) f.aA.length)) fun _ =>
 .br (decide (((f.aA.getD i4.1 default).day) > day))
 (.fin (.inl (.inr i4.2)))
 (.r 12 (.aq (.o [.fU (gA bh.E [f.aA.getD i4.1 default])]) (.aq (.o [.fU (oe bh.E i4.2 [f.aA.getD i4.1 default])]) (.aq (.t (bh.E.qb [f.aA.getD i4.1 default])) (.p (yi i4.2.length [f.aA.getD i4.1 default].length 72))))) fun _ =>
 .nx 13 38 i4.1 (i4.1+1,i4.2++[f.aA.getD i4.1 default])))
 (.fin (.inl (.inr i4.2))))
 (fun (b3:(List bh))=>⟨[],[(100004,bO 62 9 bh.cells b3),(5,.box (f.aR.cells.map .d++[ow 100001 b1]++[nv,ow 100004 b3]++[nv]))]⟩) fun b3 =>
 .bind true (fun b5=>b5.length≤f.aN.length)
 (.loop (default:Sum (al) ((List di))) (fun i6=>i6.2.length≤i6.1∧i6.1≤f.aN.length) (fun i6=>f.aN.length - i6.1) ((0,[]):Nat × (List di))
 (fun (i6:Nat × (List di))=>⟨[(56,iv (i6.1:Int))],[(100008,bO 115 2 di.cells i6.2),(5,.box (f.aR.cells.map .d++[ow 100001 b1,ow 100008 i6.2,ow 100004 b3]++[nv]))]⟩) fun i6 =>
 .lt 54 0 i6.1 f.aN.length
 (.r 16 (.p (bG (i6.1:Int) f.aN.length)) fun _ =>
 .br (decide (((f.aN.getD i6.1 default).at_)≤((b1.length:Nat):Int)))
 (.r 18 (.aq (.o [.fU (gA di.E [f.aN.getD i6.1 default])]) (.aq (.o [.fU (oe di.E i6.2 [f.aN.getD i6.1 default])]) (.aq (.t (di.E.qb [f.aN.getD i6.1 default])) (.p (yi i6.2.length [f.aN.getD i6.1 default].length 16))))) fun _ =>
 .nx 19 56 i6.1 (i6.1+1,i6.2++[f.aN.getD i6.1 default]))
 (.nx 19 56 i6.1 (i6.1+1,i6.2)))
 (.fin (.inl (.inr i6.2))))
 (fun (b5:(List di))=>⟨[],[(100007,bO 115 2 di.cells b5),(5,.box (f.aR.cells.map .d++[ow 100001 b1,ow 100007 b5,ow 100004 b3]++[nv]))]⟩) fun b5 =>
 .bind true (fun b7=>b7.length≤f.facts.length)
 (.loop (default:Sum (al) ((List Fact))) (fun i8=>i8.2.length≤i8.1∧i8.1≤f.facts.length) (fun i8=>f.facts.length - i8.1) ((0,[]):Nat × (List Fact))
 (fun (i8:Nat × (List Fact))=>⟨[(76,iv (i8.1:Int))],[(100011,bO 45 3 Fact.cells i8.2),(5,.box (f.aR.cells.map .d++[ow 100001 b1,ow 100007 b5,ow 100004 b3,ow 100011 i8.2]))]⟩) fun i8 =>
 .lt 74 0 i8.1 f.facts.length
 (.r 22 (.p (bG (i8.1:Int) f.facts.length)) fun _ =>
 .r 23 ((ef ((f.facts.getD i8.1 default).at_) ((b1.length:Nat):Int)).c) fun x9 =>
 .br x9
 (.r 24 (.aq (.o [.fU (gA Fact.E [f.facts.getD i8.1 default])]) (.aq (.o [.fU (oe Fact.E i8.2 [f.facts.getD i8.1 default])]) (.aq (.t (Fact.E.qb [f.facts.getD i8.1 default])) (.p (yi i8.2.length [f.facts.getD i8.1 default].length 24))))) fun _ =>
 .nx 25 76 i8.1 (i8.1+1,i8.2++[f.facts.getD i8.1 default]))
 (.nx 25 76 i8.1 (i8.1+1,i8.2)))
 (.fin (.inl (.inr i8.2))))
 (fun (b7:(List Fact))=>⟨[],[(100010,bO 45 3 Fact.cells b7),(5,.box (f.aR.cells.map .d++[ow 100001 b1,ow 100007 b5,ow 100004 b3,ow 100010 b7]))]⟩) fun b7 =>
 .fin ({ f with af:=b1,aN:=b5,aA:=b3,facts:=b7 })
def ai f day:=(mB f day).val
theorem A4 (f:al) (day:Int):(mB f day).cZ (fun (x:al)=>x.af.length≤f.af.length∧x.aA.length≤f.aA.length∧x.aN.length≤f.aN.length∧x.facts.length≤f.facts.length):=by
 unfold mB
 try simp only [ef,j2,al.Small,ah.Small]
 exact RS
theorem Ih (f:al) (day:Int):(fun (x:al)=>x.af.length≤f.af.length∧x.aA.length≤f.aA.length∧x.aN.length≤f.aN.length∧x.facts.length≤f.facts.length) (ai f day):=have h:=Sk.de _ (A4 f day); h
theorem MR (f:al) (day:Int) (hf:f.Small):(mB f day).bz (fun _=>True):=by
 simp only [al.Small,ah.Small] at hf
 unfold mB
 try simp only [ef,j2,al.Small,ah.Small]
 exact yj
def ch f day:=kp tok mixed Tryz.func47 [av f.cells,iv day] (fun x=>av x.cells) false (ai f day) (MR f day) (A4 f day)
theorem oT {α:Type} (p:α→Bool):∀ (l s:List α),l.foldl (fun s x=>bif p x then s++[x] else s) s=s++l.filter p
 | [],s=>by simp
 | x :: r,s=>by
  simp only [List.foldl_cons,List.filter_cons]
  cases h:p x with
  | true=>simp [oT p r]
  | false=>simp [oT p r]
theorem Bu {α β:Type} (p:α→Bool) (g:List α→β):∀ (l s:List α),walk (fun x s=>bif !(p x) then Sum.inl (g s) else Sum.inr (s++[x])) g l s=g (s++l.takeWhile p)
 | [],s=>by simp [walk]
 | x :: r,s=>by
  simp only [walk,List.takeWhile_cons]
  cases h:p x with
  | true =>
   show walk (fun x s=>bif !(p x) then Sum.inl (g s) else Sum.inr (s++[x])) g r (s++[x])=_
   rw [Bu p g r (s++[x])]
   simp
  | false=>simp
theorem gD (f:al) (day:Int):ai f day=al.mk f.aR (f.af.takeWhile (fun s=>decide (s.day≤day)))
  (f.aN.filter (fun a=>decide (a.at_≤((f.af.takeWhile (fun s=>decide (s.day≤day))).length:Int)))) (f.aA.takeWhile (fun a=>decide (a.day≤day)))
  (f.facts.filter (fun x=>decide (x.at_≥0)&&decide (x.at_ < ((f.af.takeWhile (fun s=>decide (s.day≤day))).length:Int)))):=by
 simp only [ai,mB,Sk.dh,Sk.gd,Sk.iY,Sk.eQ,Sk.iE,Sk.lT,Sk.cO,gm.xP,kk,kp,ef,j2]
 have h1:∀ (n:Nat) (d:al ⊕ List Sign),f.af.length < n→iter (fun i2:Nat × List Sign=>bif decide ((i2.1:Int) < (f.af.length:Int)) then (bif decide ((f.af.getD i2.1 default).day > day) then (Sum.inl (Sum.inr i2.2)) else (Sum.inr (i2.1+1,i2.2++[f.af.getD i2.1 default]))) else Sum.inl (Sum.inr i2.2)) d n (0,[])=(Sum.inr (f.af.takeWhile (fun s=>decide (s.day≤day))):al ⊕ List Sign):=by
  intro n d hn
  rw [og f.af (fun s i=>(i,s)) (fun x s=>bif !(decide (x.day≤day)) then Sum.inl (Sum.inr s) else Sum.inr (s++[x])) (fun s=>Sum.inr s) (fun s i hi=>?_) (fun s=>?_) hn []]
  ·exact Bu _ (fun s=>(Sum.inr s:al ⊕ List Sign)) f.af []
  ·rw [decide_eq_true (by omega),cond_true]
   by_cases c:(f.af.getD i default).day > day
   ·rw [decide_eq_true c,decide_eq_false (by omega)]; rfl
   ·rw [decide_eq_false c,decide_eq_true (by omega)]; rfl
  ·rw [decide_eq_false (by omega),cond_false]
 rw [h1 _ _ (by simp)]
 have h2:∀ (n:Nat) (d:al ⊕ List bh),f.aA.length < n→iter (fun i2:Nat × List bh=>bif decide ((i2.1:Int) < (f.aA.length:Int)) then (bif decide ((f.aA.getD i2.1 default).day > day) then (Sum.inl (Sum.inr i2.2)) else (Sum.inr (i2.1+1,i2.2++[f.aA.getD i2.1 default]))) else Sum.inl (Sum.inr i2.2)) d n (0,[])=(Sum.inr (f.aA.takeWhile (fun s=>decide (s.day≤day))):al ⊕ List bh):=by
  intro n d hn
  rw [og f.aA (fun s i=>(i,s)) (fun x s=>bif !(decide (x.day≤day)) then Sum.inl (Sum.inr s) else Sum.inr (s++[x])) (fun s=>Sum.inr s) (fun s i hi=>?_) (fun s=>?_) hn []]
  ·exact Bu _ (fun s=>(Sum.inr s:al ⊕ List bh)) f.aA []
  ·rw [decide_eq_true (by omega),cond_true]
   by_cases c:(f.aA.getD i default).day > day
   ·rw [decide_eq_true c,decide_eq_false (by omega)]; rfl
   ·rw [decide_eq_false c,decide_eq_true (by omega)]; rfl
  ·rw [decide_eq_false (by omega),cond_false]
 simp only [tl]
 rw [h2 _ _ (by simp)]
 simp only [tl]
 generalize f.af.takeWhile (fun s=>decide (s.day≤day))=b1
 have h3:∀ (n:Nat) (d:al ⊕ List di),f.aN.length < n→iter (fun i2:Nat × List di=>bif decide ((i2.1:Int) < (f.aN.length:Int)) then (bif decide ((f.aN.getD i2.1 default).at_≤(b1.length:Int)) then (Sum.inr (i2.1+1,i2.2++[f.aN.getD i2.1 default])) else (Sum.inr (i2.1+1,i2.2))) else Sum.inl (Sum.inr i2.2)) d n (0,[])=(Sum.inr (f.aN.filter (fun a=>decide (a.at_≤(b1.length:Int)))):al ⊕ List di):=by
  intro n d hn
  rw [og f.aN (fun s i=>(i,s)) (fun x s=>Sum.inr (bif decide (x.at_≤(b1.length:Int)) then s++[x] else s)) (fun s=>Sum.inr s) (fun s i hi=>?_) (fun s=>?_) hn []]
  ·rw [j0 (fun (x:di) s=>bif decide (x.at_≤(b1.length:Int)) then s++[x] else s),oT]; rfl
  ·rw [decide_eq_true (by omega),cond_true]
   cases decide ((f.aN.getD i default).at_≤(b1.length:Int)) <;> rfl
  ·rw [decide_eq_false (by omega),cond_false]
 rw [h3 _ _ (by simp)]
 simp only [tl]
 have h4:∀ (n:Nat) (d:al ⊕ List Fact),f.facts.length < n→iter (fun i2:Nat × List Fact=>bif decide ((i2.1:Int) < (f.facts.length:Int)) then (bif (decide ((f.facts.getD i2.1 default).at_≥0)&&decide ((f.facts.getD i2.1 default).at_ < (b1.length:Int))) then (Sum.inr (i2.1+1,i2.2++[f.facts.getD i2.1 default])) else (Sum.inr (i2.1+1,i2.2))) else Sum.inl (Sum.inr i2.2)) d n (0,[])=(Sum.inr (f.facts.filter (fun a=>decide (a.at_≥0)&&decide (a.at_ < (b1.length:Int)))):al ⊕ List Fact):=by
  intro n d hn
  rw [og f.facts (fun s i=>(i,s)) (fun x s=>Sum.inr (bif (decide (x.at_≥0)&&decide (x.at_ < (b1.length:Int))) then s++[x] else s)) (fun s=>Sum.inr s) (fun s i hi=>?_) (fun s=>?_) hn []]
  ·rw [j0 (fun (x:Fact) s=>bif (decide (x.at_≥0)&&decide (x.at_ < (b1.length:Int))) then s++[x] else s),oT]; rfl
  ·rw [decide_eq_true (by omega),cond_true]
   cases (decide ((f.facts.getD i default).at_≥0)&&decide ((f.facts.getD i default).at_ < (b1.length:Int))) <;> rfl
  ·rw [decide_eq_false (by omega),cond_false]
 rw [h4 _ _ (by simp)]
 rfl
theorem za {α:Type} [Inhabited α] (p:α→Bool):∀ (l:List α) (i:Nat),i < (l.takeWhile p).length→(l.takeWhile p).getD i default=l.getD i default∧i < l.length∧p (l.getD i default)=true
 | [],i,h=>by simp at h
 | x :: r,i,h=>by
  rw [List.takeWhile_cons] at h ⊢
  cases hp:p x with
  | false=>rw [hp] at h; simp at h
  | true =>
   rw [hp] at h
   simp only [if_true,List.length_cons] at h ⊢
   cases i with
   | zero=>exact ⟨rfl,by simp,hp⟩
   | succ i =>
    have:=za p r i (by omega)
    exact ⟨by simpa using this.1,by simpa using this.2.1,by simpa using this.2.2⟩
structure View where
 all:al
 now:al
 day:Int
 lead:List Int
 deriving Inhabited
def View.cells (c:View):List D:=c.all.cells++c.now.cells++[dI c.day,mV bU c.lead]
def View.jC (v:View):Prop:=∀ i,i < v.now.af.length→((v.now.af.getD i default).kind=3∨(v.now.af.getD i default).kind=4)→0≤(v.now.af.getD i default).for_∧(v.now.af.getD i default).for_ < (i:Int)
structure eu where
 view:View
 r:ah
 forum:Int
 due:Int
 deriving Inhabited
def eu.cells (c:eu):List D:=c.view.cells++c.r.cells++[dI c.forum,dI c.due]
section
open Go Go.Av Go.Shelf Go.Proofs
def Tryz.MS:Go.Shelf.Ren:=⟨fun | 5=>97 | 8=>51 | 7=>136 | 19=>95 | 20=>96 | 10=>169 | 11=>170 | 12=>171 | 13=>172 | 14=>173 | 15=>174 | 16=>175 | 17=>176 | 18=>177 | 30=>206 | 31=>132 | 32=>133 | 33=>207 | 34=>208 | 35=>209 | 40=>226 | n=>n,fun | 23=>64 | 25=>3 | 3=>3 | 32=>124 | 22=>64 | 0=>0 | 44=>195 | 46=>197 | 4=>4 | 36=>188 | 35=>187 | 41=>192 | 5=>5 | 9=>9 | 53=>236 | 57=>240 | 63=>275 | 64=>97 | n=>n,fun | n=>n⟩
theorem Tryz.PU:Go.Proofs.SlLaysM.n5 Tryz.prog Tryz.MS:={
 mixed:=by kernel_rfl
 f5:=⟨Tryz.f97.name,by decide,Tryz.func97.trans (congrArg some (by kernel_rfl))⟩
 f7:=⟨Tryz.f136.name,by decide,Tryz.func136.trans (congrArg some (by kernel_rfl))⟩
 f8:=Tryz.func51.trans (congrArg some (by kernel_rfl))
 f10:=⟨Tryz.f169.name,by decide,Tryz.func169.trans (congrArg some (by kernel_rfl))⟩
 f11:=⟨Tryz.f170.name,by decide,Tryz.func170.trans (congrArg some (by kernel_rfl))⟩
 f12:=⟨Tryz.f171.name,by decide,Tryz.func171.trans (congrArg some (by kernel_rfl))⟩
 f13:=⟨Tryz.f172.name,by decide,Tryz.func172.trans (congrArg some (by kernel_rfl))⟩
 f14:=⟨Tryz.f173.name,by decide,Tryz.func173.trans (congrArg some (by kernel_rfl))⟩
 f15:=⟨Tryz.f174.name,by decide,Tryz.func174.trans (congrArg some (by kernel_rfl))⟩
 f16:=⟨Tryz.f175.name,by decide,Tryz.func175.trans (congrArg some (by kernel_rfl))⟩
 f17:=⟨Tryz.f176.name,by decide,Tryz.func176.trans (congrArg some (by kernel_rfl))⟩
 f18:=⟨Tryz.f177.name,by decide,Tryz.func177.trans (congrArg some (by kernel_rfl))⟩
 f19:=Tryz.func95.trans (congrArg some (by kernel_rfl))
 f20:=Tryz.func96.trans (congrArg some (by kernel_rfl))
 f30:=⟨Tryz.f206.name,by decide,Tryz.func206.trans (congrArg some (by kernel_rfl))⟩
 f31:=Tryz.func132.trans (congrArg some (by kernel_rfl))
 f32:=Tryz.func133.trans (congrArg some (by kernel_rfl))
 f33:=⟨Tryz.f207.name,by decide,Tryz.func207.trans (congrArg some (by kernel_rfl))⟩
 f34:=⟨Tryz.f208.name,by decide,Tryz.func208.trans (congrArg some (by kernel_rfl))⟩
 f35:=⟨Tryz.f209.name,by decide,Tryz.func209.trans (congrArg some (by kernel_rfl))⟩
 f40:=⟨Tryz.f226.name,by decide,Tryz.func226.trans (congrArg some (by kernel_rfl))⟩
 t0:=Tryz.underlying0
 a0:=Tryz.isAgg0
 z0:=Tryz.sizeOf0
 v0:=Tryz.zeroValue0
 t3:=Tryz.underlying3
 a3:=Tryz.isAgg3
 z3:=Tryz.sizeOf3
 v3:=Tryz.zeroValue3
 t4:=Tryz.underlying4
 a4:=Tryz.isAgg4
 z4:=Tryz.sizeOf4
 v4:=Tryz.zeroValue4
 t5:=Tryz.underlying5
 a5:=Tryz.isAgg5
 z5:=Tryz.sizeOf5
 v5:=Tryz.zeroValue5
 t9:=Tryz.underlying9
 a9:=Tryz.isAgg9
 z9:=Tryz.sizeOf9
 v9:=Tryz.zeroValue9
 t22:=Tryz.underlying64
 a22:=Tryz.isAgg64
 z22:=Tryz.sizeOf64
 v22:=Tryz.zeroValue64
 t23:=Tryz.underlying64
 a23:=Tryz.isAgg64
 z23:=Tryz.sizeOf64
 v23:=Tryz.zeroValue64
 t25:=Tryz.underlying3
 a25:=Tryz.isAgg3
 z25:=Tryz.sizeOf3
 v25:=Tryz.zeroValue3
 t32:=Tryz.underlying124
 a32:=Tryz.isAgg124
 z32:=Tryz.sizeOf124
 v32:=Tryz.zeroValue124
 t35:=Tryz.underlying187
 a35:=Tryz.isAgg187
 z35:=Tryz.sizeOf187
 v35:=Tryz.zeroValue187
 t36:=Tryz.underlying188
 a36:=Tryz.isAgg188
 z36:=Tryz.sizeOf188
 v36:=Tryz.zeroValue188
 t41:=Tryz.underlying192
 a41:=Tryz.isAgg192
 z41:=Tryz.sizeOf192
 v41:=Tryz.zeroValue192
 t44:=Tryz.underlying195
 a44:=Tryz.isAgg195
 z44:=Tryz.sizeOf195
 v44:=Tryz.zeroValue195
 t46:=Tryz.underlying197
 a46:=Tryz.isAgg197
 z46:=Tryz.sizeOf197
 v46:=Tryz.zeroValue197
 t53:=Tryz.underlying236
 a53:=Tryz.isAgg236
 z53:=Tryz.sizeOf236
 v53:=Tryz.zeroValue236
 t57:=Tryz.underlying240
 a57:=Tryz.isAgg240
 z57:=Tryz.sizeOf240
 v57:=Tryz.zeroValue240
 t63:=Tryz.underlying275
 a63:=Tryz.isAgg275
 z63:=Tryz.sizeOf275
 v63:=Tryz.zeroValue275
 t64:=Tryz.underlying97
 a64:=Tryz.isAgg97
 z64:=Tryz.sizeOf97
 v64:=Tryz.zeroValue97 }
def qU (κ:Nat) (x:List Int):Fy (List Int) :=
 ⟨Tryz.prog,97,[ow κ x],κ,bO 3 1 bU x,fun y=>bO 3 1 bU y,iG x,x.length < 4611686018427387904,
  fun h=>WS (by kernel_rfl) (fun blk off cap zs w=>AnyM.slices_Sort_int Tryz.PU blk off cap zs w) (fun p cap w=>AnyM.slices_Sort_int_none Tryz.PU p cap w) κ 3 x h,
  fun y=>y.length=x.length,by simp [iG]⟩
end
section
open Go Go.Av Go.Shelf Go.Proofs
def Tryz.FB:Go.Shelf.Ren:=⟨fun | 20=>98 | n=>n,fun | 22=>64 | 3=>3 | 4=>4 | 0=>0 | n=>n,fun | n=>n⟩
theorem Tryz.E7:Go.Proofs.Lays2.n20 Tryz.prog Tryz.FB:={
 mixed:=by kernel_rfl
 f20:=Tryz.func98.trans (congrArg some (by kernel_rfl))
 t0:=Tryz.underlying0
 a0:=Tryz.isAgg0
 z0:=Tryz.sizeOf0
 v0:=Tryz.zeroValue0
 t3:=Tryz.underlying3
 a3:=Tryz.isAgg3
 z3:=Tryz.sizeOf3
 v3:=Tryz.zeroValue3
 t4:=Tryz.underlying4
 a4:=Tryz.isAgg4
 z4:=Tryz.sizeOf4
 v4:=Tryz.zeroValue4
 t22:=Tryz.underlying64
 a22:=Tryz.isAgg64
 z22:=Tryz.sizeOf64
 v22:=Tryz.zeroValue64
 i3:=by kernel_rfl }
theorem Ii (x:List Int):(Lib.compact x).length≤x.length:=by
 unfold Lib.compact Lib.compactUpTo
 rw [List.length_map]
 exact Nat.le_trans (List.length_filter_le _ _) (by simp)
def mC (κ κ':Nat) (x:List Int):yL (List Int) :=
 ⟨Tryz.prog,98,[ow κ x],[(κ,bO 3 1 bU x)],fun y=>ow κ' y,fun y=>[(κ',bO 3 1 bU y)],Lib.compact x,True,
  fun _=>Ps (by kernel_rfl) x _ (Ii x) (fun blk cap w h1 h2 h3=>Any.slices_Compact_int Tryz.E7 blk 0 cap x w h1 h2 h3) (fun p cap w=>Any.slices_Compact_int_empty Tryz.E7 p cap w) κ κ' 3,
  fun y=>y.length≤x.length,Ii x⟩
end
end
end Go.Proofs.YtgmnlkccjlnnbaaGreatDoor
