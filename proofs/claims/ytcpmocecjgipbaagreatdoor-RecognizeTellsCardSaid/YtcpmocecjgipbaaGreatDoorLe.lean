/- The types of this program, as the evaluator looks at them. -/
import Derived.Test.YtcpmocecjgipbaaGreatDoorLd
import Derived.Test.YtcpmocecjgipbaaGreatDoorRows
set_option linter.unusedSimpArgs false
set_option linter.unusedVariables false
set_option maxHeartbeats 1000000
set_option maxRecDepth 100000
namespace Go.Proofs.YtcpmocecjgipbaaGreatDoor
noncomputable section
open Go Go.Av
instance:zr:=⟨[(2,[dI 6,dI 7,dI 10,dI 12,dI 13,dI 14,dI 15,dI 16,dI 20,dI 21])]⟩
def TT:List (Nat × TI):=[
 (3,⟨.int .i64,1,8,[.v (.int .i64 0)],false⟩),
 (4,⟨.bool,1,1,[.v (.bool false)],false⟩),
 (5,⟨.int .u8,1,1,[.v (.int .u8 0)],false⟩),
 (9,⟨.str,1,16,[.v (.string ⟨#[]⟩)],false⟩),
 (22,⟨.slice 9,1,24,[.v (.slice none 0 0)],false⟩),
 (23,⟨.slice 96,1,24,[.v (.slice none 0 0)],false⟩),
 (24,⟨.slice 98,1,24,[.v (.slice none 0 0)],false⟩),
 (25,⟨.slice 100,1,24,[.v (.slice none 0 0)],false⟩),
 (26,⟨.slice 89,1,24,[.v (.slice none 0 0)],false⟩),
 (27,⟨.slice 136,1,24,[.v (.slice none 0 0)],false⟩),
 (28,⟨.slice 102,1,24,[.v (.slice none 0 0)],false⟩),
 (29,⟨.slice 138,1,24,[.v (.slice none 0 0)],false⟩),
 (31,⟨.struct [(0,22),(1,23),(2,24),(3,25),(4,26),(5,27),(6,28),(7,29)],8,192,[.v (.slice none 0 0),.v (.slice none 0 0),.v (.slice none 0 0),.v (.slice none 0 0),.v (.slice none 0 0),.v (.slice none 0 0),.v (.slice none 0 0),.v (.slice none 0 0)],false⟩),
 (33,⟨.struct [(0,3),(1,3),(2,3)],3,24,[.v (.int .i64 0),.v (.int .i64 0),.v (.int .i64 0)],true⟩),
 (35,⟨.struct [(0,3),(1,3),(2,3),(3,3),(4,3),(5,33),(8,3),(9,3),(10,3),(11,3),(12,3),(13,3),(14,3)],15,120,[.v (.int .i64 0),.v (.int .i64 0),.v (.int .i64 0),.v (.int .i64 0),.v (.int .i64 0),.v (.int .i64 0),.v (.int .i64 0),.v (.int .i64 0),.v (.int .i64 0),.v (.int .i64 0),.v (.int .i64 0),.v (.int .i64 0),.v (.int .i64 0),.v (.int .i64 0),.v (.int .i64 0)],false⟩),
 (36,⟨.slice 74,1,24,[.v (.slice none 0 0)],false⟩),
 (37,⟨.slice 111,1,24,[.v (.slice none 0 0)],false⟩),
 (38,⟨.slice 123,1,24,[.v (.slice none 0 0)],false⟩),
 (39,⟨.slice 104,1,24,[.v (.slice none 0 0)],false⟩),
 (41,⟨.struct [(0,35),(15,36),(16,37),(17,38),(18,39)],19,216,[.v (.int .i64 0),.v (.int .i64 0),.v (.int .i64 0),.v (.int .i64 0),.v (.int .i64 0),.v (.int .i64 0),.v (.int .i64 0),.v (.int .i64 0),.v (.int .i64 0),.v (.int .i64 0),.v (.int .i64 0),.v (.int .i64 0),.v (.int .i64 0),.v (.int .i64 0),.v (.int .i64 0),.v (.slice none 0 0),.v (.slice none 0 0),.v (.slice none 0 0),.v (.slice none 0 0)],false⟩),
 (43,⟨.struct [(0,3),(1,3),(2,3),(3,3),(4,3),(5,3),(6,3),(7,3)],8,64,[.v (.int .i64 0),.v (.int .i64 0),.v (.int .i64 0),.v (.int .i64 0),.v (.int .i64 0),.v (.int .i64 0),.v (.int .i64 0),.v (.int .i64 0)],true⟩),
 (44,⟨.slice 63,1,24,[.v (.slice none 0 0)],false⟩),
 (47,⟨.int .i64,1,8,[.v (.int .i64 0)],false⟩),
 (61,⟨.struct [(0,3),(1,3),(2,3),(3,3),(4,3),(5,3),(6,3),(7,3),(8,3)],9,72,[.v (.int .i64 0),.v (.int .i64 0),.v (.int .i64 0),.v (.int .i64 0),.v (.int .i64 0),.v (.int .i64 0),.v (.int .i64 0),.v (.int .i64 0),.v (.int .i64 0)],true⟩),
 (63,⟨.struct [(0,3),(1,3),(2,3),(3,3),(4,3),(5,3)],6,48,[.v (.int .i64 0),.v (.int .i64 0),.v (.int .i64 0),.v (.int .i64 0),.v (.int .i64 0),.v (.int .i64 0)],true⟩),
 (69,⟨.other,1,8,[.v .nilFunc],false⟩),
 (74,⟨.struct [(0,3),(1,3),(2,3),(3,3),(4,3),(5,3),(6,3),(7,3),(8,3)],9,72,[.v (.int .i64 0),.v (.int .i64 0),.v (.int .i64 0),.v (.int .i64 0),.v (.int .i64 0),.v (.int .i64 0),.v (.int .i64 0),.v (.int .i64 0),.v (.int .i64 0)],true⟩),
 (78,⟨.struct [(0,4),(1,3)],2,16,[.v (.bool false),.v (.int .i64 0)],true⟩),
 (79,⟨.slice 3,1,24,[.v (.slice none 0 0)],false⟩),
 (81,⟨.struct [(0,78),(2,3),(3,79),(4,47)],5,56,[.v (.bool false),.v (.int .i64 0),.v (.int .i64 0),.v (.slice none 0 0),.v (.int .i64 0)],false⟩),
 (84,⟨.struct [(0,41),(19,3),(20,3),(21,3),(22,3),(23,3)],24,256,[.v (.int .i64 0),.v (.int .i64 0),.v (.int .i64 0),.v (.int .i64 0),.v (.int .i64 0),.v (.int .i64 0),.v (.int .i64 0),.v (.int .i64 0),.v (.int .i64 0),.v (.int .i64 0),.v (.int .i64 0),.v (.int .i64 0),.v (.int .i64 0),.v (.int .i64 0),.v (.int .i64 0),.v (.slice none 0 0),.v (.slice none 0 0),.v (.slice none 0 0),.v (.slice none 0 0),.v (.int .i64 0),.v (.int .i64 0),.v (.int .i64 0),.v (.int .i64 0),.v (.int .i64 0)],false⟩),
 (86,⟨.slice 169,1,24,[.v (.slice none 0 0)],false⟩),
 (87,⟨.slice 94,1,24,[.v (.slice none 0 0)],false⟩),
 (89,⟨.struct [(0,9),(1,4),(2,86),(3,87)],4,72,[.v (.string ⟨#[]⟩),.v (.bool false),.v (.slice none 0 0),.v (.slice none 0 0)],false⟩),
 (90,⟨.slice 92,1,24,[.v (.slice none 0 0)],false⟩),
 (92,⟨.struct [(0,3),(1,3),(2,90)],3,40,[.v (.int .i64 0),.v (.int .i64 0),.v (.slice none 0 0)],false⟩),
 (94,⟨.struct [(0,3),(1,92)],4,48,[.v (.int .i64 0),.v (.int .i64 0),.v (.int .i64 0),.v (.slice none 0 0)],false⟩),
 (96,⟨.struct [(0,9),(1,3),(2,3),(3,79),(4,79),(5,79)],6,104,[.v (.string ⟨#[]⟩),.v (.int .i64 0),.v (.int .i64 0),.v (.slice none 0 0),.v (.slice none 0 0),.v (.slice none 0 0)],false⟩),
 (98,⟨.struct [(0,3)],1,8,[.v (.int .i64 0)],true⟩),
 (100,⟨.struct [(0,9),(1,3),(2,3)],3,32,[.v (.string ⟨#[]⟩),.v (.int .i64 0),.v (.int .i64 0)],true⟩),
 (102,⟨.struct [(0,3),(1,3),(2,3),(3,3),(4,3)],5,40,[.v (.int .i64 0),.v (.int .i64 0),.v (.int .i64 0),.v (.int .i64 0),.v (.int .i64 0)],true⟩),
 (104,⟨.struct [(0,3),(1,3),(2,3)],3,24,[.v (.int .i64 0),.v (.int .i64 0),.v (.int .i64 0)],true⟩),
 (111,⟨.struct [(0,3),(1,3)],2,16,[.v (.int .i64 0),.v (.int .i64 0)],true⟩),
 (119,⟨.other,1,8,[.v .nilFunc],false⟩),
 (123,⟨.struct [(0,3),(1,3),(2,3),(3,3),(4,3),(5,3),(6,3),(7,3),(8,3)],9,72,[.v (.int .i64 0),.v (.int .i64 0),.v (.int .i64 0),.v (.int .i64 0),.v (.int .i64 0),.v (.int .i64 0),.v (.int .i64 0),.v (.int .i64 0),.v (.int .i64 0)],true⟩),
 (127,⟨.slice 78,1,24,[.v (.slice none 0 0)],false⟩),
 (136,⟨.struct [(0,3),(1,3),(2,3)],3,24,[.v (.int .i64 0),.v (.int .i64 0),.v (.int .i64 0)],true⟩),
 (138,⟨.struct [(0,3),(1,3),(2,3)],3,24,[.v (.int .i64 0),.v (.int .i64 0),.v (.int .i64 0)],true⟩),
 (145,⟨.int .u64,1,8,[.v (.int .u64 0)],false⟩),
 (169,⟨.struct [(0,3),(1,3),(2,4)],3,24,[.v (.int .i64 0),.v (.int .i64 0),.v (.bool false)],true⟩),
 (175,⟨.int .u64,1,8,[.v (.int .u64 0)],false⟩),
 (177,⟨.other,1,16,[.v .nilIface],false⟩),
 (184,⟨.array 10 3,10,80,[.v (.int .i64 0),.v (.int .i64 0),.v (.int .i64 0),.v (.int .i64 0),.v (.int .i64 0),.v (.int .i64 0),.v (.int .i64 0),.v (.int .i64 0),.v (.int .i64 0),.v (.int .i64 0)],false⟩),
 (188,⟨.other,1,8,[.v .nilFunc],false⟩),
 (192,⟨.struct [(0,127)],1,24,[.v (.slice none 0 0)],false⟩),
 (196,⟨.slice 4,1,24,[.v (.slice none 0 0)],false⟩),
 (204,⟨.map 3 3,1,8,[.v (.map none)],false⟩),
 (206,⟨.other,1,8,[.v .nilFunc],false⟩),
 (207,⟨.map 3 4,1,8,[.v (.map none)],false⟩),
 (214,⟨.slice 79,1,24,[.v (.slice none 0 0)],false⟩),
 (225,⟨.struct [(0,79),(1,3)],2,32,[.v (.slice none 0 0),.v (.int .i64 0)],false⟩),
 (236,⟨.slice 5,1,24,[.v (.slice none 0 0)],false⟩)]
theorem tok:mP Tryz.prog TT:=mP.of (by kernel_rfl)
theorem mixed:Tryz.prog.follows .mixedOrders=true:=by kernel_rfl
structure dL where
 name:ByteArray
 order:Int
 aq:Int
 rest:List Int
 dM:List Int
 shut:List Int
 deriving Inhabited
def dL.cells (c:dL):List D:=[.v (.string c.name),dI c.order,dI c.aq,mS cM c.rest,mS cM c.dM,mS cM c.shut]
def dL.E:Il dL:=⟨dL.cells,6,fun _=>rfl,fun _=>rfl⟩
structure gW where
 Gy:Int
 deriving Inhabited
def gW.cells (c:gW):List D:=[dI c.Gy]
def gW.E:Il gW:=⟨gW.cells,1,fun _=>rfl,fun _=>rfl⟩
structure pJ where
 name:ByteArray
 aJ:Int
 group:Int
 deriving Inhabited
def pJ.cells (c:pJ):List D:=[.v (.string c.name),dI c.aJ,dI c.group]
def pJ.E:Il pJ:=⟨pJ.cells,3,fun _=>rfl,fun _=>rfl⟩
structure Choice where
 ask:Int
 wA:Int
 whole:Bool
 deriving Inhabited
def Choice.cells (c:Choice):List D:=[dI c.ask,dI c.wA,dB c.whole]
structure Term where
 op:Int
 n:Int
 args:List Term
instance:Inhabited Term:=⟨⟨default,default,default⟩⟩
mutual
def Term.Nj:Term→D
 | ⟨_,_,args⟩=>.sl args.length (Term.Gz args)
def Term.Gz:List Term→Nat→List D
 | [],_=>[]
 | x :: _,0=>[dI x.op,dI x.n,Term.Nj x]
 | _ :: r,i+1=>Term.Gz r i
end
def Term.jD (x:Term):List D:=[dI x.op,dI x.n,Term.Nj x]
theorem Term.CU:∀ (l:List Term) (i:Nat),i < l.length→Term.Gz l i=(l.getD i default).jD
 | [],i,h=>absurd h (by simp)
 | x :: r,0,_=>by simp [Term.Gz,Term.jD]
 | x :: r,i+1,h=>by simpa [Term.Gz] using Term.CU r i (by simpa using h)
def Term.cells (c:Term):List D:=[dI c.op,dI c.n,mS Term.jD c.args]
theorem Term.Nk (c:Term):qg (Term.Nj c) (mS Term.jD c.args)∧qg (mS Term.jD c.args) (Term.Nj c):=by
 obtain ⟨op,n,args⟩:=c
 unfold Term.Nj
 exact ⟨qg.sl rfl (fun i hi=>Term.CU args i hi),qg.sl rfl (fun i hi=>(Term.CU args i hi).symm)⟩
theorem Term.zY (c:Term):u9 c.jD c.cells:=.cons .rfl' (.cons .rfl' (.cons ((Term.Nk c).1) (.nil)))
mutual
def Term.depth:Term→Nat
 | ⟨_,_,args⟩=>Term.bO args+1
def Term.bO:List Term→Nat
 | []=>0
 | x :: r=>max x.depth (Term.bO r)
end
theorem Term.J9:∀ (l:List Term) (i:Nat),i < l.length→(l.getD i default).depth≤Term.bO l
 | [],i,h=>absurd h (by simp)
 | x :: r,0,_=>by simp [Term.bO]; omega
 | x :: r,i+1,h=>by
  have:=Term.J9 r i (by simpa using h)
  simp [Term.bO] at this ⊢
  omega
theorem Term.fS (c:Term) (i:Nat) (h:i < c.args.length):(c.args.getD i default).depth < c.depth:=by
 obtain ⟨op,n,args⟩:=c
 have:=Term.J9 args i h
 simp only [Term.depth]
 omega
theorem Term.fK (c:Term):0 < c.depth:=by
 obtain ⟨op,n,args⟩:=c
 simp only [Term.depth]
 omega
structure lj where
 ask:Int
 term:Term
 deriving Inhabited
def lj.cells (c:lj):List D:=[dI c.ask]++c.term.cells
def lj.E:Il lj:=⟨lj.cells,4,fun _=>rfl,fun _=>rfl⟩
structure Order where
 name:ByteArray
 mb:Bool
 aF:List Choice
 rules:List lj
 deriving Inhabited
def Order.cells (c:Order):List D:=[.v (.string c.name),dB c.mb,mS Choice.cells c.aF,mS lj.cells c.rules]
def Order.E:Il Order:=⟨Order.cells,4,fun _=>rfl,fun _=>rfl⟩
def Nl (o:Order):Prop:=∀ j,j < o.aF.length→j≠0→(o.aF.getD (j - 1) default).ask < (o.aF.getD j default).ask
structure dh where
 from_:Int
 bZ:Int
 days:Int
 deriving Inhabited
def dh.cells (c:dh):List D:=[dI c.from_,dI c.bZ,dI c.days]
def dh.E:Il dh:=⟨dh.cells,3,fun _=>rfl,fun _=>rfl⟩
structure bV where
 from_:Int
 bZ:Int
 num:Int
 den:Int
 since:Int
 deriving Inhabited
def bV.cells (c:bV):List D:=[dI c.from_,dI c.bZ,dI c.num,dI c.den,dI c.since]
def bV.E:Il bV:=⟨bV.cells,5,fun _=>rfl,fun _=>rfl⟩
structure Halt where
 order:Int
 from_:Int
 bZ:Int
 deriving Inhabited
def Halt.cells (c:Halt):List D:=[dI c.order,dI c.from_,dI c.bZ]
structure af where
 aX:List ByteArray
 aC:List dL
 fh:List gW
 bg:List pJ
 al:List Order
 aM:List dh
 ak:List bV
 bJ:List Halt
 deriving Inhabited
def af.cells (c:af):List D:=[mS gV c.aX,mS dL.cells c.aC,mS gW.cells c.fh,mS pJ.cells c.bg,mS Order.cells c.al,mS dh.cells c.aM,mS bV.cells c.ak,mS Halt.cells c.bJ]
def af.Small (r:af):Prop:=r.aX.length≤1000000∧r.aC.length≤1000000∧r.fh.length≤1000000∧r.bg.length≤1000000∧r.al.length≤1000000∧r.aM.length≤1000000∧r.ak.length≤1000000∧r.bJ.length≤1000000 ∧
 ∀ i,i < r.al.length→(r.al.getD i default).aF.length≤1000000∧(r.al.getD i default).rules.length≤1000000
def af.ck (r:af):Prop:=∀ i j,i < r.al.length→j < (r.al.getD i default).aF.length→0≤((r.al.getD i default).aF.getD j default).wA∧((r.al.getD i default).aF.getD j default).wA < 5
def af.okB (r:af):Bool:=decide (r.aX.length≤1000000)&&decide (r.aC.length≤1000000)&&decide (r.fh.length≤1000000)&&decide (r.bg.length≤1000000)&&decide (r.al.length≤1000000)&&decide (r.aM.length≤1000000)&&decide (r.ak.length≤1000000)&&decide (r.bJ.length≤1000000) &&
 r.al.all fun o=>decide (o.aF.length≤1000000)&&decide (o.rules.length≤1000000)&&o.aF.all fun c=>decide (0≤c.wA)&&decide (c.wA < 5)
theorem af.DX {r:af} (h:r.okB=true):r.Small∧r.ck:=by
 simp only [af.okB,Bool.and_eq_true,decide_eq_true_eq,List.all_eq_true] at h
 obtain ⟨⟨⟨⟨⟨⟨⟨⟨h1,h2⟩,h3⟩,h4⟩,h5⟩,h6⟩,h7⟩,h8⟩,h9⟩:=h
 exact ⟨⟨h1,h2,h3,h4,h5,h6,h7,h8,fun i hi=>(h9 _ (ic hi _)).1⟩,fun i j hi hj=>(h9 _ (ic hi _)).2 _ (ic hj _)⟩
def af.ba (r:af):Prop:=∀ i,i < r.bJ.length→(r.bJ.getD i default).bZ≤100000
def af.n7 (r:af):Prop:=∀ i,i < r.al.length→Nl (r.al.getD i default)
def af.GA (r:af):Prop:=∀ i,i < r.aC.length→0≤(r.aC.getD i default).order
structure mZ where
 kind:Int
 n:Int
 unit:Int
 deriving Inhabited
def mZ.cells (c:mZ):List D:=[dI c.kind,dI c.n,dI c.unit]
structure jT where
 CV:Int
 vo:Int
 gU:Int
 sum:Int
 aq:Int
 aE:mZ
 day:Int
 aJ:Int
 qC:Int
 need:Int
 zd:Int
 flags:Int
 parts:Int
 deriving Inhabited
def jT.cells (c:jT):List D:=[dI c.CV,dI c.vo,dI c.gU,dI c.sum,dI c.aq]++c.aE.cells++[dI c.day,dI c.aJ,dI c.qC,dI c.need,dI c.zd,dI c.flags,dI c.parts]
structure Sign where
 kind:Int
 part:Int
 nX:Int
 for_:Int
 bZ:Int
 sum:Int
 day:Int
 aJ:Int
 flags:Int
 deriving Inhabited
def Sign.cells (c:Sign):List D:=[dI c.kind,dI c.part,dI c.nX,dI c.for_,dI c.bZ,dI c.sum,dI c.day,dI c.aJ,dI c.flags]
def Sign.E:Il Sign:=⟨Sign.cells,9,fun _=>rfl,fun _=>rfl⟩
structure cK where
 at_:Int
 sum:Int
 deriving Inhabited
def cK.cells (c:cK):List D:=[dI c.at_,dI c.sum]
def cK.E:Il cK:=⟨cK.cells,2,fun _=>rfl,fun _=>rfl⟩
structure fB where
 kind:Int
 nX:Int
 bZ:Int
 part:Int
 at_:Int
 sum:Int
 day:Int
 aJ:Int
 form:Int
 deriving Inhabited
def fB.cells (c:fB):List D:=[dI c.kind,dI c.nX,dI c.bZ,dI c.part,dI c.at_,dI c.sum,dI c.day,dI c.aJ,dI c.form]
def fB.E:Il fB:=⟨fB.cells,9,fun _=>rfl,fun _=>rfl⟩
structure Fact where
 kind:Int
 at_:Int
 n:Int
 deriving Inhabited
def Fact.cells (c:Fact):List D:=[dI c.kind,dI c.at_,dI c.n]
def Fact.E:Il Fact:=⟨Fact.cells,3,fun _=>rfl,fun _=>rfl⟩
structure aD where
 aA:jT
 ai:List Sign
 a8:List cK
 bo:List fB
 facts:List Fact
 deriving Inhabited
def aD.cells (c:aD):List D:=c.aA.cells++[mS Sign.cells c.ai,mS cK.cells c.a8,mS fB.cells c.bo,mS Fact.cells c.facts]
def aD.Small (f:aD):Prop:=f.ai.length≤1000000∧f.a8.length≤1000000∧f.bo.length≤1000000∧f.facts.length≤1000000
def af.rM (r:af):Prop:=∀ i,i < r.bg.length→0≤(r.bg.getD i default).aJ∧(r.bg.getD i default).aJ < r.aC.length
def af.zZ (r:af):Prop:=∀ i,i < r.ak.length→(1≤(r.ak.getD i default).num∧(r.ak.getD i default).num≤1073741824)∧1≤(r.ak.getD i default).den∧(r.ak.getD i default).den≤1073741824
abbrev La (n:Int):Prop:=0≤n∧n≤1099511627776
def Nm (f:aD) (q:Nat):Prop:=La (f.ai.getD q default).sum∧(0≤(f.ai.getD q default).kind∧(f.ai.getD q default).kind≤4)∧((f.ai.getD q default).kind=0↔q=0)∧((f.ai.getD q default).kind=3∨(f.ai.getD q default).kind=4→0≤(f.ai.getD q default).for_∧(f.ai.getD q default).for_ < (q:Int))
def Ka (r:af) (f:aD) (q:Nat):Prop:=(0≤(f.ai.getD q default).nX∧(f.ai.getD q default).nX < r.bg.length)∧(q≠0→(f.ai.getD (q - 1) default).day≤(f.ai.getD q default).day)∧(f.ai.getD q default).day≤100000∧(q=0→(f.ai.getD q default).day=f.aA.day)∧(0≤(f.ai.getD q default).part∧(f.ai.getD q default).part≤f.aA.parts - 1)∧Nm f q
def CW (f:aD) (q:Nat):Prop:=La (f.bo.getD q default).sum∧(f.aA.day≤(f.bo.getD q default).day∧(f.bo.getD q default).day≤100000)∧(q≠0→(f.bo.getD (q - 1) default).day≤(f.bo.getD q default).day)∧((f.bo.getD q default).kind=6→(0≤(f.bo.getD q default).at_∧(f.bo.getD q default).at_ < f.ai.length)∧(f.ai.getD (f.bo.getD q default).at_.toNat default).day≤(f.bo.getD q default).day∧(f.ai.getD (f.bo.getD q default).at_.toNat default).nX=(f.bo.getD q default).nX)
def Nn (r:af) (b:jT):Prop:=(1≤b.sum∧b.sum≤1099511627776)∧(0≤b.qC∧b.qC < r.aC.length)∧(0≤b.day∧b.day≤100000)∧(1≤b.parts∧b.parts≤4)∧(0≤b.aq∧b.aq < r.aX.length)
def CX (r:af) (f:aD):Prop:=Nn r f.aA∧(f.ai.length≤40∧f.ai.length≠0∧f.a8.length≤4∧f.bo.length≤100∧f.facts.length≤200)∧(∀ q,q < f.ai.length→Ka r f q)∧(∀ q,q < f.a8.length→La (f.a8.getD q default).sum)∧∀ q,q < f.bo.length→CW f q
theorem CX.small {r:af} {f:aD} (h:CX r f):f.Small:=by have:=h.2.1; unfold aD.Small; omega
def VG (r:af) (f:aD) (q:Nat):Prop:=(f.ai.getD q default).bZ = -1∨(0≤(f.ai.getD q default).bZ∧(f.ai.getD q default).bZ < r.bg.length)
def ToF (r:af) (f:aD):Prop:=(f.aA.gU = -1∨(0≤f.aA.gU∧f.aA.gU < r.bg.length))∧∀ q,q < f.ai.length→VG r f q
structure aQ where
 fq:Int
 aA:Int
 sign:Int
 cm:Int
 aP:Int
 sum:Int
 aq:Int
 day:Int
 deriving Inhabited
def aQ.cells (c:aQ):List D:=[dI c.fq,dI c.aA,dI c.sign,dI c.cm,dI c.aP,dI c.sum,dI c.aq,dI c.day]
structure aw where
 aA:Int
 from_:Int
 bZ:Int
 sum:Int
 aq:Int
 day:Int
 deriving Inhabited
def aw.cells (c:aw):List D:=[dI c.aA,dI c.from_,dI c.bZ,dI c.sum,dI c.aq,dI c.day]
def aw.E:Il aw:=⟨aw.cells,6,fun _=>rfl,fun _=>rfl⟩
def jh:Sk (af) :=
 .r 2 (.au (.o [.pur 6]) (.o [.dy (YF lj.E [({ ask:=19,term:=({ op:=2,n:=15,args:=[] }:Term) }:lj)] [dI 19,dI 2,dI 15,.v (.slice none 0 0)] (by kernel_rfl))])) fun _ =>
 .r 3 (.au (.o [.dy (gr tI [(⟨#[102,114,97,110,99]⟩:ByteArray),(⟨#[112,111,117,110,100]⟩:ByteArray)])]) (.au (.o [.dy (YF dL.E [({ name:=(⟨#[76,121,111,110]⟩:ByteArray),order:=0,aq:=0,rest:=[],dM:=[],shut:=[] }:dL)] [.v (.string (⟨#[76,121,111,110]⟩:ByteArray)),dI 0,dI 0,.v (.slice none 0 0),.v (.slice none 0 0),.v (.slice none 0 0)] (by kernel_rfl))]) (.au (.o [.dy (gr gW.E [({ Gy:=0 }:gW)])]) (.au (.o [.dy (gr pJ.E [({ name:=(⟨#[97]⟩:ByteArray),aJ:=0,group:=0 }:pJ),({ name:=(⟨#[98]⟩:ByteArray),aJ:=0,group:=0 }:pJ),({ name:=(⟨#[99]⟩:ByteArray),aJ:=0,group:=0 }:pJ)])]) (.au (.o [.dy (YF Order.E [({ name:=(⟨#[103,101,110,101,118,97]⟩:ByteArray),mb:=false,aF:=[],rules:=[] }:Order),({ name:=(⟨#[108,111,110,100,111,110]⟩:ByteArray),mb:=false,aF:=[],rules:=[({ ask:=19,term:=({ op:=2,n:=15,args:=[] }:Term) }:lj)] }:Order)] [.v (.string (⟨#[103,101,110,101,118,97]⟩:ByteArray)),dB false,.v (.slice none 0 0),.v (.slice none 0 0),.v (.string (⟨#[108,111,110,100,111,110]⟩:ByteArray)),dB false,.v (.slice none 0 0),mS lj.cells [({ ask:=19,term:=({ op:=2,n:=15,args:=[] }:Term) }:lj)]] (by kernel_rfl))]) (.o [.dy (gr bV.E [({ from_:=1,bZ:=0,num:=2,den:=1,since:=0 }:bV)])])))))) fun _ =>
 .fin ({ aX:=[(⟨#[102,114,97,110,99]⟩:ByteArray),(⟨#[112,111,117,110,100]⟩:ByteArray)],aC:=[({ name:=(⟨#[76,121,111,110]⟩:ByteArray),order:=0,aq:=0,rest:=[],dM:=[],shut:=[] }:dL)],fh:=[({ Gy:=0 }:gW)],bg:=[({ name:=(⟨#[97]⟩:ByteArray),aJ:=0,group:=0 }:pJ),({ name:=(⟨#[98]⟩:ByteArray),aJ:=0,group:=0 }:pJ),({ name:=(⟨#[99]⟩:ByteArray),aJ:=0,group:=0 }:pJ)],al:=[({ name:=(⟨#[103,101,110,101,118,97]⟩:ByteArray),mb:=false,aF:=[],rules:=[] }:Order),({ name:=(⟨#[108,111,110,100,111,110]⟩:ByteArray),mb:=false,aF:=[],rules:=[({ ask:=19,term:=({ op:=2,n:=15,args:=[] }:Term) }:lj)] }:Order)],aM:=[],ak:=[({ from_:=1,bZ:=0,num:=2,den:=1,since:=0 }:bV)],bJ:=[] }:af)
def xw:af:=(jh).val
theorem Ep:(jh).dz (fun (x:af)=>x.Small∧x.ck):=by
 refine Sk.bq _ ?_
 have h:xw.okB=true:=by kernel_rfl
 have h2:=af.DX h
 unfold jh
 simp only [Sk.cV,ni,gd,bD.z,bD.p,bD.t,bD.pt,bD.o,bD.and,bD.au,bD.zX,bD.wh,bD.dep,bD.fA,eo.c,kk,kp,eo.nil,eo.zc,jg.c,jg.nil,implies_true,forall_const]
 exact h2
theorem CY:(fun (x:af)=>x.Small∧x.ck) (xw):=have h:=Sk.dA _ (Ep); h
theorem GB:(jh).bE (fun _=>True):=by
 unfold jh
 try simp only [aD.Small,af.Small,af.ck]
 exact mY
def zy:eo (af):=kk tok mixed Tryz.func17 [] (fun x=>av x.cells) false (jh) (xw) (fun (_:True)=>GB) (fun (x:af)=>x.Small∧x.ck) (CY)
def j3:Sk (aD) :=
 .r 2 (.au (.o [.dy (gr Sign.E [({ kind:=0,part:=0,nX:=0,for_:=(-1),bZ:=(-1),sum:=0,day:=2,aJ:=0,flags:=0 }:Sign),({ kind:=1,part:=0,nX:=1,for_:=(-1),bZ:=(-1),sum:=120,day:=3,aJ:=0,flags:=0 }:Sign)])]) (.o [.dy (gr Fact.E [({ kind:=0,at_:=0,n:=1 }:Fact)])])) fun _ =>
 .fin ({ aA:=({ CV:=0,vo:=1,gU:=2,sum:=120,aq:=0,aE:=({ kind:=3,n:=10,unit:=0 }:mZ),day:=2,aJ:=0,qC:=0,need:=(-1),zd:=0,flags:=1,parts:=1 }:jT),ai:=[({ kind:=0,part:=0,nX:=0,for_:=(-1),bZ:=(-1),sum:=0,day:=2,aJ:=0,flags:=0 }:Sign),({ kind:=1,part:=0,nX:=1,for_:=(-1),bZ:=(-1),sum:=120,day:=3,aJ:=0,flags:=0 }:Sign)],a8:=[],bo:=[],facts:=[({ kind:=0,at_:=0,n:=1 }:Fact)] }:aD)
def GC:aD:=(j3).val
theorem GD:(j3).dz (fun (x:aD)=>x.Small):=by
 refine Sk.bq _ ?_
 unfold j3
 simp only [Sk.cV,Sk.aU,reduceCtorEq,ON,kk,kp,aD.Small,af.Small,maxLen]
 all_goals (repeat' first | assumption | (apply And.intro) | (intro h))
 all_goals first | trivial | (simp; done) | (unfold aD.Small; simp; done)
theorem Er:(fun (x:aD)=>x.Small) (GC):=have h:=Sk.dA _ (GD); h
theorem ID:(j3).bE (fun _=>True):=by
 unfold j3
 try simp only [aD.Small,af.Small]
 exact mY
def Bs:eo (aD):=kk tok mixed Tryz.func18 [] (fun x=>av x.cells) false (j3) (GC) (fun (_:True)=>ID) (fun (x:aD)=>x.Small) (Er)
structure Claim where
 cm:Int
 aP:Int
 part:Int
 sign:Int
 wA:Int
 aa0:Int
 sum:Int
 aq:Int
 state:Int
 deriving Inhabited
def Claim.cells (c:Claim):List D:=[dI c.cm,dI c.aP,dI c.part,dI c.sign,dI c.wA,dI c.aa0,dI c.sum,dI c.aq,dI c.state]
def mc (aj:Int) (aA:Int) (c_:Claim) (day:Int):Sk (aQ) :=
 .fin ({ fq:=aj,aA:=aA,sign:=c_.sign,cm:=c_.cm,aP:=c_.aP,sum:=c_.sum,aq:=c_.aq,day:=day }:aQ)
def Lb aj aA c_ day:=(mc aj aA c_ day).val
theorem Es (aj:Int) (aA:Int) (c_:Claim) (day:Int):(mc aj aA c_ day).bE (fun _=>True):=by
 unfold mc
 exact mY
def xy aj aA c_ day:=kk tok mixed Tryz.func19 [iv aj,iv aA,av c_.cells,iv day] (fun x=>av x.cells) true (mc aj aA c_ day) (Lb aj aA c_ day) (u0 (Es aj aA c_ day))
def iW (i:Int) (n:Int):Sk (Bool) :=
 .fin ((decide (i≥0))&&(decide (i < n)))
def aW i n:=(iW i n).val
theorem eW (i:Int) (n:Int):aW i n=((decide (i≥0))&&(decide (i < n))):=rfl
theorem zf (i:Int) (n:Int):(iW i n).bE (fun _=>True):=by
 unfold iW
 exact mY
def aR i n:=kk tok mixed Tryz.func23 [iv i,iv n] (fun x=>bv x) true (iW i n) (aW i n) (u0 (zf i n))
def ln (i:Int) (n:Int):Sk (Bool) :=
 .fin ((decide (i≥0))&&(decide (i < n)))
def j4 i n:=(ln i n).val
theorem ji (i:Int) (n:Int):j4 i n=((decide (i≥0))&&(decide (i < n))):=rfl
theorem CZ (i:Int) (n:Int):(ln i n).bE (fun _=>True):=by
 unfold ln
 exact mY
def dV i n:=kk tok mixed Tryz.func60 [iv i,iv n] (fun x=>bv x) true (ln i n) (j4 i n) (u0 (CZ i n))
def lq (f:aD) (day:Int):Sk (aD) :=
 .bind true (fun b1=>b1.length≤f.ai.length)
 (.loop (default:Sum (aD) ((List Sign))) (fun i2=>i2.2.length≤i2.1∧i2.1≤f.ai.length) (fun i2=>f.ai.length - i2.1) ((0,[]):Nat × (List Sign))
 (fun (i2:Nat × (List Sign))=>⟨[(20,iv (i2.1:Int))],[(100002,fg 74 9 Sign.cells i2.2),(5,.box (f.aA.cells.map .d++[ow 100002 i2.2]++[nv,nv,nv]))]⟩) fun i2 =>
 .lt 18 0 i2.1 f.ai.length
 (.r 4 (.p (bz (i2.1:Int) f.ai.length)) fun _ =>
 .br (decide (((f.ai.getD i2.1 default).day) > day))
 (.fin (.inl (.inr i2.2)))
 (.r 6 (.au (.o [.dy (gr Sign.E [f.ai.getD i2.1 default])]) (.au (.o [.dy (nY Sign.E i2.2 [f.ai.getD i2.1 default])]) (.au (.t (Sign.E.sE [f.ai.getD i2.1 default])) (.p (zb i2.2.length [f.ai.getD i2.1 default].length 72))))) fun _ =>
 .nx 7 20 i2.1 (i2.1+1,i2.2++[f.ai.getD i2.1 default])))
 (.fin (.inl (.inr i2.2))))
 (fun (b1:(List Sign))=>⟨[],[(100001,fg 74 9 Sign.cells b1),(5,.box (f.aA.cells.map .d++[ow 100001 b1]++[nv,nv,nv]))]⟩) fun b1 =>
 .bind true (fun b3=>b3.length≤f.bo.length)
 (.loop (default:Sum (aD) ((List fB))) (fun i4=>i4.2.length≤i4.1∧i4.1≤f.bo.length) (fun i4=>f.bo.length - i4.1) ((0,[]):Nat × (List fB))
 (fun (i4:Nat × (List fB))=>⟨[(38,iv (i4.1:Int))],[(100005,fg 123 9 fB.cells i4.2),(5,.box (f.aA.cells.map .d++[ow 100001 b1]++[nv,ow 100005 i4.2]++[nv]))]⟩) fun i4 =>
 .lt 36 0 i4.1 f.bo.length
 (.r 10 (.p (bz (i4.1:Int) f.bo.length)) fun _ =>
 .br (decide (((f.bo.getD i4.1 default).day) > day))
 (.fin (.inl (.inr i4.2)))
 (.r 12 (.au (.o [.dy (gr fB.E [f.bo.getD i4.1 default])]) (.au (.o [.dy (nY fB.E i4.2 [f.bo.getD i4.1 default])]) (.au (.t (fB.E.sE [f.bo.getD i4.1 default])) (.p (zb i4.2.length [f.bo.getD i4.1 default].length 72))))) fun _ =>
 .nx 13 38 i4.1 (i4.1+1,i4.2++[f.bo.getD i4.1 default])))
 (.fin (.inl (.inr i4.2))))
 (fun (b3:(List fB))=>⟨[],[(100004,fg 123 9 fB.cells b3),(5,.box (f.aA.cells.map .d++[ow 100001 b1]++[nv,ow 100004 b3]++[nv]))]⟩) fun b3 =>
 .bind true (fun b5=>b5.length≤f.a8.length)
 (.loop (default:Sum (aD) ((List cK))) (fun i6=>i6.2.length≤i6.1∧i6.1≤f.a8.length) (fun i6=>f.a8.length - i6.1) ((0,[]):Nat × (List cK))
 (fun (i6:Nat × (List cK))=>⟨[(56,iv (i6.1:Int))],[(100008,fg 111 2 cK.cells i6.2),(5,.box (f.aA.cells.map .d++[ow 100001 b1,ow 100008 i6.2,ow 100004 b3]++[nv]))]⟩) fun i6 =>
 .lt 54 0 i6.1 f.a8.length
 (.r 16 (.p (bz (i6.1:Int) f.a8.length)) fun _ =>
 .br (decide (((f.a8.getD i6.1 default).at_)≤((b1.length:Nat):Int)))
 (.r 18 (.au (.o [.dy (gr cK.E [f.a8.getD i6.1 default])]) (.au (.o [.dy (nY cK.E i6.2 [f.a8.getD i6.1 default])]) (.au (.t (cK.E.sE [f.a8.getD i6.1 default])) (.p (zb i6.2.length [f.a8.getD i6.1 default].length 16))))) fun _ =>
 .nx 19 56 i6.1 (i6.1+1,i6.2++[f.a8.getD i6.1 default]))
 (.nx 19 56 i6.1 (i6.1+1,i6.2)))
 (.fin (.inl (.inr i6.2))))
 (fun (b5:(List cK))=>⟨[],[(100007,fg 111 2 cK.cells b5),(5,.box (f.aA.cells.map .d++[ow 100001 b1,ow 100007 b5,ow 100004 b3]++[nv]))]⟩) fun b5 =>
 .bind true (fun b7=>b7.length≤f.facts.length)
 (.loop (default:Sum (aD) ((List Fact))) (fun i8=>i8.2.length≤i8.1∧i8.1≤f.facts.length) (fun i8=>f.facts.length - i8.1) ((0,[]):Nat × (List Fact))
 (fun (i8:Nat × (List Fact))=>⟨[(76,iv (i8.1:Int))],[(100011,fg 104 3 Fact.cells i8.2),(5,.box (f.aA.cells.map .d++[ow 100001 b1,ow 100007 b5,ow 100004 b3,ow 100011 i8.2]))]⟩) fun i8 =>
 .lt 74 0 i8.1 f.facts.length
 (.r 22 (.p (bz (i8.1:Int) f.facts.length)) fun _ =>
 .r 23 ((dV ((f.facts.getD i8.1 default).at_) ((b1.length:Nat):Int)).c) fun x9 =>
 .br x9
 (.r 24 (.au (.o [.dy (gr Fact.E [f.facts.getD i8.1 default])]) (.au (.o [.dy (nY Fact.E i8.2 [f.facts.getD i8.1 default])]) (.au (.t (Fact.E.sE [f.facts.getD i8.1 default])) (.p (zb i8.2.length [f.facts.getD i8.1 default].length 24))))) fun _ =>
 .nx 25 76 i8.1 (i8.1+1,i8.2++[f.facts.getD i8.1 default]))
 (.nx 25 76 i8.1 (i8.1+1,i8.2)))
 (.fin (.inl (.inr i8.2))))
 (fun (b7:(List Fact))=>⟨[],[(100010,fg 104 3 Fact.cells b7),(5,.box (f.aA.cells.map .d++[ow 100001 b1,ow 100007 b5,ow 100004 b3,ow 100010 b7]))]⟩) fun b7 =>
 .fin ({ f with ai:=b1,a8:=b5,bo:=b3,facts:=b7 })
def bn f day:=(lq f day).val
theorem zA (f:aD) (day:Int):(lq f day).dz (fun (x:aD)=>x.ai.length≤f.ai.length∧x.bo.length≤f.bo.length∧x.a8.length≤f.a8.length∧x.facts.length≤f.facts.length):=by
 unfold lq
 try simp only [dV,ji,aD.Small,af.Small]
 exact Su
theorem GF (f:aD) (day:Int):(fun (x:aD)=>x.ai.length≤f.ai.length∧x.bo.length≤f.bo.length∧x.a8.length≤f.a8.length∧x.facts.length≤f.facts.length) (bn f day):=have h:=Sk.dA _ (zA f day); h
theorem Lc (f:aD) (day:Int) (hf:f.Small):(lq f day).bE (fun _=>True):=by
 simp only [aD.Small,af.Small] at hf
 unfold lq
 try simp only [dV,ji,aD.Small,af.Small]
 exact qJ
def kN f day:=kp tok mixed Tryz.func32 [av f.cells,iv day] (fun x=>av x.cells) false (bn f day) (Lc f day) (zA f day)
theorem sQ {α:Type} (p:α→Bool):∀ (l s:List α),l.foldl (fun s x=>bif p x then s++[x] else s) s=s++l.filter p
 | [],s=>by simp
 | x :: r,s=>by
  simp only [List.foldl_cons,List.filter_cons]
  cases h:p x with
  | true=>simp [sQ p r]
  | false=>simp [sQ p r]
theorem z3 {α β:Type} (p:α→Bool) (g:List α→β):∀ (l s:List α),walk (fun x s=>bif !(p x) then Sum.inl (g s) else Sum.inr (s++[x])) g l s=g (s++l.takeWhile p)
 | [],s=>by simp [walk]
 | x :: r,s=>by
  simp only [walk,List.takeWhile_cons]
  cases h:p x with
  | true =>
   show walk (fun x s=>bif !(p x) then Sum.inl (g s) else Sum.inr (s++[x])) g r (s++[x])=_
   rw [z3 p g r (s++[x])]
   simp
  | false=>simp
theorem jE (f:aD) (day:Int):bn f day=aD.mk f.aA (f.ai.takeWhile (fun s=>decide (s.day≤day)))
  (f.a8.filter (fun a=>decide (a.at_≤((f.ai.takeWhile (fun s=>decide (s.day≤day))).length:Int)))) (f.bo.takeWhile (fun a=>decide (a.day≤day)))
  (f.facts.filter (fun x=>decide (x.at_≥0)&&decide (x.at_ < ((f.ai.takeWhile (fun s=>decide (s.day≤day))).length:Int)))):=by
 simp only [bn,lq,Sk.cu,Sk.cS,Sk.bQ,Sk.aZ,Sk.bU,Sk.cw,Sk.aN,eo.qB,kk,kp,dV,ji]
 have h1:∀ (n:Nat) (d:aD ⊕ List Sign),f.ai.length < n→iter (fun i2:Nat × List Sign=>bif decide ((i2.1:Int) < (f.ai.length:Int)) then (bif decide ((f.ai.getD i2.1 default).day > day) then (Sum.inl (Sum.inr i2.2)) else (Sum.inr (i2.1+1,i2.2++[f.ai.getD i2.1 default]))) else Sum.inl (Sum.inr i2.2)) d n (0,[])=(Sum.inr (f.ai.takeWhile (fun s=>decide (s.day≤day))):aD ⊕ List Sign):=by
  intro n d hn
  rw [jC f.ai (fun s i=>(i,s)) (fun x s=>bif !(decide (x.day≤day)) then Sum.inl (Sum.inr s) else Sum.inr (s++[x])) (fun s=>Sum.inr s) (fun s i hi=>?_) (fun s=>?_) hn []]
  ·exact z3 _ (fun s=>(Sum.inr s:aD ⊕ List Sign)) f.ai []
  ·rw [decide_eq_true (by omega),cond_true]
   by_cases c:(f.ai.getD i default).day > day
   ·rw [decide_eq_true c,decide_eq_false (by omega)]; rfl
   ·rw [decide_eq_false c,decide_eq_true (by omega)]; rfl
  ·rw [decide_eq_false (by omega),cond_false]
 rw [h1 _ _ (by simp)]
 have h2:∀ (n:Nat) (d:aD ⊕ List fB),f.bo.length < n→iter (fun i2:Nat × List fB=>bif decide ((i2.1:Int) < (f.bo.length:Int)) then (bif decide ((f.bo.getD i2.1 default).day > day) then (Sum.inl (Sum.inr i2.2)) else (Sum.inr (i2.1+1,i2.2++[f.bo.getD i2.1 default]))) else Sum.inl (Sum.inr i2.2)) d n (0,[])=(Sum.inr (f.bo.takeWhile (fun s=>decide (s.day≤day))):aD ⊕ List fB):=by
  intro n d hn
  rw [jC f.bo (fun s i=>(i,s)) (fun x s=>bif !(decide (x.day≤day)) then Sum.inl (Sum.inr s) else Sum.inr (s++[x])) (fun s=>Sum.inr s) (fun s i hi=>?_) (fun s=>?_) hn []]
  ·exact z3 _ (fun s=>(Sum.inr s:aD ⊕ List fB)) f.bo []
  ·rw [decide_eq_true (by omega),cond_true]
   by_cases c:(f.bo.getD i default).day > day
   ·rw [decide_eq_true c,decide_eq_false (by omega)]; rfl
   ·rw [decide_eq_false c,decide_eq_true (by omega)]; rfl
  ·rw [decide_eq_false (by omega),cond_false]
 simp only [cN]
 rw [h2 _ _ (by simp)]
 simp only [cN]
 generalize f.ai.takeWhile (fun s=>decide (s.day≤day))=b1
 have h3:∀ (n:Nat) (d:aD ⊕ List cK),f.a8.length < n→iter (fun i2:Nat × List cK=>bif decide ((i2.1:Int) < (f.a8.length:Int)) then (bif decide ((f.a8.getD i2.1 default).at_≤(b1.length:Int)) then (Sum.inr (i2.1+1,i2.2++[f.a8.getD i2.1 default])) else (Sum.inr (i2.1+1,i2.2))) else Sum.inl (Sum.inr i2.2)) d n (0,[])=(Sum.inr (f.a8.filter (fun a=>decide (a.at_≤(b1.length:Int)))):aD ⊕ List cK):=by
  intro n d hn
  rw [jC f.a8 (fun s i=>(i,s)) (fun x s=>Sum.inr (bif decide (x.at_≤(b1.length:Int)) then s++[x] else s)) (fun s=>Sum.inr s) (fun s i hi=>?_) (fun s=>?_) hn []]
  ·rw [gZ (fun (x:cK) s=>bif decide (x.at_≤(b1.length:Int)) then s++[x] else s),sQ]; rfl
  ·rw [decide_eq_true (by omega),cond_true]
   cases decide ((f.a8.getD i default).at_≤(b1.length:Int)) <;> rfl
  ·rw [decide_eq_false (by omega),cond_false]
 rw [h3 _ _ (by simp)]
 simp only [cN]
 have h4:∀ (n:Nat) (d:aD ⊕ List Fact),f.facts.length < n→iter (fun i2:Nat × List Fact=>bif decide ((i2.1:Int) < (f.facts.length:Int)) then (bif (decide ((f.facts.getD i2.1 default).at_≥0)&&decide ((f.facts.getD i2.1 default).at_ < (b1.length:Int))) then (Sum.inr (i2.1+1,i2.2++[f.facts.getD i2.1 default])) else (Sum.inr (i2.1+1,i2.2))) else Sum.inl (Sum.inr i2.2)) d n (0,[])=(Sum.inr (f.facts.filter (fun a=>decide (a.at_≥0)&&decide (a.at_ < (b1.length:Int)))):aD ⊕ List Fact):=by
  intro n d hn
  rw [jC f.facts (fun s i=>(i,s)) (fun x s=>Sum.inr (bif (decide (x.at_≥0)&&decide (x.at_ < (b1.length:Int))) then s++[x] else s)) (fun s=>Sum.inr s) (fun s i hi=>?_) (fun s=>?_) hn []]
  ·rw [gZ (fun (x:Fact) s=>bif (decide (x.at_≥0)&&decide (x.at_ < (b1.length:Int))) then s++[x] else s),sQ]; rfl
  ·rw [decide_eq_true (by omega),cond_true]
   cases (decide ((f.facts.getD i default).at_≥0)&&decide ((f.facts.getD i default).at_ < (b1.length:Int))) <;> rfl
  ·rw [decide_eq_false (by omega),cond_false]
 rw [h4 _ _ (by simp)]
 rfl
theorem xz {α:Type} [Inhabited α] (p:α→Bool):∀ (l:List α) (i:Nat),i < (l.takeWhile p).length→(l.takeWhile p).getD i default=l.getD i default∧i < l.length∧p (l.getD i default)=true
 | [],i,h=>by simp at h
 | x :: r,i,h=>by
  rw [List.takeWhile_cons] at h ⊢
  cases hp:p x with
  | false=>rw [hp] at h; simp at h
  | true =>
   rw [hp] at h
   simp only [if_true,List.length_cons] at h ⊢
   cases i with
   | zero=>exact ⟨rfl,by simp,hp⟩
   | succ i =>
    have:=xz p r i (by omega)
    exact ⟨by simpa using this.1,by simpa using this.2.1,by simpa using this.2.2⟩
def jF (r:af) (f:aD) (j:aQ):Sk (Int) :=
 .r 1 (.dep ((aR j.fq ((r.al.length:Nat):Int)).c) fun x1=>.dep (.wh x1 true ((aR j.aA 50).c)) fun x2=>.dep (.wh (x1&&x2) true ((aR j.sum 1099511627777).c)) fun x3=>.dep (.wh ((x1&&x2)&&x3) true ((aR j.aq ((r.aX.length:Nat):Int)).c)) fun x4=>.wh (((x1&&x2)&&x3)&&x4) true ((aR j.day 100001).c)) fun p9 =>
 .r 2 (.wh ((((p9.1&&p9.2.1)&&p9.2.2.1)&&p9.2.2.2.1)&&p9.2.2.2.2) true ((aR j.aP ((r.bg.length:Nat):Int)).c)) fun x6 =>
 .r 3 ((kN f j.day).c) fun x7 =>
 .r 4 (.fA (.wh (!((((((p9.1&&p9.2.1)&&p9.2.2.1)&&p9.2.2.2.1)&&p9.2.2.2.2)&&x6)&&(j.aP != j.cm))) false ((aR j.sign ((x7.ai.length:Nat):Int)).c)) fun x8=>.wh ((!((((((p9.1&&p9.2.1)&&p9.2.2.1)&&p9.2.2.2.1)&&p9.2.2.2.2)&&x6)&&(j.aP != j.cm)))||(!x8)) false (.p (bz j.sign x7.ai.length))) fun x8 =>
 .br (((!((((((p9.1&&p9.2.1)&&p9.2.2.1)&&p9.2.2.2.1)&&p9.2.2.2.2)&&x6)&&(j.aP != j.cm)))||(!x8))||(((x7.ai.getD j.sign.toNat default).nX) != j.cm))
 (.fin 1)
 (.fin 0)
def fa r f j:=(jF r f j).val
theorem z4 (r:af) (f:aD) (j:aQ) (cA:f.Small):(jF r f j).bE (fun _=>True):=by
 simp only [aD.Small,af.Small] at cA
 unfold jF
 try simp only [aR,kN,eW,aD.Small,af.Small]
 exact qJ
def cB r f j:=kk tok mixed Tryz.func13 [av r.cells,av f.cells,av j.cells] (fun x=>iv x) true (jF r f j) (fa r f j) (z4 r f j)
def ig (r:af) (x_:aw):Sk (Bool) :=
 .r 1 (.dep ((aR x_.from_ ((r.bg.length:Nat):Int)).c) fun x1=>.dep (.wh x1 true ((aR x_.bZ ((r.bg.length:Nat):Int)).c)) fun x2=>.dep (.wh (x1&&x2) true ((aR x_.sum 1099511627777).c)) fun x3=>.dep (.wh ((x1&&x2)&&x3) true ((aR x_.aq ((r.aX.length:Nat):Int)).c)) fun x4=>.wh (((x1&&x2)&&x3)&&x4) true ((aR x_.day 100001).c)) fun p6 =>
 .fin ((((p6.1&&p6.2.1)&&p6.2.2.1)&&p6.2.2.2.1)&&p6.2.2.2.2)
def kq r x_:=(ig r x_).val
theorem xA (r:af) (x_:aw):(ig r x_).bE (fun _=>True):=by
 unfold ig
 try simp only [aR,eW]
 exact qJ
def lL r x_:=kk tok mixed Tryz.func26 [av r.cells,av x_.cells] (fun x=>bv x) true (ig r x_) (kq r x_) (u0 (xA r x_))
def dN (x_:aw) (v:af):Sk (Bool) :=
 .r 1 ((lL v x_).c) fun x1 =>
 .fin (!x1)
def bW x_ v:=(dN x_ v).val
theorem tK (x_:aw) (v:af):(dN x_ v).bE (fun _=>True):=by
 unfold dN
 try simp only [lL]
 exact mY
def jj x_ v:=kk tok mixed Tryz.func25 [av x_.cells,.ref v.cells] (fun x=>bv x) true (dN x_ v) (bW x_ v) (u0 (tK x_ v))
def eM (s:List aw) (v:af):Sk (Int) :=
 .bind true (fun b1=>∀ q,q < s.length→bW (s.getD q default) v=false)
 (.loop (default:Sum (Int) (Unit)) (fun i2=>∀ q,q < i2→bW (s.getD q default) v=false) (fun i2=>s.length - i2) (0:Nat)
 (fun (i2:Nat)=>⟨[(8,iv (i2:Int))],[]⟩) fun i2 =>
 .lt 0 0 i2 s.length
 (.r 4 (.au (.p (bz (i2:Int) s.length)) ((jj (s.getD i2 default) v).c)) fun x3 =>
 .br x3
 (.fin (.inl (.inl (i2:Int))))
 (.nx 6 8 i2 (i2+1)))
 (.fin (.inl (.inr ()))))
 (fun (_:Unit)=>⟨[],[]⟩) fun _ =>
 .fin (-1)
def zg s v:=(eM s v).val
theorem uB (s:List aw) (v:af):(eM s v).dz (fun (x:Int)=>(x = -1∧∀ q,q < s.length→bW (s.getD q default) v=false)∨(0≤x∧x < s.length∧bW (s.getD x.toNat default) v=true∧∀ q,(q:Nat) < x.toNat→bW (s.getD q default) v=false)):=by
 unfold eM
 try simp only [jj]
 exact Rg
theorem vp (s:List aw) (v:af):(eM s v).bE (fun _=>True):=by
 unfold eM
 try simp only [jj]
 exact oj
def km s v:=kp tok mixed Tryz.func52 [lv aw.cells s,.fn 25 [.ref v.cells]] (fun x=>iv x) true (zg s v) (u0 (vp s v)) (uB s v)
def dC (s:List aw) (v:af):Sk (Bool) :=
 .r 1 ((km s v).c) fun x1 =>
 .fin (decide (x1≥0))
def dw s v:=(dC s v).val
theorem kO (s:List aw) (v:af):(dC s v).dz (fun (x:Bool)=>(x=true↔∃ q,q < s.length∧bW (s.getD q default) v=true)):=by
 unfold dC
 try simp only [km]
 exact Rg
theorem qK (s:List aw) (v:af):(fun (x:Bool)=>(x=true↔∃ q,q < s.length∧bW (s.getD q default) v=true)) (dw s v):=have h:=Sk.dA _ (kO s v); h
theorem sF (s:List aw) (v:af):(dC s v).bE (fun _=>True):=by
 unfold dC
 try simp only [km]
 exact mY
def iI s v:=kp tok mixed Tryz.func24 [lv aw.cells s,.fn 25 [.ref v.cells]] (fun x=>bv x) true (dw s v) (u0 (sF s v)) (kO s v)
def mf (n:Int) (fi:Int):Sk (Bool) :=
 .fin ((decide (n≥0))&&(decide (n≤fi)))
def jG n fi:=(mf n fi).val
theorem Et (n:Int) (fi:Int):jG n fi=((decide (n≥0))&&(decide (n≤fi))):=rfl
theorem Eu (n:Int) (fi:Int):(mf n fi).bE (fun _=>True):=by
 unfold mf
 exact mY
def gI n fi:=kk tok mixed Tryz.func53 [iv n,iv fi] (fun x=>bv x) true (mf n fi) (jG n fi) (u0 (Eu n fi))
def jU (ak:List bV) (from_:Int) (bZ:Int) (day:Int):Sk (bV × Bool) :=
 .bt
 (.loop (default:Sum (bV × Bool) (Bool × bV)) (fun i2=>i2.2.1≤ak.length) (fun i2=>ak.length - i2.2.1) ((false,0,({ from_:=0,bZ:=0,num:=0,den:=0,since:=0 }:bV)):Bool × Nat × bV)
 (fun (i2:Bool × Nat × bV)=>⟨[(11,bv i2.1),(16,iv (i2.2.1:Int))],[(10,.box (i2.2.2.cells.map .d))]⟩) fun i2 =>
 .lt 14 0 i2.2.1 ak.length
 (.r 5 (.p (bz (i2.2.1:Int) ak.length)) fun _ =>
 .br ((((((ak.getD i2.2.1 default).from_) == from_)&&(((ak.getD i2.2.1 default).bZ) == bZ))&&(decide (((ak.getD i2.2.1 default).since)≤day)))&&((!i2.1)||(decide (((ak.getD i2.2.1 default).since) > i2.2.2.since))))
 (.nx 8 16 i2.2.1 (true,i2.2.1+1,ak.getD i2.2.1 default))
 (.nx 8 16 i2.2.1 (i2.1,i2.2.1+1,i2.2.2)))
 (.fin (.inl (.inr (i2.1,i2.2.2)))))
 (fun (b1:Bool × bV)=>⟨[(11,bv b1.1)],[(10,.box (b1.2.cells.map .d))]⟩) fun b1 =>
 .fin (b1.2,b1.1)
def vq ak from_ bZ day:=(jU ak from_ bZ day).val
theorem Ev (ak:List bV) (from_:Int) (bZ:Int) (day:Int):(jU ak from_ bZ day).bE (fun _=>True):=by
 unfold jU
 exact oj
def nk ak from_ bZ day:=kk tok mixed Tryz.func54 [lv bV.cells ak,iv from_,iv bZ,iv day] (fun x=>.ef [av x.1.cells,bv x.2]) true (jU ak from_ bZ day) (vq ak from_ bZ day) (u0 (Ev ak from_ bZ day))
theorem GG {a:Int} (h0:0≤a) (h1:a < 18446744073709551616):c9 .u64 a 4294967295=a % 4294967296:=by
 obtain ⟨a,rfl⟩:=Int.eq_ofNat_of_zero_le h0
 unfold c9
 have h2:(BitVec.ofInt IntKind.u64.bits ((a:Nat):Int) &&& BitVec.ofInt IntKind.u64.bits 4294967295).toNat=a % 4294967296:=by
  have e:(4294967295:Int)=((4294967295:Nat):Int):=rfl
  rw [e,BitVec.toNat_and,BitVec.ofInt_natCast,BitVec.ofInt_natCast,BitVec.toNat_ofNat,BitVec.toNat_ofNat]
  have hb:IntKind.u64.bits=64:=rfl
  rw [hb,Nat.mod_eq_of_lt (by omega),Nat.mod_eq_of_lt (by omega)]
  exact Nat.and_two_pow_sub_one_eq_mod a 32
 rw [h2,fR (by omega) (by omega)]
 omega
theorem Wt {x y:Int} (hx:0≤x∧x < 18446744073709551616) (hy:0≤y∧y < 18446744073709551616) :
  IntKind.u64.wrap ((IntKind.u64.wrap ((IntKind.u64.wrap ((dt .u64 x 32) * (dt .u64 y 32)))+(dt .u64 (IntKind.u64.wrap ((IntKind.u64.wrap ((dt .u64 x 32) * (c9 .u64 y 4294967295)))+(dt .u64 (IntKind.u64.wrap ((c9 .u64 x 4294967295) * (c9 .u64 y 4294967295))) 32))) 32)))+(dt .u64 (IntKind.u64.wrap ((c9 .u64 (IntKind.u64.wrap ((IntKind.u64.wrap ((dt .u64 x 32) * (c9 .u64 y 4294967295)))+(dt .u64 (IntKind.u64.wrap ((c9 .u64 x 4294967295) * (c9 .u64 y 4294967295))) 32))) 4294967295)+(IntKind.u64.wrap ((c9 .u64 x 4294967295) * (dt .u64 y 32))))) 32)) * 18446744073709551616+IntKind.u64.wrap (x * y)=x * y:=by
 have s32:∀ a:Int,dt .u64 a 32=a / 4294967296:=fun a=>CS .u64 (b:=32) (by decide)
 have ax:=GG hx.1 hx.2
 have ay:=GG hy.1 hy.2
 rw [GG (ma _).1 (ma _).2,ax,ay,s32,s32,s32,s32,s32]
 have bd:∀ a b:Int,0≤a∧a < 4294967296→0≤b∧b < 4294967296→0≤a * b∧a * b≤18446744065119617025:=fun a b ha hb =>
  ⟨Int.mul_nonneg ha.1 hb.1,by have:=Int.mul_le_mul (show a≤4294967295 by omega) (show b≤4294967295 by omega) hb.1 (by omega); omega⟩
 have Q1:0≤x / 4294967296∧x / 4294967296 < 4294967296:=by omega
 have Xb:0≤x % 4294967296∧x % 4294967296 < 4294967296:=by omega
 have O4:0≤y / 4294967296∧y / 4294967296 < 4294967296:=by omega
 have Pd:0≤y % 4294967296∧y % 4294967296 < 4294967296:=by omega
 have b11:=bd _ _ Q1 O4
 have b10:=bd _ _ Q1 Pd
 have VH:=bd _ _ Xb O4
 have b00:=bd _ _ Xb Pd
 have e:x * y=(x / 4294967296) * (y / 4294967296) * 18446744073709551616+((x / 4294967296) * (y % 4294967296)+(x % 4294967296) * (y / 4294967296)) * 4294967296+(x % 4294967296) * (y % 4294967296):=by
  have ex:x=x / 4294967296 * 4294967296+x % 4294967296:=by omega
  have ey:y=y / 4294967296 * 4294967296+y % 4294967296:=by omega
  generalize x / 4294967296=x1 at ex ⊢
  generalize x % 4294967296=x0 at ex ⊢
  generalize y / 4294967296=y1 at ey ⊢
  generalize y % 4294967296=y0 at ey ⊢
  subst ex; subst ey
  have a1:x1 * 4294967296 * (y1 * 4294967296)=x1 * y1 * 18446744073709551616:=by rw [Int.mul_assoc,Int.mul_left_comm 4294967296 y1,← Int.mul_assoc]; rfl
  have a2:x1 * 4294967296 * y0=x1 * y0 * 4294967296:=Int.mul_right_comm _ _ _
  have a3:x0 * (y1 * 4294967296)=x0 * y1 * 4294967296:=(Int.mul_assoc _ _ _).symm
  rw [Int.add_mul,Int.mul_add,Int.mul_add,a1,a2,a3,Int.add_mul]
  omega
 rw [e]
 generalize x / 4294967296 * (y / 4294967296)=Ew at *
 generalize x / 4294967296 * (y % 4294967296)=Sv at *
 generalize x % 4294967296 * (y / 4294967296)=p01 at *
 generalize x % 4294967296 * (y % 4294967296)=p00 at *
 simp only [Gx]
 omega
def j5 (x_:Int) (y:Int):Sk (Int × Int) :=
 .r 2 (.p (0≤(32:Int))) fun _ =>
 .r 4 (.p (0≤(32:Int))) fun _ =>
 .r 6 (.p (0≤(32:Int))) fun _ =>
 .r 8 (.p (0≤(32:Int))) fun _ =>
 .r 10 (.p (0≤(32:Int))) fun _ =>
 .fin (IntKind.u64.wrap ((IntKind.u64.wrap ((IntKind.u64.wrap ((dt .u64 x_ 32) * (dt .u64 y 32)))+(dt .u64 (IntKind.u64.wrap ((IntKind.u64.wrap ((dt .u64 x_ 32) * (c9 .u64 y 4294967295)))+(dt .u64 (IntKind.u64.wrap ((c9 .u64 x_ 4294967295) * (c9 .u64 y 4294967295))) 32))) 32)))+(dt .u64 (IntKind.u64.wrap ((c9 .u64 (IntKind.u64.wrap ((IntKind.u64.wrap ((dt .u64 x_ 32) * (c9 .u64 y 4294967295)))+(dt .u64 (IntKind.u64.wrap ((c9 .u64 x_ 4294967295) * (c9 .u64 y 4294967295))) 32))) 4294967295)+(IntKind.u64.wrap ((c9 .u64 x_ 4294967295) * (dt .u64 y 32))))) 32)),IntKind.u64.wrap (x_ * y))
def cr x_ y:=(j5 x_ y).val
theorem GH (x_:Int) (y:Int) (hP:(0≤x_∧x_ < 18446744073709551616)∧0≤y∧y < 18446744073709551616):(j5 x_ y).dz (fun (x:Int × Int)=>(0≤x.1∧x.1 < 18446744073709551616)∧(0≤x.2∧x.2 < 18446744073709551616)∧x.1 * 18446744073709551616+x.2=x_ * y):=by
 refine Sk.bq _ ?_
 unfold j5
 simp only [Sk.cV,Sk.aU,reduceCtorEq,ON,kk,kp,maxLen]
 intro _ _ _ _ _
 exact ⟨ma _,ma _,Wt hP.1 hP.2⟩
theorem wB (x_:Int) (y:Int):(fun (x:Int × Int)=>((0≤x_∧x_ < 18446744073709551616)∧0≤y∧y < 18446744073709551616)→((0≤x.1∧x.1 < 18446744073709551616)∧(0≤x.2∧x.2 < 18446744073709551616)∧x.1 * 18446744073709551616+x.2=x_ * y)) (cr x_ y):=fun hP=>have h:=Sk.dA _ (GH x_ y hP); h
theorem IE (x_:Int) (y:Int):(j5 x_ y).bE (fun _=>True):=by
 unfold j5
 exact oj
def lr x_ y:=kk tok mixed Tryz.func82 [.d (.v (.int .u64 x_)),.d (.v (.int .u64 y))] (fun x=>.ef [.d (.v (.int .u64 x.1)),.d (.v (.int .u64 x.2))]) true (j5 x_ y) (cr x_ y) (u0 (IE x_ y)) (fun (x:Int × Int)=>((0≤x_∧x_ < 18446744073709551616)∧0≤y∧y < 18446744073709551616)→((0≤x.1∧x.1 < 18446744073709551616)∧(0≤x.2∧x.2 < 18446744073709551616)∧x.1 * 18446744073709551616+x.2=x_ * y)) (wB x_ y)
def T8:List Nat:=[0,1,2,2,3,3,3,3,4,4,4,4,4,4,4,4]++List.replicate 16 5++List.replicate 32 6++List.replicate 64 7++List.replicate 128 8
theorem aa1:∀ k,k < 256→0 < k→1≤T8.getD k 0∧T8.getD k 0≤8∧2 ^ (T8.getD k 0 - 1)≤k∧k < 2 ^ (T8.getD k 0):=by decide +kernel
theorem YH {x d:Int} {n t:Nat} (hd:d=2 ^ n) (h1:(2:Int) ^ (t - 1)≤x / d) (h2:x / d < 2 ^ t) (ht:1≤t):(2:Int) ^ (n+t - 1)≤x∧x < 2 ^ (n+t):=by
 subst hd
 have hp:(0:Int) < 2 ^ n:=Int.pow_pos (by omega)
 have e:=Int.mul_ediv_add_emod x (2 ^ n)
 have r0:=Int.emod_nonneg x (Int.ne_of_gt hp)
 have r1:=Int.emod_lt_of_pos x hp
 rw [show n+t - 1=n+(t - 1) by omega,Int.pow_add,Int.pow_add]
 constructor
 ·have:=Int.mul_le_mul_of_nonneg_left h1 (Int.le_of_lt hp)
  omega
 ·have:(2:Int) ^ n * (x / 2 ^ n+1)≤2 ^ n * 2 ^ t:=Int.mul_le_mul_of_nonneg_left (by omega) (Int.le_of_lt hp)
  rw [Int.mul_add] at this
  omega
theorem Rh (a:Int):dt .u64 a 32=a / 4294967296:=CS .u64 (b:=32) (by decide)
theorem Xt (a:Int):dt .u64 a 16=a / 65536:=CS .u64 (b:=16) (by decide)
theorem aa2 (a:Int):dt .u64 a 8=a / 256:=CS .u64 (b:=8) (by decide)
theorem Uz {x:Int} (h:0 < x) (h2:x < 256):1≤T8.getD x.toNat 0∧T8.getD x.toNat 0≤8∧(2:Int) ^ (T8.getD x.toNat 0 - 1)≤x∧x < 2 ^ (T8.getD x.toNat 0):=by
 obtain ⟨h3,h4,h5,h6⟩:=aa1 x.toNat (by omega) (by omega)
 refine ⟨h3,h4,?_,?_⟩
 ·have:((2 ^ (T8.getD x.toNat 0 - 1):Nat):Int)≤(x.toNat:Int):=by exact_mod_cast h5
  rw [Int.natCast_pow] at this
  have e:((2:Nat):Int)=2:=rfl
  rw [e] at this
  omega
 ·have:((x.toNat:Nat):Int) < ((2 ^ (T8.getD x.toNat 0):Nat):Int):=by exact_mod_cast h6
  rw [Int.natCast_pow] at this
  have e:((2:Nat):Int)=2:=rfl
  rw [e] at this
  omega
theorem UA:∀ k,k < 256→((⟨#[0,1,2,2,3,3,3,3,4,4,4,4,4,4,4,4,5,5,5,5,5,5,5,5,5,5,5,5,5,5,5,5,6,6,6,6,6,6,6,6,6,6,6,6,6,6,6,6,6,6,6,6,6,6,6,6,6,6,6,6,6,6,6,6,7,7,7,7,7,7,7,7,7,7,7,7,7,7,7,7,7,7,7,7,7,7,7,7,7,7,7,7,7,7,7,7,7,7,7,7,7,7,7,7,7,7,7,7,7,7,7,7,7,7,7,7,7,7,7,7,7,7,7,7,7,7,7,7,8,8,8,8,8,8,8,8,8,8,8,8,8,8,8,8,8,8,8,8,8,8,8,8,8,8,8,8,8,8,8,8,8,8,8,8,8,8,8,8,8,8,8,8,8,8,8,8,8,8,8,8,8,8,8,8,8,8,8,8,8,8,8,8,8,8,8,8,8,8,8,8,8,8,8,8,8,8,8,8,8,8,8,8,8,8,8,8,8,8,8,8,8,8,8,8,8,8,8,8,8,8,8,8,8,8,8,8,8,8,8,8,8,8,8,8,8,8,8,8,8,8,8,8,8,8,8,8]⟩:ByteArray).data.toList.getD k 0).toNat=T8.getD k 0:=by decide +kernel
theorem sR {x d:Int} {n t:Nat} (hd:d=2 ^ n) (h1:(2:Int) ^ (t - 1)≤x / d) (h2:x / d < 2 ^ t) (ht:1≤t) (ht8:t≤8) (hn:n≤56) {r:Int} (hr:r=(n+t:Nat)):1≤r∧r≤64∧2 ^ (r.toNat - 1)≤x∧x < 2 ^ r.toNat:=by
 subst hr
 have:=YH hd h1 h2 ht
 rw [Int.toNat_natCast]
 exact ⟨by omega,by omega,this.1,this.2⟩
def j6 (x_:Int):Sk (Int) :=
 .bind false (fun b1=>(0 < x_→0 < b1.1)∧0≤b1.1∧b1.1 < 4294967296∧((b1.2=0∧b1.1=x_)∨(b1.2=32∧b1.1=x_ / 4294967296)))
 (.br (decide (x_≥4294967296))
 (.r 2 (.p (0≤(32:Int))) fun _ =>
 .fin (.inr (dt .u64 x_ 32,32)))
 (.fin (.inr (x_,0))))
 (fun (b1:Int × Int)=>⟨[(0,.d (.v (.int .u64 b1.1))),(2,iv b1.2)],[]⟩) fun b1 =>
 .bind false (fun b2=>(0 < x_→0 < b2.1)∧0≤b2.1∧b2.1 < 65536∧((b2.2=0∧b2.1=x_)∨(b2.2=16∧b2.1=x_ / 65536)∨(b2.2=32∧b2.1=x_ / 4294967296)∨(b2.2=48∧b2.1=x_ / 281474976710656)))
 (.br (decide (b1.1≥65536))
 (.r 5 (.p (0≤(16:Int))) fun _ =>
 .fin (.inr (dt .u64 b1.1 16,ar (b1.2+16))))
 (.fin (.inr (b1.1,b1.2))))
 (fun (b2:Int × Int)=>⟨[(0,.d (.v (.int .u64 b2.1))),(2,iv b2.2)],[]⟩) fun b2 =>
 .br (decide (b2.1≥256))
 (.r 8 (.p (0≤(8:Int))) fun _ =>
 .r 10 (.p (0≤(IntKind.u8.wrap (dt .u64 b2.1 8))∧(IntKind.u8.wrap (dt .u64 b2.1 8)) < (((⟨#[0,1,2,2,3,3,3,3,4,4,4,4,4,4,4,4,5,5,5,5,5,5,5,5,5,5,5,5,5,5,5,5,6,6,6,6,6,6,6,6,6,6,6,6,6,6,6,6,6,6,6,6,6,6,6,6,6,6,6,6,6,6,6,6,7,7,7,7,7,7,7,7,7,7,7,7,7,7,7,7,7,7,7,7,7,7,7,7,7,7,7,7,7,7,7,7,7,7,7,7,7,7,7,7,7,7,7,7,7,7,7,7,7,7,7,7,7,7,7,7,7,7,7,7,7,7,7,7,8,8,8,8,8,8,8,8,8,8,8,8,8,8,8,8,8,8,8,8,8,8,8,8,8,8,8,8,8,8,8,8,8,8,8,8,8,8,8,8,8,8,8,8,8,8,8,8,8,8,8,8,8,8,8,8,8,8,8,8,8,8,8,8,8,8,8,8,8,8,8,8,8,8,8,8,8,8,8,8,8,8,8,8,8,8,8,8,8,8,8,8,8,8,8,8,8,8,8,8,8,8,8,8,8,8,8,8,8,8,8,8,8,8,8,8,8,8,8,8,8,8,8,8,8,8,8,8]⟩:ByteArray).size:Nat):Int))) fun _ =>
 .fin (ar ((ar (b2.2+8))+(ar ((((⟨#[0,1,2,2,3,3,3,3,4,4,4,4,4,4,4,4,5,5,5,5,5,5,5,5,5,5,5,5,5,5,5,5,6,6,6,6,6,6,6,6,6,6,6,6,6,6,6,6,6,6,6,6,6,6,6,6,6,6,6,6,6,6,6,6,7,7,7,7,7,7,7,7,7,7,7,7,7,7,7,7,7,7,7,7,7,7,7,7,7,7,7,7,7,7,7,7,7,7,7,7,7,7,7,7,7,7,7,7,7,7,7,7,7,7,7,7,7,7,7,7,7,7,7,7,7,7,7,7,8,8,8,8,8,8,8,8,8,8,8,8,8,8,8,8,8,8,8,8,8,8,8,8,8,8,8,8,8,8,8,8,8,8,8,8,8,8,8,8,8,8,8,8,8,8,8,8,8,8,8,8,8,8,8,8,8,8,8,8,8,8,8,8,8,8,8,8,8,8,8,8,8,8,8,8,8,8,8,8,8,8,8,8,8,8,8,8,8,8,8,8,8,8,8,8,8,8,8,8,8,8,8,8,8,8,8,8,8,8,8,8,8,8,8,8,8,8,8,8,8,8,8,8,8,8,8,8]⟩:ByteArray).data.toList.getD ((IntKind.u8.wrap (dt .u64 b2.1 8)).toNat) 0).toNat:Int))))))
 (.r 10 (.p (0≤(IntKind.u8.wrap (b2.1))∧(IntKind.u8.wrap (b2.1)) < (((⟨#[0,1,2,2,3,3,3,3,4,4,4,4,4,4,4,4,5,5,5,5,5,5,5,5,5,5,5,5,5,5,5,5,6,6,6,6,6,6,6,6,6,6,6,6,6,6,6,6,6,6,6,6,6,6,6,6,6,6,6,6,6,6,6,6,7,7,7,7,7,7,7,7,7,7,7,7,7,7,7,7,7,7,7,7,7,7,7,7,7,7,7,7,7,7,7,7,7,7,7,7,7,7,7,7,7,7,7,7,7,7,7,7,7,7,7,7,7,7,7,7,7,7,7,7,7,7,7,7,8,8,8,8,8,8,8,8,8,8,8,8,8,8,8,8,8,8,8,8,8,8,8,8,8,8,8,8,8,8,8,8,8,8,8,8,8,8,8,8,8,8,8,8,8,8,8,8,8,8,8,8,8,8,8,8,8,8,8,8,8,8,8,8,8,8,8,8,8,8,8,8,8,8,8,8,8,8,8,8,8,8,8,8,8,8,8,8,8,8,8,8,8,8,8,8,8,8,8,8,8,8,8,8,8,8,8,8,8,8,8,8,8,8,8,8,8,8,8,8,8,8,8,8,8,8,8,8]⟩:ByteArray).size:Nat):Int))) fun _ =>
 .fin (ar (b2.2+(ar ((((⟨#[0,1,2,2,3,3,3,3,4,4,4,4,4,4,4,4,5,5,5,5,5,5,5,5,5,5,5,5,5,5,5,5,6,6,6,6,6,6,6,6,6,6,6,6,6,6,6,6,6,6,6,6,6,6,6,6,6,6,6,6,6,6,6,6,7,7,7,7,7,7,7,7,7,7,7,7,7,7,7,7,7,7,7,7,7,7,7,7,7,7,7,7,7,7,7,7,7,7,7,7,7,7,7,7,7,7,7,7,7,7,7,7,7,7,7,7,7,7,7,7,7,7,7,7,7,7,7,7,8,8,8,8,8,8,8,8,8,8,8,8,8,8,8,8,8,8,8,8,8,8,8,8,8,8,8,8,8,8,8,8,8,8,8,8,8,8,8,8,8,8,8,8,8,8,8,8,8,8,8,8,8,8,8,8,8,8,8,8,8,8,8,8,8,8,8,8,8,8,8,8,8,8,8,8,8,8,8,8,8,8,8,8,8,8,8,8,8,8,8,8,8,8,8,8,8,8,8,8,8,8,8,8,8,8,8,8,8,8,8,8,8,8,8,8,8,8,8,8,8,8,8,8,8,8,8,8]⟩:ByteArray).data.toList.getD ((IntKind.u8.wrap (b2.1)).toNat) 0).toNat:Int))))))
def GI x_:=(j6 x_).val
theorem GJ (x_:Int) (hP:0 < x_∧x_ < 18446744073709551616):(j6 x_).dz (fun (x:Int)=>1≤x∧x≤64∧2 ^ (x.toNat - 1)≤x_∧x_ < 2 ^ x.toNat):=by
 refine Sk.bq _ ?_
 unfold j6
 simp only [Sk.cV,Sk.aU,reduceCtorEq,ON,kk,kp,maxLen]
 simp only [Rh,Xt,aa2,az (n:=(32:Int)) (by decide) (by decide)] at *
 refine ⟨⟨fun hc _=>?_,fun hc=>?_⟩,fun b _ hb=>⟨⟨fun hc _=>?_,fun hc=>?_⟩,fun d _ hd=>⟨fun hc _ _=>?_,fun hc _=>?_⟩⟩⟩
 all_goals simp only [LN] at hc
 ·(try simp only [true_or,or_true,and_true,true_and]); omega
 ·(try simp only [true_or,or_true,and_true,true_and]); omega
 ·have e:ar (b.2+16)=b.2+16:=az (by omega) (by omega)
  rw [e]
  omega
 ·omega
 ·rw [J8,Int.emod_eq_of_lt (by omega) (by omega),UA _ (by omega)]
  have ht:=Uz (x:=d.1 / 256) (by omega) (by omega)
  rw [az (n:=d.2+8) (by omega) (by omega),az (n:=((T8.getD (d.1 / 256).toNat 0:Nat):Int)) (by omega) (by omega),az (by omega) (by omega)]
  rcases hd.2.2.2 with ⟨h1,h2⟩ | ⟨h1,h2⟩ | ⟨h1,h2⟩ | ⟨h1,h2⟩
  ·exact sR (n:=8) (d:=256) (t:=T8.getD (d.1 / 256).toNat 0) (by decide) (by rw [← h2]; exact ht.2.2.1) (by rw [← h2]; exact ht.2.2.2) ht.1 ht.2.1 (by omega) (by omega)
  ·exact sR (n:=24) (d:=16777216) (t:=T8.getD (d.1 / 256).toNat 0) (by decide) (by rw [show x_ / 16777216=d.1 / 256 by omega]; exact ht.2.2.1) (by rw [show x_ / 16777216=d.1 / 256 by omega]; exact ht.2.2.2) ht.1 ht.2.1 (by omega) (by omega)
  ·exact sR (n:=40) (d:=1099511627776) (t:=T8.getD (d.1 / 256).toNat 0) (by decide) (by rw [show x_ / 1099511627776=d.1 / 256 by omega]; exact ht.2.2.1) (by rw [show x_ / 1099511627776=d.1 / 256 by omega]; exact ht.2.2.2) ht.1 ht.2.1 (by omega) (by omega)
  ·exact sR (n:=56) (d:=72057594037927936) (t:=T8.getD (d.1 / 256).toNat 0) (by decide) (by rw [show x_ / 72057594037927936=d.1 / 256 by omega]; exact ht.2.2.1) (by rw [show x_ / 72057594037927936=d.1 / 256 by omega]; exact ht.2.2.2) ht.1 ht.2.1 (by omega) (by omega)
 ·rw [J8,Int.emod_eq_of_lt (by omega) (by omega),UA _ (by omega)]
  have ht:=Uz (x:=d.1) (by omega) (by omega)
  rw [az (n:=((T8.getD d.1.toNat 0:Nat):Int)) (by omega) (by omega),az (by omega) (by omega)]
  rcases hd.2.2.2 with ⟨h1,h2⟩ | ⟨h1,h2⟩ | ⟨h1,h2⟩ | ⟨h1,h2⟩
  ·exact sR (n:=0) (d:=1) (t:=T8.getD d.1.toNat 0) (by decide) (by rw [show x_ / 1=d.1 by omega]; exact ht.2.2.1) (by rw [show x_ / 1=d.1 by omega]; exact ht.2.2.2) ht.1 ht.2.1 (by omega) (by omega)
  ·exact sR (n:=16) (d:=65536) (t:=T8.getD d.1.toNat 0) (by decide) (by rw [← h2]; exact ht.2.2.1) (by rw [← h2]; exact ht.2.2.2) ht.1 ht.2.1 (by omega) (by omega)
  ·exact sR (n:=32) (d:=4294967296) (t:=T8.getD d.1.toNat 0) (by decide) (by rw [← h2]; exact ht.2.2.1) (by rw [← h2]; exact ht.2.2.2) ht.1 ht.2.1 (by omega) (by omega)
  ·exact sR (n:=48) (d:=281474976710656) (t:=T8.getD d.1.toNat 0) (by decide) (by rw [← h2]; exact ht.2.2.1) (by rw [← h2]; exact ht.2.2.2) ht.1 ht.2.1 (by omega) (by omega)
theorem Ex (x_:Int):(fun (x:Int)=>(0 < x_∧x_ < 18446744073709551616)→(1≤x∧x≤64∧2 ^ (x.toNat - 1)≤x_∧x_ < 2 ^ x.toNat)) (GI x_):=fun hP=>have h:=Sk.dA _ (GJ x_ hP); h
theorem IG (x_:Int) (hx:0≤x_∧x_ < 18446744073709551616):(j6 x_).bE (fun _=>True):=by
 refine Sk.bm _ ?_
 unfold j6
 simp only [Sk.j2,Sk.aU,reduceCtorEq,ON,kk,kp,maxLen]
 simp only [Rh,Xt,aa2,az (n:=(32:Int)) (by decide) (by decide)] at *
 refine ⟨⟨fun hc=>⟨by decide,fun _=>?_⟩,fun hc=>?_⟩,fun b _ hb=>⟨⟨fun hc=>⟨by decide,fun _=>?_⟩,fun hc=>?_⟩,fun d _ hd=>⟨fun hc=>⟨by decide,fun _=>⟨?_,?_⟩⟩,fun hc=>⟨?_,?_⟩⟩⟩⟩
 all_goals simp only [LN] at hc
 ·(try simp only [true_or,or_true,and_true,true_and]); omega
 ·(try simp only [true_or,or_true,and_true,true_and]); omega
 ·have e:ar (b.2+16)=b.2+16:=az (by omega) (by omega)
  rw [e]
  omega
 ·omega
 ·rw [J8]; omega
 ·rw [J8,Int.emod_eq_of_lt (by omega) (by omega)]; exact (show _ < ((256:Nat):Int) by omega)
 ·rw [J8]; omega
 ·rw [J8,Int.emod_eq_of_lt (by omega) (by omega)]; exact (show _ < ((256:Nat):Int) by omega)
def vr x_:=kk tok mixed Tryz.func153 [.d (.v (.int .u64 x_))] (fun x=>iv x) true (j6 x_) (GI x_) (IG x_) (fun (x:Int)=>(0 < x_∧x_ < 18446744073709551616)→(1≤x∧x≤64∧2 ^ (x.toNat - 1)≤x_∧x_ < 2 ^ x.toNat)) (Ex x_)
def dx (x_:Int):Sk (Int) :=
 .r 1 ((vr x_).c) fun x1 =>
 .fin (ar ((64:Int) - x1))
def qD x_:=(dx x_).val
theorem uC (x_:Int) (hP:0 < x_∧x_ < 18446744073709551616):(dx x_).dz (fun (x:Int)=>0≤x∧x≤63∧9223372036854775808≤x_ * 2 ^ x.toNat∧x_ * 2 ^ x.toNat < 18446744073709551616):=by
 refine Sk.bq _ ?_
 unfold dx
 simp only [Sk.cV,Sk.aU,reduceCtorEq,ON,kk,kp,vr,maxLen]
 intro x _ h
 obtain ⟨h1,h2,h3,h4⟩:=h hP
 rw [az (by omega) (by omega)]
 have e1:x.toNat - 1+(64 - x).toNat=63:=by omega
 have e2:x.toNat+(64 - x).toNat=64:=by omega
 have p:(0:Int) < 2 ^ (64 - x).toNat:=Int.pow_pos (by omega)
 have q1:=Int.mul_le_mul_of_nonneg_right h3 (Int.le_of_lt p)
 have q2:=Int.mul_lt_mul_of_pos_right h4 p
 rw [← Int.pow_add,e1] at q1
 rw [← Int.pow_add,e2] at q2
 refine ⟨by omega,by omega,?_,?_⟩
 ·exact q1
 ·exact q2
theorem tL (x_:Int):(fun (x:Int)=>(0 < x_∧x_ < 18446744073709551616)→(0≤x∧x≤63∧9223372036854775808≤x_ * 2 ^ x.toNat∧x_ * 2 ^ x.toNat < 18446744073709551616)) (qD x_):=fun hP=>have h:=Sk.dA _ (uC x_ hP); h
theorem vt (x_:Int) (hx:0≤x_∧x_ < 18446744073709551616):(dx x_).bE (fun _=>True):=by
 unfold dx
 try simp only [vr]
 exact oj
def kn x_:=kk tok mixed Tryz.func123 [.d (.v (.int .u64 x_))] (fun x=>iv x) true (dx x_) (qD x_) (vt x_) (fun (x:Int)=>(0 < x_∧x_ < 18446744073709551616)→(0≤x∧x≤63∧9223372036854775808≤x_ * 2 ^ x.toNat∧x_ * 2 ^ x.toNat < 18446744073709551616)) (tL x_)
def HY (y1 y0 u d:Int):Prop:=(2147483648≤y1∧y1 < 4294967296)∧(0≤y0∧y0 < 4294967296)∧(0≤u∧u < y1 * 4294967296+y0)∧0≤d∧d < 4294967296
def HI (y1 y0 u d q r:Int):Prop:=(0≤q∧q < 18446744073709551616)∧q * y1+r=u∧(0≤r∧r < 4294967296)∧u * 4294967296+d < 4294967296 * (q * y1)+4294967296 * y1+q * y0+y0
def HQ (y1 y0 u d q:Int):Prop:=(0≤q∧q < 4294967296)∧4294967296 * (q * y1)+q * y0≤u * 4294967296+d∧u * 4294967296+d < 4294967296 * (q * y1)+4294967296 * y1+q * y0+y0
theorem yD {y1 y0 u d:Int} (h:HY y1 y0 u d):HI y1 y0 u d (IntKind.u64.wrap (u.tdiv y1)) (IntKind.u64.wrap (u - IntKind.u64.wrap (IntKind.u64.wrap (u.tdiv y1) * y1))):=by
 obtain ⟨h1,h2,h3,h4⟩:=h
 have e:u.tdiv y1=u / y1:=Int.tdiv_eq_ediv_of_nonneg h3.1
 have q0:0≤u / y1:=Int.ediv_nonneg h3.1 (by omega)
 have q1:u / y1≤u:=Int.ediv_le_self _ h3.1
 have m1:=Int.mul_ediv_add_emod u y1
 have m2:=Int.emod_nonneg u (b:=y1) (by omega)
 have m3:=Int.emod_lt_of_pos u (b:=y1) (by omega)
 rw [e,fR q0 (by omega)]
 rw [Int.mul_comm y1] at m1
 rw [fR (n:=u / y1 * y1) (Int.mul_nonneg q0 (by omega)) (by omega),fR (by omega) (by omega)]
 have:=Int.mul_nonneg q0 h2.1
 refine ⟨⟨q0,by omega⟩,by omega,⟨by omega,by omega⟩,by omega⟩
theorem Kb {y1 y0 u d q r:Int} (h:HY y1 y0 u d) (hi:HI y1 y0 u d q r):(decide (q≥4294967296)||decide (IntKind.u64.wrap (q * y0) > IntKind.u64.wrap (IntKind.u64.wrap (4294967296 * r)+d)))=decide (q≥4294967296∨q * y0 > 4294967296 * r+d):=by
 obtain ⟨h1,h2,h3,h4⟩:=h
 obtain ⟨i1,i2,i3,i4⟩:=hi
 rw [fR (n:=4294967296 * r) (by omega) (by omega),fR (n:=4294967296 * r+d) (by omega) (by omega)]
 by_cases c:q≥4294967296
 ·simp [c]
 ·have a:q * y0≤4294967295 * y0:=Int.mul_le_mul_of_nonneg_right (by omega) h2.1
  rw [fR (n:=q * y0) (Int.mul_nonneg i1.1 h2.1) (by omega)]
  simp [c]
theorem yE {y1 y0 u d q r:Int} (h:HY y1 y0 u d) (hi:HI y1 y0 u d q r) (hc:(decide (q≥4294967296)||decide (IntKind.u64.wrap (q * y0) > IntKind.u64.wrap (IntKind.u64.wrap (4294967296 * r)+d)))=true) :
  (IntKind.u64.wrap (q - 1)).toNat < q.toNat∧(IntKind.u64.wrap (r+y1)≥4294967296→HQ y1 y0 u d (IntKind.u64.wrap (q - 1)))∧(IntKind.u64.wrap (r+y1) < 4294967296→HI y1 y0 u d (IntKind.u64.wrap (q - 1)) (IntKind.u64.wrap (r+y1))):=by
 rw [Kb h hi,decide_eq_true_eq] at hc
 obtain ⟨h1,h2,h3,h4⟩:=h
 obtain ⟨i1,i2,i3,i4⟩:=hi
 have hy:u * 4294967296+d < 4294967296 * (q * y1)+q * y0:=by
  rcases hc with c | c
  ·have a:4294967296 * y1≤q * y1:=Int.mul_le_mul_of_nonneg_right c (by omega)
   have b:4294967296 * y0≤q * y0:=Int.mul_le_mul_of_nonneg_right c h2.1
   omega
  ·omega
 have hq:1≤q:=by
  rcases Int.lt_or_le q 1 with c | c
  ·obtain rfl:q=0:=by omega
   simp only [Int.zero_mul] at hy i2
   omega
  ·exact c
 have e1:(q - 1) * y1=q * y1 - y1:=by rw [Int.sub_mul,Int.one_mul]
 have e0:(q - 1) * y0=q * y0 - y0:=by rw [Int.sub_mul,Int.one_mul]
 rw [fR (n:=q - 1) (by omega) (by omega),fR (n:=r+y1) (by omega) (by omega)]
 refine ⟨by omega,fun hr=>?_,fun hr=>?_⟩
 ·have hB:q - 1 < 4294967296:=by
   rcases Int.lt_or_le (q - 1) 4294967296 with c | c
   ·exact c
   ·have a:4294967296 * y1≤(q - 1) * y1:=Int.mul_le_mul_of_nonneg_right c (by omega)
    omega
  have a:(q - 1) * y0≤4294967295 * y0:=Int.mul_le_mul_of_nonneg_right (by omega) h2.1
  refine ⟨⟨by omega,hB⟩,?_,?_⟩
  ·rw [e1]; omega
  ·rw [e1,e0]; omega
 ·refine ⟨⟨by omega,by omega⟩,by rw [e1]; omega,⟨by omega,hr⟩,by rw [e1,e0]; omega⟩
theorem yF {y1 y0 u d q r:Int} (h:HY y1 y0 u d) (hi:HI y1 y0 u d q r) (hc:(decide (q≥4294967296)||decide (IntKind.u64.wrap (q * y0) > IntKind.u64.wrap (IntKind.u64.wrap (4294967296 * r)+d)))=false):HQ y1 y0 u d q:=by
 rw [Kb h hi,decide_eq_false_iff_not] at hc
 obtain ⟨i1,i2,i3,i4⟩:=hi
 exact ⟨by omega,by omega,i4⟩
theorem uD {y1 y0 u d q:Int} (h:HY y1 y0 u d) (hq:HQ y1 y0 u d q):IntKind.u64.wrap (IntKind.u64.wrap (IntKind.u64.wrap (u * 4294967296)+d) - IntKind.u64.wrap (q * (y1 * 4294967296+y0)))=u * 4294967296+d - q * (y1 * 4294967296+y0)∧0≤u * 4294967296+d - q * (y1 * 4294967296+y0)∧u * 4294967296+d - q * (y1 * 4294967296+y0) < y1 * 4294967296+y0:=by
 obtain ⟨h1,h2,h3,h4⟩:=h
 obtain ⟨i1,i2,i3⟩:=hq
 have e:q * (y1 * 4294967296+y0)=4294967296 * (q * y1)+q * y0:=by rw [Int.mul_add,← Int.mul_assoc,Int.mul_comm (q * y1)]
 refine ⟨?_,by omega,by omega⟩
 simp only [Gx]
 omega
theorem YI {k:Nat} {q b:Int} (hq:0≤q) (hb:0≤b) (Ik:b < 2 ^ k) (ha:q * 2 ^ k+b < 18446744073709551616):O3 .u64 (q * 2 ^ k) b=q * 2 ^ k+b:=by
 obtain ⟨q,rfl⟩:=Int.eq_ofNat_of_zero_le hq
 obtain ⟨b,rfl⟩:=Int.eq_ofNat_of_zero_le hb
 have e:((q:Int) * 2 ^ k)=((q * 2 ^ k:Nat):Int):=by simp
 have Sh:b < 2 ^ k:=by
  have e2:((2:Int) ^ k)=((2 ^ k:Nat):Int):=by simp
  rw [e2] at Ik
  exact_mod_cast Ik
 rw [e] at ha ⊢
 unfold O3
 have iR:q * 2 ^ k+b < 18446744073709551616:=by omega
 have h1:(BitVec.ofInt IntKind.u64.bits ((q * 2 ^ k:Nat):Int) ||| BitVec.ofInt IntKind.u64.bits ((b:Nat):Int)).toNat=q * 2 ^ k+b:=by
  rw [BitVec.toNat_or,BitVec.ofInt_natCast,BitVec.ofInt_natCast,BitVec.toNat_ofNat,BitVec.toNat_ofNat]
  have hb:IntKind.u64.bits=64:=rfl
  rw [hb,Nat.mod_eq_of_lt (by omega),Nat.mod_eq_of_lt (by omega),← Nat.shiftLeft_eq,← Nat.shiftLeft_add_eq_or_of_lt Sh,Nat.shiftLeft_eq]
 rw [h1,fR (by omega) (by omega)]
 omega
theorem Fq {a:Int} (h0:0≤a) (h1:a < 18446744073709551616):c9 .u64 a 4294967295=a % 4294967296:=by
 obtain ⟨a,rfl⟩:=Int.eq_ofNat_of_zero_le h0
 unfold c9
 have h2:(BitVec.ofInt IntKind.u64.bits ((a:Nat):Int) &&& BitVec.ofInt IntKind.u64.bits 4294967295).toNat=a % 4294967296:=by
  have e:(4294967295:Int)=((4294967295:Nat):Int):=rfl
  rw [e,BitVec.toNat_and,BitVec.ofInt_natCast,BitVec.ofInt_natCast,BitVec.toNat_ofNat,BitVec.toNat_ofNat]
  have hb:IntKind.u64.bits=64:=rfl
  rw [hb,Nat.mod_eq_of_lt (by omega),Nat.mod_eq_of_lt (by omega)]
  exact Nat.and_two_pow_sub_one_eq_mod a 32
 rw [h2,fR (by omega) (by omega)]
 omega
theorem Kc {hi lo y s:Int} (hy:0≤hi∧hi < y∧y < 18446744073709551616∧0≤lo∧lo < 18446744073709551616) (hs:0≤s∧s≤63∧9223372036854775808≤y * 2 ^ s.toNat∧y * 2 ^ s.toNat < 18446744073709551616) :
  ∃ U L:Int,O3 .u64 (eK .u64 hi (IntKind.u64.wrap s)) (dt .u64 lo (IntKind.u64.wrap ((64:Int) - IntKind.u64.wrap s)))=U∧eK .u64 lo (IntKind.u64.wrap s)=L∧eK .u64 y (IntKind.u64.wrap s)=y * 2 ^ s.toNat ∧
   (0≤L∧L < 18446744073709551616)∧(0≤U∧U < y * 2 ^ s.toNat)∧(hi * 18446744073709551616+lo) * 2 ^ s.toNat=U * 18446744073709551616+L:=by
 obtain ⟨h1,h2,h3,h4,h5⟩:=hy
 obtain ⟨s1,s2,s3,s4⟩:=hs
 have ew:IntKind.u64.wrap s=s:=fR s1 (by omega)
 have ew2:IntKind.u64.wrap (64 - s)=64 - s:=fR (by omega) (by omega)
 rw [ew,ew2,PO (by omega),PO (by omega),PO (by omega),CS .u64 (b:=64 - s) (by show 0≤64 - s∧64 - s≤64; omega)]
 generalize hp:(2:Int) ^ s.toNat=p at *
 have hP:(18446744073709551616:Int)=2 ^ (64 - s).toNat * p:=by rw [← hp,← Int.pow_add,show (64 - s).toNat+s.toNat=64 by omega]; rfl
 generalize hq:(2:Int) ^ (64 - s).toNat=P at *
 have p0:0 < p:=by rw [← hp]; exact Int.pow_pos (by omega)
 have P0:0 < P:=by rw [← hq]; exact Int.pow_pos (by omega)
 have hip:hi * p≤(y - 1) * p:=Int.mul_le_mul_of_nonneg_right (by omega) (by omega)
 have acR:0≤hi * p:=Int.mul_nonneg h1 (by omega)
 have e1:(y - 1) * p=y * p - p:=by rw [Int.sub_mul,Int.one_mul]
 have b0:0≤lo / P:=Int.ediv_nonneg h4 (by omega)
 have b1:lo / P < p:=by
  rw [Int.ediv_lt_iff_lt_mul P0,Int.mul_comm]
  omega
 have eh:hi * p % 18446744073709551616=hi * p:=Int.emod_eq_of_lt acR (by omega)
 have ey:y * p % 18446744073709551616=y * p:=Int.emod_eq_of_lt (by omega) s4
 have el:lo * p / 18446744073709551616=lo / P:=by rw [hP]; exact Int.mul_ediv_mul_of_pos_left _ _ p0
 have hor:O3 .u64 (hi * p) (lo / P)=hi * p+lo / P:=by
  rw [← hp]
  exact YI h1 b0 (by rw [hp]; exact b1) (by rw [hp]; omega)
 refine ⟨hi * p+lo / P,lo * p % 18446744073709551616,by rw [eh]; exact hor,rfl,ey,⟨by omega,by omega⟩,⟨by omega,by omega⟩,?_⟩
 have m:=Int.mul_ediv_add_emod (lo * p) 18446744073709551616
 rw [el] at m
 have e2:(hi * 18446744073709551616+lo) * p=hi * p * 18446744073709551616+lo * p:=by rw [Int.add_mul,Int.mul_right_comm]
 rw [e2]
 omega
theorem Sw {N y p U L q1 q0:Int} (hy:0 < y) (hp:0 < p) (hY:9223372036854775808≤y * p∧y * p < 18446744073709551616) (hL:0≤L∧L < 18446744073709551616) (hU:0≤U∧U < y * p) (hN:N * p=U * 18446744073709551616+L)
  (h1:HQ (y * p / 4294967296) (y * p % 4294967296) U (L / 4294967296) q1)
  (h0:HQ (y * p / 4294967296) (y * p % 4294967296) (U * 4294967296+L / 4294967296 - q1 * (y * p)) (L % 4294967296) q0) :
  IntKind.u64.wrap (IntKind.u64.wrap (q1 * 4294967296)+q0)=N / y ∧
   ((U * 4294967296+L / 4294967296 - q1 * (y * p)) * 4294967296+L % 4294967296 - q0 * (y * p)) / p=N % y:=by
 have eY:y * p / 4294967296 * 4294967296+y * p % 4294967296=y * p:=by omega
 have O4:HY (y * p / 4294967296) (y * p % 4294967296) U (L / 4294967296):=⟨⟨by omega,by omega⟩,⟨by omega,by omega⟩,⟨by omega,by omega⟩,by omega,by omega⟩
 have r1:=uD O4 h1
 rw [eY] at r1
 have Pd:HY (y * p / 4294967296) (y * p % 4294967296) (U * 4294967296+L / 4294967296 - q1 * (y * p)) (L % 4294967296):=⟨⟨by omega,by omega⟩,⟨by omega,by omega⟩,⟨by omega,by omega⟩,by omega,by omega⟩
 have r0:=uD Pd h0
 rw [eY] at r0
 have i1:=h1.1
 have i0:=h0.1
 rw [fR (n:=q1 * 4294967296) (by omega) (by omega),fR (by omega) (by omega)]
 generalize hR:(U * 4294967296+L / 4294967296 - q1 * (y * p)) * 4294967296+L % 4294967296 - q0 * (y * p)=R at *
 have e:(q1 * 4294967296+q0) * (y * p)=q1 * (y * p) * 4294967296+q0 * (y * p):=by rw [Int.add_mul,Int.mul_right_comm]
 have hq:N * p=(q1 * 4294967296+q0) * (y * p)+R:=by rw [e]; omega
 have hR2:R=(N - (q1 * 4294967296+q0) * y) * p:=by rw [Int.sub_mul,Int.mul_assoc]; omega
 have R7:0≤N - (q1 * 4294967296+q0) * y:=by
  rcases Int.lt_or_le (N - (q1 * 4294967296+q0) * y) 0 with c | c
  ·have:=Int.mul_neg_of_neg_of_pos c hp
   omega
  ·exact c
 have iR:N - (q1 * 4294967296+q0) * y < y:=by
  rcases Int.lt_or_le (N - (q1 * 4294967296+q0) * y) y with c | c
  ·exact c
  ·have:=Int.mul_le_mul_of_nonneg_right c (Int.le_of_lt hp)
   omega
 have hd:N / y=q1 * 4294967296+q0:=by
  rw [Int.ediv_eq_iff_of_pos hy]
  constructor
  ·omega
  ·omega
 refine ⟨hd.symm,?_⟩
 rw [hR2,Int.mul_ediv_cancel _ (by omega),Int.emod_def,hd,Int.mul_comm y]
def j7 (hi:Int) (lo:Int) (y:Int):Sk (Int × Int) :=
 .bind false (fun _=>True)
 (.br (y == 0)
 (.dead default)
 (.fin (.inr ())))
 (fun (_:Unit)=>⟨[],[]⟩) fun _ =>
 .bind false (fun _=>True)
 (.br (decide (y≤hi))
 (.dead default)
 (.fin (.inr ())))
 (fun (_:Unit)=>⟨[],[]⟩) fun _ =>
 .br (hi == 0)
 (.r 6 (.au (.p (y≠0)) (.p (y≠0))) fun _ =>
 .fin (IntKind.u64.wrap (lo.tdiv y),lo.tmod y))
 (.r 7 ((kn y).c) fun x3 =>
 .r 8 (.p (0≤(IntKind.u64.wrap (x3)))) fun _ =>
 .r 9 (.p (0≤(32:Int))) fun _ =>
 .r 11 (.au (.p (0≤(IntKind.u64.wrap (x3)))) (.p (0≤(IntKind.u64.wrap ((64:Int) - (IntKind.u64.wrap (x3))))))) fun _ =>
 .r 12 (.p (0≤(IntKind.u64.wrap (x3)))) fun _ =>
 .r 13 (.p (0≤(32:Int))) fun _ =>
 .r 15 (.p ((dt .u64 (eK .u64 y (IntKind.u64.wrap (x3))) 32)≠0)) fun _ =>
 .bind true (fun b4=>HQ (dt .u64 (eK .u64 y (IntKind.u64.wrap (x3))) 32) (c9 .u64 (eK .u64 y (IntKind.u64.wrap (x3))) 4294967295) (O3 .u64 (eK .u64 hi (IntKind.u64.wrap (x3))) (dt .u64 lo (IntKind.u64.wrap ((64:Int) - (IntKind.u64.wrap (x3)))))) (dt .u64 (eK .u64 lo (IntKind.u64.wrap (x3))) 32) b4.1)
 (.loop (default:Sum (Int × Int) (Int × Int)) (fun i5=>HI (dt .u64 (eK .u64 y (IntKind.u64.wrap (x3))) 32) (c9 .u64 (eK .u64 y (IntKind.u64.wrap (x3))) 4294967295) (O3 .u64 (eK .u64 hi (IntKind.u64.wrap (x3))) (dt .u64 lo (IntKind.u64.wrap ((64:Int) - (IntKind.u64.wrap (x3)))))) (dt .u64 (eK .u64 lo (IntKind.u64.wrap (x3))) 32) i5.1 i5.2) (fun i5=>i5.1.toNat) ((IntKind.u64.wrap ((O3 .u64 (eK .u64 hi (IntKind.u64.wrap (x3))) (dt .u64 lo (IntKind.u64.wrap ((64:Int) - (IntKind.u64.wrap (x3)))))).tdiv (dt .u64 (eK .u64 y (IntKind.u64.wrap (x3))) 32)),IntKind.u64.wrap ((O3 .u64 (eK .u64 hi (IntKind.u64.wrap (x3))) (dt .u64 lo (IntKind.u64.wrap ((64:Int) - (IntKind.u64.wrap (x3)))))) - (IntKind.u64.wrap ((IntKind.u64.wrap ((O3 .u64 (eK .u64 hi (IntKind.u64.wrap (x3))) (dt .u64 lo (IntKind.u64.wrap ((64:Int) - (IntKind.u64.wrap (x3)))))).tdiv (dt .u64 (eK .u64 y (IntKind.u64.wrap (x3))) 32))) * (dt .u64 (eK .u64 y (IntKind.u64.wrap (x3))) 32))))):Int × Int)
 (fun (i5:Int × Int)=>⟨[(15,.d (.v (.int .u64 i5.1))),(16,.d (.v (.int .u64 i5.2)))],[]⟩) fun i5 =>
 .br ((decide (i5.1≥4294967296))||(decide ((IntKind.u64.wrap (i5.1 * (c9 .u64 (eK .u64 y (IntKind.u64.wrap (x3))) 4294967295))) > (IntKind.u64.wrap ((IntKind.u64.wrap ((4294967296:Int) * i5.2))+(dt .u64 (eK .u64 lo (IntKind.u64.wrap (x3))) 32))))))
 (.br (decide ((IntKind.u64.wrap (i5.2+(dt .u64 (eK .u64 y (IntKind.u64.wrap (x3))) 32)))≥4294967296))
 (.fin (.inl (.inr (IntKind.u64.wrap (i5.1 - 1),IntKind.u64.wrap (i5.2+(dt .u64 (eK .u64 y (IntKind.u64.wrap (x3))) 32))))))
 (.fin (.inr (IntKind.u64.wrap (i5.1 - 1),IntKind.u64.wrap (i5.2+(dt .u64 (eK .u64 y (IntKind.u64.wrap (x3))) 32))))))
 (.fin (.inl (.inr (i5.1,i5.2)))))
 (fun (b4:Int × Int)=>⟨[(15,.d (.v (.int .u64 b4.1))),(16,.d (.v (.int .u64 b4.2)))],[]⟩) fun b4 =>
 .r 22 (.p ((dt .u64 (eK .u64 y (IntKind.u64.wrap (x3))) 32)≠0)) fun _ =>
 .bind true (fun b6=>HQ (dt .u64 (eK .u64 y (IntKind.u64.wrap (x3))) 32) (c9 .u64 (eK .u64 y (IntKind.u64.wrap (x3))) 4294967295) (IntKind.u64.wrap ((IntKind.u64.wrap ((IntKind.u64.wrap ((O3 .u64 (eK .u64 hi (IntKind.u64.wrap (x3))) (dt .u64 lo (IntKind.u64.wrap ((64:Int) - (IntKind.u64.wrap (x3)))))) * 4294967296))+(dt .u64 (eK .u64 lo (IntKind.u64.wrap (x3))) 32))) - (IntKind.u64.wrap (b4.1 * (eK .u64 y (IntKind.u64.wrap (x3))))))) (c9 .u64 (eK .u64 lo (IntKind.u64.wrap (x3))) 4294967295) b6)
 (.loop (default:Sum (Int × Int) (Int)) (fun i7=>HI (dt .u64 (eK .u64 y (IntKind.u64.wrap (x3))) 32) (c9 .u64 (eK .u64 y (IntKind.u64.wrap (x3))) 4294967295) (IntKind.u64.wrap ((IntKind.u64.wrap ((IntKind.u64.wrap ((O3 .u64 (eK .u64 hi (IntKind.u64.wrap (x3))) (dt .u64 lo (IntKind.u64.wrap ((64:Int) - (IntKind.u64.wrap (x3)))))) * 4294967296))+(dt .u64 (eK .u64 lo (IntKind.u64.wrap (x3))) 32))) - (IntKind.u64.wrap (b4.1 * (eK .u64 y (IntKind.u64.wrap (x3))))))) (c9 .u64 (eK .u64 lo (IntKind.u64.wrap (x3))) 4294967295) i7.2 i7.1) (fun i7=>i7.2.toNat) ((IntKind.u64.wrap ((IntKind.u64.wrap ((IntKind.u64.wrap ((IntKind.u64.wrap ((O3 .u64 (eK .u64 hi (IntKind.u64.wrap (x3))) (dt .u64 lo (IntKind.u64.wrap ((64:Int) - (IntKind.u64.wrap (x3)))))) * 4294967296))+(dt .u64 (eK .u64 lo (IntKind.u64.wrap (x3))) 32))) - (IntKind.u64.wrap (b4.1 * (eK .u64 y (IntKind.u64.wrap (x3))))))) - (IntKind.u64.wrap ((IntKind.u64.wrap ((IntKind.u64.wrap ((IntKind.u64.wrap ((IntKind.u64.wrap ((O3 .u64 (eK .u64 hi (IntKind.u64.wrap (x3))) (dt .u64 lo (IntKind.u64.wrap ((64:Int) - (IntKind.u64.wrap (x3)))))) * 4294967296))+(dt .u64 (eK .u64 lo (IntKind.u64.wrap (x3))) 32))) - (IntKind.u64.wrap (b4.1 * (eK .u64 y (IntKind.u64.wrap (x3))))))).tdiv (dt .u64 (eK .u64 y (IntKind.u64.wrap (x3))) 32))) * (dt .u64 (eK .u64 y (IntKind.u64.wrap (x3))) 32)))),IntKind.u64.wrap ((IntKind.u64.wrap ((IntKind.u64.wrap ((IntKind.u64.wrap ((O3 .u64 (eK .u64 hi (IntKind.u64.wrap (x3))) (dt .u64 lo (IntKind.u64.wrap ((64:Int) - (IntKind.u64.wrap (x3)))))) * 4294967296))+(dt .u64 (eK .u64 lo (IntKind.u64.wrap (x3))) 32))) - (IntKind.u64.wrap (b4.1 * (eK .u64 y (IntKind.u64.wrap (x3))))))).tdiv (dt .u64 (eK .u64 y (IntKind.u64.wrap (x3))) 32))):Int × Int)
 (fun (i7:Int × Int)=>⟨[(16,.d (.v (.int .u64 i7.1))),(18,.d (.v (.int .u64 i7.2)))],[]⟩) fun i7 =>
 .br ((decide (i7.2≥4294967296))||(decide ((IntKind.u64.wrap (i7.2 * (c9 .u64 (eK .u64 y (IntKind.u64.wrap (x3))) 4294967295))) > (IntKind.u64.wrap ((IntKind.u64.wrap ((4294967296:Int) * i7.1))+(c9 .u64 (eK .u64 lo (IntKind.u64.wrap (x3))) 4294967295))))))
 (.br (decide ((IntKind.u64.wrap (i7.1+(dt .u64 (eK .u64 y (IntKind.u64.wrap (x3))) 32)))≥4294967296))
 (.fin (.inl (.inr (IntKind.u64.wrap (i7.2 - 1)))))
 (.fin (.inr (IntKind.u64.wrap (i7.1+(dt .u64 (eK .u64 y (IntKind.u64.wrap (x3))) 32)),IntKind.u64.wrap (i7.2 - 1)))))
 (.fin (.inl (.inr i7.2))))
 (fun (b6:Int)=>⟨[(18,.d (.v (.int .u64 b6)))],[]⟩) fun b6 =>
 .r 28 (.p (0≤(IntKind.u64.wrap (x3)))) fun _ =>
 .fin (IntKind.u64.wrap ((IntKind.u64.wrap (b4.1 * 4294967296))+b6),dt .u64 (IntKind.u64.wrap ((IntKind.u64.wrap ((IntKind.u64.wrap ((IntKind.u64.wrap ((IntKind.u64.wrap ((IntKind.u64.wrap ((O3 .u64 (eK .u64 hi (IntKind.u64.wrap (x3))) (dt .u64 lo (IntKind.u64.wrap ((64:Int) - (IntKind.u64.wrap (x3)))))) * 4294967296))+(dt .u64 (eK .u64 lo (IntKind.u64.wrap (x3))) 32))) - (IntKind.u64.wrap (b4.1 * (eK .u64 y (IntKind.u64.wrap (x3))))))) * 4294967296))+(c9 .u64 (eK .u64 lo (IntKind.u64.wrap (x3))) 4294967295))) - (IntKind.u64.wrap (b6 * (eK .u64 y (IntKind.u64.wrap (x3))))))) (IntKind.u64.wrap (x3))))
def oo hi lo y:=(j7 hi lo y).val
theorem GK (hi:Int) (lo:Int) (y:Int) (hP:0≤hi∧hi < y∧y < 18446744073709551616∧0≤lo∧lo < 18446744073709551616):(j7 hi lo y).dz (fun (x:Int × Int)=>x.1=(hi * 18446744073709551616+lo) / y∧x.2=(hi * 18446744073709551616+lo) % y):=by
 refine Sk.bq _ ?_
 unfold j7
 simp only [Sk.cV,Sk.aU,reduceCtorEq,ON,kk,kp,kn,maxLen]
 refine ⟨fun h=>by simp only [LN] at h; omega,fun _ _=>⟨fun h=>by simp only [LN] at h; omega,fun _ _=>⟨fun h0 _=>?_,fun _ x _ hx=>?_⟩⟩⟩
 ·simp only [LN] at h0
  subst h0
  have e:=Int.tdiv_eq_ediv_of_nonneg (a:=lo) (b:=y) hP.2.2.2.1
  have e2:=Int.tmod_eq_emod_of_nonneg (a:=lo) (b:=y) hP.2.2.2.1
  have q0:0≤lo / y:=Int.ediv_nonneg hP.2.2.2.1 (by omega)
  have q1:lo / y≤lo:=Int.ediv_le_self _ hP.2.2.2.1
  rw [e,e2,fR q0 (by omega)]
  simp
 ·have hx:=hx ⟨by omega,by omega⟩
  obtain ⟨U,L,eU,eL,eY,hL,hU,hN⟩:=Kc hP hx
  simp only [eU,eL,eY,Rh]
  have hp:(0:Int) < 2 ^ x.toNat:=Int.pow_pos (by omega)
  have es:∀ a:Int,dt .u64 a (IntKind.u64.wrap x)=a / 2 ^ x.toNat:=fun a=>by
   rw [fR hx.1 (by omega)]
   exact CS .u64 (b:=x) (by show 0≤x∧x≤64; omega)
  simp only [es]
  have hw:=fun q1 q0=>Sw (y:=y) (q1:=q1) (q0:=q0) (by omega) hp hx.2.2 hL hU hN
  generalize hYY:y * 2 ^ x.toNat=Y at *
  rw [Fq (by omega) hx.2.2.2,Fq hL.1 hL.2]
  have eY2:Y / 4294967296 * 4294967296+Y % 4294967296=Y:=by omega
  have O4:HY (Y / 4294967296) (Y % 4294967296) U (L / 4294967296):=⟨⟨by omega,by omega⟩,⟨by omega,by omega⟩,⟨by omega,by omega⟩,by omega,by omega⟩
  intro _ _ _ _ _ _
  refine ⟨⟨yD O4,fun i hi=>⟨fun hc=>?_,fun hc=>yF O4 hi hc⟩⟩,fun b hb=>?_⟩
  ·have h:=yE O4 hi hc
   exact ⟨fun h2=>h.2.1 (of_decide_eq_true h2),fun h2=>⟨h.2.2 (Int.not_le.1 (of_decide_eq_false h2)),h.1⟩⟩
  ·have r1:=uD O4 hb
   rw [eY2] at r1
   rw [r1.1]
   have Pd:HY (Y / 4294967296) (Y % 4294967296) (U * 4294967296+L / 4294967296 - b.1 * Y) (L % 4294967296):=⟨⟨by omega,by omega⟩,⟨by omega,by omega⟩,⟨by omega,by omega⟩,by omega,by omega⟩
   intro _
   refine ⟨⟨yD Pd,fun i hi=>⟨fun hc=>?_,fun hc=>yF Pd hi hc⟩⟩,fun q hq=>?_⟩
   ·have h:=yE Pd hi hc
    exact ⟨fun h2=>h.2.1 (of_decide_eq_true h2),fun h2=>⟨h.2.2 (Int.not_le.1 (of_decide_eq_false h2)),h.1⟩⟩
   ·intro _
    have r0:=uD Pd hq
    rw [eY2] at r0
    rw [r0.1]
    exact hw _ _ hb hq
theorem wC (hi:Int) (lo:Int) (y:Int):(fun (x:Int × Int)=>(0≤hi∧hi < y∧y < 18446744073709551616∧0≤lo∧lo < 18446744073709551616)→(x.1=(hi * 18446744073709551616+lo) / y∧x.2=(hi * 18446744073709551616+lo) % y)) (oo hi lo y):=fun hP=>have h:=Sk.dA _ (GK hi lo y hP); h
theorem IH (hi:Int) (lo:Int) (y:Int) (hy:0≤hi∧hi < y∧y < 18446744073709551616∧0≤lo∧lo < 18446744073709551616):(j7 hi lo y).bE (fun _=>True):=by
 refine Sk.bm _ ?_
 unfold j7
 simp only [Sk.j2,Sk.aU,reduceCtorEq,ON,kk,kp,kn,maxLen]
 refine ⟨fun h=>by simp only [LN] at h; omega,fun _ _=>⟨fun h=>by simp only [LN] at h; omega,fun _ _=>⟨fun _=>by omega,fun _=>⟨by omega,fun x _ hx=>?_⟩⟩⟩⟩
 have hx:=hx ⟨by omega,by omega⟩
 obtain ⟨U,L,eU,eL,eY,hL,hU,hN⟩:=Kc hy hx
 simp only [eU,eL,eY,Rh]
 have hp:(0:Int) < 2 ^ x.toNat:=Int.pow_pos (by omega)
 generalize hYY:y * 2 ^ x.toNat=Y at *
 rw [Fq (by omega) hx.2.2.2,Fq hL.1 hL.2]
 have eY2:Y / 4294967296 * 4294967296+Y % 4294967296=Y:=by omega
 have hn:Y / 4294967296≠0:=by omega
 have O4:HY (Y / 4294967296) (Y % 4294967296) U (L / 4294967296):=⟨⟨by omega,by omega⟩,⟨by omega,by omega⟩,⟨by omega,by omega⟩,by omega,by omega⟩
 refine ⟨(ma _).1,fun _=>⟨by decide,fun _=>⟨⟨(ma _).1,(ma _).1⟩,fun _=>⟨(ma _).1,fun _=>⟨by decide,fun _=>⟨hn,fun _=>⟨⟨yD O4,fun i hi=>⟨fun hc=>?_,fun hc=>yF O4 hi hc⟩⟩,fun b hb=>⟨hn,fun _=>?_⟩⟩⟩⟩⟩⟩⟩⟩
 ·have h:=yE O4 hi hc
  exact ⟨fun h2=>h.2.1 (of_decide_eq_true h2),fun h2=>⟨h.2.2 (Int.not_le.1 (of_decide_eq_false h2)),h.1⟩⟩
 ·have r1:=uD O4 hb
  rw [eY2] at r1
  rw [r1.1]
  have Pd:HY (Y / 4294967296) (Y % 4294967296) (U * 4294967296+L / 4294967296 - b.1 * Y) (L % 4294967296):=⟨⟨by omega,by omega⟩,⟨by omega,by omega⟩,⟨by omega,by omega⟩,by omega,by omega⟩
  refine ⟨⟨yD Pd,fun i hi=>⟨fun hc=>?_,fun hc=>yF Pd hi hc⟩⟩,fun q hq=>(ma _).1⟩
  have h:=yE Pd hi hc
  exact ⟨fun h2=>h.2.1 (of_decide_eq_true h2),fun h2=>⟨h.2.2 (Int.not_le.1 (of_decide_eq_false h2)),h.1⟩⟩
def vu hi lo y:=kk tok mixed Tryz.func83 [.d (.v (.int .u64 hi)),.d (.v (.int .u64 lo)),.d (.v (.int .u64 y))] (fun x=>.ef [.d (.v (.int .u64 x.1)),.d (.v (.int .u64 x.2))]) true (j7 hi lo y) (oo hi lo y) (IH hi lo y) (fun (x:Int × Int)=>(0≤hi∧hi < y∧y < 18446744073709551616∧0≤lo∧lo < 18446744073709551616)→(x.1=(hi * 18446744073709551616+lo) / y∧x.2=(hi * 18446744073709551616+lo) % y)) (wC hi lo y)
def j8 (a:Int) (b:Int) (c_:Int):Sk (Int × Int × Bool) :=
 .r 1 ((lr (IntKind.u64.wrap (a)) (IntKind.u64.wrap (b))).c) fun x1 =>
 .br (decide (x1.1≥(IntKind.u64.wrap (c_))))
 (.fin (0,0,false))
 (.r 4 ((vu x1.1 x1.2 (IntKind.u64.wrap (c_))).c) fun x2 =>
 .br (decide (x2.1 > 1099511627776))
 (.fin (0,0,false))
 (.fin (ar (x2.1),ar (x2.2),true)))
def rN a b c_:=(j8 a b c_).val
theorem GL (a:Int) (b:Int) (c_:Int) (hP:(0≤a∧a≤9223372036854775807)∧(0≤b∧b≤9223372036854775807)∧0 < c_∧c_≤9223372036854775807):(j8 a b c_).dz (fun (x:Int × Int × Bool)=>x.2.2=true→(0≤x.1∧x.1≤1099511627776)∧x.1=a * b / c_∧x.2.1=a * b % c_):=by
  refine Sk.bq _ ?_
  unfold j8
  simp only [Sk.cV,Sk.aU,reduceCtorEq,ON,kk,kp,vu,lr,maxLen]
  obtain ⟨ha,hb,R6,uj⟩:=hP
  rw [fR (n:=a) ha.1 (by omega),fR (n:=b) hb.1 (by omega),fR (n:=c_) (by omega) (by omega)]
  intro x _ hx
  obtain ⟨x1,x2,x3⟩:=hx ⟨⟨ha.1,by omega⟩,hb.1,by omega⟩
  intro hc y _ hy hc3
  simp only [LN] at hc hc3
  have hy:=hy ⟨x1.1,by omega,by omega,x2.1,x2.2⟩
  rw [x3] at hy
  have q0:0≤a * b / c_:=Int.ediv_nonneg (Int.mul_nonneg ha.1 hb.1) (by omega)
  have m0:=Int.emod_nonneg (a * b) (b:=c_) (by omega)
  have m1:=Int.emod_lt_of_pos (a * b) (b:=c_) R6
  rw [az (n:=y.1) (by omega) (by omega),az (n:=y.2) (by omega) (by omega)]
  omega

theorem Ey (a:Int) (b:Int) (c_:Int):(fun (x:Int × Int × Bool)=>((0≤a∧a≤9223372036854775807)∧(0≤b∧b≤9223372036854775807)∧0 < c_∧c_≤9223372036854775807)→(x.2.2=true→(0≤x.1∧x.1≤1099511627776)∧x.1=a * b / c_∧x.2.1=a * b % c_)) (rN a b c_):=fun hP=>have h:=Sk.dA _ (GL a b c_ hP); h
theorem II (a:Int) (b:Int) (c_:Int):(j8 a b c_).bE (fun _=>True):=by
  refine Sk.bm _ ?_
  unfold j8
  simp only [Sk.j2,Sk.aU,reduceCtorEq,ON,kk,kp,vu,lr,maxLen]
  intro x _ h hc
  simp only [LN] at hc
  obtain ⟨x1,x2,-⟩:=h ⟨ma _,ma _⟩
  exact ⟨x1.1,by omega,(ma _).2,x2.1,x2.2⟩

def vw a b c_:=kk tok mixed Tryz.func55 [iv a,iv b,iv c_] (fun x=>.ef [iv x.1,iv x.2.1,bv x.2.2]) true (j8 a b c_) (rN a b c_) (u0 (II a b c_)) (fun (x:Int × Int × Bool)=>((0≤a∧a≤9223372036854775807)∧(0≤b∧b≤9223372036854775807)∧0 < c_∧c_≤9223372036854775807)→(x.2.2=true→(0≤x.1∧x.1≤1099511627776)∧x.1=a * b / c_∧x.2.1=a * b % c_)) (Ey a b c_)
def gA (ak:List bV) (sum:Int) (from_:Int) (bZ:Int) (day:Int):Sk (Int × Int) :=
 .r 1 (.dep (.wh (decide (((ak.length:Nat):Int) > 100)) false ((gI sum 1099511627776).c)) fun x1=>.wh ((decide (((ak.length:Nat):Int) > 100))||(!x1)) false ((gI day 100000).c)) fun GM =>
 .bt
 (.loop (default:Sum (Int × Int) (Bool)) (fun i4=>i4.2≤ak.length) (fun i4=>ak.length - i4.2) ((((decide (((ak.length:Nat):Int) > 100))||(!GM.1))||(!GM.2),0):Bool × Nat)
 (fun (i4:Bool × Nat)=>⟨[(12,bv i4.1),(34,iv ((i4.2:Nat):Int))],[]⟩) fun i4 =>
 .lt 0 0 i4.2 ak.length
 (.r 4 (.p (bz ((i4.2:Nat):Int) ak.length)) fun _ =>
 .r 5 (.dep (.wh i4.1 false ((gI (ar (((ak.getD i4.2 default).num) - 1)) 1073741823).c)) fun x5=>.wh (i4.1||(!x5)) false ((gI (ar (((ak.getD i4.2 default).den) - 1)) 1073741823).c)) fun p7 =>
 .r 6 .z fun _ =>
 .wi 34 (ar (((i4.2:Nat):Int)+1)) ((i4.2+1:Nat):Int) <|
 .fin (.inr ((i4.1||(!p7.1))||(!p7.2),i4.2+1)))
 (.fin (.inl (.inr i4.1))))
 (fun (b3:Bool)=>⟨[(12,bv b3)],[]⟩) fun b3 =>
 .br b3
 (.fin (0,1))
 (.br (from_ == bZ)
 (.fin (sum,0))
 (.r 11 ((nk ak from_ bZ day).c) fun x8 =>
 .bind false (fun _=>True)
 (.br (!x8.2)
 (.r 13 ((nk ak bZ from_ day).c) fun C0 =>
 .fin (.inr (C0.2,{ C0.1 with num:=C0.1.den,den:=C0.1.num })))
 (.fin (.inr (x8.2,x8.1))))
 (fun (b9:Bool × bV)=>⟨[(16,bv b9.1)],[(15,.box (b9.2.cells.map .d))]⟩) fun b9 =>
 .br (!b9.1)
 (.fin (0,4))
 (.r 17 ((vw sum b9.2.num b9.2.den).c) fun Ri =>
 .br (!Ri.2.2)
 (.fin (0,3))
 (.fin (Ri.1,0)))))
def bF ak sum from_ bZ day:=(gA ak sum from_ bZ day).val
theorem C3 (ak:List bV) (sum:Int) (from_:Int) (bZ:Int) (day:Int):(gA ak sum from_ bZ day).bE (fun _=>True):=by
  unfold gA
  try simp only [nk,vw,gI,Et]
  exact qJ

def g0 ak sum from_ bZ day:=kk tok mixed Tryz.func27 [lv bV.cells ak,iv sum,iv from_,iv bZ,iv day] (fun x=>.ef [iv x.1,iv x.2]) true (gA ak sum from_ bZ day) (bF ak sum from_ bZ day) (u0 (C3 ak sum from_ bZ day))
def fw (r:af) (f:aD) (j:aQ) (l:List aw) (day:Int):Sk (Int × Int) :=
 .r 1 (.dep ((cB r f j).c) fun x1=>.wh (x1 != 0) false ((aR day 100001).c)) fun p7 =>
 .br ((p7.1 != 0)||(!p7.2))
 (.fin (0,1))
 (.br (decide (((l.length:Nat):Int) > 200))
 (.fin (0,6))
 (.r 5 ((iI l r).c) fun x3 =>
 .br x3
 (.fin (0,1))
 (.bt
 (.loop (default:Sum (Int × Int) (Int)) (fun i5=>i5.2≤l.length) (fun i5=>l.length - i5.2) ((0,0):Int × Nat)
 (fun (i5:Int × Nat)=>⟨[(12,iv i5.1),(38,iv ((i5.2:Nat):Int))],[]⟩) fun i5 =>
 .lt 36 0 i5.2 l.length
 (.r 10 (.p (bz ((i5.2:Nat):Int) l.length)) fun _ =>
 .br (((((l.getD i5.2 default).aA) != j.aA)||(((l.getD i5.2 default).bZ) != j.aP))||(decide (((l.getD i5.2 default).day) > day)))
 (.nx 16 38 i5.2 (i5.1,i5.2+1))
 (.r 12 ((g0 r.ak ((l.getD i5.2 default).sum) ((l.getD i5.2 default).aq) f.aA.aq ((l.getD i5.2 default).day)).c) fun x6 =>
 .br (x6.2 != 0)
 (.fin (.inl (.inl (0,x6.2))))
 (.nx 16 38 i5.2 (ar (i5.1+x6.1),i5.2+1))))
 (.fin (.inl (.inr i5.1))))
 (fun (b4:Int)=>⟨[(12,iv b4)],[]⟩) fun b4 =>
 .fin (b4,0))))
def bH r f j l day:=(fw r f j l day).val
theorem wP (r:af) (f:aD) (j:aQ) (l:List aw) (day:Int) (cA:f.Small):(fw r f j l day).bE (fun _=>True):=by
  simp only [aD.Small,af.Small] at cA
  unfold fw
  try simp only [g0,cB,aR,iI,eW,aD.Small,af.Small]
  exact qJ

def eu r f j l day:=kk tok mixed Tryz.func6 [av r.cells,av f.cells,av j.cells,lv aw.cells l,iv day] (fun x=>.ef [iv x.1,iv x.2]) true (fw r f j l day) (bH r f j l day) (wP r f j l day)
structure ah where
  known:Bool
  n:Int
  deriving Inhabited
def ah.cells (c:ah):List D:=[dB c.known,dI c.n]
def ah.E:Il ah:=⟨ah.cells,2,fun _=>rfl,fun _=>rfl⟩
structure lO where
  cell:ah
  order:Int
  path:List Int
  err:Int
  deriving Inhabited
def lO.cells (c:lO):List D:=c.cell.cells++[dI c.order,mS cM c.path,dI c.err]
structure cy where
  file:aD
  sign:Int
  cF:Int
  fL:Int
  due:Int
  day:Int
  deriving Inhabited
def cy.cells (c:cy):List D:=c.file.cells++[dI c.sign,dI c.cF,dI c.fL,dI c.due,dI c.day]
def kr (a:cK) (v:cy):Sk (Bool) :=
 .fin (decide (a.at_≤v.sign))
def dP a v:=(kr a v).val
theorem sS (a:cK) (v:cy):dP a v=(decide (a.at_≤v.sign)):=rfl
theorem Bt (a:cK) (v:cy):(kr a v).bE (fun _=>True):=by
  unfold kr
  exact mY

def ot a v:=kk tok mixed Tryz.func158 [av a.cells,.ref v.cells] (fun x=>bv x) true (kr a v) (dP a v) (u0 (Bt a v))
def eA (s:List cK) (v:cy):Sk (Int) :=
 .bind true (fun b1=>∀ q,q < s.length→dP (s.getD q default) v=false)
 (.loop (default:Sum (Int) (Unit)) (fun i2=>∀ q,q < i2→dP (s.getD q default) v=false) (fun i2=>s.length - i2) (0:Nat)
 (fun (i2:Nat)=>⟨[(8,iv ((i2:Nat):Int))],[]⟩) fun i2 =>
 .lt 0 0 i2 s.length
 (.r 4 (.au (.p (bz ((i2:Nat):Int) s.length)) ((ot (s.getD i2 default) v).c)) fun x3 =>
 .br x3
 (.fin (.inl (.inl ((i2:Nat):Int))))
 (.nx 6 8 i2 (i2+1)))
 (.fin (.inl (.inr ()))))
 (fun (_:Unit)=>⟨[],[]⟩) fun _ =>
 .fin (-1)
def xB s v:=(eA s v).val
theorem tM (s:List cK) (v:cy):(eA s v).dz (fun (x:Int)=>(x = -1∧∀ q,q < s.length→dP (s.getD q default) v=false)∨(0≤x∧x < s.length∧dP (s.getD x.toNat default) v=true∧∀ q,(q:Nat) < x.toNat→dP (s.getD q default) v=false)):=by
  unfold eA
  try simp only [ot,sS]
  exact Su

theorem uE (s:List cK) (v:cy):(eA s v).bE (fun _=>True):=by
  unfold eA
  try simp only [ot,sS]
  exact qJ

def jH s v:=kp tok mixed Tryz.func186 [lv cK.cells s,.fn 158 [.ref v.cells]] (fun x=>iv x) true (xB s v) (u0 (uE s v)) (tM s v)
def di (s:List cK) (v:cy):Sk (Bool) :=
 .r 1 ((jH s v).c) fun x1 =>
 .fin (decide (x1≥0))
def eB s v:=(di s v).val
theorem ku (s:List cK) (v:cy):(di s v).dz (fun (x:Bool)=>(x=true↔∃ q,q < s.length∧dP (s.getD q default) v=true)):=by
  unfold di
  try simp only [jH]
  exact Rg

theorem ql (s:List cK) (v:cy):(fun (x:Bool)=>(x=true↔∃ q,q < s.length∧dP (s.getD q default) v=true)) (eB s v):=have h:=Sk.dA _ (ku s v); h
theorem rO (s:List cK) (v:cy):(di s v).bE (fun _=>True):=by
  unfold di
  try simp only [jH]
  exact mY

def gX s v:=kp tok mixed Tryz.func157 [lv cK.cells s,.fn 158 [.ref v.cells]] (fun x=>bv x) true (eB s v) (u0 (rO s v)) (ku s v)
def sT (i:Int) (n:Int):Sk (Bool) :=
 .fin ((decide (i≥0))&&(decide (i < n)))
def uF i n:=(sT i n).val
theorem ij (i:Int) (n:Int):uF i n=((decide (i≥0))&&(decide (i < n))):=rfl
theorem Np (i:Int) (n:Int):(sT i n).bE (fun _=>True):=by
  unfold sT
  exact mY

def ct i n:=kk tok mixed Tryz.func114 [iv i,iv n] (fun x=>bv x) true (sT i n) (uF i n) (u0 (Np i n))
def lu (r:af) (aJ:Int):Sk (Int) :=
 .r 1 ((ct aJ ((r.aC.length:Nat):Int)).c) fun x1 =>
 .br (!x1)
 (.fin (-1))
 (.r 3 (.p (bz aJ r.aC.length)) fun _ =>
 .fin ((r.aC.getD aJ.toNat default).order))
def aV r aJ:=(lu r aJ).val
theorem C4 (r:af) (aJ:Int):(lu r aJ).bE (fun _=>True):=by
  unfold lu
  try simp only [ct,ij]
  exact qJ

def cH r aJ:=kk tok mixed Tryz.func125 [av r.cells,iv aJ] (fun x=>iv x) true (lu r aJ) (aV r aJ) (u0 (C4 r aJ))
def mh (tN:Bool):Sk (ah) :=
 .br tN
 (.fin ({ known:=true,n:=1 }:ah))
 (.fin ({ known:=true,n:=0 }:ah))
def dW tN:=(mh tN).val
theorem Ez (tN:Bool):(mh tN).bE (fun _=>True):=by
  unfold mh
  exact mY

def jk tN:=kk tok mixed Tryz.func159 [bv tN] (fun x=>av x.cells) true (mh tN) (dW tN) (u0 (Ez tN))
def kP (f:aD) (kind:Int) (at_:Int):Sk (ah) :=
 .bt
 (.loop (default:Sum (ah) (Unit)) (fun i2=>i2≤f.facts.length) (fun i2=>f.facts.length - i2) (0:Nat)
 (fun (i2:Nat)=>⟨[(12,iv ((i2:Nat):Int))],[]⟩) fun i2 =>
 .lt 10 0 i2 f.facts.length
 (.r 3 (.p (bz ((i2:Nat):Int) f.facts.length)) fun _ =>
 .br ((((f.facts.getD i2 default).kind) == kind)&&(((f.facts.getD i2 default).at_) == at_))
 (.r 5 ((jk (((f.facts.getD i2 default).n) != 0)).c) fun x3 =>
 .fin (.inl (.inl x3)))
 (.nx 6 12 i2 (i2+1)))
 (.fin (.inl (.inr ()))))
 (fun (_:Unit)=>⟨[],[]⟩) fun _ =>
 .fin ({ known:=false,n:=0 }:ah)
def il f kind at_:=(kP f kind at_).val
theorem GN (f:aD) (kind:Int) (at_:Int):(kP f kind at_).bE (fun _=>True):=by
  unfold kP
  try simp only [jk]
  exact oj

def iJ f kind at_:=kk tok mixed Tryz.func160 [av f.cells,iv kind,iv at_] (fun x=>av x.cells) true (kP f kind at_) (il f kind at_) (u0 (GN f kind at_))
def kQ (r:af) (c_:cy):Sk ((List ah)) :=
 .r 3 (.dep ((dV c_.sign ((c_.file.ai.length:Nat):Int)).c) fun x1=>.wh (((!x1)||(decide (c_.cF < (-1))))||(decide ((cp c_.cF 0)≥((c_.file.ai.length:Nat):Int)))) false (.wh (c_.due != (-1)) true ((dV c_.due 100001).c))) fun p25 =>
 .br ((((!p25.1)||(decide (c_.cF < (-1))))||(decide ((cp c_.cF 0)≥((c_.file.ai.length:Nat):Int))))||((c_.due != (-1))&&(!p25.2)))
 (.fin [])
 (.r 5 (.p (bz c_.sign c_.file.ai.length)) fun _ =>
 .r 6 ((dV ((c_.file.ai.getD c_.sign.toNat default).day) 100001).c) fun x3 =>
 .br (!x3)
 (.fin [])
 (.bind false (fun _=>True)
 (.br (c_.due != (-1))
 (.fin (.inr (ar (((c_.file.ai.getD c_.sign.toNat default).day) - c_.due))))
 (.fin (.inr 0)))
 (fun (b4:Int)=>⟨[(9,iv b4)],[]⟩) fun b4 =>
 .r 11 (.au (.o [.dy (Xr ah.E 20 ({ known:=false,n:=0 }:ah))]) (.p (PL (20:Int) 16))) fun _ =>
 .r 12 (.au (.o [.wO aaL]) (.au (.o [.wO (aaK dI 0 c_.file.aA.sum)]) (.au (.o [.wO (CQ dI [0] [c_.file.aA.sum] rfl 1 c_.file.aA.parts)]) (.au (.o [.wO (CQ dI [0,1] [c_.file.aA.sum,c_.file.aA.parts] rfl 2 c_.file.aA.aE.kind)]) (.au (.o [.wO (CQ dI [0,1,2] [c_.file.aA.sum,c_.file.aA.parts,c_.file.aA.aE.kind] rfl 3 c_.file.aA.zd)]) (.au (.o [.wO (CQ dI [0,1,2,3] [c_.file.aA.sum,c_.file.aA.parts,c_.file.aA.aE.kind,c_.file.aA.zd] rfl 4 ((c_.file.ai.getD c_.sign.toNat default).kind))]) (.au (.o [.wO (CQ dI [0,1,2,3,4] [c_.file.aA.sum,c_.file.aA.parts,c_.file.aA.aE.kind,c_.file.aA.zd,(c_.file.ai.getD c_.sign.toNat default).kind] rfl 5 c_.fL)]) (.o [.wO (CQ dI [0,1,2,3,4,5] [c_.file.aA.sum,c_.file.aA.parts,c_.file.aA.aE.kind,c_.file.aA.zd,(c_.file.ai.getD c_.sign.toNat default).kind,c_.fL] rfl 6 b4)])))))))) fun _ =>
 .bind true (fun b5=>b5.length=20)
 (.mr 7 (fun g6=>g6.length=20) (List.replicate 20 ({ known:=false,n:=0 }:ah):(List ah))
 (fun g6 s8=>⟨[(10,ow 100002 g6)],[(100002,fg 78 2 ah.cells g6),(90,.it 74 7 s8)]⟩)
 (fun g9=>⟨[(10,ow 100002 g9)],[(100002,fg 78 2 ah.cells g9)]⟩)
 (fun g6 i7 =>
 .K7 <|
 .r 14 (.p (i7 < 7)) fun _ =>
 .r 15 (.au (.p (bz (([0,1,2,3,4,5,6]:List Int).getD i7 0) g6.length)) (.au (.o [.dy (iQ ah.E g6 ((([0,1,2,3,4,5,6]:List Int).getD i7 0).toNat) ({ known:=true,n:=([c_.file.aA.sum,c_.file.aA.parts,c_.file.aA.aE.kind,c_.file.aA.zd,(c_.file.ai.getD c_.sign.toNat default).kind,c_.fL,b4]:List Int).getD i7 default }:ah))]) (.p ((([0,1,2,3,4,5,6]:List Int).getD i7 0).toNat < g6.length)))) fun _ =>
 .wn 100002 g6.length (g6.set ((([0,1,2,3,4,5,6]:List Int).getD i7 0).toNat) ({ known:=true,n:=([c_.file.aA.sum,c_.file.aA.parts,c_.file.aA.aE.kind,c_.file.aA.zd,(c_.file.ai.getD c_.sign.toNat default).kind,c_.fL,b4]:List Int).getD i7 default }:ah)).length <|
 .fin (g6.set ((([0,1,2,3,4,5,6]:List Int).getD i7 0).toNat) ({ known:=true,n:=([c_.file.aA.sum,c_.file.aA.parts,c_.file.aA.aE.kind,c_.file.aA.zd,(c_.file.ai.getD c_.sign.toNat default).kind,c_.fL,b4]:List Int).getD i7 default }:ah))) fun g9 =>
 .K8 <|
 .fin (.inr g9))
 (fun (b5:(List ah))=>⟨[(90,.any),(10,ow 100001 b5)],[(100001,fg 78 2 ah.cells b5)]⟩) fun b5 =>
 .r 16 ((gX c_.file.a8 c_).c) fun C0 =>
 .r 17 (.dep ((cH r c_.file.aA.aJ).c) fun _=>(cH r c_.file.aA.qC).c) fun VI =>
 .r 18 (.au (.o [.wO aaL]) (.au (.o [.wO (aaK dB 7 ((c9 .i64 c_.file.aA.flags 1) != 0))]) (.au (.o [.wO (CQ dB [7] [(c9 .i64 c_.file.aA.flags 1) != 0] rfl 8 (c_.file.aA.gU == (-1)))]) (.au (.o [.wO (CQ dB [7,8] [(c9 .i64 c_.file.aA.flags 1) != 0,c_.file.aA.gU == (-1)] rfl 9 ((c9 .i64 c_.file.aA.flags 4) != 0))]) (.au (.o [.wO (CQ dB [7,8,9] [(c9 .i64 c_.file.aA.flags 1) != 0,c_.file.aA.gU == (-1),(c9 .i64 c_.file.aA.flags 4) != 0] rfl 10 ((c9 .i64 c_.file.aA.flags 2) != 0))]) (.au (.o [.wO (CQ dB [7,8,9,10] [(c9 .i64 c_.file.aA.flags 1) != 0,c_.file.aA.gU == (-1),(c9 .i64 c_.file.aA.flags 4) != 0,(c9 .i64 c_.file.aA.flags 2) != 0] rfl 11 (VI.1 != VI.2))]) (.au (.o [.wO (CQ dB [7,8,9,10,11] [(c9 .i64 c_.file.aA.flags 1) != 0,c_.file.aA.gU == (-1),(c9 .i64 c_.file.aA.flags 4) != 0,(c9 .i64 c_.file.aA.flags 2) != 0,VI.1 != VI.2] rfl 12 C0)]) (.au (.o [.wO (CQ dB [7,8,9,10,11,12] [(c9 .i64 c_.file.aA.flags 1) != 0,c_.file.aA.gU == (-1),(c9 .i64 c_.file.aA.flags 4) != 0,(c9 .i64 c_.file.aA.flags 2) != 0,VI.1 != VI.2,C0] rfl 13 ((c9 .i64 ((c_.file.ai.getD c_.sign.toNat default).flags) 1) != 0))]) (.o [.wO (CQ dB [7,8,9,10,11,12,13] [(c9 .i64 c_.file.aA.flags 1) != 0,c_.file.aA.gU == (-1),(c9 .i64 c_.file.aA.flags 4) != 0,(c9 .i64 c_.file.aA.flags 2) != 0,VI.1 != VI.2,C0,(c9 .i64 ((c_.file.ai.getD c_.sign.toNat default).flags) 1) != 0] rfl 14 (decide (b4 > 0)))]))))))))) fun _ =>
 .bind true (fun z5=>z5.length=20)
 (.mr 8 (fun UB=>UB.length=20) (b5:(List ah))
 (fun UB s16=>⟨[(10,ow 100005 UB)],[(100005,fg 78 2 ah.cells UB),(139,.it 114 8 s16)]⟩)
 (fun g18=>⟨[(10,ow 100005 g18)],[(100005,fg 78 2 ah.cells g18)]⟩)
 (fun UB i15 =>
 .K7 <|
 .r 20 (.p (i15 < 8)) fun _ =>
 .r 21 (.fA ((jk (([(c9 .i64 c_.file.aA.flags 1) != 0,c_.file.aA.gU == (-1),(c9 .i64 c_.file.aA.flags 4) != 0,(c9 .i64 c_.file.aA.flags 2) != 0,VI.1 != VI.2,C0,(c9 .i64 ((c_.file.ai.getD c_.sign.toNat default).flags) 1) != 0,decide (b4 > 0)]:List Bool).getD i15 default)).c) fun ZV=>.au (.p (bz (([7,8,9,10,11,12,13,14]:List Int).getD i15 0) UB.length)) (.au (.o [.dy (iQ ah.E UB ((([7,8,9,10,11,12,13,14]:List Int).getD i15 0).toNat) ZV)]) (.p ((([7,8,9,10,11,12,13,14]:List Int).getD i15 0).toNat < UB.length)))) fun ZV =>
 .wn 100005 UB.length (UB.set ((([7,8,9,10,11,12,13,14]:List Int).getD i15 0).toNat) ZV).length <|
 .fin (UB.set ((([7,8,9,10,11,12,13,14]:List Int).getD i15 0).toNat) ZV)) fun g18 =>
 .K8 <|
 .fin (.inr g18))
 (fun (z5:(List ah))=>⟨[(139,.any),(10,ow 100004 z5)],[(100004,fg 78 2 ah.cells z5)]⟩) fun z5 =>
 .r 22 (.fA ((iJ c_.file 0 c_.sign).c) fun DZ=>.au (.p (bz (15:Int) z5.length)) (.au (.o [.dy (iQ ah.E z5 15 DZ)]) (.p (15 < z5.length)))) fun DZ =>
 .wn 100004 z5.length (z5.set 15 DZ).length <|
 .r 23 (.fA ((iJ c_.file 1 c_.sign).c) fun Ld=>.au (.p (bz (16:Int) ((z5.set 15 DZ).length))) (.au (.o [.dy (iQ ah.E (z5.set 15 DZ) 16 Ld)]) (.p (16 < (z5.set 15 DZ).length)))) fun Ld =>
 .wn 100004 (z5.set 15 DZ).length ((z5.set 15 DZ).set 16 Ld).length <|
 .r 24 (.fA ((iJ c_.file 2 c_.sign).c) fun Rj=>.au (.p (bz (17:Int) (((z5.set 15 DZ).set 16 Ld).length))) (.au (.o [.dy (iQ ah.E ((z5.set 15 DZ).set 16 Ld) 17 Rj)]) (.p (17 < ((z5.set 15 DZ).set 16 Ld).length)))) fun Rj =>
 .wn 100004 ((z5.set 15 DZ).set 16 Ld).length (((z5.set 15 DZ).set 16 Ld).set 17 Rj).length <|
 .r 25 (.fA ((iJ c_.file 3 (cp c_.cF 0)).c) fun sU=>.au (.p (bz (18:Int) ((((z5.set 15 DZ).set 16 Ld).set 17 Rj).length))) (.au (.o [.dy (iQ ah.E (((z5.set 15 DZ).set 16 Ld).set 17 Rj) 18 sU)]) (.p (18 < (((z5.set 15 DZ).set 16 Ld).set 17 Rj).length)))) fun sU =>
 .wn 100004 (((z5.set 15 DZ).set 16 Ld).set 17 Rj).length ((((z5.set 15 DZ).set 16 Ld).set 17 Rj).set 18 sU).length <|
 .r 26 (.fA ((iJ c_.file 4 (cp c_.cF 0)).c) fun ZW=>.au (.p (bz (19:Int) (((((z5.set 15 DZ).set 16 Ld).set 17 Rj).set 18 sU).length))) (.au (.o [.dy (iQ ah.E ((((z5.set 15 DZ).set 16 Ld).set 17 Rj).set 18 sU) 19 ZW)]) (.p (19 < ((((z5.set 15 DZ).set 16 Ld).set 17 Rj).set 18 sU).length)))) fun ZW =>
 .wn 100004 ((((z5.set 15 DZ).set 16 Ld).set 17 Rj).set 18 sU).length (((((z5.set 15 DZ).set 16 Ld).set 17 Rj).set 18 sU).set 19 ZW).length <|
 .fin (((((z5.set 15 DZ).set 16 Ld).set 17 Rj).set 18 sU).set 19 ZW)))
def sV r c_:=(kQ r c_).val
theorem Xu:(∀ i,i < 7→0≤([0,1,2,3,4,5,6]:List Int).getD i 0∧([0,1,2,3,4,5,6]:List Int).getD i 0 < 20)∧∀ i,i < 7→∀ j,j < 7→i≠j→(([0,1,2,3,4,5,6]:List Int).getD j 0).toNat≠(([0,1,2,3,4,5,6]:List Int).getD i 0).toNat:=by decide
theorem Xv:(∀ i,i < 8→0≤([7,8,9,10,11,12,13,14]:List Int).getD i 0∧([7,8,9,10,11,12,13,14]:List Int).getD i 0 < 20)∧∀ i,i < 8→∀ j,j < 8→i≠j→(([7,8,9,10,11,12,13,14]:List Int).getD j 0).toNat≠(([7,8,9,10,11,12,13,14]:List Int).getD i 0).toNat:=by decide
theorem EA (r:af) (c_:cy):(kQ r c_).dz (fun (x:(List ah))=>x=[]∨(x.length=20∧0≤c_.sign∧c_.sign < c_.file.ai.length)):=by
  refine Sk.bq _ ?_
  unfold kQ
  simp only [Sk.cV,Sk.aU,reduceCtorEq,ON,kk,kp,cH,iJ,jk,dV,gX,ji,forall_eq,maxLen]
  all_goals (repeat' first | assumption | (apply And.intro) | (intro h))
  all_goals first | trivial | assumption | omega | ((try simp only [LN] at *) <;> first | omega | (refine (az ?_ ?_).trans ?_ <;> omega) | (simp (disch:=omega) only [az] at *; omega) | (grind) | (simp_all; done) | (simp_all; omega))

theorem GP (r:af) (c_:cy):(kQ r c_).bE (fun _=>True):=by
  refine Sk.bm _ ?_
  unfold kQ
  simp only [Sk.j2,Sk.aU,reduceCtorEq,ON,kk,kp,Sk.dz,cH,iJ,jk,dV,gX,ji,forall_eq,maxLen]
  all_goals (repeat' first | (apply And.intro) | (intro h))
  all_goals first | trivial | assumption | omega | (have:=Xu.1 _ ‹_ < 7›; (try simp only [LN] at *) <;> omega) | (have:=Xv.1 _ ‹_ < 8›; (try simp only [LN] at *) <;> omega) | exact List.set_comm _ _ (Xu.2 _ ‹_› _ ‹_› ‹_›) | exact List.set_comm _ _ (Xv.2 _ ‹_› _ ‹_› ‹_›) | ((try simp only [LN] at *) <;> omega)

def tQ r c_:=kp tok mixed Tryz.func128 [av r.cells,av c_.cells] (fun x=>lv ah.cells x) false (sV r c_) (u0 (GP r c_)) (EA r c_)
def uG (r:af) (c_:cy):Sk (cy × (List ah)) :=
 .r 1 ((kN c_.file c_.day).c) fun x1 =>
 .r 2 ((tQ r ({ file:=x1,sign:=c_.sign,cF:=c_.cF,fL:=c_.fL,due:=c_.due,day:=c_.day }:cy)).c) fun x2 =>
 .fin (({ file:=x1,sign:=c_.sign,cF:=c_.cF,fL:=c_.fL,due:=c_.due,day:=c_.day }:cy),x2)
def dQ r c_:=(uG r c_).val
theorem GQ (r:af) (c_:cy):(uG r c_).dz (fun (x:cy × (List ah))=>x.2=[]∨(x.2.length=20∧0≤x.1.sign∧x.1.sign < x.1.file.ai.length)):=by
  unfold uG
  try simp only [kN,tQ,aD.Small,af.Small]
  exact Rg

theorem Nq (r:af) (c_:cy):(fun (x:cy × (List ah))=>x.2=[]∨(x.2.length=20∧0≤x.1.sign∧x.1.sign < x.1.file.ai.length)) (dQ r c_):=have h:=Sk.dA _ (GQ r c_); h
theorem Sx (r:af) (c_:cy) (hf:c_.file.Small):(uG r c_).bE (fun _=>True):=by
  simp only [aD.Small,af.Small] at hf
  unfold uG
  try simp only [kN,tQ,aD.Small,af.Small]
  exact oj

def GR r c_:=kp tok mixed Tryz.func90 [av r.cells,av c_.cells] (fun x=>.ef [av x.1.cells,lv ah.cells x.2]) false (dQ r c_) (Sx r c_) (GQ r c_)
theorem Nr {α:Type} (p:α→Bool) (l:List α):(l.filter p).filter p=l.filter p:=by simp
theorem xC {α:Type} (p:α→Bool):∀ (l:List α),(l.takeWhile p).takeWhile p=l.takeWhile p
  | []=>rfl
  | x :: r=>by
    rw [List.takeWhile_cons]
    cases h:p x with
    | false=>rfl
    | true=>rw [if_pos rfl,List.takeWhile_cons,h,if_pos rfl,xC p r]
def Bu (kind at_:Int) (x:Fact) (s:Unit):ah ⊕ Unit:=bif (x.kind == kind)&&(x.at_ == at_) then .inl (dW (x.n != 0)) else .inr ()
theorem Wu (f:aD) (kind at_:Int):il f kind at_=walk (Bu kind at_) (fun _=>⟨false,0⟩) f.facts ():=by
  simp only [il,kP,Sk.cu,Sk.cS,Sk.bQ,Sk.aZ,Sk.bU,Sk.cw,Sk.aN,eo.qB,kk,kp,jk]
  refine (a9 f.facts (fun s i=>i) (Bu kind at_) id _ (fun s i hi=>?_) (fun s=>?_) (by simp) ()).trans rfl
  · rw [decide_eq_true (by omega),cond_true]
    unfold Bu
    cases (((f.facts.getD i default).kind == kind)&&((f.facts.getD i default).at_ == at_)) <;> rfl
  · rw [decide_eq_false (by omega),cond_false]
theorem UC {f:aD} (h:f.Small) (d:Int):(bn f d).Small:=by
  have h1:=GF f d
  unfold aD.Small at h ⊢
  dsimp only at h1
  omega
def jV (s:List Int) (v:Int):Sk (Int) :=
 .bind true (fun b1=>∀ q,q < s.length→(s.getD q default == v)=false)
 (.loop (default:Sum (Int) (Unit)) (fun i2=>∀ q,q < i2→(s.getD q default == v)=false) (fun i2=>s.length - i2) (0:Nat)
 (fun (i2:Nat)=>⟨[(8,iv ((i2:Nat):Int))],[]⟩) fun i2 =>
 .lt 0 0 i2 s.length
 (.r 4 (.p (bz ((i2:Nat):Int) s.length)) fun _ =>
 .br (v == (s.getD i2 default))
 (.fin (.inl (.inl ((i2:Nat):Int))))
 (.nx 6 8 i2 (i2+1)))
 (.fin (.inl (.inr ()))))
 (fun (_:Unit)=>⟨[],[]⟩) fun _ =>
 .fin (-1)
def Le s v:=(jV s v).val
theorem C6 (s:List Int) (v:Int):(jV s v).dz (fun (x:Int)=>(x = -1∧∀ q,q < s.length→(s.getD q default == v)=false)∨(0≤x∧x < s.length∧(s.getD x.toNat default == v)=true∧∀ q,(q:Nat) < x.toNat→(s.getD q default == v)=false)):=by
  unfold jV
  exact Rg

theorem EB (s:List Int) (v:Int):(jV s v).bE (fun _=>True):=by
  unfold jV
  exact oj

def rP s v:=kp tok mixed Tryz.func161 [lv cM s,iv v] (fun x=>iv x) true (Le s v) (u0 (EB s v)) (C6 s v)
def gJ (s:List Int) (v:Int):Sk (Bool) :=
 .r 1 ((rP s v).c) fun x1 =>
 .fin (decide (x1≥0))
def cx s v:=(gJ s v).val
theorem qE (s:List Int) (v:Int):(gJ s v).dz (fun (x:Bool)=>(x=true↔∃ q,q < s.length∧(s.getD q default == v)=true)):=by
  unfold gJ
  try simp only [rP]
  exact Rg

theorem pK (s:List Int) (v:Int):(fun (x:Bool)=>(x=true↔∃ q,q < s.length∧(s.getD q default == v)=true)) (cx s v):=have h:=Sk.dA _ (qE s v); h
theorem z6 (s:List Int) (v:Int):(gJ s v).bE (fun _=>True):=by
  unfold gJ
  try simp only [rP]
  exact mY

def bS s v:=kp tok mixed Tryz.func129 [lv cM s,iv v] (fun x=>bv x) true (cx s v) (u0 (z6 s v)) (qE s v)
def oW (ask:Int):Sk (Int × Bool) :=
 .br ((decide (ask < 0))||(decide (ask≥22)))
 (.fin (0,false))
 (.r 3 (.au (.o [.dy (gr eZ [6,7,10,12,13,14,15,16,20,21])]) ((bS [6,7,10,12,13,14,15,16,20,21] ask).c)) fun x1 =>
 .br x1
 (.fin (0,true))
 (.fin (1,true)))
def cJ ask:=(oW ask).val
theorem IJ (ask:Int):(oW ask).bE (fun _=>True):=by
  unfold oW
  try simp only [bS]
  exact mY

def jI ask:=kk tok mixed Tryz.func91 [iv ask] (fun x=>.ef [iv x.1,bv x.2]) true (oW ask) (cJ ask) (u0 (IJ ask))
def oX (r:af) (aj:Int) (c_:cy):Sk ((List Int)) :=
 .r 1 (.p (bz c_.sign c_.file.ai.length)) fun _ =>
 .br ((((decide (((c_.file.ai.getD c_.sign.toNat default).nX) < 0))||(decide (((c_.file.ai.getD c_.sign.toNat default).nX)≥((r.bg.length:Nat):Int))))||(decide (aj < 0)))||(decide (aj≥((r.al.length:Nat):Int))))
 (.fin [])
 (.r 4 (.au (.o [.dy (Xr eZ 5 0)]) (.p (PL (5:Int) 8))) fun _ =>
 .r 5 (.au (.p (bz (0:Int) ((List.replicate 5 (0:Int)).length))) (.au (.o [.dy (iQ eZ (List.replicate 5 (0:Int)) 0 aj)]) (.p (0 < (List.replicate 5 (0:Int)).length)))) fun _ =>
 .wn 42 (List.replicate 5 (0:Int)).length ((List.replicate 5 (0:Int)).set 0 aj).length <|
 .r 6 (.fA ((cH r ((c_.file.ai.getD c_.sign.toNat default).aJ)).c) fun x1=>.au (.p (bz (1:Int) (((List.replicate 5 (0:Int)).set 0 aj).length))) (.au (.o [.dy (iQ eZ ((List.replicate 5 (0:Int)).set 0 aj) 1 x1)]) (.p (1 < ((List.replicate 5 (0:Int)).set 0 aj).length)))) fun x1 =>
 .wn 42 ((List.replicate 5 (0:Int)).set 0 aj).length (((List.replicate 5 (0:Int)).set 0 aj).set 1 x1).length <|
 .r 7 (.fA ((cH r c_.file.aA.qC).c) fun x2=>.au (.p (bz (2:Int) ((((List.replicate 5 (0:Int)).set 0 aj).set 1 x1).length))) (.au (.o [.dy (iQ eZ (((List.replicate 5 (0:Int)).set 0 aj).set 1 x1) 2 x2)]) (.p (2 < (((List.replicate 5 (0:Int)).set 0 aj).set 1 x1).length)))) fun x2 =>
 .wn 42 (((List.replicate 5 (0:Int)).set 0 aj).set 1 x1).length ((((List.replicate 5 (0:Int)).set 0 aj).set 1 x1).set 2 x2).length <|
 .r 8 (.fA ((cH r c_.file.aA.aJ).c) fun x3=>.au (.p (bz (3:Int) (((((List.replicate 5 (0:Int)).set 0 aj).set 1 x1).set 2 x2).length))) (.au (.o [.dy (iQ eZ ((((List.replicate 5 (0:Int)).set 0 aj).set 1 x1).set 2 x2) 3 x3)]) (.p (3 < ((((List.replicate 5 (0:Int)).set 0 aj).set 1 x1).set 2 x2).length)))) fun x3 =>
 .wn 42 ((((List.replicate 5 (0:Int)).set 0 aj).set 1 x1).set 2 x2).length (((((List.replicate 5 (0:Int)).set 0 aj).set 1 x1).set 2 x2).set 3 x3).length <|
 .r 9 (.au (.p (bz ((c_.file.ai.getD c_.sign.toNat default).nX) r.bg.length)) (.fA ((cH r ((r.bg.getD (((c_.file.ai.getD c_.sign.toNat default).nX).toNat) default).aJ)).c) fun x4=>.au (.p (bz (4:Int) ((((((List.replicate 5 (0:Int)).set 0 aj).set 1 x1).set 2 x2).set 3 x3).length))) (.au (.o [.dy (iQ eZ (((((List.replicate 5 (0:Int)).set 0 aj).set 1 x1).set 2 x2).set 3 x3) 4 x4)]) (.p (4 < (((((List.replicate 5 (0:Int)).set 0 aj).set 1 x1).set 2 x2).set 3 x3).length))))) fun x4 =>
 .wn 42 (((((List.replicate 5 (0:Int)).set 0 aj).set 1 x1).set 2 x2).set 3 x3).length ((((((List.replicate 5 (0:Int)).set 0 aj).set 1 x1).set 2 x2).set 3 x3).set 4 x4).length <|
 .r 10 ((bS ((((((List.replicate 5 (0:Int)).set 0 aj).set 1 x1).set 2 x2).set 3 x3).set 4 x4) (-1)).c) fun x5 =>
 .br x5
 (.fin [])
 (.fin ((((((List.replicate 5 (0:Int)).set 0 aj).set 1 x1).set 2 x2).set 3 x3).set 4 x4)))
def fC r aj c_:=(oX r aj c_).val
theorem IK (r:af) (aj:Int) (c_:cy) (hs:0≤c_.sign∧c_.sign < c_.file.ai.length):(oX r aj c_).bE (fun _=>True):=by
  unfold oX
  try simp only [cH,bS]
  exact oj

def vx r aj c_:=kk tok mixed Tryz.func92 [av r.cells,iv aj,av c_.cells] (fun x=>.d (bif x.isEmpty then .v (.slice none 0 0) else mS cM x)) false (oX r aj c_) (fC r aj c_) (IK r aj c_)
def iX (o:Int) (v:Int):Sk (Bool) :=
 .fin ((decide (o < 0))||(decide (o≥v)))
def cW o v:=(iX o v).val
theorem gh (o:Int) (v:Int):cW o v=((decide (o < 0))||(decide (o≥v))):=rfl
theorem zh (o:Int) (v:Int):(iX o v).bE (fun _=>True):=by
  unfold iX
  exact mY

def mJ o v:=kk tok mixed Tryz.func163 [iv o,.ref [dI v]] (fun x=>bv x) true (iX o v) (cW o v) (u0 (zh o v))
def eC (s:List Int) (v:Int):Sk (Int) :=
 .bind true (fun b1=>∀ q,q < s.length→cW (s.getD q default) v=false)
 (.loop (default:Sum (Int) (Unit)) (fun i2=>∀ q,q < i2→cW (s.getD q default) v=false) (fun i2=>s.length - i2) (0:Nat)
 (fun (i2:Nat)=>⟨[(8,iv ((i2:Nat):Int))],[]⟩) fun i2 =>
 .lt 0 0 i2 s.length
 (.r 4 (.au (.p (bz ((i2:Nat):Int) s.length)) ((mJ (s.getD i2 default) v).c)) fun x3 =>
 .br x3
 (.fin (.inl (.inl ((i2:Nat):Int))))
 (.nx 6 8 i2 (i2+1)))
 (.fin (.inl (.inr ()))))
 (fun (_:Unit)=>⟨[],[]⟩) fun _ =>
 .fin (-1)
def xD s v:=(eC s v).val
theorem tR (s:List Int) (v:Int):(eC s v).dz (fun (x:Int)=>(x = -1∧∀ q,q < s.length→cW (s.getD q default) v=false)∨(0≤x∧x < s.length∧cW (s.getD x.toNat default) v=true∧∀ q,(q:Nat) < x.toNat→cW (s.getD q default) v=false)):=by
  unfold eC
  try simp only [mJ,gh]
  exact Su

theorem uH (s:List Int) (v:Int):(eC s v).bE (fun _=>True):=by
  unfold eC
  try simp only [mJ,gh]
  exact qJ

def jJ s v:=kp tok mixed Tryz.func187 [lv cM s,.fn 163 [.ref [dI v]]] (fun x=>iv x) true (xD s v) (u0 (uH s v)) (tR s v)
def dj (s:List Int) (v:Int):Sk (Bool) :=
 .r 1 ((jJ s v).c) fun x1 =>
 .fin (decide (x1≥0))
def fM s v:=(dj s v).val
theorem kx (s:List Int) (v:Int):(dj s v).dz (fun (x:Bool)=>(x=true↔∃ q,q < s.length∧cW (s.getD q default) v=true)):=by
  unfold dj
  try simp only [jJ]
  exact Rg

theorem qm (s:List Int) (v:Int):(fun (x:Bool)=>(x=true↔∃ q,q < s.length∧cW (s.getD q default) v=true)) (fM s v):=have h:=Sk.dA _ (kx s v); h
theorem rQ (s:List Int) (v:Int):(dj s v).bE (fun _=>True):=by
  unfold dj
  try simp only [jJ]
  exact mY

def fj s v:=kp tok mixed Tryz.func162 [lv cM s,.fn 163 [.ref [dI v]]] (fun x=>bv x) true (fM s v) (u0 (rQ s v)) (kx s v)
def gB (r:af) (order:Int) (ask:Int) (places:List Int):Sk (Bool) :=
 .br (((((decide (order < 0))||(decide (order≥((r.al.length:Nat):Int))))||(decide (ask < 0)))||(decide (ask≥22)))||(((places.length:Nat):Int) != 5))
 (.fin false)
 (.r 4 ((fj places ((r.al.length:Nat):Int)).c) fun x1 =>
 .fin (!x1))
def bL r order ask places:=(gB r order ask places).val
theorem Bv (r:af) (order:Int) (ask:Int) (places:List Int):(gB r order ask places).dz (fun (x:Bool)=>x=true→0≤order∧order < r.al.length∧places.length=5∧∀ i,i < 5→0≤places.getD i default∧places.getD i default < r.al.length):=by
  refine Sk.bq _ ?_
  unfold gB
  simp only [Sk.cV,Sk.aU,reduceCtorEq,ON,kk,kp,fj,maxLen]
  all_goals (repeat' first | (apply And.intro) | (intro h))
  all_goals first | trivial | (simp at *; done) | (simp only [LN] at *; omega) | (simp only [LN] at *; grind [gh])

theorem C7 (r:af) (order:Int) (ask:Int) (places:List Int):(gB r order ask places).bE (fun _=>True):=by
  unfold gB
  try simp only [fj]
  exact mY

def dX r order ask places:=kp tok mixed Tryz.func130 [av r.cells,iv order,iv ask,lv cM places] (fun x=>bv x) true (bL r order ask places) (u0 (C7 r order ask places)) (Bv r order ask places)
def fN (r:af) (order:Int) (ask:Int) (places:List Int):Sk (Int × Bool) :=
 .r 1 ((dX r order ask places).c) fun x1 =>
 .br (!x1)
 (.fin ((-1),false))
 (.r 3 (.p (bz order r.al.length)) fun _ =>
 .bt
 (.loop (default:Sum (Int × Bool) (Unit)) (fun i3=>i3≤((r.al.getD order.toNat default).aF).length) (fun i3=>((r.al.getD order.toNat default).aF).length - i3) (0:Nat)
 (fun (i3:Nat)=>⟨[(25,iv ((i3:Nat):Int))],[]⟩) fun i3 =>
 .lt 23 0 i3 (((r.al.getD order.toNat default).aF).length)
 (.r 5 (.p (bz ((i3:Nat):Int) (((r.al.getD order.toNat default).aF).length))) fun _ =>
 .br ((((((r.al.getD order.toNat default).aF).getD i3 default).ask) == ask)&&(((((r.al.getD order.toNat default).aF).getD i3 default).wA) != 0))
 (.r 7 (.p (bz ((((r.al.getD order.toNat default).aF).getD i3 default).wA) places.length)) fun _ =>
 .fin (.inl (.inl (places.getD (((((r.al.getD order.toNat default).aF).getD i3 default).wA).toNat) default,(((r.al.getD order.toNat default).aF).getD i3 default).whole))))
 (.nx 8 25 i3 (i3+1)))
 (.fin (.inl (.inr ()))))
 (fun (_:Unit)=>⟨[],[]⟩) fun _ =>
 .fin (order,false))
def aB r order ask places:=(fN r order ask places).val
theorem Kd {l:List Int} {n:Nat} (h0:0 < n) (h:∀ i,i < 5→0≤l.getD i default∧l.getD i default < n) (hl:l.length=5) (k:Nat):0≤l.getD k default∧l.getD k default < n:=by
  by_cases c:k < 5
  · exact h k c
  · have:l.getD k default=0:=by simp [List.getD,List.getElem?_eq_none (by omega:l.length≤k)]
    rw [this]; omega
theorem iY {r:af} {a b ask:Int} {places:List Int} (h:bL r a ask places=true) (hb:0≤b∧b < r.al.length):bL r b ask places=true:=by
  simp only [bL,gB,Sk.val,eo.c,kk,kp,fj] at h ⊢
  revert h
  simp only [Bool.cond_eq_ite]
  split
  · intro h; cases h
  · rename_i h1
    intro h
    rw [if_neg]
    · exact h
    · simp only [Bool.or_eq_true,decide_eq_true_eq,not_or] at h1 ⊢
      exact ⟨⟨⟨⟨by omega,by omega⟩,h1.1.1.2⟩,h1.1.2⟩,h1.2⟩
theorem rR (r:af) (order:Int) (ask:Int) (places:List Int):(fN r order ask places).dz (fun (x:Int × Bool)=>bL r order ask places=true→0≤x.1∧x.1 < r.al.length):=by
  refine Sk.bq _ ?_
  unfold fN
  simp only [Sk.cV,Sk.aU,reduceCtorEq,ON,kk,kp,dX,af.ck,maxLen]
  all_goals (repeat' first | (apply And.intro) | (intro h))
  all_goals first | trivial | omega | (simp only [LN] at *; first | omega | (exact (Kd (n:=r.al.length) (by grind) (by grind) (by grind) _).1) | (exact (Kd (n:=r.al.length) (by grind) (by grind) (by grind) _).2) | grind)

theorem zi (r:af) (order:Int) (ask:Int) (places:List Int):(fun (x:Int × Bool)=>bL r order ask places=true→0≤x.1∧x.1 < r.al.length) (aB r order ask places):=have h:=Sk.dA _ (rR r order ask places); h
theorem Bw (r:af) (order:Int) (ask:Int) (places:List Int) (hb:r.ck):(fN r order ask places).bE (fun _=>True):=by
  simp only [af.ck] at hb
  unfold fN
  try simp only [dX,af.ck]
  exact oj

def lx r order ask places:=kp tok mixed Tryz.func131 [av r.cells,iv order,iv ask,lv cM places] (fun x=>.ef [iv x.1,bv x.2]) true (aB r order ask places) (Bw r order ask places) (rR r order ask places)
def iK (n:Nat) (l:List Int):Prop:=l.length≠0∧l.Nodup∧∀ x,x∈l→0≤x∧x < n
theorem iK.le {n:Nat} {l:List Int} (h:iK n l):l.length≤n:=by
  have h1:=List.Nodup.length_le_of_subset (l₁:=l) (l₂:=(List.range n).map Int.ofNat) h.2.1 (fun x hx=>by
    have:=h.2.2 x hx
    exact List.mem_map.2 ⟨x.toNat,List.mem_range.2 (by omega),by simp; omega⟩)
  simpa using h1
theorem iK.get {n:Nat} {l:List Int} (h:iK n l) (k:Nat):0≤l.getD k default∧l.getD k default < n:=by
  by_cases hk:k < l.length
  · have e:l.getD k default=l[k]:=by simp [List.getD,hk]
    rw [e]
    exact h.2.2 _ (List.getElem_mem hk)
  · have e:l.getD k default=0:=by simp [List.getD,List.getElem?_eq_none (by omega:l.length≤k)]
    have:=h.le
    have:=h.1
    rw [e]
    omega
theorem iK.Xw {n:Nat} {l:List Int} (h:iK n l) {x:Int} (hx:0≤x∧x < n):∀ y,y∈l++[x]→0≤y∧y < n:=fun y hy=>by
  rcases List.mem_append.1 hy with h1 | h1
  · exact h.2.2 y h1
  · simp only [List.mem_singleton] at h1; subst h1; exact hx
theorem iK.snoc {n:Nat} {l:List Int} (h:iK n l) {x:Int} (hx:0≤x∧x < n) (hn:¬ ∃ q,q < l.length∧(l.getD q default == x)=true):iK n (l++[x]):=by
  refine ⟨by simp,?_,h.Xw hx⟩
  refine List.nodup_append.2 ⟨h.2.1,by simp,fun a ha b hb e=>?_⟩
  simp only [List.mem_singleton] at hb
  subst hb; subst e
  obtain ⟨q,hq,e⟩:=List.getElem_of_mem ha
  exact hn ⟨q,hq,by simp [List.getD,hq,e]⟩
theorem iK.one {n:Nat} {x:Int} (hx:0≤x∧x < n):iK n [x]:=⟨by simp,by simp,fun y hy=>by simp only [List.mem_singleton] at hy; subst hy; exact hx⟩
def fT (r:af) (aj:Int) (ask:Int) (places:List Int):Sk ((List Int) × Int) :=
 .r 1 (.fA ((dX r aj ask places).c) fun x1=>.wh (!x1) false (.p (bz (0:Int) places.length))) fun x1 =>
 .br ((!x1)||((places.getD 0 default) != aj))
 (.fin ([],1))
 (.r 3 (.o [.dy (gr eZ [aj])]) fun _ =>
 .loop (default:(List Int) × Int) (fun i2=>iK r.al.length i2) (fun i2=>r.al.length+1 - i2.length) ([aj]:(List Int))
 (fun (i2:(List Int))=>⟨[(10,ow 100001 i2)],[(100001,fg 3 1 cM i2)]⟩) fun i2 =>
 .r 4 (.au (.p (bz (ar (((i2.length:Nat):Int) - 1)) i2.length)) (.p ((ar (((i2.length:Nat):Int) - 1)).toNat < i2.length))) fun _ =>
 .r 5 ((lx r (i2.getD ((ar (((i2.length:Nat):Int) - 1)).toNat) default) ask places).c) fun x3 =>
 .br (x3.1 == (i2.getD ((ar (((i2.length:Nat):Int) - 1)).toNat) default))
 (.fin (.inl (i2,0)))
 (.r 8 ((bS i2 x3.1).c) fun x4 =>
 .r 9 (.au (.o [.dy (gr eZ [x3.1])]) (.au (.o [.dy (nY eZ i2 [x3.1])]) (.au (.t (eZ.sE [x3.1])) (.p (zb i2.length [x3.1].length 8))))) fun _ =>
 .r 10 (.wh (!x3.2) false (.wh x4 true (.p (bz x3.1 r.al.length)))) fun _ =>
 .br ((!x3.2)||(x4&&((r.al.getD x3.1.toNat default).mb)))
 (.fin (.inl (i2++[x3.1],0)))
 (.br x4
 (.fin (.inl (i2++[x3.1],12)))
 (.fin (.inr (i2++[x3.1]))))))
def bh r aj ask places:=(fT r aj ask places).val
theorem uI (r:af) (aj:Int) (ask:Int) (places:List Int):(fT r aj ask places).dz (fun (x:(List Int) × Int)=>x.2=0→x.1.length≠0∧(∀ y,y∈x.1→0≤y∧y < r.al.length)∧x.1.length≤r.al.length+1):=by
  refine Sk.bq _ ?_
  unfold fT
  simp only [Sk.cV,Sk.aU,reduceCtorEq,ON,kk,kp,lx,dX,bS,aD.Small,af.Small,af.ck,maxLen]
  intro x hx hp
  refine ⟨fun _ h=>by omega,fun hc _=>?_⟩
  have Q1:x=true:=by simp at hc; exact hc.1
  obtain ⟨h1,h2,h3,h4⟩:=hp Q1
  refine ⟨iK.one ⟨h1,h2⟩,fun i hi _ y hy hy2=>?_⟩
  have hy3:=hy2 (iY (hx ▸ Q1) (hi.get _))
  have hle:=hi.le
  refine ⟨fun _=>⟨hi.1,hi.2.2,by omega⟩,fun _ z hz hz2 _ _=>⟨fun _=>⟨by simp,hi.Xw hy3,by simp; omega⟩,fun _=>⟨fun _ h=>by omega,fun hz3=>?_⟩⟩⟩
  have hs:=hi.snoc hy3 (by rw [← hz2,hz3]; simp)
  have:=hs.le
  simp only [List.length_append,List.length_cons,List.length_nil] at this ⊢
  exact ⟨hs,by omega⟩

theorem sW (r:af) (aj:Int) (ask:Int) (places:List Int):(fun (x:(List Int) × Int)=>x.2=0→x.1.length≠0∧(∀ y,y∈x.1→0≤y∧y < r.al.length)∧x.1.length≤r.al.length+1) (bh r aj ask places):=have h:=Sk.dA _ (uI r aj ask places); h
theorem EC (r:af) (aj:Int) (ask:Int) (places:List Int) (hb:r.ck) (hr:r.Small):(fT r aj ask places).bE (fun _=>True):=by
  simp only [aD.Small,af.Small,af.ck] at hb
  simp only [aD.Small,af.Small,af.ck] at hr
  refine Sk.bm _ ?_
  unfold fT
  simp only [Sk.j2,Sk.aU,reduceCtorEq,ON,kk,kp,lx,dX,bS,aD.Small,af.Small,af.ck,maxLen]
  refine ⟨fun x hx hp Q1=>?_,fun x hx hp hc _=>?_⟩
  · have:=hp (by simpa using Q1); omega
  have Q1:x=true:=by simp at hc; exact hc.1
  obtain ⟨h1,h2,h3,h4⟩:=hp Q1
  refine ⟨iK.one ⟨h1,h2⟩,fun i hi=>?_⟩
  have hle:=hi.le
  have rA:=hi.1
  have hw:ar ((i.length:Int) - 1)=(i.length:Int) - 1:=az (by omega) (by omega)
  rw [hw]
  refine ⟨⟨⟨by omega,by omega⟩,by omega⟩,fun _=>⟨hb,fun y hy hy2 adz z hz hz2=>?_⟩⟩
  have hy3:=hy2 (iY (hx ▸ Q1) (hi.get _))
  refine ⟨⟨by simp only [List.length_cons,List.length_nil]; omega,by simp only [List.length_cons,List.length_nil]; omega⟩,fun _=>⟨fun _ _=>hy3,fun _ _ hz3=>?_⟩⟩
  have hs:=hi.snoc hy3 (by rw [← hz2,hz3]; simp)
  have:=hs.le
  simp only [List.length_append,List.length_cons,List.length_nil] at this ⊢
  exact ⟨hs,by omega⟩

def rS r aj ask places:=kp tok mixed Tryz.func93 [av r.cells,iv aj,iv ask,lv cM places] (fun x=>.ef [lv cM x.1,iv x.2]) false (bh r aj ask places) (u2 (EC r aj ask places)) (uI r aj ask places)
theorem Fs {n:Nat} {l:List Int} (h1:l.length≠0) (h2:∀ y,y∈l→0≤y∧y < (n:Int)) (k:Nat):0≤l.getD k default∧l.getD k default < n:=by
  by_cases hk:k < l.length
  · have e:l.getD k default=l[k]:=by simp [List.getD,hk]
    rw [e]
    exact h2 _ (List.getElem_mem hk)
  · have e:l.getD k default=0:=by simp [List.getD,List.getElem?_eq_none (by omega:l.length≤k)]
    have h3:=h2 l[0] (List.getElem_mem (by omega))
    rw [e]
    omega
def pL (r:af) (aj:Int) (aL:Int) (c_:cy):Sk (lO × (List ah)) :=
 .r 2 ((GR r c_).c) fun x1 =>
 .br (((x1.2.length:Nat):Int) == 0)
 (.fin (({ cell:=({ known:=false,n:=0 }:ah),order:=(-1),path:=[],err:=1 }:lO),[]))
 (.r 5 ((jI aL).c) fun x2 =>
 .br (!x2.2)
 (.fin (({ cell:=({ known:=false,n:=0 }:ah),order:=(-1),path:=[],err:=1 }:lO),[]))
 (.r 8 ((vx r aj x1.1).c) fun x3 =>
 .Q5 14 x3.isEmpty nv (lv cM x3)
 (.K7 <|
 .fin (({ cell:=({ known:=false,n:=0 }:ah),order:=(-1),path:=[],err:=1 }:lO),[]))
 (.r 9 (.p (x3.length≠0)) fun _ =>
 .K8 <|
 .r 11 ((rS r aj aL x3).c) fun x4 =>
 .br (x4.2 == 0)
 (.r 13 (.p (bz (ar (((x4.1.length:Nat):Int) - 1)) x4.1.length)) fun _ =>
 .fin (({ cell:=({ known:=false,n:=0 }:ah),order:=x4.1.getD ((ar (((x4.1.length:Nat):Int) - 1)).toNat) default,path:=x4.1,err:=x4.2 }:lO),x1.2))
 (.fin (({ cell:=({ known:=false,n:=0 }:ah),order:=(-1),path:=x4.1,err:=x4.2 }:lO),x1.2)))))
def Bx r aj aL c_:=(pL r aj aL c_).val
theorem Lf (r:af) (aj:Int) (aL:Int) (c_:cy):(pL r aj aL c_).dz (fun (x:lO × (List ah))=>x.1.order = -1∨(0≤x.1.order∧x.1.order < r.al.length∧x.2.length=20)):=by
  refine Sk.bq _ ?_
  unfold pL
  simp only [Sk.cV,Sk.aU,reduceCtorEq,ON,kk,kp,GR,vx,rS,jI,aD.Small,af.Small,af.ck,maxLen]
  intro x hx hp
  refine ⟨fun _=>.inl trivial,fun hc x1 _=>⟨fun _=>.inl trivial,fun _ x2 _=>⟨fun _=>.inl trivial,fun _ _ x4 _ hl=>⟨fun h0 _=>.inr ?_,fun _=>.inl trivial⟩⟩⟩⟩
  obtain ⟨h1,h2,h3⟩:=hl (by simpa using h0)
  have h20:x.2.length=20:=by
    rcases hp with h | h
    · rw [h] at hc; simp at hc
    · exact h.1
  exact ⟨(Fs h1 h2 _).1,(Fs h1 h2 _).2,h20⟩

theorem Ns (r:af) (aj:Int) (aL:Int) (c_:cy) (hf:c_.file.Small) (hb:r.ck) (hr:r.Small):(pL r aj aL c_).bE (fun _=>True):=by
  simp only [aD.Small,af.Small,af.ck] at hf
  simp only [aD.Small,af.Small,af.ck] at hb
  simp only [aD.Small,af.Small,af.ck] at hr
  refine Sk.bm _ ?_
  unfold pL
  simp only [Sk.j2,Sk.aU,reduceCtorEq,ON,kk,kp,GR,vx,rS,jI,aD.Small,af.Small,af.ck,maxLen]
  refine ⟨hf,fun x hx hp hc x1 _ _=>?_⟩
  have Zv:x.2.length=20∧0≤x.1.sign∧x.1.sign < x.1.file.ai.length:=by
    rcases hp with h | h
    · rw [h] at hc; simp at hc
    · exact h
  refine ⟨Zv.2,fun x2 _ he=>⟨fun h=>by simp [List.length_eq_zero_iff.1 h] at he,fun _=>⟨⟨hb,hr⟩,fun x4 _ hl h0=>?_⟩⟩⟩
  obtain ⟨h1,h2,h3⟩:=hl (by simpa using h0)
  rw [az (by omega) (by omega)]
  omega

def GS r aj aL c_:=kp tok mixed Tryz.func65 [av r.cells,iv aj,iv aL,av c_.cells] (fun x=>.ef [av x.1.cells,lv ah.cells x.2]) false (Bx r aj aL c_) (u3 (Ns r aj aL c_)) (Lf r aj aL c_)
def ly (r:lj) (v:Int):Sk (Bool) :=
 .fin (r.ask == v)
def cL r v:=(ly r v).val
theorem uJ (r:lj) (v:Int):cL r v=(r.ask == v):=rfl
theorem C8 (r:lj) (v:Int):(ly r v).bE (fun _=>True):=by
  unfold ly
  exact mY

def qn r v:=kk tok mixed Tryz.func133 [av r.cells,.ref [dI v]] (fun x=>bv x) true (ly r v) (cL r v) (u0 (C8 r v))
def eD (s:List lj) (v:Int):Sk (Int) :=
 .bind true (fun b1=>∀ q,q < s.length→cL (s.getD q default) v=false)
 (.loop (default:Sum (Int) (Unit)) (fun i2=>∀ q,q < i2→cL (s.getD q default) v=false) (fun i2=>s.length - i2) (0:Nat)
 (fun (i2:Nat)=>⟨[(8,iv ((i2:Nat):Int))],[]⟩) fun i2 =>
 .lt 0 0 i2 s.length
 (.r 4 (.au (.p (bz ((i2:Nat):Int) s.length)) ((qn (s.getD i2 default) v).c)) fun x3 =>
 .br x3
 (.fin (.inl (.inl ((i2:Nat):Int))))
 (.nx 6 8 i2 (i2+1)))
 (.fin (.inl (.inr ()))))
 (fun (_:Unit)=>⟨[],[]⟩) fun _ =>
 .fin (-1)
def bA s v:=(eD s v).val
theorem lP (s:List lj) (v:Int):(eD s v).dz (fun (x:Int)=>(x = -1∧∀ q,q < s.length→cL (s.getD q default) v=false)∨(0≤x∧x < s.length∧cL (s.getD x.toNat default) v=true∧∀ q,(q:Nat) < x.toNat→cL (s.getD q default) v=false)):=by
  unfold eD
  try simp only [qn,uJ]
  exact Su

theorem sG (s:List lj) (v:Int):(fun (x:Int)=>(x = -1∧∀ q,q < s.length→cL (s.getD q default) v=false)∨(0≤x∧x < s.length∧cL (s.getD x.toNat default) v=true∧∀ q,(q:Nat) < x.toNat→cL (s.getD q default) v=false)) (bA s v):=have h:=Sk.dA _ (lP s v); h
theorem uK (s:List lj) (v:Int):(eD s v).bE (fun _=>True):=by
  unfold eD
  try simp only [qn,uJ]
  exact qJ

def nm s v:=kp tok mixed Tryz.func132 [lv lj.cells s,.fn 133 [.ref [dI v]]] (fun x=>iv x) true (bA s v) (u0 (uK s v)) (lP s v)
def mi (rv:Term→Int→Int) (rp:Term→Int→Prop) (rf:∀ (t:Term) (level:Int),rp t level→iU Tryz.prog 164 [av t.cells,iv level] [] (iv (rv t level)) []) (t:Term) (level:Int):eo (Int):=⟨Tryz.prog,164,[av t.cells,iv level],fun x=>iv x,true,rv t level,rp t level,rf t level,fun _=>True,trivial⟩
def cT (rv:Term→Int→Int) (rp:Term→Int→Prop) (rf:∀ (t:Term) (level:Int),rp t level→iU Tryz.prog 164 [av t.cells,iv level] [] (iv (rv t level)) []) (t:Term) (level:Int):Sk (Int) :=
 .br (decide (level > 8))
 (.fin 61)
 (.bind true (fun b1=>∀ B:Int,1≤B→B≤1000000→(∀ q,q < t.args.length→1≤rv (t.args.getD q default) (ar (level+1))∧rv (t.args.getD q default) (ar (level+1))≤B)→(1:Int)≤b1∧b1≤60+B∧(b1≤60→t.args.length≤60∧∀ q,q < t.args.length→rv (t.args.getD q default) (ar (level+1))≤60))
 (.loop (default:Sum (Int) (Int)) (fun i2=>i2.2≤t.args.length∧(∀ B:Int,1≤B→B≤1000000→(∀ q,q < t.args.length→1≤rv (t.args.getD q default) (ar (level+1))∧rv (t.args.getD q default) (ar (level+1))≤B)→(1+(i2.2:Int))≤i2.1∧i2.1≤60∧∀ q,q < i2.2→rv (t.args.getD q default) (ar (level+1))≤60)) (fun i2=>t.args.length - i2.2) ((1,0):Int × Nat)
 (fun (i2:Int × Nat)=>⟨[(5,iv i2.1),(13,iv ((i2.2:Nat):Int))],[]⟩) fun i2 =>
 .lt 11 0 i2.2 t.args.length
 (.r 6 (.au (.p (bz ((i2.2:Nat):Int) t.args.length)) (.o [.cast 15 (Sr (Term.zY (t.args.getD i2.2 default)))])) fun _ =>
 .r 7 ((mi rv rp rf (t.args.getD i2.2 default) (ar (level+1))).c) fun x3 =>
 .br (decide ((ar (i2.1+x3)) > 60))
 (.fin (.inl (.inr (ar (i2.1+x3)))))
 (.nx 9 13 i2.2 (ar (i2.1+x3),i2.2+1)))
 (.fin (.inl (.inr i2.1))))
 (fun (b1:Int)=>⟨[(5,iv b1)],[]⟩) fun b1 =>
 .fin b1)
def aI:Nat→Term→Int→Int
  | 0,_,_=>default
  | fu+1,t,level=>(cT (aI fu) (fun _ _=>False) (fun _ _=>fun h=>h.elim) t level).val
/-- no node has too many parts -/
inductive rT:Term→Prop
  | mk {t:Term} (h:t.args.length≤60) (h2:∀ q,q < t.args.length→rT (t.args.getD q default)):rT t
theorem ED (fu:Nat) (rf:∀ (t:Term) (level:Int),t.depth≤fu∧True→iU Tryz.prog 164 [av t.cells,iv level] [] (iv (aI fu t level)) []) (t:Term) (level:Int) (hm:t.depth≤fu+1):(cT (aI fu) (fun t level=>t.depth≤fu∧True) rf t level).bE (fun _=>True):=by
  refine Sk.bm _ ?_
  unfold cT
  simp only [Sk.j2,Sk.aU,reduceCtorEq,ON,kk,kp,mi,maxLen]
  intro PR
  have PR:level≤8:=by simp only [LN] at PR; exact PR
  refine ⟨⟨Nat.zero_le _,fun B _ _ _=>⟨by omega,by omega,fun q hq=>absurd hq (by omega)⟩⟩,fun i hi hlen=>⟨fun hc=>⟨⟨by omega,of_decide_eq_true hc⟩,fun _=>⟨?_,fun x hx=>⟨fun hb B b1 b2 hq=>?_,fun hb _=>⟨?_,⟨?_,fun B b1 b2 hq=>?_⟩,?_⟩⟩⟩⟩,fun hc B b1 b2 hq=>?_⟩⟩
  all_goals (try simp only [LN] at hc)
  all_goals (try simp only [LN] at hb)
  · have:=t.fS i.2 (by omega); omega
  · subst hx
    have q1:=hi.2 B b1 b2 hq
    have q2:=hq i.2 (by omega)
    rw [az (n:=i.1+_) (by omega) (by omega)] at hb ⊢
    exact ⟨by omega,by omega,fun h=>by omega⟩
  · exact az (by omega) (by omega)
  · omega
  · subst hx
    have q1:=hi.2 B b1 b2 hq
    have q2:=hq i.2 (by omega)
    rw [az (n:=i.1+_) (by omega) (by omega)] at hb ⊢
    refine ⟨by omega,by omega,fun q Rk=>?_⟩
    by_cases e:q=i.2
    · subst e; omega
    · exact q1.2.2 q (by omega)
  · omega
  · have q1:=hi.2 B b1 b2 hq
    exact ⟨by omega,by omega,fun _=>⟨by omega,fun q Rk=>q1.2.2 q (by omega)⟩⟩

theorem C9 (fu:Nat) (rp:Term→Int→Prop) (rf:∀ (t:Term) (level:Int),rp t level→iU Tryz.prog 164 [av t.cells,iv level] [] (iv (aI fu t level)) []) (t:Term) (level:Int):(cT (aI fu) rp rf t level).val=aI (fu+1) t level:=by kernel_rfl
theorem Da (fu:Nat):∀ (t:Term) (level:Int),t.depth≤fu→iU Tryz.prog 164 [av t.cells,iv level] [] (iv (aI fu t level)) []:=by
  induction fu with
  | zero=>intro t level hm; exact absurd hm (by have:=Term.fK t; omega)
  | succ fu ih =>
    intro t level hm
    have h:iU Tryz.prog 164 [av t.cells,iv level] [] (iv ((cT (aI fu) (fun t level=>t.depth≤fu∧True) (fun t level h=>ih t level h.1) t level).val)) []:=iU.sk tok mixed (fun x=>iv x) (fun _=>[]) Tryz.func164 rfl (by kernel_rfl) 3000 (cT (aI fu) (fun t level=>t.depth≤fu∧True) (fun t level h=>ih t level h.1) t level) (by kernel_rfl) (ED fu _ t level hm)
    rw [C9] at h
    exact h
def Bz (t:Term) (level:Int):Int:=aI (t.depth) t level
theorem EE (t:Term) (level:Int):iU Tryz.prog 164 [av t.cells,iv level] [] (iv (Bz t level)) []:=Da _ t level (Nat.le_refl _)
def rU (t:Term) (level:Int):eo (Int):=⟨Tryz.prog,164,[av t.cells,iv level],fun x=>iv x,true,Bz t level,True,fun _=>EE t level,fun _=>True,trivial⟩
theorem Term.Ke {B:Nat}:∀ (l:List Term),(∀ q,q < l.length→(l.getD q default).depth≤B)→Term.bO l≤B
  | [],_=>by simp [Term.bO]
  | x :: r,h=>by
    have h0:=h 0 (by simp)
    have:=Term.Ke r (fun q hq=>by simpa using h (q+1) (by simpa using hq))
    simp only [Term.bO]
    simp at h0
    omega

theorem mj:∀ (fu:Nat) (t:Term) (level:Int),t.depth≤fu→1≤level→level≤9→1≤aI fu t level∧aI fu t level≤61+60 * (9 - level)∧(aI fu t level≤60→t.depth+level≤9)∧(aI fu t level≤60→rT t)
  | 0,t,_,hd,_,_=>absurd hd (by have:=t.fK; omega)
  | fu+1,t,level,hd,h1,h9=>by
    have ih:=mj fu
    have key:aI (fu+1) t level=(cT (aI fu) (fun _ _=>False) (fun _ _ h=>h.elim) t level).val:=rfl
    rw [key]
    refine Sk.dA (cT (aI fu) (fun _ _=>False) (fun _ _ h=>h.elim) t level) (L:=fun x=>1≤x∧x≤61+60 * (9 - level)∧(x≤60→t.depth+level≤9)∧(x≤60→rT t)) (Sk.bq _ ?_)
    have hw:ar (level+1)=level+1:=az (by omega) (by omega)
    unfold cT
    simp only [Sk.cV,Sk.aU,reduceCtorEq,false_implies,ni,gd,bD.z,bD.p,bD.t,bD.pt,bD.o,bD.and,bD.au,bD.zX,bD.wh,bD.dep,bD.fA,eo.c,kk,kp,eo.nil,eo.zc,jg.c,jg.nil,mi,implies_true,true_and,and_true,and_self,true_implies,forall_eq,forall_const,hw]
    refine ⟨fun h=>⟨by omega,by omega,fun h=>by omega,fun h=>by omega⟩,fun PR=>?_⟩
    have PR:level≤8:=by simp only [LN] at PR; exact PR
    have hq:∀ q,q < t.args.length→1≤aI fu (t.args.getD q default) (level+1)∧aI fu (t.args.getD q default) (level+1)≤61+60 * (8 - level):=fun q hq=>by
      have:=ih (t.args.getD q default) (level+1) (by have:=t.fS q hq; omega) (by omega) (by omega)
      omega
    refine ⟨⟨⟨Nat.zero_le _,fun B _ _ _=>⟨by omega,by omega,fun q hq=>absurd hq (by omega)⟩⟩,fun i hi=>⟨fun hc=>⟨fun hb=>?_,fun hb=>⟨⟨?_,fun B b1 b2 hq=>?_⟩,?_⟩⟩,fun hc=>?_⟩⟩,fun b hb=>?_⟩
    all_goals (try simp only [LN] at hc)
    all_goals (try simp only [LN] at hb)
    · intro B b1 b2 hq
      have q1:=hi.2 B b1 b2 hq
      have q2:=hq i.2 (by omega)
      rw [az (by omega) (by omega)] at hb ⊢
      exact ⟨by omega,by omega,fun h=>by omega⟩
    · omega
    · have q1:=hi.2 B b1 b2 hq
      have q2:=hq i.2 (by omega)
      rw [az (by omega) (by omega)] at hb ⊢
      refine ⟨by omega,by omega,fun q Rk=>?_⟩
      by_cases e:q=i.2
      · subst e; omega
      · exact q1.2.2 q (by omega)
    · omega
    · intro B b1 b2 hq
      have q1:=hi.2 B b1 b2 hq
      exact ⟨by omega,by omega,fun _=>⟨by omega,fun q Rk=>q1.2.2 q (by omega)⟩⟩
    · have:=hb _ (by omega) (by omega) hq
      refine ⟨this.1,by omega,fun h60=>?_,fun h60=>.mk (this.2.2 h60).1 fun q Rk=>?_⟩
      · have q3:=(this.2.2 h60).2
        have:Term.bO t.args≤(8 - level).toNat:=Term.Ke _ (fun q Rk=>by
          have:=(ih (t.args.getD q default) (level+1) (by have:=t.fS q Rk; omega) (by omega) (by omega)).2.2.1 (q3 q Rk)
          omega)
        have e:t.depth=Term.bO t.args+1:=by obtain ⟨_,_,_⟩:=t; rfl
        omega
      · exact (ih (t.args.getD q default) (level+1) (by have:=t.fS q Rk; omega) (by omega) (by omega)).2.2.2 ((this.2.2 h60).2 q Rk)
def sX (n:Int):Sk (Int) :=
 .fin (eG (cp n (-1099511627776)) 1099511627776)
def pM n:=(sX n).val
theorem pN (n:Int):pM n=(eG (cp n (-1099511627776)) 1099511627776):=rfl
theorem Nt (n:Int):(sX n).bE (fun _=>True):=by
  unfold sX
  exact mY

def iL n:=kk tok mixed Tryz.func192 [iv n] (fun x=>iv x) true (sX n) (pM n) (u0 (Nt n))
def g5 (v:Int):Sk (Int × Bool) :=
 .br ((decide (v < 0))||(decide (v > 19)))
 (.fin (0,false))
 (.br (decide (v < 7))
 (.fin (0,true))
 (.fin (1,true)))
def vy v:=(g5 v).val
theorem EF (v:Int):(g5 v).bE (fun _=>True):=by
  unfold g5
  exact mY

def jl v:=kk tok mixed Tryz.func190 [iv v] (fun x=>.ef [iv x.1,bv x.2]) true (g5 v) (vy v) (u0 (EF v))
def im (t:Term):Sk (Int × Int) :=
 .br (decide (((t.args.length:Nat):Int) > 0))
 (.fin (0,2))
 (.br (t.op == 0)
 (.r 5 ((iL t.n).c) fun x1 =>
 .br (x1 != t.n)
 (.fin (0,3))
 (.fin (0,0)))
 (.br (t.op == 1)
 (.br ((decide (t.n < 0))||(decide (t.n > 1)))
 (.fin (0,3))
 (.fin (1,0)))
 (.r 12 ((jl t.n).c) fun x2 =>
 .br (!x2.2)
 (.fin (0,10))
 (.fin (x2.1,0)))))
def gC t:=(im t).val
theorem Lg (t:Term):(im t).bE (fun _=>True):=by
  unfold im
  try simp only [jl,iL,pN]
  exact qJ

def sY t:=kk tok mixed Tryz.func188 [av t.cells] (fun x=>.ef [iv x.1,iv x.2]) true (im t) (gC t) (u0 (Lg t))
structure Shape where
  args:List Int
  result:Int
  deriving Inhabited
def Shape.cells (c:Shape):List D:=[mS cM c.args,dI c.result]
def ml (op:Int):Sk (Shape) :=
 .br (op == 3)
 (.r 3 (.o [.dy (gr eZ [1])]) fun _ =>
 .fin ({ args:=[1],result:=1 }:Shape))
 (.bind false (fun _=>True)
 (.br (op == 4)
 (.fin (.inr (op == 4)))
 (.fin (.inr (op == 5))))
 (fun (b1:Bool)=>⟨[(8,bv b1)],[]⟩) fun b1 =>
 .br b1
 (.r 6 (.o [.dy (gr eZ [1,1])]) fun _ =>
 .fin ({ args:=[1,1],result:=1 }:Shape))
 (.br (op == 6)
 (.r 8 (.o [.dy (gr eZ [1,(-1),(-1)])]) fun _ =>
 .fin ({ args:=[1,(-1),(-1)],result:=(-1) }:Shape))
 (.br (op == 7)
 (.r 10 (.o [.dy (gr eZ [0,0])]) fun _ =>
 .fin ({ args:=[0,0],result:=1 }:Shape))
 (.br (op == 8)
 (.r 12 (.o [.dy (gr eZ [(-1),(-1)])]) fun _ =>
 .fin ({ args:=[(-1),(-1)],result:=1 }:Shape))
 (.r 13 (.o [.dy (gr eZ [0,0])]) fun _ =>
 .fin ({ args:=[0,0],result:=0 }:Shape))))))
def aY op:=(ml op).val
theorem EG (op:Int):(ml op).bE (fun _=>True):=by
  unfold ml
  exact mY

def np op:=kk tok mixed Tryz.func189 [iv op] (fun x=>av x.cells) false (ml op) (aY op) (u0 (EG op))
end
end Go.Proofs.YtcpmocecjgipbaaGreatDoor
