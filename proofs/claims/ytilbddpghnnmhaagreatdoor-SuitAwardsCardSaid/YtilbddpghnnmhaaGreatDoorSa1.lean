/- Functions, as sketches. -/
import Derived.Test.YtilbddpghnnmhaaGreatDoorSaT
namespace Go.Proofs.YtilbddpghnnmhaaGreatDoor
noncomputable section
open Go Go.Av
set_option linter.unusedSimpArgs false
set_option linter.unusedVariables false
set_option maxHeartbeats 1000000
set_option maxRecDepth 100000
structure zb where
 name:ByteArray
 order:Int
 currency:Int
 rest:List Int
 feasts:List Int
 shut:List Int
 deriving Inhabited
def zb.cells (c:zb):List D:=[.v (.string c.name),dI c.order,dI c.currency,slD jA c.rest,slD jA c.feasts,slD jA c.shut]
def zb.E:Enc zb:=⟨zb.cells,6,fun _=>rfl,fun _=>rfl⟩
structure uQ where
 grade:Int
 deriving Inhabited
def uQ.cells (c:uQ):List D:=[dI c.grade]
def uQ.E:Enc uQ:=⟨uQ.cells,1,fun _=>rfl,fun _=>rfl⟩
structure WH where
 name:ByteArray
 city:Int
 group:Int
 deriving Inhabited
def WH.cells (c:WH):List D:=[.v (.string c.name),dI c.city,dI c.group]
def WH.E:Enc WH:=⟨WH.cells,3,fun _=>rfl,fun _=>rfl⟩
structure uP where
 ask:Int
 by_:Int
 whole:Bool
 deriving Inhabited
def uP.cells (c:uP):List D:=[dI c.ask,dI c.by_,dB c.whole]
def uP.E:Enc uP:=⟨uP.cells,3,fun _=>rfl,fun _=>rfl⟩
structure jl where
 op:Int
 n:Int
 args:List jl
instance:Inhabited jl:=⟨⟨default,default,default⟩⟩
mutual
def jl.argsR:jl→D
 | ⟨_,_,args⟩=>.sl args.length (jl.cellsF args)
def jl.cellsF:List jl→Nat→List D
 | [],_=>[]
 | x :: _,0=>[dI x.op,dI x.n,jl.argsR x]
 | _ :: r,i+1=>jl.cellsF r i
end
def jl.cellsR (x:jl):List D:=[dI x.op,dI x.n,jl.argsR x]
theorem jl.cellsF_at:∀ (l:List jl) (i:Nat),i < l.length→jl.cellsF l i=(l.getD i default).cellsR
 | [],i,h=>absurd h (by simp)
 | x :: r,0,_=>by simp [jl.cellsF,jl.cellsR]
 | x :: r,i+1,h=>by simpa [jl.cellsF] using jl.cellsF_at r i (by simpa using h)
def jl.cells (c:jl):List D:=[dI c.op,dI c.n,slD jl.cellsR c.args]
theorem jl.argsR_le (c:jl):DLe (jl.argsR c) (slD jl.cellsR c.args)∧DLe (slD jl.cellsR c.args) (jl.argsR c):=by
 obtain ⟨op,n,args⟩:=c
 unfold jl.argsR
 exact ⟨DLe.sl rfl (fun i hi=>jl.cellsF_at args i hi),DLe.sl rfl (fun i hi=>(jl.cellsF_at args i hi).symm)⟩
theorem jl.unroll (c:jl):KZ c.cellsR c.cells:=.cons .rfl' (.cons .rfl' (.cons ((jl.argsR_le c).1) (.nil)))
def jl.E:Enc jl:=⟨jl.cellsR,3,fun _=>rfl,fun ⟨_,_,_⟩=>by unfold jl.cellsR; rfl⟩
mutual
def jl.depth:jl→Nat
 | ⟨_,_,args⟩=>jl.depthL args+1
def jl.depthL:List jl→Nat
 | []=>0
 | x :: r=>max x.depth (jl.depthL r)
end
theorem jl.depthL_at:∀ (l:List jl) (i:Nat),i < l.length→(l.getD i default).depth≤jl.depthL l
 | [],i,h=>absurd h (by simp)
 | x :: r,0,_=>by simp [jl.depthL]; omega
 | x :: r,i+1,h=>by
  have:=jl.depthL_at r i (by simpa using h)
  simp [jl.depthL] at this ⊢
  omega
theorem jl.depth_args (c:jl) (i:Nat) (h:i < c.args.length):(c.args.getD i default).depth < c.depth:=by
 obtain ⟨op,n,args⟩:=c
 have:=jl.depthL_at args i h
 simp only [jl.depth]
 omega
theorem jl.depth_pos (c:jl):0 < c.depth:=by
 obtain ⟨op,n,args⟩:=c
 simp only [jl.depth]
 omega
structure JT where
 ask:Int
 term:jl
 deriving Inhabited
def JT.cells (c:JT):List D:=[dI c.ask]++c.term.cells
def JT.E:Enc JT:=⟨JT.cells,4,fun _=>rfl,fun _=>rfl⟩
structure qk where
 name:ByteArray
 accepts:Bool
 choices:List uP
 rules:List JT
 deriving Inhabited
def qk.cells (c:qk):List D:=[.v (.string c.name),dB c.accepts,slD uP.cells c.choices,slD JT.cells c.rules]
def qk.E:Enc qk:=⟨qk.cells,4,fun _=>rfl,fun _=>rfl⟩
structure kO where
 from_:Int
 to_:Int
 days:Int
 deriving Inhabited
def kO.cells (c:kO):List D:=[dI c.from_,dI c.to_,dI c.days]
def kO.E:Enc kO:=⟨kO.cells,3,fun _=>rfl,fun _=>rfl⟩
structure uC where
 from_:Int
 to_:Int
 num:Int
 den:Int
 since:Int
 deriving Inhabited
def uC.cells (c:uC):List D:=[dI c.from_,dI c.to_,dI c.num,dI c.den,dI c.since]
def uC.E:Enc uC:=⟨uC.cells,5,fun _=>rfl,fun _=>rfl⟩
structure Halt where
 order:Int
 from_:Int
 to_:Int
 deriving Inhabited
def Halt.cells (c:Halt):List D:=[dI c.order,dI c.from_,dI c.to_]
def Halt.E:Enc Halt:=⟨Halt.cells,3,fun _=>rfl,fun _=>rfl⟩
structure jg where
 currencies:List ByteArray
 cities:List zb
 groups:List uQ
 firms:List WH
 orders:List qk
 usances:List kO
 rates:List uC
 halts:List Halt
 deriving Inhabited
def jg.cells (c:jg):List D:=[slD vJ c.currencies,slD zb.cells c.cities,slD uQ.cells c.groups,slD WH.cells c.firms,slD qk.cells c.orders,slD kO.cells c.usances,slD uC.cells c.rates,slD Halt.cells c.halts]
def jg.E:Enc jg:=⟨jg.cells,8,fun _=>rfl,fun _=>rfl⟩
def jg.Small (r:jg):Prop:=r.currencies.length≤1000000∧r.cities.length≤1000000∧r.groups.length≤1000000∧r.firms.length≤1000000∧r.orders.length≤1000000∧r.usances.length≤1000000∧r.rates.length≤1000000∧r.halts.length≤1000000 ∧
 ∀ i,i < r.orders.length→(r.orders.getD i default).choices.length≤1000000∧(r.orders.getD i default).rules.length≤1000000
def jg.ByOK (r:jg):Prop:=∀ i j,i < r.orders.length→j < (r.orders.getD i default).choices.length→0≤((r.orders.getD i default).choices.getD j default).by_∧((r.orders.getD i default).choices.getD j default).by_ < 5
def jg.okB (r:jg):Bool:=decide (r.currencies.length≤1000000)&&decide (r.cities.length≤1000000)&&decide (r.groups.length≤1000000)&&decide (r.firms.length≤1000000)&&decide (r.orders.length≤1000000)&&decide (r.usances.length≤1000000)&&decide (r.rates.length≤1000000)&&decide (r.halts.length≤1000000) &&
 r.orders.all fun o=>decide (o.choices.length≤1000000)&&decide (o.rules.length≤1000000)&&o.choices.all fun c=>decide (0≤c.by_)&&decide (c.by_ < 5)
theorem jg.ok_of {r:jg} (h:r.okB=true):r.Small∧r.ByOK:=by
 simp only [jg.okB,Bool.and_eq_true,decide_eq_true_eq,List.all_eq_true] at h
 obtain ⟨⟨⟨⟨⟨⟨⟨⟨h1,h2⟩,h3⟩,h4⟩,h5⟩,h6⟩,h7⟩,h8⟩,h9⟩:=h
 exact ⟨⟨h1,h2,h3,h4,h5,h6,h7,h8,fun i hi=>(h9 _ (Kv hi _)).1⟩,fun i j hi hj=>(h9 _ (Kv hi _)).2 _ (Kv hj _)⟩
def jg.HaltOK (r:jg):Prop:=∀ i,i < r.halts.length→(r.halts.getD i default).to_≤100000
structure uT where
 kind:Int
 n:Int
 unit:Int
 deriving Inhabited
def uT.cells (c:uT):List D:=[dI c.kind,dI c.n,dI c.unit]
def uT.E:Enc uT:=⟨uT.cells,3,fun _=>rfl,fun _=>rfl⟩
structure vP where
 drawer:Int
 drawee:Int
 payee:Int
 sum:Int
 currency:Int
 tenor:uT
 day:Int
 city:Int
 pay:Int
 need:Int
 rate:Int
 flags:Int
 parts:Int
 deriving Inhabited
def vP.cells (c:vP):List D:=[dI c.drawer,dI c.drawee,dI c.payee,dI c.sum,dI c.currency]++c.tenor.cells++[dI c.day,dI c.city,dI c.pay,dI c.need,dI c.rate,dI c.flags,dI c.parts]
def vP.E:Enc vP:=⟨vP.cells,15,fun _=>rfl,fun _=>rfl⟩
structure ql where
 kind:Int
 part:Int
 who:Int
 for_:Int
 to_:Int
 sum:Int
 day:Int
 city:Int
 flags:Int
 deriving Inhabited
def ql.cells (c:ql):List D:=[dI c.kind,dI c.part,dI c.who,dI c.for_,dI c.to_,dI c.sum,dI c.day,dI c.city,dI c.flags]
def ql.E:Enc ql:=⟨ql.cells,9,fun _=>rfl,fun _=>rfl⟩
structure kw where
 at_:Int
 sum:Int
 deriving Inhabited
def kw.cells (c:kw):List D:=[dI c.at_,dI c.sum]
def kw.E:Enc kw:=⟨kw.cells,2,fun _=>rfl,fun _=>rfl⟩
structure jE where
 kind:Int
 who:Int
 to_:Int
 part:Int
 at_:Int
 sum:Int
 day:Int
 city:Int
 form:Int
 deriving Inhabited
def jE.cells (c:jE):List D:=[dI c.kind,dI c.who,dI c.to_,dI c.part,dI c.at_,dI c.sum,dI c.day,dI c.city,dI c.form]
def jE.E:Enc jE:=⟨jE.cells,9,fun _=>rfl,fun _=>rfl⟩
structure vF where
 kind:Int
 at_:Int
 n:Int
 deriving Inhabited
def vF.cells (c:vF):List D:=[dI c.kind,dI c.at_,dI c.n]
def vF.E:Enc vF:=⟨vF.cells,3,fun _=>rfl,fun _=>rfl⟩
structure jh where
 bill:vP
 signs:List ql
 alters:List kw
 acts:List jE
 facts:List vF
 deriving Inhabited
def jh.cells (c:jh):List D:=c.bill.cells++[slD ql.cells c.signs,slD kw.cells c.alters,slD jE.cells c.acts,slD vF.cells c.facts]
def jh.E:Enc jh:=⟨jh.cells,19,fun _=>rfl,fun _=>rfl⟩
def jh.Small (f:jh):Prop:=f.signs.length≤1000000∧f.alters.length≤1000000∧f.acts.length≤1000000∧f.facts.length≤1000000
def jg.FirmOK (r:jg):Prop:=∀ i,i < r.firms.length→0≤(r.firms.getD i default).city∧(r.firms.getD i default).city < r.cities.length
def jg.RateOK (r:jg):Prop:=∀ i,i < r.rates.length→(1≤(r.rates.getD i default).num∧(r.rates.getD i default).num≤1073741824)∧1≤(r.rates.getD i default).den∧(r.rates.getD i default).den≤1073741824
abbrev yO (n:Int):Prop:=0≤n∧n≤1099511627776
def jh.SumOK (f:jh):Prop:=yO f.bill.sum∧(∀ q,q < f.alters.length→yO (f.alters.getD q default).sum)∧(∀ q,q < f.signs.length→yO (f.signs.getD q default).sum)∧∀ q,q < f.acts.length→yO (f.acts.getD q default).sum
def zmc (f:jh) (q:Nat):Prop:=yO (f.signs.getD q default).sum∧(0≤(f.signs.getD q default).kind∧(f.signs.getD q default).kind≤4)∧((f.signs.getD q default).kind=0↔q=0)∧((f.signs.getD q default).kind=3∨(f.signs.getD q default).kind=4→0≤(f.signs.getD q default).for_∧(f.signs.getD q default).for_ < (q:Int))
def zjs (r:jg) (f:jh) (q:Nat):Prop:=(0≤(f.signs.getD q default).who∧(f.signs.getD q default).who < r.firms.length)∧(q≠0→(f.signs.getD (q - 1) default).day≤(f.signs.getD q default).day)∧(f.signs.getD q default).day≤100000∧(q=0→(f.signs.getD q default).day=f.bill.day)∧(0≤(f.signs.getD q default).part∧(f.signs.getD q default).part≤f.bill.parts - 1)∧zmc f q
def zcy (f:jh) (q:Nat):Prop:=yO (f.acts.getD q default).sum∧(f.bill.day≤(f.acts.getD q default).day∧(f.acts.getD q default).day≤100000)∧(q≠0→(f.acts.getD (q - 1) default).day≤(f.acts.getD q default).day)∧((f.acts.getD q default).kind=6→(0≤(f.acts.getD q default).at_∧(f.acts.getD q default).at_ < f.signs.length)∧(f.signs.getD (f.acts.getD q default).at_.toNat default).day≤(f.acts.getD q default).day∧(f.signs.getD (f.acts.getD q default).at_.toNat default).who=(f.acts.getD q default).who)
def zf2 (r:jg) (b:vP):Prop:=(1≤b.sum∧b.sum≤1099511627776)∧(0≤b.pay∧b.pay < r.cities.length)∧(0≤b.day∧b.day≤100000)∧(1≤b.parts∧b.parts≤4)∧(0≤b.currency∧b.currency < r.currencies.length)
def jU (r:jg) (f:jh):Prop:=zf2 r f.bill∧(f.signs.length≤40∧f.signs.length≠0∧f.alters.length≤4∧f.acts.length≤100∧f.facts.length≤200)∧(∀ q,q < f.signs.length→zjs r f q)∧(∀ q,q < f.alters.length→yO (f.alters.getD q default).sum)∧∀ q,q < f.acts.length→zcy f q
theorem jU.small {r:jg} {f:jh} (h:jU r f):f.Small:=by have:=h.2.1; unfold jh.Small; omega
theorem jU.sums {r:jg} {f:jh} (h:jU r f):f.SumOK:=⟨⟨by have:=h.1.1; omega,h.1.1.2⟩,h.2.2.2.1,fun q hq=>(h.2.2.1 q hq).2.2.2.2.2.1,fun q hq=>(h.2.2.2.2 q hq).1⟩
theorem Gx {α:Type} [Inhabited α] {l:List α} {P:α→Prop}:(∀ q,q < l.length→P (l.getD q default))↔∀ x,x∈l→P x:=by
 constructor
 ·intro h x hx
  obtain ⟨i,hi,rfl⟩:=List.getElem_of_mem hx
  have:=h i hi
  rwa [show l.getD i default=l[i] by simp [List.getD,hi]] at this
 ·exact fun h q hq=>h _ (Kv hq _)
def ToQ (r:jg) (f:jh) (q:Nat):Prop:=(f.signs.getD q default).to_ = -1∨(0≤(f.signs.getD q default).to_∧(f.signs.getD q default).to_ < r.firms.length)
def ToF (r:jg) (f:jh):Prop:=(f.bill.payee = -1∨(0≤f.bill.payee∧f.bill.payee < r.firms.length))∧∀ q,q < f.signs.length→ToQ r f q
structure jN where
 forum:Int
 plaintiff:Int
 defendant:Int
 file:Int
 sign:Int
 day:Int
 kind:Int
 deriving Inhabited
def jN.cells (c:jN):List D:=[dI c.forum,dI c.plaintiff,dI c.defendant,dI c.file,dI c.sign,dI c.day,dI c.kind]
def jN.E:Enc jN:=⟨jN.cells,7,fun _=>rfl,fun _=>rfl⟩
structure Move where
 kind:Int
 suit:Int
 day:Int
 no:Int
 deriving Inhabited
def Move.cells (c:Move):List D:=[dI c.kind,dI c.suit,dI c.day,dI c.no]
def Move.E:Enc Move:=⟨Move.cells,4,fun _=>rfl,fun _=>rfl⟩
def GS (n:Int) (limit:Int):Sk (Bool) :=
 .fin ((decide (n≥0))&&(decide (n < limit)))
def znY (n:Int) (limit:Int):Bool:=(GS n limit).val
theorem JW (n:Int) (limit:Int):znY n limit=((decide (n≥0))&&(decide (n < limit))):=rfl
theorem znB (n:Int) (limit:Int):(GS n limit).obs (fun _=>True):=by
 unfold GS
 exact okE
def qb (n:Int) (limit:Int):Ctr (Bool):=kk tok mixed Tryz.func19 [iv n,iv limit] (fun x=>bv x) true (GS n limit) (znY n limit) (fun (_:True)=>znB n limit)
def Jr (stage:Int):Sk (Int × Bool) :=
 .r 1 (.andl (.o [.nrmm (mkM dI)]) (.andl (.o [.nrmm (kg dI ([]:List (Int × Int)) (0:Int) 1)]) (.andl (.o [.nrmm (mkM dI)]) (.andl (.o [.nrmm (kg dI ([]:List (Int × Int)) (1:Int) 1)]) (.andl (.o [.nrmm (kg dI (([]:List (Int × Int))++[(1,1)]) (2:Int) 2)]) (.andl (.o [.nrmm (kg dI ((([]:List (Int × Int))++[(1,1)])++[(2,2)]) (4:Int) 4)]) (.andl (.o [.nrmm (mkM dI)]) (.andl (.o [.nrmm (kg dI ([]:List (Int × Int)) (1:Int) 2)]) (.andl (.o [.nrmm (mkM dI)]) (.andl (.o [.nrmm (kg dI ([]:List (Int × Int)) (2:Int) 1)]) (.andl (.o [.nrmm (mkM dI)]) (.andl (.o [.nrmm (kg dI ([]:List (Int × Int)) (1:Int) 3)]) (.andl (.o [.nrmm (kg dI (([]:List (Int × Int))++[(1,3)]) (4:Int) 3)]) (.andl (.o [.nrmm (mkM dI)]) (.andl (.o [.nrmm (kg dI ([]:List (Int × Int)) (3:Int) 4)]) (.andl (.o [.nrmm (mkM dI)]) (.andl (.o [.nrmm (kg dI ([]:List (Int × Int)) (1:Int) 5)]) (.andl (.o [.nrmm (kg dI (([]:List (Int × Int))++[(1,5)]) (2:Int) 5)]) (.andl (.o [.nrmm (kg dI ((([]:List (Int × Int))++[(1,5)])++[(2,5)]) (3:Int) 5)]) (.o [.nrmm (kg dI (((([]:List (Int × Int))++[(1,5)])++[(2,5)])++[(3,5)]) (4:Int) 5)])))))))))))))))))))) fun _ =>
 .r 2 (.andl (.p (0≤(0:Int)∧(0:Int) < ((7:Nat):Int))) (.andl (.t (Jg dI (([]:List (Int × Int))++[(0,1)]))) (.o [.cast 29 (zgO dI (([]:List (Int × Int))++[(0,1)]) stage (0:Int))]))) fun _ =>
 .fin (kf (([]:List (Int × Int))++[(0,1)]) stage (0:Int),YD (([]:List (Int × Int))++[(0,1)]) stage)
def zbf (stage:Int):Int × Bool:=(Jr stage).val
theorem zdU (stage:Int):(Jr stage).obs (fun _=>True):=by
 unfold Jr
 exact okD
def zeP (stage:Int):Ctr (Int × Bool):=kk tok mixed Tryz.func20 [iv 0,iv stage] (fun x=>.tup [iv x.1,bv x.2]) true (Jr stage) (zbf stage) (fun (_:True)=>zdU stage)
def Jy (stage:Int):Sk (Int × Bool) :=
 .r 1 (.andl (.o [.nrmm (mkM dI)]) (.andl (.o [.nrmm (kg dI ([]:List (Int × Int)) (0:Int) 1)]) (.andl (.o [.nrmm (mkM dI)]) (.andl (.o [.nrmm (kg dI ([]:List (Int × Int)) (1:Int) 1)]) (.andl (.o [.nrmm (kg dI (([]:List (Int × Int))++[(1,1)]) (2:Int) 2)]) (.andl (.o [.nrmm (kg dI ((([]:List (Int × Int))++[(1,1)])++[(2,2)]) (4:Int) 4)]) (.andl (.o [.nrmm (mkM dI)]) (.andl (.o [.nrmm (kg dI ([]:List (Int × Int)) (1:Int) 2)]) (.andl (.o [.nrmm (mkM dI)]) (.andl (.o [.nrmm (kg dI ([]:List (Int × Int)) (2:Int) 1)]) (.andl (.o [.nrmm (mkM dI)]) (.andl (.o [.nrmm (kg dI ([]:List (Int × Int)) (1:Int) 3)]) (.andl (.o [.nrmm (kg dI (([]:List (Int × Int))++[(1,3)]) (4:Int) 3)]) (.andl (.o [.nrmm (mkM dI)]) (.andl (.o [.nrmm (kg dI ([]:List (Int × Int)) (3:Int) 4)]) (.andl (.o [.nrmm (mkM dI)]) (.andl (.o [.nrmm (kg dI ([]:List (Int × Int)) (1:Int) 5)]) (.andl (.o [.nrmm (kg dI (([]:List (Int × Int))++[(1,5)]) (2:Int) 5)]) (.andl (.o [.nrmm (kg dI ((([]:List (Int × Int))++[(1,5)])++[(2,5)]) (3:Int) 5)]) (.o [.nrmm (kg dI (((([]:List (Int × Int))++[(1,5)])++[(2,5)])++[(3,5)]) (4:Int) 5)])))))))))))))))))))) fun _ =>
 .r 2 (.andl (.p (0≤(1:Int)∧(1:Int) < ((7:Nat):Int))) (.andl (.t (Jg dI (((([]:List (Int × Int))++[(1,1)])++[(2,2)])++[(4,4)]))) (.o [.cast 29 (zgO dI (((([]:List (Int × Int))++[(1,1)])++[(2,2)])++[(4,4)]) stage (0:Int))]))) fun _ =>
 .fin (kf (((([]:List (Int × Int))++[(1,1)])++[(2,2)])++[(4,4)]) stage (0:Int),YD (((([]:List (Int × Int))++[(1,1)])++[(2,2)])++[(4,4)]) stage)
def zbj (stage:Int):Int × Bool:=(Jy stage).val
theorem zdl (stage:Int):(Jy stage).obs (fun _=>True):=by
 unfold Jy
 exact okD
def zfa (stage:Int):Ctr (Int × Bool):=kk tok mixed Tryz.func20 [iv 1,iv stage] (fun x=>.tup [iv x.1,bv x.2]) true (Jy stage) (zbj stage) (fun (_:True)=>zdl stage)
def Jn (stage:Int):Sk (Int × Bool) :=
 .r 1 (.andl (.o [.nrmm (mkM dI)]) (.andl (.o [.nrmm (kg dI ([]:List (Int × Int)) (0:Int) 1)]) (.andl (.o [.nrmm (mkM dI)]) (.andl (.o [.nrmm (kg dI ([]:List (Int × Int)) (1:Int) 1)]) (.andl (.o [.nrmm (kg dI (([]:List (Int × Int))++[(1,1)]) (2:Int) 2)]) (.andl (.o [.nrmm (kg dI ((([]:List (Int × Int))++[(1,1)])++[(2,2)]) (4:Int) 4)]) (.andl (.o [.nrmm (mkM dI)]) (.andl (.o [.nrmm (kg dI ([]:List (Int × Int)) (1:Int) 2)]) (.andl (.o [.nrmm (mkM dI)]) (.andl (.o [.nrmm (kg dI ([]:List (Int × Int)) (2:Int) 1)]) (.andl (.o [.nrmm (mkM dI)]) (.andl (.o [.nrmm (kg dI ([]:List (Int × Int)) (1:Int) 3)]) (.andl (.o [.nrmm (kg dI (([]:List (Int × Int))++[(1,3)]) (4:Int) 3)]) (.andl (.o [.nrmm (mkM dI)]) (.andl (.o [.nrmm (kg dI ([]:List (Int × Int)) (3:Int) 4)]) (.andl (.o [.nrmm (mkM dI)]) (.andl (.o [.nrmm (kg dI ([]:List (Int × Int)) (1:Int) 5)]) (.andl (.o [.nrmm (kg dI (([]:List (Int × Int))++[(1,5)]) (2:Int) 5)]) (.andl (.o [.nrmm (kg dI ((([]:List (Int × Int))++[(1,5)])++[(2,5)]) (3:Int) 5)]) (.o [.nrmm (kg dI (((([]:List (Int × Int))++[(1,5)])++[(2,5)])++[(3,5)]) (4:Int) 5)])))))))))))))))))))) fun _ =>
 .r 2 (.andl (.p (0≤(2:Int)∧(2:Int) < ((7:Nat):Int))) (.andl (.t (Jg dI (([]:List (Int × Int))++[(1,2)]))) (.o [.cast 29 (zgO dI (([]:List (Int × Int))++[(1,2)]) stage (0:Int))]))) fun _ =>
 .fin (kf (([]:List (Int × Int))++[(1,2)]) stage (0:Int),YD (([]:List (Int × Int))++[(1,2)]) stage)
def zaL (stage:Int):Int × Bool:=(Jn stage).val
theorem zdS (stage:Int):(Jn stage).obs (fun _=>True):=by
 unfold Jn
 exact okD
def ze5 (stage:Int):Ctr (Int × Bool):=kk tok mixed Tryz.func20 [iv 2,iv stage] (fun x=>.tup [iv x.1,bv x.2]) true (Jn stage) (zaL stage) (fun (_:True)=>zdS stage)
def Jz (stage:Int):Sk (Int × Bool) :=
 .r 1 (.andl (.o [.nrmm (mkM dI)]) (.andl (.o [.nrmm (kg dI ([]:List (Int × Int)) (0:Int) 1)]) (.andl (.o [.nrmm (mkM dI)]) (.andl (.o [.nrmm (kg dI ([]:List (Int × Int)) (1:Int) 1)]) (.andl (.o [.nrmm (kg dI (([]:List (Int × Int))++[(1,1)]) (2:Int) 2)]) (.andl (.o [.nrmm (kg dI ((([]:List (Int × Int))++[(1,1)])++[(2,2)]) (4:Int) 4)]) (.andl (.o [.nrmm (mkM dI)]) (.andl (.o [.nrmm (kg dI ([]:List (Int × Int)) (1:Int) 2)]) (.andl (.o [.nrmm (mkM dI)]) (.andl (.o [.nrmm (kg dI ([]:List (Int × Int)) (2:Int) 1)]) (.andl (.o [.nrmm (mkM dI)]) (.andl (.o [.nrmm (kg dI ([]:List (Int × Int)) (1:Int) 3)]) (.andl (.o [.nrmm (kg dI (([]:List (Int × Int))++[(1,3)]) (4:Int) 3)]) (.andl (.o [.nrmm (mkM dI)]) (.andl (.o [.nrmm (kg dI ([]:List (Int × Int)) (3:Int) 4)]) (.andl (.o [.nrmm (mkM dI)]) (.andl (.o [.nrmm (kg dI ([]:List (Int × Int)) (1:Int) 5)]) (.andl (.o [.nrmm (kg dI (([]:List (Int × Int))++[(1,5)]) (2:Int) 5)]) (.andl (.o [.nrmm (kg dI ((([]:List (Int × Int))++[(1,5)])++[(2,5)]) (3:Int) 5)]) (.o [.nrmm (kg dI (((([]:List (Int × Int))++[(1,5)])++[(2,5)])++[(3,5)]) (4:Int) 5)])))))))))))))))))))) fun _ =>
 .r 2 (.andl (.p (0≤(3:Int)∧(3:Int) < ((7:Nat):Int))) (.andl (.t (Jg dI (([]:List (Int × Int))++[(2,1)]))) (.o [.cast 29 (zgO dI (([]:List (Int × Int))++[(2,1)]) stage (0:Int))]))) fun _ =>
 .fin (kf (([]:List (Int × Int))++[(2,1)]) stage (0:Int),YD (([]:List (Int × Int))++[(2,1)]) stage)
def zat (stage:Int):Int × Bool:=(Jz stage).val
theorem zdE (stage:Int):(Jz stage).obs (fun _=>True):=by
 unfold Jz
 exact okD
def zgW (stage:Int):Ctr (Int × Bool):=kk tok mixed Tryz.func20 [iv 3,iv stage] (fun x=>.tup [iv x.1,bv x.2]) true (Jz stage) (zat stage) (fun (_:True)=>zdE stage)
def JM (stage:Int):Sk (Int × Bool) :=
 .r 1 (.andl (.o [.nrmm (mkM dI)]) (.andl (.o [.nrmm (kg dI ([]:List (Int × Int)) (0:Int) 1)]) (.andl (.o [.nrmm (mkM dI)]) (.andl (.o [.nrmm (kg dI ([]:List (Int × Int)) (1:Int) 1)]) (.andl (.o [.nrmm (kg dI (([]:List (Int × Int))++[(1,1)]) (2:Int) 2)]) (.andl (.o [.nrmm (kg dI ((([]:List (Int × Int))++[(1,1)])++[(2,2)]) (4:Int) 4)]) (.andl (.o [.nrmm (mkM dI)]) (.andl (.o [.nrmm (kg dI ([]:List (Int × Int)) (1:Int) 2)]) (.andl (.o [.nrmm (mkM dI)]) (.andl (.o [.nrmm (kg dI ([]:List (Int × Int)) (2:Int) 1)]) (.andl (.o [.nrmm (mkM dI)]) (.andl (.o [.nrmm (kg dI ([]:List (Int × Int)) (1:Int) 3)]) (.andl (.o [.nrmm (kg dI (([]:List (Int × Int))++[(1,3)]) (4:Int) 3)]) (.andl (.o [.nrmm (mkM dI)]) (.andl (.o [.nrmm (kg dI ([]:List (Int × Int)) (3:Int) 4)]) (.andl (.o [.nrmm (mkM dI)]) (.andl (.o [.nrmm (kg dI ([]:List (Int × Int)) (1:Int) 5)]) (.andl (.o [.nrmm (kg dI (([]:List (Int × Int))++[(1,5)]) (2:Int) 5)]) (.andl (.o [.nrmm (kg dI ((([]:List (Int × Int))++[(1,5)])++[(2,5)]) (3:Int) 5)]) (.o [.nrmm (kg dI (((([]:List (Int × Int))++[(1,5)])++[(2,5)])++[(3,5)]) (4:Int) 5)])))))))))))))))))))) fun _ =>
 .r 2 (.andl (.p (0≤(4:Int)∧(4:Int) < ((7:Nat):Int))) (.andl (.t (Jg dI ((([]:List (Int × Int))++[(1,3)])++[(4,3)]))) (.o [.cast 29 (zgO dI ((([]:List (Int × Int))++[(1,3)])++[(4,3)]) stage (0:Int))]))) fun _ =>
 .fin (kf ((([]:List (Int × Int))++[(1,3)])++[(4,3)]) stage (0:Int),YD ((([]:List (Int × Int))++[(1,3)])++[(4,3)]) stage)
def zaz (stage:Int):Int × Bool:=(JM stage).val
theorem zdQ (stage:Int):(JM stage).obs (fun _=>True):=by
 unfold JM
 exact okD
def zeT (stage:Int):Ctr (Int × Bool):=kk tok mixed Tryz.func20 [iv 4,iv stage] (fun x=>.tup [iv x.1,bv x.2]) true (JM stage) (zaz stage) (fun (_:True)=>zdQ stage)
def JL (stage:Int):Sk (Int × Bool) :=
 .r 1 (.andl (.o [.nrmm (mkM dI)]) (.andl (.o [.nrmm (kg dI ([]:List (Int × Int)) (0:Int) 1)]) (.andl (.o [.nrmm (mkM dI)]) (.andl (.o [.nrmm (kg dI ([]:List (Int × Int)) (1:Int) 1)]) (.andl (.o [.nrmm (kg dI (([]:List (Int × Int))++[(1,1)]) (2:Int) 2)]) (.andl (.o [.nrmm (kg dI ((([]:List (Int × Int))++[(1,1)])++[(2,2)]) (4:Int) 4)]) (.andl (.o [.nrmm (mkM dI)]) (.andl (.o [.nrmm (kg dI ([]:List (Int × Int)) (1:Int) 2)]) (.andl (.o [.nrmm (mkM dI)]) (.andl (.o [.nrmm (kg dI ([]:List (Int × Int)) (2:Int) 1)]) (.andl (.o [.nrmm (mkM dI)]) (.andl (.o [.nrmm (kg dI ([]:List (Int × Int)) (1:Int) 3)]) (.andl (.o [.nrmm (kg dI (([]:List (Int × Int))++[(1,3)]) (4:Int) 3)]) (.andl (.o [.nrmm (mkM dI)]) (.andl (.o [.nrmm (kg dI ([]:List (Int × Int)) (3:Int) 4)]) (.andl (.o [.nrmm (mkM dI)]) (.andl (.o [.nrmm (kg dI ([]:List (Int × Int)) (1:Int) 5)]) (.andl (.o [.nrmm (kg dI (([]:List (Int × Int))++[(1,5)]) (2:Int) 5)]) (.andl (.o [.nrmm (kg dI ((([]:List (Int × Int))++[(1,5)])++[(2,5)]) (3:Int) 5)]) (.o [.nrmm (kg dI (((([]:List (Int × Int))++[(1,5)])++[(2,5)])++[(3,5)]) (4:Int) 5)])))))))))))))))))))) fun _ =>
 .r 2 (.andl (.p (0≤(5:Int)∧(5:Int) < ((7:Nat):Int))) (.andl (.t (Jg dI (([]:List (Int × Int))++[(3,4)]))) (.o [.cast 29 (zgO dI (([]:List (Int × Int))++[(3,4)]) stage (0:Int))]))) fun _ =>
 .fin (kf (([]:List (Int × Int))++[(3,4)]) stage (0:Int),YD (([]:List (Int × Int))++[(3,4)]) stage)
def zai (stage:Int):Int × Bool:=(JL stage).val
theorem zdZ (stage:Int):(JL stage).obs (fun _=>True):=by
 unfold JL
 exact okD
def zgG (stage:Int):Ctr (Int × Bool):=kk tok mixed Tryz.func20 [iv 5,iv stage] (fun x=>.tup [iv x.1,bv x.2]) true (JL stage) (zai stage) (fun (_:True)=>zdZ stage)
def JF (stage:Int):Sk (Int × Bool) :=
 .r 1 (.andl (.o [.nrmm (mkM dI)]) (.andl (.o [.nrmm (kg dI ([]:List (Int × Int)) (0:Int) 1)]) (.andl (.o [.nrmm (mkM dI)]) (.andl (.o [.nrmm (kg dI ([]:List (Int × Int)) (1:Int) 1)]) (.andl (.o [.nrmm (kg dI (([]:List (Int × Int))++[(1,1)]) (2:Int) 2)]) (.andl (.o [.nrmm (kg dI ((([]:List (Int × Int))++[(1,1)])++[(2,2)]) (4:Int) 4)]) (.andl (.o [.nrmm (mkM dI)]) (.andl (.o [.nrmm (kg dI ([]:List (Int × Int)) (1:Int) 2)]) (.andl (.o [.nrmm (mkM dI)]) (.andl (.o [.nrmm (kg dI ([]:List (Int × Int)) (2:Int) 1)]) (.andl (.o [.nrmm (mkM dI)]) (.andl (.o [.nrmm (kg dI ([]:List (Int × Int)) (1:Int) 3)]) (.andl (.o [.nrmm (kg dI (([]:List (Int × Int))++[(1,3)]) (4:Int) 3)]) (.andl (.o [.nrmm (mkM dI)]) (.andl (.o [.nrmm (kg dI ([]:List (Int × Int)) (3:Int) 4)]) (.andl (.o [.nrmm (mkM dI)]) (.andl (.o [.nrmm (kg dI ([]:List (Int × Int)) (1:Int) 5)]) (.andl (.o [.nrmm (kg dI (([]:List (Int × Int))++[(1,5)]) (2:Int) 5)]) (.andl (.o [.nrmm (kg dI ((([]:List (Int × Int))++[(1,5)])++[(2,5)]) (3:Int) 5)]) (.o [.nrmm (kg dI (((([]:List (Int × Int))++[(1,5)])++[(2,5)])++[(3,5)]) (4:Int) 5)])))))))))))))))))))) fun _ =>
 .r 2 (.andl (.p (0≤(6:Int)∧(6:Int) < ((7:Nat):Int))) (.andl (.t (Jg dI ((((([]:List (Int × Int))++[(1,5)])++[(2,5)])++[(3,5)])++[(4,5)]))) (.o [.cast 29 (zgO dI ((((([]:List (Int × Int))++[(1,5)])++[(2,5)])++[(3,5)])++[(4,5)]) stage (0:Int))]))) fun _ =>
 .fin (kf ((((([]:List (Int × Int))++[(1,5)])++[(2,5)])++[(3,5)])++[(4,5)]) stage (0:Int),YD ((((([]:List (Int × Int))++[(1,5)])++[(2,5)])++[(3,5)])++[(4,5)]) stage)
def BS (stage:Int):Int × Bool:=(JF stage).val
theorem zdw (stage:Int):(JF stage).obs (fun _=>True):=by
 unfold JF
 exact okD
def zhh (stage:Int):Ctr (Int × Bool):=kk tok mixed Tryz.func20 [iv 6,iv stage] (fun x=>.tup [iv x.1,bv x.2]) true (JF stage) (BS stage) (fun (_:True)=>zdw stage)
def Gd (kind:Int) (stage:Int):Int × Bool:=match kind.toNat with
 | 0=>zbf stage
 | 1=>zbj stage
 | 2=>zaL stage
 | 3=>zat stage
 | 4=>zaz stage
 | 5=>zai stage
 | _=>BS stage
theorem zj7 (kind:Int) (stage:Int) (h:0≤kind∧kind < 7):FnA Tryz.prog 20 [iv kind,iv stage] [] (.tup [iv ((Gd kind stage).1),bv ((Gd kind stage).2)]) []:=by
 have hk:kind=0∨kind=1∨kind=2∨kind=3∨kind=4∨kind=5∨kind=6:=by omega
 rcases hk with rfl | rfl | rfl | rfl | rfl | rfl | rfl
 ·exact (zeP stage).pf trivial
 ·exact (zfa stage).pf trivial
 ·exact (ze5 stage).pf trivial
 ·exact (zgW stage).pf trivial
 ·exact (zeT stage).pf trivial
 ·exact (zgG stage).pf trivial
 ·exact (zhh stage).pf trivial
def XV (kind stage:Int):Int × Bool :=
 if kind=0 then (if stage=0 then (1,true) else (0,false))
 else if kind=1 then (if stage=1 then (1,true) else if stage=2 then (2,true) else if stage=4 then (4,true) else (0,false))
 else if kind=2 then (if stage=1 then (2,true) else (0,false))
 else if kind=3 then (if stage=2 then (1,true) else (0,false))
 else if kind=4 then (if stage=1 then (3,true) else if stage=4 then (3,true) else (0,false))
 else if kind=5 then (if stage=3 then (4,true) else (0,false))
 else (if stage=1 then (5,true) else if stage=2 then (5,true) else if stage=3 then (5,true) else if stage=4 then (5,true) else (0,false))
theorem gI (l:List (Int × Int)) (a b s:Int):(kf ((a,b) :: l) s 0,YD ((a,b) :: l) s)=if s=a then (b,true) else (kf l s 0,YD l s):=by
 by_cases h:s=a
 ·simp [kf,YD,yY,h]
 ·have e:(s == a)=false:=by simpa using h
  simp [kf,YD,yY,h,e]
theorem zkN (kind stage:Int) (h:0≤kind∧kind < 7):Gd kind stage=XV kind stage:=by
 have hk:kind=0∨kind=1∨kind=2∨kind=3∨kind=4∨kind=5∨kind=6:=by omega
 rcases hk with rfl | rfl | rfl | rfl | rfl | rfl | rfl
 ·show (kf [((0:Int),(1:Int))] stage 0,YD [((0:Int),(1:Int))] stage)=_
  rw [gI]
  rfl
 ·show (kf [((1:Int),(1:Int)),((2:Int),(2:Int)),((4:Int),(4:Int))] stage 0,YD [((1:Int),(1:Int)),((2:Int),(2:Int)),((4:Int),(4:Int))] stage)=_
  rw [gI,gI,gI]
  rfl
 ·show (kf [((1:Int),(2:Int))] stage 0,YD [((1:Int),(2:Int))] stage)=_
  rw [gI]
  rfl
 ·show (kf [((2:Int),(1:Int))] stage 0,YD [((2:Int),(1:Int))] stage)=_
  rw [gI]
  rfl
 ·show (kf [((1:Int),(3:Int)),((4:Int),(3:Int))] stage 0,YD [((1:Int),(3:Int)),((4:Int),(3:Int))] stage)=_
  rw [gI,gI]
  rfl
 ·show (kf [((3:Int),(4:Int))] stage 0,YD [((3:Int),(4:Int))] stage)=_
  rw [gI]
  rfl
 ·show (kf [((1:Int),(5:Int)),((2:Int),(5:Int)),((3:Int),(5:Int)),((4:Int),(5:Int))] stage 0,YD [((1:Int),(5:Int)),((2:Int),(5:Int)),((3:Int),(5:Int)),((4:Int),(5:Int))] stage)=_
  rw [gI,gI,gI,gI]
  rfl
theorem ze3 (kind:Int) (stage:Int):(fun (x:Int × Bool)=>0≤kind∧kind < 7→x=XV kind stage) (Gd kind stage):=zkN kind stage
def XL (kind:Int) (stage:Int):Ctr (Int × Bool):=⟨Tryz.prog,20,[iv kind,iv stage],fun x=>.tup [iv x.1,bv x.2],true,Gd kind stage,0≤kind∧kind < 7,fun h=>zj7 kind stage h,fun (x:Int × Bool)=>0≤kind∧kind < 7→x=XV kind stage,ze3 kind stage⟩
def Vb (suits:List jN) (m:Move) (day:Int) (st:List Int) (ap:List (Int × Bool)):Int × Int × List Int × List (Int × Bool) :=
 if ¬ (0≤m.kind∧m.kind < 7)∨¬ (0≤m.day∧m.day < 100001)∨(m.kind=1∧¬ (0≤m.no∧m.no < 7)) then (1,day,st,ap)
 else if ¬ (0≤m.suit∧m.suit < suits.length) then (4,day,st,ap)
 else if m.day < day∨(m.kind=0∧m.day < (suits.getD m.suit.toNat default).day) then (13,day,st,ap)
 else if (XV m.kind (st.getD m.suit.toNat default)).2=false∨(m.kind=5∧kf ap m.suit false=true) then (7,day,st,ap)
 else (0,m.day,st.set m.suit.toNat (XV m.kind (st.getD m.suit.toNat default)).1,if m.kind=5 then yZ ap m.suit true else ap)
theorem zoW (suits:List jN) (m:Move) (day:Int) (st:List Int) (ap:List (Int × Bool)):(Vb suits m day st ap).2.2.1.length=st.length:=by
 unfold Vb
 repeat' split
 all_goals simp
def ut (m:Move) (v:List jN) (v':Int) (v'':List Int) (v''':List (Int × Bool)):Sk (Int × Int × (List Int) × (List (Int × Bool))) :=
 .r 1 (.dep ((qb m.kind 7).c) fun x1=>.dep (.wh (!x1) false ((qb m.day 100001).c)) fun x2=>.wh ((!x1)||(!x2)) false (.wh (m.kind == 1) true ((qb m.no 7).c))) fun p6 =>
 .br (((!p6.1)||(!p6.2.1))||((m.kind == 1)&&(!p6.2.2)))
 (.fin (1,v',v'',v'''))
 (.r 3 ((qb m.suit ((v.length:Nat):Int)).c) fun x4 =>
 .br (!x4)
 (.fin (4,v',v'',v'''))
 (.r 5 (.wh (decide (m.day < v')) false (.wh (m.kind == 0) true (.p (ixP m.suit v.length)))) fun _ =>
 .br ((decide (m.day < v'))||((m.kind == 0)&&(decide (m.day < ((v.getD m.suit.toNat default).day)))))
 (.fin (13,v',v'',v'''))
 (.r 7 (.andl (.p (ixP m.suit v''.length)) (.andl (.p (m.suit.toNat < v''.length)) ((XL m.kind (v''.getD m.suit.toNat default)).c))) fun x5 =>
 .r 8 (.wh (!x5.2) false (.wh (m.kind == 5) true (.andl (.t (Jg dB v''')) (.o [.cast 80 (zlF dB v''' m.suit false)])))) fun _ =>
 .br ((!x5.2)||((m.kind == 5)&&(kf v''' m.suit false)))
 (.fin (7,v',v'',v'''))
 (.br (m.kind == 5)
 (.r 11 (.andl (.t (Jg dB v''')) (.o [.nrmm (zns dB v''' m.suit true)])) fun _ =>
 .r 12 (.andl (.p (ixP m.suit v''.length)) (.andl (.o [.nrm (Vw ky v'' m.suit.toNat x5.1)]) (.p (m.suit.toNat < v''.length)))) fun _ =>
 .wn 100006 v''.length (v''.set m.suit.toNat x5.1).length <|
 .fin (0,m.day,v''.set m.suit.toNat x5.1,yZ v''' m.suit true))
 (.r 12 (.andl (.p (ixP m.suit v''.length)) (.andl (.o [.nrm (Vw ky v'' m.suit.toNat x5.1)]) (.p (m.suit.toNat < v''.length)))) fun _ =>
 .wn 100006 v''.length (v''.set m.suit.toNat x5.1).length <|
 .fin (0,m.day,v''.set m.suit.toNat x5.1,v'''))))))
def UU (m:Move) (v:List jN) (v':Int) (v'':List Int) (v''':List (Int × Bool)):Int × Int × (List Int) × (List (Int × Bool)):=(ut m v v' v'' v''').val
theorem zdB (m:Move) (v:List jN) (v':Int) (v'':List Int) (v''':List (Int × Bool)):(ut m v v' v'' v''').pst (fun (x:Int × Int × (List Int) × (List (Int × Bool)))=>x=Vb v m v' v'' v'''):=by
 refine Sk.pst_of _ ?_
 unfold ut
 simp only [Sk.pstq,Sk.isLoop,reduceCtorEq,ON,kk,qb,XL,JW,forall_eq,maxLen]
 all_goals simp only [JW,LN] at *
 refine ⟨fun h=>?_,fun h1=>⟨fun h=>?_,fun h2 _=>⟨fun h=>?_,fun h3 he _=>⟨fun h=>?_,fun h4=>⟨fun h5 _ _=>?_,fun h5 _=>?_⟩⟩⟩⟩⟩
 ·unfold Vb; rw [if_pos (by omega)]
 ·unfold Vb; rw [if_neg (by omega),if_pos (by omega)]
 ·unfold Vb; rw [if_neg (by omega),if_neg (by omega),if_pos (by omega)]
 ·rw [he (by omega)] at h
  unfold Vb; rw [if_neg (by omega),if_neg (by omega),if_neg (by omega),if_pos h]
 all_goals rw [he (by omega)] at h4 ⊢
 all_goals unfold Vb
 all_goals rw [if_neg (by omega),if_neg (by omega),if_neg (by omega),if_neg (by rintro (h | h) <;> simp_all)]
 ·rw [if_pos h5]
 ·rw [if_neg h5]
theorem zcH (m:Move) (v:List jN) (v':Int) (v'':List Int) (v''':List (Int × Bool)):(fun (x:Int × Int × (List Int) × (List (Int × Bool)))=>x=Vb v m v' v'' v''') (UU m v v' v'' v'''):=have h:=Sk.pval _ (zdB m v v' v'' v'''); h
theorem zeI (m:Move) (v:List jN) (v':Int) (v'':List Int) (v''':List (Int × Bool)) (hl:v''.length=v.length):(ut m v v' v'' v''').obs (fun _=>True):=by
 unfold ut
 try simp only [qb,XL,JW]
 exact okG
theorem zep (m:Move) (v:List jN) (v':Int) (v'':List Int) (v''':List (Int × Bool)) (hl:v''.length=v.length):FnB Tryz.prog 18 [av m.cells,.ref [slD jN.cells v],.ptr 7 0,.ptr 4 0,.ptr 6 0] [(7,.box [iv v']),(4,.box [ow 100006 v'']),(100006,jy 3 1 jA v''),(6,.box [.mpv 100007]),(100007,mpM dB v''')] ((fun (x:Int × Int × (List Int) × (List (Int × Bool)))=>iv x.1) (UU m v v' v'' v''')) ((fun (x:Int × Int × (List Int) × (List (Int × Bool)))=>[(7,.box [iv x.2.1]),(4,.box [ow 600004 x.2.2.1]),(600004,jy 3 1 jA x.2.2.1),(6,.box [.mpv 600006]),(600006,mpM dB x.2.2.2)]) (UU m v v' v'' v''')) [(2,7),(3,4),(4,6)] :=
 FnB.sk tok mixed (fun x=>iv x.1) (fun x=>[(7,.box [iv x.2.1]),(4,.box [ow 600004 x.2.2.1]),(600004,jy 3 1 jA x.2.2.1),(6,.box [.mpv 600006]),(600006,mpM dB x.2.2.2)]) [(2,7),(3,4),(4,6)] Tryz.func18 rfl (by kernel_rfl) 3000 (ut m v v' v'' v''') (by kernel_rfl) (zeI m v v' v'' v''' hl)
def VO (m:Move) (v:List jN) (v':Int) (v'':List Int) (v''':List (Int × Bool)):zf3 (Int × Int × (List Int) × (List (Int × Bool))):=⟨Tryz.prog,18,[av m.cells,.ref [slD jN.cells v],.ptr 7 0,.ptr 4 0,.ptr 6 0],[(7,.box [iv v']),(4,.box [ow 100006 v'']),(100006,jy 3 1 jA v''),(6,.box [.mpv 100007]),(100007,mpM dB v''')],[(2,7),(3,4),(4,6)],fun x=>iv x.1,fun x=>[(7,.box [iv x.2.1]),(4,.box [ow 600004 x.2.2.1]),(600004,jy 3 1 jA x.2.2.1),(6,.box [.mpv 600006]),(600006,mpM dB x.2.2.2)],UU m v v' v'' v''',(v''.length=v.length),fun h=>zep m v v' v'' v''' h,fun (x:Int × Int × (List Int) × (List (Int × Bool)))=>x=Vb v m v' v'' v''',zcH m v v' v'' v'''⟩
theorem Kb {α:Type} [Inhabited α] {l:List α} {n:Nat} (h:n < l.length):l.take (n+1)=l.take n++[l.getD n default]:=by
 rw [List.take_add_one]
 simp [List.getD,h]
def zdN (suits:List jN) (s:Int × List Int × List (Int × Bool)) (m:Move):Int × Int × List Int × List (Int × Bool):=Vb suits m s.1 s.2.1 s.2.2
def vf (suits:List jN):List Move→Int × List Int × List (Int × Bool)→List Int × Int × List Int × List (Int × Bool)
 | [],s=>([],s)
 | m :: r,s=>((zdN suits s m).1 :: (vf suits r (zdN suits s m).2).1,(vf suits r (zdN suits s m).2).2)
theorem Hm (suits:List jN) (l r:List Move):∀ s,vf suits (l++r) s=((vf suits l s).1++(vf suits r (vf suits l s).2).1,(vf suits r (vf suits l s).2).2):=by
 induction l with
 | nil=>intro s; rfl
 | cons m l ih=>intro s; simp only [List.cons_append,vf,ih]
theorem zgD (suits:List jN) (l:List Move):∀ s,(vf suits l s).1.length=l.length:=by
 induction l with
 | nil=>intro s; rfl
 | cons m l ih=>intro s; simp only [vf,List.length_cons,ih]
theorem zc0 (suits:List jN) (l:List Move):∀ s,(vf suits l s).2.2.1.length=s.2.1.length:=by
 induction l with
 | nil=>intro s; rfl
 | cons m l ih=>intro s; simp only [vf,ih]; exact zoW _ _ _ _ _
def Ku (suits:List jN):Int × List Int × List (Int × Bool):=(0,List.replicate suits.length 0,[])
theorem zbF (suits:List jN) (l:List Move) (n:Nat) (h:n < l.length) (s:Int × List Int × List (Int × Bool)):vf suits (l.take (n+1)) s=((vf suits (l.take n) s).1++[(zdN suits (vf suits (l.take n) s).2 (l.getD n default)).1],(zdN suits (vf suits (l.take n) s).2 (l.getD n default)).2):=by
 rw [Kb h,Hm]
 rfl
def Kc (suits:List jN) (moves:List Move):Sk ((List Int) × (List Int)) :=
 .r 0 (.o [.pur 2]) fun _ =>
 .r 1 (.andl (.o [.nrm (mkC ky suits.length 0)]) (.p (mkP ((suits.length:Nat):Int) 8))) fun _ =>
 .r 2 (.o [.nrmm (mkM dB)]) fun _ =>
 .bind true (fun b1=>(vf suits moves (Ku suits)).1=b1.1∧(vf suits moves (Ku suits)).2.2.1=b1.2)
 (.loop (default:Sum ((List Int) × (List Int)) ((List Int) × (List Int))) (fun i2=>i2.2.1≤moves.length∧vf suits (moves.take i2.2.1) (Ku suits)=(i2.1,i2.2.2.2.2,i2.2.2.1,i2.2.2.2.1)) (fun i2=>moves.length - i2.2.1) (([],0,List.replicate suits.length (0:Int),([]:List (Int × Bool)),0):(List Int) × Nat × (List Int) × (List (Int × Bool)) × Int)
 (fun (i2:(List Int) × Nat × (List Int) × (List (Int × Bool)) × Int)=>⟨[(5,ow 100005 i2.1),(18,iv (i2.2.1:Int))],[(100005,jy 30 1 jA i2.1),(100006,jy 3 1 jA i2.2.2.1),(100007,mpM dB i2.2.2.2.1),(4,.box [ow 100006 i2.2.2.1]),(6,.box [.mpv 100007]),(7,.box [iv i2.2.2.2.2])]⟩) fun i2 =>
 .bnd 16 0 moves.length <|
 .br (decide ((i2.2.1:Int) < ((moves.length:Nat):Int)))
 (.r 7 (.p (ixP (i2.2.1:Int) moves.length)) fun _ =>
 .r 8 (.depr ((VO (moves.getD i2.2.1 default) suits i2.2.2.2.2 i2.2.2.1 i2.2.2.2.1).c) fun x3=>.andl (.o [.nrm (qt ky [x3.1])]) (.andl (.o [.nrm (Ji ky i2.1 [x3.1])]) (.andl (.t (ky.ones [x3.1])) (.p (szP i2.1.length [x3.1].length 8))))) fun x3 =>
 .r 9 .z fun _ =>
 .wi 18 (w64 ((i2.2.1:Int)+1)) ((i2.2.1+1:Nat):Int) <|
 .fin (.inr (i2.1++[x3.1],i2.2.1+1,x3.2.2.1,x3.2.2.2,x3.2.1)))
 (.fin (.inl (.inr (i2.1,i2.2.2.1)))))
 (fun (b1:(List Int) × (List Int))=>⟨[(5,ow 100003 b1.1)],[(100003,jy 30 1 jA b1.1),(100004,jy 3 1 jA b1.2),(4,.box [ow 100004 b1.2])]⟩) fun b1 =>
 .fin (b1.2,b1.1)
def zaZ (suits:List jN) (moves:List Move):(List Int) × (List Int):=(Kc suits moves).val
theorem zkf (suits:List jN) (moves:List Move):(Kc suits moves).pst (fun (x:(List Int) × (List Int))=>x=((vf suits moves (Ku suits)).2.2.1,(vf suits moves (Ku suits)).1)):=by
 refine Sk.pst_of _ ?_
 unfold Kc
 simp only [Sk.pstq,Sk.isLoop,reduceCtorEq,ON,kk,VO,zf3.c,maxLen]
 all_goals simp only [LN] at *
 refine fun _ _ _=>⟨⟨⟨by omega,rfl⟩,fun i hi=>⟨fun hlt _ x _ hx _=>⟨⟨by omega,?_⟩,by omega⟩,fun hge=>?_⟩⟩,fun b hb=>?_⟩
 ·have h:=zbF suits moves i.2.1 (by omega) (Ku suits)
  rw [hi.2] at h
  rw [h,hx]; rfl
 ·have e:moves.take i.2.1=moves:=List.take_of_length_le (by omega)
  have h:=hi.2
  rw [e] at h
  rw [h]; exact ⟨rfl,rfl⟩
 ·rw [hb.1,hb.2]
theorem ziz (suits:List jN) (moves:List Move):(fun (x:(List Int) × (List Int))=>x=((vf suits moves (Ku suits)).2.2.1,(vf suits moves (Ku suits)).1)) (zaZ suits moves):=have h:=Sk.pval _ (zkf suits moves); h
theorem zk3 (suits:List jN) (moves:List Move) (hs:suits.length≤1000) (hm:moves.length≤1000):(Kc suits moves).obs (fun _=>True):=by
 refine Sk.obs_of _ ?_
 unfold Kc
 simp only [Sk.obq,Sk.isLoop,reduceCtorEq,ON,kk,VO,zf3.c,maxLen]
 all_goals simp only [LN] at *
 refine fun _=>⟨⟨by omega,by omega,by omega⟩,fun _ _=>⟨⟨by omega,rfl⟩,fun i hi _=>⟨fun hlt=>⟨by omega,fun _=>⟨⟨?_,fun x _ _=>?_⟩,fun x _ hx _=>⟨?_,⟨by omega,?_⟩,by omega⟩⟩⟩,fun hge=>?_⟩⟩⟩
 ·have h:=zc0 suits (moves.take i.2.1) (Ku suits)
  rw [hi.2] at h
  simpa [Ku] using h
 ·have h:=zgD suits (moves.take i.2.1) (Ku suits)
  rw [hi.2] at h
  simp only [List.length_take] at h
  omega
 ·rw [jj (by omega) (by omega)]; omega
 ·have h:=zbF suits moves i.2.1 (by omega) (Ku suits)
  rw [hi.2] at h
  rw [h,hx]; rfl
 ·have e:moves.take i.2.1=moves:=List.take_of_length_le (by omega)
  have h:=hi.2
  rw [e] at h
  rw [h]; exact ⟨rfl,rfl⟩
def Qj (suits:List jN) (moves:List Move):Ctr ((List Int) × (List Int)):=kk tok mixed Tryz.func8 [lv jN.cells suits,lv Move.cells moves] (fun x=>.tup [lv jA x.1,lv jA x.2]) false (Kc suits moves) (zaZ suits moves) (fun (h:(suits.length≤1000)∧(moves.length≤1000))=>zk3 suits moves h.1 h.2) (fun (x:(List Int) × (List Int))=>x=((vf suits moves (Ku suits)).2.2.1,(vf suits moves (Ku suits)).1)) (ziz suits moves)
def Jv (a:List Int) (b:List Int):Sk (Bool) :=
 .br (((a.length:Nat):Int) != ((b.length:Nat):Int))
 (.fin false)
 (.bind true (fun _=>True)
 (.loop (default:Sum (Bool) (Unit)) (fun i2=>i2≤a.length) (fun i2=>a.length - i2) (0:Nat)
 (fun (i2:Nat)=>⟨[(5,iv (i2:Int))],[]⟩) fun i2 =>
 .bnd 0 0 a.length <|
 .br (decide ((i2:Int) < ((a.length:Nat):Int)))
 (.r 6 (.andl (.p (ixP (i2:Int) a.length)) (.p (ixP (i2:Int) b.length))) fun _ =>
 .br ((a.getD i2 default) != (b.getD i2 default))
 (.fin (.inl (.inl false)))
 (.r 5 .z fun _ =>
 .wi 5 (w64 ((i2:Int)+1)) ((i2+1:Nat):Int) <|
 .fin (.inr (i2+1))))
 (.fin (.inl (.inr ()))))
 (fun (_:Unit)=>⟨[],[]⟩) fun _ =>
 .fin true)
def zj4 (a:List Int) (b:List Int):Bool:=(Jv a b).val
theorem zec (a:List Int) (b:List Int):(Jv a b).obs (fun _=>True):=by
 unfold Jv
 exact okD
def Uz (a:List Int) (b:List Int):Ctr (Bool):=kk tok mixed Tryz.func17 [lv jA a,lv jA b] (fun x=>bv x) true (Jv a b) (zj4 a b) (fun (_:True)=>zec a b)
def zo (a:List Int) (b:List Int):Sk (Bool) :=
 .br (((a.length:Nat):Int) != ((b.length:Nat):Int))
 (.fin false)
 (.bind true (fun _=>True)
 (.loop (default:Sum (Bool) (Unit)) (fun i2=>i2≤a.length) (fun i2=>a.length - i2) (0:Nat)
 (fun (i2:Nat)=>⟨[(5,iv (i2:Int))],[]⟩) fun i2 =>
 .bnd 0 0 a.length <|
 .br (decide ((i2:Int) < ((a.length:Nat):Int)))
 (.r 6 (.andl (.p (ixP (i2:Int) a.length)) (.p (ixP (i2:Int) b.length))) fun _ =>
 .br ((a.getD i2 default) != (b.getD i2 default))
 (.fin (.inl (.inl false)))
 (.r 5 .z fun _ =>
 .wi 5 (w64 ((i2:Int)+1)) ((i2+1:Nat):Int) <|
 .fin (.inr (i2+1))))
 (.fin (.inl (.inr ()))))
 (fun (_:Unit)=>⟨[],[]⟩) fun _ =>
 .fin true)
def Xx (a:List Int) (b:List Int):Bool:=(zo a b).val
theorem Bh (a:List Int) (b:List Int) (hP:a=b):(zo a b).pst (fun (x:Bool)=>x=true):=by
 unfold zo
 exact okP
theorem Fi (a:List Int) (b:List Int):(fun (x:Bool)=>(a=b)→(x=true)) (Xx a b):=fun hP=>Sk.pval _ (Bh a b hP)
theorem zay (a:List Int) (b:List Int):(zo a b).obs (fun _=>True):=by
 unfold zo
 exact okD
def Qf (a:List Int) (b:List Int):Ctr (Bool):=kk tok mixed Tryz.func9 [lv jA a,lv jA b] (fun x=>bv x) true (zo a b) (Xx a b) (fun (_:True)=>zay a b) (fun (x:Bool)=>(a=b)→(x=true)) (Fi a b)
structure Jd where
 suit:Int
 sum:Int
 currency:Int
 state:Int
 deriving Inhabited
def Jd.cells (c:Jd):List D:=[dI c.suit,dI c.sum,dI c.currency,dI c.state]
def Jd.E:Enc Jd:=⟨Jd.cells,4,fun _=>rfl,fun _=>rfl⟩
def um (r:jg):Sk ((List ByteArray) × (List ByteArray) × (List ByteArray)) :=
 .bind true (fun b1=>b1.length≤0+r.cities.length)
 (.loop (default:Sum ((List ByteArray) × (List ByteArray) × (List ByteArray)) ((List ByteArray))) (fun i2=>i2.2≤r.cities.length∧i2.1.length≤0+i2.2) (fun i2=>r.cities.length - i2.2) (([],0):(List ByteArray) × Nat)
 (fun (i2:(List ByteArray) × Nat)=>⟨[(2,ow 100002 i2.1),(14,iv (i2.2:Int))],[(100002,jy 9 1 vJ i2.1)]⟩) fun i2 =>
 .bnd 12 0 r.cities.length <|
 .br (decide ((i2.2:Int) < ((r.cities.length:Nat):Int)))
 (.r 3 (.p (ixP (i2.2:Int) r.cities.length)) fun _ =>
 .r 4 (.andl (.o [.nrm (qt YY [(r.cities.getD i2.2 default).name])]) (.andl (.o [.nrm (Ji YY i2.1 [(r.cities.getD i2.2 default).name])]) (.andl (.t (YY.ones [(r.cities.getD i2.2 default).name])) (.p (szP i2.1.length [(r.cities.getD i2.2 default).name].length 16))))) fun _ =>
 .r 5 .z fun _ =>
 .wi 14 (w64 ((i2.2:Int)+1)) ((i2.2+1:Nat):Int) <|
 .fin (.inr (i2.1++[(r.cities.getD i2.2 default).name],i2.2+1)))
 (.fin (.inl (.inr i2.1))))
 (fun (b1:(List ByteArray))=>⟨[(2,ow 100001 b1)],[(100001,jy 9 1 vJ b1)]⟩) fun b1 =>
 .bind true (fun b3=>b3.length≤0+r.firms.length)
 (.loop (default:Sum ((List ByteArray) × (List ByteArray) × (List ByteArray)) ((List ByteArray))) (fun i4=>i4.2≤r.firms.length∧i4.1.length≤0+i4.2) (fun i4=>r.firms.length - i4.2) (([],0):(List ByteArray) × Nat)
 (fun (i4:(List ByteArray) × Nat)=>⟨[(3,ow 100005 i4.1),(27,iv (i4.2:Int))],[(100005,jy 9 1 vJ i4.1)]⟩) fun i4 =>
 .bnd 25 0 r.firms.length <|
 .br (decide ((i4.2:Int) < ((r.firms.length:Nat):Int)))
 (.r 8 (.p (ixP (i4.2:Int) r.firms.length)) fun _ =>
 .r 9 (.andl (.o [.nrm (qt YY [(r.firms.getD i4.2 default).name])]) (.andl (.o [.nrm (Ji YY i4.1 [(r.firms.getD i4.2 default).name])]) (.andl (.t (YY.ones [(r.firms.getD i4.2 default).name])) (.p (szP i4.1.length [(r.firms.getD i4.2 default).name].length 16))))) fun _ =>
 .r 10 .z fun _ =>
 .wi 27 (w64 ((i4.2:Int)+1)) ((i4.2+1:Nat):Int) <|
 .fin (.inr (i4.1++[(r.firms.getD i4.2 default).name],i4.2+1)))
 (.fin (.inl (.inr i4.1))))
 (fun (b3:(List ByteArray))=>⟨[(3,ow 100004 b3)],[(100004,jy 9 1 vJ b3)]⟩) fun b3 =>
 .bind true (fun b5=>b5.length≤0+r.orders.length)
 (.loop (default:Sum ((List ByteArray) × (List ByteArray) × (List ByteArray)) ((List ByteArray))) (fun i6=>i6.2≤r.orders.length∧i6.1.length≤0+i6.2) (fun i6=>r.orders.length - i6.2) (([],0):(List ByteArray) × Nat)
 (fun (i6:(List ByteArray) × Nat)=>⟨[(4,ow 100008 i6.1),(40,iv (i6.2:Int))],[(100008,jy 9 1 vJ i6.1)]⟩) fun i6 =>
 .bnd 38 0 r.orders.length <|
 .br (decide ((i6.2:Int) < ((r.orders.length:Nat):Int)))
 (.r 13 (.p (ixP (i6.2:Int) r.orders.length)) fun _ =>
 .r 14 (.andl (.o [.nrm (qt YY [(r.orders.getD i6.2 default).name])]) (.andl (.o [.nrm (Ji YY i6.1 [(r.orders.getD i6.2 default).name])]) (.andl (.t (YY.ones [(r.orders.getD i6.2 default).name])) (.p (szP i6.1.length [(r.orders.getD i6.2 default).name].length 16))))) fun _ =>
 .r 15 .z fun _ =>
 .wi 40 (w64 ((i6.2:Int)+1)) ((i6.2+1:Nat):Int) <|
 .fin (.inr (i6.1++[(r.orders.getD i6.2 default).name],i6.2+1)))
 (.fin (.inl (.inr i6.1))))
 (fun (b5:(List ByteArray))=>⟨[(4,ow 100007 b5)],[(100007,jy 9 1 vJ b5)]⟩) fun b5 =>
 .fin (b1,b3,b5)
def zcT (r:jg):(List ByteArray) × (List ByteArray) × (List ByteArray):=(um r).val
theorem zdy (r:jg):(um r).pst (fun (x:(List ByteArray) × (List ByteArray) × (List ByteArray))=>x.1.length≤r.cities.length∧x.2.1.length≤r.firms.length∧x.2.2.length≤r.orders.length):=by
 unfold um
 try simp only [jh.Small,jg.Small]
 exact okP
theorem zbN (r:jg):(fun (x:(List ByteArray) × (List ByteArray) × (List ByteArray))=>x.1.length≤r.cities.length∧x.2.1.length≤r.firms.length∧x.2.2.length≤r.orders.length) (zcT r):=have h:=Sk.pval _ (zdy r); h
theorem zht (r:jg) (hr:r.Small):(um r).obs (fun _=>True):=by
 simp only [jh.Small,jg.Small] at hr
 unfold um
 try simp only [jh.Small,jg.Small]
 exact okD
def YI (r:jg):Ctr ((List ByteArray) × (List ByteArray) × (List ByteArray)):=kk tok mixed Tryz.func88 [av r.cells] (fun x=>.tup [lv vJ x.1,lv vJ x.2.1,lv vJ x.2.2]) false (um r) (zcT r) (fun (h:(r.Small))=>zht r h) (fun (x:(List ByteArray) × (List ByteArray) × (List ByteArray))=>x.1.length≤r.cities.length∧x.2.1.length≤r.firms.length∧x.2.2.length≤r.orders.length) (zbN r)
def JN (s:ByteArray):Sk (Bool) :=
 .br ((s.toList == (⟨#[]⟩:ByteArray).toList)||(decide (((s.size:Nat):Int) > 20)))
 (.fin false)
 (.r 3 (.andl (.o [.nrm (zrZ s)]) (.p (s.size≤maxLen))) fun _ =>
 .bind true (fun _=>True)
 (.loop (default:Sum (Bool) (Unit)) (fun i2=>i2≤(yU s).length) (fun i2=>(yU s).length - i2) (0:Nat)
 (fun (i2:Nat)=>⟨[(16,iv (i2:Int))],[]⟩) fun i2 =>
 .bnd 14 0 ((yU s).length) <|
 .br (decide ((i2:Int) < (((yU s).length:Nat):Int)))
 (.r 5 (.p (ixP (i2:Int) ((yU s).length))) fun _ =>
 .br ((!(((decide (((yU s).getD i2 default)≥97))&&(decide (((yU s).getD i2 default)≤122)))||((decide (((yU s).getD i2 default)≥65))&&(decide (((yU s).getD i2 default)≤90)))))&&(((i2:Int) == 0)||((((yU s).getD i2 default) != 95)&&((decide (((yU s).getD i2 default) < 48))||(decide (((yU s).getD i2 default) > 57))))))
 (.fin (.inl (.inl false)))
 (.r 9 .z fun _ =>
 .wi 16 (w64 ((i2:Int)+1)) ((i2+1:Nat):Int) <|
 .fin (.inr (i2+1))))
 (.fin (.inl (.inr ()))))
 (fun (_:Unit)=>⟨[],[]⟩) fun _ =>
 .fin true)
def zkp (s:ByteArray):Bool:=(JN s).val
theorem zdt (s:ByteArray):(JN s).obs (fun _=>True):=by
 unfold JN
 exact okD
def Xw (s:ByteArray):Ctr (Bool):=kk tok mixed Tryz.func161 [sv s] (fun x=>bv x) true (JN s) (zkp s) (fun (_:True)=>zdt s)
def zI (s:List ByteArray) (v:ByteArray):Sk (Int) :=
 .bind true (fun b1=>∀ q,q < s.length→((s.getD q default).toList == v.toList)=false)
 (.loop (default:Sum (Int) (Unit)) (fun i2=>∀ q,q < i2→((s.getD q default).toList == v.toList)=false) (fun i2=>s.length - i2) (0:Nat)
 (fun (i2:Nat)=>⟨[(8,iv (i2:Int))],[]⟩) fun i2 =>
 .bnd 0 0 s.length <|
 .br (decide ((i2:Int) < ((s.length:Nat):Int)))
 (.r 4 (.p (ixP (i2:Int) s.length)) fun _ =>
 .br (v.toList == (s.getD i2 default).toList)
 (.fin (.inl (.inl (i2:Int))))
 (.r 6 .z fun _ =>
 .wi 8 (w64 ((i2:Int)+1)) ((i2+1:Nat):Int) <|
 .fin (.inr (i2+1))))
 (.fin (.inl (.inr ()))))
 (fun (_:Unit)=>⟨[],[]⟩) fun _ =>
 .fin (-1)
def FR (s:List ByteArray) (v:ByteArray):Int:=(zI s v).val
theorem zbk (s:List ByteArray) (v:ByteArray):(zI s v).pst (fun (x:Int)=>(x = -1∧∀ q,q < s.length→((s.getD q default).toList == v.toList)=false)∨(0≤x∧x < s.length∧((s.getD x.toNat default).toList == v.toList)=true∧∀ q,(q:Nat) < x.toNat→((s.getD q default).toList == v.toList)=false)):=by
 unfold zI
 exact okP
theorem Bl (s:List ByteArray) (v:ByteArray):(fun (x:Int)=>(x = -1∧∀ q,q < s.length→((s.getD q default).toList == v.toList)=false)∨(0≤x∧x < s.length∧((s.getD x.toNat default).toList == v.toList)=true∧∀ q,(q:Nat) < x.toNat→((s.getD q default).toList == v.toList)=false)) (FR s v):=have h:=Sk.pval _ (zbk s v); h
theorem zbI (s:List ByteArray) (v:ByteArray):(zI s v).obs (fun _=>True):=by
 unfold zI
 exact okD
def ZC (s:List ByteArray) (v:ByteArray):Ctr (Int):=kk tok mixed Tryz.func197 [lv vJ s,sv v] (fun x=>iv x) true (zI s v) (FR s v) (fun (_:True)=>zbI s v) (fun (x:Int)=>(x = -1∧∀ q,q < s.length→((s.getD q default).toList == v.toList)=false)∨(0≤x∧x < s.length∧((s.getD x.toNat default).toList == v.toList)=true∧∀ q,(q:Nat) < x.toNat→((s.getD q default).toList == v.toList)=false)) (Bl s v)
def qH (s:List ByteArray) (v:ByteArray):Sk (Bool) :=
 .r 1 ((ZC s v).c) fun x1 =>
 .fin (decide (x1≥0))
def Gl (s:List ByteArray) (v:ByteArray):Bool:=(qH s v).val
theorem HK (s:List ByteArray) (v:ByteArray):(qH s v).pst (fun (x:Bool)=>(x=true↔∃ q,q < s.length∧((s.getD q default).toList == v.toList)=true)):=by
 unfold qH
 try simp only [ZC]
 exact okP
theorem Xt (s:List ByteArray) (v:ByteArray):(fun (x:Bool)=>(x=true↔∃ q,q < s.length∧((s.getD q default).toList == v.toList)=true)) (Gl s v):=have h:=Sk.pval _ (HK s v); h
theorem Ft (s:List ByteArray) (v:ByteArray):(qH s v).obs (fun _=>True):=by
 unfold qH
 try simp only [ZC]
 exact okE
def Uy (s:List ByteArray) (v:ByteArray):Ctr (Bool):=kk tok mixed Tryz.func162 [lv vJ s,sv v] (fun x=>bv x) true (qH s v) (Gl s v) (fun (_:True)=>Ft s v) (fun (x:Bool)=>(x=true↔∃ q,q < s.length∧((s.getD q default).toList == v.toList)=true)) (Xt s v)
def KD (names:List ByteArray) (i:Int):Sk (Int) :=
 .r 1 (.andl (.p (ixP i names.length)) ((Xw (names.getD i.toNat default)).c)) fun x1 =>
 .br (!x1)
 (.fin 2)
 (.r 3 (.andl (.andl (.o [.nrm (zsj YY names 0 i.toNat)]) (.pt (0≤i∧i≤((names.length:Nat):Int)) (YY.lens names))) (.andl (.p (ixP i names.length)) ((Uy (uI names 0 i.toNat) (names.getD i.toNat default)).c))) fun x2 =>
 .br x2
 (.fin 5)
 (.fin 0))
def zmv (names:List ByteArray) (i:Int):Int:=(KD names i).val
theorem zhA (names:List ByteArray) (i:Int) (hi:0≤i∧i < (names.length:Int)):(KD names i).obs (fun _=>True):=by
 unfold KD
 try simp only [Xw,Uy]
 exact okD
def zD (names:List ByteArray) (i:Int):Ctr (Int):=kk tok mixed Tryz.func129 [lv vJ names,iv i] (fun x=>iv x) true (KD names i) (zmv names i) (fun (h:(0≤i∧i < (names.length:Int)))=>zhA names i h)
def yK (p:Int):Sk (Bool) :=
 .fin true
def Hk (p:Int):Bool:=(yK p).val
theorem zaK (p:Int):Hk p=true:=rfl
theorem zaG (p:Int):(yK p).obs (fun _=>True):=by
 unfold yK
 exact okE
def Gv (p:Int):Ctr (Bool):=kk tok mixed Tryz.func90 [iv p] (fun x=>bv x) true (yK p) (Hk p) (fun (_:True)=>zaG p)
def gL (names:List ByteArray) (most:Int):Sk (Int) :=
 .br (decide (((names.length:Nat):Int) > most))
 (.fin 6)
 (.bind true (fun _=>True)
 (.loop (default:Sum (Int) (Unit)) (fun i2=>i2≤names.length) (fun i2=>names.length - i2) (0:Nat)
 (fun (i2:Nat)=>⟨[(15,iv (i2:Int))],[]⟩) fun i2 =>
 .bnd 0 0 names.length <|
 .br (decide ((i2:Int) < ((names.length:Nat):Int)))
 (.r 6 ((zD names (i2:Int)).c) fun x3 =>
 .br (x3 != 0)
 (.fin (.inl (.inl x3)))
 (.r 9 ((Gv (i2:Int)).c) fun x4 =>
 .br (!x4)
 (.fin (.inl (.inl 1)))
 (.r 11 .z fun _ =>
 .wi 15 (w64 ((i2:Int)+1)) ((i2+1:Nat):Int) <|
 .fin (.inr (i2+1)))))
 (.fin (.inl (.inr ()))))
 (fun (_:Unit)=>⟨[],[]⟩) fun _ =>
 .fin 0)
def zif (names:List ByteArray) (most:Int):Int:=(gL names most).val
theorem zcm (names:List ByteArray) (most:Int):(gL names most).obs (fun _=>True):=by
 unfold gL
 try simp only [Gv,zD,zaK]
 exact okG
def Zt (names:List ByteArray) (most:Int):Ctr (Int):=kk tok mixed Tryz.func89 [lv vJ names,iv most,.fn 90 []] (fun x=>iv x) true (gL names most) (zif names most) (fun (_:True)=>zcm names most)
def UW (i:Int) (n:Int):Sk (Bool) :=
 .fin ((decide (i≥0))&&(decide (i < n)))
def zmM (i:Int) (n:Int):Bool:=(UW i n).val
theorem vz (i:Int) (n:Int):zmM i n=((decide (i≥0))&&(decide (i < n))):=rfl
theorem zme (i:Int) (n:Int):(UW i n).obs (fun _=>True):=by
 unfold UW
 exact okE
def jY (i:Int) (n:Int):Ctr (Bool):=kk tok mixed Tryz.func93 [iv i,iv n] (fun x=>bv x) true (UW i n) (zmM i n) (fun (_:True)=>zme i n)
def JE (l:List Int) (low:Int) (high:Int):Sk (Bool) :=
 .bind true (fun _=>True)
 (.loop (default:Sum (Bool) (Unit)) (fun i2=>i2≤l.length) (fun i2=>l.length - i2) (0:Nat)
 (fun (i2:Nat)=>⟨[(11,iv (i2:Int))],[]⟩) fun i2 =>
 .bnd 0 0 l.length <|
 .br (decide ((i2:Int) < ((l.length:Nat):Int)))
 (.r 3 (.p (ixP (i2:Int) l.length)) fun _ =>
 .r 4 (.wh ((decide ((l.getD i2 default) < low))||(decide ((l.getD i2 default) > high))) false (.wh (decide ((i2:Int) > 0)) true (.p (ixP (w64 ((i2:Int) - 1)) l.length)))) fun _ =>
 .br (((decide ((l.getD i2 default) < low))||(decide ((l.getD i2 default) > high)))||((decide ((i2:Int) > 0))&&(decide ((l.getD i2 default)≤(l.getD ((w64 ((i2:Int) - 1)).toNat) default)))))
 (.fin (.inl (.inl false)))
 (.r 6 .z fun _ =>
 .wi 11 (w64 ((i2:Int)+1)) ((i2+1:Nat):Int) <|
 .fin (.inr (i2+1))))
 (.fin (.inl (.inr ()))))
 (fun (_:Unit)=>⟨[],[]⟩) fun _ =>
 .fin true
def zk0 (l:List Int) (low:Int) (high:Int):Bool:=(JE l low high).val
theorem zdW (l:List Int) (low:Int) (high:Int):(JE l low high).obs (fun _=>True):=by
 unfold JE
 exact okD
def zS (l:List Int) (low:Int) (high:Int):Ctr (Bool):=kk tok mixed Tryz.func130 [lv jA l,iv low,iv high] (fun x=>bv x) true (JE l low high) (zk0 l low high) (fun (_:True)=>zdW l low high)
def QJ (r:jg) (c_:zb):Sk (Bool) :=
 .bind true (fun _=>True)
 (.loop (default:Sum (Bool) (Unit)) (fun i2=>i2≤c_.feasts.length) (fun i2=>c_.feasts.length - i2) (0:Nat)
 (fun (i2:Nat)=>⟨[(10,iv (i2:Int))],[]⟩) fun i2 =>
 .bnd 8 0 c_.feasts.length <|
 .br (decide ((i2:Int) < ((c_.feasts.length:Nat):Int)))
 (.r 3 (.p (ixP (i2:Int) c_.feasts.length)) fun _ =>
 .r 4 (.andl (.p ((100:Int)≠0)) (.wh (decide (((c_.feasts.getD i2 default).tmod 100) < 1)) false (.p ((100:Int)≠0)))) fun _ =>
 .br ((decide (((c_.feasts.getD i2 default).tmod 100) < 1))||(decide (((c_.feasts.getD i2 default).tmod 100) > 31)))
 (.fin (.inl (.inl false)))
 (.r 6 .z fun _ =>
 .wi 10 (w64 ((i2:Int)+1)) ((i2+1:Nat):Int) <|
 .fin (.inr (i2+1))))
 (.fin (.inl (.inr ()))))
 (fun (_:Unit)=>⟨[],[]⟩) fun _ =>
 .r 7 (.dep (.wh ((decide (((c_.feasts.length:Nat):Int) > 60))||(decide (((c_.shut.length:Nat):Int) > 200))) false ((jY c_.order ((r.orders.length:Nat):Int)).c)) fun x3=>.wh (((decide (((c_.feasts.length:Nat):Int) > 60))||(decide (((c_.shut.length:Nat):Int) > 200)))||(!x3)) false ((jY c_.currency ((r.currencies.length:Nat):Int)).c)) fun p9 =>
 .br ((((decide (((c_.feasts.length:Nat):Int) > 60))||(decide (((c_.shut.length:Nat):Int) > 200)))||(!p9.1))||(!p9.2))
 (.fin false)
 (.r 9 (.dep ((zS c_.rest 0 6).c) fun x5=>.dep (.wh x5 true ((zS c_.feasts 101 1231).c)) fun x6=>.wh (x5&&x6) true ((zS c_.shut 0 100000).c)) fun p8 =>
 .fin ((p8.1&&p8.2.1)&&p8.2.2))
def znE (r:jg) (c_:zb):Bool:=(QJ r c_).val
theorem ziH (r:jg) (c_:zb):(QJ r c_).obs (fun _=>True):=by
 unfold QJ
 try simp only [jY,zS,vz]
 exact okG
def zae (r:jg) (c_:zb):Ctr (Bool):=kk tok mixed Tryz.func92 [av r.cells,av c_.cells] (fun x=>bv x) true (QJ r c_) (znE r c_) (fun (_:True)=>ziH r c_)
def yI (i:Int) (v:jg):Sk (Bool) :=
 .r 1 (.andl (.p (ixP i v.cities.length)) ((zae v (v.cities.getD i.toNat default)).c)) fun x1 =>
 .fin x1
def zfB (i:Int) (v:jg):Bool:=(yI i v).val
theorem zaB (i:Int) (v:jg) (hi:0≤i∧i < (v.cities.length:Int)):(yI i v).obs (fun _=>True):=by
 unfold yI
 try simp only [zae]
 exact okD
def YV (i:Int) (v:jg):Ctr (Bool):=kk tok mixed Tryz.func91 [iv i,.ref v.cells] (fun x=>bv x) true (yI i v) (zfB i v) (fun (h:(0≤i∧i < (v.cities.length:Int)))=>zaB i v h)
def gU (names:List ByteArray) (most:Int) (v:jg):Sk (Int) :=
 .br (decide (((names.length:Nat):Int) > most))
 (.fin 6)
 (.bind true (fun _=>True)
 (.loop (default:Sum (Int) (Unit)) (fun i2=>i2≤names.length) (fun i2=>names.length - i2) (0:Nat)
 (fun (i2:Nat)=>⟨[(15,iv (i2:Int))],[]⟩) fun i2 =>
 .bnd 0 0 names.length <|
 .br (decide ((i2:Int) < ((names.length:Nat):Int)))
 (.r 6 ((zD names (i2:Int)).c) fun x3 =>
 .br (x3 != 0)
 (.fin (.inl (.inl x3)))
 (.r 9 ((YV (i2:Int) v).c) fun x4 =>
 .br (!x4)
 (.fin (.inl (.inl 1)))
 (.r 11 .z fun _ =>
 .wi 15 (w64 ((i2:Int)+1)) ((i2+1:Nat):Int) <|
 .fin (.inr (i2+1)))))
 (.fin (.inl (.inr ()))))
 (fun (_:Unit)=>⟨[],[]⟩) fun _ =>
 .fin 0)
def zh9 (names:List ByteArray) (most:Int) (v:jg):Int:=(gU names most v).val
theorem zby (names:List ByteArray) (most:Int) (v:jg) (hv:names.length≤v.cities.length):(gU names most v).obs (fun _=>True):=by
 unfold gU
 try simp only [YV,zD]
 exact okD
def ZQ (names:List ByteArray) (most:Int) (v:jg):Ctr (Int):=kk tok mixed Tryz.func89 [lv vJ names,iv most,.fn 91 [.ref v.cells]] (fun x=>iv x) true (gU names most v) (zh9 names most v) (fun (h:(names.length≤v.cities.length))=>zby names most v h)
def yD (i:Int) (v:jg):Sk (Bool) :=
 .r 1 (.andl (.p (ixP i v.firms.length)) (.dep ((jY ((v.firms.getD i.toNat default).city) ((v.cities.length:Nat):Int)).c) fun x1=>.andl (.wh x1 true (.p (ixP i v.firms.length))) (.wh x1 true ((jY ((v.firms.getD i.toNat default).group) ((v.groups.length:Nat):Int)).c)))) fun p3 =>
 .fin (p3.1&&p3.2)
def zfD (i:Int) (v:jg):Bool:=(yD i v).val
theorem zad (i:Int) (v:jg) (hi:0≤i∧i < (v.firms.length:Int)):(yD i v).obs (fun _=>True):=by
 unfold yD
 try simp only [jY,vz]
 exact okG
def Gs (i:Int) (v:jg):Ctr (Bool):=kk tok mixed Tryz.func94 [iv i,.ref v.cells] (fun x=>bv x) true (yD i v) (zfD i v) (fun (h:(0≤i∧i < (v.firms.length:Int)))=>zad i v h)
def gW (names:List ByteArray) (most:Int) (v:jg):Sk (Int) :=
 .br (decide (((names.length:Nat):Int) > most))
 (.fin 6)
 (.bind true (fun _=>True)
 (.loop (default:Sum (Int) (Unit)) (fun i2=>i2≤names.length) (fun i2=>names.length - i2) (0:Nat)
 (fun (i2:Nat)=>⟨[(15,iv (i2:Int))],[]⟩) fun i2 =>
 .bnd 0 0 names.length <|
 .br (decide ((i2:Int) < ((names.length:Nat):Int)))
 (.r 6 ((zD names (i2:Int)).c) fun x3 =>
 .br (x3 != 0)
 (.fin (.inl (.inl x3)))
 (.r 9 ((Gs (i2:Int) v).c) fun x4 =>
 .br (!x4)
 (.fin (.inl (.inl 1)))
 (.r 11 .z fun _ =>
 .wi 15 (w64 ((i2:Int)+1)) ((i2+1:Nat):Int) <|
 .fin (.inr (i2+1)))))
 (.fin (.inl (.inr ()))))
 (fun (_:Unit)=>⟨[],[]⟩) fun _ =>
 .fin 0)
def zis (names:List ByteArray) (most:Int) (v:jg):Int:=(gW names most v).val
theorem zbY (names:List ByteArray) (most:Int) (v:jg) (hv:names.length≤v.firms.length):(gW names most v).obs (fun _=>True):=by
 unfold gW
 try simp only [Gs,zD]
 exact okD
def ZE (names:List ByteArray) (most:Int) (v:jg):Ctr (Int):=kk tok mixed Tryz.func89 [lv vJ names,iv most,.fn 94 [.ref v.cells]] (fun x=>iv x) true (gW names most v) (zis names most v) (fun (h:(names.length≤v.firms.length))=>zbY names most v h)
def KR (o:qk):Sk (Bool) :=
 .bind true (fun b1=>b1.length≤0+o.choices.length)
 (.loop (default:Sum (Bool) ((List Int))) (fun i2=>i2.2≤o.choices.length∧i2.1.length≤0+i2.2) (fun i2=>o.choices.length - i2.2) (([],0):(List Int) × Nat)
 (fun (i2:(List Int) × Nat)=>⟨[(3,ow 100002 i2.1),(12,iv (i2.2:Int))],[(100002,jy 3 1 jA i2.1)]⟩) fun i2 =>
 .bnd 10 0 o.choices.length <|
 .br (decide ((i2.2:Int) < ((o.choices.length:Nat):Int)))
 (.r 4 (.p (ixP (i2.2:Int) o.choices.length)) fun _ =>
 .r 5 (.andl (.o [.nrm (qt ky [(o.choices.getD i2.2 default).ask])]) (.andl (.o [.nrm (Ji ky i2.1 [(o.choices.getD i2.2 default).ask])]) (.andl (.t (ky.ones [(o.choices.getD i2.2 default).ask])) (.p (szP i2.1.length [(o.choices.getD i2.2 default).ask].length 8))))) fun _ =>
 .r 6 ((jY ((o.choices.getD i2.2 default).by_) 5).c) fun x3 =>
 .br (!x3)
 (.fin (.inl (.inl false)))
 (.r 8 .z fun _ =>
 .wi 12 (w64 ((i2.2:Int)+1)) ((i2.2+1:Nat):Int) <|
 .fin (.inr (i2.1++[(o.choices.getD i2.2 default).ask],i2.2+1))))
 (.fin (.inl (.inr i2.1))))
 (fun (b1:(List Int))=>⟨[(3,ow 100001 b1)],[(100001,jy 3 1 jA b1)]⟩) fun b1 =>
 .bind true (fun b4=>b4.length≤0+o.rules.length)
 (.loop (default:Sum (Bool) ((List Int))) (fun i5=>i5.2≤o.rules.length∧i5.1.length≤0+i5.2) (fun i5=>o.rules.length - i5.2) (([],0):(List Int) × Nat)
 (fun (i5:(List Int) × Nat)=>⟨[(4,ow 100005 i5.1),(29,iv (i5.2:Int))],[(100005,jy 3 1 jA i5.1)]⟩) fun i5 =>
 .bnd 27 0 o.rules.length <|
 .br (decide ((i5.2:Int) < ((o.rules.length:Nat):Int)))
 (.r 11 (.p (ixP (i5.2:Int) o.rules.length)) fun _ =>
 .r 12 (.andl (.o [.nrm (qt ky [(o.rules.getD i5.2 default).ask])]) (.andl (.o [.nrm (Ji ky i5.1 [(o.rules.getD i5.2 default).ask])]) (.andl (.t (ky.ones [(o.rules.getD i5.2 default).ask])) (.p (szP i5.1.length [(o.rules.getD i5.2 default).ask].length 8))))) fun _ =>
 .r 13 .z fun _ =>
 .wi 29 (w64 ((i5.2:Int)+1)) ((i5.2+1:Nat):Int) <|
 .fin (.inr (i5.1++[(o.rules.getD i5.2 default).ask],i5.2+1)))
 (.fin (.inl (.inr i5.1))))
 (fun (b4:(List Int))=>⟨[(4,ow 100004 b4)],[(100004,jy 3 1 jA b4)]⟩) fun b4 =>
 .r 14 (.dep ((zS b1 0 21).c) fun x6=>.wh x6 true ((zS b4 0 21).c)) fun p8 =>
 .fin (p8.1&&p8.2)
def zlx (o:qk):Bool:=(KR o).val
theorem zhr (o:qk) (ho:o.choices.length≤1000000∧o.rules.length≤1000000):(KR o).obs (fun _=>True):=by
 unfold KR
 try simp only [jY,zS,vz]
 exact okG
def FS (o:qk):Ctr (Bool):=kk tok mixed Tryz.func96 [av o.cells] (fun x=>bv x) true (KR o) (zlx o) (fun (h:(o.choices.length≤1000000∧o.rules.length≤1000000))=>zhr o h)
def yL (i:Int) (v:jg):Sk (Bool) :=
 .r 1 (.andl (.p (ixP i v.orders.length)) ((FS (v.orders.getD i.toNat default)).c)) fun x1 =>
 .fin x1
def zhv (i:Int) (v:jg):Bool:=(yL i v).val
theorem zaY (i:Int) (v:jg) (hi:0≤i∧i < (v.orders.length:Int)) (hv:v.Small):(yL i v).obs (fun _=>True):=by
 simp only [jh.Small,jg.Small] at hv
 unfold yL
 try simp only [FS,jh.Small,jg.Small]
 exact okD
def Gy (i:Int) (v:jg):Ctr (Bool):=kk tok mixed Tryz.func95 [iv i,.ref v.cells] (fun x=>bv x) true (yL i v) (zhv i v) (fun (h:(0≤i∧i < (v.orders.length:Int))∧(v.Small))=>zaY i v h.1 h.2)
def gt (names:List ByteArray) (most:Int) (v:jg):Sk (Int) :=
 .br (decide (((names.length:Nat):Int) > most))
 (.fin 6)
 (.bind true (fun _=>True)
 (.loop (default:Sum (Int) (Unit)) (fun i2=>i2≤names.length) (fun i2=>names.length - i2) (0:Nat)
 (fun (i2:Nat)=>⟨[(15,iv (i2:Int))],[]⟩) fun i2 =>
 .bnd 0 0 names.length <|
 .br (decide ((i2:Int) < ((names.length:Nat):Int)))
 (.r 6 ((zD names (i2:Int)).c) fun x3 =>
 .br (x3 != 0)
 (.fin (.inl (.inl x3)))
 (.r 9 ((Gy (i2:Int) v).c) fun x4 =>
 .br (!x4)
 (.fin (.inl (.inl 1)))
 (.r 11 .z fun _ =>
 .wi 15 (w64 ((i2:Int)+1)) ((i2+1:Nat):Int) <|
 .fin (.inr (i2+1)))))
 (.fin (.inl (.inr ()))))
 (fun (_:Unit)=>⟨[],[]⟩) fun _ =>
 .fin 0)
def zih (names:List ByteArray) (most:Int) (v:jg):Int:=(gt names most v).val
theorem zbC (names:List ByteArray) (most:Int) (v:jg) (hv:names.length≤v.orders.length) (hs:v.Small):(gt names most v).obs (fun _=>True):=by
 simp only [jh.Small,jg.Small] at hs
 unfold gt
 try simp only [Gy,zD,jh.Small,jg.Small]
 exact okD
def ZG (names:List ByteArray) (most:Int) (v:jg):Ctr (Int):=kk tok mixed Tryz.func89 [lv vJ names,iv most,.fn 95 [.ref v.cells]] (fun x=>iv x) true (gt names most v) (zih names most v) (fun (h:(names.length≤v.orders.length)∧(v.Small))=>zbC names most v h.1 h.2)
def gw (r:jg):Sk (Int) :=
 .br (decide (((r.usances.length:Nat):Int) > 100))
 (.fin 6)
 (.bind true (fun _=>True)
 (.loop (default:Sum (Int) (Unit)) (fun i2=>i2≤r.usances.length) (fun i2=>r.usances.length - i2) (0:Nat)
 (fun (i2:Nat)=>⟨[(14,iv (i2:Int))],[]⟩) fun i2 =>
 .bnd 12 0 r.usances.length <|
 .br (decide ((i2:Int) < ((r.usances.length:Nat):Int)))
 (.bind true (fun _=>True)
 (.r 5 (.p (ixP (i2:Int) r.usances.length)) fun _ =>
 .r 6 (.dep ((jY ((r.usances.getD i2 default).from_) ((r.cities.length:Nat):Int)).c) fun x4=>.wh (!x4) false ((jY ((r.usances.getD i2 default).to_) ((r.cities.length:Nat):Int)).c)) fun p8 =>
 .br ((((!p8.1)||(!p8.2))||(decide (((r.usances.getD i2 default).days) < 1)))||(decide (((r.usances.getD i2 default).days) > 20000)))
 (.fin (.inl (.inl (.inl 1))))
 (.r 8 (.andl (.o [.nrm (zsj kO.E r.usances 0 i2)]) (.pt (0≤(i2:Int)∧(i2:Int)≤((r.usances.length:Nat):Int)) (kO.E.lens r.usances))) fun _ =>
 .bind true (fun _=>True)
 (.loop (default:Sum (Sum (Sum (Sum (Int) (Unit)) (Nat)) (Int × Int × kO × Int × (List zb) × Int × Bool × Bool × Bool × Bool × Bool × Bool × Bool × Bool × (List kO) × Int × (List kO) × Int × Int × Bool)) (Int × Bool)) (fun i7=>i7≤(uI r.usances 0 i2).length) (fun i7=>(uI r.usances 0 i2).length - i7) (0:Nat)
 (fun (i7:Nat)=>⟨[(50,iv (i7:Int))],[]⟩) fun i7 =>
 .bnd 48 0 ((uI r.usances 0 i2).length) <|
 .br (decide ((i7:Int) < (((uI r.usances 0 i2).length:Nat):Int)))
 (.r 10 (.p (ixP (i7:Int) ((uI r.usances 0 i2).length))) fun _ =>
 .br (((((uI r.usances 0 i2).getD i7 default).from_) == ((r.usances.getD i2 default).from_))&&((((uI r.usances 0 i2).getD i7 default).to_) == ((r.usances.getD i2 default).to_)))
 (.fin (.inl (.inl (.inl (.inl (.inl 5))))))
 (.r 13 .z fun _ =>
 .wi 50 (w64 ((i7:Int)+1)) ((i7+1:Nat):Int) <|
 .fin (.inr (i7+1))))
 (.fin (.inl (.inr ((i7:Int),decide ((i7:Int) < (((uI r.usances 0 i2).length:Nat):Int)))))))
 (fun (b6:Int × Bool)=>⟨[(50,iv b6.1),(51,bv b6.2)],[]⟩) fun b6 =>
 .fin (.inr ((i2:Int),(i2:Int),r.usances.getD i2 default,(r.usances.getD i2 default).from_,r.cities,((r.cities.length:Nat):Int),p8.1,!p8.1,!p8.1,(!p8.1)||(!p8.2),(!p8.1)||(!p8.2),((!p8.1)||(!p8.2))||(decide (((r.usances.getD i2 default).days) < 1)),((!p8.1)||(!p8.2))||(decide (((r.usances.getD i2 default).days) < 1)),(((!p8.1)||(!p8.2))||(decide (((r.usances.getD i2 default).days) < 1)))||(decide (((r.usances.getD i2 default).days) > 20000)),r.usances,(i2:Int),uI r.usances 0 i2,(((uI r.usances 0 i2).length:Nat):Int),b6.1,b6.2))))
 (fun (b3:Int × Int × kO × Int × (List zb) × Int × Bool × Bool × Bool × Bool × Bool × Bool × Bool × Bool × (List kO) × Int × (List kO) × Int × Int × Bool)=>⟨[(3,iv b3.1),(16,iv b3.2.1),(18,av b3.2.2.1.cells),(20,iv b3.2.2.2.1),(22,lv zb.cells b3.2.2.2.2.1),(23,iv b3.2.2.2.2.2.1),(24,bv b3.2.2.2.2.2.2.1),(25,bv b3.2.2.2.2.2.2.2.1),(26,bv b3.2.2.2.2.2.2.2.2.1),(34,bv b3.2.2.2.2.2.2.2.2.2.1),(35,bv b3.2.2.2.2.2.2.2.2.2.2.1),(39,bv b3.2.2.2.2.2.2.2.2.2.2.2.1),(40,bv b3.2.2.2.2.2.2.2.2.2.2.2.2.1),(44,bv b3.2.2.2.2.2.2.2.2.2.2.2.2.2.1),(46,lv kO.cells b3.2.2.2.2.2.2.2.2.2.2.2.2.2.2.1),(47,iv b3.2.2.2.2.2.2.2.2.2.2.2.2.2.2.2.1),(48,lv kO.cells b3.2.2.2.2.2.2.2.2.2.2.2.2.2.2.2.2.1),(49,iv b3.2.2.2.2.2.2.2.2.2.2.2.2.2.2.2.2.2.1),(50,iv b3.2.2.2.2.2.2.2.2.2.2.2.2.2.2.2.2.2.2.1),(51,bv b3.2.2.2.2.2.2.2.2.2.2.2.2.2.2.2.2.2.2.2)],[]⟩) fun _ =>
 .r 14 .z fun _ =>
 .wi 14 (w64 ((i2:Int)+1)) ((i2+1:Nat):Int) <|
 .fin (.inr (i2+1)))
 (.fin (.inl (.inr ()))))
 (fun (_:Unit)=>⟨[],[]⟩) fun _ =>
 .fin 0)
def ziU (r:jg):Int:=(gw r).val
theorem zcE (r:jg):(gw r).obs (fun _=>True):=by
 unfold gw
 try simp only [jY,vz]
 exact okG
def ZA (r:jg):Ctr (Int):=kk tok mixed Tryz.func97 [av r.cells] (fun x=>iv x) true (gw r) (ziU r) (fun (_:True)=>zcE r)
def yi (r:jg):Sk (Int) :=
 .br (decide (((r.rates.length:Nat):Int) > 100))
 (.fin 6)
 (.bind true (fun _=>True)
 (.loop (default:Sum (Int) (Unit)) (fun i2=>i2≤r.rates.length) (fun i2=>r.rates.length - i2) (0:Nat)
 (fun (i2:Nat)=>⟨[(14,iv (i2:Int))],[]⟩) fun i2 =>
 .bnd 12 0 r.rates.length <|
 .br (decide ((i2:Int) < ((r.rates.length:Nat):Int)))
 (.r 5 (.p (ixP (i2:Int) r.rates.length)) fun _ =>
 .r 6 (.dep ((jY ((r.rates.getD i2 default).from_) ((r.currencies.length:Nat):Int)).c) fun x3=>.dep (.wh (!x3) false ((jY ((r.rates.getD i2 default).to_) ((r.currencies.length:Nat):Int)).c)) fun x4=>.dep (.wh (((!x3)||(!x4))||(((r.rates.getD i2 default).from_) == ((r.rates.getD i2 default).to_))) false ((jY (w64 (((r.rates.getD i2 default).num) - 1)) 1073741824).c)) fun x5=>.dep (.wh ((((!x3)||(!x4))||(((r.rates.getD i2 default).from_) == ((r.rates.getD i2 default).to_)))||(!x5)) false ((jY (w64 (((r.rates.getD i2 default).den) - 1)) 1073741824).c)) fun x6=>.wh (((((!x3)||(!x4))||(((r.rates.getD i2 default).from_) == ((r.rates.getD i2 default).to_)))||(!x5))||(!x6)) false ((jY ((r.rates.getD i2 default).since) 100001).c)) fun p8 =>
 .br ((((((!p8.1)||(!p8.2.1))||(((r.rates.getD i2 default).from_) == ((r.rates.getD i2 default).to_)))||(!p8.2.2.1))||(!p8.2.2.2.1))||(!p8.2.2.2.2))
 (.fin (.inl (.inl 1)))
 (.r 8 .z fun _ =>
 .wi 14 (w64 ((i2:Int)+1)) ((i2+1:Nat):Int) <|
 .fin (.inr (i2+1))))
 (.fin (.inl (.inr ()))))
 (fun (_:Unit)=>⟨[],[]⟩) fun _ =>
 .br (decide (((r.halts.length:Nat):Int) > 20))
 (.fin 6)
 (.bind true (fun b9=>r.HaltOK)
 (.loop (default:Sum (Int) (Unit)) (fun i10=>(∀ i,i < i10→(r.halts.getD i default).to_≤100000)∧i10≤r.halts.length) (fun i10=>r.halts.length - i10) (0:Nat)
 (fun (i10:Nat)=>⟨[(69,iv (i10:Int))],[]⟩) fun i10 =>
 .bnd 67 0 r.halts.length <|
 .br (decide ((i10:Int) < ((r.halts.length:Nat):Int)))
 (.r 13 (.p (ixP (i10:Int) r.halts.length)) fun _ =>
 .r 14 ((jY ((r.halts.getD i10 default).order) ((r.orders.length:Nat):Int)).c) fun x11 =>
 .br ((((!x11)||(decide (((r.halts.getD i10 default).from_) < 0)))||(decide (((r.halts.getD i10 default).from_) > ((r.halts.getD i10 default).to_))))||(decide (((r.halts.getD i10 default).to_) > 100000)))
 (.fin (.inl (.inl 1)))
 (.r 16 .z fun _ =>
 .wi 69 (w64 ((i10:Int)+1)) ((i10+1:Nat):Int) <|
 .fin (.inr (i10+1))))
 (.fin (.inl (.inr ()))))
 (fun (_:Unit)=>⟨[],[]⟩) fun _ =>
 .fin 0))
def zeX (r:jg):Int:=(yi r).val
theorem zg7 (r:jg):(yi r).pst (fun (x:Int)=>x=0→r.HaltOK):=by
 unfold yi
 try simp only [jY,vz,jg.HaltOK]
 exact okQ
theorem zeg (r:jg):(fun (x:Int)=>x=0→r.HaltOK) (zeX r):=have h:=Sk.pval _ (zg7 r); h
theorem zhK (r:jg):(yi r).obs (fun _=>True):=by
 unfold yi
 try simp only [jY,vz,jg.HaltOK]
 exact okG
def WJ (r:jg):Ctr (Int):=kk tok mixed Tryz.func98 [av r.cells] (fun x=>iv x) true (yi r) (zeX r) (fun (_:True)=>zhK r) (fun (x:Int)=>x=0→r.HaltOK) (zeg r)
def ue (r:jg):Sk (Int) :=
 .r 1 ((YI r).c) fun x1 =>
 .r 2 ((Zt r.currencies 8).c) fun x2 =>
 .br (x2 != 0)
 (.fin x2)
 (.r 5 ((ZQ x1.1 40 r).c) fun x3 =>
 .br (x3 != 0)
 (.fin x3)
 (.br (decide (((r.groups.length:Nat):Int) > 20))
 (.fin 6)
 (.bind true (fun _=>True)
 (.loop (default:Sum (Int) (Unit)) (fun i5=>i5≤r.groups.length) (fun i5=>r.groups.length - i5) (0:Nat)
 (fun (i5:Nat)=>⟨[(38,iv (i5:Int))],[]⟩) fun i5 =>
 .bnd 36 0 r.groups.length <|
 .br (decide ((i5:Int) < ((r.groups.length:Nat):Int)))
 (.r 12 (.p (ixP (i5:Int) r.groups.length)) fun _ =>
 .r 13 ((jY ((r.groups.getD i5 default).grade) 10).c) fun x6 =>
 .br (!x6)
 (.fin (.inl (.inl 1)))
 (.r 15 .z fun _ =>
 .wi 38 (w64 ((i5:Int)+1)) ((i5+1:Nat):Int) <|
 .fin (.inr (i5+1))))
 (.fin (.inl (.inr ()))))
 (fun (_:Unit)=>⟨[],[]⟩) fun _ =>
 .r 16 ((ZE x1.2.1 200 r).c) fun x7 =>
 .br (x7 != 0)
 (.fin x7)
 (.r 19 ((ZG x1.2.2 20 r).c) fun x8 =>
 .br (x8 != 0)
 (.fin x8)
 (.r 22 ((ZA r).c) fun x9 =>
 .br (x9 != 0)
 (.fin x9)
 (.r 25 ((WJ r).c) fun x10 =>
 .fin x10))))))
def zcM (r:jg):Int:=(ue r).val
theorem zdr (r:jg):(ue r).pst (fun (x:Int)=>x=0→r.HaltOK):=by
 unfold ue
 try simp only [Zt,ZQ,ZE,ZG,jY,YI,WJ,ZA,vz,jh.Small,jg.Small,jg.HaltOK]
 exact okQ
theorem zcu (r:jg):(fun (x:Int)=>x=0→r.HaltOK) (zcM r):=have h:=Sk.pval _ (zdr r); h
theorem zfC (r:jg) (hr:r.Small):(ue r).obs (fun _=>True):=by
 simp only [jh.Small,jg.Small,jg.HaltOK] at hr
 unfold ue
 try simp only [Zt,ZQ,ZE,ZG,jY,YI,WJ,ZA,vz,jh.Small,jg.Small,jg.HaltOK]
 exact okG
def ye (r:jg):Ctr (Int):=kk tok mixed Tryz.func62 [av r.cells] (fun x=>iv x) true (ue r) (zcM r) (fun (h:(r.Small))=>zfC r h) (fun (x:Int)=>x=0→r.HaltOK) (zcu r)
def gY (n:Int) (length:Int):Sk (Bool) :=
 .fin ((decide (n≥0))&&(decide (n < length)))
def FL (n:Int) (length:Int):Bool:=(gY n length).val
theorem Gn (n:Int) (length:Int):FL n length=((decide (n≥0))&&(decide (n < length))):=rfl
theorem zbD (n:Int) (length:Int):(gY n length).obs (fun _=>True):=by
 unfold gY
 exact okE
def qf (n:Int) (length:Int):Ctr (Bool):=kk tok mixed Tryz.func63 [iv n,iv length] (fun x=>bv x) true (gY n length) (FL n length) (fun (_:True)=>zbD n length)
def gv (b:vP):Sk (Bool) :=
 .bind false (fun _=>True)
 (.br (b.tenor.kind == 0)
 (.fin (.inr (b.tenor.kind == 0)))
 (.fin (.inr (b.tenor.kind == 4))))
 (fun (b1:Bool)=>⟨[(8,bv b1)],[]⟩) fun b1 =>
 .br b1
 (.fin ((b.tenor.n == 0)&&(b.tenor.unit == 0)))
 (.bind false (fun _=>True)
 (.br (b.tenor.kind == 1)
 (.fin (.inr (b.tenor.kind == 1)))
 (.fin (.inr (b.tenor.kind == 2))))
 (fun (b2:Bool)=>⟨[(19,bv b2)],[]⟩) fun b2 =>
 .br b2
 (.fin (((decide (b.tenor.n≥1))&&(decide (b.tenor.n≤400)))&&((b.tenor.unit == 0)||(b.tenor.unit == 1))))
 (.br (b.tenor.kind == 3)
 (.fin (((decide (b.tenor.n≥b.day))&&(decide (b.tenor.n≤100000)))&&(b.tenor.unit == 0)))
 (.fin false)))
def ziN (b:vP):Bool:=(gv b).val
theorem zbL (b:vP):(gv b).obs (fun _=>True):=by
 unfold gv
 exact okE
def ZK (b:vP):Ctr (Bool):=kk tok mixed Tryz.func64 [av b.cells] (fun x=>bv x) true (gv b) (ziN b) (fun (_:True)=>zbL b)
def JA (r:jg) (from_:Int) (to_:Int):Sk (Int × Int) :=
 .bind true (fun _=>True)
 (.loop (default:Sum (Int × Int) (Unit)) (fun i2=>i2≤r.usances.length) (fun i2=>r.usances.length - i2) (0:Nat)
 (fun (i2:Nat)=>⟨[(13,iv (i2:Int))],[]⟩) fun i2 =>
 .bnd 11 0 r.usances.length <|
 .br (decide ((i2:Int) < ((r.usances.length:Nat):Int)))
 (.r 3 (.p (ixP (i2:Int) r.usances.length)) fun _ =>
 .br ((((r.usances.getD i2 default).from_) == from_)&&(((r.usances.getD i2 default).to_) == to_))
 (.fin (.inl (.inl ((r.usances.getD i2 default).days,0))))
 (.r 6 .z fun _ =>
 .wi 13 (w64 ((i2:Int)+1)) ((i2+1:Nat):Int) <|
 .fin (.inr (i2+1))))
 (.fin (.inl (.inr ()))))
 (fun (_:Unit)=>⟨[],[]⟩) fun _ =>
 .fin (0,4)
def zkv (r:jg) (from_:Int) (to_:Int):Int × Int:=(JA r from_ to_).val
theorem zd9 (r:jg) (from_:Int) (to_:Int):(JA r from_ to_).obs (fun _=>True):=by
 unfold JA
 exact okD
def yR (r:jg) (from_:Int) (to_:Int):Ctr (Int × Int):=kk tok mixed Tryz.func65 [av r.cells,iv from_,iv to_] (fun x=>.tup [iv x.1,iv x.2]) true (JA r from_ to_) (zkv r from_ to_) (fun (_:True)=>zd9 r from_ to_)
end
end Go.Proofs.YtilbddpghnnmhaaGreatDoor
