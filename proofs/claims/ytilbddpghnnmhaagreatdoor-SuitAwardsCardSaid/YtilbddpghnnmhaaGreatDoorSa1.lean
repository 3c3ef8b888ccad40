/- Functions, as sketches. -/
import Derived.Test.YtilbddpghnnmhaaGreatDoorSaT
namespace Go.Proofs.YtilbddpghnnmhaaGreatDoor
noncomputable section
open Go Go.Av
set_option linter.unusedSimpArgs false
set_option linter.unusedVariables false
set_option maxHeartbeats 1000000
set_option maxRecDepth 100000
structure za where
 name:ByteArray
 order:Int
 currency:Int
 rest:List Int
 feasts:List Int
 shut:List Int
 deriving Inhabited
def za.cells (c:za):List D:=[.v (.string c.name),dI c.order,dI c.currency,slD jz c.rest,slD jz c.feasts,slD jz c.shut]
def za.E:Enc za:=⟨za.cells,6,fun _=>rfl,fun _=>rfl⟩
structure uE where
 grade:Int
 deriving Inhabited
def uE.cells (c:uE):List D:=[dI c.grade]
def uE.E:Enc uE:=⟨uE.cells,1,fun _=>rfl,fun _=>rfl⟩
structure WE where
 name:ByteArray
 city:Int
 group:Int
 deriving Inhabited
def WE.cells (c:WE):List D:=[.v (.string c.name),dI c.city,dI c.group]
def WE.E:Enc WE:=⟨WE.cells,3,fun _=>rfl,fun _=>rfl⟩
structure uF where
 ask:Int
 by_:Int
 whole:Bool
 deriving Inhabited
def uF.cells (c:uF):List D:=[dI c.ask,dI c.by_,dB c.whole]
def uF.E:Enc uF:=⟨uF.cells,3,fun _=>rfl,fun _=>rfl⟩
structure jl where
 op:Int
 n:Int
 args:List jl
instance:Inhabited jl:=⟨⟨default,default,default⟩⟩
mutual
def jl.argsR:jl→D
 | ⟨_,_,args⟩=>.sl args.length (jl.cellsF args)
def jl.cellsF:List jl→Nat→List D
 | [],_=>[]
 | x :: _,0=>[dI x.op,dI x.n,jl.argsR x]
 | _ :: r,i+1=>jl.cellsF r i
end
def jl.cellsR (x:jl):List D:=[dI x.op,dI x.n,jl.argsR x]
theorem jl.cellsF_at:∀ (l:List jl) (i:Nat),i < l.length→jl.cellsF l i=(l.getD i default).cellsR
 | [],i,h=>absurd h (by simp)
 | x :: r,0,_=>by simp [jl.cellsF,jl.cellsR]
 | x :: r,i+1,h=>by simpa [jl.cellsF] using jl.cellsF_at r i (by simpa using h)
def jl.cells (c:jl):List D:=[dI c.op,dI c.n,slD jl.cellsR c.args]
theorem jl.argsR_le (c:jl):DLe (jl.argsR c) (slD jl.cellsR c.args)∧DLe (slD jl.cellsR c.args) (jl.argsR c):=by
 obtain ⟨op,n,args⟩:=c
 unfold jl.argsR
 exact ⟨DLe.sl rfl (fun i hi=>jl.cellsF_at args i hi),DLe.sl rfl (fun i hi=>(jl.cellsF_at args i hi).symm)⟩
theorem jl.unroll (c:jl):KZ c.cellsR c.cells:=.cons .rfl' (.cons .rfl' (.cons ((jl.argsR_le c).1) (.nil)))
def jl.E:Enc jl:=⟨jl.cellsR,3,fun _=>rfl,fun ⟨_,_,_⟩=>by unfold jl.cellsR; rfl⟩
mutual
def jl.depth:jl→Nat
 | ⟨_,_,args⟩=>jl.depthL args+1
def jl.depthL:List jl→Nat
 | []=>0
 | x :: r=>max x.depth (jl.depthL r)
end
theorem jl.depthL_at:∀ (l:List jl) (i:Nat),i < l.length→(l.getD i default).depth≤jl.depthL l
 | [],i,h=>absurd h (by simp)
 | x :: r,0,_=>by simp [jl.depthL]; omega
 | x :: r,i+1,h=>by
  have:=jl.depthL_at r i (by simpa using h)
  simp [jl.depthL] at this ⊢
  omega
theorem jl.depth_args (c:jl) (i:Nat) (h:i < c.args.length):(c.args.getD i default).depth < c.depth:=by
 obtain ⟨op,n,args⟩:=c
 have:=jl.depthL_at args i h
 simp only [jl.depth]
 omega
theorem jl.depth_pos (c:jl):0 < c.depth:=by
 obtain ⟨op,n,args⟩:=c
 simp only [jl.depth]
 omega
structure JU where
 ask:Int
 term:jl
 deriving Inhabited
def JU.cells (c:JU):List D:=[dI c.ask]++c.term.cells
def JU.E:Enc JU:=⟨JU.cells,4,fun _=>rfl,fun _=>rfl⟩
structure qn where
 name:ByteArray
 accepts:Bool
 choices:List uF
 rules:List JU
 deriving Inhabited
def qn.cells (c:qn):List D:=[.v (.string c.name),dB c.accepts,slD uF.cells c.choices,slD JU.cells c.rules]
def qn.E:Enc qn:=⟨qn.cells,4,fun _=>rfl,fun _=>rfl⟩
structure kQ where
 from_:Int
 to_:Int
 days:Int
 deriving Inhabited
def kQ.cells (c:kQ):List D:=[dI c.from_,dI c.to_,dI c.days]
def kQ.E:Enc kQ:=⟨kQ.cells,3,fun _=>rfl,fun _=>rfl⟩
structure uC where
 from_:Int
 to_:Int
 num:Int
 den:Int
 since:Int
 deriving Inhabited
def uC.cells (c:uC):List D:=[dI c.from_,dI c.to_,dI c.num,dI c.den,dI c.since]
def uC.E:Enc uC:=⟨uC.cells,5,fun _=>rfl,fun _=>rfl⟩
structure Halt where
 order:Int
 from_:Int
 to_:Int
 deriving Inhabited
def Halt.cells (c:Halt):List D:=[dI c.order,dI c.from_,dI c.to_]
def Halt.E:Enc Halt:=⟨Halt.cells,3,fun _=>rfl,fun _=>rfl⟩
structure jg where
 currencies:List ByteArray
 cities:List za
 groups:List uE
 firms:List WE
 orders:List qn
 usances:List kQ
 rates:List uC
 halts:List Halt
 deriving Inhabited
def jg.cells (c:jg):List D:=[slD vE c.currencies,slD za.cells c.cities,slD uE.cells c.groups,slD WE.cells c.firms,slD qn.cells c.orders,slD kQ.cells c.usances,slD uC.cells c.rates,slD Halt.cells c.halts]
def jg.E:Enc jg:=⟨jg.cells,8,fun _=>rfl,fun _=>rfl⟩
def jg.Small (r:jg):Prop:=r.currencies.length≤1000000∧r.cities.length≤1000000∧r.groups.length≤1000000∧r.firms.length≤1000000∧r.orders.length≤1000000∧r.usances.length≤1000000∧r.rates.length≤1000000∧r.halts.length≤1000000 ∧
 ∀ i,i < r.orders.length→(r.orders.getD i default).choices.length≤1000000∧(r.orders.getD i default).rules.length≤1000000
def jg.ByOK (r:jg):Prop:=∀ i j,i < r.orders.length→j < (r.orders.getD i default).choices.length→0≤((r.orders.getD i default).choices.getD j default).by_∧((r.orders.getD i default).choices.getD j default).by_ < 5
def jg.okB (r:jg):Bool:=decide (r.currencies.length≤1000000)&&decide (r.cities.length≤1000000)&&decide (r.groups.length≤1000000)&&decide (r.firms.length≤1000000)&&decide (r.orders.length≤1000000)&&decide (r.usances.length≤1000000)&&decide (r.rates.length≤1000000)&&decide (r.halts.length≤1000000) &&
 r.orders.all fun o=>decide (o.choices.length≤1000000)&&decide (o.rules.length≤1000000)&&o.choices.all fun c=>decide (0≤c.by_)&&decide (c.by_ < 5)
theorem jg.ok_of {r:jg} (h:r.okB=true):r.Small∧r.ByOK:=by
 simp only [jg.okB,Bool.and_eq_true,decide_eq_true_eq,List.all_eq_true] at h
 obtain ⟨⟨⟨⟨⟨⟨⟨⟨h1,h2⟩,h3⟩,h4⟩,h5⟩,h6⟩,h7⟩,h8⟩,h9⟩:=h
 exact ⟨⟨h1,h2,h3,h4,h5,h6,h7,h8,fun i hi=>(h9 _ (KS hi _)).1⟩,fun i j hi hj=>(h9 _ (KS hi _)).2 _ (KS hj _)⟩
def jg.HaltOK (r:jg):Prop:=∀ i,i < r.halts.length→(r.halts.getD i default).to_≤100000
structure uT where
 kind:Int
 n:Int
 unit:Int
 deriving Inhabited
def uT.cells (c:uT):List D:=[dI c.kind,dI c.n,dI c.unit]
def uT.E:Enc uT:=⟨uT.cells,3,fun _=>rfl,fun _=>rfl⟩
structure vN where
 drawer:Int
 drawee:Int
 payee:Int
 sum:Int
 currency:Int
 tenor:uT
 day:Int
 city:Int
 pay:Int
 need:Int
 rate:Int
 flags:Int
 parts:Int
 deriving Inhabited
def vN.cells (c:vN):List D:=[dI c.drawer,dI c.drawee,dI c.payee,dI c.sum,dI c.currency]++c.tenor.cells++[dI c.day,dI c.city,dI c.pay,dI c.need,dI c.rate,dI c.flags,dI c.parts]
def vN.E:Enc vN:=⟨vN.cells,15,fun _=>rfl,fun _=>rfl⟩
structure ql where
 kind:Int
 part:Int
 who:Int
 for_:Int
 to_:Int
 sum:Int
 day:Int
 city:Int
 flags:Int
 deriving Inhabited
def ql.cells (c:ql):List D:=[dI c.kind,dI c.part,dI c.who,dI c.for_,dI c.to_,dI c.sum,dI c.day,dI c.city,dI c.flags]
def ql.E:Enc ql:=⟨ql.cells,9,fun _=>rfl,fun _=>rfl⟩
structure kw where
 at_:Int
 sum:Int
 deriving Inhabited
def kw.cells (c:kw):List D:=[dI c.at_,dI c.sum]
def kw.E:Enc kw:=⟨kw.cells,2,fun _=>rfl,fun _=>rfl⟩
structure jD where
 kind:Int
 who:Int
 to_:Int
 part:Int
 at_:Int
 sum:Int
 day:Int
 city:Int
 form:Int
 deriving Inhabited
def jD.cells (c:jD):List D:=[dI c.kind,dI c.who,dI c.to_,dI c.part,dI c.at_,dI c.sum,dI c.day,dI c.city,dI c.form]
def jD.E:Enc jD:=⟨jD.cells,9,fun _=>rfl,fun _=>rfl⟩
structure vC where
 kind:Int
 at_:Int
 n:Int
 deriving Inhabited
def vC.cells (c:vC):List D:=[dI c.kind,dI c.at_,dI c.n]
def vC.E:Enc vC:=⟨vC.cells,3,fun _=>rfl,fun _=>rfl⟩
structure jh where
 bill:vN
 signs:List ql
 alters:List kw
 acts:List jD
 facts:List vC
 deriving Inhabited
def jh.cells (c:jh):List D:=c.bill.cells++[slD ql.cells c.signs,slD kw.cells c.alters,slD jD.cells c.acts,slD vC.cells c.facts]
def jh.E:Enc jh:=⟨jh.cells,19,fun _=>rfl,fun _=>rfl⟩
def jh.Small (f:jh):Prop:=f.signs.length≤1000000∧f.alters.length≤1000000∧f.acts.length≤1000000∧f.facts.length≤1000000
def jg.FirmOK (r:jg):Prop:=∀ i,i < r.firms.length→0≤(r.firms.getD i default).city∧(r.firms.getD i default).city < r.cities.length
def jg.RateOK (r:jg):Prop:=∀ i,i < r.rates.length→(1≤(r.rates.getD i default).num∧(r.rates.getD i default).num≤1073741824)∧1≤(r.rates.getD i default).den∧(r.rates.getD i default).den≤1073741824
abbrev yO (n:Int):Prop:=0≤n∧n≤1099511627776
def jh.SumOK (f:jh):Prop:=yO f.bill.sum∧(∀ q,q < f.alters.length→yO (f.alters.getD q default).sum)∧(∀ q,q < f.signs.length→yO (f.signs.getD q default).sum)∧∀ q,q < f.acts.length→yO (f.acts.getD q default).sum
def zmN (f:jh) (q:Nat):Prop:=yO (f.signs.getD q default).sum∧(0≤(f.signs.getD q default).kind∧(f.signs.getD q default).kind≤4)∧((f.signs.getD q default).kind=0↔q=0)∧((f.signs.getD q default).kind=3∨(f.signs.getD q default).kind=4→0≤(f.signs.getD q default).for_∧(f.signs.getD q default).for_ < (q:Int))
def zjA (r:jg) (f:jh) (q:Nat):Prop:=(0≤(f.signs.getD q default).who∧(f.signs.getD q default).who < r.firms.length)∧(q≠0→(f.signs.getD (q - 1) default).day≤(f.signs.getD q default).day)∧(f.signs.getD q default).day≤100000∧(q=0→(f.signs.getD q default).day=f.bill.day)∧(0≤(f.signs.getD q default).part∧(f.signs.getD q default).part≤f.bill.parts - 1)∧zmN f q
def zbQ (f:jh) (q:Nat):Prop:=yO (f.acts.getD q default).sum∧(f.bill.day≤(f.acts.getD q default).day∧(f.acts.getD q default).day≤100000)∧(q≠0→(f.acts.getD (q - 1) default).day≤(f.acts.getD q default).day)∧((f.acts.getD q default).kind=6→(0≤(f.acts.getD q default).at_∧(f.acts.getD q default).at_ < f.signs.length)∧(f.signs.getD (f.acts.getD q default).at_.toNat default).day≤(f.acts.getD q default).day∧(f.signs.getD (f.acts.getD q default).at_.toNat default).who=(f.acts.getD q default).who)
def zgY (r:jg) (b:vN):Prop:=(1≤b.sum∧b.sum≤1099511627776)∧(0≤b.pay∧b.pay < r.cities.length)∧(0≤b.day∧b.day≤100000)∧(1≤b.parts∧b.parts≤4)∧(0≤b.currency∧b.currency < r.currencies.length)
def jU (r:jg) (f:jh):Prop:=zgY r f.bill∧(f.signs.length≤40∧f.signs.length≠0∧f.alters.length≤4∧f.acts.length≤100∧f.facts.length≤200)∧(∀ q,q < f.signs.length→zjA r f q)∧(∀ q,q < f.alters.length→yO (f.alters.getD q default).sum)∧∀ q,q < f.acts.length→zbQ f q
theorem jU.small {r:jg} {f:jh} (h:jU r f):f.Small:=by have:=h.2.1; unfold jh.Small; omega
theorem jU.sums {r:jg} {f:jh} (h:jU r f):f.SumOK:=⟨⟨by have:=h.1.1; omega,h.1.1.2⟩,h.2.2.2.1,fun q hq=>(h.2.2.1 q hq).2.2.2.2.2.1,fun q hq=>(h.2.2.2.2 q hq).1⟩
theorem GF {α:Type} [Inhabited α] {l:List α} {P:α→Prop}:(∀ q,q < l.length→P (l.getD q default))↔∀ x,x∈l→P x:=by
 constructor
 ·intro h x hx
  obtain ⟨i,hi,rfl⟩:=List.getElem_of_mem hx
  have:=h i hi
  rwa [show l.getD i default=l[i] by simp [List.getD,hi]] at this
 ·exact fun h q hq=>h _ (KS hq _)
def ToQ (r:jg) (f:jh) (q:Nat):Prop:=(f.signs.getD q default).to_ = -1∨(0≤(f.signs.getD q default).to_∧(f.signs.getD q default).to_ < r.firms.length)
def ToF (r:jg) (f:jh):Prop:=(f.bill.payee = -1∨(0≤f.bill.payee∧f.bill.payee < r.firms.length))∧∀ q,q < f.signs.length→ToQ r f q
structure jN where
 forum:Int
 plaintiff:Int
 defendant:Int
 file:Int
 sign:Int
 day:Int
 kind:Int
 deriving Inhabited
def jN.cells (c:jN):List D:=[dI c.forum,dI c.plaintiff,dI c.defendant,dI c.file,dI c.sign,dI c.day,dI c.kind]
def jN.E:Enc jN:=⟨jN.cells,7,fun _=>rfl,fun _=>rfl⟩
structure Move where
 kind:Int
 suit:Int
 day:Int
 no:Int
 deriving Inhabited
def Move.cells (c:Move):List D:=[dI c.kind,dI c.suit,dI c.day,dI c.no]
def Move.E:Enc Move:=⟨Move.cells,4,fun _=>rfl,fun _=>rfl⟩
def Wa (n:Int) (limit:Int):Sk (Bool) :=
 .fin ((decide (n≥0))&&(decide (n < limit)))
def zn1 (n:Int) (limit:Int):Bool:=(Wa n limit).val
theorem JY (n:Int) (limit:Int):zn1 n limit=((decide (n≥0))&&(decide (n < limit))):=rfl
theorem znb (n:Int) (limit:Int):(Wa n limit).obs (fun _=>True):=by
 unfold Wa
 exact okE
def qb (n:Int) (limit:Int):Ctr (Bool):=kk tok mixed Tryz.func19 [iv n,iv limit] (fun x=>bv x) true (Wa n limit) (zn1 n limit) (fun (_:True)=>znb n limit)
def JG (stage:Int):Sk (Int × Bool) :=
 .r 1 (.andl (.o [.nrmm (mkM dI)]) (.andl (.o [.nrmm (kg dI ([]:List (Int × Int)) (0:Int) 1)]) (.andl (.o [.nrmm (mkM dI)]) (.andl (.o [.nrmm (kg dI ([]:List (Int × Int)) (1:Int) 1)]) (.andl (.o [.nrmm (kg dI (([]:List (Int × Int))++[(1,1)]) (2:Int) 2)]) (.andl (.o [.nrmm (kg dI ((([]:List (Int × Int))++[(1,1)])++[(2,2)]) (4:Int) 4)]) (.andl (.o [.nrmm (mkM dI)]) (.andl (.o [.nrmm (kg dI ([]:List (Int × Int)) (1:Int) 2)]) (.andl (.o [.nrmm (mkM dI)]) (.andl (.o [.nrmm (kg dI ([]:List (Int × Int)) (2:Int) 1)]) (.andl (.o [.nrmm (mkM dI)]) (.andl (.o [.nrmm (kg dI ([]:List (Int × Int)) (1:Int) 3)]) (.andl (.o [.nrmm (kg dI (([]:List (Int × Int))++[(1,3)]) (4:Int) 3)]) (.andl (.o [.nrmm (mkM dI)]) (.andl (.o [.nrmm (kg dI ([]:List (Int × Int)) (3:Int) 4)]) (.andl (.o [.nrmm (mkM dI)]) (.andl (.o [.nrmm (kg dI ([]:List (Int × Int)) (1:Int) 5)]) (.andl (.o [.nrmm (kg dI (([]:List (Int × Int))++[(1,5)]) (2:Int) 5)]) (.andl (.o [.nrmm (kg dI ((([]:List (Int × Int))++[(1,5)])++[(2,5)]) (3:Int) 5)]) (.o [.nrmm (kg dI (((([]:List (Int × Int))++[(1,5)])++[(2,5)])++[(3,5)]) (4:Int) 5)])))))))))))))))))))) fun _ =>
 .r 2 (.andl (.p (0≤(0:Int)∧(0:Int) < ((7:Nat):Int))) (.andl (.t (Je dI (([]:List (Int × Int))++[(0,1)]))) (.o [.cast 29 (zfq dI (([]:List (Int × Int))++[(0,1)]) stage (0:Int))]))) fun _ =>
 .fin (kf (([]:List (Int × Int))++[(0,1)]) stage (0:Int),YQ (([]:List (Int × Int))++[(0,1)]) stage)
def zag (stage:Int):Int × Bool:=(JG stage).val
theorem zdE (stage:Int):(JG stage).obs (fun _=>True):=by
 unfold JG
 exact okD
def ze1 (stage:Int):Ctr (Int × Bool):=kk tok mixed Tryz.func20 [iv 0,iv stage] (fun x=>.tup [iv x.1,bv x.2]) true (JG stage) (zag stage) (fun (_:True)=>zdE stage)
def Jn (stage:Int):Sk (Int × Bool) :=
 .r 1 (.andl (.o [.nrmm (mkM dI)]) (.andl (.o [.nrmm (kg dI ([]:List (Int × Int)) (0:Int) 1)]) (.andl (.o [.nrmm (mkM dI)]) (.andl (.o [.nrmm (kg dI ([]:List (Int × Int)) (1:Int) 1)]) (.andl (.o [.nrmm (kg dI (([]:List (Int × Int))++[(1,1)]) (2:Int) 2)]) (.andl (.o [.nrmm (kg dI ((([]:List (Int × Int))++[(1,1)])++[(2,2)]) (4:Int) 4)]) (.andl (.o [.nrmm (mkM dI)]) (.andl (.o [.nrmm (kg dI ([]:List (Int × Int)) (1:Int) 2)]) (.andl (.o [.nrmm (mkM dI)]) (.andl (.o [.nrmm (kg dI ([]:List (Int × Int)) (2:Int) 1)]) (.andl (.o [.nrmm (mkM dI)]) (.andl (.o [.nrmm (kg dI ([]:List (Int × Int)) (1:Int) 3)]) (.andl (.o [.nrmm (kg dI (([]:List (Int × Int))++[(1,3)]) (4:Int) 3)]) (.andl (.o [.nrmm (mkM dI)]) (.andl (.o [.nrmm (kg dI ([]:List (Int × Int)) (3:Int) 4)]) (.andl (.o [.nrmm (mkM dI)]) (.andl (.o [.nrmm (kg dI ([]:List (Int × Int)) (1:Int) 5)]) (.andl (.o [.nrmm (kg dI (([]:List (Int × Int))++[(1,5)]) (2:Int) 5)]) (.andl (.o [.nrmm (kg dI ((([]:List (Int × Int))++[(1,5)])++[(2,5)]) (3:Int) 5)]) (.o [.nrmm (kg dI (((([]:List (Int × Int))++[(1,5)])++[(2,5)])++[(3,5)]) (4:Int) 5)])))))))))))))))))))) fun _ =>
 .r 2 (.andl (.p (0≤(1:Int)∧(1:Int) < ((7:Nat):Int))) (.andl (.t (Je dI (((([]:List (Int × Int))++[(1,1)])++[(2,2)])++[(4,4)]))) (.o [.cast 29 (zfq dI (((([]:List (Int × Int))++[(1,1)])++[(2,2)])++[(4,4)]) stage (0:Int))]))) fun _ =>
 .fin (kf (((([]:List (Int × Int))++[(1,1)])++[(2,2)])++[(4,4)]) stage (0:Int),YQ (((([]:List (Int × Int))++[(1,1)])++[(2,2)])++[(4,4)]) stage)
def zba (stage:Int):Int × Bool:=(Jn stage).val
theorem zdt (stage:Int):(Jn stage).obs (fun _=>True):=by
 unfold Jn
 exact okD
def ze7 (stage:Int):Ctr (Int × Bool):=kk tok mixed Tryz.func20 [iv 1,iv stage] (fun x=>.tup [iv x.1,bv x.2]) true (Jn stage) (zba stage) (fun (_:True)=>zdt stage)
def JE (stage:Int):Sk (Int × Bool) :=
 .r 1 (.andl (.o [.nrmm (mkM dI)]) (.andl (.o [.nrmm (kg dI ([]:List (Int × Int)) (0:Int) 1)]) (.andl (.o [.nrmm (mkM dI)]) (.andl (.o [.nrmm (kg dI ([]:List (Int × Int)) (1:Int) 1)]) (.andl (.o [.nrmm (kg dI (([]:List (Int × Int))++[(1,1)]) (2:Int) 2)]) (.andl (.o [.nrmm (kg dI ((([]:List (Int × Int))++[(1,1)])++[(2,2)]) (4:Int) 4)]) (.andl (.o [.nrmm (mkM dI)]) (.andl (.o [.nrmm (kg dI ([]:List (Int × Int)) (1:Int) 2)]) (.andl (.o [.nrmm (mkM dI)]) (.andl (.o [.nrmm (kg dI ([]:List (Int × Int)) (2:Int) 1)]) (.andl (.o [.nrmm (mkM dI)]) (.andl (.o [.nrmm (kg dI ([]:List (Int × Int)) (1:Int) 3)]) (.andl (.o [.nrmm (kg dI (([]:List (Int × Int))++[(1,3)]) (4:Int) 3)]) (.andl (.o [.nrmm (mkM dI)]) (.andl (.o [.nrmm (kg dI ([]:List (Int × Int)) (3:Int) 4)]) (.andl (.o [.nrmm (mkM dI)]) (.andl (.o [.nrmm (kg dI ([]:List (Int × Int)) (1:Int) 5)]) (.andl (.o [.nrmm (kg dI (([]:List (Int × Int))++[(1,5)]) (2:Int) 5)]) (.andl (.o [.nrmm (kg dI ((([]:List (Int × Int))++[(1,5)])++[(2,5)]) (3:Int) 5)]) (.o [.nrmm (kg dI (((([]:List (Int × Int))++[(1,5)])++[(2,5)])++[(3,5)]) (4:Int) 5)])))))))))))))))))))) fun _ =>
 .r 2 (.andl (.p (0≤(2:Int)∧(2:Int) < ((7:Nat):Int))) (.andl (.t (Je dI (([]:List (Int × Int))++[(1,2)]))) (.o [.cast 29 (zfq dI (([]:List (Int × Int))++[(1,2)]) stage (0:Int))]))) fun _ =>
 .fin (kf (([]:List (Int × Int))++[(1,2)]) stage (0:Int),YQ (([]:List (Int × Int))++[(1,2)]) stage)
def zaS (stage:Int):Int × Bool:=(JE stage).val
theorem zdw (stage:Int):(JE stage).obs (fun _=>True):=by
 unfold JE
 exact okD
def zfu (stage:Int):Ctr (Int × Bool):=kk tok mixed Tryz.func20 [iv 2,iv stage] (fun x=>.tup [iv x.1,bv x.2]) true (JE stage) (zaS stage) (fun (_:True)=>zdw stage)
def JL (stage:Int):Sk (Int × Bool) :=
 .r 1 (.andl (.o [.nrmm (mkM dI)]) (.andl (.o [.nrmm (kg dI ([]:List (Int × Int)) (0:Int) 1)]) (.andl (.o [.nrmm (mkM dI)]) (.andl (.o [.nrmm (kg dI ([]:List (Int × Int)) (1:Int) 1)]) (.andl (.o [.nrmm (kg dI (([]:List (Int × Int))++[(1,1)]) (2:Int) 2)]) (.andl (.o [.nrmm (kg dI ((([]:List (Int × Int))++[(1,1)])++[(2,2)]) (4:Int) 4)]) (.andl (.o [.nrmm (mkM dI)]) (.andl (.o [.nrmm (kg dI ([]:List (Int × Int)) (1:Int) 2)]) (.andl (.o [.nrmm (mkM dI)]) (.andl (.o [.nrmm (kg dI ([]:List (Int × Int)) (2:Int) 1)]) (.andl (.o [.nrmm (mkM dI)]) (.andl (.o [.nrmm (kg dI ([]:List (Int × Int)) (1:Int) 3)]) (.andl (.o [.nrmm (kg dI (([]:List (Int × Int))++[(1,3)]) (4:Int) 3)]) (.andl (.o [.nrmm (mkM dI)]) (.andl (.o [.nrmm (kg dI ([]:List (Int × Int)) (3:Int) 4)]) (.andl (.o [.nrmm (mkM dI)]) (.andl (.o [.nrmm (kg dI ([]:List (Int × Int)) (1:Int) 5)]) (.andl (.o [.nrmm (kg dI (([]:List (Int × Int))++[(1,5)]) (2:Int) 5)]) (.andl (.o [.nrmm (kg dI ((([]:List (Int × Int))++[(1,5)])++[(2,5)]) (3:Int) 5)]) (.o [.nrmm (kg dI (((([]:List (Int × Int))++[(1,5)])++[(2,5)])++[(3,5)]) (4:Int) 5)])))))))))))))))))))) fun _ =>
 .r 2 (.andl (.p (0≤(3:Int)∧(3:Int) < ((7:Nat):Int))) (.andl (.t (Je dI (([]:List (Int × Int))++[(2,1)]))) (.o [.cast 29 (zfq dI (([]:List (Int × Int))++[(2,1)]) stage (0:Int))]))) fun _ =>
 .fin (kf (([]:List (Int × Int))++[(2,1)]) stage (0:Int),YQ (([]:List (Int × Int))++[(2,1)]) stage)
def zae (stage:Int):Int × Bool:=(JL stage).val
theorem zdr (stage:Int):(JL stage).obs (fun _=>True):=by
 unfold JL
 exact okD
def ze9 (stage:Int):Ctr (Int × Bool):=kk tok mixed Tryz.func20 [iv 3,iv stage] (fun x=>.tup [iv x.1,bv x.2]) true (JL stage) (zae stage) (fun (_:True)=>zdr stage)
def JH (stage:Int):Sk (Int × Bool) :=
 .r 1 (.andl (.o [.nrmm (mkM dI)]) (.andl (.o [.nrmm (kg dI ([]:List (Int × Int)) (0:Int) 1)]) (.andl (.o [.nrmm (mkM dI)]) (.andl (.o [.nrmm (kg dI ([]:List (Int × Int)) (1:Int) 1)]) (.andl (.o [.nrmm (kg dI (([]:List (Int × Int))++[(1,1)]) (2:Int) 2)]) (.andl (.o [.nrmm (kg dI ((([]:List (Int × Int))++[(1,1)])++[(2,2)]) (4:Int) 4)]) (.andl (.o [.nrmm (mkM dI)]) (.andl (.o [.nrmm (kg dI ([]:List (Int × Int)) (1:Int) 2)]) (.andl (.o [.nrmm (mkM dI)]) (.andl (.o [.nrmm (kg dI ([]:List (Int × Int)) (2:Int) 1)]) (.andl (.o [.nrmm (mkM dI)]) (.andl (.o [.nrmm (kg dI ([]:List (Int × Int)) (1:Int) 3)]) (.andl (.o [.nrmm (kg dI (([]:List (Int × Int))++[(1,3)]) (4:Int) 3)]) (.andl (.o [.nrmm (mkM dI)]) (.andl (.o [.nrmm (kg dI ([]:List (Int × Int)) (3:Int) 4)]) (.andl (.o [.nrmm (mkM dI)]) (.andl (.o [.nrmm (kg dI ([]:List (Int × Int)) (1:Int) 5)]) (.andl (.o [.nrmm (kg dI (([]:List (Int × Int))++[(1,5)]) (2:Int) 5)]) (.andl (.o [.nrmm (kg dI ((([]:List (Int × Int))++[(1,5)])++[(2,5)]) (3:Int) 5)]) (.o [.nrmm (kg dI (((([]:List (Int × Int))++[(1,5)])++[(2,5)])++[(3,5)]) (4:Int) 5)])))))))))))))))))))) fun _ =>
 .r 2 (.andl (.p (0≤(4:Int)∧(4:Int) < ((7:Nat):Int))) (.andl (.t (Je dI ((([]:List (Int × Int))++[(1,3)])++[(4,3)]))) (.o [.cast 29 (zfq dI ((([]:List (Int × Int))++[(1,3)])++[(4,3)]) stage (0:Int))]))) fun _ =>
 .fin (kf ((([]:List (Int × Int))++[(1,3)])++[(4,3)]) stage (0:Int),YQ ((([]:List (Int × Int))++[(1,3)])++[(4,3)]) stage)
def zaw (stage:Int):Int × Bool:=(JH stage).val
theorem zer (stage:Int):(JH stage).obs (fun _=>True):=by
 unfold JH
 exact okD
def zgt (stage:Int):Ctr (Int × Bool):=kk tok mixed Tryz.func20 [iv 4,iv stage] (fun x=>.tup [iv x.1,bv x.2]) true (JH stage) (zaw stage) (fun (_:True)=>zer stage)
def Jo (stage:Int):Sk (Int × Bool) :=
 .r 1 (.andl (.o [.nrmm (mkM dI)]) (.andl (.o [.nrmm (kg dI ([]:List (Int × Int)) (0:Int) 1)]) (.andl (.o [.nrmm (mkM dI)]) (.andl (.o [.nrmm (kg dI ([]:List (Int × Int)) (1:Int) 1)]) (.andl (.o [.nrmm (kg dI (([]:List (Int × Int))++[(1,1)]) (2:Int) 2)]) (.andl (.o [.nrmm (kg dI ((([]:List (Int × Int))++[(1,1)])++[(2,2)]) (4:Int) 4)]) (.andl (.o [.nrmm (mkM dI)]) (.andl (.o [.nrmm (kg dI ([]:List (Int × Int)) (1:Int) 2)]) (.andl (.o [.nrmm (mkM dI)]) (.andl (.o [.nrmm (kg dI ([]:List (Int × Int)) (2:Int) 1)]) (.andl (.o [.nrmm (mkM dI)]) (.andl (.o [.nrmm (kg dI ([]:List (Int × Int)) (1:Int) 3)]) (.andl (.o [.nrmm (kg dI (([]:List (Int × Int))++[(1,3)]) (4:Int) 3)]) (.andl (.o [.nrmm (mkM dI)]) (.andl (.o [.nrmm (kg dI ([]:List (Int × Int)) (3:Int) 4)]) (.andl (.o [.nrmm (mkM dI)]) (.andl (.o [.nrmm (kg dI ([]:List (Int × Int)) (1:Int) 5)]) (.andl (.o [.nrmm (kg dI (([]:List (Int × Int))++[(1,5)]) (2:Int) 5)]) (.andl (.o [.nrmm (kg dI ((([]:List (Int × Int))++[(1,5)])++[(2,5)]) (3:Int) 5)]) (.o [.nrmm (kg dI (((([]:List (Int × Int))++[(1,5)])++[(2,5)])++[(3,5)]) (4:Int) 5)])))))))))))))))))))) fun _ =>
 .r 2 (.andl (.p (0≤(5:Int)∧(5:Int) < ((7:Nat):Int))) (.andl (.t (Je dI (([]:List (Int × Int))++[(3,4)]))) (.o [.cast 29 (zfq dI (([]:List (Int × Int))++[(3,4)]) stage (0:Int))]))) fun _ =>
 .fin (kf (([]:List (Int × Int))++[(3,4)]) stage (0:Int),YQ (([]:List (Int × Int))++[(3,4)]) stage)
def zbe (stage:Int):Int × Bool:=(Jo stage).val
theorem zej (stage:Int):(Jo stage).obs (fun _=>True):=by
 unfold Jo
 exact okD
def zfo (stage:Int):Ctr (Int × Bool):=kk tok mixed Tryz.func20 [iv 5,iv stage] (fun x=>.tup [iv x.1,bv x.2]) true (Jo stage) (zbe stage) (fun (_:True)=>zej stage)
def Jy (stage:Int):Sk (Int × Bool) :=
 .r 1 (.andl (.o [.nrmm (mkM dI)]) (.andl (.o [.nrmm (kg dI ([]:List (Int × Int)) (0:Int) 1)]) (.andl (.o [.nrmm (mkM dI)]) (.andl (.o [.nrmm (kg dI ([]:List (Int × Int)) (1:Int) 1)]) (.andl (.o [.nrmm (kg dI (([]:List (Int × Int))++[(1,1)]) (2:Int) 2)]) (.andl (.o [.nrmm (kg dI ((([]:List (Int × Int))++[(1,1)])++[(2,2)]) (4:Int) 4)]) (.andl (.o [.nrmm (mkM dI)]) (.andl (.o [.nrmm (kg dI ([]:List (Int × Int)) (1:Int) 2)]) (.andl (.o [.nrmm (mkM dI)]) (.andl (.o [.nrmm (kg dI ([]:List (Int × Int)) (2:Int) 1)]) (.andl (.o [.nrmm (mkM dI)]) (.andl (.o [.nrmm (kg dI ([]:List (Int × Int)) (1:Int) 3)]) (.andl (.o [.nrmm (kg dI (([]:List (Int × Int))++[(1,3)]) (4:Int) 3)]) (.andl (.o [.nrmm (mkM dI)]) (.andl (.o [.nrmm (kg dI ([]:List (Int × Int)) (3:Int) 4)]) (.andl (.o [.nrmm (mkM dI)]) (.andl (.o [.nrmm (kg dI ([]:List (Int × Int)) (1:Int) 5)]) (.andl (.o [.nrmm (kg dI (([]:List (Int × Int))++[(1,5)]) (2:Int) 5)]) (.andl (.o [.nrmm (kg dI ((([]:List (Int × Int))++[(1,5)])++[(2,5)]) (3:Int) 5)]) (.o [.nrmm (kg dI (((([]:List (Int × Int))++[(1,5)])++[(2,5)])++[(3,5)]) (4:Int) 5)])))))))))))))))))))) fun _ =>
 .r 2 (.andl (.p (0≤(6:Int)∧(6:Int) < ((7:Nat):Int))) (.andl (.t (Je dI ((((([]:List (Int × Int))++[(1,5)])++[(2,5)])++[(3,5)])++[(4,5)]))) (.o [.cast 29 (zfq dI ((((([]:List (Int × Int))++[(1,5)])++[(2,5)])++[(3,5)])++[(4,5)]) stage (0:Int))]))) fun _ =>
 .fin (kf ((((([]:List (Int × Int))++[(1,5)])++[(2,5)])++[(3,5)])++[(4,5)]) stage (0:Int),YQ ((((([]:List (Int × Int))++[(1,5)])++[(2,5)])++[(3,5)])++[(4,5)]) stage)
def zaG (stage:Int):Int × Bool:=(Jy stage).val
theorem zdY (stage:Int):(Jy stage).obs (fun _=>True):=by
 unfold Jy
 exact okD
def zfy (stage:Int):Ctr (Int × Bool):=kk tok mixed Tryz.func20 [iv 6,iv stage] (fun x=>.tup [iv x.1,bv x.2]) true (Jy stage) (zaG stage) (fun (_:True)=>zdY stage)
def GC (kind:Int) (stage:Int):Int × Bool:=match kind.toNat with
 | 0=>zag stage
 | 1=>zba stage
 | 2=>zaS stage
 | 3=>zae stage
 | 4=>zaw stage
 | 5=>zbe stage
 | _=>zaG stage
theorem zkT (kind:Int) (stage:Int) (h:0≤kind∧kind < 7):FnA Tryz.prog 20 [iv kind,iv stage] [] (.tup [iv ((GC kind stage).1),bv ((GC kind stage).2)]) []:=by
 have hk:kind=0∨kind=1∨kind=2∨kind=3∨kind=4∨kind=5∨kind=6:=by omega
 rcases hk with rfl | rfl | rfl | rfl | rfl | rfl | rfl
 ·exact (ze1 stage).pf trivial
 ·exact (ze7 stage).pf trivial
 ·exact (zfu stage).pf trivial
 ·exact (ze9 stage).pf trivial
 ·exact (zgt stage).pf trivial
 ·exact (zfo stage).pf trivial
 ·exact (zfy stage).pf trivial
def XW (kind stage:Int):Int × Bool :=
 if kind=0 then (if stage=0 then (1,true) else (0,false))
 else if kind=1 then (if stage=1 then (1,true) else if stage=2 then (2,true) else if stage=4 then (4,true) else (0,false))
 else if kind=2 then (if stage=1 then (2,true) else (0,false))
 else if kind=3 then (if stage=2 then (1,true) else (0,false))
 else if kind=4 then (if stage=1 then (3,true) else if stage=4 then (3,true) else (0,false))
 else if kind=5 then (if stage=3 then (4,true) else (0,false))
 else (if stage=1 then (5,true) else if stage=2 then (5,true) else if stage=3 then (5,true) else if stage=4 then (5,true) else (0,false))
theorem gF (l:List (Int × Int)) (a b s:Int):(kf ((a,b) :: l) s 0,YQ ((a,b) :: l) s)=if s=a then (b,true) else (kf l s 0,YQ l s):=by
 by_cases h:s=a
 ·simp [kf,YQ,yP,h]
 ·have e:(s == a)=false:=by simpa using h
  simp [kf,YQ,yP,h,e]
theorem zj9 (kind stage:Int) (h:0≤kind∧kind < 7):GC kind stage=XW kind stage:=by
 have hk:kind=0∨kind=1∨kind=2∨kind=3∨kind=4∨kind=5∨kind=6:=by omega
 rcases hk with rfl | rfl | rfl | rfl | rfl | rfl | rfl
 ·show (kf [((0:Int),(1:Int))] stage 0,YQ [((0:Int),(1:Int))] stage)=_
  rw [gF]
  rfl
 ·show (kf [((1:Int),(1:Int)),((2:Int),(2:Int)),((4:Int),(4:Int))] stage 0,YQ [((1:Int),(1:Int)),((2:Int),(2:Int)),((4:Int),(4:Int))] stage)=_
  rw [gF,gF,gF]
  rfl
 ·show (kf [((1:Int),(2:Int))] stage 0,YQ [((1:Int),(2:Int))] stage)=_
  rw [gF]
  rfl
 ·show (kf [((2:Int),(1:Int))] stage 0,YQ [((2:Int),(1:Int))] stage)=_
  rw [gF]
  rfl
 ·show (kf [((1:Int),(3:Int)),((4:Int),(3:Int))] stage 0,YQ [((1:Int),(3:Int)),((4:Int),(3:Int))] stage)=_
  rw [gF,gF]
  rfl
 ·show (kf [((3:Int),(4:Int))] stage 0,YQ [((3:Int),(4:Int))] stage)=_
  rw [gF]
  rfl
 ·show (kf [((1:Int),(5:Int)),((2:Int),(5:Int)),((3:Int),(5:Int)),((4:Int),(5:Int))] stage 0,YQ [((1:Int),(5:Int)),((2:Int),(5:Int)),((3:Int),(5:Int)),((4:Int),(5:Int))] stage)=_
  rw [gF,gF,gF,gF]
  rfl
theorem zfh (kind:Int) (stage:Int):(fun (x:Int × Bool)=>0≤kind∧kind < 7→x=XW kind stage) (GC kind stage):=zj9 kind stage
def HF (kind:Int) (stage:Int):Ctr (Int × Bool):=⟨Tryz.prog,20,[iv kind,iv stage],fun x=>.tup [iv x.1,bv x.2],true,GC kind stage,0≤kind∧kind < 7,fun h=>zkT kind stage h,fun (x:Int × Bool)=>0≤kind∧kind < 7→x=XW kind stage,zfh kind stage⟩
def ZR (suits:List jN) (m:Move) (day:Int) (st:List Int) (ap:List (Int × Bool)):Int × Int × List Int × List (Int × Bool) :=
 if ¬ (0≤m.kind∧m.kind < 7)∨¬ (0≤m.day∧m.day < 100001)∨(m.kind=1∧¬ (0≤m.no∧m.no < 7)) then (1,day,st,ap)
 else if ¬ (0≤m.suit∧m.suit < suits.length) then (4,day,st,ap)
 else if m.day < day∨(m.kind=0∧m.day < (suits.getD m.suit.toNat default).day) then (13,day,st,ap)
 else if (XW m.kind (st.getD m.suit.toNat default)).2=false∨(m.kind=5∧kf ap m.suit false=true) then (7,day,st,ap)
 else (0,m.day,st.set m.suit.toNat (XW m.kind (st.getD m.suit.toNat default)).1,if m.kind=5 then gn ap m.suit true else ap)
theorem zoO (suits:List jN) (m:Move) (day:Int) (st:List Int) (ap:List (Int × Bool)):(ZR suits m day st ap).2.2.1.length=st.length:=by
 unfold ZR
 repeat' split
 all_goals simp
def ue (m:Move) (v:List jN) (v':Int) (v'':List Int) (v''':List (Int × Bool)):Sk (Int × Int × (List Int) × (List (Int × Bool))) :=
 .r 1 (.dep ((qb m.kind 7).c) fun x1=>.dep (.wh (!x1) false ((qb m.day 100001).c)) fun x2=>.wh ((!x1)||(!x2)) false (.wh (m.kind == 1) true ((qb m.no 7).c))) fun p6 =>
 .br (((!p6.1)||(!p6.2.1))||((m.kind == 1)&&(!p6.2.2)))
 (.fin (1,v',v'',v'''))
 (.r 3 ((qb m.suit ((v.length:Nat):Int)).c) fun x4 =>
 .br (!x4)
 (.fin (4,v',v'',v'''))
 (.r 5 (.wh (decide (m.day < v')) false (.wh (m.kind == 0) true (.p (ixP m.suit v.length)))) fun _ =>
 .br ((decide (m.day < v'))||((m.kind == 0)&&(decide (m.day < ((v.getD m.suit.toNat default).day)))))
 (.fin (13,v',v'',v'''))
 (.r 7 (.andl (.p (ixP m.suit v''.length)) (.andl (.p (m.suit.toNat < v''.length)) ((HF m.kind (v''.getD m.suit.toNat default)).c))) fun x5 =>
 .r 8 (.wh (!x5.2) false (.wh (m.kind == 5) true (.andl (.t (Je dB v''')) (.o [.cast 80 (zlb dB v''' m.suit false)])))) fun _ =>
 .br ((!x5.2)||((m.kind == 5)&&(kf v''' m.suit false)))
 (.fin (7,v',v'',v'''))
 (.br (m.kind == 5)
 (.r 11 (.andl (.t (Je dB v''')) (.o [.nrmm (znB dB v''' m.suit true)])) fun _ =>
 .r 12 (.andl (.p (ixP m.suit v''.length)) (.andl (.o [.nrm (Ve ky v'' m.suit.toNat x5.1)]) (.p (m.suit.toNat < v''.length)))) fun _ =>
 .wn 100006 v''.length (v''.set m.suit.toNat x5.1).length <|
 .fin (0,m.day,v''.set m.suit.toNat x5.1,gn v''' m.suit true))
 (.r 12 (.andl (.p (ixP m.suit v''.length)) (.andl (.o [.nrm (Ve ky v'' m.suit.toNat x5.1)]) (.p (m.suit.toNat < v''.length)))) fun _ =>
 .wn 100006 v''.length (v''.set m.suit.toNat x5.1).length <|
 .fin (0,m.day,v''.set m.suit.toNat x5.1,v'''))))))
def Yg (m:Move) (v:List jN) (v':Int) (v'':List Int) (v''':List (Int × Bool)):Int × Int × (List Int) × (List (Int × Bool)):=(ue m v v' v'' v''').val
theorem zd7 (m:Move) (v:List jN) (v':Int) (v'':List Int) (v''':List (Int × Bool)):(ue m v v' v'' v''').pst (fun (x:Int × Int × (List Int) × (List (Int × Bool)))=>x=ZR v m v' v'' v'''):=by
 refine Sk.pst_of _ ?_
 unfold ue
 simp only [Sk.pstq,Sk.isLoop,reduceCtorEq,ON,kk,qb,HF,JY,forall_eq,maxLen]
 all_goals simp only [JY,LN] at *
 refine ⟨fun h=>?_,fun h1=>⟨fun h=>?_,fun h2 _=>⟨fun h=>?_,fun h3 he _=>⟨fun h=>?_,fun h4=>⟨fun h5 _ _=>?_,fun h5 _=>?_⟩⟩⟩⟩⟩
 ·unfold ZR; rw [if_pos (by omega)]
 ·unfold ZR; rw [if_neg (by omega),if_pos (by omega)]
 ·unfold ZR; rw [if_neg (by omega),if_neg (by omega),if_pos (by omega)]
 ·rw [he (by omega)] at h
  unfold ZR; rw [if_neg (by omega),if_neg (by omega),if_neg (by omega),if_pos h]
 all_goals rw [he (by omega)] at h4 ⊢
 all_goals unfold ZR
 all_goals rw [if_neg (by omega),if_neg (by omega),if_neg (by omega),if_neg (by rintro (h | h) <;> simp_all)]
 ·rw [if_pos h5]
 ·rw [if_neg h5]
theorem zbs (m:Move) (v:List jN) (v':Int) (v'':List Int) (v''':List (Int × Bool)):(fun (x:Int × Int × (List Int) × (List (Int × Bool)))=>x=ZR v m v' v'' v''') (Yg m v v' v'' v'''):=have h:=Sk.pval _ (zd7 m v v' v'' v'''); h
theorem zgD (m:Move) (v:List jN) (v':Int) (v'':List Int) (v''':List (Int × Bool)) (hl:v''.length=v.length):(ue m v v' v'' v''').obs (fun _=>True):=by
 unfold ue
 try simp only [qb,HF,JY]
 exact okG
theorem zdZ (m:Move) (v:List jN) (v':Int) (v'':List Int) (v''':List (Int × Bool)) (hl:v''.length=v.length):FnB Tryz.prog 18 [av m.cells,.ref [slD jN.cells v],.ptr 7 0,.ptr 4 0,.ptr 6 0] [(7,.box [iv v']),(4,.box [ow 100006 v'']),(100006,jx 3 1 jz v''),(6,.box [.mpv 100007]),(100007,mpM dB v''')] ((fun (x:Int × Int × (List Int) × (List (Int × Bool)))=>iv x.1) (Yg m v v' v'' v''')) ((fun (x:Int × Int × (List Int) × (List (Int × Bool)))=>[(7,.box [iv x.2.1]),(4,.box [ow 600004 x.2.2.1]),(600004,jx 3 1 jz x.2.2.1),(6,.box [.mpv 600006]),(600006,mpM dB x.2.2.2)]) (Yg m v v' v'' v''')) [(2,7),(3,4),(4,6)] :=
 FnB.sk tok mixed (fun x=>iv x.1) (fun x=>[(7,.box [iv x.2.1]),(4,.box [ow 600004 x.2.2.1]),(600004,jx 3 1 jz x.2.2.1),(6,.box [.mpv 600006]),(600006,mpM dB x.2.2.2)]) [(2,7),(3,4),(4,6)] Tryz.func18 rfl (by kernel_rfl) 3000 (ue m v v' v'' v''') (by kernel_rfl) (zgD m v v' v'' v''' hl)
def VH (m:Move) (v:List jN) (v':Int) (v'':List Int) (v''':List (Int × Bool)):zeO (Int × Int × (List Int) × (List (Int × Bool))):=⟨Tryz.prog,18,[av m.cells,.ref [slD jN.cells v],.ptr 7 0,.ptr 4 0,.ptr 6 0],[(7,.box [iv v']),(4,.box [ow 100006 v'']),(100006,jx 3 1 jz v''),(6,.box [.mpv 100007]),(100007,mpM dB v''')],[(2,7),(3,4),(4,6)],fun x=>iv x.1,fun x=>[(7,.box [iv x.2.1]),(4,.box [ow 600004 x.2.2.1]),(600004,jx 3 1 jz x.2.2.1),(6,.box [.mpv 600006]),(600006,mpM dB x.2.2.2)],Yg m v v' v'' v''',(v''.length=v.length),fun h=>zdZ m v v' v'' v''' h,fun (x:Int × Int × (List Int) × (List (Int × Bool)))=>x=ZR v m v' v'' v''',zbs m v v' v'' v'''⟩
theorem Kk {α:Type} [Inhabited α] {l:List α} {n:Nat} (h:n < l.length):l.take (n+1)=l.take n++[l.getD n default]:=by
 rw [List.take_add_one]
 simp [List.getD,h]
def zem (suits:List jN) (s:Int × List Int × List (Int × Bool)) (m:Move):Int × Int × List Int × List (Int × Bool):=ZR suits m s.1 s.2.1 s.2.2
def vf (suits:List jN):List Move→Int × List Int × List (Int × Bool)→List Int × Int × List Int × List (Int × Bool)
 | [],s=>([],s)
 | m :: r,s=>((zem suits s m).1 :: (vf suits r (zem suits s m).2).1,(vf suits r (zem suits s m).2).2)
theorem Hs (suits:List jN) (l r:List Move):∀ s,vf suits (l++r) s=((vf suits l s).1++(vf suits r (vf suits l s).2).1,(vf suits r (vf suits l s).2).2):=by
 induction l with
 | nil=>intro s; rfl
 | cons m l ih=>intro s; simp only [List.cons_append,vf,ih]
theorem zgm (suits:List jN) (l:List Move):∀ s,(vf suits l s).1.length=l.length:=by
 induction l with
 | nil=>intro s; rfl
 | cons m l ih=>intro s; simp only [vf,List.length_cons,ih]
theorem zde (suits:List jN) (l:List Move):∀ s,(vf suits l s).2.2.1.length=s.2.1.length:=by
 induction l with
 | nil=>intro s; rfl
 | cons m l ih=>intro s; simp only [vf,ih]; exact zoO _ _ _ _ _
def Kr (suits:List jN):Int × List Int × List (Int × Bool):=(0,List.replicate suits.length 0,[])
theorem zbG (suits:List jN) (l:List Move) (n:Nat) (h:n < l.length) (s:Int × List Int × List (Int × Bool)):vf suits (l.take (n+1)) s=((vf suits (l.take n) s).1++[(zem suits (vf suits (l.take n) s).2 (l.getD n default)).1],(zem suits (vf suits (l.take n) s).2 (l.getD n default)).2):=by
 rw [Kk h,Hs]
 rfl
def Km (suits:List jN) (moves:List Move):Sk ((List Int) × (List Int)) :=
 .r 0 (.o [.pur 2]) fun _ =>
 .r 1 (.andl (.o [.nrm (mkC ky suits.length 0)]) (.p (mkP ((suits.length:Nat):Int) 8))) fun _ =>
 .r 2 (.o [.nrmm (mkM dB)]) fun _ =>
 .bind true (fun b1=>(vf suits moves (Kr suits)).1=b1.1∧(vf suits moves (Kr suits)).2.2.1=b1.2)
 (.loop (default:Sum ((List Int) × (List Int)) ((List Int) × (List Int))) (fun i2=>i2.2.1≤moves.length∧vf suits (moves.take i2.2.1) (Kr suits)=(i2.1,i2.2.2.2.2,i2.2.2.1,i2.2.2.2.1)) (fun i2=>moves.length - i2.2.1) (([],0,List.replicate suits.length (0:Int),([]:List (Int × Bool)),0):(List Int) × Nat × (List Int) × (List (Int × Bool)) × Int)
 (fun (i2:(List Int) × Nat × (List Int) × (List (Int × Bool)) × Int)=>⟨[(5,ow 100005 i2.1),(18,iv (i2.2.1:Int))],[(100005,jx 30 1 jz i2.1),(100006,jx 3 1 jz i2.2.2.1),(100007,mpM dB i2.2.2.2.1),(4,.box [ow 100006 i2.2.2.1]),(6,.box [.mpv 100007]),(7,.box [iv i2.2.2.2.2])]⟩) fun i2 =>
 .bnd 16 0 moves.length <|
 .br (decide ((i2.2.1:Int) < ((moves.length:Nat):Int)))
 (.r 7 (.p (ixP (i2.2.1:Int) moves.length)) fun _ =>
 .r 8 (.depr ((VH (moves.getD i2.2.1 default) suits i2.2.2.2.2 i2.2.2.1 i2.2.2.2.1).c) fun x3=>.andl (.o [.nrm (qt ky [x3.1])]) (.andl (.o [.nrm (Ji ky i2.1 [x3.1])]) (.andl (.t (ky.ones [x3.1])) (.p (szP i2.1.length [x3.1].length 8))))) fun x3 =>
 .r 9 .z fun _ =>
 .wi 18 (w64 ((i2.2.1:Int)+1)) ((i2.2.1+1:Nat):Int) <|
 .fin (.inr (i2.1++[x3.1],i2.2.1+1,x3.2.2.1,x3.2.2.2,x3.2.1)))
 (.fin (.inl (.inr (i2.1,i2.2.2.1)))))
 (fun (b1:(List Int) × (List Int))=>⟨[(5,ow 100003 b1.1)],[(100003,jx 30 1 jz b1.1),(100004,jx 3 1 jz b1.2),(4,.box [ow 100004 b1.2])]⟩) fun b1 =>
 .fin (b1.2,b1.1)
def zac (suits:List jN) (moves:List Move):(List Int) × (List Int):=(Km suits moves).val
theorem zjM (suits:List jN) (moves:List Move):(Km suits moves).pst (fun (x:(List Int) × (List Int))=>x=((vf suits moves (Kr suits)).2.2.1,(vf suits moves (Kr suits)).1)):=by
 refine Sk.pst_of _ ?_
 unfold Km
 simp only [Sk.pstq,Sk.isLoop,reduceCtorEq,ON,kk,VH,zeO.c,maxLen]
 all_goals simp only [LN] at *
 refine fun _ _ _=>⟨⟨⟨by omega,rfl⟩,fun i hi=>⟨fun hlt _ x _ hx _=>⟨⟨by omega,?_⟩,by omega⟩,fun hge=>?_⟩⟩,fun b hb=>?_⟩
 ·have h:=zbG suits moves i.2.1 (by omega) (Kr suits)
  rw [hi.2] at h
  rw [h,hx]; rfl
 ·have e:moves.take i.2.1=moves:=List.take_of_length_le (by omega)
  have h:=hi.2
  rw [e] at h
  rw [h]; exact ⟨rfl,rfl⟩
 ·rw [hb.1,hb.2]
theorem ziJ (suits:List jN) (moves:List Move):(fun (x:(List Int) × (List Int))=>x=((vf suits moves (Kr suits)).2.2.1,(vf suits moves (Kr suits)).1)) (zac suits moves):=have h:=Sk.pval _ (zjM suits moves); h
theorem zme (suits:List jN) (moves:List Move) (hs:suits.length≤1000) (hm:moves.length≤1000):(Km suits moves).obs (fun _=>True):=by
 refine Sk.obs_of _ ?_
 unfold Km
 simp only [Sk.obq,Sk.isLoop,reduceCtorEq,ON,kk,VH,zeO.c,maxLen]
 all_goals simp only [LN] at *
 refine fun _=>⟨⟨by omega,by omega,by omega⟩,fun _ _=>⟨⟨by omega,rfl⟩,fun i hi _=>⟨fun hlt=>⟨by omega,fun _=>⟨⟨?_,fun x _ _=>?_⟩,fun x _ hx _=>⟨?_,⟨by omega,?_⟩,by omega⟩⟩⟩,fun hge=>?_⟩⟩⟩
 ·have h:=zde suits (moves.take i.2.1) (Kr suits)
  rw [hi.2] at h
  simpa [Kr] using h
 ·have h:=zgm suits (moves.take i.2.1) (Kr suits)
  rw [hi.2] at h
  simp only [List.length_take] at h
  omega
 ·rw [jj (by omega) (by omega)]; omega
 ·have h:=zbG suits moves i.2.1 (by omega) (Kr suits)
  rw [hi.2] at h
  rw [h,hx]; rfl
 ·have e:moves.take i.2.1=moves:=List.take_of_length_le (by omega)
  have h:=hi.2
  rw [e] at h
  rw [h]; exact ⟨rfl,rfl⟩
def Qy (suits:List jN) (moves:List Move):Ctr ((List Int) × (List Int)):=kk tok mixed Tryz.func8 [lv jN.cells suits,lv Move.cells moves] (fun x=>.tup [lv jz x.1,lv jz x.2]) false (Km suits moves) (zac suits moves) (fun (h:(suits.length≤1000)∧(moves.length≤1000))=>zme suits moves h.1 h.2) (fun (x:(List Int) × (List Int))=>x=((vf suits moves (Kr suits)).2.2.1,(vf suits moves (Kr suits)).1)) (ziJ suits moves)
def JJ (a:List Int) (b:List Int):Sk (Bool) :=
 .br (((a.length:Nat):Int) != ((b.length:Nat):Int))
 (.fin false)
 (.bind true (fun _=>True)
 (.loop (default:Sum (Bool) (Unit)) (fun i2=>i2≤a.length) (fun i2=>a.length - i2) (0:Nat)
 (fun (i2:Nat)=>⟨[(5,iv (i2:Int))],[]⟩) fun i2 =>
 .bnd 0 0 a.length <|
 .br (decide ((i2:Int) < ((a.length:Nat):Int)))
 (.r 6 (.andl (.p (ixP (i2:Int) a.length)) (.p (ixP (i2:Int) b.length))) fun _ =>
 .br ((a.getD i2 default) != (b.getD i2 default))
 (.fin (.inl (.inl false)))
 (.r 5 .z fun _ =>
 .wi 5 (w64 ((i2:Int)+1)) ((i2+1:Nat):Int) <|
 .fin (.inr (i2+1))))
 (.fin (.inl (.inr ()))))
 (fun (_:Unit)=>⟨[],[]⟩) fun _ =>
 .fin true)
def zkx (a:List Int) (b:List Int):Bool:=(JJ a b).val
theorem zdL (a:List Int) (b:List Int):(JJ a b).obs (fun _=>True):=by
 unfold JJ
 exact okD
def Uo (a:List Int) (b:List Int):Ctr (Bool):=kk tok mixed Tryz.func17 [lv jz a,lv jz b] (fun x=>bv x) true (JJ a b) (zkx a b) (fun (_:True)=>zdL a b)
def zm (a:List Int) (b:List Int):Sk (Bool) :=
 .br (((a.length:Nat):Int) != ((b.length:Nat):Int))
 (.fin false)
 (.bind true (fun _=>True)
 (.loop (default:Sum (Bool) (Unit)) (fun i2=>i2≤a.length) (fun i2=>a.length - i2) (0:Nat)
 (fun (i2:Nat)=>⟨[(5,iv (i2:Int))],[]⟩) fun i2 =>
 .bnd 0 0 a.length <|
 .br (decide ((i2:Int) < ((a.length:Nat):Int)))
 (.r 6 (.andl (.p (ixP (i2:Int) a.length)) (.p (ixP (i2:Int) b.length))) fun _ =>
 .br ((a.getD i2 default) != (b.getD i2 default))
 (.fin (.inl (.inl false)))
 (.r 5 .z fun _ =>
 .wi 5 (w64 ((i2:Int)+1)) ((i2+1:Nat):Int) <|
 .fin (.inr (i2+1))))
 (.fin (.inl (.inr ()))))
 (fun (_:Unit)=>⟨[],[]⟩) fun _ =>
 .fin true)
def HK (a:List Int) (b:List Int):Bool:=(zm a b).val
theorem Bt (a:List Int) (b:List Int) (hP:a=b):(zm a b).pst (fun (x:Bool)=>x=true):=by
 unfold zm
 exact okP
theorem FB (a:List Int) (b:List Int):(fun (x:Bool)=>(a=b)→(x=true)) (HK a b):=fun hP=>Sk.pval _ (Bt a b hP)
theorem zbj (a:List Int) (b:List Int):(zm a b).obs (fun _=>True):=by
 unfold zm
 exact okD
def Qg (a:List Int) (b:List Int):Ctr (Bool):=kk tok mixed Tryz.func9 [lv jz a,lv jz b] (fun x=>bv x) true (zm a b) (HK a b) (fun (_:True)=>zbj a b) (fun (x:Bool)=>(a=b)→(x=true)) (FB a b)
structure Jg where
 suit:Int
 sum:Int
 currency:Int
 state:Int
 deriving Inhabited
def Jg.cells (c:Jg):List D:=[dI c.suit,dI c.sum,dI c.currency,dI c.state]
def Jg.E:Enc Jg:=⟨Jg.cells,4,fun _=>rfl,fun _=>rfl⟩
def uk (r:jg):Sk ((List ByteArray) × (List ByteArray) × (List ByteArray)) :=
 .bind true (fun b1=>b1.length≤0+r.cities.length)
 (.loop (default:Sum ((List ByteArray) × (List ByteArray) × (List ByteArray)) ((List ByteArray))) (fun i2=>i2.2≤r.cities.length∧i2.1.length≤0+i2.2) (fun i2=>r.cities.length - i2.2) (([],0):(List ByteArray) × Nat)
 (fun (i2:(List ByteArray) × Nat)=>⟨[(2,ow 100002 i2.1),(14,iv (i2.2:Int))],[(100002,jx 9 1 vE i2.1)]⟩) fun i2 =>
 .bnd 12 0 r.cities.length <|
 .br (decide ((i2.2:Int) < ((r.cities.length:Nat):Int)))
 (.r 3 (.p (ixP (i2.2:Int) r.cities.length)) fun _ =>
 .r 4 (.andl (.o [.nrm (qt YV [(r.cities.getD i2.2 default).name])]) (.andl (.o [.nrm (Ji YV i2.1 [(r.cities.getD i2.2 default).name])]) (.andl (.t (YV.ones [(r.cities.getD i2.2 default).name])) (.p (szP i2.1.length [(r.cities.getD i2.2 default).name].length 16))))) fun _ =>
 .r 5 .z fun _ =>
 .wi 14 (w64 ((i2.2:Int)+1)) ((i2.2+1:Nat):Int) <|
 .fin (.inr (i2.1++[(r.cities.getD i2.2 default).name],i2.2+1)))
 (.fin (.inl (.inr i2.1))))
 (fun (b1:(List ByteArray))=>⟨[(2,ow 100001 b1)],[(100001,jx 9 1 vE b1)]⟩) fun b1 =>
 .bind true (fun b3=>b3.length≤0+r.firms.length)
 (.loop (default:Sum ((List ByteArray) × (List ByteArray) × (List ByteArray)) ((List ByteArray))) (fun i4=>i4.2≤r.firms.length∧i4.1.length≤0+i4.2) (fun i4=>r.firms.length - i4.2) (([],0):(List ByteArray) × Nat)
 (fun (i4:(List ByteArray) × Nat)=>⟨[(3,ow 100005 i4.1),(27,iv (i4.2:Int))],[(100005,jx 9 1 vE i4.1)]⟩) fun i4 =>
 .bnd 25 0 r.firms.length <|
 .br (decide ((i4.2:Int) < ((r.firms.length:Nat):Int)))
 (.r 8 (.p (ixP (i4.2:Int) r.firms.length)) fun _ =>
 .r 9 (.andl (.o [.nrm (qt YV [(r.firms.getD i4.2 default).name])]) (.andl (.o [.nrm (Ji YV i4.1 [(r.firms.getD i4.2 default).name])]) (.andl (.t (YV.ones [(r.firms.getD i4.2 default).name])) (.p (szP i4.1.length [(r.firms.getD i4.2 default).name].length 16))))) fun _ =>
 .r 10 .z fun _ =>
 .wi 27 (w64 ((i4.2:Int)+1)) ((i4.2+1:Nat):Int) <|
 .fin (.inr (i4.1++[(r.firms.getD i4.2 default).name],i4.2+1)))
 (.fin (.inl (.inr i4.1))))
 (fun (b3:(List ByteArray))=>⟨[(3,ow 100004 b3)],[(100004,jx 9 1 vE b3)]⟩) fun b3 =>
 .bind true (fun b5=>b5.length≤0+r.orders.length)
 (.loop (default:Sum ((List ByteArray) × (List ByteArray) × (List ByteArray)) ((List ByteArray))) (fun i6=>i6.2≤r.orders.length∧i6.1.length≤0+i6.2) (fun i6=>r.orders.length - i6.2) (([],0):(List ByteArray) × Nat)
 (fun (i6:(List ByteArray) × Nat)=>⟨[(4,ow 100008 i6.1),(40,iv (i6.2:Int))],[(100008,jx 9 1 vE i6.1)]⟩) fun i6 =>
 .bnd 38 0 r.orders.length <|
 .br (decide ((i6.2:Int) < ((r.orders.length:Nat):Int)))
 (.r 13 (.p (ixP (i6.2:Int) r.orders.length)) fun _ =>
 .r 14 (.andl (.o [.nrm (qt YV [(r.orders.getD i6.2 default).name])]) (.andl (.o [.nrm (Ji YV i6.1 [(r.orders.getD i6.2 default).name])]) (.andl (.t (YV.ones [(r.orders.getD i6.2 default).name])) (.p (szP i6.1.length [(r.orders.getD i6.2 default).name].length 16))))) fun _ =>
 .r 15 .z fun _ =>
 .wi 40 (w64 ((i6.2:Int)+1)) ((i6.2+1:Nat):Int) <|
 .fin (.inr (i6.1++[(r.orders.getD i6.2 default).name],i6.2+1)))
 (.fin (.inl (.inr i6.1))))
 (fun (b5:(List ByteArray))=>⟨[(4,ow 100007 b5)],[(100007,jx 9 1 vE b5)]⟩) fun b5 =>
 .fin (b1,b3,b5)
def zcR (r:jg):(List ByteArray) × (List ByteArray) × (List ByteArray):=(uk r).val
theorem zdn (r:jg):(uk r).pst (fun (x:(List ByteArray) × (List ByteArray) × (List ByteArray))=>x.1.length≤r.cities.length∧x.2.1.length≤r.firms.length∧x.2.2.length≤r.orders.length):=by
 unfold uk
 try simp only [jh.Small,jg.Small]
 exact okP
theorem zbV (r:jg):(fun (x:(List ByteArray) × (List ByteArray) × (List ByteArray))=>x.1.length≤r.cities.length∧x.2.1.length≤r.firms.length∧x.2.2.length≤r.orders.length) (zcR r):=have h:=Sk.pval _ (zdn r); h
theorem zgx (r:jg) (hr:r.Small):(uk r).obs (fun _=>True):=by
 simp only [jh.Small,jg.Small] at hr
 unfold uk
 try simp only [jh.Small,jg.Small]
 exact okD
def Yj (r:jg):Ctr ((List ByteArray) × (List ByteArray) × (List ByteArray)):=kk tok mixed Tryz.func88 [av r.cells] (fun x=>.tup [lv vE x.1,lv vE x.2.1,lv vE x.2.2]) false (uk r) (zcR r) (fun (h:(r.Small))=>zgx r h) (fun (x:(List ByteArray) × (List ByteArray) × (List ByteArray))=>x.1.length≤r.cities.length∧x.2.1.length≤r.firms.length∧x.2.2.length≤r.orders.length) (zbV r)
def Jq (s:ByteArray):Sk (Bool) :=
 .br ((s.toList == (⟨#[]⟩:ByteArray).toList)||(decide (((s.size:Nat):Int) > 20)))
 (.fin false)
 (.r 3 (.andl (.o [.nrm (zr8 s)]) (.p (s.size≤maxLen))) fun _ =>
 .bind true (fun _=>True)
 (.loop (default:Sum (Bool) (Unit)) (fun i2=>i2≤(yY s).length) (fun i2=>(yY s).length - i2) (0:Nat)
 (fun (i2:Nat)=>⟨[(16,iv (i2:Int))],[]⟩) fun i2 =>
 .bnd 14 0 ((yY s).length) <|
 .br (decide ((i2:Int) < (((yY s).length:Nat):Int)))
 (.r 5 (.p (ixP (i2:Int) ((yY s).length))) fun _ =>
 .br ((!(((decide (((yY s).getD i2 default)≥97))&&(decide (((yY s).getD i2 default)≤122)))||((decide (((yY s).getD i2 default)≥65))&&(decide (((yY s).getD i2 default)≤90)))))&&(((i2:Int) == 0)||((((yY s).getD i2 default) != 95)&&((decide (((yY s).getD i2 default) < 48))||(decide (((yY s).getD i2 default) > 57))))))
 (.fin (.inl (.inl false)))
 (.r 9 .z fun _ =>
 .wi 16 (w64 ((i2:Int)+1)) ((i2+1:Nat):Int) <|
 .fin (.inr (i2+1))))
 (.fin (.inl (.inr ()))))
 (fun (_:Unit)=>⟨[],[]⟩) fun _ =>
 .fin true)
def zkc (s:ByteArray):Bool:=(Jq s).val
theorem zeo (s:ByteArray):(Jq s).obs (fun _=>True):=by
 unfold Jq
 exact okD
def Hv (s:ByteArray):Ctr (Bool):=kk tok mixed Tryz.func161 [sv s] (fun x=>bv x) true (Jq s) (zkc s) (fun (_:True)=>zeo s)
def zJ (s:List ByteArray) (v:ByteArray):Sk (Int) :=
 .bind true (fun b1=>∀ q,q < s.length→((s.getD q default).toList == v.toList)=false)
 (.loop (default:Sum (Int) (Unit)) (fun i2=>∀ q,q < i2→((s.getD q default).toList == v.toList)=false) (fun i2=>s.length - i2) (0:Nat)
 (fun (i2:Nat)=>⟨[(8,iv (i2:Int))],[]⟩) fun i2 =>
 .bnd 0 0 s.length <|
 .br (decide ((i2:Int) < ((s.length:Nat):Int)))
 (.r 4 (.p (ixP (i2:Int) s.length)) fun _ =>
 .br (v.toList == (s.getD i2 default).toList)
 (.fin (.inl (.inl (i2:Int))))
 (.r 6 .z fun _ =>
 .wi 8 (w64 ((i2:Int)+1)) ((i2+1:Nat):Int) <|
 .fin (.inr (i2+1))))
 (.fin (.inl (.inr ()))))
 (fun (_:Unit)=>⟨[],[]⟩) fun _ =>
 .fin (-1)
def FU (s:List ByteArray) (v:ByteArray):Int:=(zJ s v).val
theorem zav (s:List ByteArray) (v:ByteArray):(zJ s v).pst (fun (x:Int)=>(x = -1∧∀ q,q < s.length→((s.getD q default).toList == v.toList)=false)∨(0≤x∧x < s.length∧((s.getD x.toNat default).toList == v.toList)=true∧∀ q,(q:Nat) < x.toNat→((s.getD q default).toList == v.toList)=false)):=by
 unfold zJ
 exact okP
theorem BH (s:List ByteArray) (v:ByteArray):(fun (x:Int)=>(x = -1∧∀ q,q < s.length→((s.getD q default).toList == v.toList)=false)∨(0≤x∧x < s.length∧((s.getD x.toNat default).toList == v.toList)=true∧∀ q,(q:Nat) < x.toNat→((s.getD q default).toList == v.toList)=false)) (FU s v):=have h:=Sk.pval _ (zav s v); h
theorem zbK (s:List ByteArray) (v:ByteArray):(zJ s v).obs (fun _=>True):=by
 unfold zJ
 exact okD
def ZM (s:List ByteArray) (v:ByteArray):Ctr (Int):=kk tok mixed Tryz.func197 [lv vE s,sv v] (fun x=>iv x) true (zJ s v) (FU s v) (fun (_:True)=>zbK s v) (fun (x:Int)=>(x = -1∧∀ q,q < s.length→((s.getD q default).toList == v.toList)=false)∨(0≤x∧x < s.length∧((s.getD x.toNat default).toList == v.toList)=true∧∀ q,(q:Nat) < x.toNat→((s.getD q default).toList == v.toList)=false)) (BH s v)
def qF (s:List ByteArray) (v:ByteArray):Sk (Bool) :=
 .r 1 ((ZM s v).c) fun x1 =>
 .fin (decide (x1≥0))
def Gl (s:List ByteArray) (v:ByteArray):Bool:=(qF s v).val
theorem XC (s:List ByteArray) (v:ByteArray):(qF s v).pst (fun (x:Bool)=>(x=true↔∃ q,q < s.length∧((s.getD q default).toList == v.toList)=true)):=by
 unfold qF
 try simp only [ZM]
 exact okP
theorem Xm (s:List ByteArray) (v:ByteArray):(fun (x:Bool)=>(x=true↔∃ q,q < s.length∧((s.getD q default).toList == v.toList)=true)) (Gl s v):=have h:=Sk.pval _ (XC s v); h
theorem FA (s:List ByteArray) (v:ByteArray):(qF s v).obs (fun _=>True):=by
 unfold qF
 try simp only [ZM]
 exact okE
def VW (s:List ByteArray) (v:ByteArray):Ctr (Bool):=kk tok mixed Tryz.func162 [lv vE s,sv v] (fun x=>bv x) true (qF s v) (Gl s v) (fun (_:True)=>FA s v) (fun (x:Bool)=>(x=true↔∃ q,q < s.length∧((s.getD q default).toList == v.toList)=true)) (Xm s v)
def KN (names:List ByteArray) (i:Int):Sk (Int) :=
 .r 1 (.andl (.p (ixP i names.length)) ((Hv (names.getD i.toNat default)).c)) fun x1 =>
 .br (!x1)
 (.fin 2)
 (.r 3 (.andl (.andl (.o [.nrm (zsi YV names 0 i.toNat)]) (.pt (0≤i∧i≤((names.length:Nat):Int)) (YV.lens names))) (.andl (.p (ixP i names.length)) ((VW (uD names 0 i.toNat) (names.getD i.toNat default)).c))) fun x2 =>
 .br x2
 (.fin 5)
 (.fin 0))
def zmO (names:List ByteArray) (i:Int):Int:=(KN names i).val
theorem zf3 (names:List ByteArray) (i:Int) (hi:0≤i∧i < (names.length:Int)):(KN names i).obs (fun _=>True):=by
 unfold KN
 try simp only [Hv,VW]
 exact okD
def zG (names:List ByteArray) (i:Int):Ctr (Int):=kk tok mixed Tryz.func129 [lv vE names,iv i] (fun x=>iv x) true (KN names i) (zmO names i) (fun (h:(0≤i∧i < (names.length:Int)))=>zf3 names i h)
def yM (p:Int):Sk (Bool) :=
 .fin true
def HH (p:Int):Bool:=(yM p).val
theorem zaQ (p:Int):HH p=true:=rfl
theorem BT (p:Int):(yM p).obs (fun _=>True):=by
 unfold yM
 exact okE
def Gp (p:Int):Ctr (Bool):=kk tok mixed Tryz.func90 [iv p] (fun x=>bv x) true (yM p) (HH p) (fun (_:True)=>BT p)
def gL (names:List ByteArray) (most:Int):Sk (Int) :=
 .br (decide (((names.length:Nat):Int) > most))
 (.fin 6)
 (.bind true (fun _=>True)
 (.loop (default:Sum (Int) (Unit)) (fun i2=>i2≤names.length) (fun i2=>names.length - i2) (0:Nat)
 (fun (i2:Nat)=>⟨[(15,iv (i2:Int))],[]⟩) fun i2 =>
 .bnd 0 0 names.length <|
 .br (decide ((i2:Int) < ((names.length:Nat):Int)))
 (.r 6 ((zG names (i2:Int)).c) fun x3 =>
 .br (x3 != 0)
 (.fin (.inl (.inl x3)))
 (.r 9 ((Gp (i2:Int)).c) fun x4 =>
 .br (!x4)
 (.fin (.inl (.inl 1)))
 (.r 11 .z fun _ =>
 .wi 15 (w64 ((i2:Int)+1)) ((i2+1:Nat):Int) <|
 .fin (.inr (i2+1)))))
 (.fin (.inl (.inr ()))))
 (fun (_:Unit)=>⟨[],[]⟩) fun _ =>
 .fin 0)
def zhU (names:List ByteArray) (most:Int):Int:=(gL names most).val
theorem zbx (names:List ByteArray) (most:Int):(gL names most).obs (fun _=>True):=by
 unfold gL
 try simp only [Gp,zG,zaQ]
 exact okG
def Zz (names:List ByteArray) (most:Int):Ctr (Int):=kk tok mixed Tryz.func89 [lv vE names,iv most,.fn 90 []] (fun x=>iv x) true (gL names most) (zhU names most) (fun (_:True)=>zbx names most)
def UZ (i:Int) (n:Int):Sk (Bool) :=
 .fin ((decide (i≥0))&&(decide (i < n)))
def zl4 (i:Int) (n:Int):Bool:=(UZ i n).val
theorem vt (i:Int) (n:Int):zl4 i n=((decide (i≥0))&&(decide (i < n))):=rfl
theorem zmQ (i:Int) (n:Int):(UZ i n).obs (fun _=>True):=by
 unfold UZ
 exact okE
def jY (i:Int) (n:Int):Ctr (Bool):=kk tok mixed Tryz.func93 [iv i,iv n] (fun x=>bv x) true (UZ i n) (zl4 i n) (fun (_:True)=>zmQ i n)
def JB (l:List Int) (low:Int) (high:Int):Sk (Bool) :=
 .bind true (fun _=>True)
 (.loop (default:Sum (Bool) (Unit)) (fun i2=>i2≤l.length) (fun i2=>l.length - i2) (0:Nat)
 (fun (i2:Nat)=>⟨[(11,iv (i2:Int))],[]⟩) fun i2 =>
 .bnd 0 0 l.length <|
 .br (decide ((i2:Int) < ((l.length:Nat):Int)))
 (.r 3 (.p (ixP (i2:Int) l.length)) fun _ =>
 .r 4 (.wh ((decide ((l.getD i2 default) < low))||(decide ((l.getD i2 default) > high))) false (.wh (decide ((i2:Int) > 0)) true (.p (ixP (w64 ((i2:Int) - 1)) l.length)))) fun _ =>
 .br (((decide ((l.getD i2 default) < low))||(decide ((l.getD i2 default) > high)))||((decide ((i2:Int) > 0))&&(decide ((l.getD i2 default)≤(l.getD ((w64 ((i2:Int) - 1)).toNat) default)))))
 (.fin (.inl (.inl false)))
 (.r 6 .z fun _ =>
 .wi 11 (w64 ((i2:Int)+1)) ((i2+1:Nat):Int) <|
 .fin (.inr (i2+1))))
 (.fin (.inl (.inr ()))))
 (fun (_:Unit)=>⟨[],[]⟩) fun _ =>
 .fin true
def zjW (l:List Int) (low:Int) (high:Int):Bool:=(JB l low high).val
theorem zdK (l:List Int) (low:Int) (high:Int):(JB l low high).obs (fun _=>True):=by
 unfold JB
 exact okD
def zR (l:List Int) (low:Int) (high:Int):Ctr (Bool):=kk tok mixed Tryz.func130 [lv jz l,iv low,iv high] (fun x=>bv x) true (JB l low high) (zjW l low high) (fun (_:True)=>zdK l low high)
def QN (r:jg) (c_:za):Sk (Bool) :=
 .bind true (fun _=>True)
 (.loop (default:Sum (Bool) (Unit)) (fun i2=>i2≤c_.feasts.length) (fun i2=>c_.feasts.length - i2) (0:Nat)
 (fun (i2:Nat)=>⟨[(10,iv (i2:Int))],[]⟩) fun i2 =>
 .bnd 8 0 c_.feasts.length <|
 .br (decide ((i2:Int) < ((c_.feasts.length:Nat):Int)))
 (.r 3 (.p (ixP (i2:Int) c_.feasts.length)) fun _ =>
 .r 4 (.andl (.p ((100:Int)≠0)) (.wh (decide (((c_.feasts.getD i2 default).tmod 100) < 1)) false (.p ((100:Int)≠0)))) fun _ =>
 .br ((decide (((c_.feasts.getD i2 default).tmod 100) < 1))||(decide (((c_.feasts.getD i2 default).tmod 100) > 31)))
 (.fin (.inl (.inl false)))
 (.r 6 .z fun _ =>
 .wi 10 (w64 ((i2:Int)+1)) ((i2+1:Nat):Int) <|
 .fin (.inr (i2+1))))
 (.fin (.inl (.inr ()))))
 (fun (_:Unit)=>⟨[],[]⟩) fun _ =>
 .r 7 (.dep (.wh ((decide (((c_.feasts.length:Nat):Int) > 60))||(decide (((c_.shut.length:Nat):Int) > 200))) false ((jY c_.order ((r.orders.length:Nat):Int)).c)) fun x3=>.wh (((decide (((c_.feasts.length:Nat):Int) > 60))||(decide (((c_.shut.length:Nat):Int) > 200)))||(!x3)) false ((jY c_.currency ((r.currencies.length:Nat):Int)).c)) fun p9 =>
 .br ((((decide (((c_.feasts.length:Nat):Int) > 60))||(decide (((c_.shut.length:Nat):Int) > 200)))||(!p9.1))||(!p9.2))
 (.fin false)
 (.r 9 (.dep ((zR c_.rest 0 6).c) fun x5=>.dep (.wh x5 true ((zR c_.feasts 101 1231).c)) fun x6=>.wh (x5&&x6) true ((zR c_.shut 0 100000).c)) fun p8 =>
 .fin ((p8.1&&p8.2.1)&&p8.2.2))
def znC (r:jg) (c_:za):Bool:=(QN r c_).val
theorem zio (r:jg) (c_:za):(QN r c_).obs (fun _=>True):=by
 unfold QN
 try simp only [jY,zR,vt]
 exact okG
def BU (r:jg) (c_:za):Ctr (Bool):=kk tok mixed Tryz.func92 [av r.cells,av c_.cells] (fun x=>bv x) true (QN r c_) (znC r c_) (fun (_:True)=>zio r c_)
def yG (i:Int) (v:jg):Sk (Bool) :=
 .r 1 (.andl (.p (ixP i v.cities.length)) ((BU v (v.cities.getD i.toNat default)).c)) fun x1 =>
 .fin x1
def zfw (i:Int) (v:jg):Bool:=(yG i v).val
theorem zbo (i:Int) (v:jg) (hi:0≤i∧i < (v.cities.length:Int)):(yG i v).obs (fun _=>True):=by
 unfold yG
 try simp only [BU]
 exact okD
def YZ (i:Int) (v:jg):Ctr (Bool):=kk tok mixed Tryz.func91 [iv i,.ref v.cells] (fun x=>bv x) true (yG i v) (zfw i v) (fun (h:(0≤i∧i < (v.cities.length:Int)))=>zbo i v h)
def gS (names:List ByteArray) (most:Int) (v:jg):Sk (Int) :=
 .br (decide (((names.length:Nat):Int) > most))
 (.fin 6)
 (.bind true (fun _=>True)
 (.loop (default:Sum (Int) (Unit)) (fun i2=>i2≤names.length) (fun i2=>names.length - i2) (0:Nat)
 (fun (i2:Nat)=>⟨[(15,iv (i2:Int))],[]⟩) fun i2 =>
 .bnd 0 0 names.length <|
 .br (decide ((i2:Int) < ((names.length:Nat):Int)))
 (.r 6 ((zG names (i2:Int)).c) fun x3 =>
 .br (x3 != 0)
 (.fin (.inl (.inl x3)))
 (.r 9 ((YZ (i2:Int) v).c) fun x4 =>
 .br (!x4)
 (.fin (.inl (.inl 1)))
 (.r 11 .z fun _ =>
 .wi 15 (w64 ((i2:Int)+1)) ((i2+1:Nat):Int) <|
 .fin (.inr (i2+1)))))
 (.fin (.inl (.inr ()))))
 (fun (_:Unit)=>⟨[],[]⟩) fun _ =>
 .fin 0)
def zhQ (names:List ByteArray) (most:Int) (v:jg):Int:=(gS names most v).val
theorem zca (names:List ByteArray) (most:Int) (v:jg) (hv:names.length≤v.cities.length):(gS names most v).obs (fun _=>True):=by
 unfold gS
 try simp only [YZ,zG]
 exact okD
def Zt (names:List ByteArray) (most:Int) (v:jg):Ctr (Int):=kk tok mixed Tryz.func89 [lv vE names,iv most,.fn 91 [.ref v.cells]] (fun x=>iv x) true (gS names most v) (zhQ names most v) (fun (h:(names.length≤v.cities.length))=>zca names most v h)
def yE (i:Int) (v:jg):Sk (Bool) :=
 .r 1 (.andl (.p (ixP i v.firms.length)) (.dep ((jY ((v.firms.getD i.toNat default).city) ((v.cities.length:Nat):Int)).c) fun x1=>.andl (.wh x1 true (.p (ixP i v.firms.length))) (.wh x1 true ((jY ((v.firms.getD i.toNat default).group) ((v.groups.length:Nat):Int)).c)))) fun p3 =>
 .fin (p3.1&&p3.2)
def zgd (i:Int) (v:jg):Bool:=(yE i v).val
theorem zaY (i:Int) (v:jg) (hi:0≤i∧i < (v.firms.length:Int)):(yE i v).obs (fun _=>True):=by
 unfold yE
 try simp only [jY,vt]
 exact okG
def GJ (i:Int) (v:jg):Ctr (Bool):=kk tok mixed Tryz.func94 [iv i,.ref v.cells] (fun x=>bv x) true (yE i v) (zgd i v) (fun (h:(0≤i∧i < (v.firms.length:Int)))=>zaY i v h)
def gD (names:List ByteArray) (most:Int) (v:jg):Sk (Int) :=
 .br (decide (((names.length:Nat):Int) > most))
 (.fin 6)
 (.bind true (fun _=>True)
 (.loop (default:Sum (Int) (Unit)) (fun i2=>i2≤names.length) (fun i2=>names.length - i2) (0:Nat)
 (fun (i2:Nat)=>⟨[(15,iv (i2:Int))],[]⟩) fun i2 =>
 .bnd 0 0 names.length <|
 .br (decide ((i2:Int) < ((names.length:Nat):Int)))
 (.r 6 ((zG names (i2:Int)).c) fun x3 =>
 .br (x3 != 0)
 (.fin (.inl (.inl x3)))
 (.r 9 ((GJ (i2:Int) v).c) fun x4 =>
 .br (!x4)
 (.fin (.inl (.inl 1)))
 (.r 11 .z fun _ =>
 .wi 15 (w64 ((i2:Int)+1)) ((i2+1:Nat):Int) <|
 .fin (.inr (i2+1)))))
 (.fin (.inl (.inr ()))))
 (fun (_:Unit)=>⟨[],[]⟩) fun _ =>
 .fin 0)
def ziE (names:List ByteArray) (most:Int) (v:jg):Int:=(gD names most v).val
theorem zb6 (names:List ByteArray) (most:Int) (v:jg) (hv:names.length≤v.firms.length):(gD names most v).obs (fun _=>True):=by
 unfold gD
 try simp only [GJ,zG]
 exact okD
def ZG (names:List ByteArray) (most:Int) (v:jg):Ctr (Int):=kk tok mixed Tryz.func89 [lv vE names,iv most,.fn 94 [.ref v.cells]] (fun x=>iv x) true (gD names most v) (ziE names most v) (fun (h:(names.length≤v.firms.length))=>zb6 names most v h)
def Kt (o:qn):Sk (Bool) :=
 .bind true (fun b1=>b1.length≤0+o.choices.length)
 (.loop (default:Sum (Bool) ((List Int))) (fun i2=>i2.2≤o.choices.length∧i2.1.length≤0+i2.2) (fun i2=>o.choices.length - i2.2) (([],0):(List Int) × Nat)
 (fun (i2:(List Int) × Nat)=>⟨[(3,ow 100002 i2.1),(12,iv (i2.2:Int))],[(100002,jx 3 1 jz i2.1)]⟩) fun i2 =>
 .bnd 10 0 o.choices.length <|
 .br (decide ((i2.2:Int) < ((o.choices.length:Nat):Int)))
 (.r 4 (.p (ixP (i2.2:Int) o.choices.length)) fun _ =>
 .r 5 (.andl (.o [.nrm (qt ky [(o.choices.getD i2.2 default).ask])]) (.andl (.o [.nrm (Ji ky i2.1 [(o.choices.getD i2.2 default).ask])]) (.andl (.t (ky.ones [(o.choices.getD i2.2 default).ask])) (.p (szP i2.1.length [(o.choices.getD i2.2 default).ask].length 8))))) fun _ =>
 .r 6 ((jY ((o.choices.getD i2.2 default).by_) 5).c) fun x3 =>
 .br (!x3)
 (.fin (.inl (.inl false)))
 (.r 8 .z fun _ =>
 .wi 12 (w64 ((i2.2:Int)+1)) ((i2.2+1:Nat):Int) <|
 .fin (.inr (i2.1++[(o.choices.getD i2.2 default).ask],i2.2+1))))
 (.fin (.inl (.inr i2.1))))
 (fun (b1:(List Int))=>⟨[(3,ow 100001 b1)],[(100001,jx 3 1 jz b1)]⟩) fun b1 =>
 .bind true (fun b4=>b4.length≤0+o.rules.length)
 (.loop (default:Sum (Bool) ((List Int))) (fun i5=>i5.2≤o.rules.length∧i5.1.length≤0+i5.2) (fun i5=>o.rules.length - i5.2) (([],0):(List Int) × Nat)
 (fun (i5:(List Int) × Nat)=>⟨[(4,ow 100005 i5.1),(29,iv (i5.2:Int))],[(100005,jx 3 1 jz i5.1)]⟩) fun i5 =>
 .bnd 27 0 o.rules.length <|
 .br (decide ((i5.2:Int) < ((o.rules.length:Nat):Int)))
 (.r 11 (.p (ixP (i5.2:Int) o.rules.length)) fun _ =>
 .r 12 (.andl (.o [.nrm (qt ky [(o.rules.getD i5.2 default).ask])]) (.andl (.o [.nrm (Ji ky i5.1 [(o.rules.getD i5.2 default).ask])]) (.andl (.t (ky.ones [(o.rules.getD i5.2 default).ask])) (.p (szP i5.1.length [(o.rules.getD i5.2 default).ask].length 8))))) fun _ =>
 .r 13 .z fun _ =>
 .wi 29 (w64 ((i5.2:Int)+1)) ((i5.2+1:Nat):Int) <|
 .fin (.inr (i5.1++[(o.rules.getD i5.2 default).ask],i5.2+1)))
 (.fin (.inl (.inr i5.1))))
 (fun (b4:(List Int))=>⟨[(4,ow 100004 b4)],[(100004,jx 3 1 jz b4)]⟩) fun b4 =>
 .r 14 (.dep ((zR b1 0 21).c) fun x6=>.wh x6 true ((zR b4 0 21).c)) fun p8 =>
 .fin (p8.1&&p8.2)
def zl5 (o:qn):Bool:=(Kt o).val
theorem zfn (o:qn) (ho:o.choices.length≤1000000∧o.rules.length≤1000000):(Kt o).obs (fun _=>True):=by
 unfold Kt
 try simp only [jY,zR,vt]
 exact okG
def FN (o:qn):Ctr (Bool):=kk tok mixed Tryz.func96 [av o.cells] (fun x=>bv x) true (Kt o) (zl5 o) (fun (h:(o.choices.length≤1000000∧o.rules.length≤1000000))=>zfn o h)
def yN (i:Int) (v:jg):Sk (Bool) :=
 .r 1 (.andl (.p (ixP i v.orders.length)) ((FN (v.orders.getD i.toNat default)).c)) fun x1 =>
 .fin x1
def zho (i:Int) (v:jg):Bool:=(yN i v).val
theorem za6 (i:Int) (v:jg) (hi:0≤i∧i < (v.orders.length:Int)) (hv:v.Small):(yN i v).obs (fun _=>True):=by
 simp only [jh.Small,jg.Small] at hv
 unfold yN
 try simp only [FN,jh.Small,jg.Small]
 exact okD
def Ge (i:Int) (v:jg):Ctr (Bool):=kk tok mixed Tryz.func95 [iv i,.ref v.cells] (fun x=>bv x) true (yN i v) (zho i v) (fun (h:(0≤i∧i < (v.orders.length:Int))∧(v.Small))=>za6 i v h.1 h.2)
def gC (names:List ByteArray) (most:Int) (v:jg):Sk (Int) :=
 .br (decide (((names.length:Nat):Int) > most))
 (.fin 6)
 (.bind true (fun _=>True)
 (.loop (default:Sum (Int) (Unit)) (fun i2=>i2≤names.length) (fun i2=>names.length - i2) (0:Nat)
 (fun (i2:Nat)=>⟨[(15,iv (i2:Int))],[]⟩) fun i2 =>
 .bnd 0 0 names.length <|
 .br (decide ((i2:Int) < ((names.length:Nat):Int)))
 (.r 6 ((zG names (i2:Int)).c) fun x3 =>
 .br (x3 != 0)
 (.fin (.inl (.inl x3)))
 (.r 9 ((Ge (i2:Int) v).c) fun x4 =>
 .br (!x4)
 (.fin (.inl (.inl 1)))
 (.r 11 .z fun _ =>
 .wi 15 (w64 ((i2:Int)+1)) ((i2+1:Nat):Int) <|
 .fin (.inr (i2+1)))))
 (.fin (.inl (.inr ()))))
 (fun (_:Unit)=>⟨[],[]⟩) fun _ =>
 .fin 0)
def ziH (names:List ByteArray) (most:Int) (v:jg):Int:=(gC names most v).val
theorem zcC (names:List ByteArray) (most:Int) (v:jg) (hv:names.length≤v.orders.length) (hs:v.Small):(gC names most v).obs (fun _=>True):=by
 simp only [jh.Small,jg.Small] at hs
 unfold gC
 try simp only [Ge,zG,jh.Small,jg.Small]
 exact okD
def ZQ (names:List ByteArray) (most:Int) (v:jg):Ctr (Int):=kk tok mixed Tryz.func89 [lv vE names,iv most,.fn 95 [.ref v.cells]] (fun x=>iv x) true (gC names most v) (ziH names most v) (fun (h:(names.length≤v.orders.length)∧(v.Small))=>zcC names most v h.1 h.2)
def gx (r:jg):Sk (Int) :=
 .br (decide (((r.usances.length:Nat):Int) > 100))
 (.fin 6)
 (.bind true (fun _=>True)
 (.loop (default:Sum (Int) (Unit)) (fun i2=>i2≤r.usances.length) (fun i2=>r.usances.length - i2) (0:Nat)
 (fun (i2:Nat)=>⟨[(14,iv (i2:Int))],[]⟩) fun i2 =>
 .bnd 12 0 r.usances.length <|
 .br (decide ((i2:Int) < ((r.usances.length:Nat):Int)))
 (.bind true (fun _=>True)
 (.r 5 (.p (ixP (i2:Int) r.usances.length)) fun _ =>
 .r 6 (.dep ((jY ((r.usances.getD i2 default).from_) ((r.cities.length:Nat):Int)).c) fun x4=>.wh (!x4) false ((jY ((r.usances.getD i2 default).to_) ((r.cities.length:Nat):Int)).c)) fun p8 =>
 .br ((((!p8.1)||(!p8.2))||(decide (((r.usances.getD i2 default).days) < 1)))||(decide (((r.usances.getD i2 default).days) > 20000)))
 (.fin (.inl (.inl (.inl 1))))
 (.r 8 (.andl (.o [.nrm (zsi kQ.E r.usances 0 i2)]) (.pt (0≤(i2:Int)∧(i2:Int)≤((r.usances.length:Nat):Int)) (kQ.E.lens r.usances))) fun _ =>
 .bind true (fun _=>True)
 (.loop (default:Sum (Sum (Sum (Sum (Int) (Unit)) (Nat)) (Int × Int × kQ × Int × (List za) × Int × Bool × Bool × Bool × Bool × Bool × Bool × Bool × Bool × (List kQ) × Int × (List kQ) × Int × Int × Bool)) (Int × Bool)) (fun i7=>i7≤(uD r.usances 0 i2).length) (fun i7=>(uD r.usances 0 i2).length - i7) (0:Nat)
 (fun (i7:Nat)=>⟨[(50,iv (i7:Int))],[]⟩) fun i7 =>
 .bnd 48 0 ((uD r.usances 0 i2).length) <|
 .br (decide ((i7:Int) < (((uD r.usances 0 i2).length:Nat):Int)))
 (.r 10 (.p (ixP (i7:Int) ((uD r.usances 0 i2).length))) fun _ =>
 .br (((((uD r.usances 0 i2).getD i7 default).from_) == ((r.usances.getD i2 default).from_))&&((((uD r.usances 0 i2).getD i7 default).to_) == ((r.usances.getD i2 default).to_)))
 (.fin (.inl (.inl (.inl (.inl (.inl 5))))))
 (.r 13 .z fun _ =>
 .wi 50 (w64 ((i7:Int)+1)) ((i7+1:Nat):Int) <|
 .fin (.inr (i7+1))))
 (.fin (.inl (.inr ((i7:Int),decide ((i7:Int) < (((uD r.usances 0 i2).length:Nat):Int)))))))
 (fun (b6:Int × Bool)=>⟨[(50,iv b6.1),(51,bv b6.2)],[]⟩) fun b6 =>
 .fin (.inr ((i2:Int),(i2:Int),r.usances.getD i2 default,(r.usances.getD i2 default).from_,r.cities,((r.cities.length:Nat):Int),p8.1,!p8.1,!p8.1,(!p8.1)||(!p8.2),(!p8.1)||(!p8.2),((!p8.1)||(!p8.2))||(decide (((r.usances.getD i2 default).days) < 1)),((!p8.1)||(!p8.2))||(decide (((r.usances.getD i2 default).days) < 1)),(((!p8.1)||(!p8.2))||(decide (((r.usances.getD i2 default).days) < 1)))||(decide (((r.usances.getD i2 default).days) > 20000)),r.usances,(i2:Int),uD r.usances 0 i2,(((uD r.usances 0 i2).length:Nat):Int),b6.1,b6.2))))
 (fun (b3:Int × Int × kQ × Int × (List za) × Int × Bool × Bool × Bool × Bool × Bool × Bool × Bool × Bool × (List kQ) × Int × (List kQ) × Int × Int × Bool)=>⟨[(3,iv b3.1),(16,iv b3.2.1),(18,av b3.2.2.1.cells),(20,iv b3.2.2.2.1),(22,lv za.cells b3.2.2.2.2.1),(23,iv b3.2.2.2.2.2.1),(24,bv b3.2.2.2.2.2.2.1),(25,bv b3.2.2.2.2.2.2.2.1),(26,bv b3.2.2.2.2.2.2.2.2.1),(34,bv b3.2.2.2.2.2.2.2.2.2.1),(35,bv b3.2.2.2.2.2.2.2.2.2.2.1),(39,bv b3.2.2.2.2.2.2.2.2.2.2.2.1),(40,bv b3.2.2.2.2.2.2.2.2.2.2.2.2.1),(44,bv b3.2.2.2.2.2.2.2.2.2.2.2.2.2.1),(46,lv kQ.cells b3.2.2.2.2.2.2.2.2.2.2.2.2.2.2.1),(47,iv b3.2.2.2.2.2.2.2.2.2.2.2.2.2.2.2.1),(48,lv kQ.cells b3.2.2.2.2.2.2.2.2.2.2.2.2.2.2.2.2.1),(49,iv b3.2.2.2.2.2.2.2.2.2.2.2.2.2.2.2.2.2.1),(50,iv b3.2.2.2.2.2.2.2.2.2.2.2.2.2.2.2.2.2.2.1),(51,bv b3.2.2.2.2.2.2.2.2.2.2.2.2.2.2.2.2.2.2.2)],[]⟩) fun _ =>
 .r 14 .z fun _ =>
 .wi 14 (w64 ((i2:Int)+1)) ((i2+1:Nat):Int) <|
 .fin (.inr (i2+1)))
 (.fin (.inl (.inr ()))))
 (fun (_:Unit)=>⟨[],[]⟩) fun _ =>
 .fin 0)
def zig (r:jg):Int:=(gx r).val
theorem zbD (r:jg):(gx r).obs (fun _=>True):=by
 unfold gx
 try simp only [jY,vt]
 exact okG
def ZF (r:jg):Ctr (Int):=kk tok mixed Tryz.func97 [av r.cells] (fun x=>iv x) true (gx r) (zig r) (fun (_:True)=>zbD r)
def yc (r:jg):Sk (Int) :=
 .br (decide (((r.rates.length:Nat):Int) > 100))
 (.fin 6)
 (.bind true (fun _=>True)
 (.loop (default:Sum (Int) (Unit)) (fun i2=>i2≤r.rates.length) (fun i2=>r.rates.length - i2) (0:Nat)
 (fun (i2:Nat)=>⟨[(14,iv (i2:Int))],[]⟩) fun i2 =>
 .bnd 12 0 r.rates.length <|
 .br (decide ((i2:Int) < ((r.rates.length:Nat):Int)))
 (.r 5 (.p (ixP (i2:Int) r.rates.length)) fun _ =>
 .r 6 (.dep ((jY ((r.rates.getD i2 default).from_) ((r.currencies.length:Nat):Int)).c) fun x3=>.dep (.wh (!x3) false ((jY ((r.rates.getD i2 default).to_) ((r.currencies.length:Nat):Int)).c)) fun x4=>.dep (.wh (((!x3)||(!x4))||(((r.rates.getD i2 default).from_) == ((r.rates.getD i2 default).to_))) false ((jY (w64 (((r.rates.getD i2 default).num) - 1)) 1073741824).c)) fun x5=>.dep (.wh ((((!x3)||(!x4))||(((r.rates.getD i2 default).from_) == ((r.rates.getD i2 default).to_)))||(!x5)) false ((jY (w64 (((r.rates.getD i2 default).den) - 1)) 1073741824).c)) fun x6=>.wh (((((!x3)||(!x4))||(((r.rates.getD i2 default).from_) == ((r.rates.getD i2 default).to_)))||(!x5))||(!x6)) false ((jY ((r.rates.getD i2 default).since) 100001).c)) fun p8 =>
 .br ((((((!p8.1)||(!p8.2.1))||(((r.rates.getD i2 default).from_) == ((r.rates.getD i2 default).to_)))||(!p8.2.2.1))||(!p8.2.2.2.1))||(!p8.2.2.2.2))
 (.fin (.inl (.inl 1)))
 (.r 8 .z fun _ =>
 .wi 14 (w64 ((i2:Int)+1)) ((i2+1:Nat):Int) <|
 .fin (.inr (i2+1))))
 (.fin (.inl (.inr ()))))
 (fun (_:Unit)=>⟨[],[]⟩) fun _ =>
 .br (decide (((r.halts.length:Nat):Int) > 20))
 (.fin 6)
 (.bind true (fun b9=>r.HaltOK)
 (.loop (default:Sum (Int) (Unit)) (fun i10=>(∀ i,i < i10→(r.halts.getD i default).to_≤100000)∧i10≤r.halts.length) (fun i10=>r.halts.length - i10) (0:Nat)
 (fun (i10:Nat)=>⟨[(69,iv (i10:Int))],[]⟩) fun i10 =>
 .bnd 67 0 r.halts.length <|
 .br (decide ((i10:Int) < ((r.halts.length:Nat):Int)))
 (.r 13 (.p (ixP (i10:Int) r.halts.length)) fun _ =>
 .r 14 ((jY ((r.halts.getD i10 default).order) ((r.orders.length:Nat):Int)).c) fun x11 =>
 .br ((((!x11)||(decide (((r.halts.getD i10 default).from_) < 0)))||(decide (((r.halts.getD i10 default).from_) > ((r.halts.getD i10 default).to_))))||(decide (((r.halts.getD i10 default).to_) > 100000)))
 (.fin (.inl (.inl 1)))
 (.r 16 .z fun _ =>
 .wi 69 (w64 ((i10:Int)+1)) ((i10+1:Nat):Int) <|
 .fin (.inr (i10+1))))
 (.fin (.inl (.inr ()))))
 (fun (_:Unit)=>⟨[],[]⟩) fun _ =>
 .fin 0))
def zgA (r:jg):Int:=(yc r).val
theorem zhw (r:jg):(yc r).pst (fun (x:Int)=>x=0→r.HaltOK):=by
 unfold yc
 try simp only [jY,vt,jg.HaltOK]
 exact okQ
theorem zd5 (r:jg):(fun (x:Int)=>x=0→r.HaltOK) (zgA r):=have h:=Sk.pval _ (zhw r); h
theorem zhZ (r:jg):(yc r).obs (fun _=>True):=by
 unfold yc
 try simp only [jY,vt,jg.HaltOK]
 exact okG
def Wp (r:jg):Ctr (Int):=kk tok mixed Tryz.func98 [av r.cells] (fun x=>iv x) true (yc r) (zgA r) (fun (_:True)=>zhZ r) (fun (x:Int)=>x=0→r.HaltOK) (zd5 r)
def uq (r:jg):Sk (Int) :=
 .r 1 ((Yj r).c) fun x1 =>
 .r 2 ((Zz r.currencies 8).c) fun x2 =>
 .br (x2 != 0)
 (.fin x2)
 (.r 5 ((Zt x1.1 40 r).c) fun x3 =>
 .br (x3 != 0)
 (.fin x3)
 (.br (decide (((r.groups.length:Nat):Int) > 20))
 (.fin 6)
 (.bind true (fun _=>True)
 (.loop (default:Sum (Int) (Unit)) (fun i5=>i5≤r.groups.length) (fun i5=>r.groups.length - i5) (0:Nat)
 (fun (i5:Nat)=>⟨[(38,iv (i5:Int))],[]⟩) fun i5 =>
 .bnd 36 0 r.groups.length <|
 .br (decide ((i5:Int) < ((r.groups.length:Nat):Int)))
 (.r 12 (.p (ixP (i5:Int) r.groups.length)) fun _ =>
 .r 13 ((jY ((r.groups.getD i5 default).grade) 10).c) fun x6 =>
 .br (!x6)
 (.fin (.inl (.inl 1)))
 (.r 15 .z fun _ =>
 .wi 38 (w64 ((i5:Int)+1)) ((i5+1:Nat):Int) <|
 .fin (.inr (i5+1))))
 (.fin (.inl (.inr ()))))
 (fun (_:Unit)=>⟨[],[]⟩) fun _ =>
 .r 16 ((ZG x1.2.1 200 r).c) fun x7 =>
 .br (x7 != 0)
 (.fin x7)
 (.r 19 ((ZQ x1.2.2 20 r).c) fun x8 =>
 .br (x8 != 0)
 (.fin x8)
 (.r 22 ((ZF r).c) fun x9 =>
 .br (x9 != 0)
 (.fin x9)
 (.r 25 ((Wp r).c) fun x10 =>
 .fin x10))))))
def zcU (r:jg):Int:=(uq r).val
theorem zet (r:jg):(uq r).pst (fun (x:Int)=>x=0→r.HaltOK):=by
 unfold uq
 try simp only [Zz,Zt,ZG,ZQ,jY,Yj,Wp,ZF,vt,jh.Small,jg.Small,jg.HaltOK]
 exact okQ
theorem zbq (r:jg):(fun (x:Int)=>x=0→r.HaltOK) (zcU r):=have h:=Sk.pval _ (zet r); h
theorem zfW (r:jg) (hr:r.Small):(uq r).obs (fun _=>True):=by
 simp only [jh.Small,jg.Small,jg.HaltOK] at hr
 unfold uq
 try simp only [Zz,Zt,ZG,ZQ,jY,Yj,Wp,ZF,vt,jh.Small,jg.Small,jg.HaltOK]
 exact okG
def yg (r:jg):Ctr (Int):=kk tok mixed Tryz.func62 [av r.cells] (fun x=>iv x) true (uq r) (zcU r) (fun (h:(r.Small))=>zfW r h) (fun (x:Int)=>x=0→r.HaltOK) (zbq r)
def gY (n:Int) (length:Int):Sk (Bool) :=
 .fin ((decide (n≥0))&&(decide (n < length)))
def FQ (n:Int) (length:Int):Bool:=(gY n length).val
theorem YS (n:Int) (length:Int):FQ n length=((decide (n≥0))&&(decide (n < length))):=rfl
theorem zcq (n:Int) (length:Int):(gY n length).obs (fun _=>True):=by
 unfold gY
 exact okE
def qf (n:Int) (length:Int):Ctr (Bool):=kk tok mixed Tryz.func63 [iv n,iv length] (fun x=>bv x) true (gY n length) (FQ n length) (fun (_:True)=>zcq n length)
def gX (b:vN):Sk (Bool) :=
 .bind false (fun _=>True)
 (.br (b.tenor.kind == 0)
 (.fin (.inr (b.tenor.kind == 0)))
 (.fin (.inr (b.tenor.kind == 4))))
 (fun (b1:Bool)=>⟨[(8,bv b1)],[]⟩) fun b1 =>
 .br b1
 (.fin ((b.tenor.n == 0)&&(b.tenor.unit == 0)))
 (.bind false (fun _=>True)
 (.br (b.tenor.kind == 1)
 (.fin (.inr (b.tenor.kind == 1)))
 (.fin (.inr (b.tenor.kind == 2))))
 (fun (b2:Bool)=>⟨[(19,bv b2)],[]⟩) fun b2 =>
 .br b2
 (.fin (((decide (b.tenor.n≥1))&&(decide (b.tenor.n≤400)))&&((b.tenor.unit == 0)||(b.tenor.unit == 1))))
 (.br (b.tenor.kind == 3)
 (.fin (((decide (b.tenor.n≥b.day))&&(decide (b.tenor.n≤100000)))&&(b.tenor.unit == 0)))
 (.fin false)))
def zil (b:vN):Bool:=(gX b).val
theorem zcE (b:vN):(gX b).obs (fun _=>True):=by
 unfold gX
 exact okE
def ZE (b:vN):Ctr (Bool):=kk tok mixed Tryz.func64 [av b.cells] (fun x=>bv x) true (gX b) (zil b) (fun (_:True)=>zcE b)
def JO (r:jg) (from_:Int) (to_:Int):Sk (Int × Int) :=
 .bind true (fun _=>True)
 (.loop (default:Sum (Int × Int) (Unit)) (fun i2=>i2≤r.usances.length) (fun i2=>r.usances.length - i2) (0:Nat)
 (fun (i2:Nat)=>⟨[(13,iv (i2:Int))],[]⟩) fun i2 =>
 .bnd 11 0 r.usances.length <|
 .br (decide ((i2:Int) < ((r.usances.length:Nat):Int)))
 (.r 3 (.p (ixP (i2:Int) r.usances.length)) fun _ =>
 .br ((((r.usances.getD i2 default).from_) == from_)&&(((r.usances.getD i2 default).to_) == to_))
 (.fin (.inl (.inl ((r.usances.getD i2 default).days,0))))
 (.r 6 .z fun _ =>
 .wi 13 (w64 ((i2:Int)+1)) ((i2+1:Nat):Int) <|
 .fin (.inr (i2+1))))
 (.fin (.inl (.inr ()))))
 (fun (_:Unit)=>⟨[],[]⟩) fun _ =>
 .fin (0,4)
def zjY (r:jg) (from_:Int) (to_:Int):Int × Int:=(JO r from_ to_).val
theorem zdT (r:jg) (from_:Int) (to_:Int):(JO r from_ to_).obs (fun _=>True):=by
 unfold JO
 exact okD
def gd (r:jg) (from_:Int) (to_:Int):Ctr (Int × Int):=kk tok mixed Tryz.func65 [av r.cells,iv from_,iv to_] (fun x=>.tup [iv x.1,iv x.2]) true (JO r from_ to_) (zjY r from_ to_) (fun (_:True)=>zdT r from_ to_)
end
end Go.Proofs.YtilbddpghnnmhaaGreatDoor
