/- Functions, as sketches. -/
import Derived.Test.YtilbddpghnnmhaaGreatDoorSaT
namespace Go.Proofs.YtilbddpghnnmhaaGreatDoor
noncomputable section
open Go Go.Av
set_option linter.unusedSimpArgs false
set_option linter.unusedVariables false
set_option maxHeartbeats 1000000
set_option maxRecDepth 100000
structure zk where
 name:ByteArray
 order:Int
 currency:Int
 rest:List Int
 feasts:List Int
 shut:List Int
 deriving Inhabited
def zk.cells (c:zk):List D:=[.v (.string c.name),dI c.order,dI c.currency,slD jC c.rest,slD jC c.feasts,slD jC c.shut]
def zk.E:Enc zk:=⟨zk.cells,6,fun _=>rfl,fun _=>rfl⟩
structure yf where
 grade:Int
 deriving Inhabited
def yf.cells (c:yf):List D:=[dI c.grade]
def yf.E:Enc yf:=⟨yf.cells,1,fun _=>rfl,fun _=>rfl⟩
structure WF where
 name:ByteArray
 city:Int
 group:Int
 deriving Inhabited
def WF.cells (c:WF):List D:=[.v (.string c.name),dI c.city,dI c.group]
def WF.E:Enc WF:=⟨WF.cells,3,fun _=>rfl,fun _=>rfl⟩
structure yi where
 ask:Int
 by_:Int
 whole:Bool
 deriving Inhabited
def yi.cells (c:yi):List D:=[dI c.ask,dI c.by_,dB c.whole]
def yi.E:Enc yi:=⟨yi.cells,3,fun _=>rfl,fun _=>rfl⟩
structure jm where
 op:Int
 n:Int
 args:List jm
instance:Inhabited jm:=⟨⟨default,default,default⟩⟩
mutual
def jm.argsR:jm→D
 | ⟨_,_,args⟩=>.sl args.length (jm.cellsF args)
def jm.cellsF:List jm→Nat→List D
 | [],_=>[]
 | x :: _,0=>[dI x.op,dI x.n,jm.argsR x]
 | _ :: r,i+1=>jm.cellsF r i
end
def jm.cellsR (x:jm):List D:=[dI x.op,dI x.n,jm.argsR x]
theorem jm.cellsF_at:∀ (l:List jm) (i:Nat),i < l.length→jm.cellsF l i=(l.getD i default).cellsR
 | [],i,h=>absurd h (by simp)
 | x :: r,0,_=>by simp [jm.cellsF,jm.cellsR]
 | x :: r,i+1,h=>by simpa [jm.cellsF] using jm.cellsF_at r i (by simpa using h)
def jm.cells (c:jm):List D:=[dI c.op,dI c.n,slD jm.cellsR c.args]
theorem jm.argsR_le (c:jm):DLe (jm.argsR c) (slD jm.cellsR c.args)∧DLe (slD jm.cellsR c.args) (jm.argsR c):=by
 obtain ⟨op,n,args⟩:=c
 unfold jm.argsR
 exact ⟨DLe.sl rfl (fun i hi=>jm.cellsF_at args i hi),DLe.sl rfl (fun i hi=>(jm.cellsF_at args i hi).symm)⟩
theorem jm.unroll (c:jm):Qs c.cellsR c.cells:=.cons .rfl' (.cons .rfl' (.cons ((jm.argsR_le c).1) (.nil)))
def jm.E:Enc jm:=⟨jm.cellsR,3,fun _=>rfl,fun ⟨_,_,_⟩=>by unfold jm.cellsR; rfl⟩
mutual
def jm.depth:jm→Nat
 | ⟨_,_,args⟩=>jm.depthL args+1
def jm.depthL:List jm→Nat
 | []=>0
 | x :: r=>max x.depth (jm.depthL r)
end
theorem jm.depthL_at:∀ (l:List jm) (i:Nat),i < l.length→(l.getD i default).depth≤jm.depthL l
 | [],i,h=>absurd h (by simp)
 | x :: r,0,_=>by simp [jm.depthL]; omega
 | x :: r,i+1,h=>by
  have:=jm.depthL_at r i (by simpa using h)
  simp [jm.depthL] at this ⊢
  omega
theorem jm.depth_args (c:jm) (i:Nat) (h:i < c.args.length):(c.args.getD i default).depth < c.depth:=by
 obtain ⟨op,n,args⟩:=c
 have:=jm.depthL_at args i h
 simp only [jm.depth]
 omega
theorem jm.depth_pos (c:jm):0 < c.depth:=by
 obtain ⟨op,n,args⟩:=c
 simp only [jm.depth]
 omega
structure Kq where
 ask:Int
 term:jm
 deriving Inhabited
def Kq.cells (c:Kq):List D:=[dI c.ask]++c.term.cells
def Kq.E:Enc Kq:=⟨Kq.cells,4,fun _=>rfl,fun _=>rfl⟩
structure qv where
 name:ByteArray
 accepts:Bool
 choices:List yi
 rules:List Kq
 deriving Inhabited
def qv.cells (c:qv):List D:=[.v (.string c.name),dB c.accepts,slD yi.cells c.choices,slD Kq.cells c.rules]
def qv.E:Enc qv:=⟨qv.cells,4,fun _=>rfl,fun _=>rfl⟩
structure kZ where
 from_:Int
 to_:Int
 days:Int
 deriving Inhabited
def kZ.cells (c:kZ):List D:=[dI c.from_,dI c.to_,dI c.days]
def kZ.E:Enc kZ:=⟨kZ.cells,3,fun _=>rfl,fun _=>rfl⟩
structure uR where
 from_:Int
 to_:Int
 num:Int
 den:Int
 since:Int
 deriving Inhabited
def uR.cells (c:uR):List D:=[dI c.from_,dI c.to_,dI c.num,dI c.den,dI c.since]
def uR.E:Enc uR:=⟨uR.cells,5,fun _=>rfl,fun _=>rfl⟩
structure Halt where
 order:Int
 from_:Int
 to_:Int
 deriving Inhabited
def Halt.cells (c:Halt):List D:=[dI c.order,dI c.from_,dI c.to_]
def Halt.E:Enc Halt:=⟨Halt.cells,3,fun _=>rfl,fun _=>rfl⟩
structure jg where
 currencies:List ByteArray
 cities:List zk
 groups:List yf
 firms:List WF
 orders:List qv
 usances:List kZ
 rates:List uR
 halts:List Halt
 deriving Inhabited
def jg.cells (c:jg):List D:=[slD vU c.currencies,slD zk.cells c.cities,slD yf.cells c.groups,slD WF.cells c.firms,slD qv.cells c.orders,slD kZ.cells c.usances,slD uR.cells c.rates,slD Halt.cells c.halts]
def jg.E:Enc jg:=⟨jg.cells,8,fun _=>rfl,fun _=>rfl⟩
def jg.Small (r:jg):Prop:=r.currencies.length≤1000000∧r.cities.length≤1000000∧r.groups.length≤1000000∧r.firms.length≤1000000∧r.orders.length≤1000000∧r.usances.length≤1000000∧r.rates.length≤1000000∧r.halts.length≤1000000 ∧
 ∀ i,i < r.orders.length→(r.orders.getD i default).choices.length≤1000000∧(r.orders.getD i default).rules.length≤1000000
def jg.ByOK (r:jg):Prop:=∀ i j,i < r.orders.length→j < (r.orders.getD i default).choices.length→0≤((r.orders.getD i default).choices.getD j default).by_∧((r.orders.getD i default).choices.getD j default).by_ < 5
def jg.okB (r:jg):Bool:=decide (r.currencies.length≤1000000)&&decide (r.cities.length≤1000000)&&decide (r.groups.length≤1000000)&&decide (r.firms.length≤1000000)&&decide (r.orders.length≤1000000)&&decide (r.usances.length≤1000000)&&decide (r.rates.length≤1000000)&&decide (r.halts.length≤1000000) &&
 r.orders.all fun o=>decide (o.choices.length≤1000000)&&decide (o.rules.length≤1000000)&&o.choices.all fun c=>decide (0≤c.by_)&&decide (c.by_ < 5)
theorem jg.ok_of {r:jg} (h:r.okB=true):r.Small∧r.ByOK:=by
 simp only [jg.okB,Bool.and_eq_true,decide_eq_true_eq,List.all_eq_true] at h
 obtain ⟨⟨⟨⟨⟨⟨⟨⟨h1,h2⟩,h3⟩,h4⟩,h5⟩,h6⟩,h7⟩,h8⟩,h9⟩:=h
 exact ⟨⟨h1,h2,h3,h4,h5,h6,h7,h8,fun i hi=>(h9 _ (Qg hi _)).1⟩,fun i j hi hj=>(h9 _ (Qg hi _)).2 _ (Qg hj _)⟩
def jg.HaltOK (r:jg):Prop:=∀ i,i < r.halts.length→(r.halts.getD i default).to_≤100000
structure yw where
 kind:Int
 n:Int
 unit:Int
 deriving Inhabited
def yw.cells (c:yw):List D:=[dI c.kind,dI c.n,dI c.unit]
def yw.E:Enc yw:=⟨yw.cells,3,fun _=>rfl,fun _=>rfl⟩
structure ua where
 drawer:Int
 drawee:Int
 payee:Int
 sum:Int
 currency:Int
 tenor:yw
 day:Int
 city:Int
 pay:Int
 need:Int
 rate:Int
 flags:Int
 parts:Int
 deriving Inhabited
def ua.cells (c:ua):List D:=[dI c.drawer,dI c.drawee,dI c.payee,dI c.sum,dI c.currency]++c.tenor.cells++[dI c.day,dI c.city,dI c.pay,dI c.need,dI c.rate,dI c.flags,dI c.parts]
def ua.E:Enc ua:=⟨ua.cells,15,fun _=>rfl,fun _=>rfl⟩
structure qt where
 kind:Int
 part:Int
 who:Int
 for_:Int
 to_:Int
 sum:Int
 day:Int
 city:Int
 flags:Int
 deriving Inhabited
def qt.cells (c:qt):List D:=[dI c.kind,dI c.part,dI c.who,dI c.for_,dI c.to_,dI c.sum,dI c.day,dI c.city,dI c.flags]
def qt.E:Enc qt:=⟨qt.cells,9,fun _=>rfl,fun _=>rfl⟩
structure kC where
 at_:Int
 sum:Int
 deriving Inhabited
def kC.cells (c:kC):List D:=[dI c.at_,dI c.sum]
def kC.E:Enc kC:=⟨kC.cells,2,fun _=>rfl,fun _=>rfl⟩
structure jI where
 kind:Int
 who:Int
 to_:Int
 part:Int
 at_:Int
 sum:Int
 day:Int
 city:Int
 form:Int
 deriving Inhabited
def jI.cells (c:jI):List D:=[dI c.kind,dI c.who,dI c.to_,dI c.part,dI c.at_,dI c.sum,dI c.day,dI c.city,dI c.form]
def jI.E:Enc jI:=⟨jI.cells,9,fun _=>rfl,fun _=>rfl⟩
structure vS where
 kind:Int
 at_:Int
 n:Int
 deriving Inhabited
def vS.cells (c:vS):List D:=[dI c.kind,dI c.at_,dI c.n]
def vS.E:Enc vS:=⟨vS.cells,3,fun _=>rfl,fun _=>rfl⟩
structure jh where
 bill:ua
 signs:List qt
 alters:List kC
 acts:List jI
 facts:List vS
 deriving Inhabited
def jh.cells (c:jh):List D:=c.bill.cells++[slD qt.cells c.signs,slD kC.cells c.alters,slD jI.cells c.acts,slD vS.cells c.facts]
def jh.E:Enc jh:=⟨jh.cells,19,fun _=>rfl,fun _=>rfl⟩
def jh.Small (f:jh):Prop:=f.signs.length≤1000000∧f.alters.length≤1000000∧f.acts.length≤1000000∧f.facts.length≤1000000
def jg.FirmOK (r:jg):Prop:=∀ i,i < r.firms.length→0≤(r.firms.getD i default).city∧(r.firms.getD i default).city < r.cities.length
def jg.RateOK (r:jg):Prop:=∀ i,i < r.rates.length→(1≤(r.rates.getD i default).num∧(r.rates.getD i default).num≤1073741824)∧1≤(r.rates.getD i default).den∧(r.rates.getD i default).den≤1073741824
abbrev JH (n:Int):Prop:=0≤n∧n≤1099511627776
def jh.SumOK (f:jh):Prop:=JH f.bill.sum∧(∀ q,q < f.alters.length→JH (f.alters.getD q default).sum)∧(∀ q,q < f.signs.length→JH (f.signs.getD q default).sum)∧∀ q,q < f.acts.length→JH (f.acts.getD q default).sum
def zlv (f:jh) (q:Nat):Prop:=JH (f.signs.getD q default).sum∧(0≤(f.signs.getD q default).kind∧(f.signs.getD q default).kind≤4)∧((f.signs.getD q default).kind=0↔q=0)∧((f.signs.getD q default).kind=3∨(f.signs.getD q default).kind=4→0≤(f.signs.getD q default).for_∧(f.signs.getD q default).for_ < (q:Int))
def zja (r:jg) (f:jh) (q:Nat):Prop:=(0≤(f.signs.getD q default).who∧(f.signs.getD q default).who < r.firms.length)∧(q≠0→(f.signs.getD (q - 1) default).day≤(f.signs.getD q default).day)∧(f.signs.getD q default).day≤100000∧(q=0→(f.signs.getD q default).day=f.bill.day)∧(0≤(f.signs.getD q default).part∧(f.signs.getD q default).part≤f.bill.parts - 1)∧zlv f q
def zcC (f:jh) (q:Nat):Prop:=JH (f.acts.getD q default).sum∧(f.bill.day≤(f.acts.getD q default).day∧(f.acts.getD q default).day≤100000)∧(q≠0→(f.acts.getD (q - 1) default).day≤(f.acts.getD q default).day)∧((f.acts.getD q default).kind=6→(0≤(f.acts.getD q default).at_∧(f.acts.getD q default).at_ < f.signs.length)∧(f.signs.getD (f.acts.getD q default).at_.toNat default).day≤(f.acts.getD q default).day∧(f.signs.getD (f.acts.getD q default).at_.toNat default).who=(f.acts.getD q default).who)
def zfj (r:jg) (b:ua):Prop:=(1≤b.sum∧b.sum≤1099511627776)∧(0≤b.pay∧b.pay < r.cities.length)∧(0≤b.day∧b.day≤100000)∧(1≤b.parts∧b.parts≤4)∧(0≤b.currency∧b.currency < r.currencies.length)
def jX (r:jg) (f:jh):Prop:=zfj r f.bill∧(f.signs.length≤40∧f.signs.length≠0∧f.alters.length≤4∧f.acts.length≤100∧f.facts.length≤200)∧(∀ q,q < f.signs.length→zja r f q)∧(∀ q,q < f.alters.length→JH (f.alters.getD q default).sum)∧∀ q,q < f.acts.length→zcC f q
theorem jX.small {r:jg} {f:jh} (h:jX r f):f.Small:=by have:=h.2.1; unfold jh.Small; omega
theorem jX.sums {r:jg} {f:jh} (h:jX r f):f.SumOK:=⟨⟨by have:=h.1.1; omega,h.1.1.2⟩,h.2.2.2.1,fun q hq=>(h.2.2.1 q hq).2.2.2.2.2.1,fun q hq=>(h.2.2.2.2 q hq).1⟩
theorem Gn {α:Type} [Inhabited α] {l:List α} {P:α→Prop}:(∀ q,q < l.length→P (l.getD q default))↔∀ x,x∈l→P x:=by
 constructor
 ·intro h x hx
  obtain ⟨i,hi,rfl⟩:=List.getElem_of_mem hx
  have:=h i hi
  rwa [show l.getD i default=l[i] by simp [List.getD,hi]] at this
 ·exact fun h q hq=>h _ (Qg hq _)
def ToQ (r:jg) (f:jh) (q:Nat):Prop:=(f.signs.getD q default).to_ = -1∨(0≤(f.signs.getD q default).to_∧(f.signs.getD q default).to_ < r.firms.length)
def ToF (r:jg) (f:jh):Prop:=(f.bill.payee = -1∨(0≤f.bill.payee∧f.bill.payee < r.firms.length))∧∀ q,q < f.signs.length→ToQ r f q
structure jM where
 forum:Int
 plaintiff:Int
 defendant:Int
 file:Int
 sign:Int
 day:Int
 kind:Int
 deriving Inhabited
def jM.cells (c:jM):List D:=[dI c.forum,dI c.plaintiff,dI c.defendant,dI c.file,dI c.sign,dI c.day,dI c.kind]
def jM.E:Enc jM:=⟨jM.cells,7,fun _=>rfl,fun _=>rfl⟩
structure Move where
 kind:Int
 suit:Int
 day:Int
 no:Int
 deriving Inhabited
def Move.cells (c:Move):List D:=[dI c.kind,dI c.suit,dI c.day,dI c.no]
def Move.E:Enc Move:=⟨Move.cells,4,fun _=>rfl,fun _=>rfl⟩
def WS (n:Int) (limit:Int):Sk (Bool) :=
 .fin ((decide (n≥0))&&(decide (n < limit)))
def zon (n:Int) (limit:Int):Bool:=(WS n limit).val
theorem Kn (n:Int) (limit:Int):zon n limit=((decide (n≥0))&&(decide (n < limit))):=rfl
theorem znf (n:Int) (limit:Int):(WS n limit).obs (fun _=>True):=by
 unfold WS
 exact okE
def qh (n:Int) (limit:Int):Ctr (Bool):=kk tok mixed Tryz.func19 [iv n,iv limit] (fun x=>bv x) true (WS n limit) (zon n limit) (fun (_:True)=>znf n limit)
def JW (stage:Int):Sk (Int × Bool) :=
 .r 1 (.andl (.o [.nrmm (mkM dI)]) (.andl (.o [.nrmm (kj dI ([]:List (Int × Int)) (0:Int) 1)]) (.andl (.o [.nrmm (mkM dI)]) (.andl (.o [.nrmm (kj dI ([]:List (Int × Int)) (1:Int) 1)]) (.andl (.o [.nrmm (kj dI (([]:List (Int × Int))++[(1,1)]) (2:Int) 2)]) (.andl (.o [.nrmm (kj dI ((([]:List (Int × Int))++[(1,1)])++[(2,2)]) (4:Int) 4)]) (.andl (.o [.nrmm (mkM dI)]) (.andl (.o [.nrmm (kj dI ([]:List (Int × Int)) (1:Int) 2)]) (.andl (.o [.nrmm (mkM dI)]) (.andl (.o [.nrmm (kj dI ([]:List (Int × Int)) (2:Int) 1)]) (.andl (.o [.nrmm (mkM dI)]) (.andl (.o [.nrmm (kj dI ([]:List (Int × Int)) (1:Int) 3)]) (.andl (.o [.nrmm (kj dI (([]:List (Int × Int))++[(1,3)]) (4:Int) 3)]) (.andl (.o [.nrmm (mkM dI)]) (.andl (.o [.nrmm (kj dI ([]:List (Int × Int)) (3:Int) 4)]) (.andl (.o [.nrmm (mkM dI)]) (.andl (.o [.nrmm (kj dI ([]:List (Int × Int)) (1:Int) 5)]) (.andl (.o [.nrmm (kj dI (([]:List (Int × Int))++[(1,5)]) (2:Int) 5)]) (.andl (.o [.nrmm (kj dI ((([]:List (Int × Int))++[(1,5)])++[(2,5)]) (3:Int) 5)]) (.o [.nrmm (kj dI (((([]:List (Int × Int))++[(1,5)])++[(2,5)])++[(3,5)]) (4:Int) 5)])))))))))))))))))))) fun _ =>
 .r 2 (.andl (.p (0≤(0:Int)∧(0:Int) < ((7:Nat):Int))) (.andl (.t (Jy dI (([]:List (Int × Int))++[(0,1)]))) (.o [.cast 29 (zfu dI (([]:List (Int × Int))++[(0,1)]) stage (0:Int))]))) fun _ =>
 .fin (km (([]:List (Int × Int))++[(0,1)]) stage (0:Int),YE (([]:List (Int × Int))++[(0,1)]) stage)
def zat (stage:Int):Int × Bool:=(JW stage).val
theorem zef (stage:Int):(JW stage).obs (fun _=>True):=by
 unfold JW
 exact okD
def zgH (stage:Int):Ctr (Int × Bool):=kk tok mixed Tryz.func20 [iv 0,iv stage] (fun x=>.tup [iv x.1,bv x.2]) true (JW stage) (zat stage) (fun (_:True)=>zef stage)
def JK (stage:Int):Sk (Int × Bool) :=
 .r 1 (.andl (.o [.nrmm (mkM dI)]) (.andl (.o [.nrmm (kj dI ([]:List (Int × Int)) (0:Int) 1)]) (.andl (.o [.nrmm (mkM dI)]) (.andl (.o [.nrmm (kj dI ([]:List (Int × Int)) (1:Int) 1)]) (.andl (.o [.nrmm (kj dI (([]:List (Int × Int))++[(1,1)]) (2:Int) 2)]) (.andl (.o [.nrmm (kj dI ((([]:List (Int × Int))++[(1,1)])++[(2,2)]) (4:Int) 4)]) (.andl (.o [.nrmm (mkM dI)]) (.andl (.o [.nrmm (kj dI ([]:List (Int × Int)) (1:Int) 2)]) (.andl (.o [.nrmm (mkM dI)]) (.andl (.o [.nrmm (kj dI ([]:List (Int × Int)) (2:Int) 1)]) (.andl (.o [.nrmm (mkM dI)]) (.andl (.o [.nrmm (kj dI ([]:List (Int × Int)) (1:Int) 3)]) (.andl (.o [.nrmm (kj dI (([]:List (Int × Int))++[(1,3)]) (4:Int) 3)]) (.andl (.o [.nrmm (mkM dI)]) (.andl (.o [.nrmm (kj dI ([]:List (Int × Int)) (3:Int) 4)]) (.andl (.o [.nrmm (mkM dI)]) (.andl (.o [.nrmm (kj dI ([]:List (Int × Int)) (1:Int) 5)]) (.andl (.o [.nrmm (kj dI (([]:List (Int × Int))++[(1,5)]) (2:Int) 5)]) (.andl (.o [.nrmm (kj dI ((([]:List (Int × Int))++[(1,5)])++[(2,5)]) (3:Int) 5)]) (.o [.nrmm (kj dI (((([]:List (Int × Int))++[(1,5)])++[(2,5)])++[(3,5)]) (4:Int) 5)])))))))))))))))))))) fun _ =>
 .r 2 (.andl (.p (0≤(1:Int)∧(1:Int) < ((7:Nat):Int))) (.andl (.t (Jy dI (((([]:List (Int × Int))++[(1,1)])++[(2,2)])++[(4,4)]))) (.o [.cast 29 (zfu dI (((([]:List (Int × Int))++[(1,1)])++[(2,2)])++[(4,4)]) stage (0:Int))]))) fun _ =>
 .fin (km (((([]:List (Int × Int))++[(1,1)])++[(2,2)])++[(4,4)]) stage (0:Int),YE (((([]:List (Int × Int))++[(1,1)])++[(2,2)])++[(4,4)]) stage)
def zaz (stage:Int):Int × Bool:=(JK stage).val
theorem zel (stage:Int):(JK stage).obs (fun _=>True):=by
 unfold JK
 exact okD
def zhl (stage:Int):Ctr (Int × Bool):=kk tok mixed Tryz.func20 [iv 1,iv stage] (fun x=>.tup [iv x.1,bv x.2]) true (JK stage) (zaz stage) (fun (_:True)=>zel stage)
def Kh (stage:Int):Sk (Int × Bool) :=
 .r 1 (.andl (.o [.nrmm (mkM dI)]) (.andl (.o [.nrmm (kj dI ([]:List (Int × Int)) (0:Int) 1)]) (.andl (.o [.nrmm (mkM dI)]) (.andl (.o [.nrmm (kj dI ([]:List (Int × Int)) (1:Int) 1)]) (.andl (.o [.nrmm (kj dI (([]:List (Int × Int))++[(1,1)]) (2:Int) 2)]) (.andl (.o [.nrmm (kj dI ((([]:List (Int × Int))++[(1,1)])++[(2,2)]) (4:Int) 4)]) (.andl (.o [.nrmm (mkM dI)]) (.andl (.o [.nrmm (kj dI ([]:List (Int × Int)) (1:Int) 2)]) (.andl (.o [.nrmm (mkM dI)]) (.andl (.o [.nrmm (kj dI ([]:List (Int × Int)) (2:Int) 1)]) (.andl (.o [.nrmm (mkM dI)]) (.andl (.o [.nrmm (kj dI ([]:List (Int × Int)) (1:Int) 3)]) (.andl (.o [.nrmm (kj dI (([]:List (Int × Int))++[(1,3)]) (4:Int) 3)]) (.andl (.o [.nrmm (mkM dI)]) (.andl (.o [.nrmm (kj dI ([]:List (Int × Int)) (3:Int) 4)]) (.andl (.o [.nrmm (mkM dI)]) (.andl (.o [.nrmm (kj dI ([]:List (Int × Int)) (1:Int) 5)]) (.andl (.o [.nrmm (kj dI (([]:List (Int × Int))++[(1,5)]) (2:Int) 5)]) (.andl (.o [.nrmm (kj dI ((([]:List (Int × Int))++[(1,5)])++[(2,5)]) (3:Int) 5)]) (.o [.nrmm (kj dI (((([]:List (Int × Int))++[(1,5)])++[(2,5)])++[(3,5)]) (4:Int) 5)])))))))))))))))))))) fun _ =>
 .r 2 (.andl (.p (0≤(2:Int)∧(2:Int) < ((7:Nat):Int))) (.andl (.t (Jy dI (([]:List (Int × Int))++[(1,2)]))) (.o [.cast 29 (zfu dI (([]:List (Int × Int))++[(1,2)]) stage (0:Int))]))) fun _ =>
 .fin (km (([]:List (Int × Int))++[(1,2)]) stage (0:Int),YE (([]:List (Int × Int))++[(1,2)]) stage)
def zaY (stage:Int):Int × Bool:=(Kh stage).val
theorem zd5 (stage:Int):(Kh stage).obs (fun _=>True):=by
 unfold Kh
 exact okD
def zhg (stage:Int):Ctr (Int × Bool):=kk tok mixed Tryz.func20 [iv 2,iv stage] (fun x=>.tup [iv x.1,bv x.2]) true (Kh stage) (zaY stage) (fun (_:True)=>zd5 stage)
def JO (stage:Int):Sk (Int × Bool) :=
 .r 1 (.andl (.o [.nrmm (mkM dI)]) (.andl (.o [.nrmm (kj dI ([]:List (Int × Int)) (0:Int) 1)]) (.andl (.o [.nrmm (mkM dI)]) (.andl (.o [.nrmm (kj dI ([]:List (Int × Int)) (1:Int) 1)]) (.andl (.o [.nrmm (kj dI (([]:List (Int × Int))++[(1,1)]) (2:Int) 2)]) (.andl (.o [.nrmm (kj dI ((([]:List (Int × Int))++[(1,1)])++[(2,2)]) (4:Int) 4)]) (.andl (.o [.nrmm (mkM dI)]) (.andl (.o [.nrmm (kj dI ([]:List (Int × Int)) (1:Int) 2)]) (.andl (.o [.nrmm (mkM dI)]) (.andl (.o [.nrmm (kj dI ([]:List (Int × Int)) (2:Int) 1)]) (.andl (.o [.nrmm (mkM dI)]) (.andl (.o [.nrmm (kj dI ([]:List (Int × Int)) (1:Int) 3)]) (.andl (.o [.nrmm (kj dI (([]:List (Int × Int))++[(1,3)]) (4:Int) 3)]) (.andl (.o [.nrmm (mkM dI)]) (.andl (.o [.nrmm (kj dI ([]:List (Int × Int)) (3:Int) 4)]) (.andl (.o [.nrmm (mkM dI)]) (.andl (.o [.nrmm (kj dI ([]:List (Int × Int)) (1:Int) 5)]) (.andl (.o [.nrmm (kj dI (([]:List (Int × Int))++[(1,5)]) (2:Int) 5)]) (.andl (.o [.nrmm (kj dI ((([]:List (Int × Int))++[(1,5)])++[(2,5)]) (3:Int) 5)]) (.o [.nrmm (kj dI (((([]:List (Int × Int))++[(1,5)])++[(2,5)])++[(3,5)]) (4:Int) 5)])))))))))))))))))))) fun _ =>
 .r 2 (.andl (.p (0≤(3:Int)∧(3:Int) < ((7:Nat):Int))) (.andl (.t (Jy dI (([]:List (Int × Int))++[(2,1)]))) (.o [.cast 29 (zfu dI (([]:List (Int × Int))++[(2,1)]) stage (0:Int))]))) fun _ =>
 .fin (km (([]:List (Int × Int))++[(2,1)]) stage (0:Int),YE (([]:List (Int × Int))++[(2,1)]) stage)
def zaU (stage:Int):Int × Bool:=(JO stage).val
theorem zdI (stage:Int):(JO stage).obs (fun _=>True):=by
 unfold JO
 exact okD
def zg9 (stage:Int):Ctr (Int × Bool):=kk tok mixed Tryz.func20 [iv 3,iv stage] (fun x=>.tup [iv x.1,bv x.2]) true (JO stage) (zaU stage) (fun (_:True)=>zdI stage)
def JZ (stage:Int):Sk (Int × Bool) :=
 .r 1 (.andl (.o [.nrmm (mkM dI)]) (.andl (.o [.nrmm (kj dI ([]:List (Int × Int)) (0:Int) 1)]) (.andl (.o [.nrmm (mkM dI)]) (.andl (.o [.nrmm (kj dI ([]:List (Int × Int)) (1:Int) 1)]) (.andl (.o [.nrmm (kj dI (([]:List (Int × Int))++[(1,1)]) (2:Int) 2)]) (.andl (.o [.nrmm (kj dI ((([]:List (Int × Int))++[(1,1)])++[(2,2)]) (4:Int) 4)]) (.andl (.o [.nrmm (mkM dI)]) (.andl (.o [.nrmm (kj dI ([]:List (Int × Int)) (1:Int) 2)]) (.andl (.o [.nrmm (mkM dI)]) (.andl (.o [.nrmm (kj dI ([]:List (Int × Int)) (2:Int) 1)]) (.andl (.o [.nrmm (mkM dI)]) (.andl (.o [.nrmm (kj dI ([]:List (Int × Int)) (1:Int) 3)]) (.andl (.o [.nrmm (kj dI (([]:List (Int × Int))++[(1,3)]) (4:Int) 3)]) (.andl (.o [.nrmm (mkM dI)]) (.andl (.o [.nrmm (kj dI ([]:List (Int × Int)) (3:Int) 4)]) (.andl (.o [.nrmm (mkM dI)]) (.andl (.o [.nrmm (kj dI ([]:List (Int × Int)) (1:Int) 5)]) (.andl (.o [.nrmm (kj dI (([]:List (Int × Int))++[(1,5)]) (2:Int) 5)]) (.andl (.o [.nrmm (kj dI ((([]:List (Int × Int))++[(1,5)])++[(2,5)]) (3:Int) 5)]) (.o [.nrmm (kj dI (((([]:List (Int × Int))++[(1,5)])++[(2,5)])++[(3,5)]) (4:Int) 5)])))))))))))))))))))) fun _ =>
 .r 2 (.andl (.p (0≤(4:Int)∧(4:Int) < ((7:Nat):Int))) (.andl (.t (Jy dI ((([]:List (Int × Int))++[(1,3)])++[(4,3)]))) (.o [.cast 29 (zfu dI ((([]:List (Int × Int))++[(1,3)])++[(4,3)]) stage (0:Int))]))) fun _ =>
 .fin (km ((([]:List (Int × Int))++[(1,3)])++[(4,3)]) stage (0:Int),YE ((([]:List (Int × Int))++[(1,3)])++[(4,3)]) stage)
def zaD (stage:Int):Int × Bool:=(JZ stage).val
theorem zdP (stage:Int):(JZ stage).obs (fun _=>True):=by
 unfold JZ
 exact okD
def zgj (stage:Int):Ctr (Int × Bool):=kk tok mixed Tryz.func20 [iv 4,iv stage] (fun x=>.tup [iv x.1,bv x.2]) true (JZ stage) (zaD stage) (fun (_:True)=>zdP stage)
def JJ (stage:Int):Sk (Int × Bool) :=
 .r 1 (.andl (.o [.nrmm (mkM dI)]) (.andl (.o [.nrmm (kj dI ([]:List (Int × Int)) (0:Int) 1)]) (.andl (.o [.nrmm (mkM dI)]) (.andl (.o [.nrmm (kj dI ([]:List (Int × Int)) (1:Int) 1)]) (.andl (.o [.nrmm (kj dI (([]:List (Int × Int))++[(1,1)]) (2:Int) 2)]) (.andl (.o [.nrmm (kj dI ((([]:List (Int × Int))++[(1,1)])++[(2,2)]) (4:Int) 4)]) (.andl (.o [.nrmm (mkM dI)]) (.andl (.o [.nrmm (kj dI ([]:List (Int × Int)) (1:Int) 2)]) (.andl (.o [.nrmm (mkM dI)]) (.andl (.o [.nrmm (kj dI ([]:List (Int × Int)) (2:Int) 1)]) (.andl (.o [.nrmm (mkM dI)]) (.andl (.o [.nrmm (kj dI ([]:List (Int × Int)) (1:Int) 3)]) (.andl (.o [.nrmm (kj dI (([]:List (Int × Int))++[(1,3)]) (4:Int) 3)]) (.andl (.o [.nrmm (mkM dI)]) (.andl (.o [.nrmm (kj dI ([]:List (Int × Int)) (3:Int) 4)]) (.andl (.o [.nrmm (mkM dI)]) (.andl (.o [.nrmm (kj dI ([]:List (Int × Int)) (1:Int) 5)]) (.andl (.o [.nrmm (kj dI (([]:List (Int × Int))++[(1,5)]) (2:Int) 5)]) (.andl (.o [.nrmm (kj dI ((([]:List (Int × Int))++[(1,5)])++[(2,5)]) (3:Int) 5)]) (.o [.nrmm (kj dI (((([]:List (Int × Int))++[(1,5)])++[(2,5)])++[(3,5)]) (4:Int) 5)])))))))))))))))))))) fun _ =>
 .r 2 (.andl (.p (0≤(5:Int)∧(5:Int) < ((7:Nat):Int))) (.andl (.t (Jy dI (([]:List (Int × Int))++[(3,4)]))) (.o [.cast 29 (zfu dI (([]:List (Int × Int))++[(3,4)]) stage (0:Int))]))) fun _ =>
 .fin (km (([]:List (Int × Int))++[(3,4)]) stage (0:Int),YE (([]:List (Int × Int))++[(3,4)]) stage)
def za9 (stage:Int):Int × Bool:=(JJ stage).val
theorem zdU (stage:Int):(JJ stage).obs (fun _=>True):=by
 unfold JJ
 exact okD
def zfN (stage:Int):Ctr (Int × Bool):=kk tok mixed Tryz.func20 [iv 5,iv stage] (fun x=>.tup [iv x.1,bv x.2]) true (JJ stage) (za9 stage) (fun (_:True)=>zdU stage)
def JQ (stage:Int):Sk (Int × Bool) :=
 .r 1 (.andl (.o [.nrmm (mkM dI)]) (.andl (.o [.nrmm (kj dI ([]:List (Int × Int)) (0:Int) 1)]) (.andl (.o [.nrmm (mkM dI)]) (.andl (.o [.nrmm (kj dI ([]:List (Int × Int)) (1:Int) 1)]) (.andl (.o [.nrmm (kj dI (([]:List (Int × Int))++[(1,1)]) (2:Int) 2)]) (.andl (.o [.nrmm (kj dI ((([]:List (Int × Int))++[(1,1)])++[(2,2)]) (4:Int) 4)]) (.andl (.o [.nrmm (mkM dI)]) (.andl (.o [.nrmm (kj dI ([]:List (Int × Int)) (1:Int) 2)]) (.andl (.o [.nrmm (mkM dI)]) (.andl (.o [.nrmm (kj dI ([]:List (Int × Int)) (2:Int) 1)]) (.andl (.o [.nrmm (mkM dI)]) (.andl (.o [.nrmm (kj dI ([]:List (Int × Int)) (1:Int) 3)]) (.andl (.o [.nrmm (kj dI (([]:List (Int × Int))++[(1,3)]) (4:Int) 3)]) (.andl (.o [.nrmm (mkM dI)]) (.andl (.o [.nrmm (kj dI ([]:List (Int × Int)) (3:Int) 4)]) (.andl (.o [.nrmm (mkM dI)]) (.andl (.o [.nrmm (kj dI ([]:List (Int × Int)) (1:Int) 5)]) (.andl (.o [.nrmm (kj dI (([]:List (Int × Int))++[(1,5)]) (2:Int) 5)]) (.andl (.o [.nrmm (kj dI ((([]:List (Int × Int))++[(1,5)])++[(2,5)]) (3:Int) 5)]) (.o [.nrmm (kj dI (((([]:List (Int × Int))++[(1,5)])++[(2,5)])++[(3,5)]) (4:Int) 5)])))))))))))))))))))) fun _ =>
 .r 2 (.andl (.p (0≤(6:Int)∧(6:Int) < ((7:Nat):Int))) (.andl (.t (Jy dI ((((([]:List (Int × Int))++[(1,5)])++[(2,5)])++[(3,5)])++[(4,5)]))) (.o [.cast 29 (zfu dI ((((([]:List (Int × Int))++[(1,5)])++[(2,5)])++[(3,5)])++[(4,5)]) stage (0:Int))]))) fun _ =>
 .fin (km ((((([]:List (Int × Int))++[(1,5)])++[(2,5)])++[(3,5)])++[(4,5)]) stage (0:Int),YE ((((([]:List (Int × Int))++[(1,5)])++[(2,5)])++[(3,5)])++[(4,5)]) stage)
def zaW (stage:Int):Int × Bool:=(JQ stage).val
theorem zem (stage:Int):(JQ stage).obs (fun _=>True):=by
 unfold JQ
 exact okD
def zfd (stage:Int):Ctr (Int × Bool):=kk tok mixed Tryz.func20 [iv 6,iv stage] (fun x=>.tup [iv x.1,bv x.2]) true (JQ stage) (zaW stage) (fun (_:True)=>zem stage)
def GF (kind:Int) (stage:Int):Int × Bool:=match kind.toNat with
 | 0=>zat stage
 | 1=>zaz stage
 | 2=>zaY stage
 | 3=>zaU stage
 | 4=>zaD stage
 | 5=>za9 stage
 | _=>zaW stage
theorem zkY (kind:Int) (stage:Int) (h:0≤kind∧kind < 7):FnA Tryz.prog 20 [iv kind,iv stage] [] (.tup [iv ((GF kind stage).1),bv ((GF kind stage).2)]) []:=by
 have hk:kind=0∨kind=1∨kind=2∨kind=3∨kind=4∨kind=5∨kind=6:=by omega
 rcases hk with rfl | rfl | rfl | rfl | rfl | rfl | rfl
 ·exact (zgH stage).pf trivial
 ·exact (zhl stage).pf trivial
 ·exact (zhg stage).pf trivial
 ·exact (zg9 stage).pf trivial
 ·exact (zgj stage).pf trivial
 ·exact (zfN stage).pf trivial
 ·exact (zfd stage).pf trivial
def Uf (kind stage:Int):Int × Bool :=
 if kind=0 then (if stage=0 then (1,true) else (0,false))
 else if kind=1 then (if stage=1 then (1,true) else if stage=2 then (2,true) else if stage=4 then (4,true) else (0,false))
 else if kind=2 then (if stage=1 then (2,true) else (0,false))
 else if kind=3 then (if stage=2 then (1,true) else (0,false))
 else if kind=4 then (if stage=1 then (3,true) else if stage=4 then (3,true) else (0,false))
 else if kind=5 then (if stage=3 then (4,true) else (0,false))
 else (if stage=1 then (5,true) else if stage=2 then (5,true) else if stage=3 then (5,true) else if stage=4 then (5,true) else (0,false))
theorem Ji (l:List (Int × Int)) (a b s:Int):(km ((a,b) :: l) s 0,YE ((a,b) :: l) s)=if s=a then (b,true) else (km l s 0,YE l s):=by
 by_cases h:s=a
 ·simp [km,YE,gh,h]
 ·have e:(s == a)=false:=by simpa using h
  simp [km,YE,gh,h,e]
theorem zlh (kind stage:Int) (h:0≤kind∧kind < 7):GF kind stage=Uf kind stage:=by
 have hk:kind=0∨kind=1∨kind=2∨kind=3∨kind=4∨kind=5∨kind=6:=by omega
 rcases hk with rfl | rfl | rfl | rfl | rfl | rfl | rfl
 ·show (km [((0:Int),(1:Int))] stage 0,YE [((0:Int),(1:Int))] stage)=_
  rw [Ji]
  rfl
 ·show (km [((1:Int),(1:Int)),((2:Int),(2:Int)),((4:Int),(4:Int))] stage 0,YE [((1:Int),(1:Int)),((2:Int),(2:Int)),((4:Int),(4:Int))] stage)=_
  rw [Ji,Ji,Ji]
  rfl
 ·show (km [((1:Int),(2:Int))] stage 0,YE [((1:Int),(2:Int))] stage)=_
  rw [Ji]
  rfl
 ·show (km [((2:Int),(1:Int))] stage 0,YE [((2:Int),(1:Int))] stage)=_
  rw [Ji]
  rfl
 ·show (km [((1:Int),(3:Int)),((4:Int),(3:Int))] stage 0,YE [((1:Int),(3:Int)),((4:Int),(3:Int))] stage)=_
  rw [Ji,Ji]
  rfl
 ·show (km [((3:Int),(4:Int))] stage 0,YE [((3:Int),(4:Int))] stage)=_
  rw [Ji]
  rfl
 ·show (km [((1:Int),(5:Int)),((2:Int),(5:Int)),((3:Int),(5:Int)),((4:Int),(5:Int))] stage 0,YE [((1:Int),(5:Int)),((2:Int),(5:Int)),((3:Int),(5:Int)),((4:Int),(5:Int))] stage)=_
  rw [Ji,Ji,Ji,Ji]
  rfl
theorem zfn (kind:Int) (stage:Int):(fun (x:Int × Bool)=>0≤kind∧kind < 7→x=Uf kind stage) (GF kind stage):=zlh kind stage
def XV (kind:Int) (stage:Int):Ctr (Int × Bool):=⟨Tryz.prog,20,[iv kind,iv stage],fun x=>.tup [iv x.1,bv x.2],true,GF kind stage,0≤kind∧kind < 7,fun h=>zkY kind stage h,fun (x:Int × Bool)=>0≤kind∧kind < 7→x=Uf kind stage,zfn kind stage⟩
def Qw (suits:List jM) (m:Move) (day:Int) (st:List Int) (ap:List (Int × Bool)):Int × Int × List Int × List (Int × Bool) :=
 if ¬ (0≤m.kind∧m.kind < 7)∨¬ (0≤m.day∧m.day < 100001)∨(m.kind=1∧¬ (0≤m.no∧m.no < 7)) then (1,day,st,ap)
 else if ¬ (0≤m.suit∧m.suit < suits.length) then (4,day,st,ap)
 else if m.day < day∨(m.kind=0∧m.day < (suits.getD m.suit.toNat default).day) then (13,day,st,ap)
 else if (Uf m.kind (st.getD m.suit.toNat default)).2=false∨(m.kind=5∧km ap m.suit false=true) then (7,day,st,ap)
 else (0,m.day,st.set m.suit.toNat (Uf m.kind (st.getD m.suit.toNat default)).1,if m.kind=5 then gt ap m.suit true else ap)
theorem zo3 (suits:List jM) (m:Move) (day:Int) (st:List Int) (ap:List (Int × Bool)):(Qw suits m day st ap).2.2.1.length=st.length:=by
 unfold Qw
 repeat' split
 all_goals simp
def uC (m:Move) (v:List jM) (v':Int) (v'':List Int) (v''':List (Int × Bool)):Sk (Int × Int × (List Int) × (List (Int × Bool))) :=
 .r 1 (.dep ((qh m.kind 7).c) fun x1=>.dep (.wh (!x1) false ((qh m.day 100001).c)) fun x2=>.wh ((!x1)||(!x2)) false (.wh (m.kind == 1) true ((qh m.no 7).c))) fun p6 =>
 .br (((!p6.1)||(!p6.2.1))||((m.kind == 1)&&(!p6.2.2)))
 (.fin (1,v',v'',v'''))
 (.r 3 ((qh m.suit ((v.length:Nat):Int)).c) fun x4 =>
 .br (!x4)
 (.fin (4,v',v'',v'''))
 (.r 5 (.wh (decide (m.day < v')) false (.wh (m.kind == 0) true (.p (ixP m.suit v.length)))) fun _ =>
 .br ((decide (m.day < v'))||((m.kind == 0)&&(decide (m.day < ((v.getD m.suit.toNat default).day)))))
 (.fin (13,v',v'',v'''))
 (.r 7 (.andl (.p (ixP m.suit v''.length)) (.andl (.p (m.suit.toNat < v''.length)) ((XV m.kind (v''.getD m.suit.toNat default)).c))) fun x5 =>
 .r 8 (.wh (!x5.2) false (.wh (m.kind == 5) true (.andl (.t (Jy dB v''')) (.o [.cast 80 (zlM dB v''' m.suit false)])))) fun _ =>
 .br ((!x5.2)||((m.kind == 5)&&(km v''' m.suit false)))
 (.fin (7,v',v'',v'''))
 (.br (m.kind == 5)
 (.r 11 (.andl (.t (Jy dB v''')) (.o [.nrmm (znU dB v''' m.suit true)])) fun _ =>
 .r 12 (.andl (.p (ixP m.suit v''.length)) (.andl (.o [.nrm (VI kA v'' m.suit.toNat x5.1)]) (.p (m.suit.toNat < v''.length)))) fun _ =>
 .wn 100006 v''.length (v''.set m.suit.toNat x5.1).length <|
 .fin (0,m.day,v''.set m.suit.toNat x5.1,gt v''' m.suit true))
 (.r 12 (.andl (.p (ixP m.suit v''.length)) (.andl (.o [.nrm (VI kA v'' m.suit.toNat x5.1)]) (.p (m.suit.toNat < v''.length)))) fun _ =>
 .wn 100006 v''.length (v''.set m.suit.toNat x5.1).length <|
 .fin (0,m.day,v''.set m.suit.toNat x5.1,v'''))))))
def Yt (m:Move) (v:List jM) (v':Int) (v'':List Int) (v''':List (Int × Bool)):Int × Int × (List Int) × (List (Int × Bool)):=(uC m v v' v'' v''').val
theorem zek (m:Move) (v:List jM) (v':Int) (v'':List Int) (v''':List (Int × Bool)):(uC m v v' v'' v''').pst (fun (x:Int × Int × (List Int) × (List (Int × Bool)))=>x=Qw v m v' v'' v'''):=by
 refine Sk.pst_of _ ?_
 unfold uC
 simp only [Sk.pstq,Sk.isLoop,reduceCtorEq,ON,kk,qh,XV,Kn,forall_eq,maxLen]
 all_goals simp only [Kn,LN] at *
 refine ⟨fun h=>?_,fun h1=>⟨fun h=>?_,fun h2 _=>⟨fun h=>?_,fun h3 he _=>⟨fun h=>?_,fun h4=>⟨fun h5 _ _=>?_,fun h5 _=>?_⟩⟩⟩⟩⟩
 ·unfold Qw; rw [if_pos (by omega)]
 ·unfold Qw; rw [if_neg (by omega),if_pos (by omega)]
 ·unfold Qw; rw [if_neg (by omega),if_neg (by omega),if_pos (by omega)]
 ·rw [he (by omega)] at h
  unfold Qw; rw [if_neg (by omega),if_neg (by omega),if_neg (by omega),if_pos h]
 all_goals rw [he (by omega)] at h4 ⊢
 all_goals unfold Qw
 all_goals rw [if_neg (by omega),if_neg (by omega),if_neg (by omega),if_neg (by rintro (h | h) <;> simp_all)]
 ·rw [if_pos h5]
 ·rw [if_neg h5]
theorem zcD (m:Move) (v:List jM) (v':Int) (v'':List Int) (v''':List (Int × Bool)):(fun (x:Int × Int × (List Int) × (List (Int × Bool)))=>x=Qw v m v' v'' v''') (Yt m v v' v'' v'''):=have h:=Sk.pval _ (zek m v v' v'' v'''); h
theorem zgd (m:Move) (v:List jM) (v':Int) (v'':List Int) (v''':List (Int × Bool)) (hl:v''.length=v.length):(uC m v v' v'' v''').obs (fun _=>True):=by
 unfold uC
 try simp only [qh,XV,Kn]
 exact okG
theorem zed (m:Move) (v:List jM) (v':Int) (v'':List Int) (v''':List (Int × Bool)) (hl:v''.length=v.length):FnB Tryz.prog 18 [av m.cells,.ref [slD jM.cells v],.ptr 7 0,.ptr 4 0,.ptr 6 0] [(7,.box [iv v']),(4,.box [ow 100006 v'']),(100006,jz 3 1 jC v''),(6,.box [.mpv 100007]),(100007,mpM dB v''')] ((fun (x:Int × Int × (List Int) × (List (Int × Bool)))=>iv x.1) (Yt m v v' v'' v''')) ((fun (x:Int × Int × (List Int) × (List (Int × Bool)))=>[(7,.box [iv x.2.1]),(4,.box [ow 600004 x.2.2.1]),(600004,jz 3 1 jC x.2.2.1),(6,.box [.mpv 600006]),(600006,mpM dB x.2.2.2)]) (Yt m v v' v'' v''')) [(2,7),(3,4),(4,6)] :=
 FnB.sk tok mixed (fun x=>iv x.1) (fun x=>[(7,.box [iv x.2.1]),(4,.box [ow 600004 x.2.2.1]),(600004,jz 3 1 jC x.2.2.1),(6,.box [.mpv 600006]),(600006,mpM dB x.2.2.2)]) [(2,7),(3,4),(4,6)] Tryz.func18 rfl (by kernel_rfl) 3000 (uC m v v' v'' v''') (by kernel_rfl) (zgd m v v' v'' v''' hl)
def Uu (m:Move) (v:List jM) (v':Int) (v'':List Int) (v''':List (Int × Bool)):zfB (Int × Int × (List Int) × (List (Int × Bool))):=⟨Tryz.prog,18,[av m.cells,.ref [slD jM.cells v],.ptr 7 0,.ptr 4 0,.ptr 6 0],[(7,.box [iv v']),(4,.box [ow 100006 v'']),(100006,jz 3 1 jC v''),(6,.box [.mpv 100007]),(100007,mpM dB v''')],[(2,7),(3,4),(4,6)],fun x=>iv x.1,fun x=>[(7,.box [iv x.2.1]),(4,.box [ow 600004 x.2.2.1]),(600004,jz 3 1 jC x.2.2.1),(6,.box [.mpv 600006]),(600006,mpM dB x.2.2.2)],Yt m v v' v'' v''',(v''.length=v.length),fun h=>zed m v v' v'' v''' h,fun (x:Int × Int × (List Int) × (List (Int × Bool)))=>x=Qw v m v' v'' v''',zcD m v v' v'' v'''⟩
theorem yE {α:Type} [Inhabited α] {l:List α} {n:Nat} (h:n < l.length):l.take (n+1)=l.take n++[l.getD n default]:=by
 rw [List.take_add_one]
 simp [List.getD,h]
def FD (suits:List jM) (s:Int × List Int × List (Int × Bool)) (m:Move):Int × Int × List Int × List (Int × Bool):=Qw suits m s.1 s.2.1 s.2.2
def zH (suits:List jM):List Move→Int × List Int × List (Int × Bool)→List Int × Int × List Int × List (Int × Bool)
 | [],s=>([],s)
 | m :: r,s=>((FD suits s m).1 :: (zH suits r (FD suits s m).2).1,(zH suits r (FD suits s m).2).2)
theorem Yr (suits:List jM) (l r:List Move):∀ s,zH suits (l++r) s=((zH suits l s).1++(zH suits r (zH suits l s).2).1,(zH suits r (zH suits l s).2).2):=by
 induction l with
 | nil=>intro s; rfl
 | cons m l ih=>intro s; simp only [List.cons_append,zH,ih]
theorem zfr (suits:List jM) (l:List Move):∀ s,(zH suits l s).1.length=l.length:=by
 induction l with
 | nil=>intro s; rfl
 | cons m l ih=>intro s; simp only [zH,List.length_cons,ih]
theorem zc3 (suits:List jM) (l:List Move):∀ s,(zH suits l s).2.2.1.length=s.2.1.length:=by
 induction l with
 | nil=>intro s; rfl
 | cons m l ih=>intro s; simp only [zH,ih]; exact zo3 _ _ _ _ _
def KH (suits:List jM):Int × List Int × List (Int × Bool):=(0,List.replicate suits.length 0,[])
theorem zbH (suits:List jM) (l:List Move) (n:Nat) (h:n < l.length) (s:Int × List Int × List (Int × Bool)):zH suits (l.take (n+1)) s=((zH suits (l.take n) s).1++[(FD suits (zH suits (l.take n) s).2 (l.getD n default)).1],(FD suits (zH suits (l.take n) s).2 (l.getD n default)).2):=by
 rw [yE h,Yr]
 rfl
def Ky (suits:List jM) (moves:List Move):Sk ((List Int) × (List Int)) :=
 .r 0 (.o [.pur 2]) fun _ =>
 .r 1 (.andl (.o [.nrm (mkC kA suits.length 0)]) (.p (mkP ((suits.length:Nat):Int) 8))) fun _ =>
 .r 2 (.o [.nrmm (mkM dB)]) fun _ =>
 .bind true (fun b1=>(zH suits moves (KH suits)).1=b1.1∧(zH suits moves (KH suits)).2.2.1=b1.2)
 (.loop (default:Sum ((List Int) × (List Int)) ((List Int) × (List Int))) (fun i2=>i2.2.1≤moves.length∧zH suits (moves.take i2.2.1) (KH suits)=(i2.1,i2.2.2.2.2,i2.2.2.1,i2.2.2.2.1)) (fun i2=>moves.length - i2.2.1) (([],0,List.replicate suits.length (0:Int),([]:List (Int × Bool)),0):(List Int) × Nat × (List Int) × (List (Int × Bool)) × Int)
 (fun (i2:(List Int) × Nat × (List Int) × (List (Int × Bool)) × Int)=>⟨[(5,ow 100005 i2.1),(18,iv (i2.2.1:Int))],[(100005,jz 30 1 jC i2.1),(100006,jz 3 1 jC i2.2.2.1),(100007,mpM dB i2.2.2.2.1),(4,.box [ow 100006 i2.2.2.1]),(6,.box [.mpv 100007]),(7,.box [iv i2.2.2.2.2])]⟩) fun i2 =>
 .bnd 16 0 moves.length <|
 .br (decide ((i2.2.1:Int) < ((moves.length:Nat):Int)))
 (.r 7 (.p (ixP (i2.2.1:Int) moves.length)) fun _ =>
 .r 8 (.depr ((Uu (moves.getD i2.2.1 default) suits i2.2.2.2.2 i2.2.2.1 i2.2.2.2.1).c) fun x3=>.andl (.o [.nrm (qk kA [x3.1])]) (.andl (.o [.nrm (gy kA i2.1 [x3.1])]) (.andl (.t (kA.ones [x3.1])) (.p (szP i2.1.length [x3.1].length 8))))) fun x3 =>
 .r 9 .z fun _ =>
 .wi 18 (w64 ((i2.2.1:Int)+1)) ((i2.2.1+1:Nat):Int) <|
 .fin (.inr (i2.1++[x3.1],i2.2.1+1,x3.2.2.1,x3.2.2.2,x3.2.1)))
 (.fin (.inl (.inr (i2.1,i2.2.2.1)))))
 (fun (b1:(List Int) × (List Int))=>⟨[(5,ow 100003 b1.1)],[(100003,jz 30 1 jC b1.1),(100004,jz 3 1 jC b1.2),(4,.box [ow 100004 b1.2])]⟩) fun b1 =>
 .fin (b1.2,b1.1)
def zaE (suits:List jM) (moves:List Move):(List Int) × (List Int):=(Ky suits moves).val
theorem zjM (suits:List jM) (moves:List Move):(Ky suits moves).pst (fun (x:(List Int) × (List Int))=>x=((zH suits moves (KH suits)).2.2.1,(zH suits moves (KH suits)).1)):=by
 refine Sk.pst_of _ ?_
 unfold Ky
 simp only [Sk.pstq,Sk.isLoop,reduceCtorEq,ON,kk,Uu,zfB.c,maxLen]
 all_goals simp only [LN] at *
 refine fun _ _ _=>⟨⟨⟨by omega,rfl⟩,fun i hi=>⟨fun hlt _ x _ hx _=>⟨⟨by omega,?_⟩,by omega⟩,fun hge=>?_⟩⟩,fun b hb=>?_⟩
 ·have h:=zbH suits moves i.2.1 (by omega) (KH suits)
  rw [hi.2] at h
  rw [h,hx]; rfl
 ·have e:moves.take i.2.1=moves:=List.take_of_length_le (by omega)
  have h:=hi.2
  rw [e] at h
  rw [h]; exact ⟨rfl,rfl⟩
 ·rw [hb.1,hb.2]
theorem zhF (suits:List jM) (moves:List Move):(fun (x:(List Int) × (List Int))=>x=((zH suits moves (KH suits)).2.2.1,(zH suits moves (KH suits)).1)) (zaE suits moves):=have h:=Sk.pval _ (zjM suits moves); h
theorem zl2 (suits:List jM) (moves:List Move) (hs:suits.length≤1000) (hm:moves.length≤1000):(Ky suits moves).obs (fun _=>True):=by
 refine Sk.obs_of _ ?_
 unfold Ky
 simp only [Sk.obq,Sk.isLoop,reduceCtorEq,ON,kk,Uu,zfB.c,maxLen]
 all_goals simp only [LN] at *
 refine fun _=>⟨⟨by omega,by omega,by omega⟩,fun _ _=>⟨⟨by omega,rfl⟩,fun i hi _=>⟨fun hlt=>⟨by omega,fun _=>⟨⟨?_,fun x _ _=>?_⟩,fun x _ hx _=>⟨?_,⟨by omega,?_⟩,by omega⟩⟩⟩,fun hge=>?_⟩⟩⟩
 ·have h:=zc3 suits (moves.take i.2.1) (KH suits)
  rw [hi.2] at h
  simpa [KH] using h
 ·have h:=zfr suits (moves.take i.2.1) (KH suits)
  rw [hi.2] at h
  simp only [List.length_take] at h
  omega
 ·rw [jj (by omega) (by omega)]; omega
 ·have h:=zbH suits moves i.2.1 (by omega) (KH suits)
  rw [hi.2] at h
  rw [h,hx]; rfl
 ·have e:moves.take i.2.1=moves:=List.take_of_length_le (by omega)
  have h:=hi.2
  rw [e] at h
  rw [h]; exact ⟨rfl,rfl⟩
def QP (suits:List jM) (moves:List Move):Ctr ((List Int) × (List Int)):=kk tok mixed Tryz.func8 [lv jM.cells suits,lv Move.cells moves] (fun x=>.tup [lv jC x.1,lv jC x.2]) false (Ky suits moves) (zaE suits moves) (fun (h:(suits.length≤1000)∧(moves.length≤1000))=>zl2 suits moves h.1 h.2) (fun (x:(List Int) × (List Int))=>x=((zH suits moves (KH suits)).2.2.1,(zH suits moves (KH suits)).1)) (zhF suits moves)
def Ki (a:List Int) (b:List Int):Sk (Bool) :=
 .br (((a.length:Nat):Int) != ((b.length:Nat):Int))
 (.fin false)
 (.bind true (fun _=>True)
 (.loop (default:Sum (Bool) (Unit)) (fun i2=>i2≤a.length) (fun i2=>a.length - i2) (0:Nat)
 (fun (i2:Nat)=>⟨[(5,iv (i2:Int))],[]⟩) fun i2 =>
 .bnd 0 0 a.length <|
 .br (decide ((i2:Int) < ((a.length:Nat):Int)))
 (.r 6 (.andl (.p (ixP (i2:Int) a.length)) (.p (ixP (i2:Int) b.length))) fun _ =>
 .br ((a.getD i2 default) != (b.getD i2 default))
 (.fin (.inl (.inl false)))
 (.r 5 .z fun _ =>
 .wi 5 (w64 ((i2:Int)+1)) ((i2+1:Nat):Int) <|
 .fin (.inr (i2+1))))
 (.fin (.inl (.inr ()))))
 (fun (_:Unit)=>⟨[],[]⟩) fun _ =>
 .fin true)
def zkj (a:List Int) (b:List Int):Bool:=(Ki a b).val
theorem zdC (a:List Int) (b:List Int):(Ki a b).obs (fun _=>True):=by
 unfold Ki
 exact okD
def Ul (a:List Int) (b:List Int):Ctr (Bool):=kk tok mixed Tryz.func17 [lv jC a,lv jC b] (fun x=>bv x) true (Ki a b) (zkj a b) (fun (_:True)=>zdC a b)
def zo (a:List Int) (b:List Int):Sk (Bool) :=
 .br (((a.length:Nat):Int) != ((b.length:Nat):Int))
 (.fin false)
 (.bind true (fun _=>True)
 (.loop (default:Sum (Bool) (Unit)) (fun i2=>i2≤a.length) (fun i2=>a.length - i2) (0:Nat)
 (fun (i2:Nat)=>⟨[(5,iv (i2:Int))],[]⟩) fun i2 =>
 .bnd 0 0 a.length <|
 .br (decide ((i2:Int) < ((a.length:Nat):Int)))
 (.r 6 (.andl (.p (ixP (i2:Int) a.length)) (.p (ixP (i2:Int) b.length))) fun _ =>
 .br ((a.getD i2 default) != (b.getD i2 default))
 (.fin (.inl (.inl false)))
 (.r 5 .z fun _ =>
 .wi 5 (w64 ((i2:Int)+1)) ((i2+1:Nat):Int) <|
 .fin (.inr (i2+1))))
 (.fin (.inl (.inr ()))))
 (fun (_:Unit)=>⟨[],[]⟩) fun _ =>
 .fin true)
def HW (a:List Int) (b:List Int):Bool:=(zo a b).val
theorem BU (a:List Int) (b:List Int) (hP:a=b):(zo a b).pst (fun (x:Bool)=>x=true):=by
 unfold zo
 exact okP
theorem FM (a:List Int) (b:List Int):(fun (x:Bool)=>(a=b)→(x=true)) (HW a b):=fun hP=>Sk.pval _ (BU a b hP)
theorem zbh (a:List Int) (b:List Int):(zo a b).obs (fun _=>True):=by
 unfold zo
 exact okD
def QU (a:List Int) (b:List Int):Ctr (Bool):=kk tok mixed Tryz.func9 [lv jC a,lv jC b] (fun x=>bv x) true (zo a b) (HW a b) (fun (_:True)=>zbh a b) (fun (x:Bool)=>(a=b)→(x=true)) (FM a b)
structure JG where
 suit:Int
 sum:Int
 currency:Int
 state:Int
 deriving Inhabited
def JG.cells (c:JG):List D:=[dI c.suit,dI c.sum,dI c.currency,dI c.state]
def JG.E:Enc JG:=⟨JG.cells,4,fun _=>rfl,fun _=>rfl⟩
def uJ (r:jg):Sk ((List ByteArray) × (List ByteArray) × (List ByteArray)) :=
 .bind true (fun b1=>b1.length≤0+r.cities.length)
 (.loop (default:Sum ((List ByteArray) × (List ByteArray) × (List ByteArray)) ((List ByteArray))) (fun i2=>i2.2≤r.cities.length∧i2.1.length≤0+i2.2) (fun i2=>r.cities.length - i2.2) (([],0):(List ByteArray) × Nat)
 (fun (i2:(List ByteArray) × Nat)=>⟨[(2,ow 100002 i2.1),(14,iv (i2.2:Int))],[(100002,jz 9 1 vU i2.1)]⟩) fun i2 =>
 .bnd 12 0 r.cities.length <|
 .br (decide ((i2.2:Int) < ((r.cities.length:Nat):Int)))
 (.r 3 (.p (ixP (i2.2:Int) r.cities.length)) fun _ =>
 .r 4 (.andl (.o [.nrm (qk GC [(r.cities.getD i2.2 default).name])]) (.andl (.o [.nrm (gy GC i2.1 [(r.cities.getD i2.2 default).name])]) (.andl (.t (GC.ones [(r.cities.getD i2.2 default).name])) (.p (szP i2.1.length [(r.cities.getD i2.2 default).name].length 16))))) fun _ =>
 .r 5 .z fun _ =>
 .wi 14 (w64 ((i2.2:Int)+1)) ((i2.2+1:Nat):Int) <|
 .fin (.inr (i2.1++[(r.cities.getD i2.2 default).name],i2.2+1)))
 (.fin (.inl (.inr i2.1))))
 (fun (b1:(List ByteArray))=>⟨[(2,ow 100001 b1)],[(100001,jz 9 1 vU b1)]⟩) fun b1 =>
 .bind true (fun b3=>b3.length≤0+r.firms.length)
 (.loop (default:Sum ((List ByteArray) × (List ByteArray) × (List ByteArray)) ((List ByteArray))) (fun i4=>i4.2≤r.firms.length∧i4.1.length≤0+i4.2) (fun i4=>r.firms.length - i4.2) (([],0):(List ByteArray) × Nat)
 (fun (i4:(List ByteArray) × Nat)=>⟨[(3,ow 100005 i4.1),(27,iv (i4.2:Int))],[(100005,jz 9 1 vU i4.1)]⟩) fun i4 =>
 .bnd 25 0 r.firms.length <|
 .br (decide ((i4.2:Int) < ((r.firms.length:Nat):Int)))
 (.r 8 (.p (ixP (i4.2:Int) r.firms.length)) fun _ =>
 .r 9 (.andl (.o [.nrm (qk GC [(r.firms.getD i4.2 default).name])]) (.andl (.o [.nrm (gy GC i4.1 [(r.firms.getD i4.2 default).name])]) (.andl (.t (GC.ones [(r.firms.getD i4.2 default).name])) (.p (szP i4.1.length [(r.firms.getD i4.2 default).name].length 16))))) fun _ =>
 .r 10 .z fun _ =>
 .wi 27 (w64 ((i4.2:Int)+1)) ((i4.2+1:Nat):Int) <|
 .fin (.inr (i4.1++[(r.firms.getD i4.2 default).name],i4.2+1)))
 (.fin (.inl (.inr i4.1))))
 (fun (b3:(List ByteArray))=>⟨[(3,ow 100004 b3)],[(100004,jz 9 1 vU b3)]⟩) fun b3 =>
 .bind true (fun b5=>b5.length≤0+r.orders.length)
 (.loop (default:Sum ((List ByteArray) × (List ByteArray) × (List ByteArray)) ((List ByteArray))) (fun i6=>i6.2≤r.orders.length∧i6.1.length≤0+i6.2) (fun i6=>r.orders.length - i6.2) (([],0):(List ByteArray) × Nat)
 (fun (i6:(List ByteArray) × Nat)=>⟨[(4,ow 100008 i6.1),(40,iv (i6.2:Int))],[(100008,jz 9 1 vU i6.1)]⟩) fun i6 =>
 .bnd 38 0 r.orders.length <|
 .br (decide ((i6.2:Int) < ((r.orders.length:Nat):Int)))
 (.r 13 (.p (ixP (i6.2:Int) r.orders.length)) fun _ =>
 .r 14 (.andl (.o [.nrm (qk GC [(r.orders.getD i6.2 default).name])]) (.andl (.o [.nrm (gy GC i6.1 [(r.orders.getD i6.2 default).name])]) (.andl (.t (GC.ones [(r.orders.getD i6.2 default).name])) (.p (szP i6.1.length [(r.orders.getD i6.2 default).name].length 16))))) fun _ =>
 .r 15 .z fun _ =>
 .wi 40 (w64 ((i6.2:Int)+1)) ((i6.2+1:Nat):Int) <|
 .fin (.inr (i6.1++[(r.orders.getD i6.2 default).name],i6.2+1)))
 (.fin (.inl (.inr i6.1))))
 (fun (b5:(List ByteArray))=>⟨[(4,ow 100007 b5)],[(100007,jz 9 1 vU b5)]⟩) fun b5 =>
 .fin (b1,b3,b5)
def zc5 (r:jg):(List ByteArray) × (List ByteArray) × (List ByteArray):=(uJ r).val
theorem zdB (r:jg):(uJ r).pst (fun (x:(List ByteArray) × (List ByteArray) × (List ByteArray))=>x.1.length≤r.cities.length∧x.2.1.length≤r.firms.length∧x.2.2.length≤r.orders.length):=by
 unfold uJ
 try simp only [jh.Small,jg.Small]
 exact okP
theorem zcU (r:jg):(fun (x:(List ByteArray) × (List ByteArray) × (List ByteArray))=>x.1.length≤r.cities.length∧x.2.1.length≤r.firms.length∧x.2.2.length≤r.orders.length) (zc5 r):=have h:=Sk.pval _ (zdB r); h
theorem zf0 (r:jg) (hr:r.Small):(uJ r).obs (fun _=>True):=by
 simp only [jh.Small,jg.Small] at hr
 unfold uJ
 try simp only [jh.Small,jg.Small]
 exact okD
def Gd (r:jg):Ctr ((List ByteArray) × (List ByteArray) × (List ByteArray)):=kk tok mixed Tryz.func88 [av r.cells] (fun x=>.tup [lv vU x.1,lv vU x.2.1,lv vU x.2.2]) false (uJ r) (zc5 r) (fun (h:(r.Small))=>zf0 r h) (fun (x:(List ByteArray) × (List ByteArray) × (List ByteArray))=>x.1.length≤r.cities.length∧x.2.1.length≤r.firms.length∧x.2.2.length≤r.orders.length) (zcU r)
def JY (s:ByteArray):Sk (Bool) :=
 .br ((s.toList == (⟨#[]⟩:ByteArray).toList)||(decide (((s.size:Nat):Int) > 20)))
 (.fin false)
 (.r 3 (.andl (.o [.nrm (zrW s)]) (.p (s.size≤maxLen))) fun _ =>
 .bind true (fun _=>True)
 (.loop (default:Sum (Bool) (Unit)) (fun i2=>i2≤(gM s).length) (fun i2=>(gM s).length - i2) (0:Nat)
 (fun (i2:Nat)=>⟨[(16,iv (i2:Int))],[]⟩) fun i2 =>
 .bnd 14 0 ((gM s).length) <|
 .br (decide ((i2:Int) < (((gM s).length:Nat):Int)))
 (.r 5 (.p (ixP (i2:Int) ((gM s).length))) fun _ =>
 .br ((!(((decide (((gM s).getD i2 default)≥97))&&(decide (((gM s).getD i2 default)≤122)))||((decide (((gM s).getD i2 default)≥65))&&(decide (((gM s).getD i2 default)≤90)))))&&(((i2:Int) == 0)||((((gM s).getD i2 default) != 95)&&((decide (((gM s).getD i2 default) < 48))||(decide (((gM s).getD i2 default) > 57))))))
 (.fin (.inl (.inl false)))
 (.r 9 .z fun _ =>
 .wi 16 (w64 ((i2:Int)+1)) ((i2+1:Nat):Int) <|
 .fin (.inr (i2+1))))
 (.fin (.inl (.inr ()))))
 (fun (_:Unit)=>⟨[],[]⟩) fun _ =>
 .fin true)
def zj9 (s:ByteArray):Bool:=(JY s).val
theorem zd2 (s:ByteArray):(JY s).obs (fun _=>True):=by
 unfold JY
 exact okD
def Ht (s:ByteArray):Ctr (Bool):=kk tok mixed Tryz.func161 [sv s] (fun x=>bv x) true (JY s) (zj9 s) (fun (_:True)=>zd2 s)
def zP (s:List ByteArray) (v:ByteArray):Sk (Int) :=
 .bind true (fun b1=>∀ q,q < s.length→((s.getD q default).toList == v.toList)=false)
 (.loop (default:Sum (Int) (Unit)) (fun i2=>∀ q,q < i2→((s.getD q default).toList == v.toList)=false) (fun i2=>s.length - i2) (0:Nat)
 (fun (i2:Nat)=>⟨[(8,iv (i2:Int))],[]⟩) fun i2 =>
 .bnd 0 0 s.length <|
 .br (decide ((i2:Int) < ((s.length:Nat):Int)))
 (.r 4 (.p (ixP (i2:Int) s.length)) fun _ =>
 .br (v.toList == (s.getD i2 default).toList)
 (.fin (.inl (.inl (i2:Int))))
 (.r 6 .z fun _ =>
 .wi 8 (w64 ((i2:Int)+1)) ((i2+1:Nat):Int) <|
 .fin (.inr (i2+1))))
 (.fin (.inl (.inr ()))))
 (fun (_:Unit)=>⟨[],[]⟩) fun _ =>
 .fin (-1)
def Bf (s:List ByteArray) (v:ByteArray):Int:=(zP s v).val
theorem zai (s:List ByteArray) (v:ByteArray):(zP s v).pst (fun (x:Int)=>(x = -1∧∀ q,q < s.length→((s.getD q default).toList == v.toList)=false)∨(0≤x∧x < s.length∧((s.getD x.toNat default).toList == v.toList)=true∧∀ q,(q:Nat) < x.toNat→((s.getD q default).toList == v.toList)=false)):=by
 unfold zP
 exact okP
theorem BF (s:List ByteArray) (v:ByteArray):(fun (x:Int)=>(x = -1∧∀ q,q < s.length→((s.getD q default).toList == v.toList)=false)∨(0≤x∧x < s.length∧((s.getD x.toNat default).toList == v.toList)=true∧∀ q,(q:Nat) < x.toNat→((s.getD q default).toList == v.toList)=false)) (Bf s v):=have h:=Sk.pval _ (zai s v); h
theorem zbD (s:List ByteArray) (v:ByteArray):(zP s v).obs (fun _=>True):=by
 unfold zP
 exact okD
def Ve (s:List ByteArray) (v:ByteArray):Ctr (Int):=kk tok mixed Tryz.func197 [lv vU s,sv v] (fun x=>iv x) true (zP s v) (Bf s v) (fun (_:True)=>zbD s v) (fun (x:Int)=>(x = -1∧∀ q,q < s.length→((s.getD q default).toList == v.toList)=false)∨(0≤x∧x < s.length∧((s.getD x.toNat default).toList == v.toList)=true∧∀ q,(q:Nat) < x.toNat→((s.getD q default).toList == v.toList)=false)) (BF s v)
def qM (s:List ByteArray) (v:ByteArray):Sk (Bool) :=
 .r 1 ((Ve s v).c) fun x1 =>
 .fin (decide (x1≥0))
def Gy (s:List ByteArray) (v:ByteArray):Bool:=(qM s v).val
theorem XJ (s:List ByteArray) (v:ByteArray):(qM s v).pst (fun (x:Bool)=>(x=true↔∃ q,q < s.length∧((s.getD q default).toList == v.toList)=true)):=by
 unfold qM
 try simp only [Ve]
 exact okP
theorem Xt (s:List ByteArray) (v:ByteArray):(fun (x:Bool)=>(x=true↔∃ q,q < s.length∧((s.getD q default).toList == v.toList)=true)) (Gy s v):=have h:=Sk.pval _ (XJ s v); h
theorem FK (s:List ByteArray) (v:ByteArray):(qM s v).obs (fun _=>True):=by
 unfold qM
 try simp only [Ve]
 exact okE
def UH (s:List ByteArray) (v:ByteArray):Ctr (Bool):=kk tok mixed Tryz.func162 [lv vU s,sv v] (fun x=>bv x) true (qM s v) (Gy s v) (fun (_:True)=>FK s v) (fun (x:Bool)=>(x=true↔∃ q,q < s.length∧((s.getD q default).toList == v.toList)=true)) (Xt s v)
def Qr (names:List ByteArray) (i:Int):Sk (Int) :=
 .r 1 (.andl (.p (ixP i names.length)) ((Ht (names.getD i.toNat default)).c)) fun x1 =>
 .br (!x1)
 (.fin 2)
 (.r 3 (.andl (.andl (.o [.nrm (zsg GC names 0 i.toNat)]) (.pt (0≤i∧i≤((names.length:Nat):Int)) (GC.lens names))) (.andl (.p (ixP i names.length)) ((UH (uZ names 0 i.toNat) (names.getD i.toNat default)).c))) fun x2 =>
 .br x2
 (.fin 5)
 (.fin 0))
def zlp (names:List ByteArray) (i:Int):Int:=(Qr names i).val
theorem zfP (names:List ByteArray) (i:Int) (hi:0≤i∧i < (names.length:Int)):(Qr names i).obs (fun _=>True):=by
 unfold Qr
 try simp only [Ht,UH]
 exact okD
def zJ (names:List ByteArray) (i:Int):Ctr (Int):=kk tok mixed Tryz.func129 [lv vU names,iv i] (fun x=>iv x) true (Qr names i) (zlp names i) (fun (h:(0≤i∧i < (names.length:Int)))=>zfP names i h)
def ga (p:Int):Sk (Bool) :=
 .fin true
def Hy (p:Int):Bool:=(ga p).val
theorem zbd (p:Int):Hy p=true:=rfl
theorem zbu (p:Int):(ga p).obs (fun _=>True):=by
 unfold ga
 exact okE
def GV (p:Int):Ctr (Bool):=kk tok mixed Tryz.func90 [iv p] (fun x=>bv x) true (ga p) (Hy p) (fun (_:True)=>zbu p)
def Jo (names:List ByteArray) (most:Int):Sk (Int) :=
 .br (decide (((names.length:Nat):Int) > most))
 (.fin 6)
 (.bind true (fun _=>True)
 (.loop (default:Sum (Int) (Unit)) (fun i2=>i2≤names.length) (fun i2=>names.length - i2) (0:Nat)
 (fun (i2:Nat)=>⟨[(15,iv (i2:Int))],[]⟩) fun i2 =>
 .bnd 0 0 names.length <|
 .br (decide ((i2:Int) < ((names.length:Nat):Int)))
 (.r 6 ((zJ names (i2:Int)).c) fun x3 =>
 .br (x3 != 0)
 (.fin (.inl (.inl x3)))
 (.r 9 ((GV (i2:Int)).c) fun x4 =>
 .br (!x4)
 (.fin (.inl (.inl 1)))
 (.r 11 .z fun _ =>
 .wi 15 (w64 ((i2:Int)+1)) ((i2+1:Nat):Int) <|
 .fin (.inr (i2+1)))))
 (.fin (.inl (.inr ()))))
 (fun (_:Unit)=>⟨[],[]⟩) fun _ =>
 .fin 0)
def zih (names:List ByteArray) (most:Int):Int:=(Jo names most).val
theorem zbC (names:List ByteArray) (most:Int):(Jo names most).obs (fun _=>True):=by
 unfold Jo
 try simp only [GV,zJ,zbd]
 exact okG
def Vj (names:List ByteArray) (most:Int):Ctr (Int):=kk tok mixed Tryz.func89 [lv vU names,iv most,.fn 90 []] (fun x=>iv x) true (Jo names most) (zih names most) (fun (_:True)=>zbC names most)
def Yf (i:Int) (n:Int):Sk (Bool) :=
 .fin ((decide (i≥0))&&(decide (i < n)))
def zly (i:Int) (n:Int):Bool:=(Yf i n).val
theorem vM (i:Int) (n:Int):zly i n=((decide (i≥0))&&(decide (i < n))):=rfl
theorem zmk (i:Int) (n:Int):(Yf i n).obs (fun _=>True):=by
 unfold Yf
 exact okE
def kb (i:Int) (n:Int):Ctr (Bool):=kk tok mixed Tryz.func93 [iv i,iv n] (fun x=>bv x) true (Yf i n) (zly i n) (fun (_:True)=>zmk i n)
def Ka (l:List Int) (low:Int) (high:Int):Sk (Bool) :=
 .bind true (fun _=>True)
 (.loop (default:Sum (Bool) (Unit)) (fun i2=>i2≤l.length) (fun i2=>l.length - i2) (0:Nat)
 (fun (i2:Nat)=>⟨[(11,iv (i2:Int))],[]⟩) fun i2 =>
 .bnd 0 0 l.length <|
 .br (decide ((i2:Int) < ((l.length:Nat):Int)))
 (.r 3 (.p (ixP (i2:Int) l.length)) fun _ =>
 .r 4 (.wh ((decide ((l.getD i2 default) < low))||(decide ((l.getD i2 default) > high))) false (.wh (decide ((i2:Int) > 0)) true (.p (ixP (w64 ((i2:Int) - 1)) l.length)))) fun _ =>
 .br (((decide ((l.getD i2 default) < low))||(decide ((l.getD i2 default) > high)))||((decide ((i2:Int) > 0))&&(decide ((l.getD i2 default)≤(l.getD ((w64 ((i2:Int) - 1)).toNat) default)))))
 (.fin (.inl (.inl false)))
 (.r 6 .z fun _ =>
 .wi 11 (w64 ((i2:Int)+1)) ((i2+1:Nat):Int) <|
 .fin (.inr (i2+1))))
 (.fin (.inl (.inr ()))))
 (fun (_:Unit)=>⟨[],[]⟩) fun _ =>
 .fin true
def zkt (l:List Int) (low:Int) (high:Int):Bool:=(Ka l low high).val
theorem zea (l:List Int) (low:Int) (high:Int):(Ka l low high).obs (fun _=>True):=by
 unfold Ka
 exact okD
def va (l:List Int) (low:Int) (high:Int):Ctr (Bool):=kk tok mixed Tryz.func130 [lv jC l,iv low,iv high] (fun x=>bv x) true (Ka l low high) (zkt l low high) (fun (_:True)=>zea l low high)
def Zs (r:jg) (c_:zk):Sk (Bool) :=
 .bind true (fun _=>True)
 (.loop (default:Sum (Bool) (Unit)) (fun i2=>i2≤c_.feasts.length) (fun i2=>c_.feasts.length - i2) (0:Nat)
 (fun (i2:Nat)=>⟨[(10,iv (i2:Int))],[]⟩) fun i2 =>
 .bnd 8 0 c_.feasts.length <|
 .br (decide ((i2:Int) < ((c_.feasts.length:Nat):Int)))
 (.r 3 (.p (ixP (i2:Int) c_.feasts.length)) fun _ =>
 .r 4 (.andl (.p ((100:Int)≠0)) (.wh (decide (((c_.feasts.getD i2 default).tmod 100) < 1)) false (.p ((100:Int)≠0)))) fun _ =>
 .br ((decide (((c_.feasts.getD i2 default).tmod 100) < 1))||(decide (((c_.feasts.getD i2 default).tmod 100) > 31)))
 (.fin (.inl (.inl false)))
 (.r 6 .z fun _ =>
 .wi 10 (w64 ((i2:Int)+1)) ((i2+1:Nat):Int) <|
 .fin (.inr (i2+1))))
 (.fin (.inl (.inr ()))))
 (fun (_:Unit)=>⟨[],[]⟩) fun _ =>
 .r 7 (.dep (.wh ((decide (((c_.feasts.length:Nat):Int) > 60))||(decide (((c_.shut.length:Nat):Int) > 200))) false ((kb c_.order ((r.orders.length:Nat):Int)).c)) fun x3=>.wh (((decide (((c_.feasts.length:Nat):Int) > 60))||(decide (((c_.shut.length:Nat):Int) > 200)))||(!x3)) false ((kb c_.currency ((r.currencies.length:Nat):Int)).c)) fun p9 =>
 .br ((((decide (((c_.feasts.length:Nat):Int) > 60))||(decide (((c_.shut.length:Nat):Int) > 200)))||(!p9.1))||(!p9.2))
 (.fin false)
 (.r 9 (.dep ((va c_.rest 0 6).c) fun x5=>.dep (.wh x5 true ((va c_.feasts 101 1231).c)) fun x6=>.wh (x5&&x6) true ((va c_.shut 0 100000).c)) fun p8 =>
 .fin ((p8.1&&p8.2.1)&&p8.2.2))
def zni (r:jg) (c_:zk):Bool:=(Zs r c_).val
theorem zhS (r:jg) (c_:zk):(Zs r c_).obs (fun _=>True):=by
 unfold Zs
 try simp only [kb,va,vM]
 exact okG
def zbz (r:jg) (c_:zk):Ctr (Bool):=kk tok mixed Tryz.func92 [av r.cells,av c_.cells] (fun x=>bv x) true (Zs r c_) (zni r c_) (fun (_:True)=>zhS r c_)
def gr (i:Int) (v:jg):Sk (Bool) :=
 .r 1 (.andl (.p (ixP i v.cities.length)) ((zbz v (v.cities.getD i.toNat default)).c)) fun x1 =>
 .fin x1
def zgN (i:Int) (v:jg):Bool:=(gr i v).val
theorem zaZ (i:Int) (v:jg) (hi:0≤i∧i < (v.cities.length:Int)):(gr i v).obs (fun _=>True):=by
 unfold gr
 try simp only [zbz]
 exact okD
def GR (i:Int) (v:jg):Ctr (Bool):=kk tok mixed Tryz.func91 [iv i,.ref v.cells] (fun x=>bv x) true (gr i v) (zgN i v) (fun (h:(0≤i∧i < (v.cities.length:Int)))=>zaZ i v h)
def gZ (names:List ByteArray) (most:Int) (v:jg):Sk (Int) :=
 .br (decide (((names.length:Nat):Int) > most))
 (.fin 6)
 (.bind true (fun _=>True)
 (.loop (default:Sum (Int) (Unit)) (fun i2=>i2≤names.length) (fun i2=>names.length - i2) (0:Nat)
 (fun (i2:Nat)=>⟨[(15,iv (i2:Int))],[]⟩) fun i2 =>
 .bnd 0 0 names.length <|
 .br (decide ((i2:Int) < ((names.length:Nat):Int)))
 (.r 6 ((zJ names (i2:Int)).c) fun x3 =>
 .br (x3 != 0)
 (.fin (.inl (.inl x3)))
 (.r 9 ((GR (i2:Int) v).c) fun x4 =>
 .br (!x4)
 (.fin (.inl (.inl 1)))
 (.r 11 .z fun _ =>
 .wi 15 (w64 ((i2:Int)+1)) ((i2+1:Nat):Int) <|
 .fin (.inr (i2+1)))))
 (.fin (.inl (.inr ()))))
 (fun (_:Unit)=>⟨[],[]⟩) fun _ =>
 .fin 0)
def zh1 (names:List ByteArray) (most:Int) (v:jg):Int:=(gZ names most v).val
theorem zbB (names:List ByteArray) (most:Int) (v:jg) (hv:names.length≤v.cities.length):(gZ names most v).obs (fun _=>True):=by
 unfold gZ
 try simp only [GR,zJ]
 exact okD
def Vg (names:List ByteArray) (most:Int) (v:jg):Ctr (Int):=kk tok mixed Tryz.func89 [lv vU names,iv most,.fn 91 [.ref v.cells]] (fun x=>iv x) true (gZ names most v) (zh1 names most v) (fun (h:(names.length≤v.cities.length))=>zbB names most v h)
def gq (i:Int) (v:jg):Sk (Bool) :=
 .r 1 (.andl (.p (ixP i v.firms.length)) (.dep ((kb ((v.firms.getD i.toNat default).city) ((v.cities.length:Nat):Int)).c) fun x1=>.andl (.wh x1 true (.p (ixP i v.firms.length))) (.wh x1 true ((kb ((v.firms.getD i.toNat default).group) ((v.groups.length:Nat):Int)).c)))) fun p3 =>
 .fin (p3.1&&p3.2)
def zhf (i:Int) (v:jg):Bool:=(gq i v).val
theorem zbb (i:Int) (v:jg) (hi:0≤i∧i < (v.firms.length:Int)):(gq i v).obs (fun _=>True):=by
 unfold gq
 try simp only [kb,vM]
 exact okG
def Gq (i:Int) (v:jg):Ctr (Bool):=kk tok mixed Tryz.func94 [iv i,.ref v.cells] (fun x=>bv x) true (gq i v) (zhf i v) (fun (h:(0≤i∧i < (v.firms.length:Int)))=>zbb i v h)
def gX (names:List ByteArray) (most:Int) (v:jg):Sk (Int) :=
 .br (decide (((names.length:Nat):Int) > most))
 (.fin 6)
 (.bind true (fun _=>True)
 (.loop (default:Sum (Int) (Unit)) (fun i2=>i2≤names.length) (fun i2=>names.length - i2) (0:Nat)
 (fun (i2:Nat)=>⟨[(15,iv (i2:Int))],[]⟩) fun i2 =>
 .bnd 0 0 names.length <|
 .br (decide ((i2:Int) < ((names.length:Nat):Int)))
 (.r 6 ((zJ names (i2:Int)).c) fun x3 =>
 .br (x3 != 0)
 (.fin (.inl (.inl x3)))
 (.r 9 ((Gq (i2:Int) v).c) fun x4 =>
 .br (!x4)
 (.fin (.inl (.inl 1)))
 (.r 11 .z fun _ =>
 .wi 15 (w64 ((i2:Int)+1)) ((i2+1:Nat):Int) <|
 .fin (.inr (i2+1)))))
 (.fin (.inl (.inr ()))))
 (fun (_:Unit)=>⟨[],[]⟩) fun _ =>
 .fin 0)
def zig (names:List ByteArray) (most:Int) (v:jg):Int:=(gX names most v).val
theorem zbW (names:List ByteArray) (most:Int) (v:jg) (hv:names.length≤v.firms.length):(gX names most v).obs (fun _=>True):=by
 unfold gX
 try simp only [Gq,zJ]
 exact okD
def ZT (names:List ByteArray) (most:Int) (v:jg):Ctr (Int):=kk tok mixed Tryz.func89 [lv vU names,iv most,.fn 94 [.ref v.cells]] (fun x=>iv x) true (gX names most v) (zig names most v) (fun (h:(names.length≤v.firms.length))=>zbW names most v h)
def KS (o:qv):Sk (Bool) :=
 .bind true (fun b1=>b1.length≤0+o.choices.length)
 (.loop (default:Sum (Bool) ((List Int))) (fun i2=>i2.2≤o.choices.length∧i2.1.length≤0+i2.2) (fun i2=>o.choices.length - i2.2) (([],0):(List Int) × Nat)
 (fun (i2:(List Int) × Nat)=>⟨[(3,ow 100002 i2.1),(12,iv (i2.2:Int))],[(100002,jz 3 1 jC i2.1)]⟩) fun i2 =>
 .bnd 10 0 o.choices.length <|
 .br (decide ((i2.2:Int) < ((o.choices.length:Nat):Int)))
 (.r 4 (.p (ixP (i2.2:Int) o.choices.length)) fun _ =>
 .r 5 (.andl (.o [.nrm (qk kA [(o.choices.getD i2.2 default).ask])]) (.andl (.o [.nrm (gy kA i2.1 [(o.choices.getD i2.2 default).ask])]) (.andl (.t (kA.ones [(o.choices.getD i2.2 default).ask])) (.p (szP i2.1.length [(o.choices.getD i2.2 default).ask].length 8))))) fun _ =>
 .r 6 ((kb ((o.choices.getD i2.2 default).by_) 5).c) fun x3 =>
 .br (!x3)
 (.fin (.inl (.inl false)))
 (.r 8 .z fun _ =>
 .wi 12 (w64 ((i2.2:Int)+1)) ((i2.2+1:Nat):Int) <|
 .fin (.inr (i2.1++[(o.choices.getD i2.2 default).ask],i2.2+1))))
 (.fin (.inl (.inr i2.1))))
 (fun (b1:(List Int))=>⟨[(3,ow 100001 b1)],[(100001,jz 3 1 jC b1)]⟩) fun b1 =>
 .bind true (fun b4=>b4.length≤0+o.rules.length)
 (.loop (default:Sum (Bool) ((List Int))) (fun i5=>i5.2≤o.rules.length∧i5.1.length≤0+i5.2) (fun i5=>o.rules.length - i5.2) (([],0):(List Int) × Nat)
 (fun (i5:(List Int) × Nat)=>⟨[(4,ow 100005 i5.1),(29,iv (i5.2:Int))],[(100005,jz 3 1 jC i5.1)]⟩) fun i5 =>
 .bnd 27 0 o.rules.length <|
 .br (decide ((i5.2:Int) < ((o.rules.length:Nat):Int)))
 (.r 11 (.p (ixP (i5.2:Int) o.rules.length)) fun _ =>
 .r 12 (.andl (.o [.nrm (qk kA [(o.rules.getD i5.2 default).ask])]) (.andl (.o [.nrm (gy kA i5.1 [(o.rules.getD i5.2 default).ask])]) (.andl (.t (kA.ones [(o.rules.getD i5.2 default).ask])) (.p (szP i5.1.length [(o.rules.getD i5.2 default).ask].length 8))))) fun _ =>
 .r 13 .z fun _ =>
 .wi 29 (w64 ((i5.2:Int)+1)) ((i5.2+1:Nat):Int) <|
 .fin (.inr (i5.1++[(o.rules.getD i5.2 default).ask],i5.2+1)))
 (.fin (.inl (.inr i5.1))))
 (fun (b4:(List Int))=>⟨[(4,ow 100004 b4)],[(100004,jz 3 1 jC b4)]⟩) fun b4 =>
 .r 14 (.dep ((va b1 0 21).c) fun x6=>.wh x6 true ((va b4 0 21).c)) fun p8 =>
 .fin (p8.1&&p8.2)
def zmg (o:qv):Bool:=(KS o).val
theorem zgt (o:qv) (ho:o.choices.length≤1000000∧o.rules.length≤1000000):(KS o).obs (fun _=>True):=by
 unfold KS
 try simp only [kb,va,vM]
 exact okG
def Ba (o:qv):Ctr (Bool):=kk tok mixed Tryz.func96 [av o.cells] (fun x=>bv x) true (KS o) (zmg o) (fun (h:(o.choices.length≤1000000∧o.rules.length≤1000000))=>zgt o h)
def yZ (i:Int) (v:jg):Sk (Bool) :=
 .r 1 (.andl (.p (ixP i v.orders.length)) ((Ba (v.orders.getD i.toNat default)).c)) fun x1 =>
 .fin x1
def zfX (i:Int) (v:jg):Bool:=(yZ i v).val
theorem zaG (i:Int) (v:jg) (hi:0≤i∧i < (v.orders.length:Int)) (hv:v.Small):(yZ i v).obs (fun _=>True):=by
 simp only [jh.Small,jg.Small] at hv
 unfold yZ
 try simp only [Ba,jh.Small,jg.Small]
 exact okD
def GX (i:Int) (v:jg):Ctr (Bool):=kk tok mixed Tryz.func95 [iv i,.ref v.cells] (fun x=>bv x) true (yZ i v) (zfX i v) (fun (h:(0≤i∧i < (v.orders.length:Int))∧(v.Small))=>zaG i v h.1 h.2)
def Jd (names:List ByteArray) (most:Int) (v:jg):Sk (Int) :=
 .br (decide (((names.length:Nat):Int) > most))
 (.fin 6)
 (.bind true (fun _=>True)
 (.loop (default:Sum (Int) (Unit)) (fun i2=>i2≤names.length) (fun i2=>names.length - i2) (0:Nat)
 (fun (i2:Nat)=>⟨[(15,iv (i2:Int))],[]⟩) fun i2 =>
 .bnd 0 0 names.length <|
 .br (decide ((i2:Int) < ((names.length:Nat):Int)))
 (.r 6 ((zJ names (i2:Int)).c) fun x3 =>
 .br (x3 != 0)
 (.fin (.inl (.inl x3)))
 (.r 9 ((GX (i2:Int) v).c) fun x4 =>
 .br (!x4)
 (.fin (.inl (.inl 1)))
 (.r 11 .z fun _ =>
 .wi 15 (w64 ((i2:Int)+1)) ((i2+1:Nat):Int) <|
 .fin (.inr (i2+1)))))
 (.fin (.inl (.inr ()))))
 (fun (_:Unit)=>⟨[],[]⟩) fun _ =>
 .fin 0)
def zhP (names:List ByteArray) (most:Int) (v:jg):Int:=(Jd names most v).val
theorem zcI (names:List ByteArray) (most:Int) (v:jg) (hv:names.length≤v.orders.length) (hs:v.Small):(Jd names most v).obs (fun _=>True):=by
 simp only [jh.Small,jg.Small] at hs
 unfold Jd
 try simp only [GX,zJ,jh.Small,jg.Small]
 exact okD
def Vd (names:List ByteArray) (most:Int) (v:jg):Ctr (Int):=kk tok mixed Tryz.func89 [lv vU names,iv most,.fn 95 [.ref v.cells]] (fun x=>iv x) true (Jd names most v) (zhP names most v) (fun (h:(names.length≤v.orders.length)∧(v.Small))=>zcI names most v h.1 h.2)
def gQ (r:jg):Sk (Int) :=
 .br (decide (((r.usances.length:Nat):Int) > 100))
 (.fin 6)
 (.bind true (fun _=>True)
 (.loop (default:Sum (Int) (Unit)) (fun i2=>i2≤r.usances.length) (fun i2=>r.usances.length - i2) (0:Nat)
 (fun (i2:Nat)=>⟨[(14,iv (i2:Int))],[]⟩) fun i2 =>
 .bnd 12 0 r.usances.length <|
 .br (decide ((i2:Int) < ((r.usances.length:Nat):Int)))
 (.bind true (fun _=>True)
 (.r 5 (.p (ixP (i2:Int) r.usances.length)) fun _ =>
 .r 6 (.dep ((kb ((r.usances.getD i2 default).from_) ((r.cities.length:Nat):Int)).c) fun x4=>.wh (!x4) false ((kb ((r.usances.getD i2 default).to_) ((r.cities.length:Nat):Int)).c)) fun p8 =>
 .br ((((!p8.1)||(!p8.2))||(decide (((r.usances.getD i2 default).days) < 1)))||(decide (((r.usances.getD i2 default).days) > 20000)))
 (.fin (.inl (.inl (.inl 1))))
 (.r 8 (.andl (.o [.nrm (zsg kZ.E r.usances 0 i2)]) (.pt (0≤(i2:Int)∧(i2:Int)≤((r.usances.length:Nat):Int)) (kZ.E.lens r.usances))) fun _ =>
 .bind true (fun _=>True)
 (.loop (default:Sum (Sum (Sum (Sum (Int) (Unit)) (Nat)) (Int × Int × kZ × Int × (List zk) × Int × Bool × Bool × Bool × Bool × Bool × Bool × Bool × Bool × (List kZ) × Int × (List kZ) × Int × Int × Bool)) (Int × Bool)) (fun i7=>i7≤(uZ r.usances 0 i2).length) (fun i7=>(uZ r.usances 0 i2).length - i7) (0:Nat)
 (fun (i7:Nat)=>⟨[(50,iv (i7:Int))],[]⟩) fun i7 =>
 .bnd 48 0 ((uZ r.usances 0 i2).length) <|
 .br (decide ((i7:Int) < (((uZ r.usances 0 i2).length:Nat):Int)))
 (.r 10 (.p (ixP (i7:Int) ((uZ r.usances 0 i2).length))) fun _ =>
 .br (((((uZ r.usances 0 i2).getD i7 default).from_) == ((r.usances.getD i2 default).from_))&&((((uZ r.usances 0 i2).getD i7 default).to_) == ((r.usances.getD i2 default).to_)))
 (.fin (.inl (.inl (.inl (.inl (.inl 5))))))
 (.r 13 .z fun _ =>
 .wi 50 (w64 ((i7:Int)+1)) ((i7+1:Nat):Int) <|
 .fin (.inr (i7+1))))
 (.fin (.inl (.inr ((i7:Int),decide ((i7:Int) < (((uZ r.usances 0 i2).length:Nat):Int)))))))
 (fun (b6:Int × Bool)=>⟨[(50,iv b6.1),(51,bv b6.2)],[]⟩) fun b6 =>
 .fin (.inr ((i2:Int),(i2:Int),r.usances.getD i2 default,(r.usances.getD i2 default).from_,r.cities,((r.cities.length:Nat):Int),p8.1,!p8.1,!p8.1,(!p8.1)||(!p8.2),(!p8.1)||(!p8.2),((!p8.1)||(!p8.2))||(decide (((r.usances.getD i2 default).days) < 1)),((!p8.1)||(!p8.2))||(decide (((r.usances.getD i2 default).days) < 1)),(((!p8.1)||(!p8.2))||(decide (((r.usances.getD i2 default).days) < 1)))||(decide (((r.usances.getD i2 default).days) > 20000)),r.usances,(i2:Int),uZ r.usances 0 i2,(((uZ r.usances 0 i2).length:Nat):Int),b6.1,b6.2))))
 (fun (b3:Int × Int × kZ × Int × (List zk) × Int × Bool × Bool × Bool × Bool × Bool × Bool × Bool × Bool × (List kZ) × Int × (List kZ) × Int × Int × Bool)=>⟨[(3,iv b3.1),(16,iv b3.2.1),(18,av b3.2.2.1.cells),(20,iv b3.2.2.2.1),(22,lv zk.cells b3.2.2.2.2.1),(23,iv b3.2.2.2.2.2.1),(24,bv b3.2.2.2.2.2.2.1),(25,bv b3.2.2.2.2.2.2.2.1),(26,bv b3.2.2.2.2.2.2.2.2.1),(34,bv b3.2.2.2.2.2.2.2.2.2.1),(35,bv b3.2.2.2.2.2.2.2.2.2.2.1),(39,bv b3.2.2.2.2.2.2.2.2.2.2.2.1),(40,bv b3.2.2.2.2.2.2.2.2.2.2.2.2.1),(44,bv b3.2.2.2.2.2.2.2.2.2.2.2.2.2.1),(46,lv kZ.cells b3.2.2.2.2.2.2.2.2.2.2.2.2.2.2.1),(47,iv b3.2.2.2.2.2.2.2.2.2.2.2.2.2.2.2.1),(48,lv kZ.cells b3.2.2.2.2.2.2.2.2.2.2.2.2.2.2.2.2.1),(49,iv b3.2.2.2.2.2.2.2.2.2.2.2.2.2.2.2.2.2.1),(50,iv b3.2.2.2.2.2.2.2.2.2.2.2.2.2.2.2.2.2.2.1),(51,bv b3.2.2.2.2.2.2.2.2.2.2.2.2.2.2.2.2.2.2.2)],[]⟩) fun _ =>
 .r 14 .z fun _ =>
 .wi 14 (w64 ((i2:Int)+1)) ((i2+1:Nat):Int) <|
 .fin (.inr (i2+1)))
 (.fin (.inl (.inr ()))))
 (fun (_:Unit)=>⟨[],[]⟩) fun _ =>
 .fin 0)
def zhT (r:jg):Int:=(gQ r).val
theorem zbN (r:jg):(gQ r).obs (fun _=>True):=by
 unfold gQ
 try simp only [kb,vM]
 exact okG
def ZR (r:jg):Ctr (Int):=kk tok mixed Tryz.func97 [av r.cells] (fun x=>iv x) true (gQ r) (zhT r) (fun (_:True)=>zbN r)
def yI (r:jg):Sk (Int) :=
 .br (decide (((r.rates.length:Nat):Int) > 100))
 (.fin 6)
 (.bind true (fun _=>True)
 (.loop (default:Sum (Int) (Unit)) (fun i2=>i2≤r.rates.length) (fun i2=>r.rates.length - i2) (0:Nat)
 (fun (i2:Nat)=>⟨[(14,iv (i2:Int))],[]⟩) fun i2 =>
 .bnd 12 0 r.rates.length <|
 .br (decide ((i2:Int) < ((r.rates.length:Nat):Int)))
 (.r 5 (.p (ixP (i2:Int) r.rates.length)) fun _ =>
 .r 6 (.dep ((kb ((r.rates.getD i2 default).from_) ((r.currencies.length:Nat):Int)).c) fun x3=>.dep (.wh (!x3) false ((kb ((r.rates.getD i2 default).to_) ((r.currencies.length:Nat):Int)).c)) fun x4=>.dep (.wh (((!x3)||(!x4))||(((r.rates.getD i2 default).from_) == ((r.rates.getD i2 default).to_))) false ((kb (w64 (((r.rates.getD i2 default).num) - 1)) 1073741824).c)) fun x5=>.dep (.wh ((((!x3)||(!x4))||(((r.rates.getD i2 default).from_) == ((r.rates.getD i2 default).to_)))||(!x5)) false ((kb (w64 (((r.rates.getD i2 default).den) - 1)) 1073741824).c)) fun x6=>.wh (((((!x3)||(!x4))||(((r.rates.getD i2 default).from_) == ((r.rates.getD i2 default).to_)))||(!x5))||(!x6)) false ((kb ((r.rates.getD i2 default).since) 100001).c)) fun p8 =>
 .br ((((((!p8.1)||(!p8.2.1))||(((r.rates.getD i2 default).from_) == ((r.rates.getD i2 default).to_)))||(!p8.2.2.1))||(!p8.2.2.2.1))||(!p8.2.2.2.2))
 (.fin (.inl (.inl 1)))
 (.r 8 .z fun _ =>
 .wi 14 (w64 ((i2:Int)+1)) ((i2+1:Nat):Int) <|
 .fin (.inr (i2+1))))
 (.fin (.inl (.inr ()))))
 (fun (_:Unit)=>⟨[],[]⟩) fun _ =>
 .br (decide (((r.halts.length:Nat):Int) > 20))
 (.fin 6)
 (.bind true (fun b9=>r.HaltOK)
 (.loop (default:Sum (Int) (Unit)) (fun i10=>(∀ i,i < i10→(r.halts.getD i default).to_≤100000)∧i10≤r.halts.length) (fun i10=>r.halts.length - i10) (0:Nat)
 (fun (i10:Nat)=>⟨[(69,iv (i10:Int))],[]⟩) fun i10 =>
 .bnd 67 0 r.halts.length <|
 .br (decide ((i10:Int) < ((r.halts.length:Nat):Int)))
 (.r 13 (.p (ixP (i10:Int) r.halts.length)) fun _ =>
 .r 14 ((kb ((r.halts.getD i10 default).order) ((r.orders.length:Nat):Int)).c) fun x11 =>
 .br ((((!x11)||(decide (((r.halts.getD i10 default).from_) < 0)))||(decide (((r.halts.getD i10 default).from_) > ((r.halts.getD i10 default).to_))))||(decide (((r.halts.getD i10 default).to_) > 100000)))
 (.fin (.inl (.inl 1)))
 (.r 16 .z fun _ =>
 .wi 69 (w64 ((i10:Int)+1)) ((i10+1:Nat):Int) <|
 .fin (.inr (i10+1))))
 (.fin (.inl (.inr ()))))
 (fun (_:Unit)=>⟨[],[]⟩) fun _ =>
 .fin 0))
def zgv (r:jg):Int:=(yI r).val
theorem zgp (r:jg):(yI r).pst (fun (x:Int)=>x=0→r.HaltOK):=by
 unfold yI
 try simp only [kb,vM,jg.HaltOK]
 exact okQ
theorem zeG (r:jg):(fun (x:Int)=>x=0→r.HaltOK) (zgv r):=have h:=Sk.pval _ (zgp r); h
theorem zif (r:jg):(yI r).obs (fun _=>True):=by
 unfold yI
 try simp only [kb,vM,jg.HaltOK]
 exact okG
def Xc (r:jg):Ctr (Int):=kk tok mixed Tryz.func98 [av r.cells] (fun x=>iv x) true (yI r) (zgv r) (fun (_:True)=>zif r) (fun (x:Int)=>x=0→r.HaltOK) (zeG r)
def uK (r:jg):Sk (Int) :=
 .r 1 ((Gd r).c) fun x1 =>
 .r 2 ((Vj r.currencies 8).c) fun x2 =>
 .br (x2 != 0)
 (.fin x2)
 (.r 5 ((Vg x1.1 40 r).c) fun x3 =>
 .br (x3 != 0)
 (.fin x3)
 (.br (decide (((r.groups.length:Nat):Int) > 20))
 (.fin 6)
 (.bind true (fun _=>True)
 (.loop (default:Sum (Int) (Unit)) (fun i5=>i5≤r.groups.length) (fun i5=>r.groups.length - i5) (0:Nat)
 (fun (i5:Nat)=>⟨[(38,iv (i5:Int))],[]⟩) fun i5 =>
 .bnd 36 0 r.groups.length <|
 .br (decide ((i5:Int) < ((r.groups.length:Nat):Int)))
 (.r 12 (.p (ixP (i5:Int) r.groups.length)) fun _ =>
 .r 13 ((kb ((r.groups.getD i5 default).grade) 10).c) fun x6 =>
 .br (!x6)
 (.fin (.inl (.inl 1)))
 (.r 15 .z fun _ =>
 .wi 38 (w64 ((i5:Int)+1)) ((i5+1:Nat):Int) <|
 .fin (.inr (i5+1))))
 (.fin (.inl (.inr ()))))
 (fun (_:Unit)=>⟨[],[]⟩) fun _ =>
 .r 16 ((ZT x1.2.1 200 r).c) fun x7 =>
 .br (x7 != 0)
 (.fin x7)
 (.r 19 ((Vd x1.2.2 20 r).c) fun x8 =>
 .br (x8 != 0)
 (.fin x8)
 (.r 22 ((ZR r).c) fun x9 =>
 .br (x9 != 0)
 (.fin x9)
 (.r 25 ((Xc r).c) fun x10 =>
 .fin x10))))))
def zc8 (r:jg):Int:=(uK r).val
theorem zd3 (r:jg):(uK r).pst (fun (x:Int)=>x=0→r.HaltOK):=by
 unfold uK
 try simp only [Vj,Vg,ZT,Vd,kb,Gd,Xc,ZR,vM,jh.Small,jg.Small,jg.HaltOK]
 exact okQ
theorem zcX (r:jg):(fun (x:Int)=>x=0→r.HaltOK) (zc8 r):=have h:=Sk.pval _ (zd3 r); h
theorem zgm (r:jg) (hr:r.Small):(uK r).obs (fun _=>True):=by
 simp only [jh.Small,jg.Small,jg.HaltOK] at hr
 unfold uK
 try simp only [Vj,Vg,ZT,Vd,kb,Gd,Xc,ZR,vM,jh.Small,jg.Small,jg.HaltOK]
 exact okG
def yT (r:jg):Ctr (Int):=kk tok mixed Tryz.func62 [av r.cells] (fun x=>iv x) true (uK r) (zc8 r) (fun (h:(r.Small))=>zgm r h) (fun (x:Int)=>x=0→r.HaltOK) (zcX r)
def Jf (n:Int) (length:Int):Sk (Bool) :=
 .fin ((decide (n≥0))&&(decide (n < length)))
def Bj (n:Int) (length:Int):Bool:=(Jf n length).val
theorem GY (n:Int) (length:Int):Bj n length=((decide (n≥0))&&(decide (n < length))):=rfl
theorem zcT (n:Int) (length:Int):(Jf n length).obs (fun _=>True):=by
 unfold Jf
 exact okE
def qm (n:Int) (length:Int):Ctr (Bool):=kk tok mixed Tryz.func63 [iv n,iv length] (fun x=>bv x) true (Jf n length) (Bj n length) (fun (_:True)=>zcT n length)
def gY (b:ua):Sk (Bool) :=
 .bind false (fun _=>True)
 (.br (b.tenor.kind == 0)
 (.fin (.inr (b.tenor.kind == 0)))
 (.fin (.inr (b.tenor.kind == 4))))
 (fun (b1:Bool)=>⟨[(8,bv b1)],[]⟩) fun b1 =>
 .br b1
 (.fin ((b.tenor.n == 0)&&(b.tenor.unit == 0)))
 (.bind false (fun _=>True)
 (.br (b.tenor.kind == 1)
 (.fin (.inr (b.tenor.kind == 1)))
 (.fin (.inr (b.tenor.kind == 2))))
 (fun (b2:Bool)=>⟨[(19,bv b2)],[]⟩) fun b2 =>
 .br b2
 (.fin (((decide (b.tenor.n≥1))&&(decide (b.tenor.n≤400)))&&((b.tenor.unit == 0)||(b.tenor.unit == 1))))
 (.br (b.tenor.kind == 3)
 (.fin (((decide (b.tenor.n≥b.day))&&(decide (b.tenor.n≤100000)))&&(b.tenor.unit == 0)))
 (.fin false)))
def zhV (b:ua):Bool:=(gY b).val
theorem zbV (b:ua):(gY b).obs (fun _=>True):=by
 unfold gY
 exact okE
def Vi (b:ua):Ctr (Bool):=kk tok mixed Tryz.func64 [av b.cells] (fun x=>bv x) true (gY b) (zhV b) (fun (_:True)=>zbV b)
def JP (r:jg) (from_:Int) (to_:Int):Sk (Int × Int) :=
 .bind true (fun _=>True)
 (.loop (default:Sum (Int × Int) (Unit)) (fun i2=>i2≤r.usances.length) (fun i2=>r.usances.length - i2) (0:Nat)
 (fun (i2:Nat)=>⟨[(13,iv (i2:Int))],[]⟩) fun i2 =>
 .bnd 11 0 r.usances.length <|
 .br (decide ((i2:Int) < ((r.usances.length:Nat):Int)))
 (.r 3 (.p (ixP (i2:Int) r.usances.length)) fun _ =>
 .br ((((r.usances.getD i2 default).from_) == from_)&&(((r.usances.getD i2 default).to_) == to_))
 (.fin (.inl (.inl ((r.usances.getD i2 default).days,0))))
 (.r 6 .z fun _ =>
 .wi 13 (w64 ((i2:Int)+1)) ((i2+1:Nat):Int) <|
 .fin (.inr (i2+1))))
 (.fin (.inl (.inr ()))))
 (fun (_:Unit)=>⟨[],[]⟩) fun _ =>
 .fin (0,4)
def zkl (r:jg) (from_:Int) (to_:Int):Int × Int:=(JP r from_ to_).val
theorem zdA (r:jg) (from_:Int) (to_:Int):(JP r from_ to_).obs (fun _=>True):=by
 unfold JP
 exact okD
def gG (r:jg) (from_:Int) (to_:Int):Ctr (Int × Int):=kk tok mixed Tryz.func65 [av r.cells,iv from_,iv to_] (fun x=>.tup [iv x.1,iv x.2]) true (JP r from_ to_) (zkl r from_ to_) (fun (_:True)=>zdA r from_ to_)
end
end Go.Proofs.YtilbddpghnnmhaaGreatDoor
