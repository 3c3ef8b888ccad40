/- Functions, as sketches. -/
import Derived.Test.YtbcnlpcaajpclaaGreatDoorRcT
namespace Go.Proofs.YtbcnlpcaajpclaaGreatDoor
open Go Go.Av
set_option linter.unusedSimpArgs false
set_option linter.unusedVariables false
set_option maxHeartbeats 1000000
set_option maxRecDepth 100000
structure City where
 name:ByteArray
 order:Int
 currency:Int
 rest:List Int
 feasts:List Int
 shut:List Int
 deriving Inhabited
def City.cells (c:City):List D:=[.v (.string c.name),dI c.order,dI c.currency,slD intC c.rest,slD intC c.feasts,slD intC c.shut]
def City.E:Enc City:=⟨City.cells,6,fun _=>rfl,fun _=>rfl⟩
structure GroupX where
 grade:Int
 deriving Inhabited
def GroupX.cells (c:GroupX):List D:=[dI c.grade]
def GroupX.E:Enc GroupX:=⟨GroupX.cells,1,fun _=>rfl,fun _=>rfl⟩
structure Firm where
 name:ByteArray
 city:Int
 group:Int
 deriving Inhabited
def Firm.cells (c:Firm):List D:=[.v (.string c.name),dI c.city,dI c.group]
def Firm.E:Enc Firm:=⟨Firm.cells,3,fun _=>rfl,fun _=>rfl⟩
structure Choice where
 ask:Int
 by_:Int
 whole:Bool
 deriving Inhabited
def Choice.cells (c:Choice):List D:=[dI c.ask,dI c.by_,dB c.whole]
def Choice.E:Enc Choice:=⟨Choice.cells,3,fun _=>rfl,fun _=>rfl⟩
structure Term where
 op:Int
 n:Int
 args:List Term
instance:Inhabited Term:=⟨⟨default,default,default⟩⟩
mutual
def Term.argsR:Term→D
 | ⟨_,_,args⟩=>.sl args.length (Term.cellsF args)
def Term.cellsF:List Term→Nat→List D
 | [],_=>[]
 | x :: _,0=>[dI x.op,dI x.n,Term.argsR x]
 | _ :: r,i+1=>Term.cellsF r i
end
def Term.cellsR (x:Term):List D:=[dI x.op,dI x.n,Term.argsR x]
theorem Term.cellsF_at:∀ (l:List Term) (i:Nat),i < l.length→Term.cellsF l i=(l.getD i default).cellsR
 | [],i,h=>absurd h (by simp)
 | x :: r,0,_=>by simp [Term.cellsF,Term.cellsR]
 | x :: r,i+1,h=>by simpa [Term.cellsF] using Term.cellsF_at r i (by simpa using h)
def Term.cells (c:Term):List D:=[dI c.op,dI c.n,slD Term.cellsR c.args]
theorem Term.argsR_le (c:Term):DLe (Term.argsR c) (slD Term.cellsR c.args)∧DLe (slD Term.cellsR c.args) (Term.argsR c):=by
 obtain ⟨op,n,args⟩:=c
 unfold Term.argsR
 exact ⟨DLe.sl rfl (fun i hi=>Term.cellsF_at args i hi),DLe.sl rfl (fun i hi=>(Term.cellsF_at args i hi).symm)⟩
theorem Term.unroll (c:Term):CsLe c.cellsR c.cells:=.cons .rfl' (.cons .rfl' (.cons ((Term.argsR_le c).1) (.nil)))
def Term.E:Enc Term:=⟨Term.cellsR,3,fun _=>rfl,fun ⟨_,_,_⟩=>by unfold Term.cellsR; rfl⟩
mutual
def Term.depth:Term→Nat
 | ⟨_,_,args⟩=>Term.depthL args+1
def Term.depthL:List Term→Nat
 | []=>0
 | x :: r=>max x.depth (Term.depthL r)
end
theorem Term.depthL_at:∀ (l:List Term) (i:Nat),i < l.length→(l.getD i default).depth≤Term.depthL l
 | [],i,h=>absurd h (by simp)
 | x :: r,0,_=>by simp [Term.depthL]; omega
 | x :: r,i+1,h=>by
  have:=Term.depthL_at r i (by simpa using h)
  simp [Term.depthL] at this ⊢
  omega
theorem Term.depth_args (c:Term) (i:Nat) (h:i < c.args.length):(c.args.getD i default).depth < c.depth:=by
 obtain ⟨op,n,args⟩:=c
 have:=Term.depthL_at args i h
 simp only [Term.depth]
 omega
theorem Term.depth_pos (c:Term):0 < c.depth:=by
 obtain ⟨op,n,args⟩:=c
 simp only [Term.depth]
 omega
structure Rule where
 ask:Int
 term:Term
 deriving Inhabited
def Rule.cells (c:Rule):List D:=[dI c.ask]++c.term.cells
def Rule.E:Enc Rule:=⟨Rule.cells,4,fun _=>rfl,fun _=>rfl⟩
structure Order where
 name:ByteArray
 accepts:Bool
 choices:List Choice
 rules:List Rule
 deriving Inhabited
def Order.cells (c:Order):List D:=[.v (.string c.name),dB c.accepts,slD Choice.cells c.choices,slD Rule.cells c.rules]
def Order.E:Enc Order:=⟨Order.cells,4,fun _=>rfl,fun _=>rfl⟩
structure Usance where
 from_:Int
 to_:Int
 days:Int
 deriving Inhabited
def Usance.cells (c:Usance):List D:=[dI c.from_,dI c.to_,dI c.days]
def Usance.E:Enc Usance:=⟨Usance.cells,3,fun _=>rfl,fun _=>rfl⟩
structure RateX where
 from_:Int
 to_:Int
 num:Int
 den:Int
 since:Int
 deriving Inhabited
def RateX.cells (c:RateX):List D:=[dI c.from_,dI c.to_,dI c.num,dI c.den,dI c.since]
def RateX.E:Enc RateX:=⟨RateX.cells,5,fun _=>rfl,fun _=>rfl⟩
structure Halt where
 order:Int
 from_:Int
 to_:Int
 deriving Inhabited
def Halt.cells (c:Halt):List D:=[dI c.order,dI c.from_,dI c.to_]
def Halt.E:Enc Halt:=⟨Halt.cells,3,fun _=>rfl,fun _=>rfl⟩
structure Realm where
 currencies:List ByteArray
 cities:List City
 groups:List GroupX
 firms:List Firm
 orders:List Order
 usances:List Usance
 rates:List RateX
 halts:List Halt
 deriving Inhabited
def Realm.cells (c:Realm):List D:=[slD strC c.currencies,slD City.cells c.cities,slD GroupX.cells c.groups,slD Firm.cells c.firms,slD Order.cells c.orders,slD Usance.cells c.usances,slD RateX.cells c.rates,slD Halt.cells c.halts]
def Realm.E:Enc Realm:=⟨Realm.cells,8,fun _=>rfl,fun _=>rfl⟩
def Realm.Small (r:Realm):Prop:=r.currencies.length≤1000000∧r.cities.length≤1000000∧r.groups.length≤1000000∧r.firms.length≤1000000∧r.orders.length≤1000000∧r.usances.length≤1000000∧r.rates.length≤1000000∧r.halts.length≤1000000 ∧
 ∀ i,i < r.orders.length→(r.orders.getD i default).choices.length≤1000000∧(r.orders.getD i default).rules.length≤1000000
def Realm.ByOK (r:Realm):Prop:=∀ i j,i < r.orders.length→j < (r.orders.getD i default).choices.length→0≤((r.orders.getD i default).choices.getD j default).by_∧((r.orders.getD i default).choices.getD j default).by_ < 5
def Realm.okB (r:Realm):Bool:=decide (r.currencies.length≤1000000)&&decide (r.cities.length≤1000000)&&decide (r.groups.length≤1000000)&&decide (r.firms.length≤1000000)&&decide (r.orders.length≤1000000)&&decide (r.usances.length≤1000000)&&decide (r.rates.length≤1000000)&&decide (r.halts.length≤1000000) &&
 r.orders.all fun o=>decide (o.choices.length≤1000000)&&decide (o.rules.length≤1000000)&&o.choices.all fun c=>decide (0≤c.by_)&&decide (c.by_ < 5)
theorem Realm.ok_of {r:Realm} (h:r.okB=true):r.Small∧r.ByOK:=by
 simp only [Realm.okB,Bool.and_eq_true,decide_eq_true_eq,List.all_eq_true] at h
 obtain ⟨⟨⟨⟨⟨⟨⟨⟨h1,h2⟩,h3⟩,h4⟩,h5⟩,h6⟩,h7⟩,h8⟩,h9⟩:=h
 exact ⟨⟨h1,h2,h3,h4,h5,h6,h7,h8,fun i hi=>(h9 _ (lget_mem hi _)).1⟩,fun i j hi hj=>(h9 _ (lget_mem hi _)).2 _ (lget_mem hj _)⟩
def Realm.HaltOK (r:Realm):Prop:=∀ i,i < r.halts.length→(r.halts.getD i default).to_≤100000
structure Tenor where
 kind:Int
 n:Int
 unit:Int
 deriving Inhabited
def Tenor.cells (c:Tenor):List D:=[dI c.kind,dI c.n,dI c.unit]
def Tenor.E:Enc Tenor:=⟨Tenor.cells,3,fun _=>rfl,fun _=>rfl⟩
structure Bill where
 drawer:Int
 drawee:Int
 payee:Int
 sum:Int
 currency:Int
 tenor:Tenor
 day:Int
 city:Int
 pay:Int
 need:Int
 rate:Int
 flags:Int
 parts:Int
 deriving Inhabited
def Bill.cells (c:Bill):List D:=[dI c.drawer,dI c.drawee,dI c.payee,dI c.sum,dI c.currency]++c.tenor.cells++[dI c.day,dI c.city,dI c.pay,dI c.need,dI c.rate,dI c.flags,dI c.parts]
def Bill.E:Enc Bill:=⟨Bill.cells,15,fun _=>rfl,fun _=>rfl⟩
structure Sign where
 kind:Int
 part:Int
 who:Int
 for_:Int
 to_:Int
 sum:Int
 day:Int
 city:Int
 flags:Int
 deriving Inhabited
def Sign.cells (c:Sign):List D:=[dI c.kind,dI c.part,dI c.who,dI c.for_,dI c.to_,dI c.sum,dI c.day,dI c.city,dI c.flags]
def Sign.E:Enc Sign:=⟨Sign.cells,9,fun _=>rfl,fun _=>rfl⟩
structure Alter where
 at_:Int
 sum:Int
 deriving Inhabited
def Alter.cells (c:Alter):List D:=[dI c.at_,dI c.sum]
def Alter.E:Enc Alter:=⟨Alter.cells,2,fun _=>rfl,fun _=>rfl⟩
structure ActX where
 kind:Int
 who:Int
 to_:Int
 part:Int
 at_:Int
 sum:Int
 day:Int
 city:Int
 form:Int
 deriving Inhabited
def ActX.cells (c:ActX):List D:=[dI c.kind,dI c.who,dI c.to_,dI c.part,dI c.at_,dI c.sum,dI c.day,dI c.city,dI c.form]
def ActX.E:Enc ActX:=⟨ActX.cells,9,fun _=>rfl,fun _=>rfl⟩
structure Fact where
 kind:Int
 at_:Int
 n:Int
 deriving Inhabited
def Fact.cells (c:Fact):List D:=[dI c.kind,dI c.at_,dI c.n]
def Fact.E:Enc Fact:=⟨Fact.cells,3,fun _=>rfl,fun _=>rfl⟩
structure File where
 bill:Bill
 signs:List Sign
 alters:List Alter
 acts:List ActX
 facts:List Fact
 deriving Inhabited
def File.cells (c:File):List D:=c.bill.cells++[slD Sign.cells c.signs,slD Alter.cells c.alters,slD ActX.cells c.acts,slD Fact.cells c.facts]
def File.E:Enc File:=⟨File.cells,19,fun _=>rfl,fun _=>rfl⟩
def File.Small (f:File):Prop:=f.signs.length≤1000000∧f.alters.length≤1000000∧f.acts.length≤1000000∧f.facts.length≤1000000
def Realm.FirmOK (r:Realm):Prop:=∀ i,i < r.firms.length→0≤(r.firms.getD i default).city∧(r.firms.getD i default).city < r.cities.length
def Realm.RateOK (r:Realm):Prop:=∀ i,i < r.rates.length→(1≤(r.rates.getD i default).num∧(r.rates.getD i default).num≤1073741824)∧1≤(r.rates.getD i default).den∧(r.rates.getD i default).den≤1073741824
abbrev SumP (n:Int):Prop:=0≤n∧n≤1099511627776
def File.SumOK (f:File):Prop:=SumP f.bill.sum∧(∀ q,q < f.alters.length→SumP (f.alters.getD q default).sum)∧(∀ q,q < f.signs.length→SumP (f.signs.getD q default).sum)∧∀ q,q < f.acts.length→SumP (f.acts.getD q default).sum
def FitOK (f:File) (q:Nat):Prop:=SumP (f.signs.getD q default).sum∧(0≤(f.signs.getD q default).kind∧(f.signs.getD q default).kind≤4)∧((f.signs.getD q default).kind=0↔q=0)∧((f.signs.getD q default).kind=3∨(f.signs.getD q default).kind=4→0≤(f.signs.getD q default).for_∧(f.signs.getD q default).for_ < (q:Int))
def SgnOK (r:Realm) (f:File) (q:Nat):Prop:=(0≤(f.signs.getD q default).who∧(f.signs.getD q default).who < r.firms.length)∧(q≠0→(f.signs.getD (q - 1) default).day≤(f.signs.getD q default).day)∧(f.signs.getD q default).day≤100000∧(q=0→(f.signs.getD q default).day=f.bill.day)∧(0≤(f.signs.getD q default).part∧(f.signs.getD q default).part≤f.bill.parts - 1)∧FitOK f q
def DoneOK (f:File) (q:Nat):Prop:=SumP (f.acts.getD q default).sum∧(f.bill.day≤(f.acts.getD q default).day∧(f.acts.getD q default).day≤100000)∧(q≠0→(f.acts.getD (q - 1) default).day≤(f.acts.getD q default).day)∧((f.acts.getD q default).kind=6→(0≤(f.acts.getD q default).at_∧(f.acts.getD q default).at_ < f.signs.length)∧(f.signs.getD (f.acts.getD q default).at_.toNat default).day≤(f.acts.getD q default).day∧(f.signs.getD (f.acts.getD q default).at_.toNat default).who=(f.acts.getD q default).who)
def BillR (r:Realm) (b:Bill):Prop:=(1≤b.sum∧b.sum≤1099511627776)∧(0≤b.pay∧b.pay < r.cities.length)∧(0≤b.day∧b.day≤100000)∧(1≤b.parts∧b.parts≤4)∧(0≤b.currency∧b.currency < r.currencies.length)
def RightF (r:Realm) (f:File):Prop:=BillR r f.bill∧(f.signs.length≤40∧f.signs.length≠0∧f.alters.length≤4∧f.acts.length≤100∧f.facts.length≤200)∧(∀ q,q < f.signs.length→SgnOK r f q)∧(∀ q,q < f.alters.length→SumP (f.alters.getD q default).sum)∧∀ q,q < f.acts.length→DoneOK f q
theorem RightF.small {r:Realm} {f:File} (h:RightF r f):f.Small:=by have:=h.2.1; unfold File.Small; omega
theorem RightF.sums {r:Realm} {f:File} (h:RightF r f):f.SumOK:=⟨⟨by have:=h.1.1; omega,h.1.1.2⟩,h.2.2.2.1,fun q hq=>(h.2.2.1 q hq).2.2.2.2.2.1,fun q hq=>(h.2.2.2.2 q hq).1⟩
theorem all_getD {α:Type} [Inhabited α] {l:List α} {P:α→Prop}:(∀ q,q < l.length→P (l.getD q default))↔∀ x,x∈l→P x:=by
 constructor
 ·intro h x hx
  obtain ⟨i,hi,rfl⟩:=List.getElem_of_mem hx
  have:=h i hi
  rwa [show l.getD i default=l[i] by simp [List.getD,hi]] at this
 ·exact fun h q hq=>h _ (lget_mem hq _)
def ToQ (r:Realm) (f:File) (q:Nat):Prop:=(f.signs.getD q default).to_ = -1∨(0≤(f.signs.getD q default).to_∧(f.signs.getD q default).to_ < r.firms.length)
def ToF (r:Realm) (f:File):Prop:=(f.bill.payee = -1∨(0≤f.bill.payee∧f.bill.payee < r.firms.length))∧∀ q,q < f.signs.length→ToQ r f q
noncomputable def L47_example_sk:Sk (Realm) :=
 .r 2 (.andl (.o [.pur 6]) (.o [.nrm (litN Rule.E [({ ask:=19,term:=({ op:=2,n:=15,args:=[] }:Term) }:Rule)] [dI 19,dI 2,dI 15,.v (.slice none 0 0)] (by kernel_rfl))])) fun _ =>
 .r 3 (.andl (.o [.nrm (litC strE [(⟨#[102,114,97,110,99]⟩:ByteArray),(⟨#[112,111,117,110,100]⟩:ByteArray)])]) (.andl (.o [.nrm (litN City.E [({ name:=(⟨#[76,121,111,110]⟩:ByteArray),order:=0,currency:=0,rest:=[],feasts:=[],shut:=[] }:City)] [.v (.string (⟨#[76,121,111,110]⟩:ByteArray)),dI 0,dI 0,.v (.slice none 0 0),.v (.slice none 0 0),.v (.slice none 0 0)] (by kernel_rfl))]) (.andl (.o [.nrm (litC GroupX.E [({ grade:=0 }:GroupX)])]) (.andl (.o [.nrm (litC Firm.E [({ name:=(⟨#[97]⟩:ByteArray),city:=0,group:=0 }:Firm),({ name:=(⟨#[98]⟩:ByteArray),city:=0,group:=0 }:Firm),({ name:=(⟨#[99]⟩:ByteArray),city:=0,group:=0 }:Firm)])]) (.andl (.o [.nrm (litN Order.E [({ name:=(⟨#[103,101,110,101,118,97]⟩:ByteArray),accepts:=false,choices:=[],rules:=[] }:Order),({ name:=(⟨#[108,111,110,100,111,110]⟩:ByteArray),accepts:=false,choices:=[],rules:=[({ ask:=19,term:=({ op:=2,n:=15,args:=[] }:Term) }:Rule)] }:Order)] [.v (.string (⟨#[103,101,110,101,118,97]⟩:ByteArray)),dB false,.v (.slice none 0 0),.v (.slice none 0 0),.v (.string (⟨#[108,111,110,100,111,110]⟩:ByteArray)),dB false,.v (.slice none 0 0),slD Rule.cells [({ ask:=19,term:=({ op:=2,n:=15,args:=[] }:Term) }:Rule)]] (by kernel_rfl))]) (.o [.nrm (litC RateX.E [({ from_:=1,to_:=0,num:=2,den:=1,since:=0 }:RateX)])])))))) fun _ =>
 .fin ({ currencies:=[(⟨#[102,114,97,110,99]⟩:ByteArray),(⟨#[112,111,117,110,100]⟩:ByteArray)],cities:=[({ name:=(⟨#[76,121,111,110]⟩:ByteArray),order:=0,currency:=0,rest:=[],feasts:=[],shut:=[] }:City)],groups:=[({ grade:=0 }:GroupX)],firms:=[({ name:=(⟨#[97]⟩:ByteArray),city:=0,group:=0 }:Firm),({ name:=(⟨#[98]⟩:ByteArray),city:=0,group:=0 }:Firm),({ name:=(⟨#[99]⟩:ByteArray),city:=0,group:=0 }:Firm)],orders:=[({ name:=(⟨#[103,101,110,101,118,97]⟩:ByteArray),accepts:=false,choices:=[],rules:=[] }:Order),({ name:=(⟨#[108,111,110,100,111,110]⟩:ByteArray),accepts:=false,choices:=[],rules:=[({ ask:=19,term:=({ op:=2,n:=15,args:=[] }:Term) }:Rule)] }:Order)],usances:=[],rates:=[({ from_:=1,to_:=0,num:=2,den:=1,since:=0 }:RateX)],halts:=[] }:Realm)
noncomputable def L47_example:Realm:=(L47_example_sk).val
theorem L47_example_pst:(L47_example_sk).pst (fun (x:Realm)=>x.Small∧x.ByOK):=by
 refine Sk.pst_of _ ?_
 have h:L47_example.okB=true:=by kernel_rfl
 have h2:=Realm.ok_of h
 unfold L47_example_sk
 simp only [Sk.pstq,leafB,leafJ,Cal.z,Cal.p,Cal.t,Cal.pt,Cal.o,Cal.and,Cal.andl,Cal.andr,Cal.wh,Cal.dep,Cal.depr,Ctr.c,kk,Ctr.nil,Ctr.nilc,CtrO.c,CtrO.nil,implies_true,forall_const]
 exact h2
theorem L47_example_post:(fun (x:Realm)=>x.Small∧x.ByOK) (L47_example):=have h:=Sk.pval _ (L47_example_pst); h
theorem L47_example_ok:(L47_example_sk).obs (fun _=>True):=by
 unfold L47_example_sk
 try simp only [File.Small,Realm.Small,Realm.ByOK]
 exact okE
noncomputable def L47_example_k:Ctr (Realm):=kk tok mixed Tryz.func47 [] (fun x=>av x.cells) false (L47_example_sk) (L47_example) (fun (_:True)=>L47_example_ok) (fun (x:Realm)=>x.Small∧x.ByOK) (L47_example_post)
noncomputable def L47_papers_sk:Sk (File) :=
 .r 2 (.andl (.o [.nrm (litC Sign.E [({ kind:=0,part:=0,who:=0,for_:=(-1),to_:=(-1),sum:=0,day:=2,city:=0,flags:=0 }:Sign),({ kind:=1,part:=0,who:=1,for_:=(-1),to_:=(-1),sum:=120,day:=3,city:=0,flags:=0 }:Sign)])]) (.o [.nrm (litC Fact.E [({ kind:=0,at_:=0,n:=1 }:Fact)])])) fun _ =>
 .fin ({ bill:=({ drawer:=0,drawee:=1,payee:=2,sum:=120,currency:=0,tenor:=({ kind:=3,n:=10,unit:=0 }:Tenor),day:=2,city:=0,pay:=0,need:=(-1),rate:=0,flags:=1,parts:=1 }:Bill),signs:=[({ kind:=0,part:=0,who:=0,for_:=(-1),to_:=(-1),sum:=0,day:=2,city:=0,flags:=0 }:Sign),({ kind:=1,part:=0,who:=1,for_:=(-1),to_:=(-1),sum:=120,day:=3,city:=0,flags:=0 }:Sign)],alters:=[],acts:=[],facts:=[({ kind:=0,at_:=0,n:=1 }:Fact)] }:File)
noncomputable def L47_papers:File:=(L47_papers_sk).val
theorem L47_papers_pst:(L47_papers_sk).pst (fun (x:File)=>x.Small):=by
 refine Sk.pst_of _ ?_
 unfold L47_papers_sk
 simp only [Sk.pstq,Sk.isLoop,reduceCtorEq,ON,kk,File.Small,Realm.Small,maxLen]
 all_goals (repeat' first | assumption | (apply And.intro) | (intro h))
 all_goals first | trivial | (simp; done) | (unfold File.Small; simp; done)
theorem L47_papers_post:(fun (x:File)=>x.Small) (L47_papers):=have h:=Sk.pval _ (L47_papers_pst); h
theorem L47_papers_ok:(L47_papers_sk).obs (fun _=>True):=by
 unfold L47_papers_sk
 try simp only [File.Small,Realm.Small]
 exact okE
noncomputable def L47_papers_k:Ctr (File):=kk tok mixed Tryz.func48 [] (fun x=>av x.cells) false (L47_papers_sk) (L47_papers) (fun (_:True)=>L47_papers_ok) (fun (x:File)=>x.Small) (L47_papers_post)
structure Claim where
 debtor:Int
 creditor:Int
 part:Int
 sign:Int
 by_:Int
 turn:Int
 sum:Int
 currency:Int
 state:Int
 deriving Inhabited
def Claim.cells (c:Claim):List D:=[dI c.debtor,dI c.creditor,dI c.part,dI c.sign,dI c.by_,dI c.turn,dI c.sum,dI c.currency,dI c.state]
def Claim.E:Enc Claim:=⟨Claim.cells,9,fun _=>rfl,fun _=>rfl⟩
structure Judgment where
 court:Int
 bill:Int
 sign:Int
 debtor:Int
 creditor:Int
 sum:Int
 currency:Int
 day:Int
 deriving Inhabited
def Judgment.cells (c:Judgment):List D:=[dI c.court,dI c.bill,dI c.sign,dI c.debtor,dI c.creditor,dI c.sum,dI c.currency,dI c.day]
def Judgment.E:Enc Judgment:=⟨Judgment.cells,8,fun _=>rfl,fun _=>rfl⟩
noncomputable def recognize_Of_sk (forum:Int) (bill:Int) (c_:Claim) (day:Int):Sk (Judgment) :=
 .fin ({ court:=forum,bill:=bill,sign:=c_.sign,debtor:=c_.debtor,creditor:=c_.creditor,sum:=c_.sum,currency:=c_.currency,day:=day }:Judgment)
noncomputable def recognize_Of (forum:Int) (bill:Int) (c_:Claim) (day:Int):Judgment:=(recognize_Of_sk forum bill c_ day).val
theorem recognize_Of_ok (forum:Int) (bill:Int) (c_:Claim) (day:Int):(recognize_Of_sk forum bill c_ day).obs (fun _=>True):=by
 unfold recognize_Of_sk
 exact okE
noncomputable def recognize_Of_k (forum:Int) (bill:Int) (c_:Claim) (day:Int):Ctr (Judgment):=kk tok mixed Tryz.func20 [iv forum,iv bill,av c_.cells,iv day] (fun x=>av x.cells) true (recognize_Of_sk forum bill c_ day) (recognize_Of forum bill c_ day) (fun (_:True)=>recognize_Of_ok forum bill c_ day)
structure Receipt where
 bill:Int
 from_:Int
 to_:Int
 sum:Int
 currency:Int
 day:Int
 deriving Inhabited
def Receipt.cells (c:Receipt):List D:=[dI c.bill,dI c.from_,dI c.to_,dI c.sum,dI c.currency,dI c.day]
def Receipt.E:Enc Receipt:=⟨Receipt.cells,6,fun _=>rfl,fun _=>rfl⟩
noncomputable def recognize_within_sk (i:Int) (n:Int):Sk (Bool) :=
 .fin ((decide (i≥0))&&(decide (i < n)))
noncomputable def recognize_within (i:Int) (n:Int):Bool:=(recognize_within_sk i n).val
theorem recognize_within_eq (i:Int) (n:Int):recognize_within i n=((decide (i≥0))&&(decide (i < n))):=rfl
theorem recognize_within_ok (i:Int) (n:Int):(recognize_within_sk i n).obs (fun _=>True):=by
 unfold recognize_within_sk
 exact okE
noncomputable def recognize_within_k (i:Int) (n:Int):Ctr (Bool):=kk tok mixed Tryz.func54 [iv i,iv n] (fun x=>bv x) true (recognize_within_sk i n) (recognize_within i n) (fun (_:True)=>recognize_within_ok i n)
noncomputable def record_within_sk (i:Int) (n:Int):Sk (Bool) :=
 .fin ((decide (i≥0))&&(decide (i < n)))
noncomputable def record_within (i:Int) (n:Int):Bool:=(record_within_sk i n).val
theorem record_within_eq (i:Int) (n:Int):record_within i n=((decide (i≥0))&&(decide (i < n))):=rfl
theorem record_within_ok (i:Int) (n:Int):(record_within_sk i n).obs (fun _=>True):=by
 unfold record_within_sk
 exact okE
noncomputable def record_within_k (i:Int) (n:Int):Ctr (Bool):=kk tok mixed Tryz.func34 [iv i,iv n] (fun x=>bv x) true (record_within_sk i n) (record_within i n) (fun (_:True)=>record_within_ok i n)
noncomputable def record_At_sk (f:File) (day:Int):Sk (File) :=
 .bind true (fun b1=>b1.length≤f.signs.length)
 (.loop (default:Sum (File) ((List Sign))) (fun i2=>i2.2.length≤i2.1∧i2.1≤f.signs.length) (fun i2=>f.signs.length - i2.1) ((0,[]):Nat × (List Sign))
 (fun (i2:Nat × (List Sign))=>⟨[(20,iv (i2.1:Int))],[(100002,rowB 91 9 Sign.cells i2.2),(5,.box (f.bill.cells.map .d++[ow 100002 i2.2]++[nv,nv,nv]))]⟩) fun i2 =>
 .bnd 18 0 f.signs.length <|
 .br (decide ((i2.1:Int) < ((f.signs.length:Nat):Int)))
 (.r 4 (.p (ixP (i2.1:Int) f.signs.length)) fun _ =>
 .br (decide (((f.signs.getD i2.1 default).day) > day))
 (.fin (.inl (.inr i2.2)))
 (.r 6 (.andl (.o [.nrm (litC Sign.E [f.signs.getD i2.1 default])]) (.andl (.o [.nrm (catC Sign.E i2.2 [f.signs.getD i2.1 default])]) (.andl (.t (Sign.E.ones [f.signs.getD i2.1 default])) (.p (szP i2.2.length [f.signs.getD i2.1 default].length 72))))) fun _ =>
 .r 7 .z fun _ =>
 .wi 20 (w64 ((i2.1:Int)+1)) ((i2.1+1:Nat):Int) <|
 .fin (.inr (i2.1+1,i2.2++[f.signs.getD i2.1 default]))))
 (.fin (.inl (.inr i2.2))))
 (fun (b1:(List Sign))=>⟨[],[(100001,rowB 91 9 Sign.cells b1),(5,.box (f.bill.cells.map .d++[ow 100001 b1]++[nv,nv,nv]))]⟩) fun b1 =>
 .bind true (fun b3=>b3.length≤f.acts.length)
 (.loop (default:Sum (File) ((List ActX))) (fun i4=>i4.2.length≤i4.1∧i4.1≤f.acts.length) (fun i4=>f.acts.length - i4.1) ((0,[]):Nat × (List ActX))
 (fun (i4:Nat × (List ActX))=>⟨[(38,iv (i4.1:Int))],[(100005,rowB 50 9 ActX.cells i4.2),(5,.box (f.bill.cells.map .d++[ow 100001 b1]++[nv,ow 100005 i4.2]++[nv]))]⟩) fun i4 =>
 .bnd 36 0 f.acts.length <|
 .br (decide ((i4.1:Int) < ((f.acts.length:Nat):Int)))
 (.r 10 (.p (ixP (i4.1:Int) f.acts.length)) fun _ =>
 .br (decide (((f.acts.getD i4.1 default).day) > day))
 (.fin (.inl (.inr i4.2)))
 (.r 12 (.andl (.o [.nrm (litC ActX.E [f.acts.getD i4.1 default])]) (.andl (.o [.nrm (catC ActX.E i4.2 [f.acts.getD i4.1 default])]) (.andl (.t (ActX.E.ones [f.acts.getD i4.1 default])) (.p (szP i4.2.length [f.acts.getD i4.1 default].length 72))))) fun _ =>
 .r 13 .z fun _ =>
 .wi 38 (w64 ((i4.1:Int)+1)) ((i4.1+1:Nat):Int) <|
 .fin (.inr (i4.1+1,i4.2++[f.acts.getD i4.1 default]))))
 (.fin (.inl (.inr i4.2))))
 (fun (b3:(List ActX))=>⟨[],[(100004,rowB 50 9 ActX.cells b3),(5,.box (f.bill.cells.map .d++[ow 100001 b1]++[nv,ow 100004 b3]++[nv]))]⟩) fun b3 =>
 .bind true (fun b5=>b5.length≤f.alters.length)
 (.loop (default:Sum (File) ((List Alter))) (fun i6=>i6.2.length≤i6.1∧i6.1≤f.alters.length) (fun i6=>f.alters.length - i6.1) ((0,[]):Nat × (List Alter))
 (fun (i6:Nat × (List Alter))=>⟨[(56,iv (i6.1:Int))],[(100008,rowB 93 2 Alter.cells i6.2),(5,.box (f.bill.cells.map .d++[ow 100001 b1,ow 100008 i6.2,ow 100004 b3]++[nv]))]⟩) fun i6 =>
 .bnd 54 0 f.alters.length <|
 .br (decide ((i6.1:Int) < ((f.alters.length:Nat):Int)))
 (.r 16 (.p (ixP (i6.1:Int) f.alters.length)) fun _ =>
 .br (decide (((f.alters.getD i6.1 default).at_)≤((b1.length:Nat):Int)))
 (.r 18 (.andl (.o [.nrm (litC Alter.E [f.alters.getD i6.1 default])]) (.andl (.o [.nrm (catC Alter.E i6.2 [f.alters.getD i6.1 default])]) (.andl (.t (Alter.E.ones [f.alters.getD i6.1 default])) (.p (szP i6.2.length [f.alters.getD i6.1 default].length 16))))) fun _ =>
 .r 19 .z fun _ =>
 .wi 56 (w64 ((i6.1:Int)+1)) ((i6.1+1:Nat):Int) <|
 .fin (.inr (i6.1+1,i6.2++[f.alters.getD i6.1 default])))
 (.r 19 .z fun _ =>
 .wi 56 (w64 ((i6.1:Int)+1)) ((i6.1+1:Nat):Int) <|
 .fin (.inr (i6.1+1,i6.2))))
 (.fin (.inl (.inr i6.2))))
 (fun (b5:(List Alter))=>⟨[],[(100007,rowB 93 2 Alter.cells b5),(5,.box (f.bill.cells.map .d++[ow 100001 b1,ow 100007 b5,ow 100004 b3]++[nv]))]⟩) fun b5 =>
 .bind true (fun b7=>b7.length≤f.facts.length)
 (.loop (default:Sum (File) ((List Fact))) (fun i8=>i8.2.length≤i8.1∧i8.1≤f.facts.length) (fun i8=>f.facts.length - i8.1) ((0,[]):Nat × (List Fact))
 (fun (i8:Nat × (List Fact))=>⟨[(76,iv (i8.1:Int))],[(100011,rowB 56 3 Fact.cells i8.2),(5,.box (f.bill.cells.map .d++[ow 100001 b1,ow 100007 b5,ow 100004 b3,ow 100011 i8.2]))]⟩) fun i8 =>
 .bnd 74 0 f.facts.length <|
 .br (decide ((i8.1:Int) < ((f.facts.length:Nat):Int)))
 (.r 22 (.p (ixP (i8.1:Int) f.facts.length)) fun _ =>
 .r 23 ((record_within_k ((f.facts.getD i8.1 default).at_) ((b1.length:Nat):Int)).c) fun x9 =>
 .br x9
 (.r 24 (.andl (.o [.nrm (litC Fact.E [f.facts.getD i8.1 default])]) (.andl (.o [.nrm (catC Fact.E i8.2 [f.facts.getD i8.1 default])]) (.andl (.t (Fact.E.ones [f.facts.getD i8.1 default])) (.p (szP i8.2.length [f.facts.getD i8.1 default].length 24))))) fun _ =>
 .r 25 .z fun _ =>
 .wi 76 (w64 ((i8.1:Int)+1)) ((i8.1+1:Nat):Int) <|
 .fin (.inr (i8.1+1,i8.2++[f.facts.getD i8.1 default])))
 (.r 25 .z fun _ =>
 .wi 76 (w64 ((i8.1:Int)+1)) ((i8.1+1:Nat):Int) <|
 .fin (.inr (i8.1+1,i8.2))))
 (.fin (.inl (.inr i8.2))))
 (fun (b7:(List Fact))=>⟨[],[(100010,rowB 56 3 Fact.cells b7),(5,.box (f.bill.cells.map .d++[ow 100001 b1,ow 100007 b5,ow 100004 b3,ow 100010 b7]))]⟩) fun b7 =>
 .fin ({ f with signs:=b1,alters:=b5,acts:=b3,facts:=b7 })
noncomputable def record_At (f:File) (day:Int):File:=(record_At_sk f day).val
theorem record_At_pst (f:File) (day:Int):(record_At_sk f day).pst (fun (x:File)=>x.signs.length≤f.signs.length∧x.acts.length≤f.acts.length∧x.alters.length≤f.alters.length∧x.facts.length≤f.facts.length):=by
 unfold record_At_sk
 try simp only [record_within_k,record_within_eq,File.Small,Realm.Small]
 exact okQ
theorem record_At_post (f:File) (day:Int):(fun (x:File)=>x.signs.length≤f.signs.length∧x.acts.length≤f.acts.length∧x.alters.length≤f.alters.length∧x.facts.length≤f.facts.length) (record_At f day):=have h:=Sk.pval _ (record_At_pst f day); h
theorem record_At_ok (f:File) (day:Int) (hf:f.Small):(record_At_sk f day).obs (fun _=>True):=by
 simp only [File.Small,Realm.Small] at hf
 unfold record_At_sk
 try simp only [record_within_k,record_within_eq,File.Small,Realm.Small]
 exact okG
noncomputable def record_At_k (f:File) (day:Int):Ctr (File):=kk tok mixed Tryz.func9 [av f.cells,iv day] (fun x=>av x.cells) false (record_At_sk f day) (record_At f day) (fun (h:(f.Small))=>record_At_ok f day h) (fun (x:File)=>x.signs.length≤f.signs.length∧x.acts.length≤f.acts.length∧x.alters.length≤f.alters.length∧x.facts.length≤f.facts.length) (record_At_post f day)
theorem filter_fold {α:Type} (p:α→Bool):∀ (l s:List α),l.foldl (fun s x=>bif p x then s++[x] else s) s=s++l.filter p
 | [],s=>by simp
 | x :: r,s=>by
  simp only [List.foldl_cons,List.filter_cons]
  cases h:p x with
  | true=>simp [filter_fold p r]
  | false=>simp [filter_fold p r]
theorem walk_while {α β:Type} (p:α→Bool) (g:List α→β):∀ (l s:List α),walk (fun x s=>bif !(p x) then Sum.inl (g s) else Sum.inr (s++[x])) g l s=g (s++l.takeWhile p)
 | [],s=>by simp [walk]
 | x :: r,s=>by
  simp only [walk,List.takeWhile_cons]
  cases h:p x with
  | true =>
   show walk (fun x s=>bif !(p x) then Sum.inl (g s) else Sum.inr (s++[x])) g r (s++[x])=_
   rw [walk_while p g r (s++[x])]
   simp
  | false=>simp
theorem record_At_eq (f:File) (day:Int):record_At f day=File.mk f.bill (f.signs.takeWhile (fun s=>decide (s.day≤day)))
  (f.alters.filter (fun a=>decide (a.at_≤((f.signs.takeWhile (fun s=>decide (s.day≤day))).length:Int)))) (f.acts.takeWhile (fun a=>decide (a.day≤day)))
  (f.facts.filter (fun x=>decide (x.at_≥0)&&decide (x.at_ < ((f.signs.takeWhile (fun s=>decide (s.day≤day))).length:Int)))):=by
 simp only [record_At,record_At_sk,Sk.val_bind,Sk.val_loop,Sk.val_bnd,Sk.val_br,Sk.val_r,Sk.val_wi,Sk.val_fin,Ctr.c_v,kk,record_within_k,record_within_eq]
 have h1:∀ (n:Nat) (d:File ⊕ List Sign),f.signs.length < n→iter (fun i2:Nat × List Sign=>bif decide ((i2.1:Int) < (f.signs.length:Int)) then (bif decide ((f.signs.getD i2.1 default).day > day) then (Sum.inl (Sum.inr i2.2)) else (Sum.inr (i2.1+1,i2.2++[f.signs.getD i2.1 default]))) else Sum.inl (Sum.inr i2.2)) d n (0,[])=(Sum.inr (f.signs.takeWhile (fun s=>decide (s.day≤day))):File ⊕ List Sign):=by
  intro n d hn
  rw [iter_walk0 f.signs (fun s i=>(i,s)) (fun x s=>bif !(decide (x.day≤day)) then Sum.inl (Sum.inr s) else Sum.inr (s++[x])) (fun s=>Sum.inr s) (fun s i hi=>?_) (fun s=>?_) hn []]
  ·exact walk_while _ (fun s=>(Sum.inr s:File ⊕ List Sign)) f.signs []
  ·rw [decide_eq_true (by omega),cond_true]
   by_cases c:(f.signs.getD i default).day > day
   ·rw [decide_eq_true c,decide_eq_false (by omega)]; rfl
   ·rw [decide_eq_false c,decide_eq_true (by omega)]; rfl
  ·rw [decide_eq_false (by omega),cond_false]
 rw [h1 _ _ (by simp)]
 have h2:∀ (n:Nat) (d:File ⊕ List ActX),f.acts.length < n→iter (fun i2:Nat × List ActX=>bif decide ((i2.1:Int) < (f.acts.length:Int)) then (bif decide ((f.acts.getD i2.1 default).day > day) then (Sum.inl (Sum.inr i2.2)) else (Sum.inr (i2.1+1,i2.2++[f.acts.getD i2.1 default]))) else Sum.inl (Sum.inr i2.2)) d n (0,[])=(Sum.inr (f.acts.takeWhile (fun s=>decide (s.day≤day))):File ⊕ List ActX):=by
  intro n d hn
  rw [iter_walk0 f.acts (fun s i=>(i,s)) (fun x s=>bif !(decide (x.day≤day)) then Sum.inl (Sum.inr s) else Sum.inr (s++[x])) (fun s=>Sum.inr s) (fun s i hi=>?_) (fun s=>?_) hn []]
  ·exact walk_while _ (fun s=>(Sum.inr s:File ⊕ List ActX)) f.acts []
  ·rw [decide_eq_true (by omega),cond_true]
   by_cases c:(f.acts.getD i default).day > day
   ·rw [decide_eq_true c,decide_eq_false (by omega)]; rfl
   ·rw [decide_eq_false c,decide_eq_true (by omega)]; rfl
  ·rw [decide_eq_false (by omega),cond_false]
 simp only [pickS_inr]
 rw [h2 _ _ (by simp)]
 simp only [pickS_inr]
 generalize f.signs.takeWhile (fun s=>decide (s.day≤day))=b1
 have h3:∀ (n:Nat) (d:File ⊕ List Alter),f.alters.length < n→iter (fun i2:Nat × List Alter=>bif decide ((i2.1:Int) < (f.alters.length:Int)) then (bif decide ((f.alters.getD i2.1 default).at_≤(b1.length:Int)) then (Sum.inr (i2.1+1,i2.2++[f.alters.getD i2.1 default])) else (Sum.inr (i2.1+1,i2.2))) else Sum.inl (Sum.inr i2.2)) d n (0,[])=(Sum.inr (f.alters.filter (fun a=>decide (a.at_≤(b1.length:Int)))):File ⊕ List Alter):=by
  intro n d hn
  rw [iter_walk0 f.alters (fun s i=>(i,s)) (fun x s=>Sum.inr (bif decide (x.at_≤(b1.length:Int)) then s++[x] else s)) (fun s=>Sum.inr s) (fun s i hi=>?_) (fun s=>?_) hn []]
  ·rw [walk_fold (fun (x:Alter) s=>bif decide (x.at_≤(b1.length:Int)) then s++[x] else s),filter_fold]; rfl
  ·rw [decide_eq_true (by omega),cond_true]
   cases decide ((f.alters.getD i default).at_≤(b1.length:Int)) <;> rfl
  ·rw [decide_eq_false (by omega),cond_false]
 rw [h3 _ _ (by simp)]
 simp only [pickS_inr]
 have h4:∀ (n:Nat) (d:File ⊕ List Fact),f.facts.length < n→iter (fun i2:Nat × List Fact=>bif decide ((i2.1:Int) < (f.facts.length:Int)) then (bif (decide ((f.facts.getD i2.1 default).at_≥0)&&decide ((f.facts.getD i2.1 default).at_ < (b1.length:Int))) then (Sum.inr (i2.1+1,i2.2++[f.facts.getD i2.1 default])) else (Sum.inr (i2.1+1,i2.2))) else Sum.inl (Sum.inr i2.2)) d n (0,[])=(Sum.inr (f.facts.filter (fun a=>decide (a.at_≥0)&&decide (a.at_ < (b1.length:Int)))):File ⊕ List Fact):=by
  intro n d hn
  rw [iter_walk0 f.facts (fun s i=>(i,s)) (fun x s=>Sum.inr (bif (decide (x.at_≥0)&&decide (x.at_ < (b1.length:Int))) then s++[x] else s)) (fun s=>Sum.inr s) (fun s i hi=>?_) (fun s=>?_) hn []]
  ·rw [walk_fold (fun (x:Fact) s=>bif (decide (x.at_≥0)&&decide (x.at_ < (b1.length:Int))) then s++[x] else s),filter_fold]; rfl
  ·rw [decide_eq_true (by omega),cond_true]
   cases (decide ((f.facts.getD i default).at_≥0)&&decide ((f.facts.getD i default).at_ < (b1.length:Int))) <;> rfl
  ·rw [decide_eq_false (by omega),cond_false]
 rw [h4 _ _ (by simp)]
 rfl
theorem takeWhile_getD {α:Type} [Inhabited α] (p:α→Bool):∀ (l:List α) (i:Nat),i < (l.takeWhile p).length→(l.takeWhile p).getD i default=l.getD i default∧i < l.length∧p (l.getD i default)=true
 | [],i,h=>by simp at h
 | x :: r,i,h=>by
  rw [List.takeWhile_cons] at h ⊢
  cases hp:p x with
  | false=>rw [hp] at h; simp at h
  | true =>
   rw [hp] at h
   simp only [if_true,List.length_cons] at h ⊢
   cases i with
   | zero=>exact ⟨rfl,by simp,hp⟩
   | succ i =>
    have:=takeWhile_getD p r i (by omega)
    exact ⟨by simpa using this.1,by simpa using this.2.1,by simpa using this.2.2⟩
noncomputable def recognize_Check_sk (r:Realm) (f:File) (j:Judgment):Sk (Int) :=
 .r 1 (.dep ((recognize_within_k j.court ((r.orders.length:Nat):Int)).c) fun x1=>.dep (.wh x1 true ((recognize_within_k j.bill 50).c)) fun x2=>.dep (.wh (x1&&x2) true ((recognize_within_k j.sum 1099511627777).c)) fun x3=>.dep (.wh ((x1&&x2)&&x3) true ((recognize_within_k j.currency ((r.currencies.length:Nat):Int)).c)) fun x4=>.wh (((x1&&x2)&&x3)&&x4) true ((recognize_within_k j.day 100001).c)) fun p9 =>
 .r 2 (.wh ((((p9.1&&p9.2.1)&&p9.2.2.1)&&p9.2.2.2.1)&&p9.2.2.2.2) true ((recognize_within_k j.creditor ((r.firms.length:Nat):Int)).c)) fun x6 =>
 .r 3 ((record_At_k f j.day).c) fun x7 =>
 .r 4 (.depr (.wh (!((((((p9.1&&p9.2.1)&&p9.2.2.1)&&p9.2.2.2.1)&&p9.2.2.2.2)&&x6)&&(j.creditor != j.debtor))) false ((recognize_within_k j.sign ((x7.signs.length:Nat):Int)).c)) fun x8=>.wh ((!((((((p9.1&&p9.2.1)&&p9.2.2.1)&&p9.2.2.2.1)&&p9.2.2.2.2)&&x6)&&(j.creditor != j.debtor)))||(!x8)) false (.p (ixP j.sign x7.signs.length))) fun x8 =>
 .br (((!((((((p9.1&&p9.2.1)&&p9.2.2.1)&&p9.2.2.2.1)&&p9.2.2.2.2)&&x6)&&(j.creditor != j.debtor)))||(!x8))||(((x7.signs.getD j.sign.toNat default).who) != j.debtor))
 (.fin 1)
 (.fin 0)
noncomputable def recognize_Check (r:Realm) (f:File) (j:Judgment):Int:=(recognize_Check_sk r f j).val
theorem recognize_Check_ok (r:Realm) (f:File) (j:Judgment) (h_f_Small:f.Small):(recognize_Check_sk r f j).obs (fun _=>True):=by
 simp only [File.Small,Realm.Small] at h_f_Small
 unfold recognize_Check_sk
 try simp only [recognize_within_k,record_At_k,recognize_within_eq,File.Small,Realm.Small]
 exact okG
noncomputable def recognize_Check_k (r:Realm) (f:File) (j:Judgment):Ctr (Int):=kk tok mixed Tryz.func21 [av r.cells,av f.cells,av j.cells] (fun x=>iv x) true (recognize_Check_sk r f j) (recognize_Check r f j) (fun (h:(f.Small))=>recognize_Check_ok r f j h)
noncomputable def recognize_receipt_sk (r:Realm) (x_:Receipt):Sk (Bool) :=
 .r 1 (.dep ((recognize_within_k x_.from_ ((r.firms.length:Nat):Int)).c) fun x1=>.dep (.wh x1 true ((recognize_within_k x_.to_ ((r.firms.length:Nat):Int)).c)) fun x2=>.dep (.wh (x1&&x2) true ((recognize_within_k x_.sum 1099511627777).c)) fun x3=>.dep (.wh ((x1&&x2)&&x3) true ((recognize_within_k x_.currency ((r.currencies.length:Nat):Int)).c)) fun x4=>.wh (((x1&&x2)&&x3)&&x4) true ((recognize_within_k x_.day 100001).c)) fun p6 =>
 .fin ((((p6.1&&p6.2.1)&&p6.2.2.1)&&p6.2.2.2.1)&&p6.2.2.2.2)
noncomputable def recognize_receipt (r:Realm) (x_:Receipt):Bool:=(recognize_receipt_sk r x_).val
theorem recognize_receipt_ok (r:Realm) (x_:Receipt):(recognize_receipt_sk r x_).obs (fun _=>True):=by
 unfold recognize_receipt_sk
 try simp only [recognize_within_k,recognize_within_eq]
 exact okG
noncomputable def recognize_receipt_k (r:Realm) (x_:Receipt):Ctr (Bool):=kk tok mixed Tryz.func111 [av r.cells,av x_.cells] (fun x=>bv x) true (recognize_receipt_sk r x_) (recognize_receipt r x_) (fun (_:True)=>recognize_receipt_ok r x_)
noncomputable def recognize_Received_c1_sk (x_:Receipt) (v:Realm):Sk (Bool) :=
 .r 1 ((recognize_receipt_k v x_).c) fun x1 =>
 .fin (!x1)
noncomputable def recognize_Received_c1 (x_:Receipt) (v:Realm):Bool:=(recognize_Received_c1_sk x_ v).val
theorem recognize_Received_c1_ok (x_:Receipt) (v:Realm):(recognize_Received_c1_sk x_ v).obs (fun _=>True):=by
 unfold recognize_Received_c1_sk
 try simp only [recognize_receipt_k]
 exact okE
noncomputable def recognize_Received_c1_k (x_:Receipt) (v:Realm):Ctr (Bool):=kk tok mixed Tryz.func110 [av x_.cells,.ref v.cells] (fun x=>bv x) true (recognize_Received_c1_sk x_ v) (recognize_Received_c1 x_ v) (fun (_:True)=>recognize_Received_c1_ok x_ v)
noncomputable def slices_IndexFunc_110_sk (s:List Receipt) (v:Realm):Sk (Int) :=
 .bind true (fun b1=>∀ q,q < s.length→recognize_Received_c1 (s.getD q default) v=false)
 (.loop (default:Sum (Int) (Unit)) (fun i2=>∀ q,q < i2→recognize_Received_c1 (s.getD q default) v=false) (fun i2=>s.length - i2) (0:Nat)
 (fun (i2:Nat)=>⟨[(8,iv (i2:Int))],[]⟩) fun i2 =>
 .bnd 0 0 s.length <|
 .br (decide ((i2:Int) < ((s.length:Nat):Int)))
 (.r 4 (.andl (.p (ixP (i2:Int) s.length)) ((recognize_Received_c1_k (s.getD i2 default) v).c)) fun x3 =>
 .br x3
 (.fin (.inl (.inl (i2:Int))))
 (.r 6 .z fun _ =>
 .wi 8 (w64 ((i2:Int)+1)) ((i2+1:Nat):Int) <|
 .fin (.inr (i2+1))))
 (.fin (.inl (.inr ()))))
 (fun (_:Unit)=>⟨[],[]⟩) fun _ =>
 .fin (-1)
noncomputable def slices_IndexFunc_110 (s:List Receipt) (v:Realm):Int:=(slices_IndexFunc_110_sk s v).val
theorem slices_IndexFunc_110_pst (s:List Receipt) (v:Realm):(slices_IndexFunc_110_sk s v).pst (fun (x:Int)=>(x = -1∧∀ q,q < s.length→recognize_Received_c1 (s.getD q default) v=false)∨(0≤x∧x < s.length∧recognize_Received_c1 (s.getD x.toNat default) v=true∧∀ q,(q:Nat) < x.toNat→recognize_Received_c1 (s.getD q default) v=false)):=by
 unfold slices_IndexFunc_110_sk
 try simp only [recognize_Received_c1_k]
 exact okP
theorem slices_IndexFunc_110_post (s:List Receipt) (v:Realm):(fun (x:Int)=>(x = -1∧∀ q,q < s.length→recognize_Received_c1 (s.getD q default) v=false)∨(0≤x∧x < s.length∧recognize_Received_c1 (s.getD x.toNat default) v=true∧∀ q,(q:Nat) < x.toNat→recognize_Received_c1 (s.getD q default) v=false)) (slices_IndexFunc_110 s v):=have h:=Sk.pval _ (slices_IndexFunc_110_pst s v); h
theorem slices_IndexFunc_110_ok (s:List Receipt) (v:Realm):(slices_IndexFunc_110_sk s v).obs (fun _=>True):=by
 unfold slices_IndexFunc_110_sk
 try simp only [recognize_Received_c1_k]
 exact okD
noncomputable def slices_IndexFunc_110_k (s:List Receipt) (v:Realm):Ctr (Int):=kk tok mixed Tryz.func183 [lv Receipt.cells s,.fn 110 [.ref v.cells]] (fun x=>iv x) true (slices_IndexFunc_110_sk s v) (slices_IndexFunc_110 s v) (fun (_:True)=>slices_IndexFunc_110_ok s v) (fun (x:Int)=>(x = -1∧∀ q,q < s.length→recognize_Received_c1 (s.getD q default) v=false)∨(0≤x∧x < s.length∧recognize_Received_c1 (s.getD x.toNat default) v=true∧∀ q,(q:Nat) < x.toNat→recognize_Received_c1 (s.getD q default) v=false)) (slices_IndexFunc_110_post s v)
noncomputable def slices_ContainsFunc_110_sk (s:List Receipt) (v:Realm):Sk (Bool) :=
 .r 1 ((slices_IndexFunc_110_k s v).c) fun x1 =>
 .fin (decide (x1≥0))
noncomputable def slices_ContainsFunc_110 (s:List Receipt) (v:Realm):Bool:=(slices_ContainsFunc_110_sk s v).val
theorem slices_ContainsFunc_110_pst (s:List Receipt) (v:Realm):(slices_ContainsFunc_110_sk s v).pst (fun (x:Bool)=>(x=true↔∃ q,q < s.length∧recognize_Received_c1 (s.getD q default) v=true)):=by
 unfold slices_ContainsFunc_110_sk
 try simp only [slices_IndexFunc_110_k]
 exact okP
theorem slices_ContainsFunc_110_post (s:List Receipt) (v:Realm):(fun (x:Bool)=>(x=true↔∃ q,q < s.length∧recognize_Received_c1 (s.getD q default) v=true)) (slices_ContainsFunc_110 s v):=have h:=Sk.pval _ (slices_ContainsFunc_110_pst s v); h
theorem slices_ContainsFunc_110_ok (s:List Receipt) (v:Realm):(slices_ContainsFunc_110_sk s v).obs (fun _=>True):=by
 unfold slices_ContainsFunc_110_sk
 try simp only [slices_IndexFunc_110_k]
 exact okE
noncomputable def slices_ContainsFunc_110_k (s:List Receipt) (v:Realm):Ctr (Bool):=kk tok mixed Tryz.func109 [lv Receipt.cells s,.fn 110 [.ref v.cells]] (fun x=>bv x) true (slices_ContainsFunc_110_sk s v) (slices_ContainsFunc_110 s v) (fun (_:True)=>slices_ContainsFunc_110_ok s v) (fun (x:Bool)=>(x=true↔∃ q,q < s.length∧recognize_Received_c1 (s.getD q default) v=true)) (slices_ContainsFunc_110_post s v)
noncomputable def money_within_sk (n:Int) (most:Int):Sk (Bool) :=
 .fin ((decide (n≥0))&&(decide (n≤most)))
noncomputable def money_within (n:Int) (most:Int):Bool:=(money_within_sk n most).val
theorem money_within_eq (n:Int) (most:Int):money_within n most=((decide (n≥0))&&(decide (n≤most))):=rfl
theorem money_within_ok (n:Int) (most:Int):(money_within_sk n most).obs (fun _=>True):=by
 unfold money_within_sk
 exact okE
noncomputable def money_within_k (n:Int) (most:Int):Ctr (Bool):=kk tok mixed Tryz.func112 [iv n,iv most] (fun x=>bv x) true (money_within_sk n most) (money_within n most) (fun (_:True)=>money_within_ok n most)
noncomputable def money_latest_sk (rates:List RateX) (from_:Int) (to_:Int) (day:Int):Sk (RateX × Bool) :=
 .bind true (fun _=>True)
 (.loop (default:Sum (RateX × Bool) (Bool × RateX)) (fun i2=>i2.2.1≤rates.length) (fun i2=>rates.length - i2.2.1) ((false,0,({ from_:=0,to_:=0,num:=0,den:=0,since:=0 }:RateX)):Bool × Nat × RateX)
 (fun (i2:Bool × Nat × RateX)=>⟨[(11,bv i2.1),(16,iv (i2.2.1:Int))],[(10,.box (i2.2.2.cells.map .d))]⟩) fun i2 =>
 .bnd 14 0 rates.length <|
 .br (decide ((i2.2.1:Int) < ((rates.length:Nat):Int)))
 (.r 5 (.p (ixP (i2.2.1:Int) rates.length)) fun _ =>
 .br ((((((rates.getD i2.2.1 default).from_) == from_)&&(((rates.getD i2.2.1 default).to_) == to_))&&(decide (((rates.getD i2.2.1 default).since)≤day)))&&((!i2.1)||(decide (((rates.getD i2.2.1 default).since) > i2.2.2.since))))
 (.r 8 .z fun _ =>
 .wi 16 (w64 ((i2.2.1:Int)+1)) ((i2.2.1+1:Nat):Int) <|
 .fin (.inr (true,i2.2.1+1,rates.getD i2.2.1 default)))
 (.r 8 .z fun _ =>
 .wi 16 (w64 ((i2.2.1:Int)+1)) ((i2.2.1+1:Nat):Int) <|
 .fin (.inr (i2.1,i2.2.1+1,i2.2.2))))
 (.fin (.inl (.inr (i2.1,i2.2.2)))))
 (fun (b1:Bool × RateX)=>⟨[(11,bv b1.1)],[(10,.box (b1.2.cells.map .d))]⟩) fun b1 =>
 .fin (b1.2,b1.1)
noncomputable def money_latest (rates:List RateX) (from_:Int) (to_:Int) (day:Int):RateX × Bool:=(money_latest_sk rates from_ to_ day).val
theorem money_latest_ok (rates:List RateX) (from_:Int) (to_:Int) (day:Int):(money_latest_sk rates from_ to_ day).obs (fun _=>True):=by
 unfold money_latest_sk
 exact okD
noncomputable def money_latest_k (rates:List RateX) (from_:Int) (to_:Int) (day:Int):Ctr (RateX × Bool):=kk tok mixed Tryz.func113 [lv RateX.cells rates,iv from_,iv to_,iv day] (fun x=>.tup [av x.1.cells,bv x.2]) true (money_latest_sk rates from_ to_ day) (money_latest rates from_ to_ day) (fun (_:True)=>money_latest_ok rates from_ to_ day)
theorem and_lowM {a:Int} (h0:0≤a) (h1:a < 18446744073709551616):andK .u64 a 4294967295=a % 4294967296:=by
 obtain ⟨a,rfl⟩:=Int.eq_ofNat_of_zero_le h0
 unfold andK
 have h2:(BitVec.ofInt IntKind.u64.bits ((a:Nat):Int) &&& BitVec.ofInt IntKind.u64.bits 4294967295).toNat=a % 4294967296:=by
  have e:(4294967295:Int)=((4294967295:Nat):Int):=rfl
  rw [e,BitVec.toNat_and,BitVec.ofInt_natCast,BitVec.ofInt_natCast,BitVec.toNat_ofNat,BitVec.toNat_ofNat]
  have hb:IntKind.u64.bits=64:=rfl
  rw [hb,Nat.mod_eq_of_lt (by omega),Nat.mod_eq_of_lt (by omega)]
  exact Nat.and_two_pow_sub_one_eq_mod a 32
 rw [h2,u64_id (by omega) (by omega)]
 omega
theorem mul_top {x y:Int} (hx:0≤x∧x < 18446744073709551616) (hy:0≤y∧y < 18446744073709551616) :
  IntKind.u64.wrap ((IntKind.u64.wrap ((IntKind.u64.wrap ((shrK .u64 x 32) * (shrK .u64 y 32)))+(shrK .u64 (IntKind.u64.wrap ((IntKind.u64.wrap ((shrK .u64 x 32) * (andK .u64 y 4294967295)))+(shrK .u64 (IntKind.u64.wrap ((andK .u64 x 4294967295) * (andK .u64 y 4294967295))) 32))) 32)))+(shrK .u64 (IntKind.u64.wrap ((andK .u64 (IntKind.u64.wrap ((IntKind.u64.wrap ((shrK .u64 x 32) * (andK .u64 y 4294967295)))+(shrK .u64 (IntKind.u64.wrap ((andK .u64 x 4294967295) * (andK .u64 y 4294967295))) 32))) 4294967295)+(IntKind.u64.wrap ((andK .u64 x 4294967295) * (shrK .u64 y 32))))) 32)) * 18446744073709551616+IntKind.u64.wrap (x * y)=x * y:=by
 have s32:∀ a:Int,shrK .u64 a 32=a / 4294967296:=fun a=>shr_eq .u64 (b:=32) (by decide)
 have ax:=and_lowM hx.1 hx.2
 have ay:=and_lowM hy.1 hy.2
 rw [and_lowM (u64_rng _).1 (u64_rng _).2,ax,ay,s32,s32,s32,s32,s32]
 have bd:∀ a b:Int,0≤a∧a < 4294967296→0≤b∧b < 4294967296→0≤a * b∧a * b≤18446744065119617025:=fun a b ha hb =>
  ⟨Int.mul_nonneg ha.1 hb.1,by have:=Int.mul_le_mul (show a≤4294967295 by omega) (show b≤4294967295 by omega) hb.1 (by omega); omega⟩
 have hx1:0≤x / 4294967296∧x / 4294967296 < 4294967296:=by omega
 have hx0:0≤x % 4294967296∧x % 4294967296 < 4294967296:=by omega
 have hy1:0≤y / 4294967296∧y / 4294967296 < 4294967296:=by omega
 have hy0:0≤y % 4294967296∧y % 4294967296 < 4294967296:=by omega
 have b11:=bd _ _ hx1 hy1
 have b10:=bd _ _ hx1 hy0
 have b01:=bd _ _ hx0 hy1
 have b00:=bd _ _ hx0 hy0
 have e:x * y=(x / 4294967296) * (y / 4294967296) * 18446744073709551616+((x / 4294967296) * (y % 4294967296)+(x % 4294967296) * (y / 4294967296)) * 4294967296+(x % 4294967296) * (y % 4294967296):=by
  have ex:x=x / 4294967296 * 4294967296+x % 4294967296:=by omega
  have ey:y=y / 4294967296 * 4294967296+y % 4294967296:=by omega
  generalize x / 4294967296=x1 at ex ⊢
  generalize x % 4294967296=x0 at ex ⊢
  generalize y / 4294967296=y1 at ey ⊢
  generalize y % 4294967296=y0 at ey ⊢
  subst ex; subst ey
  have a1:x1 * 4294967296 * (y1 * 4294967296)=x1 * y1 * 18446744073709551616:=by rw [Int.mul_assoc,Int.mul_left_comm 4294967296 y1,← Int.mul_assoc]; rfl
  have a2:x1 * 4294967296 * y0=x1 * y0 * 4294967296:=Int.mul_right_comm _ _ _
  have a3:x0 * (y1 * 4294967296)=x0 * y1 * 4294967296:=(Int.mul_assoc _ _ _).symm
  rw [Int.add_mul,Int.mul_add,Int.mul_add,a1,a2,a3,Int.add_mul]
  omega
 rw [e]
 generalize x / 4294967296 * (y / 4294967296)=p11 at *
 generalize x / 4294967296 * (y % 4294967296)=p10 at *
 generalize x % 4294967296 * (y / 4294967296)=p01 at *
 generalize x % 4294967296 * (y % 4294967296)=p00 at *
 simp only [u64_eq]
 omega
noncomputable def bits_Mul64_sk (x_:Int) (y:Int):Sk (Int × Int) :=
 .r 2 (.p (0≤(32:Int))) fun _ =>
 .r 4 (.p (0≤(32:Int))) fun _ =>
 .r 6 (.p (0≤(32:Int))) fun _ =>
 .r 8 (.p (0≤(32:Int))) fun _ =>
 .r 10 (.p (0≤(32:Int))) fun _ =>
 .fin (IntKind.u64.wrap ((IntKind.u64.wrap ((IntKind.u64.wrap ((shrK .u64 x_ 32) * (shrK .u64 y 32)))+(shrK .u64 (IntKind.u64.wrap ((IntKind.u64.wrap ((shrK .u64 x_ 32) * (andK .u64 y 4294967295)))+(shrK .u64 (IntKind.u64.wrap ((andK .u64 x_ 4294967295) * (andK .u64 y 4294967295))) 32))) 32)))+(shrK .u64 (IntKind.u64.wrap ((andK .u64 (IntKind.u64.wrap ((IntKind.u64.wrap ((shrK .u64 x_ 32) * (andK .u64 y 4294967295)))+(shrK .u64 (IntKind.u64.wrap ((andK .u64 x_ 4294967295) * (andK .u64 y 4294967295))) 32))) 4294967295)+(IntKind.u64.wrap ((andK .u64 x_ 4294967295) * (shrK .u64 y 32))))) 32)),IntKind.u64.wrap (x_ * y))
noncomputable def bits_Mul64 (x_:Int) (y:Int):Int × Int:=(bits_Mul64_sk x_ y).val
theorem bits_Mul64_pst (x_:Int) (y:Int) (hP:(0≤x_∧x_ < 18446744073709551616)∧0≤y∧y < 18446744073709551616):(bits_Mul64_sk x_ y).pst (fun (x:Int × Int)=>(0≤x.1∧x.1 < 18446744073709551616)∧(0≤x.2∧x.2 < 18446744073709551616)∧x.1 * 18446744073709551616+x.2=x_ * y):=by
 refine Sk.pst_of _ ?_
 unfold bits_Mul64_sk
 simp only [Sk.pstq,Sk.isLoop,reduceCtorEq,ON,kk,maxLen]
 intro _ _ _ _ _
 exact ⟨u64_rng _,u64_rng _,mul_top hP.1 hP.2⟩
theorem bits_Mul64_post (x_:Int) (y:Int):(fun (x:Int × Int)=>((0≤x_∧x_ < 18446744073709551616)∧0≤y∧y < 18446744073709551616)→((0≤x.1∧x.1 < 18446744073709551616)∧(0≤x.2∧x.2 < 18446744073709551616)∧x.1 * 18446744073709551616+x.2=x_ * y)) (bits_Mul64 x_ y):=fun hP=>Sk.pval _ (bits_Mul64_pst x_ y hP)
theorem bits_Mul64_ok (x_:Int) (y:Int):(bits_Mul64_sk x_ y).obs (fun _=>True):=by
 unfold bits_Mul64_sk
 exact okD
noncomputable def bits_Mul64_k (x_:Int) (y:Int):Ctr (Int × Int):=kk tok mixed Tryz.func184 [.d (.v (.int .u64 x_)),.d (.v (.int .u64 y))] (fun x=>.tup [.d (.v (.int .u64 x.1)),.d (.v (.int .u64 x.2))]) true (bits_Mul64_sk x_ y) (bits_Mul64 x_ y) (fun (_:True)=>bits_Mul64_ok x_ y) (fun (x:Int × Int)=>((0≤x_∧x_ < 18446744073709551616)∧0≤y∧y < 18446744073709551616)→((0≤x.1∧x.1 < 18446744073709551616)∧(0≤x.2∧x.2 < 18446744073709551616)∧x.1 * 18446744073709551616+x.2=x_ * y)) (bits_Mul64_post x_ y)
def T8:List Nat:=[0,1,2,2,3,3,3,3,4,4,4,4,4,4,4,4]++List.replicate 16 5++List.replicate 32 6++List.replicate 64 7++List.replicate 128 8
theorem T8_ok:∀ k,k < 256→0 < k→1≤T8.getD k 0∧T8.getD k 0≤8∧2 ^ (T8.getD k 0 - 1)≤k∧k < 2 ^ (T8.getD k 0):=by decide +kernel
theorem len_up {x d:Int} {n t:Nat} (hd:d=2 ^ n) (h1:(2:Int) ^ (t - 1)≤x / d) (h2:x / d < 2 ^ t) (ht:1≤t):(2:Int) ^ (n+t - 1)≤x∧x < 2 ^ (n+t):=by
 subst hd
 have hp:(0:Int) < 2 ^ n:=Int.pow_pos (by omega)
 have e:=Int.mul_ediv_add_emod x (2 ^ n)
 have r0:=Int.emod_nonneg x (Int.ne_of_gt hp)
 have r1:=Int.emod_lt_of_pos x hp
 rw [show n+t - 1=n+(t - 1) by omega,Int.pow_add,Int.pow_add]
 constructor
 ·have:=Int.mul_le_mul_of_nonneg_left h1 (Int.le_of_lt hp)
  omega
 ·have:(2:Int) ^ n * (x / 2 ^ n+1)≤2 ^ n * 2 ^ t:=Int.mul_le_mul_of_nonneg_left (by omega) (Int.le_of_lt hp)
  rw [Int.mul_add] at this
  omega
theorem shr32 (a:Int):shrK .u64 a 32=a / 4294967296:=shr_eq .u64 (b:=32) (by decide)
theorem shr16 (a:Int):shrK .u64 a 16=a / 65536:=shr_eq .u64 (b:=16) (by decide)
theorem shr8 (a:Int):shrK .u64 a 8=a / 256:=shr_eq .u64 (b:=8) (by decide)
theorem T8_int {x:Int} (h:0 < x) (h2:x < 256):1≤T8.getD x.toNat 0∧T8.getD x.toNat 0≤8∧(2:Int) ^ (T8.getD x.toNat 0 - 1)≤x∧x < 2 ^ (T8.getD x.toNat 0):=by
 obtain ⟨h3,h4,h5,h6⟩:=T8_ok x.toNat (by omega) (by omega)
 refine ⟨h3,h4,?_,?_⟩
 ·have:((2 ^ (T8.getD x.toNat 0 - 1):Nat):Int)≤(x.toNat:Int):=by exact_mod_cast h5
  rw [Int.natCast_pow] at this
  have e:((2:Nat):Int)=2:=rfl
  rw [e] at this
  omega
 ·have:((x.toNat:Nat):Int) < ((2 ^ (T8.getD x.toNat 0):Nat):Int):=by exact_mod_cast h6
  rw [Int.natCast_pow] at this
  have e:((2:Nat):Int)=2:=rfl
  rw [e] at this
  omega
theorem tab_eq:∀ k,k < 256→((⟨#[0,1,2,2,3,3,3,3,4,4,4,4,4,4,4,4,5,5,5,5,5,5,5,5,5,5,5,5,5,5,5,5,6,6,6,6,6,6,6,6,6,6,6,6,6,6,6,6,6,6,6,6,6,6,6,6,6,6,6,6,6,6,6,6,7,7,7,7,7,7,7,7,7,7,7,7,7,7,7,7,7,7,7,7,7,7,7,7,7,7,7,7,7,7,7,7,7,7,7,7,7,7,7,7,7,7,7,7,7,7,7,7,7,7,7,7,7,7,7,7,7,7,7,7,7,7,7,7,8,8,8,8,8,8,8,8,8,8,8,8,8,8,8,8,8,8,8,8,8,8,8,8,8,8,8,8,8,8,8,8,8,8,8,8,8,8,8,8,8,8,8,8,8,8,8,8,8,8,8,8,8,8,8,8,8,8,8,8,8,8,8,8,8,8,8,8,8,8,8,8,8,8,8,8,8,8,8,8,8,8,8,8,8,8,8,8,8,8,8,8,8,8,8,8,8,8,8,8,8,8,8,8,8,8,8,8,8,8,8,8,8,8,8,8,8,8,8,8,8,8,8,8,8,8,8,8]⟩:ByteArray).data.toList.getD k 0).toNat=T8.getD k 0:=by decide +kernel
theorem len_fin {x d:Int} {n t:Nat} (hd:d=2 ^ n) (h1:(2:Int) ^ (t - 1)≤x / d) (h2:x / d < 2 ^ t) (ht:1≤t) (ht8:t≤8) (hn:n≤56) {r:Int} (hr:r=(n+t:Nat)):1≤r∧r≤64∧2 ^ (r.toNat - 1)≤x∧x < 2 ^ r.toNat:=by
 subst hr
 have:=len_up hd h1 h2 ht
 rw [Int.toNat_natCast]
 exact ⟨by omega,by omega,this.1,this.2⟩
noncomputable def bits_Len64_sk (x_:Int):Sk (Int) :=
 .bind false (fun b1=>(0 < x_→0 < b1.1)∧0≤b1.1∧b1.1 < 4294967296∧((b1.2=0∧b1.1=x_)∨(b1.2=32∧b1.1=x_ / 4294967296)))
 (.br (decide (x_≥4294967296))
 (.r 2 (.p (0≤(32:Int))) fun _ =>
 .fin (.inr (shrK .u64 x_ 32,32)))
 (.fin (.inr (x_,0))))
 (fun (b1:Int × Int)=>⟨[(0,.d (.v (.int .u64 b1.1))),(2,iv b1.2)],[]⟩) fun b1 =>
 .bind false (fun b2=>(0 < x_→0 < b2.1)∧0≤b2.1∧b2.1 < 65536∧((b2.2=0∧b2.1=x_)∨(b2.2=16∧b2.1=x_ / 65536)∨(b2.2=32∧b2.1=x_ / 4294967296)∨(b2.2=48∧b2.1=x_ / 281474976710656)))
 (.br (decide (b1.1≥65536))
 (.r 5 (.p (0≤(16:Int))) fun _ =>
 .fin (.inr (shrK .u64 b1.1 16,w64 (b1.2+16))))
 (.fin (.inr (b1.1,b1.2))))
 (fun (b2:Int × Int)=>⟨[(0,.d (.v (.int .u64 b2.1))),(2,iv b2.2)],[]⟩) fun b2 =>
 .br (decide (b2.1≥256))
 (.r 8 (.p (0≤(8:Int))) fun _ =>
 .r 10 (.p (0≤(IntKind.u8.wrap (shrK .u64 b2.1 8))∧(IntKind.u8.wrap (shrK .u64 b2.1 8)) < (((⟨#[0,1,2,2,3,3,3,3,4,4,4,4,4,4,4,4,5,5,5,5,5,5,5,5,5,5,5,5,5,5,5,5,6,6,6,6,6,6,6,6,6,6,6,6,6,6,6,6,6,6,6,6,6,6,6,6,6,6,6,6,6,6,6,6,7,7,7,7,7,7,7,7,7,7,7,7,7,7,7,7,7,7,7,7,7,7,7,7,7,7,7,7,7,7,7,7,7,7,7,7,7,7,7,7,7,7,7,7,7,7,7,7,7,7,7,7,7,7,7,7,7,7,7,7,7,7,7,7,8,8,8,8,8,8,8,8,8,8,8,8,8,8,8,8,8,8,8,8,8,8,8,8,8,8,8,8,8,8,8,8,8,8,8,8,8,8,8,8,8,8,8,8,8,8,8,8,8,8,8,8,8,8,8,8,8,8,8,8,8,8,8,8,8,8,8,8,8,8,8,8,8,8,8,8,8,8,8,8,8,8,8,8,8,8,8,8,8,8,8,8,8,8,8,8,8,8,8,8,8,8,8,8,8,8,8,8,8,8,8,8,8,8,8,8,8,8,8,8,8,8,8,8,8,8,8,8]⟩:ByteArray).size:Nat):Int))) fun _ =>
 .fin (w64 ((w64 (b2.2+8))+(w64 ((((⟨#[0,1,2,2,3,3,3,3,4,4,4,4,4,4,4,4,5,5,5,5,5,5,5,5,5,5,5,5,5,5,5,5,6,6,6,6,6,6,6,6,6,6,6,6,6,6,6,6,6,6,6,6,6,6,6,6,6,6,6,6,6,6,6,6,7,7,7,7,7,7,7,7,7,7,7,7,7,7,7,7,7,7,7,7,7,7,7,7,7,7,7,7,7,7,7,7,7,7,7,7,7,7,7,7,7,7,7,7,7,7,7,7,7,7,7,7,7,7,7,7,7,7,7,7,7,7,7,7,8,8,8,8,8,8,8,8,8,8,8,8,8,8,8,8,8,8,8,8,8,8,8,8,8,8,8,8,8,8,8,8,8,8,8,8,8,8,8,8,8,8,8,8,8,8,8,8,8,8,8,8,8,8,8,8,8,8,8,8,8,8,8,8,8,8,8,8,8,8,8,8,8,8,8,8,8,8,8,8,8,8,8,8,8,8,8,8,8,8,8,8,8,8,8,8,8,8,8,8,8,8,8,8,8,8,8,8,8,8,8,8,8,8,8,8,8,8,8,8,8,8,8,8,8,8,8,8]⟩:ByteArray).data.toList.getD ((IntKind.u8.wrap (shrK .u64 b2.1 8)).toNat) 0).toNat:Int))))))
 (.r 10 (.p (0≤(IntKind.u8.wrap (b2.1))∧(IntKind.u8.wrap (b2.1)) < (((⟨#[0,1,2,2,3,3,3,3,4,4,4,4,4,4,4,4,5,5,5,5,5,5,5,5,5,5,5,5,5,5,5,5,6,6,6,6,6,6,6,6,6,6,6,6,6,6,6,6,6,6,6,6,6,6,6,6,6,6,6,6,6,6,6,6,7,7,7,7,7,7,7,7,7,7,7,7,7,7,7,7,7,7,7,7,7,7,7,7,7,7,7,7,7,7,7,7,7,7,7,7,7,7,7,7,7,7,7,7,7,7,7,7,7,7,7,7,7,7,7,7,7,7,7,7,7,7,7,7,8,8,8,8,8,8,8,8,8,8,8,8,8,8,8,8,8,8,8,8,8,8,8,8,8,8,8,8,8,8,8,8,8,8,8,8,8,8,8,8,8,8,8,8,8,8,8,8,8,8,8,8,8,8,8,8,8,8,8,8,8,8,8,8,8,8,8,8,8,8,8,8,8,8,8,8,8,8,8,8,8,8,8,8,8,8,8,8,8,8,8,8,8,8,8,8,8,8,8,8,8,8,8,8,8,8,8,8,8,8,8,8,8,8,8,8,8,8,8,8,8,8,8,8,8,8,8,8]⟩:ByteArray).size:Nat):Int))) fun _ =>
 .fin (w64 (b2.2+(w64 ((((⟨#[0,1,2,2,3,3,3,3,4,4,4,4,4,4,4,4,5,5,5,5,5,5,5,5,5,5,5,5,5,5,5,5,6,6,6,6,6,6,6,6,6,6,6,6,6,6,6,6,6,6,6,6,6,6,6,6,6,6,6,6,6,6,6,6,7,7,7,7,7,7,7,7,7,7,7,7,7,7,7,7,7,7,7,7,7,7,7,7,7,7,7,7,7,7,7,7,7,7,7,7,7,7,7,7,7,7,7,7,7,7,7,7,7,7,7,7,7,7,7,7,7,7,7,7,7,7,7,7,8,8,8,8,8,8,8,8,8,8,8,8,8,8,8,8,8,8,8,8,8,8,8,8,8,8,8,8,8,8,8,8,8,8,8,8,8,8,8,8,8,8,8,8,8,8,8,8,8,8,8,8,8,8,8,8,8,8,8,8,8,8,8,8,8,8,8,8,8,8,8,8,8,8,8,8,8,8,8,8,8,8,8,8,8,8,8,8,8,8,8,8,8,8,8,8,8,8,8,8,8,8,8,8,8,8,8,8,8,8,8,8,8,8,8,8,8,8,8,8,8,8,8,8,8,8,8,8]⟩:ByteArray).data.toList.getD ((IntKind.u8.wrap (b2.1)).toNat) 0).toNat:Int))))))
noncomputable def bits_Len64 (x_:Int):Int:=(bits_Len64_sk x_).val
theorem bits_Len64_pst (x_:Int) (hP:0 < x_∧x_ < 18446744073709551616):(bits_Len64_sk x_).pst (fun (x:Int)=>1≤x∧x≤64∧2 ^ (x.toNat - 1)≤x_∧x_ < 2 ^ x.toNat):=by
 refine Sk.pst_of _ ?_
 unfold bits_Len64_sk
 simp only [Sk.pstq,Sk.isLoop,reduceCtorEq,ON,kk,maxLen]
 simp only [shr32,shr16,shr8,w64_id (n:=(32:Int)) (by decide) (by decide)] at *
 refine ⟨⟨fun hc _=>?_,fun hc=>?_⟩,fun b _ hb=>⟨⟨fun hc _=>?_,fun hc=>?_⟩,fun d _ hd=>⟨fun hc _ _=>?_,fun hc _=>?_⟩⟩⟩
 all_goals simp only [LN] at hc
 ·(try simp only [true_or,or_true,and_true,true_and]); omega
 ·(try simp only [true_or,or_true,and_true,true_and]); omega
 ·have e:w64 (b.2+16)=b.2+16:=w64_id (by omega) (by omega)
  rw [e]
  omega
 ·omega
 ·rw [u8_eq,Int.emod_eq_of_lt (by omega) (by omega),tab_eq _ (by omega)]
  have ht:=T8_int (x:=d.1 / 256) (by omega) (by omega)
  rw [w64_id (n:=d.2+8) (by omega) (by omega),w64_id (n:=((T8.getD (d.1 / 256).toNat 0:Nat):Int)) (by omega) (by omega),w64_id (by omega) (by omega)]
  rcases hd.2.2.2 with ⟨h1,h2⟩ | ⟨h1,h2⟩ | ⟨h1,h2⟩ | ⟨h1,h2⟩
  ·exact len_fin (n:=8) (d:=256) (t:=T8.getD (d.1 / 256).toNat 0) (by decide) (by rw [← h2]; exact ht.2.2.1) (by rw [← h2]; exact ht.2.2.2) ht.1 ht.2.1 (by omega) (by omega)
  ·exact len_fin (n:=24) (d:=16777216) (t:=T8.getD (d.1 / 256).toNat 0) (by decide) (by rw [show x_ / 16777216=d.1 / 256 by omega]; exact ht.2.2.1) (by rw [show x_ / 16777216=d.1 / 256 by omega]; exact ht.2.2.2) ht.1 ht.2.1 (by omega) (by omega)
  ·exact len_fin (n:=40) (d:=1099511627776) (t:=T8.getD (d.1 / 256).toNat 0) (by decide) (by rw [show x_ / 1099511627776=d.1 / 256 by omega]; exact ht.2.2.1) (by rw [show x_ / 1099511627776=d.1 / 256 by omega]; exact ht.2.2.2) ht.1 ht.2.1 (by omega) (by omega)
  ·exact len_fin (n:=56) (d:=72057594037927936) (t:=T8.getD (d.1 / 256).toNat 0) (by decide) (by rw [show x_ / 72057594037927936=d.1 / 256 by omega]; exact ht.2.2.1) (by rw [show x_ / 72057594037927936=d.1 / 256 by omega]; exact ht.2.2.2) ht.1 ht.2.1 (by omega) (by omega)
 ·rw [u8_eq,Int.emod_eq_of_lt (by omega) (by omega),tab_eq _ (by omega)]
  have ht:=T8_int (x:=d.1) (by omega) (by omega)
  rw [w64_id (n:=((T8.getD d.1.toNat 0:Nat):Int)) (by omega) (by omega),w64_id (by omega) (by omega)]
  rcases hd.2.2.2 with ⟨h1,h2⟩ | ⟨h1,h2⟩ | ⟨h1,h2⟩ | ⟨h1,h2⟩
  ·exact len_fin (n:=0) (d:=1) (t:=T8.getD d.1.toNat 0) (by decide) (by rw [show x_ / 1=d.1 by omega]; exact ht.2.2.1) (by rw [show x_ / 1=d.1 by omega]; exact ht.2.2.2) ht.1 ht.2.1 (by omega) (by omega)
  ·exact len_fin (n:=16) (d:=65536) (t:=T8.getD d.1.toNat 0) (by decide) (by rw [← h2]; exact ht.2.2.1) (by rw [← h2]; exact ht.2.2.2) ht.1 ht.2.1 (by omega) (by omega)
  ·exact len_fin (n:=32) (d:=4294967296) (t:=T8.getD d.1.toNat 0) (by decide) (by rw [← h2]; exact ht.2.2.1) (by rw [← h2]; exact ht.2.2.2) ht.1 ht.2.1 (by omega) (by omega)
  ·exact len_fin (n:=48) (d:=281474976710656) (t:=T8.getD d.1.toNat 0) (by decide) (by rw [← h2]; exact ht.2.2.1) (by rw [← h2]; exact ht.2.2.2) ht.1 ht.2.1 (by omega) (by omega)
theorem bits_Len64_post (x_:Int):(fun (x:Int)=>(0 < x_∧x_ < 18446744073709551616)→(1≤x∧x≤64∧2 ^ (x.toNat - 1)≤x_∧x_ < 2 ^ x.toNat)) (bits_Len64 x_):=fun hP=>Sk.pval _ (bits_Len64_pst x_ hP)
theorem bits_Len64_ok (x_:Int) (hx:0≤x_∧x_ < 18446744073709551616):(bits_Len64_sk x_).obs (fun _=>True):=by
 refine Sk.obs_of _ ?_
 unfold bits_Len64_sk
 simp only [Sk.obq,Sk.isLoop,reduceCtorEq,ON,kk,maxLen]
 simp only [shr32,shr16,shr8,w64_id (n:=(32:Int)) (by decide) (by decide)] at *
 refine ⟨⟨fun hc=>⟨by decide,fun _=>?_⟩,fun hc=>?_⟩,fun b _ hb=>⟨⟨fun hc=>⟨by decide,fun _=>?_⟩,fun hc=>?_⟩,fun d _ hd=>⟨fun hc=>⟨by decide,fun _=>⟨?_,?_⟩⟩,fun hc=>⟨?_,?_⟩⟩⟩⟩
 all_goals simp only [LN] at hc
 ·(try simp only [true_or,or_true,and_true,true_and]); omega
 ·(try simp only [true_or,or_true,and_true,true_and]); omega
 ·have e:w64 (b.2+16)=b.2+16:=w64_id (by omega) (by omega)
  rw [e]
  omega
 ·omega
 ·rw [u8_eq]; omega
 ·rw [u8_eq,Int.emod_eq_of_lt (by omega) (by omega)]; exact (show _ < ((256:Nat):Int) by omega)
 ·rw [u8_eq]; omega
 ·rw [u8_eq,Int.emod_eq_of_lt (by omega) (by omega)]; exact (show _ < ((256:Nat):Int) by omega)
noncomputable def bits_Len64_k (x_:Int):Ctr (Int):=kk tok mixed Tryz.func246 [.d (.v (.int .u64 x_))] (fun x=>iv x) true (bits_Len64_sk x_) (bits_Len64 x_) (fun (h:(0≤x_∧x_ < 18446744073709551616))=>bits_Len64_ok x_ h) (fun (x:Int)=>(0 < x_∧x_ < 18446744073709551616)→(1≤x∧x≤64∧2 ^ (x.toNat - 1)≤x_∧x_ < 2 ^ x.toNat)) (bits_Len64_post x_)
noncomputable def bits_LeadingZeros64_sk (x_:Int):Sk (Int) :=
 .r 1 ((bits_Len64_k x_).c) fun x1 =>
 .fin (w64 ((64:Int) - x1))
noncomputable def bits_LeadingZeros64 (x_:Int):Int:=(bits_LeadingZeros64_sk x_).val
theorem bits_LeadingZeros64_pst (x_:Int) (hP:0 < x_∧x_ < 18446744073709551616):(bits_LeadingZeros64_sk x_).pst (fun (x:Int)=>0≤x∧x≤63∧9223372036854775808≤x_ * 2 ^ x.toNat∧x_ * 2 ^ x.toNat < 18446744073709551616):=by
 refine Sk.pst_of _ ?_
 unfold bits_LeadingZeros64_sk
 simp only [Sk.pstq,Sk.isLoop,reduceCtorEq,ON,kk,bits_Len64_k,maxLen]
 intro x _ h
 obtain ⟨h1,h2,h3,h4⟩:=h hP
 rw [w64_id (by omega) (by omega)]
 have e1:x.toNat - 1+(64 - x).toNat=63:=by omega
 have e2:x.toNat+(64 - x).toNat=64:=by omega
 have p:(0:Int) < 2 ^ (64 - x).toNat:=Int.pow_pos (by omega)
 have q1:=Int.mul_le_mul_of_nonneg_right h3 (Int.le_of_lt p)
 have q2:=Int.mul_lt_mul_of_pos_right h4 p
 rw [← Int.pow_add,e1] at q1
 rw [← Int.pow_add,e2] at q2
 refine ⟨by omega,by omega,?_,?_⟩
 ·exact q1
 ·exact q2
theorem bits_LeadingZeros64_post (x_:Int):(fun (x:Int)=>(0 < x_∧x_ < 18446744073709551616)→(0≤x∧x≤63∧9223372036854775808≤x_ * 2 ^ x.toNat∧x_ * 2 ^ x.toNat < 18446744073709551616)) (bits_LeadingZeros64 x_):=fun hP=>Sk.pval _ (bits_LeadingZeros64_pst x_ hP)
theorem bits_LeadingZeros64_ok (x_:Int) (hx:0≤x_∧x_ < 18446744073709551616):(bits_LeadingZeros64_sk x_).obs (fun _=>True):=by
 unfold bits_LeadingZeros64_sk
 try simp only [bits_Len64_k]
 exact okD
noncomputable def bits_LeadingZeros64_k (x_:Int):Ctr (Int):=kk tok mixed Tryz.func230 [.d (.v (.int .u64 x_))] (fun x=>iv x) true (bits_LeadingZeros64_sk x_) (bits_LeadingZeros64 x_) (fun (h:(0≤x_∧x_ < 18446744073709551616))=>bits_LeadingZeros64_ok x_ h) (fun (x:Int)=>(0 < x_∧x_ < 18446744073709551616)→(0≤x∧x≤63∧9223372036854775808≤x_ * 2 ^ x.toNat∧x_ * 2 ^ x.toNat < 18446744073709551616)) (bits_LeadingZeros64_post x_)
def HY (y1 y0 u d:Int):Prop:=(2147483648≤y1∧y1 < 4294967296)∧(0≤y0∧y0 < 4294967296)∧(0≤u∧u < y1 * 4294967296+y0)∧0≤d∧d < 4294967296
def HI (y1 y0 u d q r:Int):Prop:=(0≤q∧q < 18446744073709551616)∧q * y1+r=u∧(0≤r∧r < 4294967296)∧u * 4294967296+d < 4294967296 * (q * y1)+4294967296 * y1+q * y0+y0
def HQ (y1 y0 u d q:Int):Prop:=(0≤q∧q < 4294967296)∧4294967296 * (q * y1)+q * y0≤u * 4294967296+d∧u * 4294967296+d < 4294967296 * (q * y1)+4294967296 * y1+q * y0+y0
theorem half_init {y1 y0 u d:Int} (h:HY y1 y0 u d):HI y1 y0 u d (IntKind.u64.wrap (u.tdiv y1)) (IntKind.u64.wrap (u - IntKind.u64.wrap (IntKind.u64.wrap (u.tdiv y1) * y1))):=by
 obtain ⟨h1,h2,h3,h4⟩:=h
 have e:u.tdiv y1=u / y1:=Int.tdiv_eq_ediv_of_nonneg h3.1
 have q0:0≤u / y1:=Int.ediv_nonneg h3.1 (by omega)
 have q1:u / y1≤u:=Int.ediv_le_self _ h3.1
 have m1:=Int.mul_ediv_add_emod u y1
 have m2:=Int.emod_nonneg u (b:=y1) (by omega)
 have m3:=Int.emod_lt_of_pos u (b:=y1) (by omega)
 rw [e,u64_id q0 (by omega)]
 rw [Int.mul_comm y1] at m1
 rw [u64_id (n:=u / y1 * y1) (Int.mul_nonneg q0 (by omega)) (by omega),u64_id (by omega) (by omega)]
 have:=Int.mul_nonneg q0 h2.1
 refine ⟨⟨q0,by omega⟩,by omega,⟨by omega,by omega⟩,by omega⟩
theorem half_cond {y1 y0 u d q r:Int} (h:HY y1 y0 u d) (hi:HI y1 y0 u d q r):(decide (q≥4294967296)||decide (IntKind.u64.wrap (q * y0) > IntKind.u64.wrap (IntKind.u64.wrap (4294967296 * r)+d)))=decide (q≥4294967296∨q * y0 > 4294967296 * r+d):=by
 obtain ⟨h1,h2,h3,h4⟩:=h
 obtain ⟨i1,i2,i3,i4⟩:=hi
 rw [u64_id (n:=4294967296 * r) (by omega) (by omega),u64_id (n:=4294967296 * r+d) (by omega) (by omega)]
 by_cases c:q≥4294967296
 ·simp [c]
 ·have a:q * y0≤4294967295 * y0:=Int.mul_le_mul_of_nonneg_right (by omega) h2.1
  rw [u64_id (n:=q * y0) (Int.mul_nonneg i1.1 h2.1) (by omega)]
  simp [c]
theorem half_step {y1 y0 u d q r:Int} (h:HY y1 y0 u d) (hi:HI y1 y0 u d q r) (hc:(decide (q≥4294967296)||decide (IntKind.u64.wrap (q * y0) > IntKind.u64.wrap (IntKind.u64.wrap (4294967296 * r)+d)))=true) :
  (IntKind.u64.wrap (q - 1)).toNat < q.toNat∧(IntKind.u64.wrap (r+y1)≥4294967296→HQ y1 y0 u d (IntKind.u64.wrap (q - 1)))∧(IntKind.u64.wrap (r+y1) < 4294967296→HI y1 y0 u d (IntKind.u64.wrap (q - 1)) (IntKind.u64.wrap (r+y1))):=by
 rw [half_cond h hi,decide_eq_true_eq] at hc
 obtain ⟨h1,h2,h3,h4⟩:=h
 obtain ⟨i1,i2,i3,i4⟩:=hi
 have hy:u * 4294967296+d < 4294967296 * (q * y1)+q * y0:=by
  rcases hc with c | c
  ·have a:4294967296 * y1≤q * y1:=Int.mul_le_mul_of_nonneg_right c (by omega)
   have b:4294967296 * y0≤q * y0:=Int.mul_le_mul_of_nonneg_right c h2.1
   omega
  ·omega
 have hq:1≤q:=by
  rcases Int.lt_or_le q 1 with c | c
  ·obtain rfl:q=0:=by omega
   simp only [Int.zero_mul] at hy i2
   omega
  ·exact c
 have e1:(q - 1) * y1=q * y1 - y1:=by rw [Int.sub_mul,Int.one_mul]
 have e0:(q - 1) * y0=q * y0 - y0:=by rw [Int.sub_mul,Int.one_mul]
 rw [u64_id (n:=q - 1) (by omega) (by omega),u64_id (n:=r+y1) (by omega) (by omega)]
 refine ⟨by omega,fun hr=>?_,fun hr=>?_⟩
 ·have hB:q - 1 < 4294967296:=by
   rcases Int.lt_or_le (q - 1) 4294967296 with c | c
   ·exact c
   ·have a:4294967296 * y1≤(q - 1) * y1:=Int.mul_le_mul_of_nonneg_right c (by omega)
    omega
  have a:(q - 1) * y0≤4294967295 * y0:=Int.mul_le_mul_of_nonneg_right (by omega) h2.1
  refine ⟨⟨by omega,hB⟩,?_,?_⟩
  ·rw [e1]; omega
  ·rw [e1,e0]; omega
 ·refine ⟨⟨by omega,by omega⟩,by rw [e1]; omega,⟨by omega,hr⟩,by rw [e1,e0]; omega⟩
theorem half_exit {y1 y0 u d q r:Int} (h:HY y1 y0 u d) (hi:HI y1 y0 u d q r) (hc:(decide (q≥4294967296)||decide (IntKind.u64.wrap (q * y0) > IntKind.u64.wrap (IntKind.u64.wrap (4294967296 * r)+d)))=false):HQ y1 y0 u d q:=by
 rw [half_cond h hi,decide_eq_false_iff_not] at hc
 obtain ⟨i1,i2,i3,i4⟩:=hi
 exact ⟨by omega,by omega,i4⟩
theorem half_rest {y1 y0 u d q:Int} (h:HY y1 y0 u d) (hq:HQ y1 y0 u d q):IntKind.u64.wrap (IntKind.u64.wrap (IntKind.u64.wrap (u * 4294967296)+d) - IntKind.u64.wrap (q * (y1 * 4294967296+y0)))=u * 4294967296+d - q * (y1 * 4294967296+y0)∧0≤u * 4294967296+d - q * (y1 * 4294967296+y0)∧u * 4294967296+d - q * (y1 * 4294967296+y0) < y1 * 4294967296+y0:=by
 obtain ⟨h1,h2,h3,h4⟩:=h
 obtain ⟨i1,i2,i3⟩:=hq
 have e:q * (y1 * 4294967296+y0)=4294967296 * (q * y1)+q * y0:=by rw [Int.mul_add,← Int.mul_assoc,Int.mul_comm (q * y1)]
 refine ⟨?_,by omega,by omega⟩
 simp only [u64_eq]
 omega
theorem or_add {k:Nat} {q b:Int} (hq:0≤q) (hb:0≤b) (hb2:b < 2 ^ k) (ha:q * 2 ^ k+b < 18446744073709551616):orK .u64 (q * 2 ^ k) b=q * 2 ^ k+b:=by
 obtain ⟨q,rfl⟩:=Int.eq_ofNat_of_zero_le hq
 obtain ⟨b,rfl⟩:=Int.eq_ofNat_of_zero_le hb
 have e:((q:Int) * 2 ^ k)=((q * 2 ^ k:Nat):Int):=by simp
 have hb3:b < 2 ^ k:=by
  have e2:((2:Int) ^ k)=((2 ^ k:Nat):Int):=by simp
  rw [e2] at hb2
  exact_mod_cast hb2
 rw [e] at ha ⊢
 unfold orK
 have hlt:q * 2 ^ k+b < 18446744073709551616:=by omega
 have h1:(BitVec.ofInt IntKind.u64.bits ((q * 2 ^ k:Nat):Int) ||| BitVec.ofInt IntKind.u64.bits ((b:Nat):Int)).toNat=q * 2 ^ k+b:=by
  rw [BitVec.toNat_or,BitVec.ofInt_natCast,BitVec.ofInt_natCast,BitVec.toNat_ofNat,BitVec.toNat_ofNat]
  have hb:IntKind.u64.bits=64:=rfl
  rw [hb,Nat.mod_eq_of_lt (by omega),Nat.mod_eq_of_lt (by omega),← Nat.shiftLeft_eq,← Nat.shiftLeft_add_eq_or_of_lt hb3,Nat.shiftLeft_eq]
 rw [h1,u64_id (by omega) (by omega)]
 omega
theorem and_low {a:Int} (h0:0≤a) (h1:a < 18446744073709551616):andK .u64 a 4294967295=a % 4294967296:=by
 obtain ⟨a,rfl⟩:=Int.eq_ofNat_of_zero_le h0
 unfold andK
 have h2:(BitVec.ofInt IntKind.u64.bits ((a:Nat):Int) &&& BitVec.ofInt IntKind.u64.bits 4294967295).toNat=a % 4294967296:=by
  have e:(4294967295:Int)=((4294967295:Nat):Int):=rfl
  rw [e,BitVec.toNat_and,BitVec.ofInt_natCast,BitVec.ofInt_natCast,BitVec.toNat_ofNat,BitVec.toNat_ofNat]
  have hb:IntKind.u64.bits=64:=rfl
  rw [hb,Nat.mod_eq_of_lt (by omega),Nat.mod_eq_of_lt (by omega)]
  exact Nat.and_two_pow_sub_one_eq_mod a 32
 rw [h2,u64_id (by omega) (by omega)]
 omega
theorem div_parts {hi lo y s:Int} (hy:0≤hi∧hi < y∧y < 18446744073709551616∧0≤lo∧lo < 18446744073709551616) (hs:0≤s∧s≤63∧9223372036854775808≤y * 2 ^ s.toNat∧y * 2 ^ s.toNat < 18446744073709551616) :
  ∃ U L:Int,orK .u64 (shlK .u64 hi (IntKind.u64.wrap s)) (shrK .u64 lo (IntKind.u64.wrap ((64:Int) - IntKind.u64.wrap s)))=U∧shlK .u64 lo (IntKind.u64.wrap s)=L∧shlK .u64 y (IntKind.u64.wrap s)=y * 2 ^ s.toNat ∧
   (0≤L∧L < 18446744073709551616)∧(0≤U∧U < y * 2 ^ s.toNat)∧(hi * 18446744073709551616+lo) * 2 ^ s.toNat=U * 18446744073709551616+L:=by
 obtain ⟨h1,h2,h3,h4,h5⟩:=hy
 obtain ⟨s1,s2,s3,s4⟩:=hs
 have ew:IntKind.u64.wrap s=s:=u64_id s1 (by omega)
 have ew2:IntKind.u64.wrap (64 - s)=64 - s:=u64_id (by omega) (by omega)
 rw [ew,ew2,shl_eq (by omega),shl_eq (by omega),shl_eq (by omega),shr_eq .u64 (b:=64 - s) (by show 0≤64 - s∧64 - s≤64; omega)]
 generalize hp:(2:Int) ^ s.toNat=p at *
 have hP:(18446744073709551616:Int)=2 ^ (64 - s).toNat * p:=by rw [← hp,← Int.pow_add,show (64 - s).toNat+s.toNat=64 by omega]; rfl
 generalize hq:(2:Int) ^ (64 - s).toNat=P at *
 have p0:0 < p:=by rw [← hp]; exact Int.pow_pos (by omega)
 have P0:0 < P:=by rw [← hq]; exact Int.pow_pos (by omega)
 have hip:hi * p≤(y - 1) * p:=Int.mul_le_mul_of_nonneg_right (by omega) (by omega)
 have hip0:0≤hi * p:=Int.mul_nonneg h1 (by omega)
 have e1:(y - 1) * p=y * p - p:=by rw [Int.sub_mul,Int.one_mul]
 have b0:0≤lo / P:=Int.ediv_nonneg h4 (by omega)
 have b1:lo / P < p:=by
  rw [Int.ediv_lt_iff_lt_mul P0,Int.mul_comm]
  omega
 have eh:hi * p % 18446744073709551616=hi * p:=Int.emod_eq_of_lt hip0 (by omega)
 have ey:y * p % 18446744073709551616=y * p:=Int.emod_eq_of_lt (by omega) s4
 have el:lo * p / 18446744073709551616=lo / P:=by rw [hP]; exact Int.mul_ediv_mul_of_pos_left _ _ p0
 have hor:orK .u64 (hi * p) (lo / P)=hi * p+lo / P:=by
  rw [← hp]
  exact or_add h1 b0 (by rw [hp]; exact b1) (by rw [hp]; omega)
 refine ⟨hi * p+lo / P,lo * p % 18446744073709551616,by rw [eh]; exact hor,rfl,ey,⟨by omega,by omega⟩,⟨by omega,by omega⟩,?_⟩
 have m:=Int.mul_ediv_add_emod (lo * p) 18446744073709551616
 rw [el] at m
 have e2:(hi * 18446744073709551616+lo) * p=hi * p * 18446744073709551616+lo * p:=by rw [Int.add_mul,Int.mul_right_comm]
 rw [e2]
 omega
theorem div_whole {N y p U L q1 q0:Int} (hy:0 < y) (hp:0 < p) (hY:9223372036854775808≤y * p∧y * p < 18446744073709551616) (hL:0≤L∧L < 18446744073709551616) (hU:0≤U∧U < y * p) (hN:N * p=U * 18446744073709551616+L)
  (h1:HQ (y * p / 4294967296) (y * p % 4294967296) U (L / 4294967296) q1)
  (h0:HQ (y * p / 4294967296) (y * p % 4294967296) (U * 4294967296+L / 4294967296 - q1 * (y * p)) (L % 4294967296) q0) :
  IntKind.u64.wrap (IntKind.u64.wrap (q1 * 4294967296)+q0)=N / y ∧
   ((U * 4294967296+L / 4294967296 - q1 * (y * p)) * 4294967296+L % 4294967296 - q0 * (y * p)) / p=N % y:=by
 have eY:y * p / 4294967296 * 4294967296+y * p % 4294967296=y * p:=by omega
 have hy1:HY (y * p / 4294967296) (y * p % 4294967296) U (L / 4294967296):=⟨⟨by omega,by omega⟩,⟨by omega,by omega⟩,⟨by omega,by omega⟩,by omega,by omega⟩
 have r1:=half_rest hy1 h1
 rw [eY] at r1
 have hy0:HY (y * p / 4294967296) (y * p % 4294967296) (U * 4294967296+L / 4294967296 - q1 * (y * p)) (L % 4294967296):=⟨⟨by omega,by omega⟩,⟨by omega,by omega⟩,⟨by omega,by omega⟩,by omega,by omega⟩
 have r0:=half_rest hy0 h0
 rw [eY] at r0
 have i1:=h1.1
 have i0:=h0.1
 rw [u64_id (n:=q1 * 4294967296) (by omega) (by omega),u64_id (by omega) (by omega)]
 generalize hR:(U * 4294967296+L / 4294967296 - q1 * (y * p)) * 4294967296+L % 4294967296 - q0 * (y * p)=R at *
 have e:(q1 * 4294967296+q0) * (y * p)=q1 * (y * p) * 4294967296+q0 * (y * p):=by rw [Int.add_mul,Int.mul_right_comm]
 have hq:N * p=(q1 * 4294967296+q0) * (y * p)+R:=by rw [e]; omega
 have hR2:R=(N - (q1 * 4294967296+q0) * y) * p:=by rw [Int.sub_mul,Int.mul_assoc]; omega
 have hpos:0≤N - (q1 * 4294967296+q0) * y:=by
  rcases Int.lt_or_le (N - (q1 * 4294967296+q0) * y) 0 with c | c
  ·have:=Int.mul_neg_of_neg_of_pos c hp
   omega
  ·exact c
 have hlt:N - (q1 * 4294967296+q0) * y < y:=by
  rcases Int.lt_or_le (N - (q1 * 4294967296+q0) * y) y with c | c
  ·exact c
  ·have:=Int.mul_le_mul_of_nonneg_right c (Int.le_of_lt hp)
   omega
 have hd:N / y=q1 * 4294967296+q0:=by
  rw [Int.ediv_eq_iff_of_pos hy]
  constructor
  ·omega
  ·omega
 refine ⟨hd.symm,?_⟩
 rw [hR2,Int.mul_ediv_cancel _ (by omega),Int.emod_def,hd,Int.mul_comm y]
noncomputable def bits_Div64_sk (hi:Int) (lo:Int) (y:Int):Sk (Int × Int) :=
 .bind false (fun _=>True)
 (.br (y == 0)
 (.dead default)
 (.fin (.inr ())))
 (fun (_:Unit)=>⟨[],[]⟩) fun _ =>
 .bind false (fun _=>True)
 (.br (decide (y≤hi))
 (.dead default)
 (.fin (.inr ())))
 (fun (_:Unit)=>⟨[],[]⟩) fun _ =>
 .br (hi == 0)
 (.r 6 (.andl (.p (y≠0)) (.p (y≠0))) fun _ =>
 .fin (IntKind.u64.wrap (lo.tdiv y),lo.tmod y))
 (.r 7 ((bits_LeadingZeros64_k y).c) fun x3 =>
 .r 8 (.p (0≤(IntKind.u64.wrap (x3)))) fun _ =>
 .r 9 (.p (0≤(32:Int))) fun _ =>
 .r 11 (.andl (.p (0≤(IntKind.u64.wrap (x3)))) (.p (0≤(IntKind.u64.wrap ((64:Int) - (IntKind.u64.wrap (x3))))))) fun _ =>
 .r 12 (.p (0≤(IntKind.u64.wrap (x3)))) fun _ =>
 .r 13 (.p (0≤(32:Int))) fun _ =>
 .r 15 (.p ((shrK .u64 (shlK .u64 y (IntKind.u64.wrap (x3))) 32)≠0)) fun _ =>
 .bind true (fun b4=>HQ (shrK .u64 (shlK .u64 y (IntKind.u64.wrap (x3))) 32) (andK .u64 (shlK .u64 y (IntKind.u64.wrap (x3))) 4294967295) (orK .u64 (shlK .u64 hi (IntKind.u64.wrap (x3))) (shrK .u64 lo (IntKind.u64.wrap ((64:Int) - (IntKind.u64.wrap (x3)))))) (shrK .u64 (shlK .u64 lo (IntKind.u64.wrap (x3))) 32) b4.1)
 (.loop (default:Sum (Int × Int) (Int × Int)) (fun i5=>HI (shrK .u64 (shlK .u64 y (IntKind.u64.wrap (x3))) 32) (andK .u64 (shlK .u64 y (IntKind.u64.wrap (x3))) 4294967295) (orK .u64 (shlK .u64 hi (IntKind.u64.wrap (x3))) (shrK .u64 lo (IntKind.u64.wrap ((64:Int) - (IntKind.u64.wrap (x3)))))) (shrK .u64 (shlK .u64 lo (IntKind.u64.wrap (x3))) 32) i5.1 i5.2) (fun i5=>i5.1.toNat) ((IntKind.u64.wrap ((orK .u64 (shlK .u64 hi (IntKind.u64.wrap (x3))) (shrK .u64 lo (IntKind.u64.wrap ((64:Int) - (IntKind.u64.wrap (x3)))))).tdiv (shrK .u64 (shlK .u64 y (IntKind.u64.wrap (x3))) 32)),IntKind.u64.wrap ((orK .u64 (shlK .u64 hi (IntKind.u64.wrap (x3))) (shrK .u64 lo (IntKind.u64.wrap ((64:Int) - (IntKind.u64.wrap (x3)))))) - (IntKind.u64.wrap ((IntKind.u64.wrap ((orK .u64 (shlK .u64 hi (IntKind.u64.wrap (x3))) (shrK .u64 lo (IntKind.u64.wrap ((64:Int) - (IntKind.u64.wrap (x3)))))).tdiv (shrK .u64 (shlK .u64 y (IntKind.u64.wrap (x3))) 32))) * (shrK .u64 (shlK .u64 y (IntKind.u64.wrap (x3))) 32))))):Int × Int)
 (fun (i5:Int × Int)=>⟨[(15,.d (.v (.int .u64 i5.1))),(16,.d (.v (.int .u64 i5.2)))],[]⟩) fun i5 =>
 .br ((decide (i5.1≥4294967296))||(decide ((IntKind.u64.wrap (i5.1 * (andK .u64 (shlK .u64 y (IntKind.u64.wrap (x3))) 4294967295))) > (IntKind.u64.wrap ((IntKind.u64.wrap ((4294967296:Int) * i5.2))+(shrK .u64 (shlK .u64 lo (IntKind.u64.wrap (x3))) 32))))))
 (.br (decide ((IntKind.u64.wrap (i5.2+(shrK .u64 (shlK .u64 y (IntKind.u64.wrap (x3))) 32)))≥4294967296))
 (.fin (.inl (.inr (IntKind.u64.wrap (i5.1 - 1),IntKind.u64.wrap (i5.2+(shrK .u64 (shlK .u64 y (IntKind.u64.wrap (x3))) 32))))))
 (.fin (.inr (IntKind.u64.wrap (i5.1 - 1),IntKind.u64.wrap (i5.2+(shrK .u64 (shlK .u64 y (IntKind.u64.wrap (x3))) 32))))))
 (.fin (.inl (.inr (i5.1,i5.2)))))
 (fun (b4:Int × Int)=>⟨[(15,.d (.v (.int .u64 b4.1))),(16,.d (.v (.int .u64 b4.2)))],[]⟩) fun b4 =>
 .r 22 (.p ((shrK .u64 (shlK .u64 y (IntKind.u64.wrap (x3))) 32)≠0)) fun _ =>
 .bind true (fun b6=>HQ (shrK .u64 (shlK .u64 y (IntKind.u64.wrap (x3))) 32) (andK .u64 (shlK .u64 y (IntKind.u64.wrap (x3))) 4294967295) (IntKind.u64.wrap ((IntKind.u64.wrap ((IntKind.u64.wrap ((orK .u64 (shlK .u64 hi (IntKind.u64.wrap (x3))) (shrK .u64 lo (IntKind.u64.wrap ((64:Int) - (IntKind.u64.wrap (x3)))))) * 4294967296))+(shrK .u64 (shlK .u64 lo (IntKind.u64.wrap (x3))) 32))) - (IntKind.u64.wrap (b4.1 * (shlK .u64 y (IntKind.u64.wrap (x3))))))) (andK .u64 (shlK .u64 lo (IntKind.u64.wrap (x3))) 4294967295) b6)
 (.loop (default:Sum (Int × Int) (Int)) (fun i7=>HI (shrK .u64 (shlK .u64 y (IntKind.u64.wrap (x3))) 32) (andK .u64 (shlK .u64 y (IntKind.u64.wrap (x3))) 4294967295) (IntKind.u64.wrap ((IntKind.u64.wrap ((IntKind.u64.wrap ((orK .u64 (shlK .u64 hi (IntKind.u64.wrap (x3))) (shrK .u64 lo (IntKind.u64.wrap ((64:Int) - (IntKind.u64.wrap (x3)))))) * 4294967296))+(shrK .u64 (shlK .u64 lo (IntKind.u64.wrap (x3))) 32))) - (IntKind.u64.wrap (b4.1 * (shlK .u64 y (IntKind.u64.wrap (x3))))))) (andK .u64 (shlK .u64 lo (IntKind.u64.wrap (x3))) 4294967295) i7.2 i7.1) (fun i7=>i7.2.toNat) ((IntKind.u64.wrap ((IntKind.u64.wrap ((IntKind.u64.wrap ((IntKind.u64.wrap ((orK .u64 (shlK .u64 hi (IntKind.u64.wrap (x3))) (shrK .u64 lo (IntKind.u64.wrap ((64:Int) - (IntKind.u64.wrap (x3)))))) * 4294967296))+(shrK .u64 (shlK .u64 lo (IntKind.u64.wrap (x3))) 32))) - (IntKind.u64.wrap (b4.1 * (shlK .u64 y (IntKind.u64.wrap (x3))))))) - (IntKind.u64.wrap ((IntKind.u64.wrap ((IntKind.u64.wrap ((IntKind.u64.wrap ((IntKind.u64.wrap ((orK .u64 (shlK .u64 hi (IntKind.u64.wrap (x3))) (shrK .u64 lo (IntKind.u64.wrap ((64:Int) - (IntKind.u64.wrap (x3)))))) * 4294967296))+(shrK .u64 (shlK .u64 lo (IntKind.u64.wrap (x3))) 32))) - (IntKind.u64.wrap (b4.1 * (shlK .u64 y (IntKind.u64.wrap (x3))))))).tdiv (shrK .u64 (shlK .u64 y (IntKind.u64.wrap (x3))) 32))) * (shrK .u64 (shlK .u64 y (IntKind.u64.wrap (x3))) 32)))),IntKind.u64.wrap ((IntKind.u64.wrap ((IntKind.u64.wrap ((IntKind.u64.wrap ((orK .u64 (shlK .u64 hi (IntKind.u64.wrap (x3))) (shrK .u64 lo (IntKind.u64.wrap ((64:Int) - (IntKind.u64.wrap (x3)))))) * 4294967296))+(shrK .u64 (shlK .u64 lo (IntKind.u64.wrap (x3))) 32))) - (IntKind.u64.wrap (b4.1 * (shlK .u64 y (IntKind.u64.wrap (x3))))))).tdiv (shrK .u64 (shlK .u64 y (IntKind.u64.wrap (x3))) 32))):Int × Int)
 (fun (i7:Int × Int)=>⟨[(16,.d (.v (.int .u64 i7.1))),(18,.d (.v (.int .u64 i7.2)))],[]⟩) fun i7 =>
 .br ((decide (i7.2≥4294967296))||(decide ((IntKind.u64.wrap (i7.2 * (andK .u64 (shlK .u64 y (IntKind.u64.wrap (x3))) 4294967295))) > (IntKind.u64.wrap ((IntKind.u64.wrap ((4294967296:Int) * i7.1))+(andK .u64 (shlK .u64 lo (IntKind.u64.wrap (x3))) 4294967295))))))
 (.br (decide ((IntKind.u64.wrap (i7.1+(shrK .u64 (shlK .u64 y (IntKind.u64.wrap (x3))) 32)))≥4294967296))
 (.fin (.inl (.inr (IntKind.u64.wrap (i7.2 - 1)))))
 (.fin (.inr (IntKind.u64.wrap (i7.1+(shrK .u64 (shlK .u64 y (IntKind.u64.wrap (x3))) 32)),IntKind.u64.wrap (i7.2 - 1)))))
 (.fin (.inl (.inr i7.2))))
 (fun (b6:Int)=>⟨[(18,.d (.v (.int .u64 b6)))],[]⟩) fun b6 =>
 .r 28 (.p (0≤(IntKind.u64.wrap (x3)))) fun _ =>
 .fin (IntKind.u64.wrap ((IntKind.u64.wrap (b4.1 * 4294967296))+b6),shrK .u64 (IntKind.u64.wrap ((IntKind.u64.wrap ((IntKind.u64.wrap ((IntKind.u64.wrap ((IntKind.u64.wrap ((IntKind.u64.wrap ((orK .u64 (shlK .u64 hi (IntKind.u64.wrap (x3))) (shrK .u64 lo (IntKind.u64.wrap ((64:Int) - (IntKind.u64.wrap (x3)))))) * 4294967296))+(shrK .u64 (shlK .u64 lo (IntKind.u64.wrap (x3))) 32))) - (IntKind.u64.wrap (b4.1 * (shlK .u64 y (IntKind.u64.wrap (x3))))))) * 4294967296))+(andK .u64 (shlK .u64 lo (IntKind.u64.wrap (x3))) 4294967295))) - (IntKind.u64.wrap (b6 * (shlK .u64 y (IntKind.u64.wrap (x3))))))) (IntKind.u64.wrap (x3))))
noncomputable def bits_Div64 (hi:Int) (lo:Int) (y:Int):Int × Int:=(bits_Div64_sk hi lo y).val
theorem bits_Div64_pst (hi:Int) (lo:Int) (y:Int) (hP:0≤hi∧hi < y∧y < 18446744073709551616∧0≤lo∧lo < 18446744073709551616):(bits_Div64_sk hi lo y).pst (fun (x:Int × Int)=>x.1=(hi * 18446744073709551616+lo) / y∧x.2=(hi * 18446744073709551616+lo) % y):=by
 refine Sk.pst_of _ ?_
 unfold bits_Div64_sk
 simp only [Sk.pstq,Sk.isLoop,reduceCtorEq,ON,kk,bits_LeadingZeros64_k,maxLen]
 refine ⟨fun h=>by simp only [LN] at h; omega,fun _ _=>⟨fun h=>by simp only [LN] at h; omega,fun _ _=>⟨fun h0 _=>?_,fun _ x _ hx=>?_⟩⟩⟩
 ·simp only [LN] at h0
  subst h0
  have e:=Int.tdiv_eq_ediv_of_nonneg (a:=lo) (b:=y) hP.2.2.2.1
  have e2:=Int.tmod_eq_emod_of_nonneg (a:=lo) (b:=y) hP.2.2.2.1
  have q0:0≤lo / y:=Int.ediv_nonneg hP.2.2.2.1 (by omega)
  have q1:lo / y≤lo:=Int.ediv_le_self _ hP.2.2.2.1
  rw [e,e2,u64_id q0 (by omega)]
  simp
 ·have hx:=hx ⟨by omega,by omega⟩
  obtain ⟨U,L,eU,eL,eY,hL,hU,hN⟩:=div_parts hP hx
  simp only [eU,eL,eY,shr32]
  have hp:(0:Int) < 2 ^ x.toNat:=Int.pow_pos (by omega)
  have es:∀ a:Int,shrK .u64 a (IntKind.u64.wrap x)=a / 2 ^ x.toNat:=fun a=>by
   rw [u64_id hx.1 (by omega)]
   exact shr_eq .u64 (b:=x) (by show 0≤x∧x≤64; omega)
  simp only [es]
  have hw:=fun q1 q0=>div_whole (y:=y) (q1:=q1) (q0:=q0) (by omega) hp hx.2.2 hL hU hN
  generalize hYY:y * 2 ^ x.toNat=Y at *
  rw [and_low (by omega) hx.2.2.2,and_low hL.1 hL.2]
  have eY2:Y / 4294967296 * 4294967296+Y % 4294967296=Y:=by omega
  have hy1:HY (Y / 4294967296) (Y % 4294967296) U (L / 4294967296):=⟨⟨by omega,by omega⟩,⟨by omega,by omega⟩,⟨by omega,by omega⟩,by omega,by omega⟩
  intro _ _ _ _ _ _
  refine ⟨⟨half_init hy1,fun i hi=>⟨fun hc=>?_,fun hc=>half_exit hy1 hi hc⟩⟩,fun b hb=>?_⟩
  ·have h:=half_step hy1 hi hc
   exact ⟨fun h2=>h.2.1 (of_decide_eq_true h2),fun h2=>⟨h.2.2 (Int.not_le.1 (of_decide_eq_false h2)),h.1⟩⟩
  ·have r1:=half_rest hy1 hb
   rw [eY2] at r1
   rw [r1.1]
   have hy0:HY (Y / 4294967296) (Y % 4294967296) (U * 4294967296+L / 4294967296 - b.1 * Y) (L % 4294967296):=⟨⟨by omega,by omega⟩,⟨by omega,by omega⟩,⟨by omega,by omega⟩,by omega,by omega⟩
   intro _
   refine ⟨⟨half_init hy0,fun i hi=>⟨fun hc=>?_,fun hc=>half_exit hy0 hi hc⟩⟩,fun q hq=>?_⟩
   ·have h:=half_step hy0 hi hc
    exact ⟨fun h2=>h.2.1 (of_decide_eq_true h2),fun h2=>⟨h.2.2 (Int.not_le.1 (of_decide_eq_false h2)),h.1⟩⟩
   ·intro _
    have r0:=half_rest hy0 hq
    rw [eY2] at r0
    rw [r0.1]
    exact hw _ _ hb hq
theorem bits_Div64_post (hi:Int) (lo:Int) (y:Int):(fun (x:Int × Int)=>(0≤hi∧hi < y∧y < 18446744073709551616∧0≤lo∧lo < 18446744073709551616)→(x.1=(hi * 18446744073709551616+lo) / y∧x.2=(hi * 18446744073709551616+lo) % y)) (bits_Div64 hi lo y):=fun hP=>Sk.pval _ (bits_Div64_pst hi lo y hP)
theorem bits_Div64_ok (hi:Int) (lo:Int) (y:Int) (hy:0≤hi∧hi < y∧y < 18446744073709551616∧0≤lo∧lo < 18446744073709551616):(bits_Div64_sk hi lo y).obs (fun _=>True):=by
 refine Sk.obs_of _ ?_
 unfold bits_Div64_sk
 simp only [Sk.obq,Sk.isLoop,reduceCtorEq,ON,kk,bits_LeadingZeros64_k,maxLen]
 refine ⟨fun h=>by simp only [LN] at h; omega,fun _ _=>⟨fun h=>by simp only [LN] at h; omega,fun _ _=>⟨fun _=>by omega,fun _=>⟨by omega,fun x _ hx=>?_⟩⟩⟩⟩
 have hx:=hx ⟨by omega,by omega⟩
 obtain ⟨U,L,eU,eL,eY,hL,hU,hN⟩:=div_parts hy hx
 simp only [eU,eL,eY,shr32]
 have hp:(0:Int) < 2 ^ x.toNat:=Int.pow_pos (by omega)
 generalize hYY:y * 2 ^ x.toNat=Y at *
 rw [and_low (by omega) hx.2.2.2,and_low hL.1 hL.2]
 have eY2:Y / 4294967296 * 4294967296+Y % 4294967296=Y:=by omega
 have hn:Y / 4294967296≠0:=by omega
 have hy1:HY (Y / 4294967296) (Y % 4294967296) U (L / 4294967296):=⟨⟨by omega,by omega⟩,⟨by omega,by omega⟩,⟨by omega,by omega⟩,by omega,by omega⟩
 refine ⟨(u64_rng _).1,fun _=>⟨by decide,fun _=>⟨⟨(u64_rng _).1,(u64_rng _).1⟩,fun _=>⟨(u64_rng _).1,fun _=>⟨by decide,fun _=>⟨hn,fun _=>⟨⟨half_init hy1,fun i hi=>⟨fun hc=>?_,fun hc=>half_exit hy1 hi hc⟩⟩,fun b hb=>⟨hn,fun _=>?_⟩⟩⟩⟩⟩⟩⟩⟩
 ·have h:=half_step hy1 hi hc
  exact ⟨fun h2=>h.2.1 (of_decide_eq_true h2),fun h2=>⟨h.2.2 (Int.not_le.1 (of_decide_eq_false h2)),h.1⟩⟩
 ·have r1:=half_rest hy1 hb
  rw [eY2] at r1
  rw [r1.1]
  have hy0:HY (Y / 4294967296) (Y % 4294967296) (U * 4294967296+L / 4294967296 - b.1 * Y) (L % 4294967296):=⟨⟨by omega,by omega⟩,⟨by omega,by omega⟩,⟨by omega,by omega⟩,by omega,by omega⟩
  refine ⟨⟨half_init hy0,fun i hi=>⟨fun hc=>?_,fun hc=>half_exit hy0 hi hc⟩⟩,fun q hq=>(u64_rng _).1⟩
  have h:=half_step hy0 hi hc
  exact ⟨fun h2=>h.2.1 (of_decide_eq_true h2),fun h2=>⟨h.2.2 (Int.not_le.1 (of_decide_eq_false h2)),h.1⟩⟩
noncomputable def bits_Div64_k (hi:Int) (lo:Int) (y:Int):Ctr (Int × Int):=kk tok mixed Tryz.func185 [.d (.v (.int .u64 hi)),.d (.v (.int .u64 lo)),.d (.v (.int .u64 y))] (fun x=>.tup [.d (.v (.int .u64 x.1)),.d (.v (.int .u64 x.2))]) true (bits_Div64_sk hi lo y) (bits_Div64 hi lo y) (fun (h:(0≤hi∧hi < y∧y < 18446744073709551616∧0≤lo∧lo < 18446744073709551616))=>bits_Div64_ok hi lo y h) (fun (x:Int × Int)=>(0≤hi∧hi < y∧y < 18446744073709551616∧0≤lo∧lo < 18446744073709551616)→(x.1=(hi * 18446744073709551616+lo) / y∧x.2=(hi * 18446744073709551616+lo) % y)) (bits_Div64_post hi lo y)
noncomputable def money_part_sk (a:Int) (b:Int) (c_:Int):Sk (Int × Int × Bool) :=
 .r 1 ((bits_Mul64_k (IntKind.u64.wrap (a)) (IntKind.u64.wrap (b))).c) fun x1 =>
 .br (decide (x1.1≥(IntKind.u64.wrap (c_))))
 (.fin (0,0,false))
 (.r 4 ((bits_Div64_k x1.1 x1.2 (IntKind.u64.wrap (c_))).c) fun x2 =>
 .br (decide (x2.1 > 1099511627776))
 (.fin (0,0,false))
 (.fin (w64 (x2.1),w64 (x2.2),true)))
noncomputable def money_part (a:Int) (b:Int) (c_:Int):Int × Int × Bool:=(money_part_sk a b c_).val
theorem money_part_pst (a:Int) (b:Int) (c_:Int) (hP:(0≤a∧a≤9223372036854775807)∧(0≤b∧b≤9223372036854775807)∧0 < c_∧c_≤9223372036854775807):(money_part_sk a b c_).pst (fun (x:Int × Int × Bool)=>x.2.2=true→(0≤x.1∧x.1≤1099511627776)∧x.1=a * b / c_∧x.2.1=a * b % c_):=by
 refine Sk.pst_of _ ?_
 unfold money_part_sk
 simp only [Sk.pstq,Sk.isLoop,reduceCtorEq,ON,kk,bits_Div64_k,bits_Mul64_k,maxLen]
 obtain ⟨ha,hb,hc1,hc2⟩:=hP
 rw [u64_id (n:=a) ha.1 (by omega),u64_id (n:=b) hb.1 (by omega),u64_id (n:=c_) (by omega) (by omega)]
 intro x _ hx
 obtain ⟨x1,x2,x3⟩:=hx ⟨⟨ha.1,by omega⟩,hb.1,by omega⟩
 intro hc y _ hy hc3
 simp only [LN] at hc hc3
 have hy:=hy ⟨x1.1,by omega,by omega,x2.1,x2.2⟩
 rw [x3] at hy
 have q0:0≤a * b / c_:=Int.ediv_nonneg (Int.mul_nonneg ha.1 hb.1) (by omega)
 have m0:=Int.emod_nonneg (a * b) (b:=c_) (by omega)
 have m1:=Int.emod_lt_of_pos (a * b) (b:=c_) hc1
 rw [w64_id (n:=y.1) (by omega) (by omega),w64_id (n:=y.2) (by omega) (by omega)]
 omega
theorem money_part_post (a:Int) (b:Int) (c_:Int):(fun (x:Int × Int × Bool)=>((0≤a∧a≤9223372036854775807)∧(0≤b∧b≤9223372036854775807)∧0 < c_∧c_≤9223372036854775807)→(x.2.2=true→(0≤x.1∧x.1≤1099511627776)∧x.1=a * b / c_∧x.2.1=a * b % c_)) (money_part a b c_):=fun hP=>Sk.pval _ (money_part_pst a b c_ hP)
theorem money_part_ok (a:Int) (b:Int) (c_:Int):(money_part_sk a b c_).obs (fun _=>True):=by
 refine Sk.obs_of _ ?_
 unfold money_part_sk
 simp only [Sk.obq,Sk.isLoop,reduceCtorEq,ON,kk,bits_Div64_k,bits_Mul64_k,maxLen]
 intro x _ h hc
 simp only [LN] at hc
 obtain ⟨x1,x2,-⟩:=h ⟨u64_rng _,u64_rng _⟩
 exact ⟨x1.1,by omega,(u64_rng _).2,x2.1,x2.2⟩
noncomputable def money_part_k (a:Int) (b:Int) (c_:Int):Ctr (Int × Int × Bool):=kk tok mixed Tryz.func114 [iv a,iv b,iv c_] (fun x=>.tup [iv x.1,iv x.2.1,bv x.2.2]) true (money_part_sk a b c_) (money_part a b c_) (fun (_:True)=>money_part_ok a b c_) (fun (x:Int × Int × Bool)=>((0≤a∧a≤9223372036854775807)∧(0≤b∧b≤9223372036854775807)∧0 < c_∧c_≤9223372036854775807)→(x.2.2=true→(0≤x.1∧x.1≤1099511627776)∧x.1=a * b / c_∧x.2.1=a * b % c_)) (money_part_post a b c_)
end Go.Proofs.YtbcnlpcaajpclaaGreatDoor
