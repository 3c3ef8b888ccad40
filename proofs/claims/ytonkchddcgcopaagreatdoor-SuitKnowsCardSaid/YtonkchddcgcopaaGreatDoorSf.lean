/- Functions, as sketches. -/
import Derived.Test.YtonkchddcgcopaaGreatDoorSe
import Derived.RangeFuncNested
import Derived.RangeFuncBound
import Derived.RangeFuncBox
import Derived.RangeFuncFrom
import Derived.RangeFuncCalls
import Derived.RangeFuncLeaves
import Derived.Shelf.Abstract
import Derived.OwnWalkIn
import Derived.TacticsInMore
import Derived.LoopNIn
import Derived.LoopIn
set_option linter.unusedSimpArgs false
set_option linter.unusedVariables false
set_option maxHeartbeats 1000000
set_option maxRecDepth 100000
namespace Go.Proofs.YtonkchddcgcopaaGreatDoor
noncomputable section
open Go Go.Av
def qY (f:ak) (day:Int):Sk (View) :=
 .r 1 ((aV f day).c) fun x1 =>
 .r 2 (.o [.aZ (sx dB)]) fun _ =>
 .bt
 (.loop (default:Sum (View) ((List (Int × Bool)))) (fun i3=>i3.1≤x1.aw.length) (fun i3=>x1.aw.length - i3.1) ((0,([]:List (Int × Bool))):Nat × (List (Int × Bool)))
 (fun (i3:Nat × (List (Int × Bool)))=>⟨[(22,iv ((i3.1:Nat):Int))],[(17,SN dB i3.2)]⟩) fun i3 =>
 .lt 20 0 i3.1 x1.aw.length
 (.r 5 (.p (bU ((i3.1:Nat):Int) x1.aw.length)) fun _ =>
 .br (((x1.aw.getD i3.1 default).kind) == 7)
 (.r 7 (.aj (.t (pv dB i3.2)) (.o [.aZ (Ws dB i3.2 ((x1.aw.getD i3.1 default).at_) true)])) fun _ =>
 .r 8 .z fun _ =>
 .wi 22 (ar (((i3.1:Nat):Int)+1)) ((i3.1+1:Nat):Int) <|
 .fin (.inr (i3.1+1,nC i3.2 ((x1.aw.getD i3.1 default).at_) true)))
 (.nx 8 22 i3.1 (i3.1+1,i3.2)))
 (.fin (.inl (.inr i3.2))))
 (fun (b2:(List (Int × Bool)))=>⟨[],[(17,SN dB b2)]⟩) fun b2 =>
 .bind true (fun b4=>b4.length≤0+x1.af.length)
 (.loop (default:Sum (View) ((List Int))) (fun i5=>i5.1≤x1.af.length∧i5.2.length≤0+i5.1) (fun i5=>x1.af.length - i5.1) ((0,[]):Nat × (List Int))
 (fun (i5:Nat × (List Int))=>⟨[(37,iv ((i5.1:Nat):Int))],[(100002,bw 3 1 bI i5.2),(5,.box (f.cells.map .d++x1.cells.map .d++[iv day,ow 100002 i5.2]))]⟩) fun i5 =>
 .lt 35 0 i5.1 x1.af.length
 (.r 11 (.p (bU ((i5.1:Nat):Int) x1.af.length)) fun _ =>
 .r 12 (.wh (((x1.af.getD i5.1 default).kind) == 2) true (.aj (.t (pv dB b2)) (.o [.cast 48 (getM dB b2 ((i5.1:Nat):Int) false)]))) fun _ =>
 .br ((((x1.af.getD i5.1 default).kind) == 2)&&(!(cT b2 ((i5.1:Nat):Int) false)))
 (.r 13 (.aj (.o [.eG (fm dm [(x1.af.getD i5.1 default).part])]) (.aj (.o [.eG (mY dm i5.2 [(x1.af.getD i5.1 default).part])]) (.aj (.t (dm.ou [(x1.af.getD i5.1 default).part])) (.p (yE i5.2.length [(x1.af.getD i5.1 default).part].length 8))))) fun _ =>
 .nx 14 37 i5.1 (i5.1+1,i5.2++[(x1.af.getD i5.1 default).part]))
 (.nx 14 37 i5.1 (i5.1+1,i5.2)))
 (.fin (.inl (.inr i5.2))))
 (fun (b4:(List Int))=>⟨[],[(100001,bw 3 1 bI b4),(5,.box (f.cells.map .d++x1.cells.map .d++[iv day,ow 100001 b4]))]⟩) fun b4 =>
 .r 15 ((tc 100001 b4).c) fun x6 =>
 .wn 100001 b4.length x6.length <|
 .r 16 ((oL 100001 64 x6).c) fun x7 =>
 .br (((x7.length:Nat):Int) == 0)
 (.r 18 (.o [.eG (fm dm [0])]) fun _ =>
 .fin ({ all:=f,now:=x1,day:=day,lead:=[0] }:View))
 (.fin ({ all:=f,now:=x1,day:=day,lead:=x7 }:View))
def aD f day:=(qY f day).val
theorem FU (f:ak) (day:Int):(qY f day).dj (fun (x:View)=>x.all=f∧x.now=ai f day∧x.day=day∧x.lead.length≠0∧x.lead.length≤1+f.af.length):=by
  unfold qY
  try simp only [aV,oL,tc,Ji.c,yU.c,ak.Small,ah.Small]
  exact Fz

theorem D3 (f:ak) (day:Int):(fun (x:View)=>x.all=f∧x.now=ai f day∧x.day=day∧x.lead.length≠0∧x.lead.length≤1+f.af.length) (aD f day):=have h:=Sk.dk _ (FU f day); h
theorem Ut (f:ak) (day:Int) (bj:f.Small):(qY f day).bC (fun _=>True):=by
  simp only [ak.Small,ah.Small] at bj
  unfold qY
  try simp only [aV,oL,tc,Ji.c,yU.c,ak.Small,ah.Small]
  exact mA

def Et f day:=kp tok mixed Tryz.func142 [av f.cells,iv day] (fun x=>av x.cells) false (aD f day) (Ut f day) (FU f day)
structure aJ where
  known:Bool
  n:Int
  deriving Inhabited
def aJ.cells (c:aJ):List D:=[dB c.known,dI c.n]
def aJ.E:P5 aJ:=⟨aJ.cells,2,fun _=>rfl,fun _=>rfl⟩
structure mb where
  cell:aJ
  order:Int
  path:List Int
  err:Int
  deriving Inhabited
def mb.cells (c:mb):List D:=c.cell.cells++[dI c.order,nJ bI c.path,dI c.err]
structure fF where
  file:ak
  sign:Int
  jy:Int
  ch:Int
  due:Int
  day:Int
  deriving Inhabited
def fF.cells (c:fF):List D:=c.file.cells++[dI c.sign,dI c.jy,dI c.ch,dI c.due,dI c.day]
def ni (a:dU) (v:fF):Sk (Bool) :=
 .fin (decide (a.at_≤v.sign))
def gn a v:=(ni a v).val
theorem rK (a:dU) (v:fF):gn a v=(decide (a.at_≤v.sign)):=rfl
theorem FV (a:dU) (v:fF):(ni a v).bC (fun _=>True):=by
  unfold ni
  exact qT

def sN a v:=kk tok mixed Tryz.func164 [av a.cells,.ref v.cells] (fun x=>bv x) true (ni a v) (gn a v) (u0 (FV a v))
def fH (s:List dU) (v:fF):Sk (Int) :=
 .bind true (fun b1=>∀ q,q < s.length→gn (s.getD q default) v=false)
 (.loop (default:Sum (Int) (Unit)) (fun i2=>∀ q,q < i2→gn (s.getD q default) v=false) (fun i2=>s.length - i2) (0:Nat)
 (fun (i2:Nat)=>⟨[(8,iv ((i2:Nat):Int))],[]⟩) fun i2 =>
 .lt 0 0 i2 s.length
 (.r 4 (.aj (.p (bU ((i2:Nat):Int) s.length)) ((sN (s.getD i2 default) v).c)) fun x3 =>
 .br x3
 (.fin (.inl (.inl ((i2:Nat):Int))))
 (.nx 6 8 i2 (i2+1)))
 (.fin (.inl (.inr ()))))
 (fun (_:Unit)=>⟨[],[]⟩) fun _ =>
 .fin (-1)
def Ca s v:=(fH s v).val
theorem xY (s:List dU) (v:fF):(fH s v).dj (fun (x:Int)=>(x = -1∧∀ q,q < s.length→gn (s.getD q default) v=false)∨(0≤x∧x < s.length∧gn (s.getD x.toNat default) v=true∧∀ q,(q:Nat) < x.toNat→gn (s.getD q default) v=false)):=by
  unfold fH
  try simp only [sN,rK]
  exact Ww

theorem zf (s:List dU) (v:fF):(fH s v).bC (fun _=>True):=by
  unfold fH
  try simp only [sN,rK]
  exact Bu

def mc s v:=kp tok mixed Tryz.func199 [lv dU.cells s,.fn 164 [.ref v.cells]] (fun x=>iv x) true (Ca s v) (u0 (zf s v)) (xY s v)
def dV (s:List dU) (v:fF):Sk (Bool) :=
 .r 1 ((mc s v).c) fun x1 =>
 .fin (decide (x1≥0))
def lH s v:=(dV s v).val
theorem nj (s:List dU) (v:fF):(dV s v).dj (fun (x:Bool)=>(x=true↔∃ q,q < s.length∧gn (s.getD q default) v=true)):=by
  unfold dV
  try simp only [mc]
  exact Fz

theorem ux (s:List dU) (v:fF):(fun (x:Bool)=>(x=true↔∃ q,q < s.length∧gn (s.getD q default) v=true)) (lH s v):=have h:=Sk.dk _ (nj s v); h
theorem v8 (s:List dU) (v:fF):(dV s v).bC (fun _=>True):=by
  unfold dV
  try simp only [mc]
  exact qT

def gF s v:=kp tok mixed Tryz.func163 [lv dU.cells s,.fn 164 [.ref v.cells]] (fun x=>bv x) true (lH s v) (u0 (v8 s v)) (nj s v)
def oM (r:ah) (cH:Int):Sk (Int) :=
 .r 1 ((cK cH ((r.aN.length:Nat):Int)).c) fun x1 =>
 .br (!x1)
 (.fin (-1))
 (.r 3 (.p (bU cH r.aN.length)) fun _ =>
 .fin ((r.aN.getD cH.toNat default).order))
def OW r cH:=(oM r cH).val
theorem Hu (r:ah) (cH:Int):(oM r cH).bC (fun _=>True):=by
  unfold oM
  try simp only [cK,kj]
  exact Bu

def db r cH:=kk tok mixed Tryz.func129 [av r.cells,iv cH] (fun x=>iv x) true (oM r cH) (OW r cH) (u0 (Hu r cH))
def qj (OX:Bool):Sk (aJ) :=
 .br OX
 (.fin ({ known:=true,n:=1 }:aJ))
 (.fin ({ known:=true,n:=0 }:aJ))
def u9 OX:=(qj OX).val
theorem JJ (OX:Bool):(qj OX).bC (fun _=>True):=by
  unfold qj
  exact qT

def lI OX:=kk tok mixed Tryz.func67 [bv OX] (fun x=>av x.cells) true (qj OX) (u9 OX) (u0 (JJ OX))
def nQ (f:ak) (kind:Int) (at_:Int):Sk (aJ) :=
 .bt
 (.loop (default:Sum (aJ) (Unit)) (fun i2=>i2≤f.facts.length) (fun i2=>f.facts.length - i2) (0:Nat)
 (fun (i2:Nat)=>⟨[(12,iv ((i2:Nat):Int))],[]⟩) fun i2 =>
 .lt 10 0 i2 f.facts.length
 (.r 3 (.p (bU ((i2:Nat):Int) f.facts.length)) fun _ =>
 .br ((((f.facts.getD i2 default).kind) == kind)&&(((f.facts.getD i2 default).at_) == at_))
 (.r 5 ((lI (((f.facts.getD i2 default).n) != 0)).c) fun x3 =>
 .fin (.inl (.inl x3)))
 (.nx 6 12 i2 (i2+1)))
 (.fin (.inl (.inr ()))))
 (fun (_:Unit)=>⟨[],[]⟩) fun _ =>
 .fin ({ known:=false,n:=0 }:aJ)
def bB f kind at_:=(nQ f kind at_).val
theorem Mp (f:ak) (kind:Int) (at_:Int):(nQ f kind at_).bC (fun _=>True):=by
  unfold nQ
  try simp only [lI]
  exact mA

def cI f kind at_:=kk tok mixed Tryz.func44 [av f.cells,iv kind,iv at_] (fun x=>av x.cells) true (nQ f kind at_) (bB f kind at_) (u0 (Mp f kind at_))
def lJ (r:ah) (c_:fF):Sk ((List aJ)) :=
 .r 3 (.dep ((fq c_.sign ((c_.file.af.length:Nat):Int)).c) fun x1=>.wh (((!x1)||(decide (c_.jy < (-1))))||(decide ((bX c_.jy 0)≥((c_.file.af.length:Nat):Int)))) false (.wh (c_.due != (-1)) true ((fq c_.due 100001).c))) fun p25 =>
 .br ((((!p25.1)||(decide (c_.jy < (-1))))||(decide ((bX c_.jy 0)≥((c_.file.af.length:Nat):Int))))||((c_.due != (-1))&&(!p25.2)))
 (.fin [])
 (.r 5 (.p (bU c_.sign c_.file.af.length)) fun _ =>
 .r 6 ((fq ((c_.file.af.getD c_.sign.toNat default).day) 100001).c) fun x3 =>
 .br (!x3)
 (.fin [])
 (.bind false (fun _=>True)
 (.br (c_.due != (-1))
 (.fin (.inr (ar (((c_.file.af.getD c_.sign.toNat default).day) - c_.due))))
 (.fin (.inr 0)))
 (fun (b4:Int)=>⟨[(9,iv b4)],[]⟩) fun b4 =>
 .r 11 (.aj (.o [.eG (mkC aJ.E 20 ({ known:=false,n:=0 }:aJ))]) (.p (Zf (20:Int) 16))) fun _ =>
 .r 12 (.aj (.o [.aZ afU]) (.aj (.o [.aZ (afT dI 0 c_.file.aU.sum)]) (.aj (.o [.aZ (G5 dI [0] [c_.file.aU.sum] rfl 1 c_.file.aU.parts)]) (.aj (.o [.aZ (G5 dI [0,1] [c_.file.aU.sum,c_.file.aU.parts] rfl 2 c_.file.aU.df.kind)]) (.aj (.o [.aZ (G5 dI [0,1,2] [c_.file.aU.sum,c_.file.aU.parts,c_.file.aU.df.kind] rfl 3 c_.file.aU.mD)]) (.aj (.o [.aZ (G5 dI [0,1,2,3] [c_.file.aU.sum,c_.file.aU.parts,c_.file.aU.df.kind,c_.file.aU.mD] rfl 4 ((c_.file.af.getD c_.sign.toNat default).kind))]) (.aj (.o [.aZ (G5 dI [0,1,2,3,4] [c_.file.aU.sum,c_.file.aU.parts,c_.file.aU.df.kind,c_.file.aU.mD,(c_.file.af.getD c_.sign.toNat default).kind] rfl 5 c_.ch)]) (.o [.aZ (G5 dI [0,1,2,3,4,5] [c_.file.aU.sum,c_.file.aU.parts,c_.file.aU.df.kind,c_.file.aU.mD,(c_.file.af.getD c_.sign.toNat default).kind,c_.ch] rfl 6 b4)])))))))) fun _ =>
 .bind true (fun b5=>b5.length=20)
 (.mr 7 (fun g6=>g6.length=20) (List.replicate 20 ({ known:=false,n:=0 }:aJ):(List aJ))
 (fun g6 s8=>⟨[(10,ow 100002 g6)],[(100002,bw 72 2 aJ.cells g6),(90,.it 74 7 s8)]⟩)
 (fun g9=>⟨[(10,ow 100002 g9)],[(100002,bw 72 2 aJ.cells g9)]⟩)
 (fun g6 i7 =>
 .KF <|
 .r 14 (.p (i7 < 7)) fun _ =>
 .r 15 (.aj (.p (bU (([0,1,2,3,4,5,6]:List Int).getD i7 0) g6.length)) (.aj (.o [.eG (uh aJ.E g6 ((([0,1,2,3,4,5,6]:List Int).getD i7 0).toNat) ({ known:=true,n:=([c_.file.aU.sum,c_.file.aU.parts,c_.file.aU.df.kind,c_.file.aU.mD,(c_.file.af.getD c_.sign.toNat default).kind,c_.ch,b4]:List Int).getD i7 default }:aJ))]) (.p ((([0,1,2,3,4,5,6]:List Int).getD i7 0).toNat < g6.length)))) fun _ =>
 .wn 100002 g6.length (g6.set ((([0,1,2,3,4,5,6]:List Int).getD i7 0).toNat) ({ known:=true,n:=([c_.file.aU.sum,c_.file.aU.parts,c_.file.aU.df.kind,c_.file.aU.mD,(c_.file.af.getD c_.sign.toNat default).kind,c_.ch,b4]:List Int).getD i7 default }:aJ)).length <|
 .fin (g6.set ((([0,1,2,3,4,5,6]:List Int).getD i7 0).toNat) ({ known:=true,n:=([c_.file.aU.sum,c_.file.aU.parts,c_.file.aU.df.kind,c_.file.aU.mD,(c_.file.af.getD c_.sign.toNat default).kind,c_.ch,b4]:List Int).getD i7 default }:aJ))) fun g9 =>
 .Dz <|
 .fin (.inr g9))
 (fun (b5:(List aJ))=>⟨[(90,.any),(10,ow 100001 b5)],[(100001,bw 72 2 aJ.cells b5)]⟩) fun b5 =>
 .r 16 ((gF c_.file.bn c_).c) fun Ma =>
 .r 17 (.dep ((db r c_.file.aU.cH).c) fun _=>(db r c_.file.aU.A2).c) fun p24 =>
 .r 18 (.aj (.o [.aZ afU]) (.aj (.o [.aZ (afT dB 7 ((eJ .i64 c_.file.aU.flags 1) != 0))]) (.aj (.o [.aZ (G5 dB [7] [(eJ .i64 c_.file.aU.flags 1) != 0] rfl 8 (c_.file.aU.gj == (-1)))]) (.aj (.o [.aZ (G5 dB [7,8] [(eJ .i64 c_.file.aU.flags 1) != 0,c_.file.aU.gj == (-1)] rfl 9 ((eJ .i64 c_.file.aU.flags 4) != 0))]) (.aj (.o [.aZ (G5 dB [7,8,9] [(eJ .i64 c_.file.aU.flags 1) != 0,c_.file.aU.gj == (-1),(eJ .i64 c_.file.aU.flags 4) != 0] rfl 10 ((eJ .i64 c_.file.aU.flags 2) != 0))]) (.aj (.o [.aZ (G5 dB [7,8,9,10] [(eJ .i64 c_.file.aU.flags 1) != 0,c_.file.aU.gj == (-1),(eJ .i64 c_.file.aU.flags 4) != 0,(eJ .i64 c_.file.aU.flags 2) != 0] rfl 11 (p24.1 != p24.2))]) (.aj (.o [.aZ (G5 dB [7,8,9,10,11] [(eJ .i64 c_.file.aU.flags 1) != 0,c_.file.aU.gj == (-1),(eJ .i64 c_.file.aU.flags 4) != 0,(eJ .i64 c_.file.aU.flags 2) != 0,p24.1 != p24.2] rfl 12 Ma)]) (.aj (.o [.aZ (G5 dB [7,8,9,10,11,12] [(eJ .i64 c_.file.aU.flags 1) != 0,c_.file.aU.gj == (-1),(eJ .i64 c_.file.aU.flags 4) != 0,(eJ .i64 c_.file.aU.flags 2) != 0,p24.1 != p24.2,Ma] rfl 13 ((eJ .i64 ((c_.file.af.getD c_.sign.toNat default).flags) 1) != 0))]) (.o [.aZ (G5 dB [7,8,9,10,11,12,13] [(eJ .i64 c_.file.aU.flags 1) != 0,c_.file.aU.gj == (-1),(eJ .i64 c_.file.aU.flags 4) != 0,(eJ .i64 c_.file.aU.flags 2) != 0,p24.1 != p24.2,Ma,(eJ .i64 ((c_.file.af.getD c_.sign.toNat default).flags) 1) != 0] rfl 14 (decide (b4 > 0)))]))))))))) fun _ =>
 .bind true (fun Eu=>Eu.length=20)
 (.mr 8 (fun g14=>g14.length=20) (b5:(List aJ))
 (fun g14 s16=>⟨[(10,ow 100005 g14)],[(100005,bw 72 2 aJ.cells g14),(139,.it 114 8 s16)]⟩)
 (fun g18=>⟨[(10,ow 100005 g18)],[(100005,bw 72 2 aJ.cells g18)]⟩)
 (fun g14 i15 =>
 .KF <|
 .r 20 (.p (i15 < 8)) fun _ =>
 .r 21 (.pz ((lI (([(eJ .i64 c_.file.aU.flags 1) != 0,c_.file.aU.gj == (-1),(eJ .i64 c_.file.aU.flags 4) != 0,(eJ .i64 c_.file.aU.flags 2) != 0,p24.1 != p24.2,Ma,(eJ .i64 ((c_.file.af.getD c_.sign.toNat default).flags) 1) != 0,decide (b4 > 0)]:List Bool).getD i15 default)).c) fun x17=>.aj (.p (bU (([7,8,9,10,11,12,13,14]:List Int).getD i15 0) g14.length)) (.aj (.o [.eG (uh aJ.E g14 ((([7,8,9,10,11,12,13,14]:List Int).getD i15 0).toNat) x17)]) (.p ((([7,8,9,10,11,12,13,14]:List Int).getD i15 0).toNat < g14.length)))) fun x17 =>
 .wn 100005 g14.length (g14.set ((([7,8,9,10,11,12,13,14]:List Int).getD i15 0).toNat) x17).length <|
 .fin (g14.set ((([7,8,9,10,11,12,13,14]:List Int).getD i15 0).toNat) x17)) fun g18 =>
 .Dz <|
 .fin (.inr g18))
 (fun (Eu:(List aJ))=>⟨[(139,.any),(10,ow 100004 Eu)],[(100004,bw 72 2 aJ.cells Eu)]⟩) fun Eu =>
 .r 22 (.pz ((cI c_.file 0 c_.sign).c) fun KH=>.aj (.p (bU (15:Int) Eu.length)) (.aj (.o [.eG (uh aJ.E Eu 15 KH)]) (.p (15 < Eu.length)))) fun KH =>
 .wn 100004 Eu.length (Eu.set 15 KH).length <|
 .r 23 (.pz ((cI c_.file 1 c_.sign).c) fun RI=>.aj (.p (bU (16:Int) ((Eu.set 15 KH).length))) (.aj (.o [.eG (uh aJ.E (Eu.set 15 KH) 16 RI)]) (.p (16 < (Eu.set 15 KH).length)))) fun RI =>
 .wn 100004 (Eu.set 15 KH).length ((Eu.set 15 KH).set 16 RI).length <|
 .r 24 (.pz ((cI c_.file 2 c_.sign).c) fun X7=>.aj (.p (bU (17:Int) (((Eu.set 15 KH).set 16 RI).length))) (.aj (.o [.eG (uh aJ.E ((Eu.set 15 KH).set 16 RI) 17 X7)]) (.p (17 < ((Eu.set 15 KH).set 16 RI).length)))) fun X7 =>
 .wn 100004 ((Eu.set 15 KH).set 16 RI).length (((Eu.set 15 KH).set 16 RI).set 17 X7).length <|
 .r 25 (.pz ((cI c_.file 3 (bX c_.jy 0)).c) fun x22=>.aj (.p (bU (18:Int) ((((Eu.set 15 KH).set 16 RI).set 17 X7).length))) (.aj (.o [.eG (uh aJ.E (((Eu.set 15 KH).set 16 RI).set 17 X7) 18 x22)]) (.p (18 < (((Eu.set 15 KH).set 16 RI).set 17 X7).length)))) fun x22 =>
 .wn 100004 (((Eu.set 15 KH).set 16 RI).set 17 X7).length ((((Eu.set 15 KH).set 16 RI).set 17 X7).set 18 x22).length <|
 .r 26 (.pz ((cI c_.file 4 (bX c_.jy 0)).c) fun x23=>.aj (.p (bU (19:Int) (((((Eu.set 15 KH).set 16 RI).set 17 X7).set 18 x22).length))) (.aj (.o [.eG (uh aJ.E ((((Eu.set 15 KH).set 16 RI).set 17 X7).set 18 x22) 19 x23)]) (.p (19 < ((((Eu.set 15 KH).set 16 RI).set 17 X7).set 18 x22).length)))) fun x23 =>
 .wn 100004 ((((Eu.set 15 KH).set 16 RI).set 17 X7).set 18 x22).length (((((Eu.set 15 KH).set 16 RI).set 17 X7).set 18 x22).set 19 x23).length <|
 .fin (((((Eu.set 15 KH).set 16 RI).set 17 X7).set 18 x22).set 19 x23)))
def nR r c_:=(lJ r c_).val
theorem adB:(∀ i,i < 7→0≤([0,1,2,3,4,5,6]:List Int).getD i 0∧([0,1,2,3,4,5,6]:List Int).getD i 0 < 20)∧∀ i,i < 7→∀ j,j < 7→i≠j→(([0,1,2,3,4,5,6]:List Int).getD j 0).toNat≠(([0,1,2,3,4,5,6]:List Int).getD i 0).toNat:=by decide
theorem adC:(∀ i,i < 8→0≤([7,8,9,10,11,12,13,14]:List Int).getD i 0∧([7,8,9,10,11,12,13,14]:List Int).getD i 0 < 20)∧∀ i,i < 8→∀ j,j < 8→i≠j→(([7,8,9,10,11,12,13,14]:List Int).getD j 0).toNat≠(([7,8,9,10,11,12,13,14]:List Int).getD i 0).toNat:=by decide
theorem JK (r:ah) (c_:fF):(lJ r c_).dj (fun (x:(List aJ))=>x=[]∨(x.length=20∧0≤c_.sign∧c_.sign < c_.file.af.length)):=by
  refine Sk.bz _ ?_
  unfold lJ
  simp only [Sk.de,Sk.aI,reduceCtorEq,ON,kk,kp,db,cI,lI,fq,gF,lG,forall_eq,maxLen]
  all_goals (repeat' first | assumption | (apply And.intro) | (intro h))
  all_goals first | trivial | assumption | omega | ((try simp only [LN] at *) <;> first | omega | (refine (aA ?_ ?_).trans ?_ <;> omega) | (simp (disch:=omega) only [aA] at *; omega) | (grind) | (simp_all; done) | (simp_all; omega))

theorem Mq (r:ah) (c_:fF):(lJ r c_).bC (fun _=>True):=by
  refine Sk.aR _ ?_
  unfold lJ
  simp only [Sk.ju,Sk.aI,reduceCtorEq,ON,kk,kp,Sk.dj,db,cI,lI,fq,gF,lG,forall_eq,maxLen]
  all_goals (repeat' first | (apply And.intro) | (intro h))
  all_goals first | trivial | assumption | omega | (have:=adB.1 _ ‹_ < 7›; (try simp only [LN] at *) <;> omega) | (have:=adC.1 _ ‹_ < 8›; (try simp only [LN] at *) <;> omega) | exact List.set_comm _ _ (adB.2 _ ‹_› _ ‹_› ‹_›) | exact List.set_comm _ _ (adC.2 _ ‹_› _ ‹_› ‹_›) | ((try simp only [LN] at *) <;> omega)

def xZ r c_:=kp tok mixed Tryz.func132 [av r.cells,av c_.cells] (fun x=>lv aJ.cells x) false (nR r c_) (u0 (Mq r c_)) (JK r c_)
def zg (r:ah) (c_:fF):Sk (fF × (List aJ)) :=
 .r 1 ((aV c_.file c_.day).c) fun x1 =>
 .r 2 ((xZ r ({ file:=x1,sign:=c_.sign,jy:=c_.jy,ch:=c_.ch,due:=c_.due,day:=c_.day }:fF)).c) fun x2 =>
 .fin (({ file:=x1,sign:=c_.sign,jy:=c_.jy,ch:=c_.ch,due:=c_.due,day:=c_.day }:fF),x2)
def aba r c_:=(zg r c_).val
theorem WB (r:ah) (c_:fF):(zg r c_).dj (fun (x:fF × (List aJ))=>x.2=[]∨(x.2.length=20∧0≤x.1.sign∧x.1.sign < x.1.file.af.length)):=by
  unfold zg
  try simp only [aV,xZ,ak.Small,ah.Small]
  exact Fz

theorem Zl (r:ah) (c_:fF) (hf:c_.file.Small):(zg r c_).bC (fun _=>True):=by
  simp only [ak.Small,ah.Small] at hf
  unfold zg
  try simp only [aV,xZ,ak.Small,ah.Small]
  exact mA

def Mr r c_:=kp tok mixed Tryz.func104 [av r.cells,av c_.cells] (fun x=>.fD [av x.1.cells,lv aJ.cells x.2]) false (aba r c_) (Zl r c_) (WB r c_)
theorem tQ {α σ β:Type} (step:α→σ→β ⊕ σ) (fin:σ→β) (p:α→Bool):∀ (l:List α),(∀ x s,p x=false→step x s=.inr s)→∀ s,walk step fin (l.filter p) s=walk step fin l s
  | [],_,s=>rfl
  | x :: r,h,s=>by
    rw [List.filter_cons]
    cases hp:p x with
    | false =>
      rw [if_neg (by simp)]
      conv=>rhs; unfold walk
      rw [h x s hp]
      exact tQ step fin p r h s
    | true =>
      rw [if_pos rfl]
      unfold walk
      cases step x s with
      | inl b=>rfl
      | inr s'=>exact tQ step fin p r h s'
def fb (kind at_:Int) (x:Fact) (s:Unit):aJ ⊕ Unit:=bif (x.kind == kind)&&(x.at_ == at_) then .inl (u9 (x.n != 0)) else .inr ()
theorem xp (f:ak) (kind at_:Int):bB f kind at_=walk (fb kind at_) (fun _=>⟨false,0⟩) f.facts ():=by
  simp only [bB,nQ,Sk.dK,Sk.gd,Sk.iP,Sk.fB,Sk.jt,Sk.l7,Sk.dn,il.A1,kk,kp,lI]
  refine (dT f.facts (fun s i=>i) (fb kind at_) id _ (fun s i hi=>?_) (fun s=>?_) (by simp) ()).trans rfl
  · rw [decide_eq_true (by omega),cond_true]
    unfold fb
    cases (((f.facts.getD i default).kind == kind)&&((f.facts.getD i default).at_ == at_)) <;> rfl
  · rw [decide_eq_false (by omega),cond_false]
theorem X8 (f:ak) (d kind s:Int) (h:0≤s∧s < (ai f d).af.length):bB (ai f d) kind s=bB f kind s:=by
  rw [xp,xp]
  rw [iR] at h ⊢
  dsimp only at h
  refine tQ _ _ _ _ (fun x u hp=>?_) ()
  have:(x.at_ == s)=false:=by
    simp only [LN] at hp ⊢
    intro e
    subst e
    rcases hp with q | q <;> omega
  unfold fb
  rw [this,Bool.and_false,cond_false]
theorem Ms {n:Nat} {g:Nat→Int} (h:∀ q,q < n→q≠0→g (q - 1)≤g q) (i:Nat):∀ k,i+k < n→g i≤g (i+k)
  | 0,_=>Int.le_refl _
  | k+1,hk=>Int.le_trans (Ms h i k (by omega)) (h (i+(k+1)) hk (by omega))
theorem X9 {α:Type} [Inhabited α] (p:α→Bool):∀ (l:List α) (i:Nat),i < l.length→(∀ q,q≤i→p (l.getD q default)=true)→i < (l.takeWhile p).length
  | [],i,h,_=>absurd h (by simp)
  | x :: r,i,h,hp=>by
    have h0:p x=true:=hp 0 (by omega)
    rw [List.takeWhile_cons,h0,if_pos rfl,List.length_cons]
    cases i with
    | zero=>omega
    | succ i=>have:=X9 p r i (by simpa using h) (fun q hq=>by have:=hp (q+1) (by omega); simpa using this); omega
theorem cb.mono {r:ah} {f:ak} (h:cb r f) {i j:Nat} (hij:i≤j) (hj:j < f.af.length):(f.af.getD i default).day≤(f.af.getD j default).day:=by
  have:=Ms (n:=f.af.length) (g:=fun q=>(f.af.getD q default).day) (fun q hq h0=>(h.2.2.1 q hq).2.1 h0) i (j - i) (by omega)
  rwa [show i+(j - i)=j by omega] at this
theorem cb.adD {r:ah} {f:ak} (h:cb r f) {d y:Int} (h0:0≤y) (h1:y < f.af.length) (h2:(f.af.getD y.toNat default).day≤d):y < (ai f d).af.length:=by
  have:y.toNat < (ai f d).af.length:=by
    rw [iR]
    refine X9 _ _ _ (by omega) (fun q hq=>decide_eq_true ?_)
    have:=h.mono hq (by omega)
    omega
  omega
theorem Uu (f:ak) (d:Int):(ai f d).aU=f.aU:=by rw [iR]
theorem zh (f:ak) (d:Int) (i:Nat) (h:i < (ai f d).af.length):(ai f d).af.getD i default=f.af.getD i default:=by
  rw [iR] at h ⊢
  exact (B9 _ _ _ h).1
theorem oO (f:ak) (d:Int):(ai f d).af.length≤f.af.length:=by
  rw [iR]
  exact (List.takeWhile_sublist _).length_le
theorem Ya {f:ak} (h:f.rF) (d:Int):(ai f d).rF:=by
  obtain ⟨h1,h2,h3,h4⟩:=h
  have h2:=(vV (P:=fun x:dU=>ma x.sum)).1 h2
  have h3:=(vV (P:=fun x:Sign=>ma x.sum)).1 h3
  have h4:=(vV (P:=fun x:bD=>ma x.sum)).1 h4
  unfold ak.rF
  rw [iR]
  exact ⟨h1,(vV (P:=fun x:dU=>ma x.sum)).2 fun x hx=>h2 x (List.mem_filter.1 hx).1,(vV (P:=fun x:Sign=>ma x.sum)).2 fun x hx=>h3 x ((List.takeWhile_sublist _).subset hx),(vV (P:=fun x:bD=>ma x.sum)).2 fun x hx=>h4 x ((List.takeWhile_sublist _).subset hx)⟩
theorem cb.RJ {r:ah} {f:ak} (h:cb r f) (d:Int):(ai f d).rF:=Ya h.Rs d
theorem Cb {f:ak} (h:f.Small) (d:Int):(ai f d).Small:=by
  have h1:=B8 f d
  unfold ak.Small at h ⊢
  dsimp only at h1
  omega
theorem cb.RK {r:ah} {f:ak} (h:cb r f) (d:Int):∀ i,i < (ai f d).af.length→(((ai f d).af.getD i default).kind=3∨((ai f d).af.getD i default).kind=4)→0≤((ai f d).af.getD i default).for_∧((ai f d).af.getD i default).for_ < (i:Int):=by
  intro i hi
  rw [zh f d i hi]
  have:=oO f d
  exact (h.2.2.1 i (by omega)).2.2.2.2.2.2.2.2
theorem cb.abb {r:ah} {f:ak} (h:cb r f) (d:Int) {y:Int} (h0:0≤y) (h1:y < (ai f d).af.length):0≤((ai f d).af.getD y.toNat default).dQ∧((ai f d).af.getD y.toNat default).dQ < (r.bu.length:Int):=by
  rw [zh f d y.toNat (by omega)]
  have:=oO f d
  exact (h.2.2.1 y.toNat (by omega)).1
def tf (ask:Int):Sk (Int × Bool) :=
 .br ((decide (ask < 0))||(decide (ask≥22)))
 (.fin (0,false))
 (.r 3 (.aj (.o [.eG (fm dm [6,7,10,12,13,14,15,16,20,21])]) ((aM [6,7,10,12,13,14,15,16,20,21] ask).c)) fun x1 =>
 .br x1
 (.fin (0,true))
 (.fin (1,true)))
def Ae ask:=(tf ask).val
theorem OY (ask:Int):(tf ask).bC (fun _=>True):=by
  unfold tf
  try simp only [aM]
  exact qT

def mf ask:=kk tok mixed Tryz.func105 [iv ask] (fun x=>.fD [iv x.1,bv x.2]) true (tf ask) (Ae ask) (u0 (OY ask))
def tg (r:ah) (forum:Int) (c_:fF):Sk ((List Int)) :=
 .r 1 (.p (bU c_.sign c_.file.af.length)) fun _ =>
 .br ((((decide (((c_.file.af.getD c_.sign.toNat default).dQ) < 0))||(decide (((c_.file.af.getD c_.sign.toNat default).dQ)≥((r.bu.length:Nat):Int))))||(decide (forum < 0)))||(decide (forum≥((r.aE.length:Nat):Int))))
 (.fin [])
 (.r 4 (.aj (.o [.eG (mkC dm 5 0)]) (.p (Zf (5:Int) 8))) fun _ =>
 .r 5 (.aj (.p (bU (0:Int) ((List.replicate 5 (0:Int)).length))) (.aj (.o [.eG (uh dm (List.replicate 5 (0:Int)) 0 forum)]) (.p (0 < (List.replicate 5 (0:Int)).length)))) fun _ =>
 .wn 42 (List.replicate 5 (0:Int)).length ((List.replicate 5 (0:Int)).set 0 forum).length <|
 .r 6 (.pz ((db r ((c_.file.af.getD c_.sign.toNat default).cH)).c) fun x1=>.aj (.p (bU (1:Int) (((List.replicate 5 (0:Int)).set 0 forum).length))) (.aj (.o [.eG (uh dm ((List.replicate 5 (0:Int)).set 0 forum) 1 x1)]) (.p (1 < ((List.replicate 5 (0:Int)).set 0 forum).length)))) fun x1 =>
 .wn 42 ((List.replicate 5 (0:Int)).set 0 forum).length (((List.replicate 5 (0:Int)).set 0 forum).set 1 x1).length <|
 .r 7 (.pz ((db r c_.file.aU.A2).c) fun x2=>.aj (.p (bU (2:Int) ((((List.replicate 5 (0:Int)).set 0 forum).set 1 x1).length))) (.aj (.o [.eG (uh dm (((List.replicate 5 (0:Int)).set 0 forum).set 1 x1) 2 x2)]) (.p (2 < (((List.replicate 5 (0:Int)).set 0 forum).set 1 x1).length)))) fun x2 =>
 .wn 42 (((List.replicate 5 (0:Int)).set 0 forum).set 1 x1).length ((((List.replicate 5 (0:Int)).set 0 forum).set 1 x1).set 2 x2).length <|
 .r 8 (.pz ((db r c_.file.aU.cH).c) fun x3=>.aj (.p (bU (3:Int) (((((List.replicate 5 (0:Int)).set 0 forum).set 1 x1).set 2 x2).length))) (.aj (.o [.eG (uh dm ((((List.replicate 5 (0:Int)).set 0 forum).set 1 x1).set 2 x2) 3 x3)]) (.p (3 < ((((List.replicate 5 (0:Int)).set 0 forum).set 1 x1).set 2 x2).length)))) fun x3 =>
 .wn 42 ((((List.replicate 5 (0:Int)).set 0 forum).set 1 x1).set 2 x2).length (((((List.replicate 5 (0:Int)).set 0 forum).set 1 x1).set 2 x2).set 3 x3).length <|
 .r 9 (.aj (.p (bU ((c_.file.af.getD c_.sign.toNat default).dQ) r.bu.length)) (.pz ((db r ((r.bu.getD (((c_.file.af.getD c_.sign.toNat default).dQ).toNat) default).cH)).c) fun x4=>.aj (.p (bU (4:Int) ((((((List.replicate 5 (0:Int)).set 0 forum).set 1 x1).set 2 x2).set 3 x3).length))) (.aj (.o [.eG (uh dm (((((List.replicate 5 (0:Int)).set 0 forum).set 1 x1).set 2 x2).set 3 x3) 4 x4)]) (.p (4 < (((((List.replicate 5 (0:Int)).set 0 forum).set 1 x1).set 2 x2).set 3 x3).length))))) fun x4 =>
 .wn 42 (((((List.replicate 5 (0:Int)).set 0 forum).set 1 x1).set 2 x2).set 3 x3).length ((((((List.replicate 5 (0:Int)).set 0 forum).set 1 x1).set 2 x2).set 3 x3).set 4 x4).length <|
 .r 10 ((aM ((((((List.replicate 5 (0:Int)).set 0 forum).set 1 x1).set 2 x2).set 3 x3).set 4 x4) (-1)).c) fun x5 =>
 .br x5
 (.fin [])
 (.fin ((((((List.replicate 5 (0:Int)).set 0 forum).set 1 x1).set 2 x2).set 3 x3).set 4 x4)))
def sO r forum c_:=(tg r forum c_).val
theorem OZ (r:ah) (forum:Int) (c_:fF) (hs:0≤c_.sign∧c_.sign < c_.file.af.length):(tg r forum c_).bC (fun _=>True):=by
  unfold tg
  try simp only [db,aM]
  exact mA

def Af r forum c_:=kk tok mixed Tryz.func106 [av r.cells,iv forum,av c_.cells] (fun x=>.d (bif x.isEmpty then .v (.slice none 0 0) else nJ bI x)) false (tg r forum c_) (sO r forum c_) (OZ r forum c_)
def kZ (o:Int) (v:Int):Sk (Bool) :=
 .fin ((decide (o < 0))||(decide (o≥v)))
def fI o v:=(kZ o v).val
theorem pB (o:Int) (v:Int):fI o v=((decide (o < 0))||(decide (o≥v))):=rfl
theorem DD (o:Int) (v:Int):(kZ o v).bC (fun _=>True):=by
  unfold kZ
  exact qT

def qH o v:=kk tok mixed Tryz.func166 [iv o,.ref [dI v]] (fun x=>bv x) true (kZ o v) (fI o v) (u0 (DD o v))
def fK (s:List Int) (v:Int):Sk (Int) :=
 .bind true (fun b1=>∀ q,q < s.length→fI (s.getD q default) v=false)
 (.loop (default:Sum (Int) (Unit)) (fun i2=>∀ q,q < i2→fI (s.getD q default) v=false) (fun i2=>s.length - i2) (0:Nat)
 (fun (i2:Nat)=>⟨[(8,iv ((i2:Nat):Int))],[]⟩) fun i2 =>
 .lt 0 0 i2 s.length
 (.r 4 (.aj (.p (bU ((i2:Nat):Int) s.length)) ((qH (s.getD i2 default) v).c)) fun x3 =>
 .br x3
 (.fin (.inl (.inl ((i2:Nat):Int))))
 (.nx 6 8 i2 (i2+1)))
 (.fin (.inl (.inr ()))))
 (fun (_:Unit)=>⟨[],[]⟩) fun _ =>
 .fin (-1)
def Cc s v:=(fK s v).val
theorem yb (s:List Int) (v:Int):(fK s v).dj (fun (x:Int)=>(x = -1∧∀ q,q < s.length→fI (s.getD q default) v=false)∨(0≤x∧x < s.length∧fI (s.getD x.toNat default) v=true∧∀ q,(q:Nat) < x.toNat→fI (s.getD q default) v=false)):=by
  unfold fK
  try simp only [qH,pB]
  exact Ww

theorem zi (s:List Int) (v:Int):(fK s v).bC (fun _=>True):=by
  unfold fK
  try simp only [qH,pB]
  exact Bu

def mh s v:=kp tok mixed Tryz.func200 [lv bI s,.fn 166 [.ref [dI v]]] (fun x=>iv x) true (Cc s v) (u0 (zi s v)) (yb s v)
def dW (s:List Int) (v:Int):Sk (Bool) :=
 .r 1 ((mh s v).c) fun x1 =>
 .fin (decide (x1≥0))
def zk s v:=(dW s v).val
theorem va (s:List Int) (v:Int):(dW s v).dj (fun (x:Bool)=>(x=true↔∃ q,q < s.length∧fI (s.getD q default) v=true)):=by
  unfold dW
  try simp only [mh]
  exact Fz

theorem wa (s:List Int) (v:Int):(dW s v).bC (fun _=>True):=by
  unfold dW
  try simp only [mh]
  exact qT

def gG s v:=kp tok mixed Tryz.func165 [lv bI s,.fn 166 [.ref [dI v]]] (fun x=>bv x) true (zk s v) (u0 (wa s v)) (va s v)
def jj (r:ah) (order:Int) (ask:Int) (places:List Int):Sk (Bool) :=
 .br (((((decide (order < 0))||(decide (order≥((r.aE.length:Nat):Int))))||(decide (ask < 0)))||(decide (ask≥22)))||(((places.length:Nat):Int) != 5))
 (.fin false)
 (.r 4 ((gG places ((r.aE.length:Nat):Int)).c) fun x1 =>
 .fin (!x1))
def pI r order ask places:=(jj r order ask places).val
theorem FW (r:ah) (order:Int) (ask:Int) (places:List Int):(jj r order ask places).dj (fun (x:Bool)=>x=true→0≤order∧order < r.aE.length∧places.length=5∧∀ i,i < 5→0≤places.getD i default∧places.getD i default < r.aE.length):=by
  refine Sk.bz _ ?_
  unfold jj
  simp only [Sk.de,Sk.aI,reduceCtorEq,ON,kk,kp,gG,maxLen]
  all_goals (repeat' first | (apply And.intro) | (intro h))
  all_goals first | trivial | (simp at *; done) | (simp only [LN] at *; omega) | (simp only [LN] at *; grind [pB])

theorem Hv (r:ah) (order:Int) (ask:Int) (places:List Int):(jj r order ask places).bC (fun _=>True):=by
  unfold jj
  try simp only [gG]
  exact qT

def j6 r order ask places:=kp tok mixed Tryz.func133 [av r.cells,iv order,iv ask,lv bI places] (fun x=>bv x) true (pI r order ask places) (u0 (Hv r order ask places)) (FW r order ask places)
def km (r:ah) (order:Int) (ask:Int) (places:List Int):Sk (Int × Bool) :=
 .r 1 ((j6 r order ask places).c) fun x1 =>
 .br (!x1)
 (.fin ((-1),false))
 (.r 3 (.p (bU order r.aE.length)) fun _ =>
 .bt
 (.loop (default:Sum (Int × Bool) (Unit)) (fun i3=>i3≤((r.aE.getD order.toNat default).ba).length) (fun i3=>((r.aE.getD order.toNat default).ba).length - i3) (0:Nat)
 (fun (i3:Nat)=>⟨[(25,iv ((i3:Nat):Int))],[]⟩) fun i3 =>
 .lt 23 0 i3 (((r.aE.getD order.toNat default).ba).length)
 (.r 5 (.p (bU ((i3:Nat):Int) (((r.aE.getD order.toNat default).ba).length))) fun _ =>
 .br ((((((r.aE.getD order.toNat default).ba).getD i3 default).ask) == ask)&&(((((r.aE.getD order.toNat default).ba).getD i3 default).c9) != 0))
 (.r 7 (.p (bU ((((r.aE.getD order.toNat default).ba).getD i3 default).c9) places.length)) fun _ =>
 .fin (.inl (.inl (places.getD (((((r.aE.getD order.toNat default).ba).getD i3 default).c9).toNat) default,(((r.aE.getD order.toNat default).ba).getD i3 default).whole))))
 (.nx 8 25 i3 (i3+1)))
 (.fin (.inl (.inr ()))))
 (fun (_:Unit)=>⟨[],[]⟩) fun _ =>
 .fin (order,false))
def Mt r order ask places:=(km r order ask places).val
theorem Qh {l:List Int} {n:Nat} (h0:0 < n) (h:∀ i,i < 5→0≤l.getD i default∧l.getD i default < n) (hl:l.length=5) (k:Nat):0≤l.getD k default∧l.getD k default < n:=by
  by_cases c:k < 5
  · exact h k c
  · have:l.getD k default=0:=by simp [List.getD,List.getElem?_eq_none (by omega:l.length≤k)]
    rw [this]; omega
theorem uO {r:ah} {a b ask:Int} {places:List Int} (h:pI r a ask places=true) (hb:0≤b∧b < r.aE.length):pI r b ask places=true:=by
  simp only [pI,jj,Sk.val,il.c,kk,kp,gG] at h ⊢
  revert h
  simp only [Bool.cond_eq_ite]
  split
  · intro h; cases h
  · rename_i h1
    intro h
    rw [if_neg]
    · exact h
    · simp only [Bool.or_eq_true,decide_eq_true_eq,not_or] at h1 ⊢
      exact ⟨⟨⟨⟨by omega,by omega⟩,h1.1.1.2⟩,h1.1.2⟩,h1.2⟩
theorem Ev (r:ah) (order:Int) (ask:Int) (places:List Int):(km r order ask places).dj (fun (x:Int × Bool)=>pI r order ask places=true→0≤x.1∧x.1 < r.aE.length):=by
  refine Sk.bz _ ?_
  unfold km
  simp only [Sk.de,Sk.aI,reduceCtorEq,ON,kk,kp,j6,ah.cj,maxLen]
  all_goals (repeat' first | (apply And.intro) | (intro h))
  all_goals first | trivial | omega | (simp only [LN] at *; first | omega | (exact (Qh (n:=r.aE.length) (by grind) (by grind) (by grind) _).1) | (exact (Qh (n:=r.aE.length) (by grind) (by grind) (by grind) _).2) | grind)

theorem FX (r:ah) (order:Int) (ask:Int) (places:List Int) (hb:r.cj):(km r order ask places).bC (fun _=>True):=by
  simp only [ah.cj] at hb
  unfold km
  try simp only [j6,ah.cj]
  exact mA

def sP r order ask places:=kp tok mixed Tryz.func134 [av r.cells,iv order,iv ask,lv bI places] (fun x=>.fD [iv x.1,bv x.2]) true (Mt r order ask places) (FX r order ask places) (Ev r order ask places)
def rL (n:Nat) (l:List Int):Prop:=l.length≠0∧l.Nodup∧∀ x,x∈l→0≤x∧x < n
theorem rL.le {n:Nat} {l:List Int} (h:rL n l):l.length≤n:=by
  have h1:=List.Nodup.length_le_of_subset (l₁:=l) (l₂:=(List.range n).map Int.ofNat) h.2.1 (fun x hx=>by
    have:=h.2.2 x hx
    exact List.mem_map.2 ⟨x.toNat,List.mem_range.2 (by omega),by simp; omega⟩)
  simpa using h1
theorem rL.get {n:Nat} {l:List Int} (h:rL n l) (k:Nat):0≤l.getD k default∧l.getD k default < n:=by
  by_cases hk:k < l.length
  · have e:l.getD k default=l[k]:=by simp [List.getD,hk]
    rw [e]
    exact h.2.2 _ (List.getElem_mem hk)
  · have e:l.getD k default=0:=by simp [List.getD,List.getElem?_eq_none (by omega:l.length≤k)]
    have:=h.le
    have:=h.1
    rw [e]
    omega
theorem rL.adE {n:Nat} {l:List Int} (h:rL n l) {x:Int} (hx:0≤x∧x < n):∀ y,y∈l++[x]→0≤y∧y < n:=fun y hy=>by
  rcases List.mem_append.1 hy with h1 | h1
  · exact h.2.2 y h1
  · simp only [List.mem_singleton] at h1; subst h1; exact hx
theorem rL.snoc {n:Nat} {l:List Int} (h:rL n l) {x:Int} (hx:0≤x∧x < n) (hn:¬ ∃ q,q < l.length∧(l.getD q default == x)=true):rL n (l++[x]):=by
  refine ⟨by simp,?_,h.adE hx⟩
  refine List.nodup_append.2 ⟨h.2.1,by simp,fun a ha b hb e=>?_⟩
  simp only [List.mem_singleton] at hb
  subst hb; subst e
  obtain ⟨q,hq,e⟩:=List.getElem_of_mem ha
  exact hn ⟨q,hq,by simp [List.getD,hq,e]⟩
theorem rL.one {n:Nat} {x:Int} (hx:0≤x∧x < n):rL n [x]:=⟨by simp,by simp,fun y hy=>by simp only [List.mem_singleton] at hy; subst hy; exact hx⟩
def mF (r:ah) (forum:Int) (ask:Int) (places:List Int):Sk ((List Int) × Int) :=
 .r 1 (.pz ((j6 r forum ask places).c) fun x1=>.wh (!x1) false (.p (bU (0:Int) places.length))) fun x1 =>
 .br ((!x1)||((places.getD 0 default) != forum))
 (.fin ([],1))
 (.r 3 (.o [.eG (fm dm [forum])]) fun _ =>
 .loop (default:(List Int) × Int) (fun i2=>rL r.aE.length i2) (fun i2=>r.aE.length+1 - i2.length) ([forum]:(List Int))
 (fun (i2:(List Int))=>⟨[(10,ow 100001 i2)],[(100001,bw 3 1 bI i2)]⟩) fun i2 =>
 .r 4 (.aj (.p (bU (ar (((i2.length:Nat):Int) - 1)) i2.length)) (.p ((ar (((i2.length:Nat):Int) - 1)).toNat < i2.length))) fun _ =>
 .r 5 ((sP r (i2.getD ((ar (((i2.length:Nat):Int) - 1)).toNat) default) ask places).c) fun x3 =>
 .br (x3.1 == (i2.getD ((ar (((i2.length:Nat):Int) - 1)).toNat) default))
 (.fin (.inl (i2,0)))
 (.r 8 ((aM i2 x3.1).c) fun x4 =>
 .r 9 (.aj (.o [.eG (fm dm [x3.1])]) (.aj (.o [.eG (mY dm i2 [x3.1])]) (.aj (.t (dm.ou [x3.1])) (.p (yE i2.length [x3.1].length 8))))) fun _ =>
 .r 10 (.wh (!x3.2) false (.wh x4 true (.p (bU x3.1 r.aE.length)))) fun _ =>
 .br ((!x3.2)||(x4&&((r.aE.getD x3.1.toNat default).KG)))
 (.fin (.inl (i2++[x3.1],0)))
 (.br x4
 (.fin (.inl (i2++[x3.1],12)))
 (.fin (.inr (i2++[x3.1]))))))
def Ag r forum ask places:=(mF r forum ask places).val
theorem Hw (r:ah) (forum:Int) (ask:Int) (places:List Int):(mF r forum ask places).dj (fun (x:(List Int) × Int)=>x.2=0→x.1.length≠0∧(∀ y,y∈x.1→0≤y∧y < r.aE.length)∧x.1.length≤r.aE.length+1):=by
  refine Sk.bz _ ?_
  unfold mF
  simp only [Sk.de,Sk.aI,reduceCtorEq,ON,kk,kp,sP,j6,aM,ak.Small,ah.Small,ah.cj,maxLen]
  intro x hx hp
  refine ⟨fun _ h=>by omega,fun hc _=>?_⟩
  have KD:x=true:=by simp at hc; exact hc.1
  obtain ⟨h1,h2,h3,h4⟩:=hp KD
  refine ⟨rL.one ⟨h1,h2⟩,fun i hi _ y hy hy2=>?_⟩
  have hy3:=hy2 (uO (hx ▸ KD) (hi.get _))
  have hle:=hi.le
  refine ⟨fun _=>⟨hi.1,hi.2.2,by omega⟩,fun _ z hz hz2 _ _=>⟨fun _=>⟨by simp,hi.adE hy3,by simp; omega⟩,fun _=>⟨fun _ h=>by omega,fun hz3=>?_⟩⟩⟩
  have hs:=hi.snoc hy3 (by rw [← hz2,hz3]; simp)
  have:=hs.le
  simp only [List.length_append,List.length_cons,List.length_nil] at this ⊢
  exact ⟨hs,by omega⟩

theorem JL (r:ah) (forum:Int) (ask:Int) (places:List Int) (hb:r.cj) (hr:r.Small):(mF r forum ask places).bC (fun _=>True):=by
  simp only [ak.Small,ah.Small,ah.cj] at hb
  simp only [ak.Small,ah.Small,ah.cj] at hr
  refine Sk.aR _ ?_
  unfold mF
  simp only [Sk.ju,Sk.aI,reduceCtorEq,ON,kk,kp,sP,j6,aM,ak.Small,ah.Small,ah.cj,maxLen]
  refine ⟨fun x hx hp KD=>?_,fun x hx hp hc _=>?_⟩
  · have:=hp (by simpa using KD); omega
  have KD:x=true:=by simp at hc; exact hc.1
  obtain ⟨h1,h2,h3,h4⟩:=hp KD
  refine ⟨rL.one ⟨h1,h2⟩,fun i hi=>?_⟩
  have hle:=hi.le
  have vG:=hi.1
  have hw:ar ((i.length:Int) - 1)=(i.length:Int) - 1:=aA (by omega) (by omega)
  rw [hw]
  refine ⟨⟨⟨by omega,by omega⟩,by omega⟩,fun _=>⟨hb,fun y hy hy2 aiQ z hz hz2=>?_⟩⟩
  have hy3:=hy2 (uO (hx ▸ KD) (hi.get _))
  refine ⟨⟨by simp only [List.length_cons,List.length_nil]; omega,by simp only [List.length_cons,List.length_nil]; omega⟩,fun _=>⟨fun _ _=>hy3,fun _ _ hz3=>?_⟩⟩
  have hs:=hi.snoc hy3 (by rw [← hz2,hz3]; simp)
  have:=hs.le
  simp only [List.length_append,List.length_cons,List.length_nil] at this ⊢
  exact ⟨hs,by omega⟩

def wb r forum ask places:=kp tok mixed Tryz.func107 [av r.cells,iv forum,iv ask,lv bI places] (fun x=>.fD [lv bI x.1,iv x.2]) false (Ag r forum ask places) (u2 (JL r forum ask places)) (Hw r forum ask places)
theorem Yb {n:Nat} {l:List Int} (h1:l.length≠0) (h2:∀ y,y∈l→0≤y∧y < (n:Int)) (k:Nat):0≤l.getD k default∧l.getD k default < n:=by
  by_cases hk:k < l.length
  · have e:l.getD k default=l[k]:=by simp [List.getD,hk]
    rw [e]
    exact h2 _ (List.getElem_mem hk)
  · have e:l.getD k default=0:=by simp [List.getD,List.getElem?_eq_none (by omega:l.length≤k)]
    have h3:=h2 l[0] (List.getElem_mem (by omega))
    rw [e]
    omega
def tR (r:ah) (forum:Int) (aO:Int) (c_:fF):Sk (mb × (List aJ)) :=
 .r 2 ((Mr r c_).c) fun x1 =>
 .br (((x1.2.length:Nat):Int) == 0)
 (.fin (({ cell:=({ known:=false,n:=0 }:aJ),order:=(-1),path:=[],err:=1 }:mb),[]))
 (.r 5 ((mf aO).c) fun x2 =>
 .br (!x2.2)
 (.fin (({ cell:=({ known:=false,n:=0 }:aJ),order:=(-1),path:=[],err:=1 }:mb),[]))
 (.r 8 ((Af r forum x1.1).c) fun x3 =>
 .XQ 14 x3.isEmpty nv (lv bI x3)
 (.KF <|
 .fin (({ cell:=({ known:=false,n:=0 }:aJ),order:=(-1),path:=[],err:=1 }:mb),[]))
 (.r 9 (.p (x3.length≠0)) fun _ =>
 .Dz <|
 .r 11 ((wb r forum aO x3).c) fun x4 =>
 .br (x4.2 == 0)
 (.r 13 (.p (bU (ar (((x4.1.length:Nat):Int) - 1)) x4.1.length)) fun _ =>
 .fin (({ cell:=({ known:=false,n:=0 }:aJ),order:=x4.1.getD ((ar (((x4.1.length:Nat):Int) - 1)).toNat) default,path:=x4.1,err:=x4.2 }:mb),x1.2))
 (.fin (({ cell:=({ known:=false,n:=0 }:aJ),order:=(-1),path:=x4.1,err:=x4.2 }:mb),x1.2)))))
def pJ r forum aO c_:=(tR r forum aO c_).val
theorem RL (r:ah) (forum:Int) (aO:Int) (c_:fF):(tR r forum aO c_).dj (fun (x:mb × (List aJ))=>x.1.order = -1∨(0≤x.1.order∧x.1.order < r.aE.length∧x.2.length=20)):=by
  refine Sk.bz _ ?_
  unfold tR
  simp only [Sk.de,Sk.aI,reduceCtorEq,ON,kk,kp,Mr,Af,wb,mf,ak.Small,ah.Small,ah.cj,maxLen]
  intro x hx hp
  refine ⟨fun _=>.inl trivial,fun hc x1 _=>⟨fun _=>.inl trivial,fun _ x2 _=>⟨fun _=>.inl trivial,fun _ _ x4 _ hl=>⟨fun h0 _=>.inr ?_,fun _=>.inl trivial⟩⟩⟩⟩
  obtain ⟨h1,h2,h3⟩:=hl (by simpa using h0)
  have h20:x.2.length=20:=by
    rcases hp with h | h
    · rw [h] at hc; simp at hc
    · exact h.1
  exact ⟨(Yb h1 h2 _).1,(Yb h1 h2 _).2,h20⟩

theorem Uv (r:ah) (forum:Int) (aO:Int) (c_:fF) (hf:c_.file.Small) (hb:r.cj) (hr:r.Small):(tR r forum aO c_).bC (fun _=>True):=by
  simp only [ak.Small,ah.Small,ah.cj] at hf
  simp only [ak.Small,ah.Small,ah.cj] at hb
  simp only [ak.Small,ah.Small,ah.cj] at hr
  refine Sk.aR _ ?_
  unfold tR
  simp only [Sk.ju,Sk.aI,reduceCtorEq,ON,kk,kp,Mr,Af,wb,mf,ak.Small,ah.Small,ah.cj,maxLen]
  refine ⟨hf,fun x hx hp hc x1 _ _=>?_⟩
  have hp':x.2.length=20∧0≤x.1.sign∧x.1.sign < x.1.file.af.length:=by
    rcases hp with h | h
    · rw [h] at hc; simp at hc
    · exact h
  refine ⟨hp'.2,fun x2 _ he=>⟨fun h=>by simp [List.length_eq_zero_iff.1 h] at he,fun _=>⟨⟨hb,hr⟩,fun x4 _ hl h0=>?_⟩⟩⟩
  obtain ⟨h1,h2,h3⟩:=hl (by simpa using h0)
  rw [aA (by omega) (by omega)]
  omega

def Mv r forum aO c_:=kp tok mixed Tryz.func72 [av r.cells,iv forum,iv aO,av c_.cells] (fun x=>.fD [av x.1.cells,lv aJ.cells x.2]) false (pJ r forum aO c_) (u3 (Uv r forum aO c_)) (RL r forum aO c_)
def oP (r:vU) (v:Int):Sk (Bool) :=
 .fin (r.ask == v)
def kR r v:=(oP r v).val
theorem zl (r:vU) (v:Int):kR r v=(r.ask == v):=rfl
theorem Hx (r:vU) (v:Int):(oP r v).bC (fun _=>True):=by
  unfold oP
  exact qT

def uy r v:=kk tok mixed Tryz.func136 [av r.cells,.ref [dI v]] (fun x=>bv x) true (oP r v) (kR r v) (u0 (Hx r v))
def fL (s:List vU) (v:Int):Sk (Int) :=
 .bind true (fun b1=>∀ q,q < s.length→kR (s.getD q default) v=false)
 (.loop (default:Sum (Int) (Unit)) (fun i2=>∀ q,q < i2→kR (s.getD q default) v=false) (fun i2=>s.length - i2) (0:Nat)
 (fun (i2:Nat)=>⟨[(8,iv ((i2:Nat):Int))],[]⟩) fun i2 =>
 .lt 0 0 i2 s.length
 (.r 4 (.aj (.p (bU ((i2:Nat):Int) s.length)) ((uy (s.getD i2 default) v).c)) fun x3 =>
 .br x3
 (.fin (.inl (.inl ((i2:Nat):Int))))
 (.nx 6 8 i2 (i2+1)))
 (.fin (.inl (.inr ()))))
 (fun (_:Unit)=>⟨[],[]⟩) fun _ =>
 .fin (-1)
def Cd s v:=(fL s v).val
theorem yc (s:List vU) (v:Int):(fL s v).dj (fun (x:Int)=>(x = -1∧∀ q,q < s.length→kR (s.getD q default) v=false)∨(0≤x∧x < s.length∧kR (s.getD x.toNat default) v=true∧∀ q,(q:Nat) < x.toNat→kR (s.getD q default) v=false)):=by
  unfold fL
  try simp only [uy,zl]
  exact Ww

theorem zm (s:List vU) (v:Int):(fL s v).bC (fun _=>True):=by
  unfold fL
  try simp only [uy,zl]
  exact Bu

def rM s v:=kp tok mixed Tryz.func135 [lv vU.cells s,.fn 136 [.ref [dI v]]] (fun x=>iv x) true (Cd s v) (u0 (zm s v)) (yc s v)
def uz (rv:Term→Int→Int) (rp:Term→Int→Prop) (rf:∀ (t:Term) (level:Int),rp t level→gR Tryz.prog 167 [av t.cells,iv level] [] (iv (rv t level)) []) (t:Term) (level:Int):il (Int):=⟨Tryz.prog,167,[av t.cells,iv level],fun x=>iv x,true,rv t level,rp t level,rf t level,fun _=>True,trivial⟩
def fw (rv:Term→Int→Int) (rp:Term→Int→Prop) (rf:∀ (t:Term) (level:Int),rp t level→gR Tryz.prog 167 [av t.cells,iv level] [] (iv (rv t level)) []) (t:Term) (level:Int):Sk (Int) :=
 .br (decide (level > 8))
 (.fin 61)
 (.bind true (fun b1=>∀ B:Int,1≤B→B≤1000000→(∀ q,q < t.args.length→1≤rv (t.args.getD q default) (ar (level+1))∧rv (t.args.getD q default) (ar (level+1))≤B)→(1:Int)≤b1∧b1≤60+B∧(b1≤60→t.args.length≤60∧∀ q,q < t.args.length→rv (t.args.getD q default) (ar (level+1))≤60))
 (.loop (default:Sum (Int) (Int)) (fun i2=>i2.2≤t.args.length∧(∀ B:Int,1≤B→B≤1000000→(∀ q,q < t.args.length→1≤rv (t.args.getD q default) (ar (level+1))∧rv (t.args.getD q default) (ar (level+1))≤B)→(1+(i2.2:Int))≤i2.1∧i2.1≤60∧∀ q,q < i2.2→rv (t.args.getD q default) (ar (level+1))≤60)) (fun i2=>t.args.length - i2.2) ((1,0):Int × Nat)
 (fun (i2:Int × Nat)=>⟨[(5,iv i2.1),(13,iv ((i2.2:Nat):Int))],[]⟩) fun i2 =>
 .lt 11 0 i2.2 t.args.length
 (.r 6 (.aj (.p (bU ((i2.2:Nat):Int) t.args.length)) (.o [.cast 15 (acE (Term.LQ (t.args.getD i2.2 default)))])) fun _ =>
 .r 7 ((uz rv rp rf (t.args.getD i2.2 default) (ar (level+1))).c) fun x3 =>
 .br (decide ((ar (i2.1+x3)) > 60))
 (.fin (.inl (.inr (ar (i2.1+x3)))))
 (.nx 9 13 i2.2 (ar (i2.1+x3),i2.2+1)))
 (.fin (.inl (.inr i2.1))))
 (fun (b1:Int)=>⟨[(5,iv b1)],[]⟩) fun b1 =>
 .fin b1)
def cg:Nat→Term→Int→Int
  | 0,_,_=>default
  | fu+1,t,level=>(fw (cg fu) (fun _ _=>False) (fun _ _=>fun h=>h.elim) t level).val
/-- no node has too many parts -/
inductive Hy:Term→Prop
  | mk {t:Term} (h:t.args.length≤60) (h2:∀ q,q < t.args.length→Hy (t.args.getD q default)):Hy t
theorem JM (fu:Nat) (rf:∀ (t:Term) (level:Int),t.depth≤fu∧True→gR Tryz.prog 167 [av t.cells,iv level] [] (iv (cg fu t level)) []) (t:Term) (level:Int) (hm:t.depth≤fu+1):(fw (cg fu) (fun t level=>t.depth≤fu∧True) rf t level).bC (fun _=>True):=by
  refine Sk.aR _ ?_
  unfold fw
  simp only [Sk.ju,Sk.aI,reduceCtorEq,ON,kk,kp,uz,maxLen]
  intro WC
  have WC:level≤8:=by simp only [LN] at WC; exact WC
  refine ⟨⟨Nat.zero_le _,fun B _ _ _=>⟨by omega,by omega,fun q hq=>absurd hq (by omega)⟩⟩,fun i hi hlen=>⟨fun hc=>⟨⟨by omega,of_decide_eq_true hc⟩,fun _=>⟨?_,fun x hx=>⟨fun hb B b1 b2 hq=>?_,fun hb _=>⟨?_,⟨?_,fun B b1 b2 hq=>?_⟩,?_⟩⟩⟩⟩,fun hc B b1 b2 hq=>?_⟩⟩
  all_goals (try simp only [LN] at hc)
  all_goals (try simp only [LN] at hb)
  · have:=t.l9 i.2 (by omega); omega
  · subst hx
    have q1:=hi.2 B b1 b2 hq
    have q2:=hq i.2 (by omega)
    rw [aA (n:=i.1+_) (by omega) (by omega)] at hb ⊢
    exact ⟨by omega,by omega,fun h=>by omega⟩
  · exact aA (by omega) (by omega)
  · omega
  · subst hx
    have q1:=hi.2 B b1 b2 hq
    have q2:=hq i.2 (by omega)
    rw [aA (n:=i.1+_) (by omega) (by omega)] at hb ⊢
    refine ⟨by omega,by omega,fun q hqq=>?_⟩
    by_cases e:q=i.2
    · subst e; omega
    · exact q1.2.2 q (by omega)
  · omega
  · have q1:=hi.2 B b1 b2 hq
    exact ⟨by omega,by omega,fun _=>⟨by omega,fun q hqq=>q1.2.2 q (by omega)⟩⟩

theorem Hz (fu:Nat) (rp:Term→Int→Prop) (rf:∀ (t:Term) (level:Int),rp t level→gR Tryz.prog 167 [av t.cells,iv level] [] (iv (cg fu t level)) []) (t:Term) (level:Int):(fw (cg fu) rp rf t level).val=cg (fu+1) t level:=by kernel_rfl
theorem HA (fu:Nat):∀ (t:Term) (level:Int),t.depth≤fu→gR Tryz.prog 167 [av t.cells,iv level] [] (iv (cg fu t level)) []:=by
  induction fu with
  | zero=>intro t level hm; exact absurd hm (by have:=Term.vB t; omega)
  | succ fu ih =>
    intro t level hm
    have h:gR Tryz.prog 167 [av t.cells,iv level] [] (iv ((fw (cg fu) (fun t level=>t.depth≤fu∧True) (fun t level h=>ih t level h.1) t level).val)) []:=gR.sk tok mixed (fun x=>iv x) (fun _=>[]) Tryz.func167 rfl (by kernel_rfl) 3000 (fw (cg fu) (fun t level=>t.depth≤fu∧True) (fun t level h=>ih t level h.1) t level) (by kernel_rfl) (JM fu _ t level hm)
    rw [Hz] at h
    exact h
def FY (t:Term) (level:Int):Int:=cg (t.depth) t level
theorem JN (t:Term) (level:Int):gR Tryz.prog 167 [av t.cells,iv level] [] (iv (FY t level)) []:=HA _ t level (Nat.le_refl _)
def we (t:Term) (level:Int):il (Int):=⟨Tryz.prog,167,[av t.cells,iv level],fun x=>iv x,true,FY t level,True,fun _=>JN t level,fun _=>True,trivial⟩
theorem Term.Qi {B:Nat}:∀ (l:List Term),(∀ q,q < l.length→(l.getD q default).depth≤B)→Term.fV l≤B
  | [],_=>by simp [Term.fV]
  | x :: r,h=>by
    have h0:=h 0 (by simp)
    have:=Term.Qi r (fun q hq=>by simpa using h (q+1) (by simpa using hq))
    simp only [Term.fV]
    simp at h0
    omega

theorem uA:∀ (fu:Nat) (t:Term) (level:Int),t.depth≤fu→1≤level→level≤9→1≤cg fu t level∧cg fu t level≤61+60 * (9 - level)∧(cg fu t level≤60→t.depth+level≤9)∧(cg fu t level≤60→Hy t)
  | 0,t,_,hd,_,_=>absurd hd (by have:=t.vB; omega)
  | fu+1,t,level,hd,h1,h9=>by
    have ih:=uA fu
    have key:cg (fu+1) t level=(fw (cg fu) (fun _ _=>False) (fun _ _ h=>h.elim) t level).val:=rfl
    rw [key]
    refine Sk.dk (fw (cg fu) (fun _ _=>False) (fun _ _ h=>h.elim) t level) (L:=fun x=>1≤x∧x≤61+60 * (9 - level)∧(x≤60→t.depth+level≤9)∧(x≤60→Hy t)) (Sk.bz _ ?_)
    have hw:ar (level+1)=level+1:=aA (by omega) (by omega)
    unfold fw
    simp only [Sk.de,Sk.aI,reduceCtorEq,false_implies,sw,iZ,bH.z,bH.p,bH.t,bH.pt,bH.o,bH.and,bH.aj,bH.Fy,bH.wh,bH.dep,bH.pz,il.c,kk,kp,il.nil,il.ov,j0.c,j0.nil,uz,implies_true,true_and,and_true,and_self,true_implies,forall_eq,forall_const,hw]
    refine ⟨fun h=>⟨by omega,by omega,fun h=>by omega,fun h=>by omega⟩,fun WC=>?_⟩
    have WC:level≤8:=by simp only [LN] at WC; exact WC
    have hq:∀ q,q < t.args.length→1≤cg fu (t.args.getD q default) (level+1)∧cg fu (t.args.getD q default) (level+1)≤61+60 * (8 - level):=fun q hq=>by
      have:=ih (t.args.getD q default) (level+1) (by have:=t.l9 q hq; omega) (by omega) (by omega)
      omega
    refine ⟨⟨⟨Nat.zero_le _,fun B _ _ _=>⟨by omega,by omega,fun q hq=>absurd hq (by omega)⟩⟩,fun i hi=>⟨fun hc=>⟨fun hb=>?_,fun hb=>⟨⟨?_,fun B b1 b2 hq=>?_⟩,?_⟩⟩,fun hc=>?_⟩⟩,fun b hb=>?_⟩
    all_goals (try simp only [LN] at hc)
    all_goals (try simp only [LN] at hb)
    · intro B b1 b2 hq
      have q1:=hi.2 B b1 b2 hq
      have q2:=hq i.2 (by omega)
      rw [aA (by omega) (by omega)] at hb ⊢
      exact ⟨by omega,by omega,fun h=>by omega⟩
    · omega
    · have q1:=hi.2 B b1 b2 hq
      have q2:=hq i.2 (by omega)
      rw [aA (by omega) (by omega)] at hb ⊢
      refine ⟨by omega,by omega,fun q hqq=>?_⟩
      by_cases e:q=i.2
      · subst e; omega
      · exact q1.2.2 q (by omega)
    · omega
    · intro B b1 b2 hq
      have q1:=hi.2 B b1 b2 hq
      exact ⟨by omega,by omega,fun _=>⟨by omega,fun q hqq=>q1.2.2 q (by omega)⟩⟩
    · have:=hb _ (by omega) (by omega) hq
      refine ⟨this.1,by omega,fun h60=>?_,fun h60=>.mk (this.2.2 h60).1 fun q hqq=>?_⟩
      · have q3:=(this.2.2 h60).2
        have:Term.fV t.args≤(8 - level).toNat:=Term.Qi _ (fun q hqq=>by
          have:=(ih (t.args.getD q default) (level+1) (by have:=t.l9 q hqq; omega) (by omega) (by omega)).2.2.1 (q3 q hqq)
          omega)
        have e:t.depth=Term.fV t.args+1:=by obtain ⟨_,_,_⟩:=t; rfl
        omega
      · exact (ih (t.args.getD q default) (level+1) (by have:=t.l9 q hqq; omega) (by omega) (by omega)).2.2.2 ((this.2.2 h60).2 q hqq)
def xq (n:Int):Sk (Int) :=
 .fin (cq (bX n (-1099511627776)) 1099511627776)
def Mw n:=(xq n).val
theorem tS (n:Int):Mw n=(cq (bX n (-1099511627776)) 1099511627776):=rfl
theorem Uw (n:Int):(xq n).bC (fun _=>True):=by
  unfold xq
  exact qT

def kS n:=kk tok mixed Tryz.func205 [iv n] (fun x=>iv x) true (xq n) (Mw n) (u0 (Uw n))
def j8 (v:Int):Sk (Int × Bool) :=
 .br ((decide (v < 0))||(decide (v > 19)))
 (.fin (0,false))
 (.br (decide (v < 7))
 (.fin (0,true))
 (.fin (1,true)))
def Ah v:=(j8 v).val
theorem JO (v:Int):(j8 v).bC (fun _=>True):=by
  unfold j8
  exact qT

def lL v:=kk tok mixed Tryz.func203 [iv v] (fun x=>.fD [iv x.1,bv x.2]) true (j8 v) (Ah v) (u0 (JO v))
def kq (t:Term):Sk (Int × Int) :=
 .br (decide (((t.args.length:Nat):Int) > 0))
 (.fin (0,2))
 (.br (t.op == 0)
 (.r 5 ((kS t.n).c) fun x1 =>
 .br (x1 != t.n)
 (.fin (0,3))
 (.fin (0,0)))
 (.br (t.op == 1)
 (.br ((decide (t.n < 0))||(decide (t.n > 1)))
 (.fin (0,3))
 (.fin (1,0)))
 (.r 12 ((lL t.n).c) fun x2 =>
 .br (!x2.2)
 (.fin (0,10))
 (.fin (x2.1,0)))))
def qZ t:=(kq t).val
theorem RM (t:Term):(kq t).bC (fun _=>True):=by
  unfold kq
  try simp only [lL,kS,tS]
  exact Bu

def Ce t:=kk tok mixed Tryz.func201 [av t.cells] (fun x=>.fD [iv x.1,iv x.2]) true (kq t) (qZ t) (u0 (RM t))
structure Shape where
  args:List Int
  result:Int
  deriving Inhabited
def Shape.cells (c:Shape):List D:=[nJ bI c.args,dI c.result]
def qk (op:Int):Sk (Shape) :=
 .br (op == 3)
 (.r 3 (.o [.eG (fm dm [1])]) fun _ =>
 .fin ({ args:=[1],result:=1 }:Shape))
 (.bind false (fun _=>True)
 (.br (op == 4)
 (.fin (.inr (op == 4)))
 (.fin (.inr (op == 5))))
 (fun (b1:Bool)=>⟨[(8,bv b1)],[]⟩) fun b1 =>
 .br b1
 (.r 6 (.o [.eG (fm dm [1,1])]) fun _ =>
 .fin ({ args:=[1,1],result:=1 }:Shape))
 (.br (op == 6)
 (.r 8 (.o [.eG (fm dm [1,(-1),(-1)])]) fun _ =>
 .fin ({ args:=[1,(-1),(-1)],result:=(-1) }:Shape))
 (.br (op == 7)
 (.r 10 (.o [.eG (fm dm [0,0])]) fun _ =>
 .fin ({ args:=[0,0],result:=1 }:Shape))
 (.br (op == 8)
 (.r 12 (.o [.eG (fm dm [(-1),(-1)])]) fun _ =>
 .fin ({ args:=[(-1),(-1)],result:=1 }:Shape))
 (.r 13 (.o [.eG (fm dm [0,0])]) fun _ =>
 .fin ({ args:=[0,0],result:=0 }:Shape))))))
def cE op:=(qk op).val
theorem JP (op:Int):(qk op).bC (fun _=>True):=by
  unfold qk
  exact qT

def wg op:=kk tok mixed Tryz.func202 [iv op] (fun x=>av x.cells) false (qk op) (cE op) (u0 (JP op))
/-- typed aiC -/
inductive yF:Term→Int→Prop
  | int {n:Int} (h : -1099511627776≤n∧n≤1099511627776):yF ⟨0,n,[]⟩ 0
  | bool {n:Int} (h:0≤n∧n≤1):yF ⟨1,n,[]⟩ 1
  | var {n:Int} (h:0≤n∧n≤19):yF ⟨2,n,[]⟩ (if n < 7 then 0 else 1)
  | not {a:Term}:yF a 1→yF ⟨3,0,[a]⟩ 1
  | abc {op:Int} {a b:Term} (h:op=4∨op=5):yF a 1→yF b 1→yF ⟨op,0,[a,b]⟩ 1
  | ite {a b c:Term} {k:Int}:yF a 1→yF b k→yF c k→yF ⟨6,0,[a,b,c]⟩ k
  | less {a b:Term}:yF a 0→yF b 0→yF ⟨7,0,[a,b]⟩ 1
  | eq {a b:Term} {k:Int}:yF a k→yF b k→yF ⟨8,0,[a,b]⟩ 1
  | arith {op:Int} {a b:Term} (h:9≤op∧op≤13):yF a 0→yF b 0→yF ⟨op,0,[a,b]⟩ 0
theorem yF.kind {t:Term} {k:Int} (h:yF t k):k=0∨k=1:=by
  induction h with
  | var _=>split <;> simp
  | ite _ _ _ _ ih _=>exact ih
  | _=>simp
def yd (rv:Term→Int × Int) (rp:Term→Prop) (rf:∀ (t:Term),rp t→gR Tryz.prog 168 [av t.cells] [] (.fD [iv ((rv t).1),iv ((rv t).2)]) []) (t:Term):il (Int × Int):=⟨Tryz.prog,168,[av t.cells],fun x=>.fD [iv x.1,iv x.2],true,rv t,rp t,rf t,fun _=>True,trivial⟩
def fX (rv:Term→Int × Int) (rp:Term→Prop) (rf:∀ (t:Term),rp t→gR Tryz.prog 168 [av t.cells] [] (.fD [iv ((rv t).1),iv ((rv t).2)]) []) (t:Term):Sk (Int × Int) :=
 .r 1 (.aj (.o [.eG (mkC dm t.args.length 0)]) (.p (Zf ((t.args.length:Nat):Int) 8))) fun _ =>
 .bind true (fun b1=>b1.length=t.args.length∧∀ q,q < t.args.length→(rv (t.args.getD q default)).2=0∧b1.getD q default=(rv (t.args.getD q default)).1)
 (.loop (default:Sum (Int × Int) ((List Int))) (fun i2=>i2.1.length=t.args.length∧i2.2≤t.args.length∧∀ q,q < i2.2→(rv (t.args.getD q default)).2=0∧i2.1.getD q default=(rv (t.args.getD q default)).1) (fun i2=>t.args.length - i2.2) ((List.replicate t.args.length (0:Int),0):(List Int) × Nat)
 (fun (i2:(List Int) × Nat)=>⟨[(4,ow 100002 i2.1),(20,iv ((i2.2:Nat):Int))],[(100002,bw 3 1 bI i2.1)]⟩) fun i2 =>
 .lt 18 0 i2.2 t.args.length
 (.r 4 (.aj (.p (bU ((i2.2:Nat):Int) t.args.length)) (.o [.cast 23 (acE (Term.LQ (t.args.getD i2.2 default)))])) fun _ =>
 .r 5 ((yd rv rp rf (t.args.getD i2.2 default)).c) fun x3 =>
 .br (x3.2 != 0)
 (.fin (.inl (.inl (0,x3.2))))
 (.r 8 (.aj (.p (bU ((i2.2:Nat):Int) i2.1.length)) (.aj (.o [.eG (uh dm i2.1 i2.2 x3.1)]) (.p (i2.2 < i2.1.length)))) fun _ =>
 .wn 100002 i2.1.length (i2.1.set i2.2 x3.1).length <|
 .nx 9 20 i2.2 (i2.1.set i2.2 x3.1,i2.2+1)))
 (.fin (.inl (.inr i2.1))))
 (fun (b1:(List Int))=>⟨[(4,ow 100001 b1)],[(100001,bw 3 1 bI b1)]⟩) fun b1 =>
 .br ((decide (t.op < 0))||(decide (t.op > 13)))
 (.fin (0,1))
 (.br (((t.op == 0)||(t.op == 1))||(t.op == 2))
 (.r 13 ((Ce t).c) fun x4 =>
 .fin (x4.1,x4.2))
 (.r 14 ((wg t.op).c) fun x5 =>
 .br ((((b1.length:Nat):Int) != ((x5.args.length:Nat):Int))||(t.n != 0))
 (.fin (0,2))
 (.bind true (fun b6=>∀ q,q < x5.args.length→(x5.args.getD q default = -1→b1.getD q default=b6∨b1.getD q default = -1)∧(x5.args.getD q default≠-1→b1.getD q default=x5.args.getD q default))
 (.loop (default:Sum (Int × Int) (Int)) (fun i7=>i7.2≤x5.args.length∧∀ q,q < i7.2→(x5.args.getD q default = -1→b1.getD q default=i7.1∨b1.getD q default = -1)∧(x5.args.getD q default≠-1→b1.getD q default=x5.args.getD q default)) (fun i7=>x5.args.length - i7.2) (((-1),0):Int × Nat)
 (fun (i7:Int × Nat)=>⟨[(10,iv i7.1),(82,iv ((i7.2:Nat):Int))],[]⟩) fun i7 =>
 .lt 80 0 i7.2 x5.args.length
 (.r 20 (.p (bU ((i7.2:Nat):Int) x5.args.length)) fun _ =>
 .bind false (fun b8=>b8=if (x5.args.getD i7.2 default) = -1∧i7.1 = -1 then b1.getD i7.2 default else i7.1)
 (.br (((x5.args.getD i7.2 default) == (-1))&&(i7.1 == (-1)))
 (.r 22 (.aj (.p (bU ((i7.2:Nat):Int) b1.length)) (.p (i7.2 < b1.length))) fun _ =>
 .fin (.inr (b1.getD i7.2 default)))
 (.fin (.inr i7.1)))
 (fun (b8:Int)=>⟨[(10,iv b8)],[]⟩) fun b8 =>
 .bind false (fun b9=>b9=if (x5.args.getD i7.2 default) = -1 then b8 else (x5.args.getD i7.2 default))
 (.br ((x5.args.getD i7.2 default) == (-1))
 (.fin (.inr b8))
 (.fin (.inr (x5.args.getD i7.2 default))))
 (fun (b9:Int)=>⟨[(12,iv b9)],[]⟩) fun b9 =>
 .r 25 (.aj (.p (bU ((i7.2:Nat):Int) b1.length)) (.p (i7.2 < b1.length))) fun _ =>
 .br ((b1.getD i7.2 default) != b9)
 (.fin (.inl (.inl (0,11))))
 (.nx 27 82 i7.2 (b8,i7.2+1)))
 (.fin (.inl (.inr i7.1))))
 (fun (b6:Int)=>⟨[(10,iv b6)],[]⟩) fun b6 =>
 .br (x5.result == (-1))
 (.fin (b6,0))
 (.fin (x5.result,0)))))
def cL:Nat→Term→Int × Int
  | 0,_=>default
  | fu+1,t=>(fX (cL fu) (fun _=>False) (fun _=>fun h=>h.elim) t).val
theorem O0 (fu:Nat) (rf:∀ (t:Term),t.depth≤fu∧(Hy t)→gR Tryz.prog 168 [av t.cells] [] (.fD [iv ((cL fu t).1),iv ((cL fu t).2)]) []) (t:Term) (hm:t.depth≤fu+1) (hth:Hy t):(fX (cL fu) (fun t=>t.depth≤fu∧(Hy t)) rf t).bC (fun _=>True):=by
  refine Sk.aR _ ?_
  unfold fX
  simp only [Sk.ju,Sk.aI,reduceCtorEq,ON,kk,kp,Ce,wg,yd,maxLen]
  have ah3:=hth
  obtain ⟨ht1,ht2⟩:=ah3
  refine ⟨⟨by omega,by omega,by omega⟩,fun _=>⟨⟨⟨by simp,by omega,fun q hq=>absurd hq (by omega)⟩,fun i hi hl=>⟨fun hc=>⟨⟨by omega,of_decide_eq_true hc⟩,fun _=>⟨⟨?_,?_⟩,fun x hx he=>⟨⟨⟨by omega,?_⟩,?_⟩,fun _=>⟨by simp,fun _=>⟨?_,⟨⟨by simp [hi.1],?_,fun q hq=>?_⟩,?_⟩⟩⟩⟩⟩⟩,fun hc=>⟨hi.1,fun q hq=>hi.2.2 q (by simp only [LN] at hc; omega)⟩⟩⟩,fun b hb hc zP x hx hl=>⟨⟨by omega,fun q hq=>absurd hq (by omega)⟩,fun i hi hl2=>⟨fun hc=>⟨⟨by omega,of_decide_eq_true hc⟩,fun _=>⟨⟨fun h=>⟨⟨⟨by omega,?_⟩,?_⟩,fun _=>?_⟩,fun h=>?_⟩,fun y _ hy=>⟨⟨fun h=>?_,fun h=>?_⟩,fun z _ hz=>⟨⟨⟨by omega,?_⟩,?_⟩,fun _=>fun he _=>⟨?_,⟨⟨?_,fun q hq=>?_⟩,?_⟩⟩⟩⟩⟩⟩,fun hc q hq=>hi.2 q (by simp only [LN] at hc; omega)⟩⟩⟩⟩
  all_goals (try simp only [LN] at hc)
  · have:=t.l9 i.2 (by omega); omega
  · exact ht2 i.2 (by omega)
  · omega
  · omega
  · exact aA (by omega) (by omega)
  · omega
  · simp only [LN] at he
    by_cases e:q=i.2
    · subst e
      subst hx
      exact ⟨he,qR _ (by omega) _ _⟩
    · have:=hi.2.2 q (by omega)
      refine ⟨this.1,?_⟩
      rw [← this.2]
      exact qS _ e _ _
  · omega
  all_goals (try simp only [LN] at hl)
  · omega
  · omega
  · simp only [LN] at h
    rw [if_pos h]
  · rw [if_neg]
    simp only [LN] at h
    intro ⟨h1,h2⟩
    rcases h with h | h
    · exact h h1
    · exact h h2
  · simp only [LN] at h; rw [if_pos h]
  · simp only [LN] at h; rw [if_neg h]
  · omega
  · omega
  · exact aA (by omega) (by omega)
  · omega
  · simp only [LN] at he
    by_cases e:q=i.2
    · subst e
      refine ⟨fun h=>?_,fun h=>?_⟩
      · rw [if_pos h] at hz; left; rw [he,hz]
      · rw [if_neg h] at hz; rw [he,hz]
    · have:=hi.2 q (by omega)
      refine ⟨fun h=>?_,this.2⟩
      rcases this.1 h with h1 | h1
      · by_cases c:x.args.getD i.snd default = -1∧i.fst = -1
        · right; rw [h1,c.2]
        · rw [if_neg c] at hy; left; rw [h1,hy]
      · exact .inr h1
  · omega

theorem My (fu:Nat) (rp:Term→Prop) (rf:∀ (t:Term),rp t→gR Tryz.prog 168 [av t.cells] [] (.fD [iv ((cL fu t).1),iv ((cL fu t).2)]) []) (t:Term):(fX (cL fu) rp rf t).val=cL (fu+1) t:=by kernel_rfl
theorem Mz (fu:Nat):∀ (t:Term),t.depth≤fu→(Hy t)→gR Tryz.prog 168 [av t.cells] [] (.fD [iv ((cL fu t).1),iv ((cL fu t).2)]) []:=by
  induction fu with
  | zero=>intro t hm h0; exact absurd hm (by have:=Term.vB t; omega)
  | succ fu ih =>
    intro t hm h0
    have h:gR Tryz.prog 168 [av t.cells] [] (.fD [iv (((fX (cL fu) (fun t=>t.depth≤fu∧(Hy t)) (fun t h=>ih t h.1 h.2) t).val).1),iv (((fX (cL fu) (fun t=>t.depth≤fu∧(Hy t)) (fun t h=>ih t h.1 h.2) t).val).2)]) []:=gR.sk tok mixed (fun x=>.fD [iv x.1,iv x.2]) (fun _=>[]) Tryz.func168 rfl (by kernel_rfl) 3000 (fX (cL fu) (fun t=>t.depth≤fu∧(Hy t)) (fun t h=>ih t h.1 h.2) t) (by kernel_rfl) (O0 fu _ t hm h0)
    rw [My] at h
    exact h
def Ew (t:Term):Int × Int:=cL (t.depth) t
theorem O1 (t:Term) (hth:Hy t):gR Tryz.prog 168 [av t.cells] [] (.fD [iv ((Ew t).1),iv ((Ew t).2)]) []:=Mz _ t (Nat.le_refl _) hth
def Ai (t:Term):il (Int × Int):=⟨Tryz.prog,168,[av t.cells],fun x=>.fD [iv x.1,iv x.2],true,Ew t,(Hy t),fun h=>O1 t h,fun _=>True,trivial⟩
theorem JQ (t:Term) (zP:t.op=0∨t.op=1∨t.op=2) (h:(qZ t).2=0):yF t (qZ t).1:=by
  obtain ⟨op,n,args⟩:=t
  simp only at zP
  revert h
  cases args with
  | cons a r =>
    intro h
    exfalso
    revert h
    simp only [qZ,kq,Sk.fB,Sk.dn]
    rw [show decide ((((a :: r).length:Nat):Int) > 0)=true from by simp]
    simp
  | nil =>
    rcases zP with rfl | rfl | rfl
    · simp only [qZ,kq,Sk.fB,Sk.dn,Sk.jt,il.A1,kk,kp,kS,tS]
      intro h
      by_cases c:cq (bX n (-1099511627776)) 1099511627776=n
      · have : -1099511627776≤n∧n≤1099511627776:=by simp only [cq,bX] at c; omega
        have e:(cq (bX n (-1099511627776)) 1099511627776 != n)=false:=by simpa using c
        rw [e]
        exact yF.int this
      · have e:(cq (bX n (-1099511627776)) 1099511627776 != n)=true:=by simpa using c
        rw [e] at h
        exact absurd (show (3:Int)=0 from h) (by decide)
    · simp only [qZ,kq,Sk.fB,Sk.dn,Sk.jt,il.A1,kk,kp,kS,tS]
      intro h
      by_cases c:n < 0∨n > 1
      · have e:(decide (n < 0)||decide (n > 1))=true:=by simpa using c
        rw [e] at h
        exact absurd (show (3:Int)=0 from h) (by decide)
      · have:0≤n∧n≤1:=by omega
        have e:(decide (n < 0)||decide (n > 1))=false:=by simp; omega
        rw [e]
        exact yF.bool this
    · intro h
      have e:qZ ⟨2,n,[]⟩=(if n < 0∨n > 19 then (0,10) else if n < 7 then (0,0) else (1,0)):=by
        simp only [qZ,kq,Sk.fB,Sk.dn,Sk.jt,il.A1,kk,kp,lL,Ah,j8]
        by_cases c:n < 0∨n > 19
        · have:(decide (n < 0)||decide (n > 19))=true:=by simpa using c
          simp [this,c]
        · have:(decide (n < 0)||decide (n > 19))=false:=by simp; omega
          by_cases d:n < 7 <;> simp [this,c,d]
      rw [e] at h ⊢
      by_cases c:n < 0∨n > 19
      · simp [c] at h
      · have:0≤n∧n≤19:=by omega
        have:=yF.var this
        by_cases d:n < 7 <;> simpa [c,d] using this

theorem aew:cE 3=⟨[1],1⟩:=by kernel_rfl
theorem aex:cE 4=⟨[1,1],1⟩:=by kernel_rfl
theorem aey:cE 5=⟨[1,1],1⟩:=by kernel_rfl
theorem aez:cE 6=⟨[1,-1,-1],-1⟩:=by kernel_rfl
theorem aeA:cE 7=⟨[0,0],1⟩:=by kernel_rfl
theorem aeB:cE 8=⟨[-1,-1],1⟩:=by kernel_rfl
theorem abd:cE 9=⟨[0,0],0⟩:=by kernel_rfl
theorem Zm:cE 10=⟨[0,0],0⟩:=by kernel_rfl
theorem Zn:cE 11=⟨[0,0],0⟩:=by kernel_rfl
theorem Zo:cE 12=⟨[0,0],0⟩:=by kernel_rfl
theorem Zp:cE 13=⟨[0,0],0⟩:=by kernel_rfl
theorem aeC (op:Int) (h:9≤op∧op≤13):cE op=⟨[0,0],0⟩:=by
  have:op=9∨op=10∨op=11∨op=12∨op=13:=by omega
  rcases this with e | e | e | e | e <;> rw [e]
  · exact abd
  · exact Zm
  · exact Zn
  · exact Zo
  · exact Zp

theorem agf {α:Type} {l:List α} (h:l.length=1):∃ a,l=[a]:=by
  match l,h with
  | [a],_=>exact ⟨a,rfl⟩
theorem Ux {α:Type} {l:List α} (h:l.length=2):∃ a b,l=[a,b]:=by
  match l,h with
  | [a,b],_=>exact ⟨a,b,rfl⟩
theorem agh {α:Type} {l:List α} (h:l.length=3):∃ a b c,l=[a,b,c]:=by
  match l,h with
  | [a,b,c],_=>exact ⟨a,b,c,rfl⟩

/-- YD I8 ah4 say -/
theorem MA {t:Term} {b1:List Int} {common:Int} (zP:3≤t.op∧t.op≤13) (hn:t.n=0) (hl:b1.length=(cE t.op).args.length) (hb:b1.length=t.args.length) (Q9:∀ q,q < t.args.length→yF (t.args.getD q default) (b1.getD q default))
    (hc:∀ q,q < (cE t.op).args.length→((cE t.op).args.getD q default = -1→b1.getD q default=common∨b1.getD q default = -1)∧((cE t.op).args.getD q default≠-1→b1.getD q default=(cE t.op).args.getD q default)) :
    yF t (if (cE t.op).result = -1 then common else (cE t.op).result):=by
  obtain ⟨op,n,args⟩:=t
  simp only at zP hn hl hb Q9 hc ⊢
  subst hn
  have aeD:op=3∨op=4∨op=5∨op=6∨op=7∨op=8∨(9≤op∧op≤13):=by omega
  rcases aeD with rfl | rfl | rfl | rfl | rfl | rfl | h9
  · rw [aew] at hl hc ⊢
    obtain ⟨a,rfl⟩:=agf (hb.symm.trans hl)
    have h0:=Q9 0 (by simp)
    have c0:=hc 0 (by simp)
    simp at h0 c0 ⊢
    rw [c0] at h0
    exact .not h0
  · rw [aex] at hl hc ⊢
    obtain ⟨a,b,rfl⟩:=Ux (hb.symm.trans hl)
    have h0:=Q9 0 (by simp); have h1:=Q9 1 (by simp)
    have c0:=hc 0 (by simp); have c1:=hc 1 (by simp)
    simp at h0 h1 c0 c1 ⊢
    rw [c0] at h0; rw [c1] at h1
    exact .abc (.inl rfl) h0 h1
  · rw [aey] at hl hc ⊢
    obtain ⟨a,b,rfl⟩:=Ux (hb.symm.trans hl)
    have h0:=Q9 0 (by simp); have h1:=Q9 1 (by simp)
    have c0:=hc 0 (by simp); have c1:=hc 1 (by simp)
    simp at h0 h1 c0 c1 ⊢
    rw [c0] at h0; rw [c1] at h1
    exact .abc (.inr rfl) h0 h1
  · rw [aez] at hl hc ⊢
    obtain ⟨a,b,c,rfl⟩:=agh (hb.symm.trans hl)
    have h0:=Q9 0 (by simp); have h1:=Q9 1 (by simp); have h2:=Q9 2 (by simp)
    have c0:=hc 0 (by simp); have c1:=hc 1 (by simp); have c2:=hc 2 (by simp)
    simp at h0 h1 h2 c0 c1 c2 ⊢
    have k1:=h1.kind; have k2:=h2.kind
    rw [c0] at h0
    have e1:b1[1]?.getD 0=common:=by omega
    have e2:b1[2]?.getD 0=common:=by omega
    rw [e1] at h1; rw [e2] at h2
    exact .ite h0 h1 h2
  · rw [aeA] at hl hc ⊢
    obtain ⟨a,b,rfl⟩:=Ux (hb.symm.trans hl)
    have h0:=Q9 0 (by simp); have h1:=Q9 1 (by simp)
    have c0:=hc 0 (by simp); have c1:=hc 1 (by simp)
    simp at h0 h1 c0 c1 ⊢
    rw [c0] at h0; rw [c1] at h1
    exact .less h0 h1
  · rw [aeB] at hl hc ⊢
    obtain ⟨a,b,rfl⟩:=Ux (hb.symm.trans hl)
    have h0:=Q9 0 (by simp); have h1:=Q9 1 (by simp)
    have c0:=hc 0 (by simp); have c1:=hc 1 (by simp)
    simp at h0 h1 c0 c1 ⊢
    have k1:=h0.kind; have k2:=h1.kind
    have e1:b1[0]?.getD 0=common:=by omega
    have e2:b1[1]?.getD 0=common:=by omega
    rw [e1] at h0; rw [e2] at h1
    exact .eq h0 h1
  · rw [aeC op h9] at hl hc ⊢
    obtain ⟨a,b,rfl⟩:=Ux (hb.symm.trans hl)
    have h0:=Q9 0 (by simp); have h1:=Q9 1 (by simp)
    have c0:=hc 0 (by simp); have c1:=hc 1 (by simp)
    simp at h0 h1 c0 c1 ⊢
    rw [c0] at h0; rw [c1] at h1
    exact .arith h9 h0 h1

theorem zn:∀ (fu:Nat) (t:Term),t.depth≤fu→(cL fu t).2=0→yF t (cL fu t).1
  | 0,t,hd,_=>absurd hd (by have:=t.vB; omega)
  | fu+1,t,hd,h=>by
    have ih:=zn fu
    have key:cL (fu+1) t=(fX (cL fu) (fun _=>False) (fun _ h=>h.elim) t).val:=rfl
    rw [key] at h ⊢
    refine (Sk.dk (fX (cL fu) (fun _=>False) (fun _ h=>h.elim) t) (L:=fun x=>x.2=0→yF t x.1) (Sk.bz _ ?_)) h
    unfold fX
    simp only [Sk.de,Sk.aI,reduceCtorEq,false_implies,sw,iZ,bH.z,bH.p,bH.t,bH.pt,bH.o,bH.and,bH.aj,bH.Fy,bH.wh,bH.dep,bH.pz,il.c,kk,kp,yd,Ce,wg,implies_true,true_and,and_true,and_self,true_implies,forall_eq,forall_const]
    refine ⟨⟨⟨by simp,Nat.zero_le _,fun q hq=>absurd hq (by omega)⟩,fun i hi=>⟨fun hc=>⟨fun he h=>?_,fun he=>⟨⟨by simp [hi.1],?_,fun q hq=>?_⟩,?_⟩⟩,fun hc=>⟨hi.1,fun q hq=>hi.2.2 q (by simp at hc; omega)⟩⟩⟩,fun b hb=>⟨fun hc h=>absurd h (by decide),fun hc=>⟨fun zP h=>?_,fun zP=>⟨fun _ h=>absurd h (by decide),fun hl=>⟨⟨⟨Nat.zero_le _,fun q hq=>absurd hq (by omega)⟩,fun i hi=>⟨fun hc=>⟨⟨?_,?_⟩,fun y _ hy=>⟨⟨?_,?_⟩,fun z _ hz=>⟨fun _ h=>absurd h (by decide),fun he=>⟨⟨?_,fun q hq=>?_⟩,?_⟩⟩⟩⟩,fun hc q hq=>hi.2 q (by simp at hc; omega)⟩⟩,fun y hy=>⟨?_,?_⟩⟩⟩⟩⟩⟩
    · rw [h] at he; exact absurd he (by decide)
    · simp only [LN] at hc; omega
    · simp only [LN] at hc he
      by_cases e:q=i.2
      · subst e
        exact ⟨he,qR _ (by omega) _ _⟩
      · have:=hi.2.2 q (by omega)
        refine ⟨this.1,?_⟩
        rw [← this.2]
        exact qS _ e _ _
    · simp only [LN] at hc; omega
    · exact JQ t (by simp only [LN] at zP; omega) h
    · intro h; simp only [LN] at h; rw [if_pos h]
    · intro h
      rw [if_neg]
      simp only [LN] at h
      intro ⟨h1,h2⟩
      rcases h with h | h
      · exact h h1
      · exact h h2
    · intro h; simp only [LN] at h; rw [if_pos h]
    · intro h; simp only [LN] at h; rw [if_neg h]
    · simp only [LN] at hc; omega
    · simp only [LN] at hc he
      by_cases e:q=i.2
      · subst e
        refine ⟨fun h=>?_,fun h=>?_⟩
        · rw [if_pos h] at hz; left; rw [he,hz]
        · rw [if_neg h] at hz; rw [he,hz]
      · have:=hi.2 q (by omega)
        refine ⟨fun h=>?_,this.2⟩
        rcases this.1 h with h1 | h1
        · by_cases c:(cE t.op).args.getD i.snd default = -1∧i.fst = -1
          · right; rw [h1,c.2]
          · rw [if_neg c] at hy; left; rw [h1,hy]
        · exact .inr h1
    · simp only [LN] at hc; omega
    · intro h
      simp only [LN] at hc zP hl h
      have:=MA (t:=t) (b1:=b) (common:=y) (by omega) hl.2 (by omega) hb.1 (fun q hq=>by
        have h1:=hb.2 q hq
        rw [h1.2]
        exact ih _ (by have:=t.l9 q hq; omega) h1.1) hy
      rw [if_pos h] at this
      exact this
    · intro h
      simp only [LN] at hc zP hl h
      have:=MA (t:=t) (b1:=b) (common:=y) (by omega) hl.2 (by omega) hb.1 (fun q hq=>by
        have h1:=hb.2 q hq
        rw [h1.2]
        exact ih _ (by have:=t.l9 q hq; omega) h1.1) hy
      rw [if_neg h] at this
      exact this
def pK (t:Term):Sk (Int × Int) :=
 .r 1 ((we t 1).c) fun x1 =>
 .br (decide (x1 > 60))
 (.fin (0,6))
 (.r 3 ((Ai t).c) fun x2 =>
 .fin (x2.1,x2.2))
def Aj t:=(pK t).val
def Term.FZ (t:Term):Prop:=(∃ k,yF t k)∧t.depth≤8
theorem Cf (t:Term):(pK t).dj (fun (x:Int × Int)=>x.2=0→yF t x.1∧t.depth≤8):=by
 refine Sk.bz _ ?_
 unfold pK
 simp only [Sk.de,Sk.aI,reduceCtorEq,false_implies,sw,iZ,bH.z,bH.p,bH.t,bH.pt,bH.o,bH.and,bH.aj,bH.Fy,bH.wh,bH.dep,bH.pz,il.c,kk,kp,il.nil,il.ov,j0.c,j0.nil,we,Ai,forall_eq,forall_const]
 have hm:=uA _ t 1 (Nat.le_refl _) (by omega) (by omega)
 have hc:=zn _ t (Nat.le_refl _)
 refine ⟨fun _ h=>absurd h (by decide),fun c h=>⟨hc h,?_⟩⟩
 simp only [decide_eq_false_iff_not] at c
 have:cg t.depth t 1≤60:=Int.not_lt.1 c
 have:=hm.2.2.1 this
 omega
theorem JR (t:Term):(fun (x:Int × Int)=>x.2=0→yF t x.1∧t.depth≤8) (Aj t):=have h:=Sk.dk _ (Cf t); h
theorem O2 (t:Term):(pK t).bC (fun _=>True):=by
 refine Sk.aR _ ?_
 unfold pK
 simp only [Sk.ju,Sk.aI,reduceCtorEq,ON,kk,kp,Ai,we,maxLen]
 exact fun x hx h=>(uA _ t 1 (Nat.le_refl _) (by omega) (by omega)).2.2.2 (by subst hx; simp only [LN] at h; exact h)
def vb t:=kp tok mixed Tryz.func137 [av t.cells] (fun x=>.fD [iv x.1,iv x.2]) true (Aj t) (u0 (O2 t)) (Cf t)
def th (o:Order) (ask:Int):Sk (Term × Int) :=
 .r 1 ((mf ask).c) fun x1 =>
 .br (!x1.2)
 (.fin (({ op:=0,n:=0,args:=[] }:Term),1))
 (.r 4 ((rM o.rules ask).c) fun x2 =>
 .br (decide (x2 < 0))
 (.fin (({ op:=0,n:=0,args:=[] }:Term),4))
 (.r 7 (.p (bU x2 o.rules.length)) fun _ =>
 .r 8 ((vb ((o.rules.getD x2.toNat default).term)).c) fun x3 =>
 .br ((x3.2 != 0)||(x3.1 != x1.1))
 (.fin (({ op:=0,n:=0,args:=[] }:Term),11))
 (.fin ((o.rules.getD x2.toNat default).term,0))))
def jz o ask:=(th o ask).val
theorem O3 (o:Order) (ask:Int):(th o ask).bC (fun _=>True):=by
 unfold th
 try simp only [mf,rM,vb]
 exact mA
def F3 o ask:=kk tok mixed Tryz.func108 [av o.cells,iv ask] (fun x=>.fD [av x.1.cells,iv x.2]) false (th o ask) (jz o ask) (u0 (O3 o ask))
structure Machine where
 fW:List aJ
 deriving Inhabited
def xr (OX:Bool):Sk (aJ) :=
 .br OX
 (.fin ({ known:=true,n:=1 }:aJ))
 (.fin ({ known:=true,n:=0 }:aJ))
def zo OX:=(xr OX).val
theorem Uy (OX:Bool):(xr OX).bC (fun _=>True):=by
 unfold xr
 exact qT
def iD OX:=kk tok mixed Tryz.func204 [bv OX] (fun x=>av x.cells) true (xr OX) (zo OX) (u0 (Uy OX))
def gP (m:Machine) (v:Int):Sk (aJ) :=
 .r 1 (.wh (decide (v≥((m.fW.length:Nat):Int))) false (.p (bU v m.fW.length))) fun _ =>
 .br ((decide (v≥((m.fW.length:Nat):Int)))||(!((m.fW.getD v.toNat default).known)))
 (.fin ({ known:=false,n:=0 }:aJ))
 (.r 3 ((lL v).c) fun x1 =>
 .br (x1.1 == 1)
 (.r 5 (.aj (.p (bU v m.fW.length)) ((iD (((m.fW.getD v.toNat default).n) != 0)).c)) fun x2 =>
 .fin x2)
 (.r 6 (.aj (.p (bU v m.fW.length)) ((kS ((m.fW.getD v.toNat default).n)).c)) fun x3 =>
 .fin ({ known:=true,n:=x3 }:aJ)))
def jA m v:=(gP m v).val
theorem Bd (m:Machine) (v:Int) (hv:0≤v):(gP m v).bC (fun _=>True):=by
 unfold gP
 try simp only [lL,kS,iD,tS]
 exact Bu
def tT m v:=kk tok mixed Tryz.func169 [av [nJ aJ.cells m.fW],iv v] (fun x=>av x.cells) true (gP m v) (jA m v) (Bd m v)
theorem MB {a:Int} (h0:0≤a) (h1:a < 18446744073709551616):eJ .u64 a 4294967295=a % 4294967296:=by
 obtain ⟨a,rfl⟩:=Int.eq_ofNat_of_zero_le h0
 unfold eJ
 have h2:(BitVec.ofInt IntKind.u64.bits ((a:Nat):Int) &&& BitVec.ofInt IntKind.u64.bits 4294967295).toNat=a % 4294967296:=by
  have e:(4294967295:Int)=((4294967295:Nat):Int):=rfl
  rw [e,BitVec.toNat_and,BitVec.ofInt_natCast,BitVec.ofInt_natCast,BitVec.toNat_ofNat,BitVec.toNat_ofNat]
  have hb:IntKind.u64.bits=64:=rfl
  rw [hb,Nat.mod_eq_of_lt (by omega),Nat.mod_eq_of_lt (by omega)]
  exact Nat.and_two_pow_sub_one_eq_mod a 32
 rw [h2,eu (by omega) (by omega)]
 omega
theorem acK {x y:Int} (hx:0≤x∧x < 18446744073709551616) (hy:0≤y∧y < 18446744073709551616) :
  IntKind.u64.wrap ((IntKind.u64.wrap ((IntKind.u64.wrap ((ep .u64 x 32) * (ep .u64 y 32)))+(ep .u64 (IntKind.u64.wrap ((IntKind.u64.wrap ((ep .u64 x 32) * (eJ .u64 y 4294967295)))+(ep .u64 (IntKind.u64.wrap ((eJ .u64 x 4294967295) * (eJ .u64 y 4294967295))) 32))) 32)))+(ep .u64 (IntKind.u64.wrap ((eJ .u64 (IntKind.u64.wrap ((IntKind.u64.wrap ((ep .u64 x 32) * (eJ .u64 y 4294967295)))+(ep .u64 (IntKind.u64.wrap ((eJ .u64 x 4294967295) * (eJ .u64 y 4294967295))) 32))) 4294967295)+(IntKind.u64.wrap ((eJ .u64 x 4294967295) * (ep .u64 y 32))))) 32)) * 18446744073709551616+IntKind.u64.wrap (x * y)=x * y:=by
 have s32:∀ a:Int,ep .u64 a 32=a / 4294967296:=fun a=>G8 .u64 (b:=32) (by decide)
 have ax:=MB hx.1 hx.2
 have ay:=MB hy.1 hy.2
 rw [MB (kY _).1 (kY _).2,ax,ay,s32,s32,s32,s32,s32]
 have bd:∀ a b:Int,0≤a∧a < 4294967296→0≤b∧b < 4294967296→0≤a * b∧a * b≤18446744065119617025:=fun a b ha hb =>
  ⟨Int.mul_nonneg ha.1 hb.1,by have:=Int.mul_le_mul (show a≤4294967295 by omega) (show b≤4294967295 by omega) hb.1 (by omega); omega⟩
 have KD:0≤x / 4294967296∧x / 4294967296 < 4294967296:=by omega
 have hx0:0≤x % 4294967296∧x % 4294967296 < 4294967296:=by omega
 have Yc:0≤y / 4294967296∧y / 4294967296 < 4294967296:=by omega
 have V0:0≤y % 4294967296∧y % 4294967296 < 4294967296:=by omega
 have b11:=bd _ _ KD Yc
 have b10:=bd _ _ KD V0
 have b01:=bd _ _ hx0 Yc
 have b00:=bd _ _ hx0 V0
 have e:x * y=(x / 4294967296) * (y / 4294967296) * 18446744073709551616+((x / 4294967296) * (y % 4294967296)+(x % 4294967296) * (y / 4294967296)) * 4294967296+(x % 4294967296) * (y % 4294967296):=by
  have ex:x=x / 4294967296 * 4294967296+x % 4294967296:=by omega
  have ey:y=y / 4294967296 * 4294967296+y % 4294967296:=by omega
  generalize x / 4294967296=x1 at ex ⊢
  generalize x % 4294967296=x0 at ex ⊢
  generalize y / 4294967296=y1 at ey ⊢
  generalize y % 4294967296=y0 at ey ⊢
  subst ex; subst ey
  have a1:x1 * 4294967296 * (y1 * 4294967296)=x1 * y1 * 18446744073709551616:=by rw [Int.mul_assoc,Int.mul_left_comm 4294967296 y1,← Int.mul_assoc]; rfl
  have a2:x1 * 4294967296 * y0=x1 * y0 * 4294967296:=Int.mul_right_comm _ _ _
  have a3:x0 * (y1 * 4294967296)=x0 * y1 * 4294967296:=(Int.mul_assoc _ _ _).symm
  rw [Int.add_mul,Int.mul_add,Int.mul_add,a1,a2,a3,Int.add_mul]
  omega
 rw [e]
 generalize x / 4294967296 * (y / 4294967296)=GL at *
 generalize x / 4294967296 * (y % 4294967296)=NW at *
 generalize x % 4294967296 * (y / 4294967296)=p01 at *
 generalize x % 4294967296 * (y % 4294967296)=p00 at *
 simp only [LK]
 omega
def mO (x_:Int) (y:Int):Sk (Int × Int) :=
 .r 2 (.p (0≤(32:Int))) fun _ =>
 .r 4 (.p (0≤(32:Int))) fun _ =>
 .r 6 (.p (0≤(32:Int))) fun _ =>
 .r 8 (.p (0≤(32:Int))) fun _ =>
 .r 10 (.p (0≤(32:Int))) fun _ =>
 .fin (IntKind.u64.wrap ((IntKind.u64.wrap ((IntKind.u64.wrap ((ep .u64 x_ 32) * (ep .u64 y 32)))+(ep .u64 (IntKind.u64.wrap ((IntKind.u64.wrap ((ep .u64 x_ 32) * (eJ .u64 y 4294967295)))+(ep .u64 (IntKind.u64.wrap ((eJ .u64 x_ 4294967295) * (eJ .u64 y 4294967295))) 32))) 32)))+(ep .u64 (IntKind.u64.wrap ((eJ .u64 (IntKind.u64.wrap ((IntKind.u64.wrap ((ep .u64 x_ 32) * (eJ .u64 y 4294967295)))+(ep .u64 (IntKind.u64.wrap ((eJ .u64 x_ 4294967295) * (eJ .u64 y 4294967295))) 32))) 4294967295)+(IntKind.u64.wrap ((eJ .u64 x_ 4294967295) * (ep .u64 y 32))))) 32)),IntKind.u64.wrap (x_ * y))
def sQ x_ y:=(mO x_ y).val
theorem MC (x_:Int) (y:Int) (hP:(0≤x_∧x_ < 18446744073709551616)∧0≤y∧y < 18446744073709551616):(mO x_ y).dj (fun (x:Int × Int)=>(0≤x.1∧x.1 < 18446744073709551616)∧(0≤x.2∧x.2 < 18446744073709551616)∧x.1 * 18446744073709551616+x.2=x_ * y):=by
 refine Sk.bz _ ?_
 unfold mO
 simp only [Sk.de,Sk.aI,reduceCtorEq,ON,kk,kp,maxLen]
 intro _ _ _ _ _
 exact ⟨kY _,kY _,acK hP.1 hP.2⟩
theorem uB (x_:Int) (y:Int):(fun (x:Int × Int)=>((0≤x_∧x_ < 18446744073709551616)∧0≤y∧y < 18446744073709551616)→((0≤x.1∧x.1 < 18446744073709551616)∧(0≤x.2∧x.2 < 18446744073709551616)∧x.1 * 18446744073709551616+x.2=x_ * y)) (sQ x_ y):=fun hP=>Sk.dk _ (MC x_ y hP)
theorem O4 (x_:Int) (y:Int):(mO x_ y).bC (fun _=>True):=by
 unfold mO
 exact mA
def kr x_ y:=kk tok mixed Tryz.func223 [.d (.v (.int .u64 x_)),.d (.v (.int .u64 y))] (fun x=>.fD [.d (.v (.int .u64 x.1)),.d (.v (.int .u64 x.2))]) true (mO x_ y) (sQ x_ y) (u0 (O4 x_ y)) (fun (x:Int × Int)=>((0≤x_∧x_ < 18446744073709551616)∧0≤y∧y < 18446744073709551616)→((0≤x.1∧x.1 < 18446744073709551616)∧(0≤x.2∧x.2 < 18446744073709551616)∧x.1 * 18446744073709551616+x.2=x_ * y)) (uB x_ y)
def ql (a:Int) (b:Int):Sk (Int) :=
 .r 1 ((kr (IntKind.u64.wrap (bX a (ar (0 - a)))) (IntKind.u64.wrap (bX b (ar (0 - b))))).c) fun x1 =>
 .bind false (fun _=>True)
 (.br ((x1.1 == 0)&&(decide (x1.2 < 1099511627776)))
 (.fin (.inr (ar (x1.2))))
 (.fin (.inr 1099511627776)))
 (fun (b2:Int)=>⟨[(7,iv b2)],[]⟩) fun b2 =>
 .br (!((decide (a < 0)) == (decide (b < 0))))
 (.fin (ar (0 - b2)))
 (.fin b2)
def RN a b:=(ql a b).val
theorem JS (a:Int) (b:Int):(ql a b).bC (fun _=>True):=by
 unfold ql
 try simp only [kr]
 exact qT
def Cg a b:=kk tok mixed Tryz.func226 [iv a,iv b] (fun x=>iv x) true (ql a b) (RN a b) (u0 (JS a b))
def mi (op:Int) (a:Int) (b:Int):Sk (Int) :=
 .br (op == 9)
 (.r 3 ((kS (ar (a+b))).c) fun x1 =>
 .fin x1)
 (.br (op == 10)
 (.r 5 ((kS (ar (a - b))).c) fun x2 =>
 .fin x2)
 (.br (op == 11)
 (.r 7 ((Cg a b).c) fun x3 =>
 .fin x3)
 (.br (op == 12)
 (.fin (cq a b))
 (.fin (bX a b)))))
def A3 op a b:=(mi op a b).val
theorem Ex (op:Int) (a:Int) (b:Int):(mi op a b).bC (fun _=>True):=by
 unfold mi
 try simp only [kS,Cg,tS]
 exact Bu
def rN op a b:=kk tok mixed Tryz.func206 [iv op,iv a,iv b] (fun x=>iv x) true (mi op a b) (A3 op a b) (u0 (Ex op a b))
def gB (op:Int) (l:List aJ):Sk (aJ) :=
 .bind true (fun b1=>op≠3∧op≠6)
 (.br (op == 3)
 (.r 3 (.p (bU (0:Int) l.length)) fun _ =>
 .br ((l.getD 0 default).known)
 (.r 4 (.aj (.p (bU (0:Int) l.length)) ((iD (((l.getD 0 default).n) == 0)).c)) fun x2 =>
 .fin (.inl x2))
 (.fin (.inl ({ known:=false,n:=0 }:aJ))))
 (.bind false (fun b3=>b3=(op == 4||op == 5))
 (.br (op == 4)
 (.fin (.inr (op == 4)))
 (.fin (.inr (op == 5))))
 (fun (b3:Bool)=>⟨[(22,bv b3)],[]⟩) fun b3 =>
 .br b3
 (.r 8 ((iD (op == 5)).c) fun x4 =>
 .r 9 (.aj (.p (bU (0:Int) l.length)) (.wh ((((l.getD 0 default).known) == x4.known)&&((((l.getD 0 default).n) == x4.n)&&true)) false (.p (bU (1:Int) l.length)))) fun _ =>
 .br (((((l.getD 0 default).known) == x4.known)&&((((l.getD 0 default).n) == x4.n)&&true))||((((l.getD 1 default).known) == x4.known)&&((((l.getD 1 default).n) == x4.n)&&true)))
 (.fin (.inl x4))
 (.fin (.inr ())))
 (.br (op == 6)
 (.r 12 (.aj (.p (bU (1:Int) l.length)) (.aj (.wh ((l.getD 1 default).known) true (.p (bU (1:Int) l.length))) (.wh ((l.getD 1 default).known) true (.p (bU (2:Int) l.length))))) fun _ =>
 .br (((l.getD 1 default).known)&&((((l.getD 1 default).known) == ((l.getD 2 default).known))&&((((l.getD 1 default).n) == ((l.getD 2 default).n))&&true)))
 (.r 13 (.p (bU (1:Int) l.length)) fun _ =>
 .fin (.inl (l.getD 1 default)))
 (.fin (.inl ({ known:=false,n:=0 }:aJ))))
 (.fin (.inr ())))))
 (fun (_:Unit)=>⟨[],[]⟩) fun _ =>
 .r 15 (.aj (.p (bU (0:Int) l.length)) (.wh (!((l.getD 0 default).known)) false (.p (bU (1:Int) l.length)))) fun _ =>
 .br ((!((l.getD 0 default).known))||(!((l.getD 1 default).known)))
 (.fin ({ known:=false,n:=0 }:aJ))
 (.r 17 (.aj (.p (bU (0:Int) l.length)) (.p (bU (1:Int) l.length))) fun _ =>
 .bind false (fun _=>True)
 (.br (op == 4)
 (.fin (.inr (op == 4)))
 (.fin (.inr (op == 5))))
 (fun (b5:Bool)=>⟨[(82,bv b5)],[]⟩) fun b5 =>
 .br b5
 (.r 21 ((iD (op == 4)).c) fun x6 =>
 .fin x6)
 (.br (op == 7)
 (.r 23 ((iD (decide (((l.getD 0 default).n) < ((l.getD 1 default).n)))).c) fun x7 =>
 .fin x7)
 (.br (op == 8)
 (.r 25 ((iD (((l.getD 0 default).n) == ((l.getD 1 default).n))).c) fun x8 =>
 .fin x8)
 (.r 26 ((rN op ((l.getD 0 default).n) ((l.getD 1 default).n)).c) fun x9 =>
 .fin ({ known:=true,n:=x9 }:aJ)))))
def ct op l:=(gB op l).val
theorem JT (op:Int) (l:List aJ) (ha:(op=3∧1≤l.length)∨(op=6∧3≤l.length)∨(op≠3∧op≠6∧2≤l.length)):(gB op l).bC (fun _=>True):=by
 unfold gB
 try simp only [rN,iD]
 exact mA
def Ch op l:=kk tok mixed Tryz.func170 [iv op,lv aJ.cells l] (fun x=>av x.cells) true (gB op l) (ct op l) (JT op l)
def gU (n:Int):Sk ((List Int)) :=
 .bind false (fun _=>True)
 (.br (decide (n < 0))
 (.dead default)
 (.fin (.inr ())))
 (fun (_:Unit)=>⟨[],[]⟩) fun _ =>
 .br (decide ((ar (n - (ar ((0:Int) - 0)))) > 0))
 (.r 5 (.aj (.p (0≤(0:Int)∧(0:Int)≤0)) (.aj (.aj (.o [.eG (mkC dm ((ar (n - (ar ((0:Int) - 0)))).toNat) (0:Int))]) (.p (Zf (ar (n - (ar ((0:Int) - 0)))) 8))) (.aj (.o [.eG (afV dm (List.replicate ((ar (n - (ar ((0:Int) - 0)))).toNat) (0:Int)) 0)]) (.p (0≤(0:Int)∧0≤(((List.replicate ((ar (n - (ar ((0:Int) - 0)))).toNat) (0:Int)).length:Nat):Int)))))) fun _ =>
 .fin (mZ (List.replicate ((ar (n - (ar ((0:Int) - 0)))).toNat) (0:Int)) 0 0))
 (.fin [])
def qm n:=(gU n).val
theorem DE (n:Int):(gU n).dj (fun (x:(List Int))=>x=[]):=by
 unfold gU
 exact Fz
theorem Ci (n:Int):(fun (x:(List Int))=>x=[]) (qm n):=have h:=Sk.dk _ (DE n); h
theorem Ey (n:Int) (hn:0≤n∧n≤1000000000):(gU n).bC (fun _=>True):=by
 unfold gU
 exact mA
theorem DF (n:Int) (hn:0≤n∧n≤1000000000):gR Tryz.prog 207 [nv,iv n] [] (ow 777777 (qm n)) [(777777,bw 3 1 bI (qm n))] :=
 gR.sk tok mixed (fun x=>ow 777777 x) (fun x=>[(777777,bw 3 1 bI x)]) Tryz.func207 rfl (by kernel_rfl) 3000 (gU n) (by kernel_rfl) (Ey n hn)
def qI (κ:Nat) (n:Int):j0 ((List Int)):=⟨Tryz.prog,207,[nv,iv n],fun x=>ow κ x,fun x=>[(κ,bw 3 1 bI x)],qm n,(0≤n∧n≤1000000000),fun h=>gR.X0 κ (DF n h),fun (x:(List Int))=>x=[],Ci n⟩
theorem HB {α:Type} [Inhabited α] (l:List (List α)) (n:Nat) (h:n < l.length):(l.take (n+1)).flatten=(l.take n).flatten++l.getD n default:=by
 rw [List.take_succ_eq_append_getElem h,List.flatten_append]
 simp only [List.getD,h,List.getElem?_eq_getElem,Option.getD_some,List.flatten_cons,List.flatten_nil,List.append_nil]
theorem RO {α:Type} [Inhabited α] (l:List (List α)) (B:Nat) (h:∀ i,i < l.length→(l.getD i default).length≤B):∀ n,n≤l.length→(l.take n).flatten.length≤B * n
 | 0,_=>by simp
 | n+1,hn=>by
  have:=RO l B h n (by omega)
  rw [HB l n (by omega),List.length_append,Nat.mul_add]
  have:=h n (by omega)
  omega
def lM (ck:List (List Int)):Sk ((List Int)) :=
 .bind true (fun b1=>(ck.length≤100∧∀ i,i < ck.length→(ck.getD i default).length≤1000000)→(0:Int)≤b1∧b1≤100000000)
 (.loop (default:Sum ((List Int)) (Int)) (fun i2=>(ck.length≤100∧∀ i,i < ck.length→(ck.getD i default).length≤1000000)→(0:Int)≤i2.1∧i2.1≤((1000000 * i2.2:Nat):Int)∧i2.2≤ck.length) (fun i2=>ck.length - i2.2) ((0,0):Int × Nat)
 (fun (i2:Int × Nat)=>⟨[(3,iv i2.1),(11,iv (i2.2:Int))],[]⟩) fun i2 =>
 .lt 0 0 i2.2 ck.length
 (.r 4 (.p (bU (i2.2:Int) ck.length)) fun _ =>
 .br (decide ((ar (i2.1+(((ck.getD i2.2 default).length:Nat):Int))) < 0))
 (.dead default)
 (.r 8 .z fun _ =>
 .wi 11 (ar ((i2.2:Int)+1)) ((i2.2+1:Nat):Int) <|
 .fin (.inr (ar (i2.1+(((ck.getD i2.2 default).length:Nat):Int)),i2.2+1))))
 (.fin (.inl (.inr i2.1))))
 (fun (b1:Int)=>⟨[(3,iv b1)],[]⟩) fun b1 =>
 .r 9 ((qI 24 b1).c) fun x3 =>
 .bind true (fun b4=>(ck.length≤100∧∀ i,i < ck.length→(ck.getD i default).length≤1000000)→b4=ck.flatten)
 (.loop (default:Sum ((List Int)) ((List Int))) (fun i5=>(ck.length≤100∧∀ i,i < ck.length→(ck.getD i default).length≤1000000)→i5.1=(ck.take i5.2).flatten∧i5.2≤ck.length) (fun i5=>ck.length - i5.2) ((x3,0):(List Int) × Nat)
 (fun (i5:(List Int) × Nat)=>⟨[(6,ow 100002 i5.1),(27,iv (i5.2:Int))],[(100002,bw 3 1 bI i5.1)]⟩) fun i5 =>
 .lt 25 0 i5.2 ck.length
 (.r 12 (.p (bU (i5.2:Int) ck.length)) fun _ =>
 .r 13 (.aj (.o [.eG (mY dm i5.1 (ck.getD i5.2 default))]) (.aj (.t (dm.src (ck.getD i5.2 default))) (.p (yE i5.1.length (ck.getD i5.2 default).length 8)))) fun _ =>
 .nx 14 27 i5.2 (i5.1++(ck.getD i5.2 default),i5.2+1))
 (.fin (.inl (.inr i5.1))))
 (fun (b4:(List Int))=>⟨[(6,ow 100001 b4)],[(100001,bw 3 1 bI b4)]⟩) fun b4 =>
 .fin b4
def ye ck:=(lM ck).val
theorem xt (ck:List (List Int)):(lM ck).dj (fun (x:(List Int))=>(ck.length≤100∧∀ i,i < ck.length→(ck.getD i default).length≤1000000)→x=ck.flatten):=by
 refine Sk.bz _ ?_
 unfold lM
 simp only [Sk.de,Sk.aI,reduceCtorEq,ON,kk,kp,qI,maxLen]
 refine ⟨⟨fun h=>⟨by omega,by omega,by omega⟩,fun i hi=>⟨fun hc _=>⟨fun hd=>?_,fun hd _=>⟨fun h=>?_,?_⟩⟩,fun hc h=>?_⟩⟩,fun b hb x _ hx=>⟨⟨fun h=>⟨by simp [hx],by omega⟩,fun i hi=>⟨fun hc _ _ _=>⟨fun h=>⟨?_,?_⟩,?_⟩,fun hc h=>?_⟩⟩,fun b hb=>hb⟩⟩
 all_goals (try simp only [LN] at hc)
 all_goals (try simp only [LN] at hd)
 ·show (ck.length≤100∧∀ (i:Nat),i < ck.length→(ck.getD i default).length≤1000000)→_
  intro h
  have h1:=hi h
  have h2:=h.2 i.2 (by omega)
  rw [aA (by omega) (by omega)] at hd
  omega
 ·have h1:=hi h
  have h2:=h.2 i.2 (by omega)
  rw [aA (by omega) (by omega)]
  omega
 ·omega
 ·have:=hi h
  omega
 ·rw [HB ck i.2 (by omega),(hi h).1]
 ·have:=hi h; omega
 ·omega
 ·have:=hi h
  rw [this.1,show i.2=ck.length by omega,List.take_length]
theorem Ez (ck:List (List Int)):(fun (x:(List Int))=>(ck.length≤100∧∀ i,i < ck.length→(ck.getD i default).length≤1000000)→x=ck.flatten) (ye ck):=have h:=Sk.dk _ (xt ck); h
theorem HC (ck:List (List Int)) (hn:(ck.length≤100∧∀ i,i < ck.length→(ck.getD i default).length≤1000000)):(lM ck).bC (fun _=>True):=by
 refine Sk.aR _ ?_
 unfold lM
 simp only [Sk.ju,Sk.aI,reduceCtorEq,ON,kk,kp,qI,maxLen]
 refine ⟨⟨fun h=>⟨by omega,by omega,by omega⟩,fun i hi hl=>⟨fun hc=>⟨⟨by omega,of_decide_eq_true hc⟩,fun _=>⟨fun hd=>?_,fun hd _=>⟨?_,⟨fun h=>?_,?_⟩⟩⟩⟩,fun hc h=>?_⟩⟩,fun b hb=>⟨?_,fun x _ hx=>⟨fun h=>⟨by simp [hx],by omega⟩,fun i hi hl=>⟨fun hc=>⟨⟨by omega,of_decide_eq_true hc⟩,fun _=>⟨?_,fun _ _=>⟨?_,⟨fun h=>⟨?_,?_⟩,?_⟩⟩⟩⟩,fun hc h=>?_⟩⟩⟩⟩
 all_goals (try simp only [LN] at hc)
 all_goals (try simp only [LN] at hd)
 ·have h1:=hi hn
  have h2:=hn.2 i.2 (by omega)
  rw [aA (by omega) (by omega)] at hd
  omega
 ·exact aA (by omega) (by omega)
 ·have h1:=hi h
  have h2:=h.2 i.2 (by omega)
  rw [aA (by omega) (by omega)]
  omega
 ·omega
 ·have:=hi h
  omega
 ·have:=hb hn; omega
 ·have h1:=hi hn
  have h2:=hn.2 i.2 (by omega)
  have h3:=RO ck 1000000 hn.2 i.2 (by omega)
  rw [← h1.1] at h3
  omega
 ·exact aA (by omega) (by omega)
 ·rw [HB ck i.2 (by omega),(hi h).1]
 ·have:=hi h; omega
 ·omega
 ·have:=hi h
  rw [this.1,show i.2=ck.length by omega,List.take_length]
def A4 ck:=kp tok mixed Tryz.func171 [lv (slE dm).cells ck] (fun x=>lv bI x) false (ye ck) (HC ck) (xt ck)
def uP (rv:Machine→Term→aJ × (List Int)) (rp:Machine→Term→Prop) (rf:∀ (m:Machine) (t:Term),rp m t→gR Tryz.prog 138 [av [nJ aJ.cells m.fW],av t.cells] [] (.fD [av ((rv m t).1).cells,lv bI ((rv m t).2)]) []) (m:Machine) (t:Term):il (aJ × (List Int)):=⟨Tryz.prog,138,[av [nJ aJ.cells m.fW],av t.cells],fun x=>.fD [av x.1.cells,lv bI x.2],false,rv m t,rp m t,rf m t,fun _=>True,trivial⟩
def eO (rv:Machine→Term→aJ × (List Int)) (rp:Machine→Term→Prop) (rf:∀ (m:Machine) (t:Term),rp m t→gR Tryz.prog 138 [av [nJ aJ.cells m.fW],av t.cells] [] (.fD [av ((rv m t).1).cells,lv bI ((rv m t).2)]) []) (m:Machine) (t:Term):Sk (aJ × (List Int)) :=
 .bind false (fun b1=>b1=(t.op == 0||t.op == 1))
 (.br (t.op == 0)
 (.fin (.inr (t.op == 0)))
 (.fin (.inr (t.op == 1))))
 (fun (b1:Bool)=>⟨[(15,bv b1)],[]⟩) fun b1 =>
 .br b1
 (.fin (({ known:=true,n:=t.n }:aJ),[]))
 (.br (t.op == 2)
 (.r 6 ((tT m t.n).c) fun x2 =>
 .br x2.known
 (.fin (x2,[]))
 (.r 9 (.o [.eG (fm dm [t.n])]) fun _ =>
 .fin (({ known:=false,n:=0 }:aJ),[t.n])))
 (.r 10 (.aj (.o [.eG (mkC aJ.E t.args.length ({ known:=false,n:=0 }:aJ))]) (.p (Zf ((t.args.length:Nat):Int) 16))) fun _ =>
 .r 11 (.aj (.o [.eG (mkN (slE dm) t.args.length ([]:List Int) [.v (.slice none 0 0)] (by kernel_rfl))]) (.p (Zf ((t.args.length:Nat):Int) 24))) fun _ =>
 .bind true (fun b3=>b3.1.length=t.args.length∧b3.2.length=t.args.length∧∀ q,q < t.args.length→b3.1.getD q default=(rv m (t.args.getD q default)).1∧b3.2.getD q default=(rv m (t.args.getD q default)).2)
 (.loop (default:Sum (aJ × (List Int)) ((List aJ) × (List (List Int)))) (fun i4=>i4.1.length=t.args.length∧i4.2.1.length=t.args.length∧i4.2.2≤t.args.length∧∀ q,q < i4.2.2→i4.1.getD q default=(rv m (t.args.getD q default)).1∧i4.2.1.getD q default=(rv m (t.args.getD q default)).2) (fun i4=>t.args.length - i4.2.2) ((List.replicate t.args.length ({ known:=false,n:=0 }:aJ),List.replicate t.args.length ([]:List Int),0):(List aJ) × (List (List Int)) × Nat)
 (fun (i4:(List aJ) × (List (List Int)) × Nat)=>⟨[(7,ow 100004 i4.1),(8,ow 100005 i4.2.1),(45,iv (i4.2.2:Int))],[(100004,bw 72 2 aJ.cells i4.1),(100005,bw 35 1 (slE dm).cells i4.2.1)]⟩) fun i4 =>
 .lt 43 0 i4.2.2 t.args.length
 (.r 14 (.aj (.p (bU (i4.2.2:Int) t.args.length)) (.o [.cast 48 (acE (Term.LQ (t.args.getD i4.2.2 default)))])) fun _ =>
 .r 15 (.pz ((uP rv rp rf m (t.args.getD i4.2.2 default)).c) fun x5=>.aj (.p (bU (i4.2.2:Int) i4.1.length)) (.aj (.aj (.o [.eG (uh aJ.E i4.1 i4.2.2 x5.1)]) (.p (i4.2.2 < i4.1.length))) (.aj (.p (bU (i4.2.2:Int) i4.2.1.length)) (.aj (.o [.eG (uh (slE dm) i4.2.1 i4.2.2 x5.2)]) (.p (i4.2.2 < i4.2.1.length)))))) fun x5 =>
 .wn 100004 i4.1.length (i4.1.set i4.2.2 x5.1).length <|
 .wn 100005 i4.2.1.length (i4.2.1.set i4.2.2 x5.2).length <|
 .nx 16 45 i4.2.2 (i4.1.set i4.2.2 x5.1,i4.2.1.set i4.2.2 x5.2,i4.2.2+1))
 (.fin (.inl (.inr (i4.1,i4.2.1)))))
 (fun (b3:(List aJ) × (List (List Int)))=>⟨[(7,ow 100002 b3.1),(8,ow 100003 b3.2)],[(100002,bw 72 2 aJ.cells b3.1),(100003,bw 35 1 (slE dm).cells b3.2)]⟩) fun b3 =>
 .r 17 (.aj (.wh (t.op == 6) true (.p (bU (0:Int) b3.1.length))) (.wh (t.op == 6) true (.p (0 < b3.1.length)))) fun _ =>
 .br ((t.op == 6)&&((b3.1.getD 0 default).known))
 (.r 18 (.aj (.p (bU (0:Int) b3.1.length)) (.p (0 < b3.1.length))) fun _ =>
 .r 19 (.aj (.p (bU (ar ((2:Int) - ((b3.1.getD 0 default).n))) b3.1.length)) (.aj (.p ((ar ((2:Int) - ((b3.1.getD 0 default).n))).toNat < b3.1.length)) (.aj (.p (bU (ar ((2:Int) - ((b3.1.getD 0 default).n))) b3.2.length)) (.p ((ar ((2:Int) - ((b3.1.getD 0 default).n))).toNat < b3.2.length))))) fun _ =>
 .fin (b3.1.getD ((ar ((2:Int) - ((b3.1.getD 0 default).n))).toNat) default,b3.2.getD ((ar ((2:Int) - ((b3.1.getD 0 default).n))).toNat) default))
 (.r 20 ((Ch t.op b3.1).c) fun x6 =>
 .br x6.known
 (.fin (x6,[]))
 (.fz 100003 <|
 .r 23 ((A4 b3.2).c) fun x7 =>
 .fin (({ known:=false,n:=0 }:aJ),x7)))))
def ae:Nat→Machine→Term→aJ × (List Int)
 | 0,_,_=>default
 | fu+1,m,t=>(eO (ae fu) (fun _ _=>False) (fun _ _=>fun h=>h.elim) m t).val
theorem RP (fu:Nat) (m:Machine) (n:Int):ae (fu+1) m ⟨0,n,[]⟩=(⟨true,n⟩,[]):=by kernel_rfl
theorem MD (fu:Nat) (m:Machine) (n:Int):ae (fu+1) m ⟨1,n,[]⟩=(⟨true,n⟩,[]):=by kernel_rfl
theorem RQ (fu:Nat) (m:Machine) (n:Int):ae (fu+1) m ⟨2,n,[]⟩=bif (jA m n).known then (jA m n,[]) else (⟨false,0⟩,[n]):=by kernel_rfl
def ra (op:Int) (cs:List aJ) (ns:List (List Int)):aJ × List Int:=bif (ct op cs).known then (ct op cs,[]) else (⟨false,0⟩,ye ns)
theorem RR (fu:Nat) (m:Machine) (n:Int) (a:Term):ae (fu+1) m ⟨3,n,[a]⟩=ra 3 [(ae fu m a).1] [(ae fu m a).2]:=by kernel_rfl
theorem run_ite (fu:Nat) (m:Machine) (n:Int) (a b c:Term):ae (fu+1) m ⟨6,n,[a,b,c]⟩ = 
 (let x:=(ae fu m a); let y:=(ae fu m b); let z:=(ae fu m c);
  bif x.1.known then ([x.1,y.1,z.1].getD (ar (2 - x.1.n)).toNat default,[x.2,y.2,z.2].getD (ar (2 - x.1.n)).toNat default) else ra 6 [x.1,y.1,z.1] [x.2,y.2,z.2]):=by kernel_rfl
theorem abe (fu:Nat) (m:Machine) (n:Int) (a b:Term):ae (fu+1) m ⟨4,n,[a,b]⟩=ra 4 [(ae fu m a).1,(ae fu m b).1] [(ae fu m a).2,(ae fu m b).2]:=by kernel_rfl
theorem abf (fu:Nat) (m:Machine) (n:Int) (a b:Term):ae (fu+1) m ⟨5,n,[a,b]⟩=ra 5 [(ae fu m a).1,(ae fu m b).1] [(ae fu m a).2,(ae fu m b).2]:=by kernel_rfl
theorem abg (fu:Nat) (m:Machine) (n:Int) (a b:Term):ae (fu+1) m ⟨7,n,[a,b]⟩=ra 7 [(ae fu m a).1,(ae fu m b).1] [(ae fu m a).2,(ae fu m b).2]:=by kernel_rfl
theorem abh (fu:Nat) (m:Machine) (n:Int) (a b:Term):ae (fu+1) m ⟨8,n,[a,b]⟩=ra 8 [(ae fu m a).1,(ae fu m b).1] [(ae fu m a).2,(ae fu m b).2]:=by kernel_rfl
theorem abi (fu:Nat) (m:Machine) (n:Int) (a b:Term):ae (fu+1) m ⟨9,n,[a,b]⟩=ra 9 [(ae fu m a).1,(ae fu m b).1] [(ae fu m a).2,(ae fu m b).2]:=by kernel_rfl
theorem Zq (fu:Nat) (m:Machine) (n:Int) (a b:Term):ae (fu+1) m ⟨10,n,[a,b]⟩=ra 10 [(ae fu m a).1,(ae fu m b).1] [(ae fu m a).2,(ae fu m b).2]:=by kernel_rfl
theorem Zr (fu:Nat) (m:Machine) (n:Int) (a b:Term):ae (fu+1) m ⟨11,n,[a,b]⟩=ra 11 [(ae fu m a).1,(ae fu m b).1] [(ae fu m a).2,(ae fu m b).2]:=by kernel_rfl
theorem Zs (fu:Nat) (m:Machine) (n:Int) (a b:Term):ae (fu+1) m ⟨12,n,[a,b]⟩=ra 12 [(ae fu m a).1,(ae fu m b).1] [(ae fu m a).2,(ae fu m b).2]:=by kernel_rfl
theorem Zt (fu:Nat) (m:Machine) (n:Int) (a b:Term):ae (fu+1) m ⟨13,n,[a,b]⟩=ra 13 [(ae fu m a).1,(ae fu m b).1] [(ae fu m a).2,(ae fu m b).2]:=by kernel_rfl
theorem xu (fu:Nat) (m:Machine) (op n:Int) (h:op=4∨op=5∨op=7∨op=8∨(9≤op∧op≤13)) (a b:Term):ae (fu+1) m ⟨op,n,[a,b]⟩=ra op [(ae fu m a).1,(ae fu m b).1] [(ae fu m a).2,(ae fu m b).2]:=by
 have:op=4∨op=5∨op=7∨op=8∨op=9∨op=10∨op=11∨op=12∨op=13:=by omega
 rcases this with rfl | rfl | rfl | rfl | rfl | rfl | rfl | rfl | rfl
 ·exact abe fu m n a b
 ·exact abf fu m n a b
 ·exact abg fu m n a b
 ·exact abh fu m n a b
 ·exact abi fu m n a b
 ·exact Zq fu m n a b
 ·exact Zr fu m n a b
 ·exact Zs fu m n a b
 ·exact Zt fu m n a b
def b01 (c:aJ):Prop:=c.known=true→c.n=0∨c.n=1
theorem RS (b:Bool):zo b=⟨true,if b then 1 else 0⟩:=by cases b <;> kernel_rfl
theorem abj (b:Bool):b01 (zo b):=by rw [RS]; intro _; cases b <;> simp
theorem ME (a:aJ):ct 3 [a]=bif a.known then zo (a.n == 0) else ⟨false,0⟩:=by
 obtain ⟨k,n⟩:=a
 cases k <;> kernel_rfl
def O5 (c:aJ) (n:Int):aJ:=bif c.known then (bif decide (n < 7) then ⟨true,Mw c.n⟩ else ⟨true,bif c.n != 0 then 1 else 0⟩) else ⟨false,0⟩
theorem MF (m:Machine) (n:Int) (h:0≤n∧n≤19):jA m n=O5 (m.fW.getD n.toNat default) n:=by
 simp only [jA,gP,Sk.jt,Sk.fB,Sk.dn,il.A1,kk,kp,bH.rD,lL,iD,Ah,j8,kS,O5,RS]
 rw [show (decide (n < 0)||decide (n > 19))=false from by simp; omega]
 by_cases hl:n≥m.fW.length
 ·have e:m.fW.getD n.toNat default=⟨false,0⟩:=by
   rw [List.getD,List.getElem?_eq_none (by omega)]
   rfl
  rw [e,decide_eq_true hl]
  rfl
 ·rw [decide_eq_false hl]
  cases hk:(m.fW.getD n.toNat default).known with
  | false=>rfl
  | true =>
   by_cases c:n < 7
   ·rw [decide_eq_true c]; rfl
   ·rw [decide_eq_false c]
    cases hn:((m.fW.getD n.toNat default).n != 0) <;> rfl
theorem aeE (c:aJ) (n:Int) (h:7≤n):b01 (O5 c n):=by
 unfold O5
 rw [decide_eq_false (by omega)]
 intro hk
 cases hc:c.known with
 | false=>rw [hc] at hk; exact absurd (show false=true from hk) (by decide)
 | true =>
  cases hn:(c.n != 0)
  ·left; rfl
  ·right; rfl
theorem HD (op:Int) (h:op=4∨op=5) (a b:aJ):ct op [a,b]=(let z:Int:=if op=5 then 1 else 0; bif (a.known&&a.n == z)||(b.known&&b.n == z) then ⟨true,z⟩ else bif a.known&&b.known then ⟨true,1 - z⟩ else ⟨false,0⟩):=by
 obtain ⟨k,n⟩:=a
 obtain ⟨k',n'⟩:=b
 rcases h with rfl | rfl
 ·cases k <;> cases k' <;> cases h1:(n == 0) <;> cases h2:(n' == 0) <;> simp [ct,gB,iD,RS,h1,h2]
 ·cases k <;> cases k' <;> cases h1:(n == 1) <;> cases h2:(n' == 1) <;> simp [ct,gB,iD,RS,h1,h2]
theorem RT (a b c:aJ):ct 6 [a,b,c]=bif b.known&&(c.known&&b.n == c.n) then b else ⟨false,0⟩:=by
 obtain ⟨k,n⟩:=b
 obtain ⟨k',n'⟩:=c
 cases k <;> cases k' <;> cases h1:(n == n') <;> simp [ct,gB,h1]
theorem Ak (op:Int) (h:7≤op) (a b:aJ):ct op [a,b]=bif a.known&&b.known then (if op=7 then zo (decide (a.n < b.n)) else if op=8 then zo (a.n == b.n) else ⟨true,A3 op a.n b.n⟩) else ⟨false,0⟩:=by
 obtain ⟨k,n⟩:=a
 obtain ⟨k',n'⟩:=b
 have e3:(op == 3)=false:=by simp; omega
 have e4:(op == 4)=false:=by simp; omega
 have e5:(op == 5)=false:=by simp; omega
 have e6:(op == 6)=false:=by simp; omega
 simp only [ct,gB,Sk.dK,Sk.fB,Sk.jt,Sk.dn,e3,e4,e5,e6,cond_false,Zh,vA,il.A1,kk,kp,iD,rN]
 cases k <;> cases k' <;> (try rfl)
 by_cases c7:op=7
 ·subst c7; rfl
 ·have e7:(op == 7)=false:=by simpa using c7
  by_cases c8:op=8
  ·subst c8; rfl
  ·have e8:(op == 8)=false:=by simpa using c8
   simp [e7,e8,c7,c8]
theorem zp (op:Int) (cs:List aJ) (ns:List (List Int)) (h:b01 (ct op cs)):b01 (ra op cs ns).1:=by
 unfold ra
 cases hk:(ct op cs).known with
 | true=>exact h
 | false=>intro h; exact absurd (show false=true from h) (by decide)
theorem vC (op:Int) (cs:List aJ) (ns:List (List Int)) (B:Nat) (hB:B≤1000000) (hl:ns.length≤3) (h:∀ q,q < ns.length→(ns.getD q default).length≤B):(ra op cs ns).2.length≤3 * B:=by
 unfold ra
 cases hk:(ct op cs).known with
 | true=>simp
 | false =>
  simp only [cond_false]
  rw [Ez ns ⟨by omega,fun q hq=>Nat.le_trans (h q hq) hB⟩]
  have:=RO ns B h ns.length (Nat.le_refl _)
  rw [List.take_length] at this
  have:B * ns.length≤B * 3:=Nat.mul_le_mul_left _ hl
  omega
theorem abk (op n:Int) (a:Term):Term.depth ⟨op,n,[a]⟩=a.depth+1:=by simp [Term.depth,Term.fV]
theorem HE (op n:Int) (a b:Term):Term.depth ⟨op,n,[a,b]⟩=max a.depth b.depth+1:=by simp [Term.depth,Term.fV]
theorem abl (op n:Int) (a b c:Term):Term.depth ⟨op,n,[a,b,c]⟩=max a.depth (max b.depth c.depth)+1:=by simp [Term.depth,Term.fV]
theorem nk {a b:Nat} (h:a≤b):3 ^ a≤3 ^ b:=Nat.pow_le_pow_right (by omega) h
theorem Db {t:Term} {k:Int} (h:yF t k):∀ (fu:Nat) (m:Machine),t.depth≤fu→t.depth≤8→(k=1→b01 (ae fu m t).1)∧(ae fu m t).2.length≤3 ^ t.depth:=by
 have h8:∀ d,d≤8→3 ^ d≤1000000:=fun d hd=>Nat.le_trans (nk hd) (by decide)
 induction h with
 | int hn =>
  intro fu m hd _
  cases fu with
  | zero=>exact absurd hd (by simp [Term.depth,Term.fV])
  | succ fu=>rw [RP]; exact ⟨fun h=>absurd h (by decide),by simp⟩
 | @bool n hn =>
  intro fu m hd _
  cases fu with
  | zero=>exact absurd hd (by simp [Term.depth,Term.fV])
  | succ fu=>rw [MD]; exact ⟨fun _ _=>by show n=0∨n=1; omega,by simp⟩
 | @var n hn =>
  intro fu m hd _
  cases fu with
  | zero=>exact absurd hd (by simp [Term.depth,Term.fV])
  | succ fu =>
   rw [RQ,MF m n hn]
   refine ⟨fun h=>?_,?_⟩
   ·have:=aeE (m.fW.getD n.toNat default) n (by split at h <;> omega)
    cases hk:(O5 (m.fW.getD n.toNat default) n).known with
    | true=>exact this
    | false=>intro h; exact absurd (show false=true from h) (by decide)
   ·cases hk:(O5 (m.fW.getD n.toNat default) n).known <;> simp [Term.depth,Term.fV]
 | @not a _ ih =>
  intro fu m hd h8d
  cases fu with
  | zero=>exact absurd hd (by simp [Term.depth,Term.fV])
  | succ fu =>
   rw [abk] at hd h8d ⊢
   have ih:=ih fu m (by omega) (by omega)
   rw [RR]
   refine ⟨fun _=>zp _ _ _ ?_,?_⟩
   ·rw [ME]
    cases hk:(ae fu m a).1.known with
    | true=>exact abj _
    | false=>intro h; exact absurd (show false=true from h) (by decide)
   ·have:=vC 3 [(ae fu m a).1] [(ae fu m a).2] (3 ^ a.depth) (h8 _ (by omega)) (by simp) (fun q hq=>by
     have:q=0:=by simpa using hq
     subst this
     exact ih.2)
    rw [Nat.pow_succ]; omega
 | @abc op a b zP _ _ IL GM =>
  intro fu m hd h8d
  cases fu with
  | zero=>exact absurd hd (by simp [Term.depth,Term.fV])
  | succ fu =>
   rw [HE] at hd h8d ⊢
   have IL:=IL fu m (by omega) (by omega)
   have GM:=GM fu m (by omega) (by omega)
   rw [xu _ _ _ _ (by omega)]
   refine ⟨fun _=>zp _ _ _ ?_,?_⟩
   ·rw [HD op zP]
    dsimp only
    split
    ·cases (((ae fu m a).1.known&&(ae fu m a).1.n == 1)||((ae fu m b).1.known&&(ae fu m b).1.n == 1)) <;> cases ((ae fu m a).1.known&&(ae fu m b).1.known) <;> simp [b01]
    ·cases (((ae fu m a).1.known&&(ae fu m a).1.n == 0)||((ae fu m b).1.known&&(ae fu m b).1.n == 0)) <;> cases ((ae fu m a).1.known&&(ae fu m b).1.known) <;> simp [b01]
   ·have:=vC op [(ae fu m a).1,(ae fu m b).1] [(ae fu m a).2,(ae fu m b).2] (3 ^ (max a.depth b.depth)) (h8 _ (by omega)) (by simp) (fun q hq=>by
     have:q=0∨q=1:=by simp at hq; omega
     rcases this with rfl | rfl
     ·exact Nat.le_trans IL.2 (nk (by omega))
     ·exact Nat.le_trans GM.2 (nk (by omega)))
    rw [Nat.pow_succ]; omega
 | @ite a b c k ha _ _ IL GM ihc =>
  intro fu m hd h8d
  cases fu with
  | zero=>exact absurd hd (by simp [Term.depth,Term.fV])
  | succ fu =>
   rw [abl] at hd h8d ⊢
   have IL:=IL fu m (by omega) (by omega)
   have GM:=GM fu m (by omega) (by omega)
   have ihc:=ihc fu m (by omega) (by omega)
   rw [run_ite]
   dsimp only
   have lb:=Nat.le_trans GM.2 (nk (b:=max a.depth (max b.depth c.depth)+1) (by omega))
   have lc:=Nat.le_trans ihc.2 (nk (b:=max a.depth (max b.depth c.depth)+1) (by omega))
   cases hk:(ae fu m a).1.known with
   | true =>
    simp only [cond_true]
    rcases IL.1 rfl hk with e | e
    ·rw [e]
     exact ⟨ihc.1,lc⟩
    ·rw [e]
     exact ⟨GM.1,lb⟩
   | false =>
    simp only [cond_false]
    refine ⟨fun h=>zp _ _ _ ?_,?_⟩
    ·rw [RT]
     cases ((ae fu m b).1.known&&((ae fu m c).1.known&&(ae fu m b).1.n == (ae fu m c).1.n)) with
     | true=>exact GM.1 h
     | false=>intro h; exact absurd (show false=true from h) (by decide)
    ·have:=vC 6 [(ae fu m a).1,(ae fu m b).1,(ae fu m c).1] [(ae fu m a).2,(ae fu m b).2,(ae fu m c).2] (3 ^ (max a.depth (max b.depth c.depth))) (h8 _ (by omega)) (by simp) (fun q hq=>by
      have:q=0∨q=1∨q=2:=by simp at hq; omega
      rcases this with rfl | rfl | rfl
      ·exact Nat.le_trans IL.2 (nk (by omega))
      ·exact Nat.le_trans GM.2 (nk (by omega))
      ·exact Nat.le_trans ihc.2 (nk (by omega)))
     rw [Nat.pow_succ]; omega
 | @less a b _ _ IL GM =>
  intro fu m hd h8d
  cases fu with
  | zero=>exact absurd hd (by simp [Term.depth,Term.fV])
  | succ fu =>
   rw [HE] at hd h8d ⊢
   have IL:=IL fu m (by omega) (by omega)
   have GM:=GM fu m (by omega) (by omega)
   rw [xu _ _ _ _ (by omega)]
   refine ⟨fun _=>zp _ _ _ ?_,?_⟩
   ·rw [Ak 7 (by omega)]
    cases ((ae fu m a).1.known&&(ae fu m b).1.known) with
    | true=>exact abj _
    | false=>intro h; exact absurd (show false=true from h) (by decide)
   ·have:=vC 7 [(ae fu m a).1,(ae fu m b).1] [(ae fu m a).2,(ae fu m b).2] (3 ^ (max a.depth b.depth)) (h8 _ (by omega)) (by simp) (fun q hq=>by
     have:q=0∨q=1:=by simp at hq; omega
     rcases this with rfl | rfl
     ·exact Nat.le_trans IL.2 (nk (by omega))
     ·exact Nat.le_trans GM.2 (nk (by omega)))
    rw [Nat.pow_succ]; omega
 | @eq a b _ _ _ IL GM =>
  intro fu m hd h8d
  cases fu with
  | zero=>exact absurd hd (by simp [Term.depth,Term.fV])
  | succ fu =>
   rw [HE] at hd h8d ⊢
   have IL:=IL fu m (by omega) (by omega)
   have GM:=GM fu m (by omega) (by omega)
   rw [xu _ _ _ _ (by omega)]
   refine ⟨fun _=>zp _ _ _ ?_,?_⟩
   ·rw [Ak 8 (by omega)]
    cases ((ae fu m a).1.known&&(ae fu m b).1.known) with
    | true=>exact abj _
    | false=>intro h; exact absurd (show false=true from h) (by decide)
   ·have:=vC 8 [(ae fu m a).1,(ae fu m b).1] [(ae fu m a).2,(ae fu m b).2] (3 ^ (max a.depth b.depth)) (h8 _ (by omega)) (by simp) (fun q hq=>by
     have:q=0∨q=1:=by simp at hq; omega
     rcases this with rfl | rfl
     ·exact Nat.le_trans IL.2 (nk (by omega))
     ·exact Nat.le_trans GM.2 (nk (by omega)))
    rw [Nat.pow_succ]; omega
 | @arith op a b zP _ _ IL GM =>
  intro fu m hd h8d
  cases fu with
  | zero=>exact absurd hd (by simp [Term.depth,Term.fV])
  | succ fu =>
   rw [HE] at hd h8d ⊢
   have IL:=IL fu m (by omega) (by omega)
   have GM:=GM fu m (by omega) (by omega)
   rw [xu _ _ _ _ (by omega)]
   refine ⟨fun h=>absurd h (by decide),?_⟩
   have:=vC op [(ae fu m a).1,(ae fu m b).1] [(ae fu m a).2,(ae fu m b).2] (3 ^ (max a.depth b.depth)) (h8 _ (by omega)) (by simp) (fun q hq=>by
    have:q=0∨q=1:=by simp at hq; omega
    rcases this with rfl | rfl
    ·exact Nat.le_trans IL.2 (nk (by omega))
    ·exact Nat.le_trans GM.2 (nk (by omega)))
   rw [Nat.pow_succ]; omega
theorem yF.parts {t:Term} {k:Int} (h:yF t k):(t.op=0∨t.op=1∨(t.op=2∧0≤t.n))∨((∀ q,q < t.args.length→∃ j,yF (t.args.getD q default) j)∧((t.op=3∧t.args.length=1)∨(t.op=6∧t.args.length=3∧yF (t.args.getD 0 default) 1)∨(t.op≠0∧t.op≠1∧t.op≠2∧t.op≠3∧t.op≠6∧t.args.length=2))):=by
 cases h with
 | int _=>left; left; rfl
 | bool _=>left; right; left; rfl
 | var h=>left; right; right; exact ⟨rfl,h.1⟩
 | not h =>
  right
  refine ⟨fun q hq=>?_,.inl ⟨rfl,rfl⟩⟩
  obtain rfl:q=0:=by simpa using hq
  exact ⟨_,h⟩
 | abc o h1 h2 =>
  right
  refine ⟨fun q hq=>?_,.inr (.inr ⟨by dsimp only; omega,by dsimp only; omega,by dsimp only; omega,by dsimp only; omega,by dsimp only; omega,rfl⟩)⟩
  have:q=0∨q=1:=by simp at hq; omega
  rcases this with rfl | rfl
  ·exact ⟨_,h1⟩
  ·exact ⟨_,h2⟩
 | ite h1 h2 h3 =>
  right
  refine ⟨fun q hq=>?_,.inr (.inl ⟨rfl,rfl,h1⟩)⟩
  have:q=0∨q=1∨q=2:=by simp at hq; omega
  rcases this with rfl | rfl | rfl
  ·exact ⟨_,h1⟩
  ·exact ⟨_,h2⟩
  ·exact ⟨_,h3⟩
 | less h1 h2 =>
  right
  refine ⟨fun q hq=>?_,.inr (.inr ⟨by dsimp only; omega,by dsimp only; omega,by dsimp only; omega,by dsimp only; omega,by dsimp only; omega,rfl⟩)⟩
  have:q=0∨q=1:=by simp at hq; omega
  rcases this with rfl | rfl
  ·exact ⟨_,h1⟩
  ·exact ⟨_,h2⟩
 | eq h1 h2 =>
  right
  refine ⟨fun q hq=>?_,.inr (.inr ⟨by dsimp only; omega,by dsimp only; omega,by dsimp only; omega,by dsimp only; omega,by dsimp only; omega,rfl⟩)⟩
  have:q=0∨q=1:=by simp at hq; omega
  rcases this with rfl | rfl
  ·exact ⟨_,h1⟩
  ·exact ⟨_,h2⟩
 | arith o h1 h2 =>
  right
  refine ⟨fun q hq=>?_,.inr (.inr ⟨by dsimp only; omega,by dsimp only; omega,by dsimp only; omega,by dsimp only; omega,by dsimp only; omega,rfl⟩)⟩
  have:q=0∨q=1:=by simp at hq; omega
  rcases this with rfl | rfl
  ·exact ⟨_,h1⟩
  ·exact ⟨_,h2⟩
theorem DG (fu:Nat) (rf:∀ (m:Machine) (t:Term),t.depth≤fu∧(t.FZ)→gR Tryz.prog 138 [av [nJ aJ.cells m.fW],av t.cells] [] (.fD [av ((ae fu m t).1).cells,lv bI ((ae fu m t).2)]) []) (m:Machine) (t:Term) (hm:t.depth≤fu+1) (ht:t.FZ):(eO (ae fu) (fun m t=>t.depth≤fu∧(t.FZ)) rf m t).bC (fun _=>True):=by
 refine Sk.aR _ ?_
 unfold eO
 simp only [Sk.ju,Sk.aI,reduceCtorEq,ON,kk,kp,A4,Ch,tT,uP,maxLen]
 obtain ⟨⟨k,hk⟩,h8⟩:=ht
 have abm:=hk.parts
 refine ⟨⟨fun _=>by simp_all,fun _=>by simp_all⟩,fun b _ hb hbf=>?_⟩
 rw [hb] at hbf
 simp only [LN] at hbf
 refine ⟨fun h2=>?_,fun h2=>?_⟩
 ·simp only [LN] at h2
  rcases abm with h | h
  ·omega
  ·omega
 ·simp only [LN] at h2
  have hp:(∀ q,q < t.args.length→∃ j,yF (t.args.getD q default) j)∧((t.op=3∧t.args.length=1)∨(t.op=6∧t.args.length=3∧yF (t.args.getD 0 default) 1)∨(t.op≠0∧t.op≠1∧t.op≠2∧t.op≠3∧t.op≠6∧t.args.length=2)):=by
   rcases abm with h | h
   ·omega
   ·exact h
  obtain ⟨hp1,hp2⟩:=hp
  have hlen:t.args.length≤3:=by omega
  have WD:∀ q,q < t.args.length→(t.args.getD q default).depth≤fu∧(t.args.getD q default).depth≤8:=fun q hq=>by have:=t.l9 q hq; omega
  refine ⟨⟨by omega,by omega,by omega⟩,fun _=>⟨⟨by omega,by omega,by omega⟩,fun _=>⟨⟨⟨by simp,by simp,by omega,fun q hq=>absurd hq (by omega)⟩,fun i hi hl=>⟨fun hc=>⟨⟨by omega,of_decide_eq_true hc⟩,fun _=>⟨⟨⟨?_,?_⟩,fun x hx=>⟨⟨by omega,?_⟩,?_,⟨by omega,?_⟩,?_⟩⟩,fun x hx=>⟨by simp,by simp,fun _=>⟨?_,⟨⟨by simp [hi.1],by simp [hi.2.1],?_,fun q hq=>?_⟩,?_⟩⟩⟩⟩⟩,fun hc=>⟨hi.1,hi.2.1,fun q hq=>hi.2.2.2 q (by simp only [LN] at hc; omega)⟩⟩⟩,fun b hb=>?_⟩⟩⟩
  all_goals (try simp only [LN] at hc)
  ·exact (WD _ (by omega)).1
  ·exact ⟨hp1 _ (by omega),(WD _ (by omega)).2⟩
  ·omega
  ·omega
  ·omega
  ·omega
  ·exact aA (by omega) (by omega)
  ·omega
  ·by_cases e:q=i.2.2
   ·subst e
    subst hx
    exact ⟨qR _ (by omega) _ _,qR _ (by omega) _ _⟩
   ·have:=hi.2.2.2 q (by omega)
    rw [← this.1,← this.2]
    exact ⟨qS _ e _ _,qS _ e _ _⟩
  ·omega
  ·refine ⟨⟨fun _=>⟨by omega,by omega⟩,fun _=>by omega⟩,fun _=>⟨fun h6=>?_,fun _=>⟨?_,fun x _ _=>⟨?_,?_⟩⟩⟩⟩
   ·simp only [LN] at h6
    have h01:b01 (b.1.getD 0 default):=by
     rw [(hb.2.2 0 (by omega)).1]
     rcases hp2 with h | h | h
     ·omega
     ·exact (Db h.2.2 fu m (WD 0 (by omega)).1 (WD 0 (by omega)).2).1 rfl
     ·omega
    have h01:=h01 h6.2
    have hw:ar (2 - (b.1.getD 0 default).n)=2 - (b.1.getD 0 default).n:=aA (by omega) (by omega)
    rw [hw]
    refine ⟨⟨by omega,by omega⟩,fun _=>⟨⟨by omega,by omega⟩,by omega,⟨by omega,by omega⟩,by omega⟩⟩
   ·omega
   ·omega
   ·intro q hq
    rw [hb.2.1] at hq
    rw [(hb.2.2 q hq).2]
    obtain ⟨j,hj⟩:=hp1 q hq
    have:=(Db hj fu m (WD q hq).1 (WD q hq).2).2
    have h3:(3:Nat) ^ (t.args.getD q default).depth≤3 ^ 8:=Nat.pow_le_pow_right (by omega) (WD q hq).2
    have:(3:Nat) ^ 8=6561:=by decide
    omega
theorem Cj (fu:Nat) (rp:Machine→Term→Prop) (rf:∀ (m:Machine) (t:Term),rp m t→gR Tryz.prog 138 [av [nJ aJ.cells m.fW],av t.cells] [] (.fD [av ((ae fu m t).1).cells,lv bI ((ae fu m t).2)]) []) (m:Machine) (t:Term):(eO (ae fu) rp rf m t).val=ae (fu+1) m t:=by kernel_rfl
theorem Ck (fu:Nat):∀ (m:Machine) (t:Term),t.depth≤fu→t.FZ→gR Tryz.prog 138 [av [nJ aJ.cells m.fW],av t.cells] [] (.fD [av ((ae fu m t).1).cells,lv bI ((ae fu m t).2)]) []:=by
 induction fu with
 | zero=>intro m t hm h0; exact absurd hm (by have:=Term.vB t; omega)
 | succ fu ih =>
  intro m t hm h0
  have h:gR Tryz.prog 138 [av [nJ aJ.cells m.fW],av t.cells] [] (.fD [av (((eO (ae fu) (fun m t=>t.depth≤fu∧(t.FZ)) (fun m t h=>ih m t h.1 h.2) m t).val).1).cells,lv bI (((eO (ae fu) (fun m t=>t.depth≤fu∧(t.FZ)) (fun m t h=>ih m t h.1 h.2) m t).val).2)]) []:=gR.sk tok mixed (fun x=>.fD [av x.1.cells,lv bI x.2]) (fun _=>[]) Tryz.func138 rfl (by kernel_rfl) 3000 (eO (ae fu) (fun m t=>t.depth≤fu∧(t.FZ)) (fun m t h=>ih m t h.1 h.2) m t) (by kernel_rfl) (DG fu _ m t hm h0)
  rw [Cj] at h
  exact h
def oQ (m:Machine) (t:Term):aJ × (List Int):=ae (t.depth) m t
theorem DH (m:Machine) (t:Term) (ht:t.FZ):gR Tryz.prog 138 [av [nJ aJ.cells m.fW],av t.cells] [] (.fD [av ((oQ m t).1).cells,lv bI ((oQ m t).2)]) []:=Ck _ m t (Nat.le_refl _) ht
def wj (m:Machine) (t:Term):il (aJ × (List Int)):=⟨Tryz.prog,138,[av [nJ aJ.cells m.fW],av t.cells],fun x=>.fD [av x.1.cells,lv bI x.2],false,oQ m t,(t.FZ),fun h=>DH m t h,fun _=>True,trivial⟩
def vc (t:Term) (cells:List aJ):Sk (aJ) :=
 .r 1 ((vb t).c) fun x1 =>
 .br (x1.2 != 0)
 (.fin ({ known:=false,n:=0 }:aJ))
 (.r 4 ((wj ({ fW:=cells }:Machine) t).c) fun x2 =>
 .fin x2.1)
def mP t cells:=(vc t cells).val
theorem RU (t:Term) (cells:List aJ):(vc t cells).bC (fun _=>True):=by
 refine Sk.aR _ ?_
 unfold vc
 simp only [Sk.ju,Sk.aI,reduceCtorEq,ON,kk,kp,vb,wj,maxLen]
 intro x _ h hc
 simp only [LN] at hc
 exact ⟨⟨_,(h hc).1⟩,(h hc).2⟩
def IM t cells:=kk tok mixed Tryz.func109 [av t.cells,lv aJ.cells cells] (fun x=>av x.cells) true (vc t cells) (mP t cells) (u0 (RU t cells))
def qn (o:Order) (ask:Int) (cells:List aJ):Sk (aJ × Int) :=
 .r 1 ((F3 o ask).c) fun x1 =>
 .br (x1.2 != 0)
 (.fin (({ known:=false,n:=0 }:aJ),x1.2))
 (.r 4 ((IM x1.1 cells).c) fun x2 =>
 .r 5 ((mf ask).c) fun x3 =>
 .br ((x3.1 == 0)&&x2.known)
 (.fin (({ known:=x2.known,n:=cq (bX x2.n 0) 20000 }:aJ),0))
 (.fin (x2,0)))
def ku o ask cells:=(qn o ask cells).val
theorem JU (o:Order) (ask:Int) (cells:List aJ):(qn o ask cells).bC (fun _=>True):=by
 unfold qn
 try simp only [mf,F3,IM]
 exact qT
def Cl o ask cells:=kk tok mixed Tryz.func73 [av o.cells,iv ask,lv aJ.cells cells] (fun x=>.fD [av x.1.cells,iv x.2]) true (qn o ask cells) (ku o ask cells) (u0 (JU o ask cells))
def Al (r:ah) (forum:Int) (aO:Int) (c_:fF):Sk (mb) :=
 .r 1 ((Mv r forum aO c_).c) fun x1 =>
 .br (x1.1.order != (-1))
 (.r 3 (.aj (.p (bU x1.1.order r.aE.length)) ((Cl (r.aE.getD x1.1.order.toNat default) aO x1.2).c)) fun x2 =>
 .fin ({ cell:=x2.1,order:=x1.1.order,path:=x1.1.path,err:=x2.2 }:mb))
 (.fin x1.1)
def nm r forum aO c_:=(Al r forum aO c_).val
theorem WE (r:ah) (forum:Int) (aO:Int) (c_:fF) (hf:c_.file.Small) (hb:r.cj) (hr:r.Small):(Al r forum aO c_).bC (fun _=>True):=by
 simp only [ak.Small,ah.Small,ah.cj] at hf
 simp only [ak.Small,ah.Small,ah.cj] at hb
 simp only [ak.Small,ah.Small,ah.cj] at hr
 unfold Al
 try simp only [Mv,Cl,ak.Small,ah.Small,ah.cj]
 exact mA
def eX r forum aO c_:=kk tok mixed Tryz.func47 [av r.cells,iv forum,iv aO,av c_.cells] (fun x=>av x.cells) false (Al r forum aO c_) (nm r forum aO c_) (u3 (WE r forum aO c_))
theorem abn (r:ah) (fo q:Int) (c:fF):nm r fo q c=bif (pJ r fo q c).1.order != (-1) then (⟨(ku (r.aE.getD (pJ r fo q c).1.order.toNat default) q (pJ r fo q c).2).1,(pJ r fo q c).1.order,(pJ r fo q c).1.path,(ku (r.aE.getD (pJ r fo q c).1.order.toNat default) q (pJ r fo q c).2).2⟩:mb) else (pJ r fo q c).1:=by
 kernel_rfl
def xw (r:ah) (forum:Int) (aO:Int) (f:ak) (day:Int):Sk (mb) :=
 .r 2 (((eX r forum aO ({ file:={ f with facts:=[] },sign:=0,jy:=(-1),ch:=(-1),due:=(-1),day:=day }:fF)).ov 3 18 _ rfl ⟨_,rfl⟩).c) fun x1 =>
 .fin x1
def tU r forum aO f day:=(xw r forum aO f day).val
theorem Uz (r:ah) (forum:Int) (aO:Int) (f:ak) (day:Int) (hf:f.Small) (bR:r.cj) (aX:r.Small):(xw r forum aO f day).bC (fun _=>True):=by
 simp only [ak.Small,ah.Small,ah.cj] at hf
 simp only [ak.Small,ah.Small,ah.cj] at bR
 simp only [ak.Small,ah.Small,ah.cj] at aX
 unfold xw
 try simp only [eX,ak.Small,ah.Small,ah.cj]
 exact mA
def qJ r forum aO f day:=kk tok mixed Tryz.func69 [av r.cells,iv forum,iv aO,av f.cells,iv day] (fun x=>av x.cells) false (xw r forum aO f day) (tU r forum aO f day) (u3 (Uz r forum aO f day))
def tl (s:mb):Sk (Int) :=
 .br ((s.err != 0)||(!s.cell.known))
 (.fin (-1))
 (.fin s.cell.n)
def sR s:=(tl s).val
theorem O6 (s:mb):(tl s).bC (fun _=>True):=by
 unfold tl
 exact qT
def oS s:=kk tok mixed Tryz.func68 [av s.cells] (fun x=>iv x) true (tl s) (sR s) (u0 (O6 s))
def tp (x_:List Int):Sk (Int) :=
 .bind false (fun _=>True)
 (.br (decide (((x_.length:Nat):Int) < 1))
 (.dead default)
 (.fin (.inr ())))
 (fun (_:Unit)=>⟨[],[]⟩) fun _ =>
 .r 3 (.p (bU (0:Int) x_.length)) fun _ =>
 .bt
 (.loop (default:Sum (Int) (Int)) (fun i3=>(1:Int)≤i3.2∧i3.2≤(x_.length:Int)) (fun i3=>((x_.length:Int) - i3.2).toNat) ((x_.getD 0 default,1):Int × Int)
 (fun (i3:Int × Int)=>⟨[(3,iv i3.1),(4,iv i3.2)],[]⟩) fun i3 =>
 .br (decide (i3.2 < ((x_.length:Nat):Int)))
 (.r 7 (.p (bU i3.2 x_.length)) fun _ =>
 .fin (.inr (cq i3.1 (x_.getD i3.2.toNat default),ar (i3.2+1))))
 (.fin (.inl (.inr i3.1))))
 (fun (b2:Int)=>⟨[(3,iv b2)],[]⟩) fun b2 =>
 .fin b2
def WG x_:=(tp x_).val
theorem O7 (x_:List Int) (hx:x_.length≠0) (hl:x_.length≤1000000000):(tp x_).bC (fun _=>True):=by
 unfold tp
 exact mA
def F4 x_:=kk tok mixed Tryz.func103 [lv bI x_] (fun x=>iv x) true (tp x_) (WG x_) (u2 (O7 x_))
def rO (f:ak):Sk (Int) :=
 .bind true (fun b1=>b1.length≤0+f.af.length)
 (.loop (default:Sum (Int) ((List Int))) (fun i2=>i2.2≤f.af.length∧i2.1.length≤0+i2.2) (fun i2=>f.af.length - i2.2) (([],0):(List Int) × Nat)
 (fun (i2:(List Int) × Nat)=>⟨[(3,ow 100002 i2.1),(16,iv (i2.2:Int))],[(100002,bw 3 1 bI i2.1)]⟩) fun i2 =>
 .lt 14 0 i2.2 f.af.length
 (.r 5 (.p (bU (i2.2:Int) f.af.length)) fun _ =>
 .br ((f.aU.df.kind == 1)&&(((f.af.getD i2.2 default).kind) == 1))
 (.r 7 (.aj (.o [.eG (fm dm [(f.af.getD i2.2 default).day])]) (.aj (.o [.eG (mY dm i2.1 [(f.af.getD i2.2 default).day])]) (.aj (.t (dm.ou [(f.af.getD i2.2 default).day])) (.p (yE i2.1.length [(f.af.getD i2.2 default).day].length 8))))) fun _ =>
 .nx 8 16 i2.2 (i2.1++[(f.af.getD i2.2 default).day],i2.2+1))
 (.nx 8 16 i2.2 (i2.1,i2.2+1)))
 (.fin (.inl (.inr i2.1))))
 (fun (b1:(List Int))=>⟨[(3,ow 100001 b1)],[(100001,bw 3 1 bI b1)]⟩) fun b1 =>
 .bind true (fun b3=>b3.length≤b1.length+f.aw.length)
 (.loop (default:Sum (Int) ((List Int))) (fun i4=>i4.2≤f.aw.length∧i4.1.length≤b1.length+i4.2) (fun i4=>f.aw.length - i4.2) ((b1,0):(List Int) × Nat)
 (fun (i4:(List Int) × Nat)=>⟨[(3,ow 100005 i4.1),(36,iv (i4.2:Int))],[(100005,bw 3 1 bI i4.1)]⟩) fun i4 =>
 .lt 34 0 i4.2 f.aw.length
 (.r 11 (.p (bU (i4.2:Int) f.aw.length)) fun _ =>
 .br ((f.aU.df.kind == 0)&&(((f.aw.getD i4.2 default).kind) == 2))
 (.fin (.inl (.inl ((f.aw.getD i4.2 default).day))))
 (.br ((f.aU.df.kind == 1)&&(((f.aw.getD i4.2 default).kind) == 1))
 (.r 15 (.aj (.o [.eG (fm dm [(f.aw.getD i4.2 default).day])]) (.aj (.o [.eG (mY dm i4.1 [(f.aw.getD i4.2 default).day])]) (.aj (.t (dm.ou [(f.aw.getD i4.2 default).day])) (.p (yE i4.1.length [(f.aw.getD i4.2 default).day].length 8))))) fun _ =>
 .nx 16 36 i4.2 (i4.1++[(f.aw.getD i4.2 default).day],i4.2+1))
 (.nx 16 36 i4.2 (i4.1,i4.2+1))))
 (.fin (.inl (.inr i4.1))))
 (fun (b3:(List Int))=>⟨[(3,ow 100004 b3)],[(100004,bw 3 1 bI b3)]⟩) fun b3 =>
 .br (((b3.length:Nat):Int) == 0)
 (.fin (-1))
 (.r 19 ((F4 b3).c) fun x5 =>
 .fin x5)
def nT f:=(rO f).val
theorem MG (f:ak) (hf:f.Small):(rO f).bC (fun _=>True):=by
 simp only [ak.Small,ah.Small] at hf
 unfold rO
 try simp only [F4,ak.Small,ah.Small]
 exact mA
def pL f:=kk tok mixed Tryz.func71 [av f.cells] (fun x=>iv x) true (rO f) (nT f) (MG f)
def qo (r:ah) (cH:Int):Sk (Bool) :=
 .fin ((decide (cH≥0))&&(decide (cH < ((r.aN.length:Nat):Int))))
def F5 r cH:=(qo r cH).val
theorem A5 (r:ah) (cH:Int):F5 r cH=((decide (cH≥0))&&(decide (cH < ((r.aN.length:Nat):Int)))):=rfl
theorem JV (r:ah) (cH:Int):(qo r cH).bC (fun _=>True):=by
 unfold qo
 exact qT
def rP r cH:=kk tok mixed Tryz.func98 [av r.cells,iv cH] (fun x=>bv x) true (qo r cH) (F5 r cH) (u0 (JV r cH))
def rQ (n:Int):Sk (Bool) :=
 .fin ((decide (n≥0))&&(decide (n≤100000)))
def IP n:=(rQ n).val
theorem Cm (n:Int):IP n=((decide (n≥0))&&(decide (n≤100000))):=rfl
theorem MH (n:Int):(rQ n).bC (fun _=>True):=by
 unfold rQ
 exact qT
def pM n:=kk tok mixed Tryz.func99 [iv n] (fun x=>bv x) true (rQ n) (IP n) (u0 (MH n))
def qp (t:sy):Sk (Bool) :=
 .fin ((t.kind == 0)||(t.kind == 1))
def F6 t:=(qp t).val
theorem A6 (t:sy):F6 t=((t.kind == 0)||(t.kind == 1)):=rfl
theorem JW (t:sy):(qp t).bC (fun _=>True):=by
 unfold qp
 exact qT
def wm t:=kk tok mixed Tryz.func100 [av t.cells] (fun x=>bv x) true (qp t) (F6 t) (u0 (JW t))
def kx (day:Int):Sk (Bool) :=
 .fin ((decide ((0:Int)≤day))&&(decide (day≤100000)))
def gp day:=(kx day).val
theorem rR (day:Int):gp day=((decide ((0:Int)≤day))&&(decide (day≤100000))):=rfl
theorem F7 (day:Int):(kx day).bC (fun _=>True):=by
 unfold kx
 exact qT
def gV day:=kk tok mixed Tryz.func161 [iv day] (fun x=>bv x) true (kx day) (gp day) (u0 (F7 day))
theorem F8 (day:Int):gR Tryz.prog 161 [iv day] [] (bv (gp day)) []:=(gV day).pf trivial
def np (day:Int):Sk (Int × Int × Int) :=
 .r 2 (.aj (.p ((146097:Int)≠0)) (.p ((146097:Int)≠0))) fun _ =>
 .r 3 (.aj (.p ((1460:Int)≠0)) (.aj (.p ((36524:Int)≠0)) (.aj (.p ((146096:Int)≠0)) (.p ((365:Int)≠0))))) fun _ =>
 .r 4 (.aj (.p ((4:Int)≠0)) (.p ((100:Int)≠0))) fun _ =>
 .r 5 (.p ((153:Int)≠0)) fun _ =>
 .r 6 (.p ((5:Int)≠0)) fun _ =>
 .bind false (fun _=>True)
 (.br (decide ((ar ((ar ((ar ((ar ((5:Int) * (ar (((ar (day+730425)).tmod 146097) - (ar ((ar ((ar ((365:Int) * (ar ((ar ((ar ((ar (((ar (day+730425)).tmod 146097) - (ar (((ar (day+730425)).tmod 146097).tdiv 1460))))+(ar (((ar (day+730425)).tmod 146097).tdiv 36524)))) - (ar (((ar (day+730425)).tmod 146097).tdiv 146096)))).tdiv 365))))+(ar ((ar ((ar ((ar ((ar (((ar (day+730425)).tmod 146097) - (ar (((ar (day+730425)).tmod 146097).tdiv 1460))))+(ar (((ar (day+730425)).tmod 146097).tdiv 36524)))) - (ar (((ar (day+730425)).tmod 146097).tdiv 146096)))).tdiv 365)).tdiv 4)))) - (ar ((ar ((ar ((ar ((ar (((ar (day+730425)).tmod 146097) - (ar (((ar (day+730425)).tmod 146097).tdiv 1460))))+(ar (((ar (day+730425)).tmod 146097).tdiv 36524)))) - (ar (((ar (day+730425)).tmod 146097).tdiv 146096)))).tdiv 365)).tdiv 100))))))))+2)).tdiv 153))+3)) > 12))
 (.fin (.inr (ar ((ar ((ar ((ar ((ar ((5:Int) * (ar (((ar (day+730425)).tmod 146097) - (ar ((ar ((ar ((365:Int) * (ar ((ar ((ar ((ar (((ar (day+730425)).tmod 146097) - (ar (((ar (day+730425)).tmod 146097).tdiv 1460))))+(ar (((ar (day+730425)).tmod 146097).tdiv 36524)))) - (ar (((ar (day+730425)).tmod 146097).tdiv 146096)))).tdiv 365))))+(ar ((ar ((ar ((ar ((ar (((ar (day+730425)).tmod 146097) - (ar (((ar (day+730425)).tmod 146097).tdiv 1460))))+(ar (((ar (day+730425)).tmod 146097).tdiv 36524)))) - (ar (((ar (day+730425)).tmod 146097).tdiv 146096)))).tdiv 365)).tdiv 4)))) - (ar ((ar ((ar ((ar ((ar (((ar (day+730425)).tmod 146097) - (ar (((ar (day+730425)).tmod 146097).tdiv 1460))))+(ar (((ar (day+730425)).tmod 146097).tdiv 36524)))) - (ar (((ar (day+730425)).tmod 146097).tdiv 146096)))).tdiv 365)).tdiv 100))))))))+2)).tdiv 153))+3)) - 12))))
 (.fin (.inr (ar ((ar ((ar ((ar ((5:Int) * (ar (((ar (day+730425)).tmod 146097) - (ar ((ar ((ar ((365:Int) * (ar ((ar ((ar ((ar (((ar (day+730425)).tmod 146097) - (ar (((ar (day+730425)).tmod 146097).tdiv 1460))))+(ar (((ar (day+730425)).tmod 146097).tdiv 36524)))) - (ar (((ar (day+730425)).tmod 146097).tdiv 146096)))).tdiv 365))))+(ar ((ar ((ar ((ar ((ar (((ar (day+730425)).tmod 146097) - (ar (((ar (day+730425)).tmod 146097).tdiv 1460))))+(ar (((ar (day+730425)).tmod 146097).tdiv 36524)))) - (ar (((ar (day+730425)).tmod 146097).tdiv 146096)))).tdiv 365)).tdiv 4)))) - (ar ((ar ((ar ((ar ((ar (((ar (day+730425)).tmod 146097) - (ar (((ar (day+730425)).tmod 146097).tdiv 1460))))+(ar (((ar (day+730425)).tmod 146097).tdiv 36524)))) - (ar (((ar (day+730425)).tmod 146097).tdiv 146096)))).tdiv 365)).tdiv 100))))))))+2)).tdiv 153))+3)))))
 (fun (b1:Int)=>⟨[(3,iv b1)],[]⟩) fun b1 =>
 .br (decide (b1 < 3))
 (.fin (ar ((ar ((ar ((ar ((ar ((ar (((ar (day+730425)).tmod 146097) - (ar (((ar (day+730425)).tmod 146097).tdiv 1460))))+(ar (((ar (day+730425)).tmod 146097).tdiv 36524)))) - (ar (((ar (day+730425)).tmod 146097).tdiv 146096)))).tdiv 365))+(ar ((400:Int) * (ar ((ar (day+730425)).tdiv 146097))))))+1),b1,ar ((ar ((ar (((ar (day+730425)).tmod 146097) - (ar ((ar ((ar ((365:Int) * (ar ((ar ((ar ((ar (((ar (day+730425)).tmod 146097) - (ar (((ar (day+730425)).tmod 146097).tdiv 1460))))+(ar (((ar (day+730425)).tmod 146097).tdiv 36524)))) - (ar (((ar (day+730425)).tmod 146097).tdiv 146096)))).tdiv 365))))+(ar ((ar ((ar ((ar ((ar (((ar (day+730425)).tmod 146097) - (ar (((ar (day+730425)).tmod 146097).tdiv 1460))))+(ar (((ar (day+730425)).tmod 146097).tdiv 36524)))) - (ar (((ar (day+730425)).tmod 146097).tdiv 146096)))).tdiv 365)).tdiv 4)))) - (ar ((ar ((ar ((ar ((ar (((ar (day+730425)).tmod 146097) - (ar (((ar (day+730425)).tmod 146097).tdiv 1460))))+(ar (((ar (day+730425)).tmod 146097).tdiv 36524)))) - (ar (((ar (day+730425)).tmod 146097).tdiv 146096)))).tdiv 365)).tdiv 100)))))) - (ar ((ar ((ar ((153:Int) * (ar ((ar ((ar ((5:Int) * (ar (((ar (day+730425)).tmod 146097) - (ar ((ar ((ar ((365:Int) * (ar ((ar ((ar ((ar (((ar (day+730425)).tmod 146097) - (ar (((ar (day+730425)).tmod 146097).tdiv 1460))))+(ar (((ar (day+730425)).tmod 146097).tdiv 36524)))) - (ar (((ar (day+730425)).tmod 146097).tdiv 146096)))).tdiv 365))))+(ar ((ar ((ar ((ar ((ar (((ar (day+730425)).tmod 146097) - (ar (((ar (day+730425)).tmod 146097).tdiv 1460))))+(ar (((ar (day+730425)).tmod 146097).tdiv 36524)))) - (ar (((ar (day+730425)).tmod 146097).tdiv 146096)))).tdiv 365)).tdiv 4)))) - (ar ((ar ((ar ((ar ((ar (((ar (day+730425)).tmod 146097) - (ar (((ar (day+730425)).tmod 146097).tdiv 1460))))+(ar (((ar (day+730425)).tmod 146097).tdiv 36524)))) - (ar (((ar (day+730425)).tmod 146097).tdiv 146096)))).tdiv 365)).tdiv 100))))))))+2)).tdiv 153))))+2)).tdiv 5))))+1)))
 (.fin (ar ((ar ((ar ((ar ((ar (((ar (day+730425)).tmod 146097) - (ar (((ar (day+730425)).tmod 146097).tdiv 1460))))+(ar (((ar (day+730425)).tmod 146097).tdiv 36524)))) - (ar (((ar (day+730425)).tmod 146097).tdiv 146096)))).tdiv 365))+(ar ((400:Int) * (ar ((ar (day+730425)).tdiv 146097))))),b1,ar ((ar ((ar (((ar (day+730425)).tmod 146097) - (ar ((ar ((ar ((365:Int) * (ar ((ar ((ar ((ar (((ar (day+730425)).tmod 146097) - (ar (((ar (day+730425)).tmod 146097).tdiv 1460))))+(ar (((ar (day+730425)).tmod 146097).tdiv 36524)))) - (ar (((ar (day+730425)).tmod 146097).tdiv 146096)))).tdiv 365))))+(ar ((ar ((ar ((ar ((ar (((ar (day+730425)).tmod 146097) - (ar (((ar (day+730425)).tmod 146097).tdiv 1460))))+(ar (((ar (day+730425)).tmod 146097).tdiv 36524)))) - (ar (((ar (day+730425)).tmod 146097).tdiv 146096)))).tdiv 365)).tdiv 4)))) - (ar ((ar ((ar ((ar ((ar (((ar (day+730425)).tmod 146097) - (ar (((ar (day+730425)).tmod 146097).tdiv 1460))))+(ar (((ar (day+730425)).tmod 146097).tdiv 36524)))) - (ar (((ar (day+730425)).tmod 146097).tdiv 146096)))).tdiv 365)).tdiv 100)))))) - (ar ((ar ((ar ((153:Int) * (ar ((ar ((ar ((5:Int) * (ar (((ar (day+730425)).tmod 146097) - (ar ((ar ((ar ((365:Int) * (ar ((ar ((ar ((ar (((ar (day+730425)).tmod 146097) - (ar (((ar (day+730425)).tmod 146097).tdiv 1460))))+(ar (((ar (day+730425)).tmod 146097).tdiv 36524)))) - (ar (((ar (day+730425)).tmod 146097).tdiv 146096)))).tdiv 365))))+(ar ((ar ((ar ((ar ((ar (((ar (day+730425)).tmod 146097) - (ar (((ar (day+730425)).tmod 146097).tdiv 1460))))+(ar (((ar (day+730425)).tmod 146097).tdiv 36524)))) - (ar (((ar (day+730425)).tmod 146097).tdiv 146096)))).tdiv 365)).tdiv 4)))) - (ar ((ar ((ar ((ar ((ar (((ar (day+730425)).tmod 146097) - (ar (((ar (day+730425)).tmod 146097).tdiv 1460))))+(ar (((ar (day+730425)).tmod 146097).tdiv 36524)))) - (ar (((ar (day+730425)).tmod 146097).tdiv 146096)))).tdiv 365)).tdiv 100))))))))+2)).tdiv 153))))+2)).tdiv 5))))+1)))
def MI day:=(np day).val
theorem F9 (day:Int):(np day).bC (fun _=>True):=by
 unfold np
 exact mA
def oT day:=kk tok mixed Tryz.func194 [iv day] (fun x=>.fD [iv x.1,iv x.2.1,iv x.2.2]) true (np day) (MI day) (u0 (F9 day))
def mj (year:Int) (month:Int) (JX:Int):Sk (Int) :=
 .br (decide (month < 3))
 (.r 3 (.aj (.p ((4:Int)≠0)) (.aj (.p ((100:Int)≠0)) (.aj (.p ((400:Int)≠0)) (.p ((5:Int)≠0))))) fun _ =>
 .fin (ar ((ar ((ar ((ar ((ar ((ar ((ar ((ar ((365:Int) * (ar (year - 1))))+(ar ((ar (year - 1)).tdiv 4)))) - (ar ((ar (year - 1)).tdiv 100))))+(ar ((ar (year - 1)).tdiv 400))))+(ar ((ar ((ar ((153:Int) * (ar ((ar (month+12)) - 3))))+2)).tdiv 5))))+JX)) - 1)) - 730425)))
 (.r 3 (.aj (.p ((4:Int)≠0)) (.aj (.p ((100:Int)≠0)) (.aj (.p ((400:Int)≠0)) (.p ((5:Int)≠0))))) fun _ =>
 .fin (ar ((ar ((ar ((ar ((ar ((ar ((ar ((ar ((365:Int) * year))+(ar (year.tdiv 4)))) - (ar (year.tdiv 100))))+(ar (year.tdiv 400))))+(ar ((ar ((ar ((153:Int) * (ar (month - 3))))+2)).tdiv 5))))+JX)) - 1)) - 730425)))
def JY year month JX:=(mj year month JX).val
theorem EA (year:Int) (month:Int) (JX:Int):(mj year month JX).bC (fun _=>True):=by
 unfold mj
 exact mA
def ky year month JX:=kk tok mixed Tryz.func225 [iv year,iv month,iv JX] (fun x=>iv x) true (mj year month JX) (JY year month JX) (u0 (EA year month JX))
def ml (year:Int) (month:Int):Sk (Int) :=
 .br (month == 12)
 (.fin 31)
 (.r 3 (.dep ((ky year (ar (month+1)) 1).c) fun _=>(ky year month 1).c) fun p3 =>
 .fin (ar (p3.1 - p3.2)))
def JZ year month:=(ml year month).val
theorem EB (year:Int) (month:Int):(ml year month).bC (fun _=>True):=by
 unfold ml
 try simp only [ky]
 exact qT
def nr year month:=kk tok mixed Tryz.func196 [iv year,iv month] (fun x=>iv x) true (ml year month) (JZ year month) (u0 (EB year month))
def qq (year:Int) (month:Int) (JX:Int):Sk (Int × Int) :=
 .r 1 (.wh (((((decide (year < 2000))||(decide (year > 2300)))||(decide (month < 1)))||(decide (month > 12)))||(decide (JX < 1))) false ((nr year month).c)) fun x1 =>
 .br ((((((decide (year < 2000))||(decide (year > 2300)))||(decide (month < 1)))||(decide (month > 12)))||(decide (JX < 1)))||(decide (JX > x1)))
 (.fin (0,3))
 (.r 3 ((ky year month JX).c) fun x2 =>
 .r 4 ((gV x2).c) fun x3 =>
 .br (!x3)
 (.fin (0,3))
 (.fin (x2,0)))
def RV year month JX:=(qq year month JX).val
theorem J0 (year:Int) (month:Int) (JX:Int):(qq year month JX).bC (fun _=>True):=by
 unfold qq
 try simp only [nr,ky,gV,rR]
 exact Bu
def Cn year month JX:=kk tok mixed Tryz.func195 [iv year,iv month,iv JX] (fun x=>.fD [iv x.1,iv x.2]) true (qq year month JX) (RV year month JX) (u0 (J0 year month JX))
def jK (day:Int) (n:Int):Sk (Int × Int) :=
 .r 1 ((gV day).c) fun x1 =>
 .br (((!x1)||(decide (n < (-5000))))||(decide (n > 5000)))
 (.fin (0,3))
 (.r 3 ((oT day).c) fun x2 =>
 .r 5 (.aj (.p ((12:Int)≠0)) (.p ((12:Int)≠0))) fun _ =>
 .r 6 (.dep ((nr (ar ((ar ((ar ((ar ((ar ((12:Int) * x2.1))+x2.2.1)) - 1))+n)).tdiv 12)) (ar (((ar ((ar ((ar ((ar ((12:Int) * x2.1))+x2.2.1)) - 1))+n)).tmod 12)+1))).c) fun x3=>(Cn (ar ((ar ((ar ((ar ((ar ((12:Int) * x2.1))+x2.2.1)) - 1))+n)).tdiv 12)) (ar (((ar ((ar ((ar ((ar ((12:Int) * x2.1))+x2.2.1)) - 1))+n)).tmod 12)+1)) (cq x2.2.2 x3)).c) fun p5 =>
 .fin (p5.2.1,p5.2.2))
def EC day n:=(jK day n).val
theorem Be (day:Int) (n:Int):(jK day n).bC (fun _=>True):=by
 unfold jK
 try simp only [Cn,oT,nr,gV,rR]
 exact Bu
def tV day n:=kk tok mixed Tryz.func160 [iv day,iv n] (fun x=>.fD [iv x.1,iv x.2]) true (jK day n) (EC day n) (u0 (Be day n))
def rS (day:Int) (t:sy):Sk (Int × Int) :=
 .br ((decide (t.n < 0))||(decide (t.n > 20000)))
 (.fin (0,3))
 (.br (t.unit == 1)
 (.r 4 ((tV day t.n).c) fun x1 =>
 .fin (x1.1,x1.2))
 (.fin (ar (day+t.n),0)))
def UA day t:=(rS day t).val
theorem MJ (day:Int) (t:sy):(rS day t).bC (fun _=>True):=by
 unfold rS
 try simp only [tV]
 exact qT
def yf day t:=kk tok mixed Tryz.func128 [iv day,av t.cells] (fun x=>.fD [iv x.1,iv x.2]) true (rS day t) (UA day t) (u0 (MJ day t))
def tq (r:ah) (b:rE) (seen:Int):Sk (Int × Int) :=
 .br (b.df.kind == 0)
 (.fin (seen,0))
 (.br (b.df.kind == 1)
 (.r 5 ((yf seen b.df).c) fun x1 =>
 .fin (x1.1,x1.2))
 (.br (b.df.kind == 2)
 (.r 7 ((yf b.day b.df).c) fun x2 =>
 .fin (x2.1,x2.2))
 (.br (b.df.kind == 4)
 (.r 9 ((nN r b.cH b.A2).c) fun x3 =>
 .fin (ar (b.day+x3.1),x3.2))
 (.fin (b.df.n,0)))))
def WH r b seen:=(tq r b seen).val
theorem O8 (r:ah) (b:rE) (seen:Int):(tq r b seen).bC (fun _=>True):=by
 unfold tq
 try simp only [nN,yf]
 exact qT
def Am r b seen:=kk tok mixed Tryz.func101 [av r.cells,av b.cells,iv seen] (fun x=>.fD [iv x.1,iv x.2]) true (tq r b seen) (WH r b seen) (u0 (O8 r b seen))
def mQ (r:ah) (order:Int) (day:Int):Sk (Int) :=
 .bind true (fun b1=>day≤b1∧b1≤100001)
 (.loop (default:Sum (Int) (Int)) (fun i2=>day≤i2.1∧i2.1≤100001) (fun i2=>2 * (100001 - i2.1).toNat+(if i2.2 then 1 else 0)) ((day,true):Int × Bool)
 (fun (i2:Int × Bool)=>⟨[(2,iv i2.1),(7,bv i2.2)],[]⟩) fun i2 =>
 .br i2.2
 (.bind true (fun b3=>i2.1≤b3.1∧b3.1≤100001∧(b3.2.1=true→i2.1 < b3.1)∧(b3.2.1=false→b3.1=i2.1))
 (.bind true (fun b4=>i2.1≤b4.1∧b4.1≤100001∧(b4.2.1=true→i2.1 < b4.1)∧(b4.2.1=false→b4.1=i2.1))
 (.loop (default:Sum (Sum (Sum (Sum (Int) (Int)) (Int × Bool)) (Int × Bool × (List Halt) × Int × Int × Bool)) (Int × Bool × Int × Bool)) (fun i5=>i5.2.2≤r.eR.length∧i2.1≤i5.1∧i5.1≤100001∧(i5.2.1=true→i2.1 < i5.1)∧(i5.2.1=false→i5.1=i2.1)) (fun i5=>r.eR.length - i5.2.2) ((i2.1,false,0):Int × Bool × Nat)
 (fun (i5:Int × Bool × Nat)=>⟨[(2,iv i5.1),(7,bv i5.2.1),(14,iv (i5.2.2:Int))],[]⟩) fun i5 =>
 .lt 12 0 i5.2.2 r.eR.length
 (.r 6 (.p (bU (i5.2.2:Int) r.eR.length)) fun _ =>
 .br (((((r.eR.getD i5.2.2 default).order) == order)&&(decide (((r.eR.getD i5.2.2 default).from_)≤i5.1)))&&(decide (i5.1≤((r.eR.getD i5.2.2 default).cM))))
 (.r 9 .z fun _ =>
 .wi 14 (ar ((i5.2.2:Int)+1)) ((i5.2.2+1:Nat):Int) <|
 .fin (.inr (ar (((r.eR.getD i5.2.2 default).cM)+1),true,i5.2.2+1)))
 (.nx 9 14 i5.2.2 (i5.1,i5.2.1,i5.2.2+1)))
 (.fin (.inl (.inr (i5.1,i5.2.1,(i5.2.2:Int),decide ((i5.2.2:Int) < ((r.eR.length:Nat):Int)))))))
 (fun (b4:Int × Bool × Int × Bool)=>⟨[(2,iv b4.1),(7,bv b4.2.1),(14,iv b4.2.2.1),(15,bv b4.2.2.2)],[]⟩) fun b4 =>
 .fin (.inr (b4.1,b4.2.1,r.eR,((r.eR.length:Nat):Int),b4.2.2.1,b4.2.2.2)))
 (fun (b3:Int × Bool × (List Halt) × Int × Int × Bool)=>⟨[(2,iv b3.1),(7,bv b3.2.1),(12,lv Halt.cells b3.2.2.1),(13,iv b3.2.2.2.1),(14,iv b3.2.2.2.2.1),(15,bv b3.2.2.2.2.2)],[]⟩) fun b3 =>
 .fin (.inr (b3.1,b3.2.1)))
 (.fin (.inl (.inr i2.1))))
 (fun (b1:Int)=>⟨[(2,iv b1)],[]⟩) fun b1 =>
 .fin b1
def MK r order day:=(mQ r order day).val
theorem ML (r:ah) (order:Int) (day:Int) (hP:r.eM∧0≤day∧day≤100001):(mQ r order day).dj (fun (x:Int)=>day≤x∧x≤100001):=by
 refine Sk.bz _ ?_
 unfold mQ
 simp only [Sk.de,Sk.aI,reduceCtorEq,ON,kk,kp,ah.eM,maxLen]
 obtain ⟨hh,hd⟩:=hP
 refine ⟨⟨by omega,fun i hi=>⟨fun hch=>⟨⟨⟨⟨by omega,⟨by omega,by omega⟩⟩,fun j hj=>⟨fun hc _=>⟨fun ht _=>⟨⟨?_,?_⟩,?_⟩,fun ht _=>⟨⟨?_,hj.2⟩,?_⟩⟩,fun hc=>hj.2⟩⟩,fun b hb=>hb⟩,fun b _ hb=>⟨?_,?_⟩⟩,fun hch=>hi⟩⟩,fun b hb=>hb⟩
 all_goals (try simp only [LN] at hc)
 all_goals (try simp only [LN] at ht)
 ·omega
 ·have h2:=hh j.2.2 (by omega)
  rw [aA (by omega) (by omega)]
  omega
 ·omega
 ·omega
 ·omega
 ·omega
 ·rw [if_pos hch]
  cases GK:b.2.1 with
  | true=>have:=hb.2.2.1 GK; simp only [if_true]; omega
  | false=>have:=hb.2.2.2 GK; simp only [Bool.false_eq_true,if_false]; omega
theorem J1 (r:ah) (order:Int) (day:Int):(fun (x:Int)=>(r.eM∧0≤day∧day≤100001)→(day≤x∧x≤100001)) (MK r order day):=fun hP=>Sk.dk _ (ML r order day hP)
theorem O9 (r:ah) (order:Int) (day:Int) (hh:r.eM) (hd:0≤day∧day≤100001):(mQ r order day).bC (fun _=>True):=by
 simp only [ah.eM] at hh
 refine Sk.aR _ ?_
 unfold mQ
 simp only [Sk.ju,Sk.aI,reduceCtorEq,ON,kk,kp,ah.eM,maxLen]
 refine ⟨⟨by omega,by omega⟩,fun i hi=>⟨fun hch=>⟨⟨⟨⟨by omega,by omega,by omega⟩,fun j hj hl=>⟨fun hc=>⟨⟨by omega,of_decide_eq_true hc⟩,fun _=>⟨fun ht _=>⟨?_,⟨?_,?_⟩,?_⟩,fun ht _=>⟨?_,⟨?_,hj.2⟩,?_⟩⟩⟩,fun hc=>hj.2⟩⟩,fun b hb=>hb⟩,fun b _ hb=>⟨?_,?_⟩⟩,fun hch=>hi⟩⟩
 all_goals (try simp only [LN] at hc)
 all_goals (try simp only [LN] at ht)
 ·exact aA (by omega) (by omega)
 ·omega
 ·have h2:=hh j.2.2 (by omega)
  rw [aA (by omega) (by omega)]
  omega
 ·omega
 ·exact aA (by omega) (by omega)
 ·omega
 ·omega
 ·omega
 ·rw [if_pos hch]
  cases GK:b.2.1 with
  | true=>have:=hb.2.2.1 GK; simp only [if_true]; omega
  | false=>have:=hb.2.2.2 GK; simp only [Bool.false_eq_true,if_false]; omega
def Ao r order day:=kk tok mixed Tryz.func130 [av r.cells,iv order,iv day] (fun x=>iv x) true (mQ r order day) (MK r order day) (u2 (O9 r order day)) (fun (x:Int)=>(r.eM∧0≤day∧day≤100001)→(day≤x∧x≤100001)) (J1 r order day)
def oU (c_:kP) (day:Int):Sk (Bool) :=
 .r 1 ((oT day).c) fun x1 =>
 .r 2 (.aj (.p ((7:Int)≠0)) (.dep ((aM c_.rest ((ar (day+5)).tmod 7)).c) fun x2=>.dep (.wh (!x2) true ((aM c_.gT (ar ((ar ((100:Int) * x1.2.1))+x1.2.2))).c)) fun x3=>.wh ((!x2)&&(!x3)) true ((aM c_.shut day).c))) fun p5 =>
 .fin (((!p5.1)&&(!p5.2.1))&&(!p5.2.2))
def g7 c_ day:=(oU c_ day).val
theorem HF (c_:kP) (day:Int):(oU c_ day).bC (fun _=>True):=by
 unfold oU
 try simp only [oT,aM]
 exact mA
def J2 c_ day:=kk tok mixed Tryz.func198 [av c_.cells,iv day] (fun x=>bv x) true (oU c_ day) (g7 c_ day) (u0 (HF c_ day))
theorem HG (c_:kP) (day:Int):gR Tryz.prog 198 [av c_.cells,iv day] [] (bv (g7 c_ day)) []:=(J2 c_ day).pf trivial
section
open Go Go.Av Go.RowKit Go.Shelf
attribute [local go_sem] Oper.semAt_some
set_option linter.unusedSimpArgs false
set_option linter.unusedVariables false
set_option maxHeartbeats 1000000
set_option maxRecDepth 100000
/-- I8 first open day from one day to XL -/
def wo (c:kP):Nat→Int→Option Int
  | 0,_=>none
  | n+1,d=>bif g7 c d then some d else wo c n (d+1)
def Dc (c:kP) (day last:Int):Option Int:=wo c (last - day+1).toNat day
def fc (c:kP) (day:Int):Int × Int :=
  bif !(gp day) then (0,3) else match Dc c day (min (ar (day+400)) 100000) with | some d=>(d,0) | none=>(0,3)
theorem Tryz.ntmps197:Tryz.f197.ntmps=21:=by kernel_rfl
theorem Tryz.ntmps131:Tryz.f131.ntmps=18:=by kernel_rfl

def gq (c:kP):Nat→Int→List Int
  | 0,_=>[]
  | n+1,d=>bif g7 c d then d :: gq c n (d+1) else gq c n (d+1)

theorem WI (c:kP) (d:Int) (v:Value) (w:World) (S:Nat→Prop) (hb:∀ b,S b→b < w.heap.size) (hg:kO w S) (hr:Rd w S (.agg c.cells) v) :
    Calls Tryz.prog 198 #[v,.int .i64 d] w fun e w'=>e=.returned (.bool (g7 c d))∧w.grownBy w' none:=by
  refine Calls.mono ((HG c d).2 w S (fun _=>none) #[v,.int .i64 d] hb hg (fun ν=>⟨rfl,fun i hi=>?_⟩) (fun κ b h=>by simp [Go.Av.look] at h) (fun κ κ' b b' g c c' h=>by simp [Go.Av.look] at h)) ?_
  · match i,hi with
    | 0,_=>exact .d hr
    | 1,_=>exact iJ rfl
    | i+2,hi=>simp at hi; omega
  · rintro e w' ⟨u,S',μ',rfl,B⟩
    have hu:u=.bool (g7 c d):=pE (B.res fun _=>false)
    subst hu
    exact ⟨rfl,B.kept.os,B.kept.tape,B.kept.output,B.kept.size,fun k hk _=>B.kept.block k hk (fun ⟨κ,b,c,h,_⟩=>by simp [Go.Av.look] at h)⟩

theorem abo (l bf bt bc n₁ m:Nat) (c:kP) (from_ last:Int) (v0 v1 v2 v3 v4 v5:Value) (S:Nat→Prop) (J Jx:List Int→World→Prop)
    (aiD : -9000000000000000000≤from_) (adF:last≤9000000000000000000) (hS:∀ b,S b→b < n₁) (hbf:bf < n₁) (hbt:bt < n₁) (hbc:bc < n₁) (hJ:AbidesFrom m J)
    (hY:∀ pre x W,J pre W→pre.length < (gq c (last - from_+1).toNat from_).length→YieldAt Fence.wide 2 Tryz.prog l #[.int .i64 x] W fun e W' =>
      (e=.returned (.bool true)∧J (pre++[x]) W'∧Below n₁ W W')∨(e=.returned (.bool false)∧Jx (pre++[x]) W'))
    (W:World) (hn₁:n₁≤W.heap.size) (hG:kO W S) (hR:Rd W S (.agg c.cells) (.agg #[v0,v1,v2,v3,v4,v5]))
    (hBf:W.cell? ⟨bf,0,none⟩=some (.int .i64 from_)) (hBt:W.cell? ⟨bt,0,none⟩=some (.int .i64 last))
    (hC0:W.cell? ⟨bc,0,none⟩=some v0) (hC1:W.cell? ⟨bc,1,none⟩=some v1) (hC2:W.cell? ⟨bc,2,none⟩=some v2) (hC3:W.cell? ⟨bc,3,none⟩=some v3) (hC4:W.cell? ⟨bc,4,none⟩=some v4) (hC5:W.cell? ⟨bc,5,none⟩=some v5) (h0:J [] W) :
    CallsIn Fence.wide 3 Tryz.prog 197 #[.func (.yield l) #[] #[],.pointer (some ⟨bf,0,none⟩),.pointer (some ⟨bt,0,none⟩),.pointer (some ⟨bc,0,none⟩)] W fun e W'=>(∃ v,e=.returned v) ∧
      ((∃ ys,ys=gq c (last - from_+1).toNat from_∧J ys W')∨(∃ pre,pre <+: gq c (last - from_+1).toNat from_∧Jx pre W')):=by
  refine callsIn_of_wp Tryz.func197 rfl trivial ?_ rfl
  simp only [Tryz.ntmps197,List.size_toArray,List.length_cons,List.length_nil,Nat.reduceAdd,Nat.reduceSub,Array.replicate_succ,Array.replicate_zero,List.push_toArray,List.append_toArray,List.nil_append,List.cons_append]
  gi_wp2
  gi_loopw [5] (fun p wr=>∃ (d:Int) (pre:List Int),p=.int .i64 d∧from_≤d∧gq c (last - from_+1).toNat from_=pre++gq c (last - d+1).toNat d∧J pre wr∧Below n₁ W wr)
    (fun p _=>(last+1 - intOf p).toNat)
  case atStart=>exact ⟨from_,[],rfl,Int.le_refl _,rfl,h0,Below.refl _ _⟩
  case round =>
    obtain ⟨d,pre,rfl,hd,hx,hJs,Em⟩:=hrel
    have aiR:wr.cell? ⟨bt,0,none⟩=some (.int .i64 last):=(Em.cell (p:=⟨bt,0,none⟩) hbt).trans hBt
    have aiS:=(Em.cell (p:=⟨bc,0,none⟩) hbc).trans hC0
    have aiT:=(Em.cell (p:=⟨bc,1,none⟩) hbc).trans hC1
    have aiU:=(Em.cell (p:=⟨bc,2,none⟩) hbc).trans hC2
    have aiV:=(Em.cell (p:=⟨bc,3,none⟩) hbc).trans hC3
    have aiW:=(Em.cell (p:=⟨bc,4,none⟩) hbc).trans hC4
    have aiX:=(Em.cell (p:=⟨bc,5,none⟩) hbc).trans hC5
    have Yd:=WI c d (.agg #[v0,v1,v2,v3,v4,v5]) wr S (fun b hb=>Nat.lt_of_lt_of_le (hS b hb) (Nat.le_trans hn₁ Em.size)) (hG.mono (fun _ h=>h) (fun b hb=>Em.block b (hS b hb))) (hR.mono (fun _ h=>h) (fun b hb=>Em.block b (hS b hb)))
    have hJ2:∀ W2,wr.grownBy W2 none→J pre W2:=fun W2 hg=>hJ pre wr W2 none hJs hg (fun r e=>by cases e)
    have hB2:∀ W2,wr.grownBy W2 none→Below n₁ W W2:=fun W2 hg=>Em.trans ⟨hg.os,hg.tape,hg.output,hg.size,fun k hk=>hg.block k (Nat.lt_of_lt_of_le hk (Nat.le_trans hn₁ Em.size)) (by simp)⟩
    by_cases hle:d≤last
    · have hfu:(last - d+1).toNat=(last - (d+1)+1).toNat+1:=by omega
      cases ho:g7 c d with
      | true =>
        rw [ho] at Yd
        rw [hfu,gq,ho,cond_true] at hx
        have hlen:pre.length < (gq c (last - from_+1).toNat from_).length:=by rw [hx]; simp
        gi_wp2
        refine ⟨trivial,(callsIn_wide.2 Yd).mono ?_⟩
        rintro e W2 ⟨rfl,SO⟩
        obtain ⟨fn,tmps,assign,body,hy,hRR⟩:=hY pre d W2 (hJ2 W2 SO) hlen
        gi_wp2
        refine hRR.mono ?_
        rintro e W3 (⟨rfl,hJ3,hk3⟩ | ⟨rfl,ah5⟩)
        · gi_wp2
          go_roundw
          case rel=>exact ⟨d+1,pre++[d],by simp,by omega,by rw [hx]; simp,hJ3,(hB2 W2 SO).trans hk3⟩
          case measure=>simp [intOf]; omega
        · gi_wp2
          refine bodyPost_ret (results_none rfl _ _ _) rfl ?_
          exact ⟨⟨_,rfl⟩,.inr ⟨pre++[d],⟨gq c (last - (d+1)+1).toNat (d+1),by rw [hx]; simp⟩,ah5⟩⟩
      | false =>
        rw [ho] at Yd
        rw [hfu,gq,ho,cond_false] at hx
        gi_wp2
        refine ⟨trivial,(callsIn_wide.2 Yd).mono ?_⟩
        rintro e W2 ⟨rfl,SO⟩
        gi_wp2
        refine ⟨fun _ h=>(by cases h),?_⟩
        gi_wp2
        go_roundw
        case rel=>exact ⟨d+1,pre,by simp,by omega,hx,hJ2 W2 SO,hB2 W2 SO⟩
        case measure=>simp [intOf]; omega
    · gi_wp2
      go_end0
      have h0:(last - d+1).toNat=0:=by omega
      rw [h0,gq,List.append_nil]
      exact ⟨⟨_,rfl⟩,.inl hJs⟩

theorem Tryz.ntmps162:Tryz.f162.ntmps=8:=by kernel_rfl
theorem acL (v0 v1 v2 v3 v4 v5:Value) (day last:Int) (w:World):CallsIn Fence.wide 3 Tryz.prog 162 #[.agg #[v0,v1,v2,v3,v4,v5],.int .i64 day,.int .i64 last] w fun e w' =>
    e=.returned (.func (.func 197) #[] #[.pointer (some ⟨w.heap.size+1,0,none⟩),.pointer (some ⟨w.heap.size+2,0,none⟩),.pointer (some ⟨w.heap.size,0,none⟩)])∧w'=((w.alloc (.cells #[v0,v1,v2,v3,v4,v5] 124)).alloc (.cells #[.int .i64 day] 3)).alloc (.cells #[.int .i64 last] 3):=by
  refine callsIn_of_wp Tryz.func162 rfl trivial ?_ rfl
  simp only [Tryz.ntmps162,List.size_toArray,List.length_cons,List.length_nil,Nat.reduceAdd,Nat.reduceSub,Array.replicate_succ,Array.replicate_zero,List.push_toArray,List.append_toArray,List.nil_append,List.cons_append]
  gi_wp2
  go_ret
  exact ⟨rfl,rfl⟩

theorem UB (d:Int) (w:World) (S:Nat→Prop) (hb:∀ b,S b→b < w.heap.size) (hg:kO w S) :
    Calls Tryz.prog 161 #[.int .i64 d] w fun e w'=>e=.returned (.bool (gp d))∧w.grownBy w' none:=by
  refine Calls.mono ((F8 d).2 w S (fun _=>none) #[.int .i64 d] hb hg (fun ν=>⟨rfl,fun i hi=>?_⟩) (fun κ b h=>by simp [Go.Av.look] at h) (fun κ κ' b b' g c c' h=>by simp [Go.Av.look] at h)) ?_
  · match i,hi with
    | 0,_=>exact iJ rfl
    | i+1,hi=>simp at hi
  · rintro e w' ⟨u,S',μ',rfl,B⟩
    have hu:u=.bool (gp d):=pE (B.res fun _=>false)
    subst hu
    exact ⟨rfl,B.kept.os,B.kept.tape,B.kept.output,B.kept.size,fun k hk _=>B.kept.block k hk (fun ⟨κ,b,c,h,_⟩=>by simp [Go.Av.look] at h)⟩

theorem HH {w w':World} {S:Nat→Prop} {T:Nat→Prop} {a b:Int} (hS:∀ q,S q→q < w.heap.size) (h:Below w.heap.size w w'):∃ v S' μ',Ending.returned (.tuple #[.int .i64 a,.int .i64 b])=.returned v∧Tj w S T (.fD [iv a,iv b]) [] v S' μ' w':=by
  refine ⟨_,S,fun _=>none,rfl,⟨fun ν=>.fD rfl (fun i hi=>?_),fun κ b h=>by simp [Go.Av.look] at h,fun κ κ' b b' g c c' h=>by simp [Go.Av.look] at h,fun κ b g c h=>by simp [Go.Av.look] at h,fun _ h=>h,fun _ h=>.inl h,fun q hq=>Nat.lt_of_lt_of_le (hS q hq) h.size,⟨h.os,h.tape,h.output,h.size,fun k hk _=>h.block k hk⟩⟩⟩
  match i,hi with
  | 0,_=>exact iJ rfl
  | 1,_=>exact iJ rfl
  | i+2,hi=>simp at hi; omega

theorem results131 (tmps:Array Value) (W:World) (b4 b5:Nat) (x y:Int) (h4:tmps.getD 4 undef=.pointer (some ⟨b4,0,none⟩)) (h5:tmps.getD 5 undef=.pointer (some ⟨b5,0,none⟩)) (hx:W.cell? ⟨b4,0,none⟩=some (.int .i64 x)) (hy:W.cell? ⟨b5,0,none⟩=some (.int .i64 y)) :
    (results Tryz.f131 tmps).run Tryz.prog W=.ok (.tuple #[.int .i64 x,.int .i64 y]) W:=by
  have e:Tryz.f131.results = #[.cell 4 3,.cell 5 40]:=by kernel_rfl
  have u3:Tryz.prog.underlying 3=some (.int .i64):=by kernel_rfl
  have u49:Tryz.prog.underlying 40=some (.int .i64):=by kernel_rfl
  have h4':tmps[4]?.getD undef=.pointer (some ⟨b4,0,none⟩):=by simpa [Array.getD_eq_getD_getElem?] using h4
  have h5':tmps[5]?.getD undef=.pointer (some ⟨b5,0,none⟩):=by simpa [Array.getD_eq_getD_getElem?] using h5
  simp [results,e,h4',h5',go_sem,run_underlying u3,run_underlying u49,hx,hy]

theorem yg (c:kP):∀ (n:Nat) (d:Int),(gq c n d).head? = wo c n d
  | 0,_=>rfl
  | n+1,d=>by
    simp only [gq,wo]
    cases g7 c d with
    | true=>rfl
    | false=>exact yg c n (d+1)


theorem abp (c:kP) (day last t13:Int) (v0 v1 v2 v3 v4 v5:Value) (w W1:World) (S:Nat→Prop) (Q:Exit→Act→World→Prop) (abq : -9000000000000000000≤day) (adF:last≤9000000000000000000)
    (hb:∀ b,S b→b < w.heap.size) (hg:kO w S) (hR:Rd w S (.agg c.cells) (.agg #[v0,v1,v2,v3,v4,v5])) (hB1:Below w.heap.size w W1) (h41:Boxed W1 (w.heap.size+1) 3 (.int .i64 0)) (h51:Boxed W1 (w.heap.size+1+1) 40 (.int .i64 0))
    (tm:Value→Value→Array Value) (htm:tm=fun x y=>#[Value.agg #[v0,v1,v2,v3,v4,v5],Value.int IntKind.i64 day,Value.pointer (some { block:=w.heap.size,off:=0 }),undef,Value.pointer (some { block:=w.heap.size+1,off:=0 }),
          Value.pointer (some { block:=w.heap.size+1+1,off:=0 }),y,Value.int IntKind.i64 day,Value.bool true,Value.bool false,Value.agg #[v0,v1,v2,v3,v4,v5],Value.int IntKind.i64 day,Value.int IntKind.i64 day,Value.int IntKind.i64 t13,Value.int IntKind.i64 last,
          Value.func (Fn.func 197) #[] #[Value.pointer (some { block:=W1.heap.size+1,off:=0 }),Value.pointer (some { block:=W1.heap.size+2,off:=0 }),Value.pointer (some { block:=W1.heap.size,off:=0 })],x,undef])
    (agi:gq c (last - day+1).toNat day=[]→∀ (D:Nat) (W:World),W1.heap.size+3≤D→Boxed W (w.heap.size+1) 3 (.int .i64 0)→Boxed W (w.heap.size+1+1) 40 (.int .i64 0)→Below w.heap.size w W→W.heap[D]? = some (.deferred (some []))→Q .normal { tmps:=tm undef undef,defers:=[{ target:=.collected D,args:=#[] }] } W)
    (agj:∀ (x:Int) (D:Nat) (W:World),(gq c (last - day+1).toNat day).head? = some x→W1.heap.size+3≤D→Boxed W (w.heap.size+1) 3 (.int .i64 x)→Boxed W (w.heap.size+1+1) 40 (.int .i64 0)→Below w.heap.size w W→W.heap[D]? = some (.deferred (some []))→Code.ret.wpIn Fence.wide 4 Tryz.prog Q { tmps:=tm undef undef,defers:=[{ target:=.collected D,args:=#[] }] } W) :
    Code.wpIn Fence.wide 4 Tryz.prog
    (Code.rangeFunc (Operand.tmp 15) #[16]
      (Code.region 4
        #[{ dst:=some 6,op:=Op.assign (Operand.tmp 16),type:=3,pos:= "calendar.go:125",after:=#[],
            guard:=none }]
        false)
      (Code.block 1
        ((Code.region 5
              #[{ dst:=some 17,op:=Op.move (Operand.tmp 6),type:=3,pos:= "calendar.go:126",after:=#[],
                  guard:=none },
                { dst:=none,op:=Op.store 3 (Operand.tmp 4) (Operand.tmp 17),type:=0,pos:= "calendar.go:126",
                  after:=#[{ on:=0,ground:=Ground.data },{ on:=0,ground:=Ground.phase }],guard:=none },
                { dst:=none,op:=Op.store 40 (Operand.tmp 5) (Operand.const (Value.int IntKind.i64 0)),type:=0,
                  pos:= "calendar.go:126",
                  after :=
                    #[{ on:=1,ground:=Ground.chain },{ on:=0,ground:=Ground.phase },
                      { on:=1,ground:=Ground.phase }],
                  guard:=none }]
              false).seq
          Code.ret))) Q { tmps:=tm undef undef,defers:=[] }
    (((W1.alloc (Obj.cells #[v0,v1,v2,v3,v4,v5] 124)).alloc (Obj.cells #[Value.int IntKind.i64 day] 3)).alloc
      (Obj.cells #[Value.int IntKind.i64 last] 3)):=by
  obtain ⟨W2,Z2⟩:∃ W2,((W1.alloc (Obj.cells #[v0,v1,v2,v3,v4,v5] 124)).alloc (Obj.cells #[Value.int IntKind.i64 day] 3)).alloc (Obj.cells #[Value.int IntKind.i64 last] 3)=W2:=⟨_,rfl⟩
  rw [Z2]
  have kN:W2.heap.size=W1.heap.size+3:=by rw [← Z2]; simp
  have gI:=h41.lt
  have agk:=h51.lt
  have hB2:Below w.heap.size w W2:=by rw [← Z2]; exact ((hB1.alloc hB1.size _).alloc (by have:=hB1.size; simp; omega) _).alloc (by have:=hB1.size; simp; omega) _
  have h42:Boxed W2 (w.heap.size+1) 3 (.int .i64 0):=by rw [← Z2]; exact ((h41.alloc _).alloc _).alloc _
  have h52:Boxed W2 (w.heap.size+1+1) 40 (.int .i64 0):=by rw [← Z2]; exact ((h51.alloc _).alloc _).alloc _
  have Jd:W2.heap[W1.heap.size]? = some (.cells #[v0,v1,v2,v3,v4,v5] 124 (0,0)):=by
    rw [← Z2]
    exact ((Below.heap_alloc _ _ _ (by simp; omega)).trans (Below.heap_alloc _ _ _ (by simp))).trans (World.alloc_heap_new W1 _)
  have hf2:Boxed W2 (W1.heap.size+1) 3 (.int .i64 day):=by
    rw [← Z2]
    have:=(Boxed.new (W1.alloc (Obj.cells #[v0,v1,v2,v3,v4,v5] 124)) 3 (.int .i64 day)).alloc (Obj.cells #[Value.int IntKind.i64 last] 3)
    simpa using this
  have ht2:Boxed W2 (W1.heap.size+2) 3 (.int .i64 last):=by
    rw [← Z2]
    have:=Boxed.new ((W1.alloc (Obj.cells #[v0,v1,v2,v3,v4,v5] 124)).alloc (Obj.cells #[Value.int IntKind.i64 day] 3)) 3 (.int .i64 last)
    simpa using this
  have GS:∀ (x y:List Int→Int→Prop) (s:List Int) (W W':World) (row:Option Nat),(∃ q,x s q∧Boxed W (w.heap.size+1) 3 (.int .i64 q)∧Boxed W (w.heap.size+1+1) 40 (.int .i64 0)∧Below w.heap.size w W)→W.grownBy W' row→(∀ r,row=some r→W2.heap.size≤r∧∃ o:Obj,W.heap[r]? = some o∧o.isCells=false) →
      ∃ q,x s q∧Boxed W' (w.heap.size+1) 3 (.int .i64 q)∧Boxed W' (w.heap.size+1+1) 40 (.int .i64 0)∧Below w.heap.size w W':=by
    rintro x y s W W' row ⟨q,hq,b4,b5,hB⟩ SO hr
    exact ⟨q,hq,b4.kept SO (fun e=>by have:=(hr _ e.symm).1; omega),b5.kept SO (fun e=>by have:=(hr _ e.symm).1; omega),hB.grown SO hB.size (fun k e=>by have:=(hr k e).1; omega)⟩
  refine wpIn_rangeFunc_ownF (F:=Fence.wide) (n:=4) (P:=Tryz.prog) rfl (by decide) (gf:=197) (lb:=#[.pointer (some ⟨W1.heap.size+1,0,none⟩),.pointer (some ⟨W1.heap.size+2,0,none⟩),.pointer (some ⟨W1.heap.size,0,none⟩)]) (by rw [htm]; rfl) trivial (enters_of Tryz.func197 (by kernel_rfl) rfl)
    (encs:=fun x:Int=>#[.int .i64 x]) (Kp:=Below (W1.heap.size+3)) (S:=fun xs=>xs=gq c (last - day+1).toNat day) (Sp:=fun pre=>pre <+: gq c (last - day+1).toNat day) (N:=(gq c (last - day+1).toNat day).length) (w0:=W2) ?seq belowK_t (belowK_b (by omega)) (Below.refl _ _) (fun _=>rfl)
    (fun pre W=>∃ q,(pre=[]∧q=0)∧Boxed W (w.heap.size+1) 3 (.int .i64 q)∧Boxed W (w.heap.size+1+1) 40 (.int .i64 0)∧Below w.heap.size w W)
    (fun cd pre W=>∃ q,(cd=.ret∧pre=[q])∧Boxed W (w.heap.size+1) 3 (.int .i64 q)∧Boxed W (w.heap.size+1+1) 40 (.int .i64 0)∧Below w.heap.size w W)
    (fun s W W' row=>GS (fun pre q=>pre=[]∧q=0) (fun _ _=>True) s W W' row) (fun cd s W W' row=>GS (fun pre q=>cd=.ret∧pre=[q]) (fun _ _=>True) s W W' row) ⟨0,⟨rfl,rfl⟩,h42,h52,hB2⟩
    (fun x=>{ tmps:=tm (.int .i64 x) (.int .i64 x),defers:=[] }) ?assign ?body ?done ?stop
  case seq =>
    intro l J Jx W hW hJ hJx hY h0
    have hBW:Below w.heap.size w W:=hB2.trans (hW.mono (by have:=hB2.size; omega))
    have cc:∀ j,W.cell? ⟨W1.heap.size,j,none⟩ = #[v0,v1,v2,v3,v4,v5][j]?:=fun j=>by rw [iK W _ j _ _ _ ((hW.block _ (by omega)).trans Jd)]
    exact abo l (W1.heap.size+1) (W1.heap.size+2) W1.heap.size (W1.heap.size+3) W.heap.size c day last v0 v1 v2 v3 v4 v5 S J Jx abq adF (fun b h=>by have:=hb b h; have:=hB1.size; omega) (by omega) (by omega) (by omega) hJ hY W (by have:=hW.size; omega)
      (hg.mono (fun _ h=>h) (fun b h=>hBW.block b (hb b h))) (hR.mono (fun _ h=>h) (fun b h=>hBW.block b (hb b h))) ((hW.cell (p:=⟨W1.heap.size+1,0,none⟩) (by simp; omega)).trans hf2.cell) ((hW.cell (p:=⟨W1.heap.size+2,0,none⟩) (by simp; omega)).trans ht2.cell) (cc 0) (cc 1) (cc 2) (cc 3) (cc 4) (cc 5) h0
  case assign =>
    intro l x W K hK
    subst htm
    gi_wp2
    exact hK
  case body =>
    rintro l pre x W ⟨q,⟨rfl,rfl⟩,b4,b5,hB⟩ _
    subst htm
    have c4:=b4.cell
    have f4:=b4.frozen
    have c5:=b5.cell
    have f5:=b5.frozen
    gi_wp2
    have q4:=b4.set (.int .i64 x)
    have q5:=(b5.other (B':=w.heap.size+1) (by omega) (.int .i64 x)).set (.int .i64 0)
    have q4':=q4.other (B':=w.heap.size+1+1) (by omega) (.int .i64 0)
    exact ⟨(KeepsOthers.setCell _ _ _).trans (KeepsOthers.setCell _ _ _),x,⟨rfl,rfl⟩,q4',q5,(hB.setCell (p:=⟨w.heap.size+1,0,none⟩) (by simp) _).setCell (p:=⟨w.heap.size+1+1,0,none⟩) (by simp; omega) _⟩
  case done =>
    rintro D xs W hD hx ⟨q,⟨rfl,rfl⟩,b4,b5,hB⟩ hK
    exact agi hx.symm D W (by omega) b4 b5 hB hK
  case stop =>
    rintro D cd pre W hD ⟨t,hp⟩ ⟨q,⟨rfl,rfl⟩,b4,b5,hB⟩ hK
    exact agj q D W (by rw [← hp]; rfl) (by omega) b4 b5 hB hK

theorem HJ (c:kP) (day:Int):gR Tryz.prog 131 [av c.cells,iv day] [] (.fD [iv (fc c day).1,iv (fc c day).2]) []:=by
  refine ⟨by kernel_rfl,fun w S μ vs hb hg hr _ _=>?_⟩
  obtain ⟨v0,v1,v2,v3,v4,v5,rfl,hR⟩:∃ v0 v1 v2 v3 v4 v5:Value,vs = #[.agg #[v0,v1,v2,v3,v4,v5],.int .i64 day]∧Rd w S (.agg c.cells) (.agg #[v0,v1,v2,v3,v4,v5]):=by
    obtain ⟨hl,h⟩:=hr fun _=>false
    have h0:=jX.1 (h 0 (by simp))
    have h1:=fk (h 1 (by simp))
    match vs,hl with
    | ⟨[a,b]⟩,_ =>
      simp only [List.getD_cons_zero,List.getD_cons_succ] at h0 h1
      subst h1
      cases h0 with
      | agg _ xs hx hh =>
        match xs,hx with
        | ⟨[x0,x1,x2,x3,x4,x5]⟩,_=>exact ⟨x0,x1,x2,x3,x4,x5,rfl,.agg _ _ rfl hh⟩
  refine callsIn_wide.1 (callsIn_of_wp_marks (n:=4) Tryz.func131 rfl trivial ?_ rfl)
  simp only [Tryz.ntmps131,List.size_toArray,List.length_cons,List.length_nil,Nat.reduceAdd,Nat.reduceSub,Array.replicate_succ,Array.replicate_zero,List.push_toArray,List.append_toArray,List.nil_append,List.cons_append]
  obtain ⟨W0,hW0⟩:∃ W0,((w.alloc (Obj.cells #[v0,v1,v2,v3,v4,v5] 124)).alloc (Obj.cells #[Value.int IntKind.i64 0] 3)).alloc (Obj.cells #[Value.int IntKind.i64 0] 40)=W0:=⟨_,rfl⟩
  have aiY:W0.heap.size=w.heap.size+3:=by rw [← hW0]; simp
  have hB0:Below w.heap.size w W0:=by rw [← hW0]; exact (((Below.refl _ w).alloc (Nat.le_refl _) _).alloc (by simp) _).alloc (by simp; omega) _
  have hc0:W0.heap[w.heap.size]? = some (.cells #[v0,v1,v2,v3,v4,v5] 124 (0,0)):=by
    rw [← hW0]
    exact ((Below.heap_alloc _ _ _ (by simp; omega)).trans (Below.heap_alloc _ _ _ (by simp))).trans (World.alloc_heap_new w _)
  have h4:Boxed W0 (w.heap.size+1) 3 (.int .i64 0):=by
    rw [← hW0]
    have:=(Boxed.new (w.alloc (Obj.cells #[v0,v1,v2,v3,v4,v5] 124)) 3 (.int .i64 0)).alloc (Obj.cells #[Value.int IntKind.i64 0] 40)
    simpa using this
  have h5:Boxed W0 (w.heap.size+1+1) 40 (.int .i64 0):=by
    rw [← hW0]
    have:=Boxed.new ((w.alloc (Obj.cells #[v0,v1,v2,v3,v4,v5] 124)).alloc (Obj.cells #[Value.int IntKind.i64 0] 3)) 40 (.int .i64 0)
    simpa using this
  have aaN:=UB day W0 S (fun b h=>by have:=hb b h; omega) (hg.mono (fun _ h=>h) (fun b h=>hB0.block b (hb b h)))
  gi_wp2
  refine ⟨trivial,(callsIn_wide.2 aaN).mono ?_⟩
  rintro e W1 ⟨rfl,SO⟩
  have hB1:Below w.heap.size w W1:=hB0.trans ⟨SO.os,SO.tape,SO.output,SO.size,fun k hk=>SO.block k (by omega) (by simp)⟩
  have YS:W1.heap[w.heap.size]? = some (.cells #[v0,v1,v2,v3,v4,v5] 124 (0,0)):=(SO.block _ (by omega) (by simp)).trans hc0
  have h41:=h4.kept SO (by simp)
  have h51:=h5.kept SO (by simp)
  have h4c:=h41.cell
  have h4f:=h41.frozen
  have h5c:=h51.cell
  have h5f:=h51.frozen
  cases hv:gp day with
  | false =>
    gi_wp2
    have q4:=h41.set (.int .i64 0)
    have q5:=(h51.other (B':=w.heap.size+1) (by omega) (.int .i64 0)).set (.int .i64 3)
    have q4':=q4.other (B':=w.heap.size+1+1) (by omega) (.int .i64 3)
    refine ⟨_,results131 _ _ _ _ 0 3 rfl rfl q4'.cell q5.cell,?_⟩
    have e:fc c day=(0,3):=by simp [fc,hv]
    rw [e]
    exact HH hb ((hB1.setCell (p:=⟨w.heap.size+1,0,none⟩) (by simp) _).setCell (p:=⟨w.heap.size+1+1,0,none⟩) (by simp; omega) _)
  | true =>
    have e0:W1.cell? ⟨w.heap.size,0,none⟩=some v0:=by rw [iK W1 _ 0 _ _ _ YS]; rfl
    have e1:W1.cell? ⟨w.heap.size,1,none⟩=some v1:=by rw [iK W1 _ 1 _ _ _ YS]; rfl
    have e2:W1.cell? ⟨w.heap.size,2,none⟩=some v2:=by rw [iK W1 _ 2 _ _ _ YS]; rfl
    have e3:W1.cell? ⟨w.heap.size,3,none⟩=some v3:=by rw [iK W1 _ 3 _ _ _ YS]; rfl
    have e4:W1.cell? ⟨w.heap.size,4,none⟩=some v4:=by rw [iK W1 _ 4 _ _ _ YS]; rfl
    have e5:W1.cell? ⟨w.heap.size,5,none⟩=some v5:=by rw [iK W1 _ 5 _ _ _ YS]; rfl
    have abq:0≤day∧day≤100000:=by simpa [gp,kx] using hv
    have Qj:ar (day+400)=day+400:=aA (by omega) (by omega)
    gi_wp2
    all_goals (refine ⟨trivial,(acL v0 v1 v2 v3 v4 v5 day _ W1).mono ?_⟩; rintro e W2 ⟨rfl,rfl⟩; gi_wp2; refine abp c day _ _ v0 v1 v2 v3 v4 v5 w W1 S _ (by omega) ?_ hb hg hR hB1 h41 h51 _ rfl ?_ ?_)
    all_goals first
      | omega
      | (intro SV D W hD b4 b5 hB hK
         have c4:=b4.cell
         have f4:=b4.frozen
         have c5:=b5.cell
         have f5:=b5.frozen
         gi_wp2
         have q4:=(b4.set (.int .i64 0)).other (B':=w.heap.size+1+1) (by omega) (.int .i64 3)
         have q5:=(b5.other (B':=w.heap.size+1) (by omega) (.int .i64 0)).set (.int .i64 3)
         have gI:=h41.lt
         have agk:=h51.lt
         have hK':=((KeepsOthers.setCell W ⟨w.heap.size+1,0,none⟩ (.int .i64 0)).trans (KeepsOthers.setCell _ ⟨w.heap.size+1+1,0,none⟩ (.int .i64 3))).same D _ hK rfl
         have hB':=(hB.setCell (p:=⟨w.heap.size+1,0,none⟩) (by simp) (.int .i64 0)).setCell (p:=⟨w.heap.size+1+1,0,none⟩) (by simp; omega) (.int .i64 3)
         refine ⟨by simp,.inl ⟨_,_,rfl,run_takeDeferred hK',?_⟩⟩
         refine ⟨_,results131 _ _ _ _ 0 3 rfl rfl (q4.kept (grownBy_putObj' _ D _) (fun e=>by cases e; omega)).cell (q5.kept (grownBy_putObj' _ D _) (fun e=>by cases e; omega)).cell,?_⟩
         have e:fc c day=(0,3):=by
           simp only [fc,hv,Dc,← yg]
           first
             | (rw [show min (ar (day+400)) 100000=100000 from by rw [Qj]; omega,SV]; rfl)
             | (rw [show min (ar (day+400)) 100000=day+400 from by rw [Qj]; omega,SV]; rfl)
             | (rw [Qj,SV]; rfl)
             | (rw [SV]; rfl)
         rw [e]
         exact HH hb (hB'.grown (grownBy_putObj' _ D _) hB'.size (fun k e=>by cases e; have:=hB1.size; omega)))
      | (intro x D W hx hD b4 b5 hB hK
         gi_wp2
         have gI:=h41.lt
         have agk:=h51.lt
         refine ⟨by simp,.inl ⟨_,_,rfl,run_takeDeferred hK,?_⟩⟩
         refine ⟨_,results131 _ _ _ _ x 0 rfl rfl (b4.kept (grownBy_putObj' _ D _) (fun e=>by cases e; omega)).cell (b5.kept (grownBy_putObj' _ D _) (fun e=>by cases e; omega)).cell,?_⟩
         have e:fc c day=(x,0):=by
           simp only [fc,hv,Dc,← yg]
           first
             | (rw [show min (ar (day+400)) 100000=100000 from by rw [Qj]; omega,hx]; rfl)
             | (rw [show min (ar (day+400)) 100000=day+400 from by rw [Qj]; omega,hx]; rfl)
             | (rw [Qj,hx]; rfl)
             | (rw [hx]; rfl)
         rw [e]
         exact HH hb (hB.grown (grownBy_putObj' _ D _) hB.size (fun k e=>by cases e; have:=hB1.size; omega)))
theorem IQ (c:kP):∀ (n:Nat) (d x:Int),wo c n d=some x→d≤x∧x < d+n
  | 0,_,_,h=>by simp [wo] at h
  | n+1,d,x,h=>by
    simp only [wo] at h
    cases ho:g7 c d with
    | true=>rw [ho] at h; simp only [cond_true,Option.some.injEq] at h; omega
    | false=>rw [ho] at h; have:=IQ c n (d+1) x h; omega
theorem ED (c:kP) (day:Int):(fun (x:Int × Int)=>x.2=0→day≤x.1∧x.1≤100000) (fc c day):=by
  dsimp only
  unfold fc
  cases hv:gp day with
  | false=>intro h; exact absurd (show (3:Int)=0 from h) (by decide)
  | true =>
    simp only [Bool.not_true,cond_false]
    cases hd:Dc c day (min (ar (day+400)) 100000) with
    | none=>intro h; exact absurd (show (3:Int)=0 from h) (by decide)
    | some d =>
      intro _
      have:=IQ c _ _ _ hd
      simp only
      omega
def mG (c:kP) (day:Int):il (Int × Int):=⟨Tryz.prog,131,[av c.cells,iv day],fun x=>.fD [iv x.1,iv x.2],true,fc c day,True,fun _=>HJ c day,fun x=>x.2=0→day≤x.1∧x.1≤100000,ED c day⟩
end
end
end Go.Proofs.YtonkchddcgcopaaGreatDoor
