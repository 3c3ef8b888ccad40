/- Functions, as sketches. -/
import Derived.Test.YtgmnlkccjlnnbaaGreatDoorLe
set_option linter.unusedSimpArgs false
set_option linter.unusedVariables false
set_option maxHeartbeats 1000000
set_option maxRecDepth 100000
namespace Go.Proofs.YtgmnlkccjlnnbaaGreatDoor
noncomputable section
open Go Go.Av
def mF (f:ar) (day:Int):Sk (View) :=
 .r 1 ((bT f day).c) fun x1 =>
 .r 2 (.o [.pq (mkM dB)]) fun _ =>
 .bt
 (.loop (default:Sum (View) ((List (Int × Bool)))) (fun i3=>i3.1≤x1.au.length) (fun i3=>x1.au.length - i3.1) ((0,([]:List (Int × Bool))):Nat × (List (Int × Bool)))
 (fun (i3:Nat × (List (Int × Bool)))=>⟨[(22,iv ((i3.1:Nat):Int))],[(17,ZJ dB i3.2)]⟩) fun i3 =>
 .lt 20 0 i3.1 x1.au.length
 (.r 5 (.p (bA ((i3.1:Nat):Int) x1.au.length)) fun _ =>
 .br (((x1.au.getD i3.1 default).kind) == 7)
 (.r 7 (.al (.t (A8 dB i3.2)) (.o [.pq (Wm dB i3.2 ((x1.au.getD i3.1 default).at_) true)])) fun _ =>
 .r 8 .z fun _ =>
 .wi 22 (aq (((i3.1:Nat):Int)+1)) ((i3.1+1:Nat):Int) <|
 .fin (.inr (i3.1+1,mL i3.2 ((x1.au.getD i3.1 default).at_) true)))
 (.nx 8 22 i3.1 (i3.1+1,i3.2)))
 (.fin (.inl (.inr i3.2))))
 (fun (b2:(List (Int × Bool)))=>⟨[],[(17,ZJ dB b2)]⟩) fun b2 =>
 .bind true (fun b4=>b4.length≤0+x1.ah.length)
 (.loop (default:Sum (View) ((List Int))) (fun i5=>i5.1≤x1.ah.length∧i5.2.length≤0+i5.1) (fun i5=>x1.ah.length - i5.1) ((0,[]):Nat × (List Int))
 (fun (i5:Nat × (List Int))=>⟨[(37,iv ((i5.1:Nat):Int))],[(100002,bg 3 1 bF i5.2),(5,.box (f.cells.map .d++x1.cells.map .d++[iv day,ow 100002 i5.2]))]⟩) fun i5 =>
 .lt 35 0 i5.1 x1.ah.length
 (.r 11 (.p (bA ((i5.1:Nat):Int) x1.ah.length)) fun _ =>
 .r 12 (.wh (((x1.ah.getD i5.1 default).kind) == 2) true (.al (.t (A8 dB b2)) (.o [.cast 48 (getM dB b2 ((i5.1:Nat):Int) false)]))) fun _ =>
 .br ((((x1.ah.getD i5.1 default).kind) == 2)&&(!(gp b2 ((i5.1:Nat):Int) false)))
 (.r 13 (.al (.o [.fc (fQ dr [(x1.ah.getD i5.1 default).part])]) (.al (.o [.fc (mV dr i5.2 [(x1.ah.getD i5.1 default).part])]) (.al (.t (dr.pB [(x1.ah.getD i5.1 default).part])) (.p (yw i5.2.length [(x1.ah.getD i5.1 default).part].length 8))))) fun _ =>
 .nx 14 37 i5.1 (i5.1+1,i5.2++[(x1.ah.getD i5.1 default).part]))
 (.nx 14 37 i5.1 (i5.1+1,i5.2)))
 (.fin (.inl (.inr i5.2))))
 (fun (b4:(List Int))=>⟨[],[(100001,bg 3 1 bF b4),(5,.box (f.cells.map .d++x1.cells.map .d++[iv day,ow 100001 b4]))]⟩) fun b4 =>
 .r 15 ((oV 100001 b4).c) fun x6 =>
 .wn 100001 b4.length x6.length <|
 .r 16 ((kS 100001 64 x6).c) fun x7 =>
 .br (((x7.length:Nat):Int) == 0)
 (.r 18 (.o [.fc (fQ dr [0])]) fun _ =>
 .fin ({ all:=f,now:=x1,day:=day,lead:=[0] }:View))
 (.fin ({ all:=f,now:=x1,day:=day,lead:=x7 }:View))
def bU f day:=(mF f day).val
theorem Bj (f:ar) (day:Int):(mF f day).cC (fun (x:View)=>x.all=f∧x.now=aB f day∧x.day=day∧x.lead.length≠0∧x.lead.length≤1+f.ah.length):=by
  unfold mF
  try simp only [bT,kS,oV,zV.c,xg.c,ar.Small,ai.Small]
  exact B7

theorem zy (f:ar) (day:Int):(fun (x:View)=>x.all=f∧x.now=aB f day∧x.day=day∧x.lead.length≠0∧x.lead.length≤1+f.ah.length) (bU f day):=have h:=Sk.cZ _ (Bj f day); h
theorem N0 (f:ar) (day:Int) (bm:f.Small):(mF f day).aZ (fun _=>True):=by
  simp only [ar.Small,ai.Small] at bm
  unfold mF
  try simp only [bT,kS,oV,zV.c,xg.c,ar.Small,ai.Small]
  exact mu

def z7 f day:=kp tok mixed Tryz.func52 [av f.cells,iv day] (fun x=>av x.cells) false (bU f day) (N0 f day) (Bj f day)
structure aM where
  known:Bool
  n:Int
  deriving Inhabited
def aM.cells (c:aM):List D:=[dB c.known,dI c.n]
def aM.E:Mi aM:=⟨aM.cells,2,fun _=>rfl,fun _=>rfl⟩
structure tn where
  cell:aM
  order:Int
  path:List Int
  err:Int
  deriving Inhabited
def tn.cells (c:tn):List D:=c.cell.cells++[dI c.order,lf bF c.path,dI c.err]
structure fj where
  file:ar
  sign:Int
  gZ:Int
  im:Int
  due:Int
  day:Int
  deriving Inhabited
def fj.cells (c:fj):List D:=c.file.cells++[dI c.sign,dI c.gZ,dI c.im,dI c.due,dI c.day]
def jT (a:cV) (v:fj):Sk (Bool) :=
 .fin (decide (a.at_≤v.sign))
def fg a v:=(jT a v).val
theorem sT (a:cV) (v:fj):fg a v=(decide (a.at_≤v.sign)):=rfl
theorem Bk (a:cV) (v:fj):(jT a v).aZ (fun _=>True):=by
  unfold jT
  exact mO

def ou a v:=kk tok mixed Tryz.func216 [av a.cells,.ref v.cells] (fun x=>bv x) true (jT a v) (fg a v) (u0 (Bk a v))
def dw (s:List cV) (v:fj):Sk (Int) :=
 .bind true (fun b1=>∀ q,q < s.length→fg (s.getD q default) v=false)
 (.loop (default:Sum (Int) (Unit)) (fun i2=>∀ q,q < i2→fg (s.getD q default) v=false) (fun i2=>s.length - i2) (0:Nat)
 (fun (i2:Nat)=>⟨[(8,iv ((i2:Nat):Int))],[]⟩) fun i2 =>
 .lt 0 0 i2 s.length
 (.r 4 (.al (.p (bA ((i2:Nat):Int) s.length)) ((ou (s.getD i2 default) v).c)) fun x3 =>
 .br x3
 (.fin (.inl (.inl ((i2:Nat):Int))))
 (.nx 6 8 i2 (i2+1)))
 (.fin (.inl (.inr ()))))
 (fun (_:Unit)=>⟨[],[]⟩) fun _ =>
 .fin (-1)
def xz s v:=(dw s v).val
theorem tp (s:List cV) (v:fj):(dw s v).cC (fun (x:Int)=>(x = -1∧∀ q,q < s.length→fg (s.getD q default) v=false)∨(0≤x∧x < s.length∧fg (s.getD x.toNat default) v=true∧∀ q,(q:Nat) < x.toNat→fg (s.getD q default) v=false)):=by
  unfold dw
  try simp only [ou,sT]
  exact O3

theorem ui (s:List cV) (v:fj):(dw s v).aZ (fun _=>True):=by
  unfold dw
  try simp only [ou,sT]
  exact wx

def ji s v:=kp tok mixed Tryz.func234 [lv cV.cells s,.fn 216 [.ref v.cells]] (fun x=>iv x) true (xz s v) (u0 (ui s v)) (tp s v)
def cL (s:List cV) (v:fj):Sk (Bool) :=
 .r 1 ((ji s v).c) fun x1 =>
 .fin (decide (x1≥0))
def uj s v:=(cL s v).val
theorem qE (s:List cV) (v:fj):(cL s v).cC (fun (x:Bool)=>(x=true↔∃ q,q < s.length∧fg (s.getD q default) v=true)):=by
  unfold cL
  try simp only [ji]
  exact B7

theorem rJ (s:List cV) (v:fj):(cL s v).aZ (fun _=>True):=by
  unfold cL
  try simp only [ji]
  exact mO

def gr s v:=kp tok mixed Tryz.func215 [lv cV.cells s,.fn 216 [.ref v.cells]] (fun x=>bv x) true (uj s v) (u0 (rJ s v)) (qE s v)
def sU (i:Int) (n:Int):Sk (Bool) :=
 .fin ((decide (i≥0))&&(decide (i < n)))
def N1 i n:=(sU i n).val
theorem gF (i:Int) (n:Int):N1 i n=((decide (i≥0))&&(decide (i < n))):=rfl
theorem N2 (i:Int) (n:Int):(sU i n).aZ (fun _=>True):=by
  unfold sU
  exact mO

def bR i n:=kk tok mixed Tryz.func183 [iv i,iv n] (fun x=>bv x) true (sU i n) (N1 i n) (u0 (N2 i n))
def kT (r:ai) (bQ:Int):Sk (Int) :=
 .r 1 ((bR bQ ((r.aK.length:Nat):Int)).c) fun x1 =>
 .br (!x1)
 (.fin (-1))
 (.r 3 (.p (bA bQ r.aK.length)) fun _ =>
 .fin ((r.aK.getD bQ.toNat default).order))
def IL r bQ:=(kT r bQ).val
theorem CM (r:ai) (bQ:Int):(kT r bQ).aZ (fun _=>True):=by
  unfold kT
  try simp only [bR,gF]
  exact wx

def ck r bQ:=kk tok mixed Tryz.func191 [av r.cells,iv bQ] (fun x=>iv x) true (kT r bQ) (IL r bQ) (u0 (CM r bQ))
def lN (IM:Bool):Sk (aM) :=
 .br IM
 (.fin ({ known:=true,n:=1 }:aM))
 (.fin ({ known:=true,n:=0 }:aM))
def Lz IM:=(lN IM).val
theorem Ee (IM:Bool):(lN IM).aZ (fun _=>True):=by
  unfold lN
  exact mO

def km IM:=kk tok mixed Tryz.func217 [bv IM] (fun x=>av x.cells) true (lN IM) (Lz IM) (u0 (Ee IM))
def nc (f:ar) (kind:Int) (at_:Int):Sk (aM) :=
 .bt
 (.loop (default:Sum (aM) (Unit)) (fun i2=>i2≤f.facts.length) (fun i2=>f.facts.length - i2) (0:Nat)
 (fun (i2:Nat)=>⟨[(12,iv ((i2:Nat):Int))],[]⟩) fun i2 =>
 .lt 10 0 i2 f.facts.length
 (.r 3 (.p (bA ((i2:Nat):Int) f.facts.length)) fun _ =>
 .br ((((f.facts.getD i2 default).kind) == kind)&&(((f.facts.getD i2 default).at_) == at_))
 (.r 5 ((km (((f.facts.getD i2 default).n) != 0)).c) fun x3 =>
 .fin (.inl (.inl x3)))
 (.nx 6 12 i2 (i2+1)))
 (.fin (.inl (.inr ()))))
 (fun (_:Unit)=>⟨[],[]⟩) fun _ =>
 .fin ({ known:=false,n:=0 }:aM)
def N3 f kind at_:=(nc f kind at_).val
theorem GM (f:ar) (kind:Int) (at_:Int):(nc f kind at_).aZ (fun _=>True):=by
  unfold nc
  try simp only [km]
  exact mu

def hX f kind at_:=kk tok mixed Tryz.func218 [av f.cells,iv kind,iv at_] (fun x=>av x.cells) true (nc f kind at_) (N3 f kind at_) (u0 (GM f kind at_))
def ko (r:ai) (c_:fj):Sk ((List aM)) :=
 .r 3 (.dep ((dm c_.sign ((c_.file.ah.length:Nat):Int)).c) fun x1=>.wh (((!x1)||(decide (c_.gZ < (-1))))||(decide ((bL c_.gZ 0)≥((c_.file.ah.length:Nat):Int)))) false (.wh (c_.due != (-1)) true ((dm c_.due 100001).c))) fun p25 =>
 .br ((((!p25.1)||(decide (c_.gZ < (-1))))||(decide ((bL c_.gZ 0)≥((c_.file.ah.length:Nat):Int))))||((c_.due != (-1))&&(!p25.2)))
 (.fin [])
 (.r 5 (.p (bA c_.sign c_.file.ah.length)) fun _ =>
 .r 6 ((dm ((c_.file.ah.getD c_.sign.toNat default).day) 100001).c) fun x3 =>
 .br (!x3)
 (.fin [])
 (.bind false (fun _=>True)
 (.br (c_.due != (-1))
 (.fin (.inr (aq (((c_.file.ah.getD c_.sign.toNat default).day) - c_.due))))
 (.fin (.inr 0)))
 (fun (b4:Int)=>⟨[(9,iv b4)],[]⟩) fun b4 =>
 .r 11 (.al (.o [.fc (mkC aM.E 20 ({ known:=false,n:=0 }:aM))]) (.p (Ti (20:Int) 16))) fun _ =>
 .r 12 (.al (.o [.pq aaL]) (.al (.o [.pq (aaK dI 0 c_.file.aH.sum)]) (.al (.o [.pq (Cr dI [0] [c_.file.aH.sum] rfl 1 c_.file.aH.parts)]) (.al (.o [.pq (Cr dI [0,1] [c_.file.aH.sum,c_.file.aH.parts] rfl 2 c_.file.aH.cU.kind)]) (.al (.o [.pq (Cr dI [0,1,2] [c_.file.aH.sum,c_.file.aH.parts,c_.file.aH.cU.kind] rfl 3 c_.file.aH.mW)]) (.al (.o [.pq (Cr dI [0,1,2,3] [c_.file.aH.sum,c_.file.aH.parts,c_.file.aH.cU.kind,c_.file.aH.mW] rfl 4 ((c_.file.ah.getD c_.sign.toNat default).kind))]) (.al (.o [.pq (Cr dI [0,1,2,3,4] [c_.file.aH.sum,c_.file.aH.parts,c_.file.aH.cU.kind,c_.file.aH.mW,(c_.file.ah.getD c_.sign.toNat default).kind] rfl 5 c_.im)]) (.o [.pq (Cr dI [0,1,2,3,4,5] [c_.file.aH.sum,c_.file.aH.parts,c_.file.aH.cU.kind,c_.file.aH.mW,(c_.file.ah.getD c_.sign.toNat default).kind,c_.im] rfl 6 b4)])))))))) fun _ =>
 .bind true (fun b5=>b5.length=20)
 (.mr 7 (fun g6=>g6.length=20) (List.replicate 20 ({ known:=false,n:=0 }:aM):(List aM))
 (fun g6 s8=>⟨[(10,ow 100002 g6)],[(100002,bg 71 2 aM.cells g6),(90,.it 74 7 s8)]⟩)
 (fun g9=>⟨[(10,ow 100002 g9)],[(100002,bg 71 2 aM.cells g9)]⟩)
 (fun g6 i7 =>
 .HZ <|
 .r 14 (.p (i7 < 7)) fun _ =>
 .r 15 (.al (.p (bA (([0,1,2,3,4,5,6]:List Int).getD i7 0) g6.length)) (.al (.o [.fc (sr aM.E g6 ((([0,1,2,3,4,5,6]:List Int).getD i7 0).toNat) ({ known:=true,n:=([c_.file.aH.sum,c_.file.aH.parts,c_.file.aH.cU.kind,c_.file.aH.mW,(c_.file.ah.getD c_.sign.toNat default).kind,c_.im,b4]:List Int).getD i7 default }:aM))]) (.p ((([0,1,2,3,4,5,6]:List Int).getD i7 0).toNat < g6.length)))) fun _ =>
 .wn 100002 g6.length (g6.set ((([0,1,2,3,4,5,6]:List Int).getD i7 0).toNat) ({ known:=true,n:=([c_.file.aH.sum,c_.file.aH.parts,c_.file.aH.cU.kind,c_.file.aH.mW,(c_.file.ah.getD c_.sign.toNat default).kind,c_.im,b4]:List Int).getD i7 default }:aM)).length <|
 .fin (g6.set ((([0,1,2,3,4,5,6]:List Int).getD i7 0).toNat) ({ known:=true,n:=([c_.file.aH.sum,c_.file.aH.parts,c_.file.aH.cU.kind,c_.file.aH.mW,(c_.file.ah.getD c_.sign.toNat default).kind,c_.im,b4]:List Int).getD i7 default }:aM))) fun g9 =>
 .H0 <|
 .fin (.inr g9))
 (fun (b5:(List aM))=>⟨[(90,.any),(10,ow 100001 b5)],[(100001,bg 71 2 aM.cells b5)]⟩) fun b5 =>
 .r 16 ((gr c_.file.aO c_).c) fun Mk =>
 .r 17 (.dep ((ck r c_.file.aH.bQ).c) fun _=>(ck r c_.file.aH.B8).c) fun Vy =>
 .r 18 (.al (.o [.pq aaL]) (.al (.o [.pq (aaK dB 7 ((dc .i64 c_.file.aH.flags 1) != 0))]) (.al (.o [.pq (Cr dB [7] [(dc .i64 c_.file.aH.flags 1) != 0] rfl 8 (c_.file.aH.bO == (-1)))]) (.al (.o [.pq (Cr dB [7,8] [(dc .i64 c_.file.aH.flags 1) != 0,c_.file.aH.bO == (-1)] rfl 9 ((dc .i64 c_.file.aH.flags 4) != 0))]) (.al (.o [.pq (Cr dB [7,8,9] [(dc .i64 c_.file.aH.flags 1) != 0,c_.file.aH.bO == (-1),(dc .i64 c_.file.aH.flags 4) != 0] rfl 10 ((dc .i64 c_.file.aH.flags 2) != 0))]) (.al (.o [.pq (Cr dB [7,8,9,10] [(dc .i64 c_.file.aH.flags 1) != 0,c_.file.aH.bO == (-1),(dc .i64 c_.file.aH.flags 4) != 0,(dc .i64 c_.file.aH.flags 2) != 0] rfl 11 (Vy.1 != Vy.2))]) (.al (.o [.pq (Cr dB [7,8,9,10,11] [(dc .i64 c_.file.aH.flags 1) != 0,c_.file.aH.bO == (-1),(dc .i64 c_.file.aH.flags 4) != 0,(dc .i64 c_.file.aH.flags 2) != 0,Vy.1 != Vy.2] rfl 12 Mk)]) (.al (.o [.pq (Cr dB [7,8,9,10,11,12] [(dc .i64 c_.file.aH.flags 1) != 0,c_.file.aH.bO == (-1),(dc .i64 c_.file.aH.flags 4) != 0,(dc .i64 c_.file.aH.flags 2) != 0,Vy.1 != Vy.2,Mk] rfl 13 ((dc .i64 ((c_.file.ah.getD c_.sign.toNat default).flags) 1) != 0))]) (.o [.pq (Cr dB [7,8,9,10,11,12,13] [(dc .i64 c_.file.aH.flags 1) != 0,c_.file.aH.bO == (-1),(dc .i64 c_.file.aH.flags 4) != 0,(dc .i64 c_.file.aH.flags 2) != 0,Vy.1 != Vy.2,Mk,(dc .i64 ((c_.file.ah.getD c_.sign.toNat default).flags) 1) != 0] rfl 14 (decide (b4 > 0)))]))))))))) fun _ =>
 .bind true (fun z8=>z8.length=20)
 (.mr 8 (fun g14=>g14.length=20) (b5:(List aM))
 (fun g14 s16=>⟨[(10,ow 100005 g14)],[(100005,bg 71 2 aM.cells g14),(139,.it 114 8 s16)]⟩)
 (fun g18=>⟨[(10,ow 100005 g18)],[(100005,bg 71 2 aM.cells g18)]⟩)
 (fun g14 i15 =>
 .HZ <|
 .r 20 (.p (i15 < 8)) fun _ =>
 .r 21 (.mM ((km (([(dc .i64 c_.file.aH.flags 1) != 0,c_.file.aH.bO == (-1),(dc .i64 c_.file.aH.flags 4) != 0,(dc .i64 c_.file.aH.flags 2) != 0,Vy.1 != Vy.2,Mk,(dc .i64 ((c_.file.ah.getD c_.sign.toNat default).flags) 1) != 0,decide (b4 > 0)]:List Bool).getD i15 default)).c) fun Vz=>.al (.p (bA (([7,8,9,10,11,12,13,14]:List Int).getD i15 0) g14.length)) (.al (.o [.fc (sr aM.E g14 ((([7,8,9,10,11,12,13,14]:List Int).getD i15 0).toNat) Vz)]) (.p ((([7,8,9,10,11,12,13,14]:List Int).getD i15 0).toNat < g14.length)))) fun Vz =>
 .wn 100005 g14.length (g14.set ((([7,8,9,10,11,12,13,14]:List Int).getD i15 0).toNat) Vz).length <|
 .fin (g14.set ((([7,8,9,10,11,12,13,14]:List Int).getD i15 0).toNat) Vz)) fun g18 =>
 .H0 <|
 .fin (.inr g18))
 (fun (z8:(List aM))=>⟨[(139,.any),(10,ow 100004 z8)],[(100004,bg 71 2 aM.cells z8)]⟩) fun z8 =>
 .r 22 (.mM ((hX c_.file 0 c_.sign).c) fun Fj=>.al (.p (bA (15:Int) z8.length)) (.al (.o [.fc (sr aM.E z8 15 Fj)]) (.p (15 < z8.length)))) fun Fj =>
 .wn 100004 z8.length (z8.set 15 Fj).length <|
 .r 23 (.mM ((hX c_.file 1 c_.sign).c) fun LA=>.al (.p (bA (16:Int) ((z8.set 15 Fj).length))) (.al (.o [.fc (sr aM.E (z8.set 15 Fj) 16 LA)]) (.p (16 < (z8.set 15 Fj).length)))) fun LA =>
 .wn 100004 (z8.set 15 Fj).length ((z8.set 15 Fj).set 16 LA).length <|
 .r 24 (.mM ((hX c_.file 2 c_.sign).c) fun Ru=>.al (.p (bA (17:Int) (((z8.set 15 Fj).set 16 LA).length))) (.al (.o [.fc (sr aM.E ((z8.set 15 Fj).set 16 LA) 17 Ru)]) (.p (17 < ((z8.set 15 Fj).set 16 LA).length)))) fun Ru =>
 .wn 100004 ((z8.set 15 Fj).set 16 LA).length (((z8.set 15 Fj).set 16 LA).set 17 Ru).length <|
 .r 25 (.mM ((hX c_.file 3 (bL c_.gZ 0)).c) fun WB=>.al (.p (bA (18:Int) ((((z8.set 15 Fj).set 16 LA).set 17 Ru).length))) (.al (.o [.fc (sr aM.E (((z8.set 15 Fj).set 16 LA).set 17 Ru) 18 WB)]) (.p (18 < (((z8.set 15 Fj).set 16 LA).set 17 Ru).length)))) fun WB =>
 .wn 100004 (((z8.set 15 Fj).set 16 LA).set 17 Ru).length ((((z8.set 15 Fj).set 16 LA).set 17 Ru).set 18 WB).length <|
 .r 26 (.mM ((hX c_.file 4 (bL c_.gZ 0)).c) fun x23=>.al (.p (bA (19:Int) (((((z8.set 15 Fj).set 16 LA).set 17 Ru).set 18 WB).length))) (.al (.o [.fc (sr aM.E ((((z8.set 15 Fj).set 16 LA).set 17 Ru).set 18 WB) 19 x23)]) (.p (19 < ((((z8.set 15 Fj).set 16 LA).set 17 Ru).set 18 WB).length)))) fun x23 =>
 .wn 100004 ((((z8.set 15 Fj).set 16 LA).set 17 Ru).set 18 WB).length (((((z8.set 15 Fj).set 16 LA).set 17 Ru).set 18 WB).set 19 x23).length <|
 .fin (((((z8.set 15 Fj).set 16 LA).set 17 Ru).set 18 WB).set 19 x23)))
def N4 r c_:=(ko r c_).val
theorem XD:(∀ i,i < 7→0≤([0,1,2,3,4,5,6]:List Int).getD i 0∧([0,1,2,3,4,5,6]:List Int).getD i 0 < 20)∧∀ i,i < 7→∀ j,j < 7→i≠j→(([0,1,2,3,4,5,6]:List Int).getD j 0).toNat≠(([0,1,2,3,4,5,6]:List Int).getD i 0).toNat:=by decide
theorem XE:(∀ i,i < 8→0≤([7,8,9,10,11,12,13,14]:List Int).getD i 0∧([7,8,9,10,11,12,13,14]:List Int).getD i 0 < 20)∧∀ i,i < 8→∀ j,j < 8→i≠j→(([7,8,9,10,11,12,13,14]:List Int).getD j 0).toNat≠(([7,8,9,10,11,12,13,14]:List Int).getD i 0).toNat:=by decide
theorem Ef (r:ai) (c_:fj):(ko r c_).cC (fun (x:(List aM))=>x=[]∨(x.length=20∧0≤c_.sign∧c_.sign < c_.file.ah.length)):=by
  refine Sk.aX _ ?_
  unfold ko
  simp only [Sk.cx,Sk.aI,reduceCtorEq,ON,kk,kp,ck,hX,km,dm,gr,iJ,forall_eq,maxLen]
  all_goals (repeat' first | assumption | (apply And.intro) | (intro h))
  all_goals first | trivial | assumption | omega | ((try simp only [LN] at *) <;> first | omega | (refine (aD ?_ ?_).trans ?_ <;> omega) | (simp (disch:=omega) only [aD] at *; omega) | (grind) | (simp_all; done) | (simp_all; omega))

theorem GN (r:ai) (c_:fj):(ko r c_).aZ (fun _=>True):=by
  refine Sk.aU _ ?_
  unfold ko
  simp only [Sk.jb,Sk.aI,reduceCtorEq,ON,kk,kp,Sk.cC,ck,hX,km,dm,gr,iJ,forall_eq,maxLen]
  all_goals (repeat' first | (apply And.intro) | (intro h))
  all_goals first | trivial | assumption | omega | (have:=XD.1 _ ‹_ < 7›; (try simp only [LN] at *) <;> omega) | (have:=XE.1 _ ‹_ < 8›; (try simp only [LN] at *) <;> omega) | exact List.set_comm _ _ (XD.2 _ ‹_› _ ‹_› ‹_›) | exact List.set_comm _ _ (XE.2 _ ‹_› _ ‹_› ‹_›) | ((try simp only [LN] at *) <;> omega)

def tq r c_:=kp tok mixed Tryz.func195 [av r.cells,av c_.cells] (fun x=>lv aM.cells x) false (N4 r c_) (u0 (GN r c_)) (Ef r c_)
def uk (r:ai) (c_:fj):Sk (fj × (List aM)) :=
 .r 1 ((bT c_.file c_.day).c) fun x1 =>
 .r 2 ((tq r ({ file:=x1,sign:=c_.sign,gZ:=c_.gZ,im:=c_.im,due:=c_.due,day:=c_.day }:fj)).c) fun x2 =>
 .fin (({ file:=x1,sign:=c_.sign,gZ:=c_.gZ,im:=c_.im,due:=c_.due,day:=c_.day }:fj),x2)
def YP r c_:=(uk r c_).val
theorem P9 (r:ai) (c_:fj):(uk r c_).cC (fun (x:fj × (List aM))=>x.2=[]∨(x.2.length=20∧0≤x.1.sign∧x.1.sign < x.1.file.ah.length)):=by
  unfold uk
  try simp only [bT,tq,ar.Small,ai.Small]
  exact B7

theorem SC (r:ai) (c_:fj) (hf:c_.file.Small):(uk r c_).aZ (fun _=>True):=by
  simp only [ar.Small,ai.Small] at hf
  unfold uk
  try simp only [bT,tq,ar.Small,ai.Small]
  exact mu

def GP r c_:=kp tok mixed Tryz.func155 [av r.cells,av c_.cells] (fun x=>.eD [av x.1.cells,lv aM.cells x.2]) false (YP r c_) (SC r c_) (P9 r c_)
theorem GQ {n:Nat} {g:Nat→Int} (h:∀ q,q < n→q≠0→g (q - 1)≤g q) (i:Nat):∀ k,i+k < n→g i≤g (i+k)
  | 0,_=>Int.le_refl _
  | k+1,hk=>Int.le_trans (GQ h i k (by omega)) (h (i+(k+1)) hk (by omega))
theorem Rv {α:Type} [Inhabited α] (p:α→Bool):∀ (l:List α) (i:Nat),i < l.length→(∀ q,q≤i→p (l.getD q default)=true)→i < (l.takeWhile p).length
  | [],i,h,_=>absurd h (by simp)
  | x :: r,i,h,hp=>by
    have h0:p x=true:=hp 0 (by omega)
    rw [List.takeWhile_cons,h0,if_pos rfl,List.length_cons]
    cases i with
    | zero=>omega
    | succ i=>have:=Rv p r i (by simpa using h) (fun q hq=>by have:=hp (q+1) (by omega); simpa using this); omega
theorem bX.mono {r:ai} {f:ar} (h:bX r f) {i j:Nat} (hij:i≤j) (hj:j < f.ah.length):(f.ah.getD i default).day≤(f.ah.getD j default).day:=by
  have:=GQ (n:=f.ah.length) (g:=fun q=>(f.ah.getD q default).day) (fun q hq h0=>(h.2.2.1 q hq).2.1 h0) i (j - i) (by omega)
  rwa [show i+(j - i)=j by omega] at this
theorem bX.US {r:ai} {f:ar} (h:bX r f) {d y:Int} (h0:0≤y) (h1:y < f.ah.length) (h2:(f.ah.getD y.toNat default).day≤d):y < (aB f d).ah.length:=by
  have:y.toNat < (aB f d).ah.length:=by
    rw [kR]
    refine Rv _ _ _ (by omega) (fun q hq=>decide_eq_true ?_)
    have:=h.mono hq (by omega)
    omega
  omega
theorem N5 (f:ar) (d:Int):(aB f d).aH=f.aH:=by rw [kR]
theorem Bl (f:ar) (d:Int) (i:Nat) (h:i < (aB f d).ah.length):(aB f d).ah.getD i default=f.ah.getD i default:=by
  rw [kR] at h ⊢
  exact (rI _ _ _ h).1
theorem nd (f:ar) (d:Int):(aB f d).ah.length≤f.ah.length:=by
  rw [kR]
  exact (List.takeWhile_sublist _).length_le
theorem Rw {f:ar} (h:f.mX) (d:Int):(aB f d).mX:=by
  obtain ⟨h1,h2,h3,h4⟩:=h
  have h2:=(ug (P:=fun x:cV=>dk x.sum)).1 h2
  have h3:=(ug (P:=fun x:Sign=>dk x.sum)).1 h3
  have h4:=(ug (P:=fun x:bC=>dk x.sum)).1 h4
  unfold ar.mX
  rw [kR]
  exact ⟨h1,(ug (P:=fun x:cV=>dk x.sum)).2 fun x hx=>h2 x (List.mem_filter.1 hx).1,(ug (P:=fun x:Sign=>dk x.sum)).2 fun x hx=>h3 x ((List.takeWhile_sublist _).subset hx),(ug (P:=fun x:bC=>dk x.sum)).2 fun x hx=>h4 x ((List.takeWhile_sublist _).subset hx)⟩
theorem bX.Rx {r:ai} {f:ar} (h:bX r f) (d:Int):(aB f d).mX:=Rw h.UK d
theorem xA {f:ar} (h:f.Small) (d:Int):(aB f d).Small:=by
  have h1:=rH f d
  unfold ar.Small at h ⊢
  dsimp only at h1
  omega
theorem bX.WC {r:ai} {f:ar} (h:bX r f) (d:Int):∀ i,i < (aB f d).ah.length→(((aB f d).ah.getD i default).kind=3∨((aB f d).ah.getD i default).kind=4)→0≤((aB f d).ah.getD i default).for_∧((aB f d).ah.getD i default).for_ < (i:Int):=by
  intro i hi
  rw [Bl f d i hi]
  have:=nd f d
  exact (h.2.2.1 i (by omega)).2.2.2.2.2.2.2.2
theorem bX.UT {r:ai} {f:ar} (h:bX r f) (d:Int) {y:Int} (h0:0≤y) (h1:y < (aB f d).ah.length):0≤((aB f d).ah.getD y.toNat default).dY∧((aB f d).ah.getD y.toNat default).dY < (r.aQ.length:Int):=by
  rw [Bl f d y.toNat (by omega)]
  have:=nd f d
  exact (h.2.2.1 y.toNat (by omega)).1
def jx (s:List Int) (v:Int):Sk (Int) :=
 .bind true (fun b1=>∀ q,q < s.length→(s.getD q default == v)=false)
 (.loop (default:Sum (Int) (Unit)) (fun i2=>∀ q,q < i2→(s.getD q default == v)=false) (fun i2=>s.length - i2) (0:Nat)
 (fun (i2:Nat)=>⟨[(8,iv ((i2:Nat):Int))],[]⟩) fun i2 =>
 .lt 0 0 i2 s.length
 (.r 4 (.p (bA ((i2:Nat):Int) s.length)) fun _ =>
 .br (v == (s.getD i2 default))
 (.fin (.inl (.inl ((i2:Nat):Int))))
 (.nx 6 8 i2 (i2+1)))
 (.fin (.inl (.inr ()))))
 (fun (_:Unit)=>⟨[],[]⟩) fun _ =>
 .fin (-1)
def LB s v:=(jx s v).val
theorem CN (s:List Int) (v:Int):(jx s v).cC (fun (x:Int)=>(x = -1∧∀ q,q < s.length→(s.getD q default == v)=false)∨(0≤x∧x < s.length∧(s.getD x.toNat default == v)=true∧∀ q,(q:Nat) < x.toNat→(s.getD q default == v)=false)):=by
  unfold jx
  exact B7

theorem Eg (s:List Int) (v:Int):(jx s v).aZ (fun _=>True):=by
  unfold jx
  exact mu

def rK s v:=kp tok mixed Tryz.func111 [lv bF s,iv v] (fun x=>iv x) true (LB s v) (u0 (Eg s v)) (CN s v)
def fY (s:List Int) (v:Int):Sk (Bool) :=
 .r 1 ((rK s v).c) fun x1 =>
 .fin (decide (x1≥0))
def bW s v:=(fY s v).val
theorem qg (s:List Int) (v:Int):(fY s v).cC (fun (x:Bool)=>(x=true↔∃ q,q < s.length∧(s.getD q default == v)=true)):=by
  unfold fY
  try simp only [rK]
  exact B7

theorem xB (s:List Int) (v:Int):(fun (x:Bool)=>(x=true↔∃ q,q < s.length∧(s.getD q default == v)=true)) (bW s v):=have h:=Sk.cZ _ (qg s v); h
theorem Aa (s:List Int) (v:Int):(fY s v).aZ (fun _=>True):=by
  unfold fY
  try simp only [rK]
  exact mO

def aF s v:=kp tok mixed Tryz.func59 [lv bF s,iv v] (fun x=>bv x) true (bW s v) (u0 (Aa s v)) (qg s v)
def oW (ask:Int):Sk (Int × Bool) :=
 .br ((decide (ask < 0))||(decide (ask≥22)))
 (.fin (0,false))
 (.r 3 (.al (.o [.fc (fQ dr [6,7,10,12,13,14,15,16,20,21])]) ((aF [6,7,10,12,13,14,15,16,20,21] ask).c)) fun x1 =>
 .br x1
 (.fin (0,true))
 (.fin (1,true)))
def Qa ask:=(oW ask).val
theorem IP (ask:Int):(oW ask).aZ (fun _=>True):=by
  unfold oW
  try simp only [aF]
  exact mO

def jj ask:=kk tok mixed Tryz.func156 [iv ask] (fun x=>.eD [iv x.1,bv x.2]) true (oW ask) (Qa ask) (u0 (IP ask))
def oX (r:ai) (forum:Int) (c_:fj):Sk ((List Int)) :=
 .r 1 (.p (bA c_.sign c_.file.ah.length)) fun _ =>
 .br ((((decide (((c_.file.ah.getD c_.sign.toNat default).dY) < 0))||(decide (((c_.file.ah.getD c_.sign.toNat default).dY)≥((r.aQ.length:Nat):Int))))||(decide (forum < 0)))||(decide (forum≥((r.aC.length:Nat):Int))))
 (.fin [])
 (.r 4 (.al (.o [.fc (mkC dr 5 0)]) (.p (Ti (5:Int) 8))) fun _ =>
 .r 5 (.al (.p (bA (0:Int) ((List.replicate 5 (0:Int)).length))) (.al (.o [.fc (sr dr (List.replicate 5 (0:Int)) 0 forum)]) (.p (0 < (List.replicate 5 (0:Int)).length)))) fun _ =>
 .wn 42 (List.replicate 5 (0:Int)).length ((List.replicate 5 (0:Int)).set 0 forum).length <|
 .r 6 (.mM ((ck r ((c_.file.ah.getD c_.sign.toNat default).bQ)).c) fun x1=>.al (.p (bA (1:Int) (((List.replicate 5 (0:Int)).set 0 forum).length))) (.al (.o [.fc (sr dr ((List.replicate 5 (0:Int)).set 0 forum) 1 x1)]) (.p (1 < ((List.replicate 5 (0:Int)).set 0 forum).length)))) fun x1 =>
 .wn 42 ((List.replicate 5 (0:Int)).set 0 forum).length (((List.replicate 5 (0:Int)).set 0 forum).set 1 x1).length <|
 .r 7 (.mM ((ck r c_.file.aH.B8).c) fun x2=>.al (.p (bA (2:Int) ((((List.replicate 5 (0:Int)).set 0 forum).set 1 x1).length))) (.al (.o [.fc (sr dr (((List.replicate 5 (0:Int)).set 0 forum).set 1 x1) 2 x2)]) (.p (2 < (((List.replicate 5 (0:Int)).set 0 forum).set 1 x1).length)))) fun x2 =>
 .wn 42 (((List.replicate 5 (0:Int)).set 0 forum).set 1 x1).length ((((List.replicate 5 (0:Int)).set 0 forum).set 1 x1).set 2 x2).length <|
 .r 8 (.mM ((ck r c_.file.aH.bQ).c) fun x3=>.al (.p (bA (3:Int) (((((List.replicate 5 (0:Int)).set 0 forum).set 1 x1).set 2 x2).length))) (.al (.o [.fc (sr dr ((((List.replicate 5 (0:Int)).set 0 forum).set 1 x1).set 2 x2) 3 x3)]) (.p (3 < ((((List.replicate 5 (0:Int)).set 0 forum).set 1 x1).set 2 x2).length)))) fun x3 =>
 .wn 42 ((((List.replicate 5 (0:Int)).set 0 forum).set 1 x1).set 2 x2).length (((((List.replicate 5 (0:Int)).set 0 forum).set 1 x1).set 2 x2).set 3 x3).length <|
 .r 9 (.al (.p (bA ((c_.file.ah.getD c_.sign.toNat default).dY) r.aQ.length)) (.mM ((ck r ((r.aQ.getD (((c_.file.ah.getD c_.sign.toNat default).dY).toNat) default).bQ)).c) fun x4=>.al (.p (bA (4:Int) ((((((List.replicate 5 (0:Int)).set 0 forum).set 1 x1).set 2 x2).set 3 x3).length))) (.al (.o [.fc (sr dr (((((List.replicate 5 (0:Int)).set 0 forum).set 1 x1).set 2 x2).set 3 x3) 4 x4)]) (.p (4 < (((((List.replicate 5 (0:Int)).set 0 forum).set 1 x1).set 2 x2).set 3 x3).length))))) fun x4 =>
 .wn 42 (((((List.replicate 5 (0:Int)).set 0 forum).set 1 x1).set 2 x2).set 3 x3).length ((((((List.replicate 5 (0:Int)).set 0 forum).set 1 x1).set 2 x2).set 3 x3).set 4 x4).length <|
 .r 10 ((aF ((((((List.replicate 5 (0:Int)).set 0 forum).set 1 x1).set 2 x2).set 3 x3).set 4 x4) (-1)).c) fun x5 =>
 .br x5
 (.fin [])
 (.fin ((((((List.replicate 5 (0:Int)).set 0 forum).set 1 x1).set 2 x2).set 3 x3).set 4 x4)))
def Qb r forum c_:=(oX r forum c_).val
theorem IQ (r:ai) (forum:Int) (c_:fj) (hs:0≤c_.sign∧c_.sign < c_.file.ah.length):(oX r forum c_).aZ (fun _=>True):=by
  unfold oX
  try simp only [ck,aF]
  exact mu

def vt r forum c_:=kk tok mixed Tryz.func157 [av r.cells,iv forum,av c_.cells] (fun x=>.d (bif x.isEmpty then .v (.slice none 0 0) else lf bF x)) false (oX r forum c_) (Qb r forum c_) (IQ r forum c_)
def iq (o:Int) (v:Int):Sk (Bool) :=
 .fin ((decide (o < 0))||(decide (o≥v)))
def dx o v:=(iq o v).val
theorem lq (o:Int) (v:Int):dx o v=((decide (o < 0))||(decide (o≥v))):=rfl
theorem yO (o:Int) (v:Int):(iq o v).aZ (fun _=>True):=by
  unfold iq
  exact mO

def mb o v:=kk tok mixed Tryz.func220 [iv o,.ref [dI v]] (fun x=>bv x) true (iq o v) (dx o v) (u0 (yO o v))
def dy (s:List Int) (v:Int):Sk (Int) :=
 .bind true (fun b1=>∀ q,q < s.length→dx (s.getD q default) v=false)
 (.loop (default:Sum (Int) (Unit)) (fun i2=>∀ q,q < i2→dx (s.getD q default) v=false) (fun i2=>s.length - i2) (0:Nat)
 (fun (i2:Nat)=>⟨[(8,iv ((i2:Nat):Int))],[]⟩) fun i2 =>
 .lt 0 0 i2 s.length
 (.r 4 (.al (.p (bA ((i2:Nat):Int) s.length)) ((mb (s.getD i2 default) v).c)) fun x3 =>
 .br x3
 (.fin (.inl (.inl ((i2:Nat):Int))))
 (.nx 6 8 i2 (i2+1)))
 (.fin (.inl (.inr ()))))
 (fun (_:Unit)=>⟨[],[]⟩) fun _ =>
 .fin (-1)
def xC s v:=(dy s v).val
theorem tu (s:List Int) (v:Int):(dy s v).cC (fun (x:Int)=>(x = -1∧∀ q,q < s.length→dx (s.getD q default) v=false)∨(0≤x∧x < s.length∧dx (s.getD x.toNat default) v=true∧∀ q,(q:Nat) < x.toNat→dx (s.getD q default) v=false)):=by
  unfold dy
  try simp only [mb,lq]
  exact O3

theorem um (s:List Int) (v:Int):(dy s v).aZ (fun _=>True):=by
  unfold dy
  try simp only [mb,lq]
  exact wx

def jl s v:=kp tok mixed Tryz.func235 [lv bF s,.fn 220 [.ref [dI v]]] (fun x=>iv x) true (xC s v) (u0 (um s v)) (tu s v)
def cM (s:List Int) (v:Int):Sk (Bool) :=
 .r 1 ((jl s v).c) fun x1 =>
 .fin (decide (x1≥0))
def uo s v:=(cM s v).val
theorem qF (s:List Int) (v:Int):(cM s v).cC (fun (x:Bool)=>(x=true↔∃ q,q < s.length∧dx (s.getD q default) v=true)):=by
  unfold cM
  try simp only [jl]
  exact B7

theorem rL (s:List Int) (v:Int):(cM s v).aZ (fun _=>True):=by
  unfold cM
  try simp only [jl]
  exact mO

def eo s v:=kp tok mixed Tryz.func219 [lv bF s,.fn 220 [.ref [dI v]]] (fun x=>bv x) true (uo s v) (u0 (rL s v)) (qF s v)
def fR (r:ai) (order:Int) (ask:Int) (places:List Int):Sk (Bool) :=
 .br (((((decide (order < 0))||(decide (order≥((r.aC.length:Nat):Int))))||(decide (ask < 0)))||(decide (ask≥22)))||(((places.length:Nat):Int) != 5))
 (.fin false)
 (.r 4 ((eo places ((r.aC.length:Nat):Int)).c) fun x1 =>
 .fin (!x1))
def lD r order ask places:=(fR r order ask places).val
theorem Bm (r:ai) (order:Int) (ask:Int) (places:List Int):(fR r order ask places).cC (fun (x:Bool)=>x=true→0≤order∧order < r.aC.length∧places.length=5∧∀ i,i < 5→0≤places.getD i default∧places.getD i default < r.aC.length):=by
  refine Sk.aX _ ?_
  unfold fR
  simp only [Sk.cx,Sk.aI,reduceCtorEq,ON,kk,kp,eo,maxLen]
  all_goals (repeat' first | (apply And.intro) | (intro h))
  all_goals first | trivial | (simp at *; done) | (simp only [LN] at *; omega) | (simp only [LN] at *; grind [lq])

theorem CO (r:ai) (order:Int) (ask:Int) (places:List Int):(fR r order ask places).aZ (fun _=>True):=by
  unfold fR
  try simp only [eo]
  exact mO

def gx r order ask places:=kp tok mixed Tryz.func196 [av r.cells,iv order,iv ask,lv bF places] (fun x=>bv x) true (lD r order ask places) (u0 (CO r order ask places)) (Bm r order ask places)
def gG (r:ai) (order:Int) (ask:Int) (places:List Int):Sk (Int × Bool) :=
 .r 1 ((gx r order ask places).c) fun x1 =>
 .br (!x1)
 (.fin ((-1),false))
 (.r 3 (.p (bA order r.aC.length)) fun _ =>
 .bt
 (.loop (default:Sum (Int × Bool) (Unit)) (fun i3=>i3≤((r.aC.getD order.toNat default).aP).length) (fun i3=>((r.aC.getD order.toNat default).aP).length - i3) (0:Nat)
 (fun (i3:Nat)=>⟨[(25,iv ((i3:Nat):Int))],[]⟩) fun i3 =>
 .lt 23 0 i3 (((r.aC.getD order.toNat default).aP).length)
 (.r 5 (.p (bA ((i3:Nat):Int) (((r.aC.getD order.toNat default).aP).length))) fun _ =>
 .br ((((((r.aC.getD order.toNat default).aP).getD i3 default).ask) == ask)&&(((((r.aC.getD order.toNat default).aP).getD i3 default).cj) != 0))
 (.r 7 (.p (bA ((((r.aC.getD order.toNat default).aP).getD i3 default).cj) places.length)) fun _ =>
 .fin (.inl (.inl (places.getD (((((r.aC.getD order.toNat default).aP).getD i3 default).cj).toNat) default,(((r.aC.getD order.toNat default).aP).getD i3 default).whole))))
 (.nx 8 25 i3 (i3+1)))
 (.fin (.inl (.inr ()))))
 (fun (_:Unit)=>⟨[],[]⟩) fun _ =>
 .fin (order,false))
def GR r order ask places:=(gG r order ask places).val
theorem Ko {l:List Int} {n:Nat} (h0:0 < n) (h:∀ i,i < 5→0≤l.getD i default∧l.getD i default < n) (hl:l.length=5) (k:Nat):0≤l.getD k default∧l.getD k default < n:=by
  by_cases c:k < 5
  · exact h k c
  · have:l.getD k default=0:=by simp [List.getD,List.getElem?_eq_none (by omega:l.length≤k)]
    rw [this]; omega
theorem qh {r:ai} {a b ask:Int} {places:List Int} (h:lD r a ask places=true) (hb:0≤b∧b < r.aC.length):lD r b ask places=true:=by
  simp only [lD,fR,Sk.val,gV.c,kk,kp,eo] at h ⊢
  revert h
  simp only [Bool.cond_eq_ite]
  split
  · intro h; cases h
  · rename_i h1
    intro h
    rw [if_neg]
    · exact h
    · simp only [Bool.or_eq_true,decide_eq_true_eq,not_or] at h1 ⊢
      exact ⟨⟨⟨⟨by omega,by omega⟩,h1.1.1.2⟩,h1.1.2⟩,h1.2⟩
theorem Ab (r:ai) (order:Int) (ask:Int) (places:List Int):(gG r order ask places).cC (fun (x:Int × Bool)=>lD r order ask places=true→0≤x.1∧x.1 < r.aC.length):=by
  refine Sk.aX _ ?_
  unfold gG
  simp only [Sk.cx,Sk.aI,reduceCtorEq,ON,kk,kp,gx,ai.ca,maxLen]
  all_goals (repeat' first | (apply And.intro) | (intro h))
  all_goals first | trivial | omega | (simp only [LN] at *; first | omega | (exact (Ko (n:=r.aC.length) (by grind) (by grind) (by grind) _).1) | (exact (Ko (n:=r.aC.length) (by grind) (by grind) (by grind) _).2) | grind)

theorem Bn (r:ai) (order:Int) (ask:Int) (places:List Int) (hb:r.ca):(gG r order ask places).aZ (fun _=>True):=by
  simp only [ai.ca] at hb
  unfold gG
  try simp only [gx,ai.ca]
  exact mu

def ov r order ask places:=kp tok mixed Tryz.func197 [av r.cells,iv order,iv ask,lv bF places] (fun x=>.eD [iv x.1,bv x.2]) true (GR r order ask places) (Bn r order ask places) (Ab r order ask places)
def nf (n:Nat) (l:List Int):Prop:=l.length≠0∧l.Nodup∧∀ x,x∈l→0≤x∧x < n
theorem nf.le {n:Nat} {l:List Int} (h:nf n l):l.length≤n:=by
  have h1:=List.Nodup.length_le_of_subset (l₁:=l) (l₂:=(List.range n).map Int.ofNat) h.2.1 (fun x hx=>by
    have:=h.2.2 x hx
    exact List.mem_map.2 ⟨x.toNat,List.mem_range.2 (by omega),by simp; omega⟩)
  simpa using h1
theorem nf.get {n:Nat} {l:List Int} (h:nf n l) (k:Nat):0≤l.getD k default∧l.getD k default < n:=by
  by_cases hk:k < l.length
  · have e:l.getD k default=l[k]:=by simp [List.getD,hk]
    rw [e]
    exact h.2.2 _ (List.getElem_mem hk)
  · have e:l.getD k default=0:=by simp [List.getD,List.getElem?_eq_none (by omega:l.length≤k)]
    have:=h.le
    have:=h.1
    rw [e]
    omega
theorem nf.XF {n:Nat} {l:List Int} (h:nf n l) {x:Int} (hx:0≤x∧x < n):∀ y,y∈l++[x]→0≤y∧y < n:=fun y hy=>by
  rcases List.mem_append.1 hy with h1 | h1
  · exact h.2.2 y h1
  · simp only [List.mem_singleton] at h1; subst h1; exact hx
theorem nf.snoc {n:Nat} {l:List Int} (h:nf n l) {x:Int} (hx:0≤x∧x < n) (hn:¬ ∃ q,q < l.length∧(l.getD q default == x)=true):nf n (l++[x]):=by
  refine ⟨by simp,?_,h.XF hx⟩
  refine List.nodup_append.2 ⟨h.2.1,by simp,fun a ha b hb e=>?_⟩
  simp only [List.mem_singleton] at hb
  subst hb; subst e
  obtain ⟨q,hq,e⟩:=List.getElem_of_mem ha
  exact hn ⟨q,hq,by simp [List.getD,hq,e]⟩
theorem nf.one {n:Nat} {x:Int} (hx:0≤x∧x < n):nf n [x]:=⟨by simp,by simp,fun y hy=>by simp only [List.mem_singleton] at hy; subst hy; exact hx⟩
def jy (r:ai) (forum:Int) (ask:Int) (places:List Int):Sk ((List Int) × Int) :=
 .r 1 (.mM ((gx r forum ask places).c) fun x1=>.wh (!x1) false (.p (bA (0:Int) places.length))) fun x1 =>
 .br ((!x1)||((places.getD 0 default) != forum))
 (.fin ([],1))
 (.r 3 (.o [.fc (fQ dr [forum])]) fun _ =>
 .loop (default:(List Int) × Int) (fun i2=>nf r.aC.length i2) (fun i2=>r.aC.length+1 - i2.length) ([forum]:(List Int))
 (fun (i2:(List Int))=>⟨[(10,ow 100001 i2)],[(100001,bg 3 1 bF i2)]⟩) fun i2 =>
 .r 4 (.al (.p (bA (aq (((i2.length:Nat):Int) - 1)) i2.length)) (.p ((aq (((i2.length:Nat):Int) - 1)).toNat < i2.length))) fun _ =>
 .r 5 ((ov r (i2.getD ((aq (((i2.length:Nat):Int) - 1)).toNat) default) ask places).c) fun x3 =>
 .br (x3.1 == (i2.getD ((aq (((i2.length:Nat):Int) - 1)).toNat) default))
 (.fin (.inl (i2,0)))
 (.r 8 ((aF i2 x3.1).c) fun x4 =>
 .r 9 (.al (.o [.fc (fQ dr [x3.1])]) (.al (.o [.fc (mV dr i2 [x3.1])]) (.al (.t (dr.pB [x3.1])) (.p (yw i2.length [x3.1].length 8))))) fun _ =>
 .r 10 (.wh (!x3.2) false (.wh x4 true (.p (bA x3.1 r.aC.length)))) fun _ =>
 .br ((!x3.2)||(x4&&((r.aC.getD x3.1.toNat default).Fi)))
 (.fin (.inl (i2++[x3.1],0)))
 (.br x4
 (.fin (.inl (i2++[x3.1],12)))
 (.fin (.inr (i2++[x3.1]))))))
def LC r forum ask places:=(jy r forum ask places).val
theorem CP (r:ai) (forum:Int) (ask:Int) (places:List Int):(jy r forum ask places).cC (fun (x:(List Int) × Int)=>x.2=0→x.1.length≠0∧(∀ y,y∈x.1→0≤y∧y < r.aC.length)∧x.1.length≤r.aC.length+1):=by
  refine Sk.aX _ ?_
  unfold jy
  simp only [Sk.cx,Sk.aI,reduceCtorEq,ON,kk,kp,ov,gx,aF,ar.Small,ai.Small,ai.ca,maxLen]
  intro x hx hp
  refine ⟨fun _ h=>by omega,fun hc _=>?_⟩
  have Ea:x=true:=by simp at hc; exact hc.1
  obtain ⟨h1,h2,h3,h4⟩:=hp Ea
  refine ⟨nf.one ⟨h1,h2⟩,fun i hi _ y hy hy2=>?_⟩
  have hy3:=hy2 (qh (hx ▸ Ea) (hi.get _))
  have hle:=hi.le
  refine ⟨fun _=>⟨hi.1,hi.2.2,by omega⟩,fun _ z hz hz2 _ _=>⟨fun _=>⟨by simp,hi.XF hy3,by simp; omega⟩,fun _=>⟨fun _ h=>by omega,fun hz3=>?_⟩⟩⟩
  have hs:=hi.snoc hy3 (by rw [← hz2,hz3]; simp)
  have:=hs.le
  simp only [List.length_append,List.length_cons,List.length_nil] at this ⊢
  exact ⟨hs,by omega⟩

theorem Eh (r:ai) (forum:Int) (ask:Int) (places:List Int) (hb:r.ca) (hr:r.Small):(jy r forum ask places).aZ (fun _=>True):=by
  simp only [ar.Small,ai.Small,ai.ca] at hb
  simp only [ar.Small,ai.Small,ai.ca] at hr
  refine Sk.aU _ ?_
  unfold jy
  simp only [Sk.jb,Sk.aI,reduceCtorEq,ON,kk,kp,ov,gx,aF,ar.Small,ai.Small,ai.ca,maxLen]
  refine ⟨fun x hx hp Ea=>?_,fun x hx hp hc _=>?_⟩
  · have:=hp (by simpa using Ea); omega
  have Ea:x=true:=by simp at hc; exact hc.1
  obtain ⟨h1,h2,h3,h4⟩:=hp Ea
  refine ⟨nf.one ⟨h1,h2⟩,fun i hi=>?_⟩
  have hle:=hi.le
  have qW:=hi.1
  have hw:aq ((i.length:Int) - 1)=(i.length:Int) - 1:=aD (by omega) (by omega)
  rw [hw]
  refine ⟨⟨⟨by omega,by omega⟩,by omega⟩,fun _=>⟨hb,fun y hy hy2 adQ z hz hz2=>?_⟩⟩
  have hy3:=hy2 (qh (hx ▸ Ea) (hi.get _))
  refine ⟨⟨by simp only [List.length_cons,List.length_nil]; omega,by simp only [List.length_cons,List.length_nil]; omega⟩,fun _=>⟨fun _ _=>hy3,fun _ _ hz3=>?_⟩⟩
  have hs:=hi.snoc hy3 (by rw [← hz2,hz3]; simp)
  have:=hs.le
  simp only [List.length_append,List.length_cons,List.length_nil] at this ⊢
  exact ⟨hs,by omega⟩

def rM r forum ask places:=kp tok mixed Tryz.func158 [av r.cells,iv forum,iv ask,lv bF places] (fun x=>.eD [lv bF x.1,iv x.2]) false (LC r forum ask places) (u2 (Eh r forum ask places)) (CP r forum ask places)
theorem Ry {n:Nat} {l:List Int} (h1:l.length≠0) (h2:∀ y,y∈l→0≤y∧y < (n:Int)) (k:Nat):0≤l.getD k default∧l.getD k default < n:=by
  by_cases hk:k < l.length
  · have e:l.getD k default=l[k]:=by simp [List.getD,hk]
    rw [e]
    exact h2 _ (List.getElem_mem hk)
  · have e:l.getD k default=0:=by simp [List.getD,List.getElem?_eq_none (by omega:l.length≤k)]
    have h3:=h2 l[0] (List.getElem_mem (by omega))
    rw [e]
    omega
def pJ (r:ai) (forum:Int) (aN:Int) (c_:fj):Sk (tn × (List aM)) :=
 .r 2 ((GP r c_).c) fun x1 =>
 .br (((x1.2.length:Nat):Int) == 0)
 (.fin (({ cell:=({ known:=false,n:=0 }:aM),order:=(-1),path:=[],err:=1 }:tn),[]))
 (.r 5 ((jj aN).c) fun x2 =>
 .br (!x2.2)
 (.fin (({ cell:=({ known:=false,n:=0 }:aM),order:=(-1),path:=[],err:=1 }:tn),[]))
 (.r 8 ((vt r forum x1.1).c) fun x3 =>
 .Q7 14 x3.isEmpty nv (lv bF x3)
 (.HZ <|
 .fin (({ cell:=({ known:=false,n:=0 }:aM),order:=(-1),path:=[],err:=1 }:tn),[]))
 (.r 9 (.p (x3.length≠0)) fun _ =>
 .H0 <|
 .r 11 ((rM r forum aN x3).c) fun x4 =>
 .br (x4.2 == 0)
 (.r 13 (.p (bA (aq (((x4.1.length:Nat):Int) - 1)) x4.1.length)) fun _ =>
 .fin (({ cell:=({ known:=false,n:=0 }:aM),order:=x4.1.getD ((aq (((x4.1.length:Nat):Int) - 1)).toNat) default,path:=x4.1,err:=x4.2 }:tn),x1.2))
 (.fin (({ cell:=({ known:=false,n:=0 }:aM),order:=(-1),path:=x4.1,err:=x4.2 }:tn),x1.2)))))
def UU r forum aN c_:=(pJ r forum aN c_).val
theorem LD (r:ai) (forum:Int) (aN:Int) (c_:fj):(pJ r forum aN c_).cC (fun (x:tn × (List aM))=>x.1.order = -1∨(0≤x.1.order∧x.1.order < r.aC.length∧x.2.length=20)):=by
  refine Sk.aX _ ?_
  unfold pJ
  simp only [Sk.cx,Sk.aI,reduceCtorEq,ON,kk,kp,GP,vt,rM,jj,ar.Small,ai.Small,ai.ca,maxLen]
  intro x hx hp
  refine ⟨fun _=>.inl trivial,fun hc x1 _=>⟨fun _=>.inl trivial,fun _ x2 _=>⟨fun _=>.inl trivial,fun _ _ x4 _ hl=>⟨fun h0 _=>.inr ?_,fun _=>.inl trivial⟩⟩⟩⟩
  obtain ⟨h1,h2,h3⟩:=hl (by simpa using h0)
  have h20:x.2.length=20:=by
    rcases hp with h | h
    · rw [h] at hc; simp at hc
    · exact h.1
  exact ⟨(Ry h1 h2 _).1,(Ry h1 h2 _).2,h20⟩

theorem N6 (r:ai) (forum:Int) (aN:Int) (c_:fj) (hf:c_.file.Small) (hb:r.ca) (hr:r.Small):(pJ r forum aN c_).aZ (fun _=>True):=by
  simp only [ar.Small,ai.Small,ai.ca] at hf
  simp only [ar.Small,ai.Small,ai.ca] at hb
  simp only [ar.Small,ai.Small,ai.ca] at hr
  refine Sk.aU _ ?_
  unfold pJ
  simp only [Sk.jb,Sk.aI,reduceCtorEq,ON,kk,kp,GP,vt,rM,jj,ar.Small,ai.Small,ai.ca,maxLen]
  refine ⟨hf,fun x hx hp hc x1 _ _=>?_⟩
  have VL:x.2.length=20∧0≤x.1.sign∧x.1.sign < x.1.file.ah.length:=by
    rcases hp with h | h
    · rw [h] at hc; simp at hc
    · exact h
  refine ⟨VL.2,fun x2 _ he=>⟨fun h=>by simp [List.length_eq_zero_iff.1 h] at he,fun _=>⟨⟨hb,hr⟩,fun x4 _ hl h0=>?_⟩⟩⟩
  obtain ⟨h1,h2,h3⟩:=hl (by simpa using h0)
  rw [aD (by omega) (by omega)]
  omega

def GS r forum aN c_:=kp tok mixed Tryz.func120 [av r.cells,iv forum,iv aN,av c_.cells] (fun x=>.eD [av x.1.cells,lv aM.cells x.2]) false (UU r forum aN c_) (u3 (N6 r forum aN c_)) (LD r forum aN c_)
def kU (r:rA) (v:Int):Sk (Bool) :=
 .fin (r.ask == v)
def hZ r v:=(kU r v).val
theorem uq (r:rA) (v:Int):hZ r v=(r.ask == v):=rfl
theorem CQ (r:rA) (v:Int):(kU r v).aZ (fun _=>True):=by
  unfold kU
  exact mO

def pU r v:=kk tok mixed Tryz.func199 [av r.cells,.ref [dI v]] (fun x=>bv x) true (kU r v) (hZ r v) (u0 (CQ r v))
def dz (s:List rA) (v:Int):Sk (Int) :=
 .bind true (fun b1=>∀ q,q < s.length→hZ (s.getD q default) v=false)
 (.loop (default:Sum (Int) (Unit)) (fun i2=>∀ q,q < i2→hZ (s.getD q default) v=false) (fun i2=>s.length - i2) (0:Nat)
 (fun (i2:Nat)=>⟨[(8,iv ((i2:Nat):Int))],[]⟩) fun i2 =>
 .lt 0 0 i2 s.length
 (.r 4 (.al (.p (bA ((i2:Nat):Int) s.length)) ((pU (s.getD i2 default) v).c)) fun x3 =>
 .br x3
 (.fin (.inl (.inl ((i2:Nat):Int))))
 (.nx 6 8 i2 (i2+1)))
 (.fin (.inl (.inr ()))))
 (fun (_:Unit)=>⟨[],[]⟩) fun _ =>
 .fin (-1)
def xD s v:=(dz s v).val
theorem tv (s:List rA) (v:Int):(dz s v).cC (fun (x:Int)=>(x = -1∧∀ q,q < s.length→hZ (s.getD q default) v=false)∨(0≤x∧x < s.length∧hZ (s.getD x.toNat default) v=true∧∀ q,(q:Nat) < x.toNat→hZ (s.getD q default) v=false)):=by
  unfold dz
  try simp only [pU,uq]
  exact O3

theorem ur (s:List rA) (v:Int):(dz s v).aZ (fun _=>True):=by
  unfold dz
  try simp only [pU,uq]
  exact wx

def nh s v:=kp tok mixed Tryz.func198 [lv rA.cells s,.fn 199 [.ref [dI v]]] (fun x=>iv x) true (xD s v) (u0 (ur s v)) (tv s v)
def pV (rv:Term→Int→Int) (rp:Term→Int→Prop) (rf:∀ (t:Term) (level:Int),rp t level→fA Tryz.prog 221 [av t.cells,iv level] [] (iv (rv t level)) []) (t:Term) (level:Int):gV (Int):=⟨Tryz.prog,221,[av t.cells,iv level],fun x=>iv x,true,rv t level,rp t level,rf t level,fun _=>True,trivial⟩
def dn (rv:Term→Int→Int) (rp:Term→Int→Prop) (rf:∀ (t:Term) (level:Int),rp t level→fA Tryz.prog 221 [av t.cells,iv level] [] (iv (rv t level)) []) (t:Term) (level:Int):Sk (Int) :=
 .br (decide (level > 8))
 (.fin 61)
 (.bind true (fun b1=>∀ B:Int,1≤B→B≤1000000→(∀ q,q < t.args.length→1≤rv (t.args.getD q default) (aq (level+1))∧rv (t.args.getD q default) (aq (level+1))≤B)→(1:Int)≤b1∧b1≤60+B∧(b1≤60→t.args.length≤60∧∀ q,q < t.args.length→rv (t.args.getD q default) (aq (level+1))≤60))
 (.loop (default:Sum (Int) (Int)) (fun i2=>i2.2≤t.args.length∧(∀ B:Int,1≤B→B≤1000000→(∀ q,q < t.args.length→1≤rv (t.args.getD q default) (aq (level+1))∧rv (t.args.getD q default) (aq (level+1))≤B)→(1+(i2.2:Int))≤i2.1∧i2.1≤60∧∀ q,q < i2.2→rv (t.args.getD q default) (aq (level+1))≤60)) (fun i2=>t.args.length - i2.2) ((1,0):Int × Nat)
 (fun (i2:Int × Nat)=>⟨[(5,iv i2.1),(13,iv ((i2.2:Nat):Int))],[]⟩) fun i2 =>
 .lt 11 0 i2.2 t.args.length
 (.r 6 (.al (.p (bA ((i2.2:Nat):Int) t.args.length)) (.o [.cast 15 (Wn (Term.Gm (t.args.getD i2.2 default)))])) fun _ =>
 .r 7 ((pV rv rp rf (t.args.getD i2.2 default) (aq (level+1))).c) fun x3 =>
 .br (decide ((aq (i2.1+x3)) > 60))
 (.fin (.inl (.inr (aq (i2.1+x3)))))
 (.nx 9 13 i2.2 (aq (i2.1+x3),i2.2+1)))
 (.fin (.inl (.inr i2.1))))
 (fun (b1:Int)=>⟨[(5,iv b1)],[]⟩) fun b1 =>
 .fin b1)
def bu:Nat→Term→Int→Int
  | 0,_,_=>default
  | fu+1,t,level=>(dn (bu fu) (fun _ _=>False) (fun _ _=>fun h=>h.elim) t level).val
/-- no node has too many parts -/
inductive CR:Term→Prop
  | mk {t:Term} (h:t.args.length≤60) (h2:∀ q,q < t.args.length→CR (t.args.getD q default)):CR t
theorem Ei (fu:Nat) (rf:∀ (t:Term) (level:Int),t.depth≤fu∧True→fA Tryz.prog 221 [av t.cells,iv level] [] (iv (bu fu t level)) []) (t:Term) (level:Int) (hm:t.depth≤fu+1):(dn (bu fu) (fun t level=>t.depth≤fu∧True) rf t level).aZ (fun _=>True):=by
  refine Sk.aU _ ?_
  unfold dn
  simp only [Sk.jb,Sk.aI,reduceCtorEq,ON,kk,kp,pV,maxLen]
  intro Qc
  have Qc:level≤8:=by simp only [LN] at Qc; exact Qc
  refine ⟨⟨Nat.zero_le _,fun B _ _ _=>⟨by omega,by omega,fun q hq=>absurd hq (by omega)⟩⟩,fun i hi hlen=>⟨fun hc=>⟨⟨by omega,of_decide_eq_true hc⟩,fun _=>⟨?_,fun x hx=>⟨fun hb B b1 b2 hq=>?_,fun hb _=>⟨?_,⟨?_,fun B b1 b2 hq=>?_⟩,?_⟩⟩⟩⟩,fun hc B b1 b2 hq=>?_⟩⟩
  all_goals (try simp only [LN] at hc)
  all_goals (try simp only [LN] at hb)
  · have:=t.jg i.2 (by omega); omega
  · subst hx
    have q1:=hi.2 B b1 b2 hq
    have q2:=hq i.2 (by omega)
    rw [aD (n:=i.1+_) (by omega) (by omega)] at hb ⊢
    exact ⟨by omega,by omega,fun h=>by omega⟩
  · exact aD (by omega) (by omega)
  · omega
  · subst hx
    have q1:=hi.2 B b1 b2 hq
    have q2:=hq i.2 (by omega)
    rw [aD (n:=i.1+_) (by omega) (by omega)] at hb ⊢
    refine ⟨by omega,by omega,fun q WD=>?_⟩
    by_cases e:q=i.2
    · subst e; omega
    · exact q1.2.2 q (by omega)
  · omega
  · have q1:=hi.2 B b1 b2 hq
    exact ⟨by omega,by omega,fun _=>⟨by omega,fun q WD=>q1.2.2 q (by omega)⟩⟩

theorem CS (fu:Nat) (rp:Term→Int→Prop) (rf:∀ (t:Term) (level:Int),rp t level→fA Tryz.prog 221 [av t.cells,iv level] [] (iv (bu fu t level)) []) (t:Term) (level:Int):(dn (bu fu) rp rf t level).val=bu (fu+1) t level:=by kernel_rfl
theorem CU (fu:Nat):∀ (t:Term) (level:Int),t.depth≤fu→fA Tryz.prog 221 [av t.cells,iv level] [] (iv (bu fu t level)) []:=by
  induction fu with
  | zero=>intro t level hm; exact absurd hm (by have:=Term.qT t; omega)
  | succ fu ih =>
    intro t level hm
    have h:fA Tryz.prog 221 [av t.cells,iv level] [] (iv ((dn (bu fu) (fun t level=>t.depth≤fu∧True) (fun t level h=>ih t level h.1) t level).val)) []:=fA.sk tok mixed (fun x=>iv x) (fun _=>[]) Tryz.func221 rfl (by kernel_rfl) 3000 (dn (bu fu) (fun t level=>t.depth≤fu∧True) (fun t level h=>ih t level h.1) t level) (by kernel_rfl) (Ei fu _ t level hm)
    rw [CS] at h
    exact h
def Bo (t:Term) (level:Int):Int:=bu (t.depth) t level
theorem Ej (t:Term) (level:Int):fA Tryz.prog 221 [av t.cells,iv level] [] (iv (Bo t level)) []:=CU _ t level (Nat.le_refl _)
def rN (t:Term) (level:Int):gV (Int):=⟨Tryz.prog,221,[av t.cells,iv level],fun x=>iv x,true,Bo t level,True,fun _=>Ej t level,fun _=>True,trivial⟩
theorem Term.Kq {B:Nat}:∀ (l:List Term),(∀ q,q < l.length→(l.getD q default).depth≤B)→Term.fV l≤B
  | [],_=>by simp [Term.fV]
  | x :: r,h=>by
    have h0:=h 0 (by simp)
    have:=Term.Kq r (fun q hq=>by simpa using h (q+1) (by simpa using hq))
    simp only [Term.fV]
    simp at h0
    omega

theorem pW:∀ (fu:Nat) (t:Term) (level:Int),t.depth≤fu→1≤level→level≤9→1≤bu fu t level∧bu fu t level≤61+60 * (9 - level)∧(bu fu t level≤60→t.depth+level≤9)∧(bu fu t level≤60→CR t)
  | 0,t,_,hd,_,_=>absurd hd (by have:=t.qT; omega)
  | fu+1,t,level,hd,h1,h9=>by
    have ih:=pW fu
    have key:bu (fu+1) t level=(dn (bu fu) (fun _ _=>False) (fun _ _ h=>h.elim) t level).val:=rfl
    rw [key]
    refine Sk.cZ (dn (bu fu) (fun _ _=>False) (fun _ _ h=>h.elim) t level) (L:=fun x=>1≤x∧x≤61+60 * (9 - level)∧(x≤60→t.depth+level≤9)∧(x≤60→CR t)) (Sk.aX _ ?_)
    have hw:aq (level+1)=level+1:=aD (by omega) (by omega)
    unfold dn
    simp only [Sk.cx,Sk.aI,reduceCtorEq,false_implies,nU,fL,aY.z,aY.p,aY.t,aY.pt,aY.o,aY.and,aY.al,aY.Ba,aY.wh,aY.dep,aY.mM,gV.c,kk,kp,gV.nil,gV.Bb,gW.c,gW.nil,pV,implies_true,true_and,and_true,and_self,true_implies,forall_eq,forall_const,hw]
    refine ⟨fun h=>⟨by omega,by omega,fun h=>by omega,fun h=>by omega⟩,fun Qc=>?_⟩
    have Qc:level≤8:=by simp only [LN] at Qc; exact Qc
    have hq:∀ q,q < t.args.length→1≤bu fu (t.args.getD q default) (level+1)∧bu fu (t.args.getD q default) (level+1)≤61+60 * (8 - level):=fun q hq=>by
      have:=ih (t.args.getD q default) (level+1) (by have:=t.jg q hq; omega) (by omega) (by omega)
      omega
    refine ⟨⟨⟨Nat.zero_le _,fun B _ _ _=>⟨by omega,by omega,fun q hq=>absurd hq (by omega)⟩⟩,fun i hi=>⟨fun hc=>⟨fun hb=>?_,fun hb=>⟨⟨?_,fun B b1 b2 hq=>?_⟩,?_⟩⟩,fun hc=>?_⟩⟩,fun b hb=>?_⟩
    all_goals (try simp only [LN] at hc)
    all_goals (try simp only [LN] at hb)
    · intro B b1 b2 hq
      have q1:=hi.2 B b1 b2 hq
      have q2:=hq i.2 (by omega)
      rw [aD (by omega) (by omega)] at hb ⊢
      exact ⟨by omega,by omega,fun h=>by omega⟩
    · omega
    · have q1:=hi.2 B b1 b2 hq
      have q2:=hq i.2 (by omega)
      rw [aD (by omega) (by omega)] at hb ⊢
      refine ⟨by omega,by omega,fun q WD=>?_⟩
      by_cases e:q=i.2
      · subst e; omega
      · exact q1.2.2 q (by omega)
    · omega
    · intro B b1 b2 hq
      have q1:=hi.2 B b1 b2 hq
      exact ⟨by omega,by omega,fun _=>⟨by omega,fun q WD=>q1.2.2 q (by omega)⟩⟩
    · have:=hb _ (by omega) (by omega) hq
      refine ⟨this.1,by omega,fun h60=>?_,fun h60=>.mk (this.2.2 h60).1 fun q WD=>?_⟩
      · have q3:=(this.2.2 h60).2
        have:Term.fV t.args≤(8 - level).toNat:=Term.Kq _ (fun q WD=>by
          have:=(ih (t.args.getD q default) (level+1) (by have:=t.jg q WD; omega) (by omega) (by omega)).2.2.1 (q3 q WD)
          omega)
        have e:t.depth=Term.fV t.args+1:=by obtain ⟨_,_,_⟩:=t; rfl
        omega
      · exact (ih (t.args.getD q default) (level+1) (by have:=t.jg q WD; omega) (by omega) (by omega)).2.2.2 ((this.2.2 h60).2 q WD)
def sV (n:Int):Sk (Int) :=
 .fin (ch (bL n (-1099511627776)) 1099511627776)
def GU n:=(sV n).val
theorem pK (n:Int):GU n=(ch (bL n (-1099511627776)) 1099511627776):=rfl
theorem N7 (n:Int):(sV n).aZ (fun _=>True):=by
  unfold sV
  exact mO

def ia n:=kk tok mixed Tryz.func240 [iv n] (fun x=>iv x) true (sV n) (GU n) (u0 (N7 n))
def gy (v:Int):Sk (Int × Bool) :=
 .br ((decide (v < 0))||(decide (v > 19)))
 (.fin (0,false))
 (.br (decide (v < 7))
 (.fin (0,true))
 (.fin (1,true)))
def vu v:=(gy v).val
theorem Ek (v:Int):(gy v).aZ (fun _=>True):=by
  unfold gy
  exact mO

def iK v:=kk tok mixed Tryz.func238 [iv v] (fun x=>.eD [iv x.1,bv x.2]) true (gy v) (vu v) (u0 (Ek v))
def gH (t:Term):Sk (Int × Int) :=
 .br (decide (((t.args.length:Nat):Int) > 0))
 (.fin (0,2))
 (.br (t.op == 0)
 (.r 5 ((ia t.n).c) fun x1 =>
 .br (x1 != t.n)
 (.fin (0,3))
 (.fin (0,0)))
 (.br (t.op == 1)
 (.br ((decide (t.n < 0))||(decide (t.n > 1)))
 (.fin (0,3))
 (.fin (1,0)))
 (.r 12 ((iK t.n).c) fun x2 =>
 .br (!x2.2)
 (.fin (0,10))
 (.fin (x2.1,0)))))
def mG t:=(gH t).val
theorem LF (t:Term):(gH t).aZ (fun _=>True):=by
  unfold gH
  try simp only [iK,ia,pK]
  exact wx

def xE t:=kk tok mixed Tryz.func236 [av t.cells] (fun x=>.eD [iv x.1,iv x.2]) true (gH t) (mG t) (u0 (LF t))
structure Shape where
  args:List Int
  result:Int
  deriving Inhabited
def Shape.cells (c:Shape):List D:=[lf bF c.args,dI c.result]
def lO (op:Int):Sk (Shape) :=
 .br (op == 3)
 (.r 3 (.o [.fc (fQ dr [1])]) fun _ =>
 .fin ({ args:=[1],result:=1 }:Shape))
 (.bind false (fun _=>True)
 (.br (op == 4)
 (.fin (.inr (op == 4)))
 (.fin (.inr (op == 5))))
 (fun (b1:Bool)=>⟨[(8,bv b1)],[]⟩) fun b1 =>
 .br b1
 (.r 6 (.o [.fc (fQ dr [1,1])]) fun _ =>
 .fin ({ args:=[1,1],result:=1 }:Shape))
 (.br (op == 6)
 (.r 8 (.o [.fc (fQ dr [1,(-1),(-1)])]) fun _ =>
 .fin ({ args:=[1,(-1),(-1)],result:=(-1) }:Shape))
 (.br (op == 7)
 (.r 10 (.o [.fc (fQ dr [0,0])]) fun _ =>
 .fin ({ args:=[0,0],result:=1 }:Shape))
 (.br (op == 8)
 (.r 12 (.o [.fc (fQ dr [(-1),(-1)])]) fun _ =>
 .fin ({ args:=[(-1),(-1)],result:=1 }:Shape))
 (.r 13 (.o [.fc (fQ dr [0,0])]) fun _ =>
 .fin ({ args:=[0,0],result:=0 }:Shape))))))
def bJ op:=(lO op).val
theorem El (op:Int):(lO op).aZ (fun _=>True):=by
  unfold lO
  exact mO

def rO op:=kk tok mixed Tryz.func237 [iv op] (fun x=>av x.cells) false (lO op) (bJ op) (u0 (El op))
inductive uT:Term→Int→Prop
 | int {n:Int} (h : -1099511627776≤n∧n≤1099511627776):uT ⟨0,n,[]⟩ 0
 | bool {n:Int} (h:0≤n∧n≤1):uT ⟨1,n,[]⟩ 1
 | var {n:Int} (h:0≤n∧n≤19):uT ⟨2,n,[]⟩ (if n < 7 then 0 else 1)
 | not {a:Term}:uT a 1→uT ⟨3,0,[a]⟩ 1
 | WE {op:Int} {a b:Term} (h:op=4∨op=5):uT a 1→uT b 1→uT ⟨op,0,[a,b]⟩ 1
 | ite {a b c:Term} {k:Int}:uT a 1→uT b k→uT c k→uT ⟨6,0,[a,b,c]⟩ k
 | less {a b:Term}:uT a 0→uT b 0→uT ⟨7,0,[a,b]⟩ 1
 | eq {a b:Term} {k:Int}:uT a k→uT b k→uT ⟨8,0,[a,b]⟩ 1
 | arith {op:Int} {a b:Term} (h:9≤op∧op≤13):uT a 0→uT b 0→uT ⟨op,0,[a,b]⟩ 0
theorem uT.kind {t:Term} {k:Int} (h:uT t k):k=0∨k=1:=by
 induction h with
 | var _=>split <;> simp
 | ite _ _ _ _ ih _=>exact ih
 | _=>simp
def tw (rv:Term→Int × Int) (rp:Term→Prop) (rf:∀ (t:Term),rp t→fA Tryz.prog 222 [av t.cells] [] (.eD [iv ((rv t).1),iv ((rv t).2)]) []) (t:Term):gV (Int × Int):=⟨Tryz.prog,222,[av t.cells],fun x=>.eD [iv x.1,iv x.2],true,rv t,rp t,rf t,fun _=>True,trivial⟩
def dJ (rv:Term→Int × Int) (rp:Term→Prop) (rf:∀ (t:Term),rp t→fA Tryz.prog 222 [av t.cells] [] (.eD [iv ((rv t).1),iv ((rv t).2)]) []) (t:Term):Sk (Int × Int) :=
 .r 1 (.al (.o [.fc (mkC dr t.args.length 0)]) (.p (Ti ((t.args.length:Nat):Int) 8))) fun _ =>
 .bind true (fun b1=>b1.length=t.args.length∧∀ q,q < t.args.length→(rv (t.args.getD q default)).2=0∧b1.getD q default=(rv (t.args.getD q default)).1)
 (.loop (default:Sum (Int × Int) ((List Int))) (fun i2=>i2.1.length=t.args.length∧i2.2≤t.args.length∧∀ q,q < i2.2→(rv (t.args.getD q default)).2=0∧i2.1.getD q default=(rv (t.args.getD q default)).1) (fun i2=>t.args.length - i2.2) ((List.replicate t.args.length (0:Int),0):(List Int) × Nat)
 (fun (i2:(List Int) × Nat)=>⟨[(4,ow 100002 i2.1),(20,iv (i2.2:Int))],[(100002,bg 3 1 bF i2.1)]⟩) fun i2 =>
 .lt 18 0 i2.2 t.args.length
 (.r 4 (.al (.p (bA (i2.2:Int) t.args.length)) (.o [.cast 23 (Wn (Term.Gm (t.args.getD i2.2 default)))])) fun _ =>
 .r 5 ((tw rv rp rf (t.args.getD i2.2 default)).c) fun x3 =>
 .br (x3.2 != 0)
 (.fin (.inl (.inl (0,x3.2))))
 (.r 8 (.al (.p (bA (i2.2:Int) i2.1.length)) (.al (.o [.fc (sr dr i2.1 i2.2 x3.1)]) (.p (i2.2 < i2.1.length)))) fun _ =>
 .wn 100002 i2.1.length (i2.1.set i2.2 x3.1).length <|
 .nx 9 20 i2.2 (i2.1.set i2.2 x3.1,i2.2+1)))
 (.fin (.inl (.inr i2.1))))
 (fun (b1:(List Int))=>⟨[(4,ow 100001 b1)],[(100001,bg 3 1 bF b1)]⟩) fun b1 =>
 .br ((decide (t.op < 0))||(decide (t.op > 13)))
 (.fin (0,1))
 (.br (((t.op == 0)||(t.op == 1))||(t.op == 2))
 (.r 13 ((xE t).c) fun x4 =>
 .fin (x4.1,x4.2))
 (.r 14 ((rO t.op).c) fun x5 =>
 .br ((((b1.length:Nat):Int) != ((x5.args.length:Nat):Int))||(t.n != 0))
 (.fin (0,2))
 (.bind true (fun b6=>∀ q,q < x5.args.length→(x5.args.getD q default = -1→b1.getD q default=b6∨b1.getD q default = -1)∧(x5.args.getD q default≠-1→b1.getD q default=x5.args.getD q default))
 (.loop (default:Sum (Int × Int) (Int)) (fun i7=>i7.2≤x5.args.length∧∀ q,q < i7.2→(x5.args.getD q default = -1→b1.getD q default=i7.1∨b1.getD q default = -1)∧(x5.args.getD q default≠-1→b1.getD q default=x5.args.getD q default)) (fun i7=>x5.args.length - i7.2) (((-1),0):Int × Nat)
 (fun (i7:Int × Nat)=>⟨[(10,iv i7.1),(82,iv (i7.2:Int))],[]⟩) fun i7 =>
 .lt 80 0 i7.2 x5.args.length
 (.r 20 (.p (bA (i7.2:Int) x5.args.length)) fun _ =>
 .bind false (fun b8=>b8=if (x5.args.getD i7.2 default) = -1∧i7.1 = -1 then b1.getD i7.2 default else i7.1)
 (.br (((x5.args.getD i7.2 default) == (-1))&&(i7.1 == (-1)))
 (.r 22 (.al (.p (bA (i7.2:Int) b1.length)) (.p (i7.2 < b1.length))) fun _ =>
 .fin (.inr (b1.getD i7.2 default)))
 (.fin (.inr i7.1)))
 (fun (b8:Int)=>⟨[(10,iv b8)],[]⟩) fun b8 =>
 .bind false (fun b9=>b9=if (x5.args.getD i7.2 default) = -1 then b8 else (x5.args.getD i7.2 default))
 (.br ((x5.args.getD i7.2 default) == (-1))
 (.fin (.inr b8))
 (.fin (.inr (x5.args.getD i7.2 default))))
 (fun (b9:Int)=>⟨[(12,iv b9)],[]⟩) fun b9 =>
 .r 25 (.al (.p (bA (i7.2:Int) b1.length)) (.p (i7.2 < b1.length))) fun _ =>
 .br ((b1.getD i7.2 default) != b9)
 (.fin (.inl (.inl (0,11))))
 (.nx 27 82 i7.2 (b8,i7.2+1)))
 (.fin (.inl (.inr i7.1))))
 (fun (b6:Int)=>⟨[(10,iv b6)],[]⟩) fun b6 =>
 .br (x5.result == (-1))
 (.fin (b6,0))
 (.fin (x5.result,0)))))
def bS:Nat→Term→Int × Int
 | 0,_=>default
 | fu+1,t=>(dJ (bS fu) (fun _=>False) (fun _=>fun h=>h.elim) t).val
theorem IU (fu:Nat) (rf:∀ (t:Term),t.depth≤fu∧(CR t)→fA Tryz.prog 222 [av t.cells] [] (.eD [iv ((bS fu t).1),iv ((bS fu t).2)]) []) (t:Term) (hm:t.depth≤fu+1) (hth:CR t):(dJ (bS fu) (fun t=>t.depth≤fu∧(CR t)) rf t).aZ (fun _=>True):=by
 refine Sk.aU _ ?_
 unfold dJ
 simp only [Sk.jb,Sk.aI,reduceCtorEq,ON,kk,kp,xE,rO,tw,maxLen]
 have ac7:=hth
 obtain ⟨ht1,ZG⟩:=ac7
 refine ⟨⟨by omega,by omega,by omega⟩,fun _=>⟨⟨⟨by simp,by omega,fun q hq=>absurd hq (by omega)⟩,fun i hi hl=>⟨fun hc=>⟨⟨by omega,of_decide_eq_true hc⟩,fun _=>⟨⟨?_,?_⟩,fun x hx he=>⟨⟨⟨by omega,?_⟩,?_⟩,fun _=>⟨by simp,fun _=>⟨?_,⟨⟨by simp [hi.1],?_,fun q hq=>?_⟩,?_⟩⟩⟩⟩⟩⟩,fun hc=>⟨hi.1,fun q hq=>hi.2.2 q (by simp only [LN] at hc; omega)⟩⟩⟩,fun b hb hc zE x hx hl=>⟨⟨by omega,fun q hq=>absurd hq (by omega)⟩,fun i hi Yi=>⟨fun hc=>⟨⟨by omega,of_decide_eq_true hc⟩,fun _=>⟨⟨fun h=>⟨⟨⟨by omega,?_⟩,?_⟩,fun _=>?_⟩,fun h=>?_⟩,fun y _ hy=>⟨⟨fun h=>?_,fun h=>?_⟩,fun z _ hz=>⟨⟨⟨by omega,?_⟩,?_⟩,fun _=>fun he _=>⟨?_,⟨⟨?_,fun q hq=>?_⟩,?_⟩⟩⟩⟩⟩⟩,fun hc q hq=>hi.2 q (by simp only [LN] at hc; omega)⟩⟩⟩⟩
 all_goals (try simp only [LN] at hc)
 ·have:=t.jg i.2 (by omega); omega
 ·exact ZG i.2 (by omega)
 ·omega
 ·omega
 ·exact aD (by omega) (by omega)
 ·omega
 ·simp only [LN] at he
  by_cases e:q=i.2
  ·subst e
   subst hx
   exact ⟨he,sJ _ (by omega) _ _⟩
  ·have:=hi.2.2 q (by omega)
   refine ⟨this.1,?_⟩
   rw [← this.2]
   exact sK _ e _ _
 ·omega
 all_goals (try simp only [LN] at hl)
 ·omega
 ·omega
 ·simp only [LN] at h
  rw [if_pos h]
 ·rw [if_neg]
  simp only [LN] at h
  intro ⟨h1,h2⟩
  rcases h with h | h
  ·exact h h1
  ·exact h h2
 ·simp only [LN] at h; rw [if_pos h]
 ·simp only [LN] at h; rw [if_neg h]
 ·omega
 ·omega
 ·exact aD (by omega) (by omega)
 ·omega
 ·simp only [LN] at he
  by_cases e:q=i.2
  ·subst e
   refine ⟨fun h=>?_,fun h=>?_⟩
   ·rw [if_pos h] at hz; left; rw [he,hz]
   ·rw [if_neg h] at hz; rw [he,hz]
  ·have:=hi.2 q (by omega)
   refine ⟨fun h=>?_,this.2⟩
   rcases this.1 h with h1 | h1
   ·by_cases c:x.args.getD i.snd default = -1∧i.fst = -1
    ·right; rw [h1,c.2]
    ·rw [if_neg c] at hy; left; rw [h1,hy]
   ·exact .inr h1
 ·omega
theorem GV (fu:Nat) (rp:Term→Prop) (rf:∀ (t:Term),rp t→fA Tryz.prog 222 [av t.cells] [] (.eD [iv ((bS fu t).1),iv ((bS fu t).2)]) []) (t:Term):(dJ (bS fu) rp rf t).val=bS (fu+1) t:=by kernel_rfl
theorem GW (fu:Nat):∀ (t:Term),t.depth≤fu→(CR t)→fA Tryz.prog 222 [av t.cells] [] (.eD [iv ((bS fu t).1),iv ((bS fu t).2)]) []:=by
 induction fu with
 | zero=>intro t hm h0; exact absurd hm (by have:=Term.qT t; omega)
 | succ fu ih =>
  intro t hm h0
  have h:fA Tryz.prog 222 [av t.cells] [] (.eD [iv (((dJ (bS fu) (fun t=>t.depth≤fu∧(CR t)) (fun t h=>ih t h.1 h.2) t).val).1),iv (((dJ (bS fu) (fun t=>t.depth≤fu∧(CR t)) (fun t h=>ih t h.1 h.2) t).val).2)]) []:=fA.sk tok mixed (fun x=>.eD [iv x.1,iv x.2]) (fun _=>[]) Tryz.func222 rfl (by kernel_rfl) 3000 (dJ (bS fu) (fun t=>t.depth≤fu∧(CR t)) (fun t h=>ih t h.1 h.2) t) (by kernel_rfl) (IU fu _ t hm h0)
  rw [GV] at h
  exact h
def Ac (t:Term):Int × Int:=bS (t.depth) t
theorem IV (t:Term) (hth:CR t):fA Tryz.prog 222 [av t.cells] [] (.eD [iv ((Ac t).1),iv ((Ac t).2)]) []:=GW _ t (Nat.le_refl _) hth
def vw (t:Term):gV (Int × Int):=⟨Tryz.prog,222,[av t.cells],fun x=>.eD [iv x.1,iv x.2],true,Ac t,(CR t),fun h=>IV t h,fun _=>True,trivial⟩
theorem Em (t:Term) (zE:t.op=0∨t.op=1∨t.op=2) (h:(mG t).2=0):uT t (mG t).1:=by
 obtain ⟨op,n,args⟩:=t
 simp only at zE
 revert h
 cases args with
 | cons a r =>
  intro h
  exfalso
  revert h
  simp only [mG,gH,Sk.oe,Sk.jR]
  rw [show decide ((((a :: r).length:Nat):Int) > 0)=true from by simp]
  simp
 | nil =>
  rcases zE with rfl | rfl | rfl
  ·simp only [mG,gH,Sk.oe,Sk.jR,Sk.ue,gV.Kb,kk,kp,ia,pK]
   intro h
   by_cases c:ch (bL n (-1099511627776)) 1099511627776=n
   ·have : -1099511627776≤n∧n≤1099511627776:=by simp only [ch,bL] at c; omega
    have e:(ch (bL n (-1099511627776)) 1099511627776 != n)=false:=by simpa using c
    rw [e]
    exact uT.int this
   ·have e:(ch (bL n (-1099511627776)) 1099511627776 != n)=true:=by simpa using c
    rw [e] at h
    exact absurd (show (3:Int)=0 from h) (by decide)
  ·simp only [mG,gH,Sk.oe,Sk.jR,Sk.ue,gV.Kb,kk,kp,ia,pK]
   intro h
   by_cases c:n < 0∨n > 1
   ·have e:(decide (n < 0)||decide (n > 1))=true:=by simpa using c
    rw [e] at h
    exact absurd (show (3:Int)=0 from h) (by decide)
   ·have:0≤n∧n≤1:=by omega
    have e:(decide (n < 0)||decide (n > 1))=false:=by simp; omega
    rw [e]
    exact uT.bool this
  ·intro h
   have e:mG ⟨2,n,[]⟩=(if n < 0∨n > 19 then (0,10) else if n < 7 then (0,0) else (1,0)):=by
    simp only [mG,gH,Sk.oe,Sk.jR,Sk.ue,gV.Kb,kk,kp,iK,vu,gy]
    by_cases c:n < 0∨n > 19
    ·have:(decide (n < 0)||decide (n > 19))=true:=by simpa using c
     simp [this,c]
    ·have:(decide (n < 0)||decide (n > 19))=false:=by simp; omega
     by_cases d:n < 7 <;> simp [this,c,d]
   rw [e] at h ⊢
   by_cases c:n < 0∨n > 19
   ·simp [c] at h
   ·have:0≤n∧n≤19:=by omega
    have:=uT.var this
    by_cases d:n < 7 <;> simpa [c,d] using this
theorem YQ:bJ 3=⟨[1],1⟩:=by kernel_rfl
theorem YR:bJ 4=⟨[1,1],1⟩:=by kernel_rfl
theorem YS:bJ 5=⟨[1,1],1⟩:=by kernel_rfl
theorem YT:bJ 6=⟨[1,-1,-1],-1⟩:=by kernel_rfl
theorem YU:bJ 7=⟨[0,0],1⟩:=by kernel_rfl
theorem YV:bJ 8=⟨[-1,-1],1⟩:=by kernel_rfl
theorem UW:bJ 9=⟨[0,0],0⟩:=by kernel_rfl
theorem SD:bJ 10=⟨[0,0],0⟩:=by kernel_rfl
theorem SE:bJ 11=⟨[0,0],0⟩:=by kernel_rfl
theorem SF:bJ 12=⟨[0,0],0⟩:=by kernel_rfl
theorem SG:bJ 13=⟨[0,0],0⟩:=by kernel_rfl
theorem YX (op:Int) (h:9≤op∧op≤13):bJ op=⟨[0,0],0⟩:=by
 have:op=9∨op=10∨op=11∨op=12∨op=13:=by omega
 rcases this with e | e | e | e | e <;> rw [e]
 ·exact UW
 ·exact SD
 ·exact SE
 ·exact SF
 ·exact SG
theorem aa5 {α:Type} {l:List α} (h:l.length=1):∃ a,l=[a]:=by
 match l,h with
 | [a],_=>exact ⟨a,rfl⟩
theorem N8 {α:Type} {l:List α} (h:l.length=2):∃ a b,l=[a,b]:=by
 match l,h with
 | [a,b],_=>exact ⟨a,b,rfl⟩
theorem aa6 {α:Type} {l:List α} (h:l.length=3):∃ a b c,l=[a,b,c]:=by
 match l,h with
 | [a,b,c],_=>exact ⟨a,b,c,rfl⟩
theorem GX {t:Term} {b1:List Int} {common:Int} (zE:3≤t.op∧t.op≤13) (hn:t.n=0) (hl:b1.length=(bJ t.op).args.length) (hb:b1.length=t.args.length) (K2:∀ q,q < t.args.length→uT (t.args.getD q default) (b1.getD q default))
  (hc:∀ q,q < (bJ t.op).args.length→((bJ t.op).args.getD q default = -1→b1.getD q default=common∨b1.getD q default = -1)∧((bJ t.op).args.getD q default≠-1→b1.getD q default=(bJ t.op).args.getD q default)) :
  uT t (if (bJ t.op).result = -1 then common else (bJ t.op).result):=by
 obtain ⟨op,n,args⟩:=t
 simp only at zE hn hl hb K2 hc ⊢
 subst hn
 have YY:op=3∨op=4∨op=5∨op=6∨op=7∨op=8∨(9≤op∧op≤13):=by omega
 rcases YY with rfl | rfl | rfl | rfl | rfl | rfl | h9
 ·rw [YQ] at hl hc ⊢
  obtain ⟨a,rfl⟩:=aa5 (hb.symm.trans hl)
  have h0:=K2 0 (by simp)
  have c0:=hc 0 (by simp)
  simp at h0 c0 ⊢
  rw [c0] at h0
  exact .not h0
 ·rw [YR] at hl hc ⊢
  obtain ⟨a,b,rfl⟩:=N8 (hb.symm.trans hl)
  have h0:=K2 0 (by simp); have h1:=K2 1 (by simp)
  have c0:=hc 0 (by simp); have c1:=hc 1 (by simp)
  simp at h0 h1 c0 c1 ⊢
  rw [c0] at h0; rw [c1] at h1
  exact .WE (.inl rfl) h0 h1
 ·rw [YS] at hl hc ⊢
  obtain ⟨a,b,rfl⟩:=N8 (hb.symm.trans hl)
  have h0:=K2 0 (by simp); have h1:=K2 1 (by simp)
  have c0:=hc 0 (by simp); have c1:=hc 1 (by simp)
  simp at h0 h1 c0 c1 ⊢
  rw [c0] at h0; rw [c1] at h1
  exact .WE (.inr rfl) h0 h1
 ·rw [YT] at hl hc ⊢
  obtain ⟨a,b,c,rfl⟩:=aa6 (hb.symm.trans hl)
  have h0:=K2 0 (by simp); have h1:=K2 1 (by simp); have h2:=K2 2 (by simp)
  have c0:=hc 0 (by simp); have c1:=hc 1 (by simp); have c2:=hc 2 (by simp)
  simp at h0 h1 h2 c0 c1 c2 ⊢
  have k1:=h1.kind; have k2:=h2.kind
  rw [c0] at h0
  have e1:b1[1]?.getD 0=common:=by omega
  have e2:b1[2]?.getD 0=common:=by omega
  rw [e1] at h1; rw [e2] at h2
  exact .ite h0 h1 h2
 ·rw [YU] at hl hc ⊢
  obtain ⟨a,b,rfl⟩:=N8 (hb.symm.trans hl)
  have h0:=K2 0 (by simp); have h1:=K2 1 (by simp)
  have c0:=hc 0 (by simp); have c1:=hc 1 (by simp)
  simp at h0 h1 c0 c1 ⊢
  rw [c0] at h0; rw [c1] at h1
  exact .less h0 h1
 ·rw [YV] at hl hc ⊢
  obtain ⟨a,b,rfl⟩:=N8 (hb.symm.trans hl)
  have h0:=K2 0 (by simp); have h1:=K2 1 (by simp)
  have c0:=hc 0 (by simp); have c1:=hc 1 (by simp)
  simp at h0 h1 c0 c1 ⊢
  have k1:=h0.kind; have k2:=h1.kind
  have e1:b1[0]?.getD 0=common:=by omega
  have e2:b1[1]?.getD 0=common:=by omega
  rw [e1] at h0; rw [e2] at h1
  exact .eq h0 h1
 ·rw [YX op h9] at hl hc ⊢
  obtain ⟨a,b,rfl⟩:=N8 (hb.symm.trans hl)
  have h0:=K2 0 (by simp); have h1:=K2 1 (by simp)
  have c0:=hc 0 (by simp); have c1:=hc 1 (by simp)
  simp at h0 h1 c0 c1 ⊢
  rw [c0] at h0; rw [c1] at h1
  exact .arith h9 h0 h1
theorem uu:∀ (fu:Nat) (t:Term),t.depth≤fu→(bS fu t).2=0→uT t (bS fu t).1
 | 0,t,hd,_=>absurd hd (by have:=t.qT; omega)
 | fu+1,t,hd,h=>by
  have ih:=uu fu
  have key:bS (fu+1) t=(dJ (bS fu) (fun _=>False) (fun _ h=>h.elim) t).val:=rfl
  rw [key] at h ⊢
  refine (Sk.cZ (dJ (bS fu) (fun _=>False) (fun _ h=>h.elim) t) (L:=fun x=>x.2=0→uT t x.1) (Sk.aX _ ?_)) h
  unfold dJ
  simp only [Sk.cx,Sk.aI,reduceCtorEq,false_implies,nU,fL,aY.z,aY.p,aY.t,aY.pt,aY.o,aY.and,aY.al,aY.Ba,aY.wh,aY.dep,aY.mM,gV.c,kk,kp,tw,xE,rO,implies_true,true_and,and_true,and_self,true_implies,forall_eq,forall_const]
  refine ⟨⟨⟨by simp,Nat.zero_le _,fun q hq=>absurd hq (by omega)⟩,fun i hi=>⟨fun hc=>⟨fun he h=>?_,fun he=>⟨⟨by simp [hi.1],?_,fun q hq=>?_⟩,?_⟩⟩,fun hc=>⟨hi.1,fun q hq=>hi.2.2 q (by simp at hc; omega)⟩⟩⟩,fun b hb=>⟨fun hc h=>absurd h (by decide),fun hc=>⟨fun zE h=>?_,fun zE=>⟨fun _ h=>absurd h (by decide),fun hl=>⟨⟨⟨Nat.zero_le _,fun q hq=>absurd hq (by omega)⟩,fun i hi=>⟨fun hc=>⟨⟨?_,?_⟩,fun y _ hy=>⟨⟨?_,?_⟩,fun z _ hz=>⟨fun _ h=>absurd h (by decide),fun he=>⟨⟨?_,fun q hq=>?_⟩,?_⟩⟩⟩⟩,fun hc q hq=>hi.2 q (by simp at hc; omega)⟩⟩,fun y hy=>⟨?_,?_⟩⟩⟩⟩⟩⟩
  ·rw [h] at he; exact absurd he (by decide)
  ·simp only [LN] at hc; omega
  ·simp only [LN] at hc he
   by_cases e:q=i.2
   ·subst e
    exact ⟨he,sJ _ (by omega) _ _⟩
   ·have:=hi.2.2 q (by omega)
    refine ⟨this.1,?_⟩
    rw [← this.2]
    exact sK _ e _ _
  ·simp only [LN] at hc; omega
  ·exact Em t (by simp only [LN] at zE; omega) h
  ·intro h; simp only [LN] at h; rw [if_pos h]
  ·intro h
   rw [if_neg]
   simp only [LN] at h
   intro ⟨h1,h2⟩
   rcases h with h | h
   ·exact h h1
   ·exact h h2
  ·intro h; simp only [LN] at h; rw [if_pos h]
  ·intro h; simp only [LN] at h; rw [if_neg h]
  ·simp only [LN] at hc; omega
  ·simp only [LN] at hc he
   by_cases e:q=i.2
   ·subst e
    refine ⟨fun h=>?_,fun h=>?_⟩
    ·rw [if_pos h] at hz; left; rw [he,hz]
    ·rw [if_neg h] at hz; rw [he,hz]
   ·have:=hi.2 q (by omega)
    refine ⟨fun h=>?_,this.2⟩
    rcases this.1 h with h1 | h1
    ·by_cases c:(bJ t.op).args.getD i.snd default = -1∧i.fst = -1
     ·right; rw [h1,c.2]
     ·rw [if_neg c] at hy; left; rw [h1,hy]
    ·exact .inr h1
  ·simp only [LN] at hc; omega
  ·intro h
   simp only [LN] at hc zE hl h
   have:=GX (t:=t) (b1:=b) (common:=y) (by omega) hl.2 (by omega) hb.1 (fun q hq=>by
    have h1:=hb.2 q hq
    rw [h1.2]
    exact ih _ (by have:=t.jg q hq; omega) h1.1) hy
   rw [if_pos h] at this
   exact this
  ·intro h
   simp only [LN] at hc zE hl h
   have:=GX (t:=t) (b1:=b) (common:=y) (by omega) hl.2 (by omega) hb.1 (fun q hq=>by
    have h1:=hb.2 q hq
    rw [h1.2]
    exact ih _ (by have:=t.jg q hq; omega) h1.1) hy
   rw [if_neg h] at this
   exact this
def lE (t:Term):Sk (Int × Int) :=
 .r 1 ((rN t 1).c) fun x1 =>
 .br (decide (x1 > 60))
 (.fin (0,6))
 (.r 3 ((vw t).c) fun x2 =>
 .fin (x2.1,x2.2))
def Qd t:=(lE t).val
def Term.Bp (t:Term):Prop:=(∃ k,uT t k)∧t.depth≤8
theorem GY (t:Term):(lE t).cC (fun (x:Int × Int)=>x.2=0→uT t x.1∧t.depth≤8):=by
 refine Sk.aX _ ?_
 unfold lE
 simp only [Sk.cx,Sk.aI,reduceCtorEq,false_implies,nU,fL,aY.z,aY.p,aY.t,aY.pt,aY.o,aY.and,aY.al,aY.Ba,aY.wh,aY.dep,aY.mM,gV.c,kk,kp,gV.nil,gV.Bb,gW.c,gW.nil,rN,vw,forall_eq,forall_const]
 have hm:=pW _ t 1 (Nat.le_refl _) (by omega) (by omega)
 have hc:=uu _ t (Nat.le_refl _)
 refine ⟨fun _ h=>absurd h (by decide),fun c h=>⟨hc h,?_⟩⟩
 simp only [decide_eq_false_iff_not] at c
 have:bu t.depth t 1≤60:=Int.not_lt.1 c
 have:=hm.2.2.1 this
 omega
theorem IW (t:Term):(lE t).aZ (fun _=>True):=by
 refine Sk.aU _ ?_
 unfold lE
 simp only [Sk.jb,Sk.aI,reduceCtorEq,ON,kk,kp,vw,rN,maxLen]
 exact fun x hx h=>(pW _ t 1 (Nat.le_refl _) (by omega) (by omega)).2.2.2 (by subst hx; simp only [LN] at h; exact h)
def qG t:=kp tok mixed Tryz.func200 [av t.cells] (fun x=>.eD [iv x.1,iv x.2]) true (Qd t) (u0 (IW t)) (GY t)
def oY (o:Order) (ask:Int):Sk (Term × Int) :=
 .r 1 ((jj ask).c) fun x1 =>
 .br (!x1.2)
 (.fin (({ op:=0,n:=0,args:=[] }:Term),1))
 (.r 4 ((nh o.rules ask).c) fun x2 =>
 .br (decide (x2 < 0))
 (.fin (({ op:=0,n:=0,args:=[] }:Term),4))
 (.r 7 (.p (bA x2 o.rules.length)) fun _ =>
 .r 8 ((qG ((o.rules.getD x2.toNat default).term)).c) fun x3 =>
 .br ((x3.2 != 0)||(x3.1 != x1.1))
 (.fin (({ op:=0,n:=0,args:=[] }:Term),11))
 (.fin ((o.rules.getD x2.toNat default).term,0))))
def Qe o ask:=(oY o ask).val
theorem IX (o:Order) (ask:Int):(oY o ask).aZ (fun _=>True):=by
 unfold oY
 try simp only [jj,nh,qG]
 exact mu
def Bq o ask:=kk tok mixed Tryz.func159 [av o.cells,iv ask] (fun x=>.eD [av x.1.cells,iv x.2]) false (oY o ask) (Qe o ask) (u0 (IX o ask))
structure Machine where
 eI:List aM
 deriving Inhabited
def sW (IM:Bool):Sk (aM) :=
 .br IM
 (.fin ({ known:=true,n:=1 }:aM))
 (.fin ({ known:=true,n:=0 }:aM))
def uv IM:=(sW IM).val
theorem N9 (IM:Bool):(sW IM).aZ (fun _=>True):=by
 unfold sW
 exact mO
def fx IM:=kk tok mixed Tryz.func239 [bv IM] (fun x=>av x.cells) true (sW IM) (uv IM) (u0 (N9 IM))
def eC (m:Machine) (v:Int):Sk (aM) :=
 .r 1 (.wh (decide (v≥((m.eI.length:Nat):Int))) false (.p (bA v m.eI.length))) fun _ =>
 .br ((decide (v≥((m.eI.length:Nat):Int)))||(!((m.eI.getD v.toNat default).known)))
 (.fin ({ known:=false,n:=0 }:aM))
 (.r 3 ((iK v).c) fun x1 =>
 .br (x1.1 == 1)
 (.r 5 (.al (.p (bA v m.eI.length)) ((fx (((m.eI.getD v.toNat default).n) != 0)).c)) fun x2 =>
 .fin x2)
 (.r 6 (.al (.p (bA v m.eI.length)) ((ia ((m.eI.getD v.toNat default).n)).c)) fun x3 =>
 .fin ({ known:=true,n:=x3 }:aM)))
def fZ m v:=(eC m v).val
theorem wz (m:Machine) (v:Int) (hv:0≤v):(eC m v).aZ (fun _=>True):=by
 unfold eC
 try simp only [iK,ia,fx,pK]
 exact wx
def pL m v:=kk tok mixed Tryz.func223 [av [lf aM.cells m.eI],iv v] (fun x=>av x.cells) true (eC m v) (fZ m v) (wz m v)
theorem GZ {a:Int} (h0:0≤a) (h1:a < 18446744073709551616):dc .u64 a 4294967295=a % 4294967296:=by
 obtain ⟨a,rfl⟩:=Int.eq_ofNat_of_zero_le h0
 unfold dc
 have h2:(BitVec.ofInt IntKind.u64.bits ((a:Nat):Int) &&& BitVec.ofInt IntKind.u64.bits 4294967295).toNat=a % 4294967296:=by
  have e:(4294967295:Int)=((4294967295:Nat):Int):=rfl
  rw [e,BitVec.toNat_and,BitVec.ofInt_natCast,BitVec.ofInt_natCast,BitVec.toNat_ofNat,BitVec.toNat_ofNat]
  have hb:IntKind.u64.bits=64:=rfl
  rw [hb,Nat.mod_eq_of_lt (by omega),Nat.mod_eq_of_lt (by omega)]
  exact Nat.and_two_pow_sub_one_eq_mod a 32
 rw [h2,dL (by omega) (by omega)]
 omega
theorem WG {x y:Int} (hx:0≤x∧x < 18446744073709551616) (hy:0≤y∧y < 18446744073709551616) :
  IntKind.u64.wrap ((IntKind.u64.wrap ((IntKind.u64.wrap ((cQ .u64 x 32) * (cQ .u64 y 32)))+(cQ .u64 (IntKind.u64.wrap ((IntKind.u64.wrap ((cQ .u64 x 32) * (dc .u64 y 4294967295)))+(cQ .u64 (IntKind.u64.wrap ((dc .u64 x 4294967295) * (dc .u64 y 4294967295))) 32))) 32)))+(cQ .u64 (IntKind.u64.wrap ((dc .u64 (IntKind.u64.wrap ((IntKind.u64.wrap ((cQ .u64 x 32) * (dc .u64 y 4294967295)))+(cQ .u64 (IntKind.u64.wrap ((dc .u64 x 4294967295) * (dc .u64 y 4294967295))) 32))) 4294967295)+(IntKind.u64.wrap ((dc .u64 x 4294967295) * (cQ .u64 y 32))))) 32)) * 18446744073709551616+IntKind.u64.wrap (x * y)=x * y:=by
 have s32:∀ a:Int,cQ .u64 a 32=a / 4294967296:=fun a=>Cu .u64 (b:=32) (by decide)
 have ax:=GZ hx.1 hx.2
 have ay:=GZ hy.1 hy.2
 rw [GZ (il _).1 (il _).2,ax,ay,s32,s32,s32,s32,s32]
 have bd:∀ a b:Int,0≤a∧a < 4294967296→0≤b∧b < 4294967296→0≤a * b∧a * b≤18446744065119617025:=fun a b ha hb =>
  ⟨Int.mul_nonneg ha.1 hb.1,by have:=Int.mul_le_mul (show a≤4294967295 by omega) (show b≤4294967295 by omega) hb.1 (by omega); omega⟩
 have Ea:0≤x / 4294967296∧x / 4294967296 < 4294967296:=by omega
 have Xj:0≤x % 4294967296∧x % 4294967296 < 4294967296:=by omega
 have Rz:0≤y / 4294967296∧y / 4294967296 < 4294967296:=by omega
 have Pf:0≤y % 4294967296∧y % 4294967296 < 4294967296:=by omega
 have ZU:=bd _ _ Ea Rz
 have PK:=bd _ _ Ea Pf
 have WH:=bd _ _ Xj Rz
 have b00:=bd _ _ Xj Pf
 have e:x * y=(x / 4294967296) * (y / 4294967296) * 18446744073709551616+((x / 4294967296) * (y % 4294967296)+(x % 4294967296) * (y / 4294967296)) * 4294967296+(x % 4294967296) * (y % 4294967296):=by
  have ex:x=x / 4294967296 * 4294967296+x % 4294967296:=by omega
  have ey:y=y / 4294967296 * 4294967296+y % 4294967296:=by omega
  generalize x / 4294967296=x1 at ex ⊢
  generalize x % 4294967296=x0 at ex ⊢
  generalize y / 4294967296=y1 at ey ⊢
  generalize y % 4294967296=y0 at ey ⊢
  subst ex; subst ey
  have a1:x1 * 4294967296 * (y1 * 4294967296)=x1 * y1 * 18446744073709551616:=by rw [Int.mul_assoc,Int.mul_left_comm 4294967296 y1,← Int.mul_assoc]; rfl
  have a2:x1 * 4294967296 * y0=x1 * y0 * 4294967296:=Int.mul_right_comm _ _ _
  have a3:x0 * (y1 * 4294967296)=x0 * y1 * 4294967296:=(Int.mul_assoc _ _ _).symm
  rw [Int.add_mul,Int.mul_add,Int.mul_add,a1,a2,a3,Int.add_mul]
  omega
 rw [e]
 generalize x / 4294967296 * (y / 4294967296)=Su at *
 generalize x / 4294967296 * (y % 4294967296)=PV at *
 generalize x % 4294967296 * (y / 4294967296)=p01 at *
 generalize x % 4294967296 * (y % 4294967296)=p00 at *
 simp only [Gg]
 omega
def jC (x_:Int) (y:Int):Sk (Int × Int) :=
 .r 2 (.p (0≤(32:Int))) fun _ =>
 .r 4 (.p (0≤(32:Int))) fun _ =>
 .r 6 (.p (0≤(32:Int))) fun _ =>
 .r 8 (.p (0≤(32:Int))) fun _ =>
 .r 10 (.p (0≤(32:Int))) fun _ =>
 .fin (IntKind.u64.wrap ((IntKind.u64.wrap ((IntKind.u64.wrap ((cQ .u64 x_ 32) * (cQ .u64 y 32)))+(cQ .u64 (IntKind.u64.wrap ((IntKind.u64.wrap ((cQ .u64 x_ 32) * (dc .u64 y 4294967295)))+(cQ .u64 (IntKind.u64.wrap ((dc .u64 x_ 4294967295) * (dc .u64 y 4294967295))) 32))) 32)))+(cQ .u64 (IntKind.u64.wrap ((dc .u64 (IntKind.u64.wrap ((IntKind.u64.wrap ((cQ .u64 x_ 32) * (dc .u64 y 4294967295)))+(cQ .u64 (IntKind.u64.wrap ((dc .u64 x_ 4294967295) * (dc .u64 y 4294967295))) 32))) 4294967295)+(IntKind.u64.wrap ((dc .u64 x_ 4294967295) * (cQ .u64 y 32))))) 32)),IntKind.u64.wrap (x_ * y))
def G0 x_ y:=(jC x_ y).val
theorem G1 (x_:Int) (y:Int) (hP:(0≤x_∧x_ < 18446744073709551616)∧0≤y∧y < 18446744073709551616):(jC x_ y).cC (fun (x:Int × Int)=>(0≤x.1∧x.1 < 18446744073709551616)∧(0≤x.2∧x.2 < 18446744073709551616)∧x.1 * 18446744073709551616+x.2=x_ * y):=by
 refine Sk.aX _ ?_
 unfold jC
 simp only [Sk.cx,Sk.aI,reduceCtorEq,ON,kk,kp,maxLen]
 intro _ _ _ _ _
 exact ⟨il _,il _,WG hP.1 hP.2⟩
theorem Eo (x_:Int) (y:Int):(fun (x:Int × Int)=>((0≤x_∧x_ < 18446744073709551616)∧0≤y∧y < 18446744073709551616)→((0≤x.1∧x.1 < 18446744073709551616)∧(0≤x.2∧x.2 < 18446744073709551616)∧x.1 * 18446744073709551616+x.2=x_ * y)) (G0 x_ y):=fun hP=>Sk.cZ _ (G1 x_ y hP)
theorem IY (x_:Int) (y:Int):(jC x_ y).aZ (fun _=>True):=by
 unfold jC
 exact mu
def gI x_ y:=kk tok mixed Tryz.func165 [.d (.v (.int .u64 x_)),.d (.v (.int .u64 y))] (fun x=>.eD [.d (.v (.int .u64 x.1)),.d (.v (.int .u64 x.2))]) true (jC x_ y) (G0 x_ y) (u0 (IY x_ y)) (fun (x:Int × Int)=>((0≤x_∧x_ < 18446744073709551616)∧0≤y∧y < 18446744073709551616)→((0≤x.1∧x.1 < 18446744073709551616)∧(0≤x.2∧x.2 < 18446744073709551616)∧x.1 * 18446744073709551616+x.2=x_ * y)) (Eo x_ y)
def lP (a:Int) (b:Int):Sk (Int) :=
 .r 1 ((gI (IntKind.u64.wrap (bL a (aq (0 - a)))) (IntKind.u64.wrap (bL b (aq (0 - b))))).c) fun x1 =>
 .bind false (fun _=>True)
 (.br ((x1.1 == 0)&&(decide (x1.2 < 1099511627776)))
 (.fin (.inr (aq (x1.2))))
 (.fin (.inr 1099511627776)))
 (fun (b2:Int)=>⟨[(7,iv b2)],[]⟩) fun b2 =>
 .br (!((decide (a < 0)) == (decide (b < 0))))
 (.fin (aq (0 - b2)))
 (.fin b2)
def LG a b:=(lP a b).val
theorem Ep (a:Int) (b:Int):(lP a b).aZ (fun _=>True):=by
 unfold lP
 try simp only [gI]
 exact mO
def xF a b:=kk tok mixed Tryz.func245 [iv a,iv b] (fun x=>iv x) true (lP a b) (LG a b) (u0 (Ep a b))
def jm (op:Int) (a:Int) (b:Int):Sk (Int) :=
 .br (op == 9)
 (.r 3 ((ia (aq (a+b))).c) fun x1 =>
 .fin x1)
 (.br (op == 10)
 (.r 5 ((ia (aq (a - b))).c) fun x2 =>
 .fin x2)
 (.br (op == 11)
 (.r 7 ((xF a b).c) fun x3 =>
 .fin x3)
 (.br (op == 12)
 (.fin (ch a b))
 (.fin (bL a b)))))
def wb op a b:=(jm op a b).val
theorem Ad (op:Int) (a:Int) (b:Int):(jm op a b).aZ (fun _=>True):=by
 unfold jm
 try simp only [ia,xF,pK]
 exact wx
def ni op a b:=kk tok mixed Tryz.func241 [iv op,iv a,iv b] (fun x=>iv x) true (jm op a b) (wb op a b) (u0 (Ad op a b))
def ee (op:Int) (l:List aM):Sk (aM) :=
 .bind true (fun b1=>op≠3∧op≠6)
 (.br (op == 3)
 (.r 3 (.p (bA (0:Int) l.length)) fun _ =>
 .br ((l.getD 0 default).known)
 (.r 4 (.al (.p (bA (0:Int) l.length)) ((fx (((l.getD 0 default).n) == 0)).c)) fun x2 =>
 .fin (.inl x2))
 (.fin (.inl ({ known:=false,n:=0 }:aM))))
 (.bind false (fun b3=>b3=(op == 4||op == 5))
 (.br (op == 4)
 (.fin (.inr (op == 4)))
 (.fin (.inr (op == 5))))
 (fun (b3:Bool)=>⟨[(22,bv b3)],[]⟩) fun b3 =>
 .br b3
 (.r 8 ((fx (op == 5)).c) fun x4 =>
 .r 9 (.al (.p (bA (0:Int) l.length)) (.wh ((((l.getD 0 default).known) == x4.known)&&((((l.getD 0 default).n) == x4.n)&&true)) false (.p (bA (1:Int) l.length)))) fun _ =>
 .br (((((l.getD 0 default).known) == x4.known)&&((((l.getD 0 default).n) == x4.n)&&true))||((((l.getD 1 default).known) == x4.known)&&((((l.getD 1 default).n) == x4.n)&&true)))
 (.fin (.inl x4))
 (.fin (.inr ())))
 (.br (op == 6)
 (.r 12 (.al (.p (bA (1:Int) l.length)) (.al (.wh ((l.getD 1 default).known) true (.p (bA (1:Int) l.length))) (.wh ((l.getD 1 default).known) true (.p (bA (2:Int) l.length))))) fun _ =>
 .br (((l.getD 1 default).known)&&((((l.getD 1 default).known) == ((l.getD 2 default).known))&&((((l.getD 1 default).n) == ((l.getD 2 default).n))&&true)))
 (.r 13 (.p (bA (1:Int) l.length)) fun _ =>
 .fin (.inl (l.getD 1 default)))
 (.fin (.inl ({ known:=false,n:=0 }:aM))))
 (.fin (.inr ())))))
 (fun (_:Unit)=>⟨[],[]⟩) fun _ =>
 .r 15 (.al (.p (bA (0:Int) l.length)) (.wh (!((l.getD 0 default).known)) false (.p (bA (1:Int) l.length)))) fun _ =>
 .br ((!((l.getD 0 default).known))||(!((l.getD 1 default).known)))
 (.fin ({ known:=false,n:=0 }:aM))
 (.r 17 (.al (.p (bA (0:Int) l.length)) (.p (bA (1:Int) l.length))) fun _ =>
 .bind false (fun _=>True)
 (.br (op == 4)
 (.fin (.inr (op == 4)))
 (.fin (.inr (op == 5))))
 (fun (b5:Bool)=>⟨[(82,bv b5)],[]⟩) fun b5 =>
 .br b5
 (.r 21 ((fx (op == 4)).c) fun x6 =>
 .fin x6)
 (.br (op == 7)
 (.r 23 ((fx (decide (((l.getD 0 default).n) < ((l.getD 1 default).n)))).c) fun x7 =>
 .fin x7)
 (.br (op == 8)
 (.r 25 ((fx (((l.getD 0 default).n) == ((l.getD 1 default).n))).c) fun x8 =>
 .fin x8)
 (.r 26 ((ni op ((l.getD 0 default).n) ((l.getD 1 default).n)).c) fun x9 =>
 .fin ({ known:=true,n:=x9 }:aM)))))
def cH op l:=(ee op l).val
theorem Er (op:Int) (l:List aM) (ha:(op=3∧1≤l.length)∨(op=6∧3≤l.length)∨(op≠3∧op≠6∧2≤l.length)):(ee op l).aZ (fun _=>True):=by
 unfold ee
 try simp only [ni,fx]
 exact mu
def xG op l:=kk tok mixed Tryz.func224 [iv op,lv aM.cells l] (fun x=>av x.cells) true (ee op l) (cH op l) (Er op l)
def eJ (n:Int):Sk ((List Int)) :=
 .bind false (fun _=>True)
 (.br (decide (n < 0))
 (.dead default)
 (.fin (.inr ())))
 (fun (_:Unit)=>⟨[],[]⟩) fun _ =>
 .br (decide ((aq (n - (aq ((0:Int) - 0)))) > 0))
 (.r 5 (.al (.p (0≤(0:Int)∧(0:Int)≤0)) (.al (.al (.o [.fc (mkC dr ((aq (n - (aq ((0:Int) - 0)))).toNat) (0:Int))]) (.p (Ti (aq (n - (aq ((0:Int) - 0)))) 8))) (.al (.o [.fc (acG dr (List.replicate ((aq (n - (aq ((0:Int) - 0)))).toNat) (0:Int)) 0)]) (.p (0≤(0:Int)∧0≤(((List.replicate ((aq (n - (aq ((0:Int) - 0)))).toNat) (0:Int)).length:Nat):Int)))))) fun _ =>
 .fin (qt (List.replicate ((aq (n - (aq ((0:Int) - 0)))).toNat) (0:Int)) 0 0))
 (.fin [])
def lQ n:=(eJ n).val
theorem yP (n:Int):(eJ n).cC (fun (x:(List Int))=>x=[]):=by
 unfold eJ
 exact B7
theorem xH (n:Int):(fun (x:(List Int))=>x=[]) (lQ n):=have h:=Sk.cZ _ (yP n); h
theorem Ae (n:Int) (hn:0≤n∧n≤1000000000):(eJ n).aZ (fun _=>True):=by
 unfold eJ
 exact mu
theorem yQ (n:Int) (hn:0≤n∧n≤1000000000):fA Tryz.prog 242 [nv,iv n] [] (ow 777777 (lQ n)) [(777777,bg 3 1 bF (lQ n))] :=
 fA.sk tok mixed (fun x=>ow 777777 x) (fun x=>[(777777,bg 3 1 bF x)]) Tryz.func242 rfl (by kernel_rfl) 3000 (eJ n) (by kernel_rfl) (Ae n hn)
def mc (κ:Nat) (n:Int):gW ((List Int)):=⟨Tryz.prog,242,[nv,iv n],fun x=>ow κ x,fun x=>[(κ,bg 3 1 bF x)],lQ n,(0≤n∧n≤1000000000),fun h=>fA.Uy κ (yQ n h),fun (x:(List Int))=>x=[],xH n⟩
theorem CV {α:Type} [Inhabited α] (l:List (List α)) (n:Nat) (h:n < l.length):(l.take (n+1)).flatten=(l.take n).flatten++l.getD n default:=by
 rw [List.take_succ_eq_append_getElem h,List.flatten_append]
 simp only [List.getD,h,List.getElem?_eq_getElem,Option.getD_some,List.flatten_cons,List.flatten_nil,List.append_nil]
theorem LH {α:Type} [Inhabited α] (l:List (List α)) (B:Nat) (h:∀ i,i < l.length→(l.getD i default).length≤B):∀ n,n≤l.length→(l.take n).flatten.length≤B * n
 | 0,_=>by simp
 | n+1,hn=>by
  have:=LH l B h n (by omega)
  rw [CV l n (by omega),List.length_append,Nat.mul_add]
  have:=h n (by omega)
  omega
def iL (bw:List (List Int)):Sk ((List Int)) :=
 .bind true (fun b1=>(bw.length≤100∧∀ i,i < bw.length→(bw.getD i default).length≤1000000)→(0:Int)≤b1∧b1≤100000000)
 (.loop (default:Sum ((List Int)) (Int)) (fun i2=>(bw.length≤100∧∀ i,i < bw.length→(bw.getD i default).length≤1000000)→(0:Int)≤i2.1∧i2.1≤((1000000 * i2.2:Nat):Int)∧i2.2≤bw.length) (fun i2=>bw.length - i2.2) ((0,0):Int × Nat)
 (fun (i2:Int × Nat)=>⟨[(3,iv i2.1),(11,iv (i2.2:Int))],[]⟩) fun i2 =>
 .lt 0 0 i2.2 bw.length
 (.r 4 (.p (bA (i2.2:Int) bw.length)) fun _ =>
 .br (decide ((aq (i2.1+(((bw.getD i2.2 default).length:Nat):Int))) < 0))
 (.dead default)
 (.r 8 .z fun _ =>
 .wi 11 (aq ((i2.2:Int)+1)) ((i2.2+1:Nat):Int) <|
 .fin (.inr (aq (i2.1+(((bw.getD i2.2 default).length:Nat):Int)),i2.2+1))))
 (.fin (.inl (.inr i2.1))))
 (fun (b1:Int)=>⟨[(3,iv b1)],[]⟩) fun b1 =>
 .r 9 ((mc 24 b1).c) fun x3 =>
 .bind true (fun b4=>(bw.length≤100∧∀ i,i < bw.length→(bw.getD i default).length≤1000000)→b4=bw.flatten)
 (.loop (default:Sum ((List Int)) ((List Int))) (fun i5=>(bw.length≤100∧∀ i,i < bw.length→(bw.getD i default).length≤1000000)→i5.1=(bw.take i5.2).flatten∧i5.2≤bw.length) (fun i5=>bw.length - i5.2) ((x3,0):(List Int) × Nat)
 (fun (i5:(List Int) × Nat)=>⟨[(6,ow 100002 i5.1),(27,iv (i5.2:Int))],[(100002,bg 3 1 bF i5.1)]⟩) fun i5 =>
 .lt 25 0 i5.2 bw.length
 (.r 12 (.p (bA (i5.2:Int) bw.length)) fun _ =>
 .r 13 (.al (.o [.fc (mV dr i5.1 (bw.getD i5.2 default))]) (.al (.t (dr.src (bw.getD i5.2 default))) (.p (yw i5.1.length (bw.getD i5.2 default).length 8)))) fun _ =>
 .nx 14 27 i5.2 (i5.1++(bw.getD i5.2 default),i5.2+1))
 (.fin (.inl (.inr i5.1))))
 (fun (b4:(List Int))=>⟨[(6,ow 100001 b4)],[(100001,bg 3 1 bF b4)]⟩) fun b4 =>
 .fin b4
def tx bw:=(iL bw).val
theorem sX (bw:List (List Int)):(iL bw).cC (fun (x:(List Int))=>(bw.length≤100∧∀ i,i < bw.length→(bw.getD i default).length≤1000000)→x=bw.flatten):=by
 refine Sk.aX _ ?_
 unfold iL
 simp only [Sk.cx,Sk.aI,reduceCtorEq,ON,kk,kp,mc,maxLen]
 refine ⟨⟨fun h=>⟨by omega,by omega,by omega⟩,fun i hi=>⟨fun hc _=>⟨fun hd=>?_,fun hd _=>⟨fun h=>?_,?_⟩⟩,fun hc h=>?_⟩⟩,fun b hb x _ hx=>⟨⟨fun h=>⟨by simp [hx],by omega⟩,fun i hi=>⟨fun hc _ _ _=>⟨fun h=>⟨?_,?_⟩,?_⟩,fun hc h=>?_⟩⟩,fun b hb=>hb⟩⟩
 all_goals (try simp only [LN] at hc)
 all_goals (try simp only [LN] at hd)
 ·show (bw.length≤100∧∀ (i:Nat),i < bw.length→(bw.getD i default).length≤1000000)→_
  intro h
  have h1:=hi h
  have h2:=h.2 i.2 (by omega)
  rw [aD (by omega) (by omega)] at hd
  omega
 ·have h1:=hi h
  have h2:=h.2 i.2 (by omega)
  rw [aD (by omega) (by omega)]
  omega
 ·omega
 ·have:=hi h
  omega
 ·rw [CV bw i.2 (by omega),(hi h).1]
 ·have:=hi h; omega
 ·omega
 ·have:=hi h
  rw [this.1,show i.2=bw.length by omega,List.take_length]
theorem Af (bw:List (List Int)):(fun (x:(List Int))=>(bw.length≤100∧∀ i,i < bw.length→(bw.getD i default).length≤1000000)→x=bw.flatten) (tx bw):=have h:=Sk.cZ _ (sX bw); h
theorem CW (bw:List (List Int)) (hn:(bw.length≤100∧∀ i,i < bw.length→(bw.getD i default).length≤1000000)):(iL bw).aZ (fun _=>True):=by
 refine Sk.aU _ ?_
 unfold iL
 simp only [Sk.jb,Sk.aI,reduceCtorEq,ON,kk,kp,mc,maxLen]
 refine ⟨⟨fun h=>⟨by omega,by omega,by omega⟩,fun i hi hl=>⟨fun hc=>⟨⟨by omega,of_decide_eq_true hc⟩,fun _=>⟨fun hd=>?_,fun hd _=>⟨?_,⟨fun h=>?_,?_⟩⟩⟩⟩,fun hc h=>?_⟩⟩,fun b hb=>⟨?_,fun x _ hx=>⟨fun h=>⟨by simp [hx],by omega⟩,fun i hi hl=>⟨fun hc=>⟨⟨by omega,of_decide_eq_true hc⟩,fun _=>⟨?_,fun _ _=>⟨?_,⟨fun h=>⟨?_,?_⟩,?_⟩⟩⟩⟩,fun hc h=>?_⟩⟩⟩⟩
 all_goals (try simp only [LN] at hc)
 all_goals (try simp only [LN] at hd)
 ·have h1:=hi hn
  have h2:=hn.2 i.2 (by omega)
  rw [aD (by omega) (by omega)] at hd
  omega
 ·exact aD (by omega) (by omega)
 ·have h1:=hi h
  have h2:=h.2 i.2 (by omega)
  rw [aD (by omega) (by omega)]
  omega
 ·omega
 ·have:=hi h
  omega
 ·have:=hb hn; omega
 ·have h1:=hi hn
  have h2:=hn.2 i.2 (by omega)
  have h3:=LH bw 1000000 hn.2 i.2 (by omega)
  rw [← h1.1] at h3
  omega
 ·exact aD (by omega) (by omega)
 ·rw [CV bw i.2 (by omega),(hi h).1]
 ·have:=hi h; omega
 ·omega
 ·have:=hi h
  rw [this.1,show i.2=bw.length by omega,List.take_length]
def we bw:=kp tok mixed Tryz.func225 [lv (slE dr).cells bw] (fun x=>lv bF x) false (tx bw) (CW bw) (sX bw)
def qi (rv:Machine→Term→aM × (List Int)) (rp:Machine→Term→Prop) (rf:∀ (m:Machine) (t:Term),rp m t→fA Tryz.prog 201 [av [lf aM.cells m.eI],av t.cells] [] (.eD [av ((rv m t).1).cells,lv bF ((rv m t).2)]) []) (m:Machine) (t:Term):gV (aM × (List Int)):=⟨Tryz.prog,201,[av [lf aM.cells m.eI],av t.cells],fun x=>.eD [av x.1.cells,lv bF x.2],false,rv m t,rp m t,rf m t,fun _=>True,trivial⟩
def da (rv:Machine→Term→aM × (List Int)) (rp:Machine→Term→Prop) (rf:∀ (m:Machine) (t:Term),rp m t→fA Tryz.prog 201 [av [lf aM.cells m.eI],av t.cells] [] (.eD [av ((rv m t).1).cells,lv bF ((rv m t).2)]) []) (m:Machine) (t:Term):Sk (aM × (List Int)) :=
 .bind false (fun b1=>b1=(t.op == 0||t.op == 1))
 (.br (t.op == 0)
 (.fin (.inr (t.op == 0)))
 (.fin (.inr (t.op == 1))))
 (fun (b1:Bool)=>⟨[(15,bv b1)],[]⟩) fun b1 =>
 .br b1
 (.fin (({ known:=true,n:=t.n }:aM),[]))
 (.br (t.op == 2)
 (.r 6 ((pL m t.n).c) fun x2 =>
 .br x2.known
 (.fin (x2,[]))
 (.r 9 (.o [.fc (fQ dr [t.n])]) fun _ =>
 .fin (({ known:=false,n:=0 }:aM),[t.n])))
 (.r 10 (.al (.o [.fc (mkC aM.E t.args.length ({ known:=false,n:=0 }:aM))]) (.p (Ti ((t.args.length:Nat):Int) 16))) fun _ =>
 .r 11 (.al (.o [.fc (mkN (slE dr) t.args.length ([]:List Int) [.v (.slice none 0 0)] (by kernel_rfl))]) (.p (Ti ((t.args.length:Nat):Int) 24))) fun _ =>
 .bind true (fun b3=>b3.1.length=t.args.length∧b3.2.length=t.args.length∧∀ q,q < t.args.length→b3.1.getD q default=(rv m (t.args.getD q default)).1∧b3.2.getD q default=(rv m (t.args.getD q default)).2)
 (.loop (default:Sum (aM × (List Int)) ((List aM) × (List (List Int)))) (fun i4=>i4.1.length=t.args.length∧i4.2.1.length=t.args.length∧i4.2.2≤t.args.length∧∀ q,q < i4.2.2→i4.1.getD q default=(rv m (t.args.getD q default)).1∧i4.2.1.getD q default=(rv m (t.args.getD q default)).2) (fun i4=>t.args.length - i4.2.2) ((List.replicate t.args.length ({ known:=false,n:=0 }:aM),List.replicate t.args.length ([]:List Int),0):(List aM) × (List (List Int)) × Nat)
 (fun (i4:(List aM) × (List (List Int)) × Nat)=>⟨[(7,ow 100004 i4.1),(8,ow 100005 i4.2.1),(45,iv (i4.2.2:Int))],[(100004,bg 71 2 aM.cells i4.1),(100005,bg 64 1 (slE dr).cells i4.2.1)]⟩) fun i4 =>
 .lt 43 0 i4.2.2 t.args.length
 (.r 14 (.al (.p (bA (i4.2.2:Int) t.args.length)) (.o [.cast 48 (Wn (Term.Gm (t.args.getD i4.2.2 default)))])) fun _ =>
 .r 15 (.mM ((qi rv rp rf m (t.args.getD i4.2.2 default)).c) fun x5=>.al (.p (bA (i4.2.2:Int) i4.1.length)) (.al (.al (.o [.fc (sr aM.E i4.1 i4.2.2 x5.1)]) (.p (i4.2.2 < i4.1.length))) (.al (.p (bA (i4.2.2:Int) i4.2.1.length)) (.al (.o [.fc (sr (slE dr) i4.2.1 i4.2.2 x5.2)]) (.p (i4.2.2 < i4.2.1.length)))))) fun x5 =>
 .wn 100004 i4.1.length (i4.1.set i4.2.2 x5.1).length <|
 .wn 100005 i4.2.1.length (i4.2.1.set i4.2.2 x5.2).length <|
 .nx 16 45 i4.2.2 (i4.1.set i4.2.2 x5.1,i4.2.1.set i4.2.2 x5.2,i4.2.2+1))
 (.fin (.inl (.inr (i4.1,i4.2.1)))))
 (fun (b3:(List aM) × (List (List Int)))=>⟨[(7,ow 100002 b3.1),(8,ow 100003 b3.2)],[(100002,bg 71 2 aM.cells b3.1),(100003,bg 64 1 (slE dr).cells b3.2)]⟩) fun b3 =>
 .r 17 (.al (.wh (t.op == 6) true (.p (bA (0:Int) b3.1.length))) (.wh (t.op == 6) true (.p (0 < b3.1.length)))) fun _ =>
 .br ((t.op == 6)&&((b3.1.getD 0 default).known))
 (.r 18 (.al (.p (bA (0:Int) b3.1.length)) (.p (0 < b3.1.length))) fun _ =>
 .r 19 (.al (.p (bA (aq ((2:Int) - ((b3.1.getD 0 default).n))) b3.1.length)) (.al (.p ((aq ((2:Int) - ((b3.1.getD 0 default).n))).toNat < b3.1.length)) (.al (.p (bA (aq ((2:Int) - ((b3.1.getD 0 default).n))) b3.2.length)) (.p ((aq ((2:Int) - ((b3.1.getD 0 default).n))).toNat < b3.2.length))))) fun _ =>
 .fin (b3.1.getD ((aq ((2:Int) - ((b3.1.getD 0 default).n))).toNat) default,b3.2.getD ((aq ((2:Int) - ((b3.1.getD 0 default).n))).toNat) default))
 (.r 20 ((xG t.op b3.1).c) fun x6 =>
 .br x6.known
 (.fin (x6,[]))
 (.fz 100003 <|
 .r 23 ((we b3.2).c) fun x7 =>
 .fin (({ known:=false,n:=0 }:aM),x7)))))
def ae:Nat→Machine→Term→aM × (List Int)
 | 0,_,_=>default
 | fu+1,m,t=>(da (ae fu) (fun _ _=>False) (fun _ _=>fun h=>h.elim) m t).val
theorem WI (fu:Nat) (m:Machine) (n:Int):ae (fu+1) m ⟨0,n,[]⟩=(⟨true,n⟩,[]):=by kernel_rfl
theorem UX (fu:Nat) (m:Machine) (n:Int):ae (fu+1) m ⟨1,n,[]⟩=(⟨true,n⟩,[]):=by kernel_rfl
theorem WJ (fu:Nat) (m:Machine) (n:Int):ae (fu+1) m ⟨2,n,[]⟩=bif (fZ m n).known then (fZ m n,[]) else (⟨false,0⟩,[n]):=by kernel_rfl
def qj (op:Int) (cs:List aM) (ns:List (List Int)):aM × List Int:=bif (cH op cs).known then (cH op cs,[]) else (⟨false,0⟩,tx ns)
theorem WK (fu:Nat) (m:Machine) (n:Int) (a:Term):ae (fu+1) m ⟨3,n,[a]⟩=qj 3 [(ae fu m a).1] [(ae fu m a).2]:=by kernel_rfl
theorem run_ite (fu:Nat) (m:Machine) (n:Int) (a b c:Term):ae (fu+1) m ⟨6,n,[a,b,c]⟩ = 
 (let x:=(ae fu m a); let y:=(ae fu m b); let z:=(ae fu m c);
  bif x.1.known then ([x.1,y.1,z.1].getD (aq (2 - x.1.n)).toNat default,[x.2,y.2,z.2].getD (aq (2 - x.1.n)).toNat default) else qj 6 [x.1,y.1,z.1] [x.2,y.2,z.2]):=by kernel_rfl
theorem UY (fu:Nat) (m:Machine) (n:Int) (a b:Term):ae (fu+1) m ⟨4,n,[a,b]⟩=qj 4 [(ae fu m a).1,(ae fu m b).1] [(ae fu m a).2,(ae fu m b).2]:=by kernel_rfl
theorem UZ (fu:Nat) (m:Machine) (n:Int) (a b:Term):ae (fu+1) m ⟨5,n,[a,b]⟩=qj 5 [(ae fu m a).1,(ae fu m b).1] [(ae fu m a).2,(ae fu m b).2]:=by kernel_rfl
theorem U0 (fu:Nat) (m:Machine) (n:Int) (a b:Term):ae (fu+1) m ⟨7,n,[a,b]⟩=qj 7 [(ae fu m a).1,(ae fu m b).1] [(ae fu m a).2,(ae fu m b).2]:=by kernel_rfl
theorem U1 (fu:Nat) (m:Machine) (n:Int) (a b:Term):ae (fu+1) m ⟨8,n,[a,b]⟩=qj 8 [(ae fu m a).1,(ae fu m b).1] [(ae fu m a).2,(ae fu m b).2]:=by kernel_rfl
theorem U2 (fu:Nat) (m:Machine) (n:Int) (a b:Term):ae (fu+1) m ⟨9,n,[a,b]⟩=qj 9 [(ae fu m a).1,(ae fu m b).1] [(ae fu m a).2,(ae fu m b).2]:=by kernel_rfl
theorem SH (fu:Nat) (m:Machine) (n:Int) (a b:Term):ae (fu+1) m ⟨10,n,[a,b]⟩=qj 10 [(ae fu m a).1,(ae fu m b).1] [(ae fu m a).2,(ae fu m b).2]:=by kernel_rfl
theorem SI (fu:Nat) (m:Machine) (n:Int) (a b:Term):ae (fu+1) m ⟨11,n,[a,b]⟩=qj 11 [(ae fu m a).1,(ae fu m b).1] [(ae fu m a).2,(ae fu m b).2]:=by kernel_rfl
theorem SJ (fu:Nat) (m:Machine) (n:Int) (a b:Term):ae (fu+1) m ⟨12,n,[a,b]⟩=qj 12 [(ae fu m a).1,(ae fu m b).1] [(ae fu m a).2,(ae fu m b).2]:=by kernel_rfl
theorem SK (fu:Nat) (m:Machine) (n:Int) (a b:Term):ae (fu+1) m ⟨13,n,[a,b]⟩=qj 13 [(ae fu m a).1,(ae fu m b).1] [(ae fu m a).2,(ae fu m b).2]:=by kernel_rfl
theorem Fk (fu:Nat) (m:Machine) (op n:Int) (h:op=4∨op=5∨op=7∨op=8∨(9≤op∧op≤13)) (a b:Term):ae (fu+1) m ⟨op,n,[a,b]⟩=qj op [(ae fu m a).1,(ae fu m b).1] [(ae fu m a).2,(ae fu m b).2]:=by
 have:op=4∨op=5∨op=7∨op=8∨op=9∨op=10∨op=11∨op=12∨op=13:=by omega
 rcases this with rfl | rfl | rfl | rfl | rfl | rfl | rfl | rfl | rfl
 ·exact UY fu m n a b
 ·exact UZ fu m n a b
 ·exact U0 fu m n a b
 ·exact U1 fu m n a b
 ·exact U2 fu m n a b
 ·exact SH fu m n a b
 ·exact SI fu m n a b
 ·exact SJ fu m n a b
 ·exact SK fu m n a b
def WH (c:aM):Prop:=c.known=true→c.n=0∨c.n=1
theorem LI (b:Bool):uv b=⟨true,if b then 1 else 0⟩:=by cases b <;> kernel_rfl
theorem U3 (b:Bool):WH (uv b):=by rw [LI]; intro _; cases b <;> simp
theorem U4 (a:aM):cH 3 [a]=bif a.known then uv (a.n == 0) else ⟨false,0⟩:=by
 obtain ⟨k,n⟩:=a
 cases k <;> kernel_rfl
def SL (c:aM) (n:Int):aM:=bif c.known then (bif decide (n < 7) then ⟨true,GU c.n⟩ else ⟨true,bif c.n != 0 then 1 else 0⟩) else ⟨false,0⟩
theorem U5 (m:Machine) (n:Int) (h:0≤n∧n≤19):fZ m n=SL (m.eI.getD n.toNat default) n:=by
 simp only [fZ,eC,Sk.ue,Sk.oe,Sk.jR,gV.Kb,kk,kp,aY.zU,iK,fx,vu,gy,ia,SL,LI]
 rw [show (decide (n < 0)||decide (n > 19))=false from by simp; omega]
 by_cases hl:n≥m.eI.length
 ·have e:m.eI.getD n.toNat default=⟨false,0⟩:=by
   rw [List.getD,List.getElem?_eq_none (by omega)]
   rfl
  rw [e,decide_eq_true hl]
  rfl
 ·rw [decide_eq_false hl]
  cases hk:(m.eI.getD n.toNat default).known with
  | false=>rfl
  | true =>
   by_cases c:n < 7
   ·rw [decide_eq_true c]; rfl
   ·rw [decide_eq_false c]
    cases hn:((m.eI.getD n.toNat default).n != 0) <;> rfl
theorem YZ (c:aM) (n:Int) (h:7≤n):WH (SL c n):=by
 unfold SL
 rw [decide_eq_false (by omega)]
 intro hk
 cases hc:c.known with
 | false=>rw [hc] at hk; exact absurd (show false=true from hk) (by decide)
 | true =>
  cases hn:(c.n != 0)
  ·left; rfl
  ·right; rfl
theorem SM (op:Int) (h:op=4∨op=5) (a b:aM):cH op [a,b]=(let z:Int:=if op=5 then 1 else 0; bif (a.known&&a.n == z)||(b.known&&b.n == z) then ⟨true,z⟩ else bif a.known&&b.known then ⟨true,1 - z⟩ else ⟨false,0⟩):=by
 obtain ⟨k,n⟩:=a
 obtain ⟨k',n'⟩:=b
 rcases h with rfl | rfl
 ·cases k <;> cases k' <;> cases h1:(n == 0) <;> cases h2:(n' == 0) <;> simp [cH,ee,fx,LI,h1,h2]
 ·cases k <;> cases k' <;> cases h1:(n == 1) <;> cases h2:(n' == 1) <;> simp [cH,ee,fx,LI,h1,h2]
theorem WL (a b c:aM):cH 6 [a,b,c]=bif b.known&&(c.known&&b.n == c.n) then b else ⟨false,0⟩:=by
 obtain ⟨k,n⟩:=b
 obtain ⟨k',n'⟩:=c
 cases k <;> cases k' <;> cases h1:(n == n') <;> simp [cH,ee,h1]
theorem G2 (op:Int) (h:7≤op) (a b:aM):cH op [a,b]=bif a.known&&b.known then (if op=7 then uv (decide (a.n < b.n)) else if op=8 then uv (a.n == b.n) else ⟨true,wb op a.n b.n⟩) else ⟨false,0⟩:=by
 obtain ⟨k,n⟩:=a
 obtain ⟨k',n'⟩:=b
 have e3:(op == 3)=false:=by simp; omega
 have e4:(op == 4)=false:=by simp; omega
 have e5:(op == 5)=false:=by simp; omega
 have e6:(op == 6)=false:=by simp; omega
 simp only [cH,ee,Sk.pC,Sk.oe,Sk.ue,Sk.jR,e3,e4,e5,e6,cond_false,Sn,qR,gV.Kb,kk,kp,fx,ni]
 cases k <;> cases k' <;> (try rfl)
 by_cases c7:op=7
 ·subst c7; rfl
 ·have e7:(op == 7)=false:=by simpa using c7
  by_cases c8:op=8
  ·subst c8; rfl
  ·have e8:(op == 8)=false:=by simpa using c8
   simp [e7,e8,c7,c8]
theorem uw (op:Int) (cs:List aM) (ns:List (List Int)) (h:WH (cH op cs)):WH (qj op cs ns).1:=by
 unfold qj
 cases hk:(cH op cs).known with
 | true=>exact h
 | false=>intro h; exact absurd (show false=true from h) (by decide)
theorem qU (op:Int) (cs:List aM) (ns:List (List Int)) (B:Nat) (hB:B≤1000000) (hl:ns.length≤3) (h:∀ q,q < ns.length→(ns.getD q default).length≤B):(qj op cs ns).2.length≤3 * B:=by
 unfold qj
 cases hk:(cH op cs).known with
 | true=>simp
 | false =>
  simp only [cond_false]
  rw [Af ns ⟨by omega,fun q hq=>Nat.le_trans (h q hq) hB⟩]
  have:=LH ns B h ns.length (Nat.le_refl _)
  rw [List.take_length] at this
  have:B * ns.length≤B * 3:=Nat.mul_le_mul_left _ hl
  omega
theorem Y0 (op n:Int) (a:Term):Term.depth ⟨op,n,[a]⟩=a.depth+1:=by simp [Term.depth,Term.fV]
theorem LJ (op n:Int) (a b:Term):Term.depth ⟨op,n,[a,b]⟩=max a.depth b.depth+1:=by simp [Term.depth,Term.fV]
theorem Y1 (op n:Int) (a b c:Term):Term.depth ⟨op,n,[a,b,c]⟩=max a.depth (max b.depth c.depth)+1:=by simp [Term.depth,Term.fV]
theorem jU {a b:Nat} (h:a≤b):3 ^ a≤3 ^ b:=Nat.pow_le_pow_right (by omega) h
theorem Kr {t:Term} {k:Int} (h:uT t k):∀ (fu:Nat) (m:Machine),t.depth≤fu→t.depth≤8→(k=1→WH (ae fu m t).1)∧(ae fu m t).2.length≤3 ^ t.depth:=by
 have h8:∀ d,d≤8→3 ^ d≤1000000:=fun d hd=>Nat.le_trans (jU hd) (by decide)
 induction h with
 | int hn =>
  intro fu m hd _
  cases fu with
  | zero=>exact absurd hd (by simp [Term.depth,Term.fV])
  | succ fu=>rw [WI]; exact ⟨fun h=>absurd h (by decide),by simp⟩
 | @bool n hn =>
  intro fu m hd _
  cases fu with
  | zero=>exact absurd hd (by simp [Term.depth,Term.fV])
  | succ fu=>rw [UX]; exact ⟨fun _ _=>by show n=0∨n=1; omega,by simp⟩
 | @var n hn =>
  intro fu m hd _
  cases fu with
  | zero=>exact absurd hd (by simp [Term.depth,Term.fV])
  | succ fu =>
   rw [WJ,U5 m n hn]
   refine ⟨fun h=>?_,?_⟩
   ·have:=YZ (m.eI.getD n.toNat default) n (by split at h <;> omega)
    cases hk:(SL (m.eI.getD n.toNat default) n).known with
    | true=>exact this
    | false=>intro h; exact absurd (show false=true from h) (by decide)
   ·cases hk:(SL (m.eI.getD n.toNat default) n).known <;> simp [Term.depth,Term.fV]
 | @not a _ ih =>
  intro fu m hd U6
  cases fu with
  | zero=>exact absurd hd (by simp [Term.depth,Term.fV])
  | succ fu =>
   rw [Y0] at hd U6 ⊢
   have ih:=ih fu m (by omega) (by omega)
   rw [WK]
   refine ⟨fun _=>uw _ _ _ ?_,?_⟩
   ·rw [U4]
    cases hk:(ae fu m a).1.known with
    | true=>exact U3 _
    | false=>intro h; exact absurd (show false=true from h) (by decide)
   ·have:=qU 3 [(ae fu m a).1] [(ae fu m a).2] (3 ^ a.depth) (h8 _ (by omega)) (by simp) (fun q hq=>by
     have:q=0:=by simpa using hq
     subst this
     exact ih.2)
    rw [Nat.pow_succ]; omega
 | @WE op a b zE _ _ Ks H3 =>
  intro fu m hd U6
  cases fu with
  | zero=>exact absurd hd (by simp [Term.depth,Term.fV])
  | succ fu =>
   rw [LJ] at hd U6 ⊢
   have Ks:=Ks fu m (by omega) (by omega)
   have H3:=H3 fu m (by omega) (by omega)
   rw [Fk _ _ _ _ (by omega)]
   refine ⟨fun _=>uw _ _ _ ?_,?_⟩
   ·rw [SM op zE]
    dsimp only
    split
    ·cases (((ae fu m a).1.known&&(ae fu m a).1.n == 1)||((ae fu m b).1.known&&(ae fu m b).1.n == 1)) <;> cases ((ae fu m a).1.known&&(ae fu m b).1.known) <;> simp [WH]
    ·cases (((ae fu m a).1.known&&(ae fu m a).1.n == 0)||((ae fu m b).1.known&&(ae fu m b).1.n == 0)) <;> cases ((ae fu m a).1.known&&(ae fu m b).1.known) <;> simp [WH]
   ·have:=qU op [(ae fu m a).1,(ae fu m b).1] [(ae fu m a).2,(ae fu m b).2] (3 ^ (max a.depth b.depth)) (h8 _ (by omega)) (by simp) (fun q hq=>by
     have:q=0∨q=1:=by simp at hq; omega
     rcases this with rfl | rfl
     ·exact Nat.le_trans Ks.2 (jU (by omega))
     ·exact Nat.le_trans H3.2 (jU (by omega)))
    rw [Nat.pow_succ]; omega
 | @ite a b c k ha _ _ Ks H3 ihc =>
  intro fu m hd U6
  cases fu with
  | zero=>exact absurd hd (by simp [Term.depth,Term.fV])
  | succ fu =>
   rw [Y1] at hd U6 ⊢
   have Ks:=Ks fu m (by omega) (by omega)
   have H3:=H3 fu m (by omega) (by omega)
   have ihc:=ihc fu m (by omega) (by omega)
   rw [run_ite]
   dsimp only
   have lb:=Nat.le_trans H3.2 (jU (b:=max a.depth (max b.depth c.depth)+1) (by omega))
   have lc:=Nat.le_trans ihc.2 (jU (b:=max a.depth (max b.depth c.depth)+1) (by omega))
   cases hk:(ae fu m a).1.known with
   | true =>
    simp only [cond_true]
    rcases Ks.1 rfl hk with e | e
    ·rw [e]
     exact ⟨ihc.1,lc⟩
    ·rw [e]
     exact ⟨H3.1,lb⟩
   | false =>
    simp only [cond_false]
    refine ⟨fun h=>uw _ _ _ ?_,?_⟩
    ·rw [WL]
     cases ((ae fu m b).1.known&&((ae fu m c).1.known&&(ae fu m b).1.n == (ae fu m c).1.n)) with
     | true=>exact H3.1 h
     | false=>intro h; exact absurd (show false=true from h) (by decide)
    ·have:=qU 6 [(ae fu m a).1,(ae fu m b).1,(ae fu m c).1] [(ae fu m a).2,(ae fu m b).2,(ae fu m c).2] (3 ^ (max a.depth (max b.depth c.depth))) (h8 _ (by omega)) (by simp) (fun q hq=>by
      have:q=0∨q=1∨q=2:=by simp at hq; omega
      rcases this with rfl | rfl | rfl
      ·exact Nat.le_trans Ks.2 (jU (by omega))
      ·exact Nat.le_trans H3.2 (jU (by omega))
      ·exact Nat.le_trans ihc.2 (jU (by omega)))
     rw [Nat.pow_succ]; omega
 | @less a b _ _ Ks H3 =>
  intro fu m hd U6
  cases fu with
  | zero=>exact absurd hd (by simp [Term.depth,Term.fV])
  | succ fu =>
   rw [LJ] at hd U6 ⊢
   have Ks:=Ks fu m (by omega) (by omega)
   have H3:=H3 fu m (by omega) (by omega)
   rw [Fk _ _ _ _ (by omega)]
   refine ⟨fun _=>uw _ _ _ ?_,?_⟩
   ·rw [G2 7 (by omega)]
    cases ((ae fu m a).1.known&&(ae fu m b).1.known) with
    | true=>exact U3 _
    | false=>intro h; exact absurd (show false=true from h) (by decide)
   ·have:=qU 7 [(ae fu m a).1,(ae fu m b).1] [(ae fu m a).2,(ae fu m b).2] (3 ^ (max a.depth b.depth)) (h8 _ (by omega)) (by simp) (fun q hq=>by
     have:q=0∨q=1:=by simp at hq; omega
     rcases this with rfl | rfl
     ·exact Nat.le_trans Ks.2 (jU (by omega))
     ·exact Nat.le_trans H3.2 (jU (by omega)))
    rw [Nat.pow_succ]; omega
 | @eq a b _ _ _ Ks H3 =>
  intro fu m hd U6
  cases fu with
  | zero=>exact absurd hd (by simp [Term.depth,Term.fV])
  | succ fu =>
   rw [LJ] at hd U6 ⊢
   have Ks:=Ks fu m (by omega) (by omega)
   have H3:=H3 fu m (by omega) (by omega)
   rw [Fk _ _ _ _ (by omega)]
   refine ⟨fun _=>uw _ _ _ ?_,?_⟩
   ·rw [G2 8 (by omega)]
    cases ((ae fu m a).1.known&&(ae fu m b).1.known) with
    | true=>exact U3 _
    | false=>intro h; exact absurd (show false=true from h) (by decide)
   ·have:=qU 8 [(ae fu m a).1,(ae fu m b).1] [(ae fu m a).2,(ae fu m b).2] (3 ^ (max a.depth b.depth)) (h8 _ (by omega)) (by simp) (fun q hq=>by
     have:q=0∨q=1:=by simp at hq; omega
     rcases this with rfl | rfl
     ·exact Nat.le_trans Ks.2 (jU (by omega))
     ·exact Nat.le_trans H3.2 (jU (by omega)))
    rw [Nat.pow_succ]; omega
 | @arith op a b zE _ _ Ks H3 =>
  intro fu m hd U6
  cases fu with
  | zero=>exact absurd hd (by simp [Term.depth,Term.fV])
  | succ fu =>
   rw [LJ] at hd U6 ⊢
   have Ks:=Ks fu m (by omega) (by omega)
   have H3:=H3 fu m (by omega) (by omega)
   rw [Fk _ _ _ _ (by omega)]
   refine ⟨fun h=>absurd h (by decide),?_⟩
   have:=qU op [(ae fu m a).1,(ae fu m b).1] [(ae fu m a).2,(ae fu m b).2] (3 ^ (max a.depth b.depth)) (h8 _ (by omega)) (by simp) (fun q hq=>by
    have:q=0∨q=1:=by simp at hq; omega
    rcases this with rfl | rfl
    ·exact Nat.le_trans Ks.2 (jU (by omega))
    ·exact Nat.le_trans H3.2 (jU (by omega)))
   rw [Nat.pow_succ]; omega
theorem uT.parts {t:Term} {k:Int} (h:uT t k):(t.op=0∨t.op=1∨(t.op=2∧0≤t.n))∨((∀ q,q < t.args.length→∃ j,uT (t.args.getD q default) j)∧((t.op=3∧t.args.length=1)∨(t.op=6∧t.args.length=3∧uT (t.args.getD 0 default) 1)∨(t.op≠0∧t.op≠1∧t.op≠2∧t.op≠3∧t.op≠6∧t.args.length=2))):=by
 cases h with
 | int _=>left; left; rfl
 | bool _=>left; right; left; rfl
 | var h=>left; right; right; exact ⟨rfl,h.1⟩
 | not h =>
  right
  refine ⟨fun q hq=>?_,.inl ⟨rfl,rfl⟩⟩
  obtain rfl:q=0:=by simpa using hq
  exact ⟨_,h⟩
 | WE o h1 h2 =>
  right
  refine ⟨fun q hq=>?_,.inr (.inr ⟨by dsimp only; omega,by dsimp only; omega,by dsimp only; omega,by dsimp only; omega,by dsimp only; omega,rfl⟩)⟩
  have:q=0∨q=1:=by simp at hq; omega
  rcases this with rfl | rfl
  ·exact ⟨_,h1⟩
  ·exact ⟨_,h2⟩
 | ite h1 h2 h3 =>
  right
  refine ⟨fun q hq=>?_,.inr (.inl ⟨rfl,rfl,h1⟩)⟩
  have:q=0∨q=1∨q=2:=by simp at hq; omega
  rcases this with rfl | rfl | rfl
  ·exact ⟨_,h1⟩
  ·exact ⟨_,h2⟩
  ·exact ⟨_,h3⟩
 | less h1 h2 =>
  right
  refine ⟨fun q hq=>?_,.inr (.inr ⟨by dsimp only; omega,by dsimp only; omega,by dsimp only; omega,by dsimp only; omega,by dsimp only; omega,rfl⟩)⟩
  have:q=0∨q=1:=by simp at hq; omega
  rcases this with rfl | rfl
  ·exact ⟨_,h1⟩
  ·exact ⟨_,h2⟩
 | eq h1 h2 =>
  right
  refine ⟨fun q hq=>?_,.inr (.inr ⟨by dsimp only; omega,by dsimp only; omega,by dsimp only; omega,by dsimp only; omega,by dsimp only; omega,rfl⟩)⟩
  have:q=0∨q=1:=by simp at hq; omega
  rcases this with rfl | rfl
  ·exact ⟨_,h1⟩
  ·exact ⟨_,h2⟩
 | arith o h1 h2 =>
  right
  refine ⟨fun q hq=>?_,.inr (.inr ⟨by dsimp only; omega,by dsimp only; omega,by dsimp only; omega,by dsimp only; omega,by dsimp only; omega,rfl⟩)⟩
  have:q=0∨q=1:=by simp at hq; omega
  rcases this with rfl | rfl
  ·exact ⟨_,h1⟩
  ·exact ⟨_,h2⟩
theorem yR (fu:Nat) (rf:∀ (m:Machine) (t:Term),t.depth≤fu∧(t.Bp)→fA Tryz.prog 201 [av [lf aM.cells m.eI],av t.cells] [] (.eD [av ((ae fu m t).1).cells,lv bF ((ae fu m t).2)]) []) (m:Machine) (t:Term) (hm:t.depth≤fu+1) (ht:t.Bp):(da (ae fu) (fun m t=>t.depth≤fu∧(t.Bp)) rf m t).aZ (fun _=>True):=by
 refine Sk.aU _ ?_
 unfold da
 simp only [Sk.jb,Sk.aI,reduceCtorEq,ON,kk,kp,we,xG,pL,qi,maxLen]
 obtain ⟨⟨k,hk⟩,h8⟩:=ht
 have U7:=hk.parts
 refine ⟨⟨fun _=>by simp_all,fun _=>by simp_all⟩,fun b _ hb hbf=>?_⟩
 rw [hb] at hbf
 simp only [LN] at hbf
 refine ⟨fun h2=>?_,fun h2=>?_⟩
 ·simp only [LN] at h2
  rcases U7 with h | h
  ·omega
  ·omega
 ·simp only [LN] at h2
  have hp:(∀ q,q < t.args.length→∃ j,uT (t.args.getD q default) j)∧((t.op=3∧t.args.length=1)∨(t.op=6∧t.args.length=3∧uT (t.args.getD 0 default) 1)∨(t.op≠0∧t.op≠1∧t.op≠2∧t.op≠3∧t.op≠6∧t.args.length=2)):=by
   rcases U7 with h | h
   ·omega
   ·exact h
  obtain ⟨hp1,hp2⟩:=hp
  have hlen:t.args.length≤3:=by omega
  have Qf:∀ q,q < t.args.length→(t.args.getD q default).depth≤fu∧(t.args.getD q default).depth≤8:=fun q hq=>by have:=t.jg q hq; omega
  refine ⟨⟨by omega,by omega,by omega⟩,fun _=>⟨⟨by omega,by omega,by omega⟩,fun _=>⟨⟨⟨by simp,by simp,by omega,fun q hq=>absurd hq (by omega)⟩,fun i hi hl=>⟨fun hc=>⟨⟨by omega,of_decide_eq_true hc⟩,fun _=>⟨⟨⟨?_,?_⟩,fun x hx=>⟨⟨by omega,?_⟩,?_,⟨by omega,?_⟩,?_⟩⟩,fun x hx=>⟨by simp,by simp,fun _=>⟨?_,⟨⟨by simp [hi.1],by simp [hi.2.1],?_,fun q hq=>?_⟩,?_⟩⟩⟩⟩⟩,fun hc=>⟨hi.1,hi.2.1,fun q hq=>hi.2.2.2 q (by simp only [LN] at hc; omega)⟩⟩⟩,fun b hb=>?_⟩⟩⟩
  all_goals (try simp only [LN] at hc)
  ·exact (Qf _ (by omega)).1
  ·exact ⟨hp1 _ (by omega),(Qf _ (by omega)).2⟩
  ·omega
  ·omega
  ·omega
  ·omega
  ·exact aD (by omega) (by omega)
  ·omega
  ·by_cases e:q=i.2.2
   ·subst e
    subst hx
    exact ⟨sJ _ (by omega) _ _,sJ _ (by omega) _ _⟩
   ·have:=hi.2.2.2 q (by omega)
    rw [← this.1,← this.2]
    exact ⟨sK _ e _ _,sK _ e _ _⟩
  ·omega
  ·refine ⟨⟨fun _=>⟨by omega,by omega⟩,fun _=>by omega⟩,fun _=>⟨fun h6=>?_,fun _=>⟨?_,fun x _ _=>⟨?_,?_⟩⟩⟩⟩
   ·simp only [LN] at h6
    have h01:WH (b.1.getD 0 default):=by
     rw [(hb.2.2 0 (by omega)).1]
     rcases hp2 with h | h | h
     ·omega
     ·exact (Kr h.2.2 fu m (Qf 0 (by omega)).1 (Qf 0 (by omega)).2).1 rfl
     ·omega
    have h01:=h01 h6.2
    have hw:aq (2 - (b.1.getD 0 default).n)=2 - (b.1.getD 0 default).n:=aD (by omega) (by omega)
    rw [hw]
    refine ⟨⟨by omega,by omega⟩,fun _=>⟨⟨by omega,by omega⟩,by omega,⟨by omega,by omega⟩,by omega⟩⟩
   ·omega
   ·omega
   ·intro q hq
    rw [hb.2.1] at hq
    rw [(hb.2.2 q hq).2]
    obtain ⟨j,hj⟩:=hp1 q hq
    have:=(Kr hj fu m (Qf q hq).1 (Qf q hq).2).2
    have h3:(3:Nat) ^ (t.args.getD q default).depth≤3 ^ 8:=Nat.pow_le_pow_right (by omega) (Qf q hq).2
    have:(3:Nat) ^ 8=6561:=by decide
    omega
theorem xI (fu:Nat) (rp:Machine→Term→Prop) (rf:∀ (m:Machine) (t:Term),rp m t→fA Tryz.prog 201 [av [lf aM.cells m.eI],av t.cells] [] (.eD [av ((ae fu m t).1).cells,lv bF ((ae fu m t).2)]) []) (m:Machine) (t:Term):(da (ae fu) rp rf m t).val=ae (fu+1) m t:=by kernel_rfl
theorem xJ (fu:Nat):∀ (m:Machine) (t:Term),t.depth≤fu→t.Bp→fA Tryz.prog 201 [av [lf aM.cells m.eI],av t.cells] [] (.eD [av ((ae fu m t).1).cells,lv bF ((ae fu m t).2)]) []:=by
 induction fu with
 | zero=>intro m t hm h0; exact absurd hm (by have:=Term.qT t; omega)
 | succ fu ih =>
  intro m t hm h0
  have h:fA Tryz.prog 201 [av [lf aM.cells m.eI],av t.cells] [] (.eD [av (((da (ae fu) (fun m t=>t.depth≤fu∧(t.Bp)) (fun m t h=>ih m t h.1 h.2) m t).val).1).cells,lv bF (((da (ae fu) (fun m t=>t.depth≤fu∧(t.Bp)) (fun m t h=>ih m t h.1 h.2) m t).val).2)]) []:=fA.sk tok mixed (fun x=>.eD [av x.1.cells,lv bF x.2]) (fun _=>[]) Tryz.func201 rfl (by kernel_rfl) 3000 (da (ae fu) (fun m t=>t.depth≤fu∧(t.Bp)) (fun m t h=>ih m t h.1 h.2) m t) (by kernel_rfl) (yR fu _ m t hm h0)
  rw [xI] at h
  exact h
def oz (m:Machine) (t:Term):aM × (List Int):=ae (t.depth) m t
theorem yS (m:Machine) (t:Term) (ht:t.Bp):fA Tryz.prog 201 [av [lf aM.cells m.eI],av t.cells] [] (.eD [av ((oz m t).1).cells,lv bF ((oz m t).2)]) []:=xJ _ m t (Nat.le_refl _) ht
def rP (m:Machine) (t:Term):gV (aM × (List Int)):=⟨Tryz.prog,201,[av [lf aM.cells m.eI],av t.cells],fun x=>.eD [av x.1.cells,lv bF x.2],false,oz m t,(t.Bp),fun h=>yS m t h,fun _=>True,trivial⟩
def qH (t:Term) (cells:List aM):Sk (aM) :=
 .r 1 ((qG t).c) fun x1 =>
 .br (x1.2 != 0)
 (.fin ({ known:=false,n:=0 }:aM))
 (.r 4 ((rP ({ eI:=cells }:Machine) t).c) fun x2 =>
 .fin x2.1)
def SN t cells:=(qH t cells).val
theorem LK (t:Term) (cells:List aM):(qH t cells).aZ (fun _=>True):=by
 refine Sk.aU _ ?_
 unfold qH
 simp only [Sk.jb,Sk.aI,reduceCtorEq,ON,kk,kp,qG,rP,maxLen]
 intro x _ h hc
 simp only [LN] at hc
 exact ⟨⟨_,(h hc).1⟩,(h hc).2⟩
def DK t cells:=kk tok mixed Tryz.func160 [av t.cells,lv aM.cells cells] (fun x=>av x.cells) true (qH t cells) (SN t cells) (u0 (LK t cells))
def lR (o:Order) (ask:Int) (cells:List aM):Sk (aM × Int) :=
 .r 1 ((Bq o ask).c) fun x1 =>
 .br (x1.2 != 0)
 (.fin (({ known:=false,n:=0 }:aM),x1.2))
 (.r 4 ((DK x1.1 cells).c) fun x2 =>
 .r 5 ((jj ask).c) fun x3 =>
 .br ((x3.1 == 0)&&x2.known)
 (.fin (({ known:=x2.known,n:=ch (bL x2.n 0) 20000 }:aM),0))
 (.fin (x2,0)))
def LL o ask cells:=(lR o ask cells).val
theorem Es (o:Order) (ask:Int) (cells:List aM):(lR o ask cells).aZ (fun _=>True):=by
 unfold lR
 try simp only [jj,Bq,DK]
 exact mO
def xK o ask cells:=kk tok mixed Tryz.func121 [av o.cells,iv ask,lv aM.cells cells] (fun x=>.eD [av x.1.cells,iv x.2]) true (lR o ask cells) (LL o ask cells) (u0 (Es o ask cells))
def vx (r:ai) (forum:Int) (aN:Int) (c_:fj):Sk (tn) :=
 .r 1 ((GS r forum aN c_).c) fun x1 =>
 .br (x1.1.order != (-1))
 (.r 3 (.al (.p (bA x1.1.order r.aC.length)) ((xK (r.aC.getD x1.1.order.toNat default) aN x1.2).c)) fun x2 =>
 .fin ({ cell:=x2.1,order:=x1.1.order,path:=x1.1.path,err:=x2.2 }:tn))
 (.fin x1.1)
def WM r forum aN c_:=(vx r forum aN c_).val
theorem Qg (r:ai) (forum:Int) (aN:Int) (c_:fj) (hf:c_.file.Small) (hb:r.ca) (hr:r.Small):(vx r forum aN c_).aZ (fun _=>True):=by
 simp only [ar.Small,ai.Small,ai.ca] at hf
 simp only [ar.Small,ai.Small,ai.ca] at hb
 simp only [ar.Small,ai.Small,ai.ca] at hr
 unfold vx
 try simp only [GS,xK,ar.Small,ai.Small,ai.ca]
 exact mu
def gz r forum aN c_:=kk tok mixed Tryz.func68 [av r.cells,iv forum,iv aN,av c_.cells] (fun x=>av x.cells) false (vx r forum aN c_) (WM r forum aN c_) (u3 (Qg r forum aN c_))
def sY (r:ai) (forum:Int) (aN:Int) (f:ar) (day:Int):Sk (tn) :=
 .r 2 (((gz r forum aN ({ file:={ f with facts:=[] },sign:=0,gZ:=(-1),im:=(-1),due:=(-1),day:=day }:fj)).Bb 3 18 _ rfl ⟨_,rfl⟩).c) fun x1 =>
 .fin x1
def U8 r forum aN f day:=(sY r forum aN f day).val
theorem Oa (r:ai) (forum:Int) (aN:Int) (f:ar) (day:Int) (hf:f.Small) (bM:r.ca) (bh:r.Small):(sY r forum aN f day).aZ (fun _=>True):=by
 simp only [ar.Small,ai.Small,ai.ca] at hf
 simp only [ar.Small,ai.Small,ai.ca] at bM
 simp only [ar.Small,ai.Small,ai.ca] at bh
 unfold sY
 try simp only [gz,ar.Small,ai.Small,ai.ca]
 exact mu
def mf r forum aN f day:=kk tok mixed Tryz.func99 [av r.cells,iv forum,iv aN,av f.cells,iv day] (fun x=>av x.cells) false (sY r forum aN f day) (U8 r forum aN f day) (u3 (Oa r forum aN f day))
def oZ (s:tn):Sk (Int) :=
 .br ((s.err != 0)||(!s.cell.known))
 (.fin (-1))
 (.fin s.cell.n)
def Qh s:=(oZ s).val
theorem IZ (s:tn):(oZ s).aZ (fun _=>True):=by
 unfold oZ
 exact mO
def nj s:=kk tok mixed Tryz.func67 [av s.cells] (fun x=>iv x) true (oZ s) (Qh s) (u0 (IZ s))
def o8 (x_:List Int):Sk (Int) :=
 .bind false (fun _=>True)
 (.br (decide (((x_.length:Nat):Int) < 1))
 (.dead default)
 (.fin (.inr ())))
 (fun (_:Unit)=>⟨[],[]⟩) fun _ =>
 .r 3 (.p (bA (0:Int) x_.length)) fun _ =>
 .bt
 (.loop (default:Sum (Int) (Int)) (fun i3=>(1:Int)≤i3.2∧i3.2≤(x_.length:Int)) (fun i3=>((x_.length:Int) - i3.2).toNat) ((x_.getD 0 default,1):Int × Int)
 (fun (i3:Int × Int)=>⟨[(3,iv i3.1),(4,iv i3.2)],[]⟩) fun i3 =>
 .br (decide (i3.2 < ((x_.length:Nat):Int)))
 (.r 7 (.p (bA i3.2 x_.length)) fun _ =>
 .fin (.inr (ch i3.1 (x_.getD i3.2.toNat default),aq (i3.2+1))))
 (.fin (.inl (.inr i3.1))))
 (fun (b2:Int)=>⟨[(3,iv b2)],[]⟩) fun b2 =>
 .fin b2
def Qi x_:=(o8 x_).val
theorem I0 (x_:List Int) (hx:x_.length≠0) (hl:x_.length≤1000000000):(o8 x_).aZ (fun _=>True):=by
 unfold o8
 exact mu
def Br x_:=kk tok mixed Tryz.func143 [lv bF x_] (fun x=>iv x) true (o8 x_) (Qi x_) (u2 (I0 x_))
def nk (f:ar):Sk (Int) :=
 .bind true (fun b1=>b1.length≤0+f.ah.length)
 (.loop (default:Sum (Int) ((List Int))) (fun i2=>i2.2≤f.ah.length∧i2.1.length≤0+i2.2) (fun i2=>f.ah.length - i2.2) (([],0):(List Int) × Nat)
 (fun (i2:(List Int) × Nat)=>⟨[(3,ow 100002 i2.1),(16,iv (i2.2:Int))],[(100002,bg 3 1 bF i2.1)]⟩) fun i2 =>
 .lt 14 0 i2.2 f.ah.length
 (.r 5 (.p (bA (i2.2:Int) f.ah.length)) fun _ =>
 .br ((f.aH.cU.kind == 1)&&(((f.ah.getD i2.2 default).kind) == 1))
 (.r 7 (.al (.o [.fc (fQ dr [(f.ah.getD i2.2 default).day])]) (.al (.o [.fc (mV dr i2.1 [(f.ah.getD i2.2 default).day])]) (.al (.t (dr.pB [(f.ah.getD i2.2 default).day])) (.p (yw i2.1.length [(f.ah.getD i2.2 default).day].length 8))))) fun _ =>
 .nx 8 16 i2.2 (i2.1++[(f.ah.getD i2.2 default).day],i2.2+1))
 (.nx 8 16 i2.2 (i2.1,i2.2+1)))
 (.fin (.inl (.inr i2.1))))
 (fun (b1:(List Int))=>⟨[(3,ow 100001 b1)],[(100001,bg 3 1 bF b1)]⟩) fun b1 =>
 .bind true (fun b3=>b3.length≤b1.length+f.au.length)
 (.loop (default:Sum (Int) ((List Int))) (fun i4=>i4.2≤f.au.length∧i4.1.length≤b1.length+i4.2) (fun i4=>f.au.length - i4.2) ((b1,0):(List Int) × Nat)
 (fun (i4:(List Int) × Nat)=>⟨[(3,ow 100005 i4.1),(36,iv (i4.2:Int))],[(100005,bg 3 1 bF i4.1)]⟩) fun i4 =>
 .lt 34 0 i4.2 f.au.length
 (.r 11 (.p (bA (i4.2:Int) f.au.length)) fun _ =>
 .br ((f.aH.cU.kind == 0)&&(((f.au.getD i4.2 default).kind) == 2))
 (.fin (.inl (.inl ((f.au.getD i4.2 default).day))))
 (.br ((f.aH.cU.kind == 1)&&(((f.au.getD i4.2 default).kind) == 1))
 (.r 15 (.al (.o [.fc (fQ dr [(f.au.getD i4.2 default).day])]) (.al (.o [.fc (mV dr i4.1 [(f.au.getD i4.2 default).day])]) (.al (.t (dr.pB [(f.au.getD i4.2 default).day])) (.p (yw i4.1.length [(f.au.getD i4.2 default).day].length 8))))) fun _ =>
 .nx 16 36 i4.2 (i4.1++[(f.au.getD i4.2 default).day],i4.2+1))
 (.nx 16 36 i4.2 (i4.1,i4.2+1))))
 (.fin (.inl (.inr i4.1))))
 (fun (b3:(List Int))=>⟨[(3,ow 100004 b3)],[(100004,bg 3 1 bF b3)]⟩) fun b3 =>
 .br (((b3.length:Nat):Int) == 0)
 (.fin (-1))
 (.r 19 ((Br b3).c) fun x5 =>
 .fin x5)
def Oc f:=(nk f).val
theorem G3 (f:ar) (hf:f.Small):(nk f).aZ (fun _=>True):=by
 simp only [ar.Small,ai.Small] at hf
 unfold nk
 try simp only [Br,ar.Small,ai.Small]
 exact mu
def o9 f:=kk tok mixed Tryz.func101 [av f.cells] (fun x=>iv x) true (nk f) (Oc f) (G3 f)
def kq (r:ai):Sk ((List ByteArray) × (List ByteArray) × (List ByteArray)) :=
 .bind true (fun b1=>b1.length≤0+r.aK.length)
 (.loop (default:Sum ((List ByteArray) × (List ByteArray) × (List ByteArray)) ((List ByteArray))) (fun i2=>i2.2≤r.aK.length∧i2.1.length≤0+i2.2) (fun i2=>r.aK.length - i2.2) (([],0):(List ByteArray) × Nat)
 (fun (i2:(List ByteArray) × Nat)=>⟨[(2,ow 100002 i2.1),(14,iv (i2.2:Int))],[(100002,bg 9 1 gU i2.1)]⟩) fun i2 =>
 .lt 12 0 i2.2 r.aK.length
 (.r 3 (.p (bA (i2.2:Int) r.aK.length)) fun _ =>
 .r 4 (.al (.o [.fc (fQ uc [(r.aK.getD i2.2 default).name])]) (.al (.o [.fc (mV uc i2.1 [(r.aK.getD i2.2 default).name])]) (.al (.t (uc.pB [(r.aK.getD i2.2 default).name])) (.p (yw i2.1.length [(r.aK.getD i2.2 default).name].length 16))))) fun _ =>
 .nx 5 14 i2.2 (i2.1++[(r.aK.getD i2.2 default).name],i2.2+1))
 (.fin (.inl (.inr i2.1))))
 (fun (b1:(List ByteArray))=>⟨[(2,ow 100001 b1)],[(100001,bg 9 1 gU b1)]⟩) fun b1 =>
 .bind true (fun b3=>b3.length≤0+r.aQ.length)
 (.loop (default:Sum ((List ByteArray) × (List ByteArray) × (List ByteArray)) ((List ByteArray))) (fun i4=>i4.2≤r.aQ.length∧i4.1.length≤0+i4.2) (fun i4=>r.aQ.length - i4.2) (([],0):(List ByteArray) × Nat)
 (fun (i4:(List ByteArray) × Nat)=>⟨[(3,ow 100005 i4.1),(27,iv (i4.2:Int))],[(100005,bg 9 1 gU i4.1)]⟩) fun i4 =>
 .lt 25 0 i4.2 r.aQ.length
 (.r 8 (.p (bA (i4.2:Int) r.aQ.length)) fun _ =>
 .r 9 (.al (.o [.fc (fQ uc [(r.aQ.getD i4.2 default).name])]) (.al (.o [.fc (mV uc i4.1 [(r.aQ.getD i4.2 default).name])]) (.al (.t (uc.pB [(r.aQ.getD i4.2 default).name])) (.p (yw i4.1.length [(r.aQ.getD i4.2 default).name].length 16))))) fun _ =>
 .nx 10 27 i4.2 (i4.1++[(r.aQ.getD i4.2 default).name],i4.2+1))
 (.fin (.inl (.inr i4.1))))
 (fun (b3:(List ByteArray))=>⟨[(3,ow 100004 b3)],[(100004,bg 9 1 gU b3)]⟩) fun b3 =>
 .bind true (fun b5=>b5.length≤0+r.aC.length)
 (.loop (default:Sum ((List ByteArray) × (List ByteArray) × (List ByteArray)) ((List ByteArray))) (fun i6=>i6.2≤r.aC.length∧i6.1.length≤0+i6.2) (fun i6=>r.aC.length - i6.2) (([],0):(List ByteArray) × Nat)
 (fun (i6:(List ByteArray) × Nat)=>⟨[(4,ow 100008 i6.1),(40,iv (i6.2:Int))],[(100008,bg 9 1 gU i6.1)]⟩) fun i6 =>
 .lt 38 0 i6.2 r.aC.length
 (.r 13 (.p (bA (i6.2:Int) r.aC.length)) fun _ =>
 .r 14 (.al (.o [.fc (fQ uc [(r.aC.getD i6.2 default).name])]) (.al (.o [.fc (mV uc i6.1 [(r.aC.getD i6.2 default).name])]) (.al (.t (uc.pB [(r.aC.getD i6.2 default).name])) (.p (yw i6.1.length [(r.aC.getD i6.2 default).name].length 16))))) fun _ =>
 .nx 15 40 i6.2 (i6.1++[(r.aC.getD i6.2 default).name],i6.2+1))
 (.fin (.inl (.inr i6.1))))
 (fun (b5:(List ByteArray))=>⟨[(4,ow 100007 b5)],[(100007,bg 9 1 gU b5)]⟩) fun b5 =>
 .fin (b1,b3,b5)
def Od r:=(kq r).val
theorem Et (r:ai):(kq r).cC (fun (x:(List ByteArray) × (List ByteArray) × (List ByteArray))=>x.1.length≤r.aK.length∧x.2.1.length≤r.aQ.length∧x.2.2.length≤r.aC.length):=by
 unfold kq
 try simp only [ar.Small,ai.Small]
 exact B7
theorem G4 (r:ai) (hr:r.Small):(kq r).aZ (fun _=>True):=by
 simp only [ar.Small,ai.Small] at hr
 unfold kq
 try simp only [ar.Small,ai.Small]
 exact mu
def tz r:=kp tok mixed Tryz.func178 [av r.cells] (fun x=>.eD [lv gU x.1,lv gU x.2.1,lv gU x.2.2]) false (Od r) (G4 r) (Et r)
def lS (s:ByteArray):Sk (Bool) :=
 .br ((s.toList == (⟨#[]⟩:ByteArray).toList)||(decide (((s.size:Nat):Int) > 20)))
 (.fin false)
 (.r 3 (.al (.o [.fc (YD s)]) (.p (s.size≤maxLen))) fun _ =>
 .bt
 (.loop (default:Sum (Bool) (Unit)) (fun i2=>i2≤(lj s).length) (fun i2=>(lj s).length - i2) (0:Nat)
 (fun (i2:Nat)=>⟨[(16,iv (i2:Int))],[]⟩) fun i2 =>
 .lt 14 0 i2 ((lj s).length)
 (.r 5 (.p (bA (i2:Int) ((lj s).length))) fun _ =>
 .br ((!(((decide (((lj s).getD i2 default)≥97))&&(decide (((lj s).getD i2 default)≤122)))||((decide (((lj s).getD i2 default)≥65))&&(decide (((lj s).getD i2 default)≤90)))))&&(((i2:Int) == 0)||((((lj s).getD i2 default) != 95)&&((decide (((lj s).getD i2 default) < 48))||(decide (((lj s).getD i2 default) > 57))))))
 (.fin (.inl (.inl false)))
 (.nx 9 16 i2 (i2+1)))
 (.fin (.inl (.inr ()))))
 (fun (_:Unit)=>⟨[],[]⟩) fun _ =>
 .fin true)
def LM s:=(lS s).val
theorem Eu (s:ByteArray):(lS s).aZ (fun _=>True):=by
 unfold lS
 exact mu
def xL s:=kk tok mixed Tryz.func227 [sv s] (fun x=>bv x) true (lS s) (LM s) (u0 (Eu s))
def iM (s:List ByteArray) (v:ByteArray):Sk (Int) :=
 .bind true (fun b1=>∀ q,q < s.length→((s.getD q default).toList == v.toList)=false)
 (.loop (default:Sum (Int) (Unit)) (fun i2=>∀ q,q < i2→((s.getD q default).toList == v.toList)=false) (fun i2=>s.length - i2) (0:Nat)
 (fun (i2:Nat)=>⟨[(8,iv (i2:Int))],[]⟩) fun i2 =>
 .lt 0 0 i2 s.length
 (.r 4 (.p (bA (i2:Int) s.length)) fun _ =>
 .br (v.toList == (s.getD i2 default).toList)
 (.fin (.inl (.inl (i2:Int))))
 (.nx 6 8 i2 (i2+1)))
 (.fin (.inl (.inr ()))))
 (fun (_:Unit)=>⟨[],[]⟩) fun _ =>
 .fin (-1)
def I1 s v:=(iM s v).val
theorem Bs (s:List ByteArray) (v:ByteArray):(iM s v).cC (fun (x:Int)=>(x = -1∧∀ q,q < s.length→((s.getD q default).toList == v.toList)=false)∨(0≤x∧x < s.length∧((s.getD x.toNat default).toList == v.toList)=true∧∀ q,(q:Nat) < x.toNat→((s.getD q default).toList == v.toList)=false)):=by
 unfold iM
 exact B7
theorem CX (s:List ByteArray) (v:ByteArray):(iM s v).aZ (fun _=>True):=by
 unfold iM
 exact mu
def pX s v:=kp tok mixed Tryz.func243 [lv gU s,sv v] (fun x=>iv x) true (I1 s v) (u0 (CX s v)) (Bs s v)
def fE (s:List ByteArray) (v:ByteArray):Sk (Bool) :=
 .r 1 ((pX s v).c) fun x1 =>
 .fin (decide (x1≥0))
def CY s v:=(fE s v).val
theorem xM (s:List ByteArray) (v:ByteArray):(fE s v).cC (fun (x:Bool)=>(x=true↔∃ q,q < s.length∧((s.getD q default).toList == v.toList)=true)):=by
 unfold fE
 try simp only [pX]
 exact B7
theorem yT (s:List ByteArray) (v:ByteArray):(fE s v).aZ (fun _=>True):=by
 unfold fE
 try simp only [pX]
 exact mO
def rQ s v:=kp tok mixed Tryz.func228 [lv gU s,sv v] (fun x=>bv x) true (CY s v) (u0 (yT s v)) (xM s v)
def nm (names:List ByteArray) (i:Int):Sk (Int) :=
 .r 1 (.al (.p (bA i names.length)) ((xL (names.getD i.toNat default)).c)) fun x1 =>
 .br (!x1)
 (.fin 2)
 (.r 3 (.al (.al (.o [.fc (aaM uc names 0 i.toNat)]) (.pt (0≤i∧i≤((names.length:Nat):Int)) (uc.lens names))) (.al (.p (bA i names.length)) ((rQ (qt names 0 i.toNat) (names.getD i.toNat default)).c))) fun x2 =>
 .br x2
 (.fin 5)
 (.fin 0))
def Oe names i:=(nm names i).val
theorem G5 (names:List ByteArray) (i:Int) (hi:0≤i∧i < (names.length:Int)):(nm names i).aZ (fun _=>True):=by
 unfold nm
 try simp only [xL,rQ]
 exact mu
def fN names i:=kk tok mixed Tryz.func210 [lv gU names,iv i] (fun x=>iv x) true (nm names i) (Oe names i) (G5 names i)
def jV (p:Int):Sk (Bool) :=
 .fin true
def xN p:=(jV p).val
theorem Bt (p:Int):xN p=true:=rfl
theorem Bu (p:Int):(jV p).aZ (fun _=>True):=by
 unfold jV
 exact mO
def ux p:=kk tok mixed Tryz.func180 [iv p] (fun x=>bv x) true (jV p) (xN p) (u0 (Bu p))
def jW (names:List ByteArray) (ef:Int):Sk (Int) :=
 .br (decide (((names.length:Nat):Int) > ef))
 (.fin 6)
 (.bt
 (.loop (default:Sum (Int) (Unit)) (fun i2=>i2≤names.length) (fun i2=>names.length - i2) (0:Nat)
 (fun (i2:Nat)=>⟨[(15,iv (i2:Int))],[]⟩) fun i2 =>
 .lt 0 0 i2 names.length
 (.r 6 ((fN names (i2:Int)).c) fun x3 =>
 .br (x3 != 0)
 (.fin (.inl (.inl x3)))
 (.r 9 ((ux (i2:Int)).c) fun x4 =>
 .br (!x4)
 (.fin (.inl (.inl 1)))
 (.nx 11 15 i2 (i2+1))))
 (.fin (.inl (.inr ()))))
 (fun (_:Unit)=>⟨[],[]⟩) fun _ =>
 .fin 0)
def G6 names ef:=(jW names ef).val
theorem Bv (names:List ByteArray) (ef:Int):(jW names ef).aZ (fun _=>True):=by
 unfold jW
 try simp only [ux,fN,Bt]
 exact wx
def oA names ef:=kk tok mixed Tryz.func179 [lv gU names,iv ef,.fn 180 []] (fun x=>iv x) true (jW names ef) (G6 names ef) (u0 (Bv names ef))
def lT (l:List Int) (low:Int) (high:Int):Sk (Bool) :=
 .bt
 (.loop (default:Sum (Bool) (Unit)) (fun i2=>i2≤l.length) (fun i2=>l.length - i2) (0:Nat)
 (fun (i2:Nat)=>⟨[(11,iv (i2:Int))],[]⟩) fun i2 =>
 .lt 0 0 i2 l.length
 (.r 3 (.p (bA (i2:Int) l.length)) fun _ =>
 .r 4 (.wh ((decide ((l.getD i2 default) < low))||(decide ((l.getD i2 default) > high))) false (.wh (decide ((i2:Int) > 0)) true (.p (bA (aq ((i2:Int) - 1)) l.length)))) fun _ =>
 .br (((decide ((l.getD i2 default) < low))||(decide ((l.getD i2 default) > high)))||((decide ((i2:Int) > 0))&&(decide ((l.getD i2 default)≤(l.getD ((aq ((i2:Int) - 1)).toNat) default)))))
 (.fin (.inl (.inl false)))
 (.nx 6 11 i2 (i2+1)))
 (.fin (.inl (.inr ()))))
 (fun (_:Unit)=>⟨[],[]⟩) fun _ =>
 .fin true
def LO l low high:=(lT l low high).val
theorem Ev (l:List Int) (low:Int) (high:Int):(lT l low high).aZ (fun _=>True):=by
 unfold lT
 exact mu
def ga l low high:=kk tok mixed Tryz.func211 [lv bF l,iv low,iv high] (fun x=>bv x) true (lT l low high) (LO l low high) (u0 (Ev l low high))
def pa (r:ai) (c_:gX):Sk (Bool) :=
 .bt
 (.loop (default:Sum (Bool) (Unit)) (fun i2=>i2≤c_.eG.length) (fun i2=>c_.eG.length - i2) (0:Nat)
 (fun (i2:Nat)=>⟨[(10,iv (i2:Int))],[]⟩) fun i2 =>
 .lt 8 0 i2 c_.eG.length
 (.r 3 (.p (bA (i2:Int) c_.eG.length)) fun _ =>
 .r 4 (.al (.p ((100:Int)≠0)) (.wh (decide (((c_.eG.getD i2 default).tmod 100) < 1)) false (.p ((100:Int)≠0)))) fun _ =>
 .br ((decide (((c_.eG.getD i2 default).tmod 100) < 1))||(decide (((c_.eG.getD i2 default).tmod 100) > 31)))
 (.fin (.inl (.inl false)))
 (.nx 6 10 i2 (i2+1)))
 (.fin (.inl (.inr ()))))
 (fun (_:Unit)=>⟨[],[]⟩) fun _ =>
 .r 7 (.dep (.wh ((decide (((c_.eG.length:Nat):Int) > 60))||(decide (((c_.shut.length:Nat):Int) > 200))) false ((bR c_.order ((r.aC.length:Nat):Int)).c)) fun x3=>.wh (((decide (((c_.eG.length:Nat):Int) > 60))||(decide (((c_.shut.length:Nat):Int) > 200)))||(!x3)) false ((bR c_.aE ((r.bN.length:Nat):Int)).c)) fun p9 =>
 .br ((((decide (((c_.eG.length:Nat):Int) > 60))||(decide (((c_.shut.length:Nat):Int) > 200)))||(!p9.1))||(!p9.2))
 (.fin false)
 (.r 9 (.dep ((ga c_.rest 0 6).c) fun x5=>.dep (.wh x5 true ((ga c_.eG 101 1231).c)) fun x6=>.wh (x5&&x6) true ((ga c_.shut 0 100000).c)) fun p8 =>
 .fin ((p8.1&&p8.2.1)&&p8.2.2))
def Qj r c_:=(pa r c_).val
theorem I2 (r:ai) (c_:gX):(pa r c_).aZ (fun _=>True):=by
 unfold pa
 try simp only [bR,ga,gF]
 exact wx
def Bw r c_:=kk tok mixed Tryz.func182 [av r.cells,av c_.cells] (fun x=>bv x) true (pa r c_) (Qj r c_) (u0 (I2 r c_))
def jX (i:Int) (v:ai):Sk (Bool) :=
 .r 1 (.al (.p (bA i v.aK.length)) ((Bw v (v.aK.getD i.toNat default)).c)) fun x1 =>
 .fin x1
def G7 i v:=(jX i v).val
theorem Bx (i:Int) (v:ai) (hi:0≤i∧i < (v.aK.length:Int)):(jX i v).aZ (fun _=>True):=by
 unfold jX
 try simp only [Bw]
 exact mu
def uy i v:=kk tok mixed Tryz.func181 [iv i,.ref v.cells] (fun x=>bv x) true (jX i v) (G7 i v) (Bx i v)
def jY (names:List ByteArray) (ef:Int) (v:ai):Sk (Int) :=
 .br (decide (((names.length:Nat):Int) > ef))
 (.fin 6)
 (.bt
 (.loop (default:Sum (Int) (Unit)) (fun i2=>i2≤names.length) (fun i2=>names.length - i2) (0:Nat)
 (fun (i2:Nat)=>⟨[(15,iv (i2:Int))],[]⟩) fun i2 =>
 .lt 0 0 i2 names.length
 (.r 6 ((fN names (i2:Int)).c) fun x3 =>
 .br (x3 != 0)
 (.fin (.inl (.inl x3)))
 (.r 9 ((uy (i2:Int) v).c) fun x4 =>
 .br (!x4)
 (.fin (.inl (.inl 1)))
 (.nx 11 15 i2 (i2+1))))
 (.fin (.inl (.inr ()))))
 (fun (_:Unit)=>⟨[],[]⟩) fun _ =>
 .fin 0)
def G8 names ef v:=(jY names ef v).val
theorem Bz (names:List ByteArray) (ef:Int) (v:ai) (hv:names.length≤v.aK.length):(jY names ef v).aZ (fun _=>True):=by
 unfold jY
 try simp only [uy,fN]
 exact mu
def oB names ef v:=kk tok mixed Tryz.func179 [lv gU names,iv ef,.fn 181 [.ref v.cells]] (fun x=>iv x) true (jY names ef v) (G8 names ef v) (Bz names ef v)
def jZ (i:Int) (v:ai):Sk (Bool) :=
 .r 1 (.al (.p (bA i v.aQ.length)) (.dep ((bR ((v.aQ.getD i.toNat default).bQ) ((v.aK.length:Nat):Int)).c) fun x1=>.al (.wh x1 true (.p (bA i v.aQ.length))) (.wh x1 true ((bR ((v.aQ.getD i.toNat default).group) ((v.eH.length:Nat):Int)).c)))) fun p3 =>
 .fin (p3.1&&p3.2)
def G9 i v:=(jZ i v).val
theorem BA (i:Int) (v:ai) (hi:0≤i∧i < (v.aQ.length:Int)):(jZ i v).aZ (fun _=>True):=by
 unfold jZ
 try simp only [bR,gF]
 exact wx
def uz i v:=kk tok mixed Tryz.func184 [iv i,.ref v.cells] (fun x=>bv x) true (jZ i v) (G9 i v) (BA i v)
def j0 (names:List ByteArray) (ef:Int) (v:ai):Sk (Int) :=
 .br (decide (((names.length:Nat):Int) > ef))
 (.fin 6)
 (.bt
 (.loop (default:Sum (Int) (Unit)) (fun i2=>i2≤names.length) (fun i2=>names.length - i2) (0:Nat)
 (fun (i2:Nat)=>⟨[(15,iv (i2:Int))],[]⟩) fun i2 =>
 .lt 0 0 i2 names.length
 (.r 6 ((fN names (i2:Int)).c) fun x3 =>
 .br (x3 != 0)
 (.fin (.inl (.inl x3)))
 (.r 9 ((uz (i2:Int) v).c) fun x4 =>
 .br (!x4)
 (.fin (.inl (.inl 1)))
 (.nx 11 15 i2 (i2+1))))
 (.fin (.inl (.inr ()))))
 (fun (_:Unit)=>⟨[],[]⟩) fun _ =>
 .fin 0)
def Ha names ef v:=(j0 names ef v).val
theorem BB (names:List ByteArray) (ef:Int) (v:ai) (hv:names.length≤v.aQ.length):(j0 names ef v).aZ (fun _=>True):=by
 unfold j0
 try simp only [uz,fN]
 exact mu
def oC names ef v:=kk tok mixed Tryz.func179 [lv gU names,iv ef,.fn 184 [.ref v.cells]] (fun x=>iv x) true (j0 names ef v) (Ha names ef v) (BB names ef v)
def np (o:Order):Sk (Bool) :=
 .bind true (fun b1=>b1.length≤0+o.aP.length)
 (.loop (default:Sum (Bool) ((List Int))) (fun i2=>i2.2≤o.aP.length∧i2.1.length≤0+i2.2) (fun i2=>o.aP.length - i2.2) (([],0):(List Int) × Nat)
 (fun (i2:(List Int) × Nat)=>⟨[(3,ow 100002 i2.1),(12,iv (i2.2:Int))],[(100002,bg 3 1 bF i2.1)]⟩) fun i2 =>
 .lt 10 0 i2.2 o.aP.length
 (.r 4 (.p (bA (i2.2:Int) o.aP.length)) fun _ =>
 .r 5 (.al (.o [.fc (fQ dr [(o.aP.getD i2.2 default).ask])]) (.al (.o [.fc (mV dr i2.1 [(o.aP.getD i2.2 default).ask])]) (.al (.t (dr.pB [(o.aP.getD i2.2 default).ask])) (.p (yw i2.1.length [(o.aP.getD i2.2 default).ask].length 8))))) fun _ =>
 .r 6 ((bR ((o.aP.getD i2.2 default).cj) 5).c) fun x3 =>
 .br (!x3)
 (.fin (.inl (.inl false)))
 (.nx 8 12 i2.2 (i2.1++[(o.aP.getD i2.2 default).ask],i2.2+1)))
 (.fin (.inl (.inr i2.1))))
 (fun (b1:(List Int))=>⟨[(3,ow 100001 b1)],[(100001,bg 3 1 bF b1)]⟩) fun b1 =>
 .bind true (fun b4=>b4.length≤0+o.rules.length)
 (.loop (default:Sum (Bool) ((List Int))) (fun i5=>i5.2≤o.rules.length∧i5.1.length≤0+i5.2) (fun i5=>o.rules.length - i5.2) (([],0):(List Int) × Nat)
 (fun (i5:(List Int) × Nat)=>⟨[(4,ow 100005 i5.1),(29,iv (i5.2:Int))],[(100005,bg 3 1 bF i5.1)]⟩) fun i5 =>
 .lt 27 0 i5.2 o.rules.length
 (.r 11 (.p (bA (i5.2:Int) o.rules.length)) fun _ =>
 .r 12 (.al (.o [.fc (fQ dr [(o.rules.getD i5.2 default).ask])]) (.al (.o [.fc (mV dr i5.1 [(o.rules.getD i5.2 default).ask])]) (.al (.t (dr.pB [(o.rules.getD i5.2 default).ask])) (.p (yw i5.1.length [(o.rules.getD i5.2 default).ask].length 8))))) fun _ =>
 .nx 13 29 i5.2 (i5.1++[(o.rules.getD i5.2 default).ask],i5.2+1))
 (.fin (.inl (.inr i5.1))))
 (fun (b4:(List Int))=>⟨[(4,ow 100004 b4)],[(100004,bg 3 1 bF b4)]⟩) fun b4 =>
 .r 14 (.dep ((ga b1 0 21).c) fun x6=>.wh x6 true ((ga b4 0 21).c)) fun p8 =>
 .fin (p8.1&&p8.2)
def Og o:=(np o).val
theorem Hb (o:Order) (ho:o.aP.length≤1000000∧o.rules.length≤1000000):(np o).aZ (fun _=>True):=by
 unfold np
 try simp only [bR,ga,gF]
 exact wx
def zA o:=kk tok mixed Tryz.func186 [av o.cells] (fun x=>bv x) true (np o) (Og o) (Hb o)
def j4 (i:Int) (v:ai):Sk (Bool) :=
 .r 1 (.al (.p (bA i v.aC.length)) ((zA (v.aC.getD i.toNat default)).c)) fun x1 =>
 .fin x1
def Hc i v:=(j4 i v).val
theorem BC (i:Int) (v:ai) (hi:0≤i∧i < (v.aC.length:Int)) (hv:v.Small):(j4 i v).aZ (fun _=>True):=by
 simp only [ar.Small,ai.Small] at hv
 unfold j4
 try simp only [zA,ar.Small,ai.Small]
 exact mu
def uA i v:=kk tok mixed Tryz.func185 [iv i,.ref v.cells] (fun x=>bv x) true (j4 i v) (Hc i v) (u2 (BC i v))
def j5 (names:List ByteArray) (ef:Int) (v:ai):Sk (Int) :=
 .br (decide (((names.length:Nat):Int) > ef))
 (.fin 6)
 (.bt
 (.loop (default:Sum (Int) (Unit)) (fun i2=>i2≤names.length) (fun i2=>names.length - i2) (0:Nat)
 (fun (i2:Nat)=>⟨[(15,iv (i2:Int))],[]⟩) fun i2 =>
 .lt 0 0 i2 names.length
 (.r 6 ((fN names (i2:Int)).c) fun x3 =>
 .br (x3 != 0)
 (.fin (.inl (.inl x3)))
 (.r 9 ((uA (i2:Int) v).c) fun x4 =>
 .br (!x4)
 (.fin (.inl (.inl 1)))
 (.nx 11 15 i2 (i2+1))))
 (.fin (.inl (.inr ()))))
 (fun (_:Unit)=>⟨[],[]⟩) fun _ =>
 .fin 0)
def Hd names ef v:=(j5 names ef v).val
theorem BD (names:List ByteArray) (ef:Int) (v:ai) (hv:names.length≤v.aC.length) (hs:v.Small):(j5 names ef v).aZ (fun _=>True):=by
 simp only [ar.Small,ai.Small] at hs
 unfold j5
 try simp only [uA,fN,ar.Small,ai.Small]
 exact mu
def oD names ef v:=kk tok mixed Tryz.func179 [lv gU names,iv ef,.fn 185 [.ref v.cells]] (fun x=>iv x) true (j5 names ef v) (Hd names ef v) (u2 (BD names ef v))
def kV (r:ai):Sk (Int) :=
 .br (decide (((r.aJ.length:Nat):Int) > 100))
 (.fin 6)
 (.bt
 (.loop (default:Sum (Int) (Unit)) (fun i2=>i2≤r.aJ.length) (fun i2=>r.aJ.length - i2) (0:Nat)
 (fun (i2:Nat)=>⟨[(14,iv (i2:Int))],[]⟩) fun i2 =>
 .lt 12 0 i2 r.aJ.length
 (.bt
 (.r 5 (.p (bA (i2:Int) r.aJ.length)) fun _ =>
 .r 6 (.dep ((bR ((r.aJ.getD i2 default).from_) ((r.aK.length:Nat):Int)).c) fun x4=>.wh (!x4) false ((bR ((r.aJ.getD i2 default).bP) ((r.aK.length:Nat):Int)).c)) fun p8 =>
 .br ((((!p8.1)||(!p8.2))||(decide (((r.aJ.getD i2 default).days) < 1)))||(decide (((r.aJ.getD i2 default).days) > 20000)))
 (.fin (.inl (.inl (.inl 1))))
 (.r 8 (.al (.o [.fc (aaM cR.E r.aJ 0 i2)]) (.pt (0≤(i2:Int)∧(i2:Int)≤((r.aJ.length:Nat):Int)) (cR.E.lens r.aJ))) fun _ =>
 .bt
 (.loop (default:Sum (Sum (Sum (Sum (Int) (Unit)) (Nat)) (Int × Int × cR × Int × (List gX) × Int × Bool × Bool × Bool × Bool × Bool × Bool × Bool × Bool × (List cR) × Int × (List cR) × Int × Int × Bool)) (Int × Bool)) (fun i7=>i7≤(qt r.aJ 0 i2).length) (fun i7=>(qt r.aJ 0 i2).length - i7) (0:Nat)
 (fun (i7:Nat)=>⟨[(50,iv (i7:Int))],[]⟩) fun i7 =>
 .lt 48 0 i7 ((qt r.aJ 0 i2).length)
 (.r 10 (.p (bA (i7:Int) ((qt r.aJ 0 i2).length))) fun _ =>
 .br (((((qt r.aJ 0 i2).getD i7 default).from_) == ((r.aJ.getD i2 default).from_))&&((((qt r.aJ 0 i2).getD i7 default).bP) == ((r.aJ.getD i2 default).bP)))
 (.fin (.inl (.inl (.inl (.inl (.inl 5))))))
 (.nx 13 50 i7 (i7+1)))
 (.fin (.inl (.inr ((i7:Int),decide ((i7:Int) < (((qt r.aJ 0 i2).length:Nat):Int)))))))
 (fun (b6:Int × Bool)=>⟨[(50,iv b6.1),(51,bv b6.2)],[]⟩) fun b6 =>
 .fin (.inr ((i2:Int),(i2:Int),r.aJ.getD i2 default,(r.aJ.getD i2 default).from_,r.aK,((r.aK.length:Nat):Int),p8.1,!p8.1,!p8.1,(!p8.1)||(!p8.2),(!p8.1)||(!p8.2),((!p8.1)||(!p8.2))||(decide (((r.aJ.getD i2 default).days) < 1)),((!p8.1)||(!p8.2))||(decide (((r.aJ.getD i2 default).days) < 1)),(((!p8.1)||(!p8.2))||(decide (((r.aJ.getD i2 default).days) < 1)))||(decide (((r.aJ.getD i2 default).days) > 20000)),r.aJ,(i2:Int),qt r.aJ 0 i2,(((qt r.aJ 0 i2).length:Nat):Int),b6.1,b6.2))))
 (fun (b3:Int × Int × cR × Int × (List gX) × Int × Bool × Bool × Bool × Bool × Bool × Bool × Bool × Bool × (List cR) × Int × (List cR) × Int × Int × Bool)=>⟨[(3,iv b3.1),(16,iv b3.2.1),(18,av b3.2.2.1.cells),(20,iv b3.2.2.2.1),(22,lv gX.cells b3.2.2.2.2.1),(23,iv b3.2.2.2.2.2.1),(24,bv b3.2.2.2.2.2.2.1),(25,bv b3.2.2.2.2.2.2.2.1),(26,bv b3.2.2.2.2.2.2.2.2.1),(34,bv b3.2.2.2.2.2.2.2.2.2.1),(35,bv b3.2.2.2.2.2.2.2.2.2.2.1),(39,bv b3.2.2.2.2.2.2.2.2.2.2.2.1),(40,bv b3.2.2.2.2.2.2.2.2.2.2.2.2.1),(44,bv b3.2.2.2.2.2.2.2.2.2.2.2.2.2.1),(46,lv cR.cells b3.2.2.2.2.2.2.2.2.2.2.2.2.2.2.1),(47,iv b3.2.2.2.2.2.2.2.2.2.2.2.2.2.2.2.1),(48,lv cR.cells b3.2.2.2.2.2.2.2.2.2.2.2.2.2.2.2.2.1),(49,iv b3.2.2.2.2.2.2.2.2.2.2.2.2.2.2.2.2.2.1),(50,iv b3.2.2.2.2.2.2.2.2.2.2.2.2.2.2.2.2.2.2.1),(51,bv b3.2.2.2.2.2.2.2.2.2.2.2.2.2.2.2.2.2.2.2)],[]⟩) fun _ =>
 .nx 14 14 i2 (i2+1))
 (.fin (.inl (.inr ()))))
 (fun (_:Unit)=>⟨[],[]⟩) fun _ =>
 .fin 0)
def I3 r:=(kV r).val
theorem CZ (r:ai):(kV r).aZ (fun _=>True):=by
 unfold kV
 try simp only [bR,gF]
 exact wx
def pY r:=kk tok mixed Tryz.func187 [av r.cells] (fun x=>iv x) true (kV r) (I3 r) (u0 (CZ r))
def lF (r:ai):Sk (Int) :=
 .br (decide (((r.bn.length:Nat):Int) > 100))
 (.fin 6)
 (.bt
 (.loop (default:Sum (Int) (Unit)) (fun i2=>i2≤r.bn.length) (fun i2=>r.bn.length - i2) (0:Nat)
 (fun (i2:Nat)=>⟨[(14,iv (i2:Int))],[]⟩) fun i2 =>
 .lt 12 0 i2 r.bn.length
 (.r 5 (.p (bA (i2:Int) r.bn.length)) fun _ =>
 .r 6 (.dep ((bR ((r.bn.getD i2 default).from_) ((r.bN.length:Nat):Int)).c) fun x3=>.dep (.wh (!x3) false ((bR ((r.bn.getD i2 default).bP) ((r.bN.length:Nat):Int)).c)) fun x4=>.dep (.wh (((!x3)||(!x4))||(((r.bn.getD i2 default).from_) == ((r.bn.getD i2 default).bP))) false ((bR (aq (((r.bn.getD i2 default).num) - 1)) 1073741824).c)) fun x5=>.dep (.wh ((((!x3)||(!x4))||(((r.bn.getD i2 default).from_) == ((r.bn.getD i2 default).bP)))||(!x5)) false ((bR (aq (((r.bn.getD i2 default).den) - 1)) 1073741824).c)) fun x6=>.wh (((((!x3)||(!x4))||(((r.bn.getD i2 default).from_) == ((r.bn.getD i2 default).bP)))||(!x5))||(!x6)) false ((bR ((r.bn.getD i2 default).since) 100001).c)) fun p8 =>
 .br ((((((!p8.1)||(!p8.2.1))||(((r.bn.getD i2 default).from_) == ((r.bn.getD i2 default).bP)))||(!p8.2.2.1))||(!p8.2.2.2.1))||(!p8.2.2.2.2))
 (.fin (.inl (.inl 1)))
 (.nx 8 14 i2 (i2+1)))
 (.fin (.inl (.inr ()))))
 (fun (_:Unit)=>⟨[],[]⟩) fun _ =>
 .br (decide (((r.dp.length:Nat):Int) > 20))
 (.fin 6)
 (.bind true (fun b9=>r.c6)
 (.loop (default:Sum (Int) (Unit)) (fun i10=>(∀ i,i < i10→(r.dp.getD i default).bP≤100000)∧i10≤r.dp.length) (fun i10=>r.dp.length - i10) (0:Nat)
 (fun (i10:Nat)=>⟨[(69,iv (i10:Int))],[]⟩) fun i10 =>
 .lt 67 0 i10 r.dp.length
 (.r 13 (.p (bA (i10:Int) r.dp.length)) fun _ =>
 .r 14 ((bR ((r.dp.getD i10 default).order) ((r.aC.length:Nat):Int)).c) fun YM =>
 .br ((((!YM)||(decide (((r.dp.getD i10 default).from_) < 0)))||(decide (((r.dp.getD i10 default).from_) > ((r.dp.getD i10 default).bP))))||(decide (((r.dp.getD i10 default).bP) > 100000)))
 (.fin (.inl (.inl 1)))
 (.nx 16 69 i10 (i10+1)))
 (.fin (.inl (.inr ()))))
 (fun (_:Unit)=>⟨[],[]⟩) fun _ =>
 .fin 0))
def Qk r:=(lF r).val
theorem He (r:ai):(lF r).cC (fun (x:Int)=>x=0→r.c6):=by
 unfold lF
 try simp only [bR,gF,ai.c6]
 exact O3
theorem I4 (r:ai):(lF r).aZ (fun _=>True):=by
 unfold lF
 try simp only [bR,gF,ai.c6]
 exact wx
def vy r:=kp tok mixed Tryz.func188 [av r.cells] (fun x=>iv x) true (Qk r) (u0 (I4 r)) (He r)
def kr (r:ai):Sk (Int) :=
 .r 1 ((tz r).c) fun x1 =>
 .r 2 ((oA r.bN 8).c) fun x2 =>
 .br (x2 != 0)
 (.fin x2)
 (.r 5 ((oB x1.1 40 r).c) fun x3 =>
 .br (x3 != 0)
 (.fin x3)
 (.br (decide (((r.eH.length:Nat):Int) > 20))
 (.fin 6)
 (.bt
 (.loop (default:Sum (Int) (Unit)) (fun i5=>i5≤r.eH.length) (fun i5=>r.eH.length - i5) (0:Nat)
 (fun (i5:Nat)=>⟨[(38,iv (i5:Int))],[]⟩) fun i5 =>
 .lt 36 0 i5 r.eH.length
 (.r 12 (.p (bA (i5:Int) r.eH.length)) fun _ =>
 .r 13 ((bR ((r.eH.getD i5 default).Nz) 10).c) fun x6 =>
 .br (!x6)
 (.fin (.inl (.inl 1)))
 (.nx 15 38 i5 (i5+1)))
 (.fin (.inl (.inr ()))))
 (fun (_:Unit)=>⟨[],[]⟩) fun _ =>
 .r 16 ((oC x1.2.1 200 r).c) fun x7 =>
 .br (x7 != 0)
 (.fin x7)
 (.r 19 ((oD x1.2.2 20 r).c) fun x8 =>
 .br (x8 != 0)
 (.fin x8)
 (.r 22 ((pY r).c) fun x9 =>
 .br (x9 != 0)
 (.fin x9)
 (.r 25 ((vy r).c) fun Mk =>
 .fin Mk))))))
def Oh r:=(kr r).val
theorem Ew (r:ai):(kr r).cC (fun (x:Int)=>x=0→r.c6):=by
 unfold kr
 try simp only [oA,oB,oC,oD,bR,tz,vy,pY,gF,ar.Small,ai.Small,ai.c6]
 exact O3
theorem Hf (r:ai) (hr:r.Small):(kr r).aZ (fun _=>True):=by
 simp only [ar.Small,ai.Small,ai.c6] at hr
 unfold kr
 try simp only [oA,oB,oC,oD,bR,tz,vy,pY,gF,ar.Small,ai.Small,ai.c6]
 exact wx
def tA r:=kp tok mixed Tryz.func137 [av r.cells] (fun x=>iv x) true (Oh r) (Hf r) (Ew r)
def lU (r:ai) (bQ:Int):Sk (Bool) :=
 .fin ((decide (bQ≥0))&&(decide (bQ < ((r.aK.length:Nat):Int))))
def BE r bQ:=(lU r bQ).val
theorem wg (r:ai) (bQ:Int):BE r bQ=((decide (bQ≥0))&&(decide (bQ < ((r.aK.length:Nat):Int)))):=rfl
theorem Ex (r:ai) (bQ:Int):(lU r bQ).aZ (fun _=>True):=by
 unfold lU
 exact mO
def nr r bQ:=kk tok mixed Tryz.func138 [av r.cells,iv bQ] (fun x=>bv x) true (lU r bQ) (BE r bQ) (u0 (Ex r bQ))
def nw (n:Int):Sk (Bool) :=
 .fin ((decide (n≥0))&&(decide (n≤100000)))
def DL n:=(nw n).val
theorem xO (n:Int):DL n=((decide (n≥0))&&(decide (n≤100000))):=rfl
theorem Hg (n:Int):(nw n).aZ (fun _=>True):=by
 unfold nw
 exact mO
def lG n:=kk tok mixed Tryz.func139 [iv n] (fun x=>bv x) true (nw n) (DL n) (u0 (Hg n))
def lV (t:pD):Sk (Bool) :=
 .fin ((t.kind == 0)||(t.kind == 1))
def BF t:=(lV t).val
theorem wj (t:pD):BF t=((t.kind == 0)||(t.kind == 1)):=rfl
theorem Ey (t:pD):(lV t).aZ (fun _=>True):=by
 unfold lV
 exact mO
def rR t:=kk tok mixed Tryz.func140 [av t.cells] (fun x=>bv x) true (lV t) (BF t) (u0 (Ey t))
def gJ (day:Int):Sk (Bool) :=
 .fin ((decide ((0:Int)≤day))&&(decide (day≤100000)))
def dN day:=(gJ day).val
theorem ny (day:Int):dN day=((decide ((0:Int)≤day))&&(decide (day≤100000))):=rfl
theorem BG (day:Int):(gJ day).aZ (fun _=>True):=by
 unfold gJ
 exact mO
def eK day:=kk tok mixed Tryz.func213 [iv day] (fun x=>bv x) true (gJ day) (dN day) (u0 (BG day))
theorem BH (day:Int):fA Tryz.prog 213 [iv day] [] (bv (dN day)) []:=(eK day).pf trivial
def j6 (day:Int):Sk (Int × Int × Int) :=
 .r 2 (.al (.p ((146097:Int)≠0)) (.p ((146097:Int)≠0))) fun _ =>
 .r 3 (.al (.p ((1460:Int)≠0)) (.al (.p ((36524:Int)≠0)) (.al (.p ((146096:Int)≠0)) (.p ((365:Int)≠0))))) fun _ =>
 .r 4 (.al (.p ((4:Int)≠0)) (.p ((100:Int)≠0))) fun _ =>
 .r 5 (.p ((153:Int)≠0)) fun _ =>
 .r 6 (.p ((5:Int)≠0)) fun _ =>
 .bind false (fun _=>True)
 (.br (decide ((aq ((aq ((aq ((aq ((5:Int) * (aq (((aq (day+730425)).tmod 146097) - (aq ((aq ((aq ((365:Int) * (aq ((aq ((aq ((aq (((aq (day+730425)).tmod 146097) - (aq (((aq (day+730425)).tmod 146097).tdiv 1460))))+(aq (((aq (day+730425)).tmod 146097).tdiv 36524)))) - (aq (((aq (day+730425)).tmod 146097).tdiv 146096)))).tdiv 365))))+(aq ((aq ((aq ((aq ((aq (((aq (day+730425)).tmod 146097) - (aq (((aq (day+730425)).tmod 146097).tdiv 1460))))+(aq (((aq (day+730425)).tmod 146097).tdiv 36524)))) - (aq (((aq (day+730425)).tmod 146097).tdiv 146096)))).tdiv 365)).tdiv 4)))) - (aq ((aq ((aq ((aq ((aq (((aq (day+730425)).tmod 146097) - (aq (((aq (day+730425)).tmod 146097).tdiv 1460))))+(aq (((aq (day+730425)).tmod 146097).tdiv 36524)))) - (aq (((aq (day+730425)).tmod 146097).tdiv 146096)))).tdiv 365)).tdiv 100))))))))+2)).tdiv 153))+3)) > 12))
 (.fin (.inr (aq ((aq ((aq ((aq ((aq ((5:Int) * (aq (((aq (day+730425)).tmod 146097) - (aq ((aq ((aq ((365:Int) * (aq ((aq ((aq ((aq (((aq (day+730425)).tmod 146097) - (aq (((aq (day+730425)).tmod 146097).tdiv 1460))))+(aq (((aq (day+730425)).tmod 146097).tdiv 36524)))) - (aq (((aq (day+730425)).tmod 146097).tdiv 146096)))).tdiv 365))))+(aq ((aq ((aq ((aq ((aq (((aq (day+730425)).tmod 146097) - (aq (((aq (day+730425)).tmod 146097).tdiv 1460))))+(aq (((aq (day+730425)).tmod 146097).tdiv 36524)))) - (aq (((aq (day+730425)).tmod 146097).tdiv 146096)))).tdiv 365)).tdiv 4)))) - (aq ((aq ((aq ((aq ((aq (((aq (day+730425)).tmod 146097) - (aq (((aq (day+730425)).tmod 146097).tdiv 1460))))+(aq (((aq (day+730425)).tmod 146097).tdiv 36524)))) - (aq (((aq (day+730425)).tmod 146097).tdiv 146096)))).tdiv 365)).tdiv 100))))))))+2)).tdiv 153))+3)) - 12))))
 (.fin (.inr (aq ((aq ((aq ((aq ((5:Int) * (aq (((aq (day+730425)).tmod 146097) - (aq ((aq ((aq ((365:Int) * (aq ((aq ((aq ((aq (((aq (day+730425)).tmod 146097) - (aq (((aq (day+730425)).tmod 146097).tdiv 1460))))+(aq (((aq (day+730425)).tmod 146097).tdiv 36524)))) - (aq (((aq (day+730425)).tmod 146097).tdiv 146096)))).tdiv 365))))+(aq ((aq ((aq ((aq ((aq (((aq (day+730425)).tmod 146097) - (aq (((aq (day+730425)).tmod 146097).tdiv 1460))))+(aq (((aq (day+730425)).tmod 146097).tdiv 36524)))) - (aq (((aq (day+730425)).tmod 146097).tdiv 146096)))).tdiv 365)).tdiv 4)))) - (aq ((aq ((aq ((aq ((aq (((aq (day+730425)).tmod 146097) - (aq (((aq (day+730425)).tmod 146097).tdiv 1460))))+(aq (((aq (day+730425)).tmod 146097).tdiv 36524)))) - (aq (((aq (day+730425)).tmod 146097).tdiv 146096)))).tdiv 365)).tdiv 100))))))))+2)).tdiv 153))+3)))))
 (fun (b1:Int)=>⟨[(3,iv b1)],[]⟩) fun b1 =>
 .br (decide (b1 < 3))
 (.fin (aq ((aq ((aq ((aq ((aq ((aq (((aq (day+730425)).tmod 146097) - (aq (((aq (day+730425)).tmod 146097).tdiv 1460))))+(aq (((aq (day+730425)).tmod 146097).tdiv 36524)))) - (aq (((aq (day+730425)).tmod 146097).tdiv 146096)))).tdiv 365))+(aq ((400:Int) * (aq ((aq (day+730425)).tdiv 146097))))))+1),b1,aq ((aq ((aq (((aq (day+730425)).tmod 146097) - (aq ((aq ((aq ((365:Int) * (aq ((aq ((aq ((aq (((aq (day+730425)).tmod 146097) - (aq (((aq (day+730425)).tmod 146097).tdiv 1460))))+(aq (((aq (day+730425)).tmod 146097).tdiv 36524)))) - (aq (((aq (day+730425)).tmod 146097).tdiv 146096)))).tdiv 365))))+(aq ((aq ((aq ((aq ((aq (((aq (day+730425)).tmod 146097) - (aq (((aq (day+730425)).tmod 146097).tdiv 1460))))+(aq (((aq (day+730425)).tmod 146097).tdiv 36524)))) - (aq (((aq (day+730425)).tmod 146097).tdiv 146096)))).tdiv 365)).tdiv 4)))) - (aq ((aq ((aq ((aq ((aq (((aq (day+730425)).tmod 146097) - (aq (((aq (day+730425)).tmod 146097).tdiv 1460))))+(aq (((aq (day+730425)).tmod 146097).tdiv 36524)))) - (aq (((aq (day+730425)).tmod 146097).tdiv 146096)))).tdiv 365)).tdiv 100)))))) - (aq ((aq ((aq ((153:Int) * (aq ((aq ((aq ((5:Int) * (aq (((aq (day+730425)).tmod 146097) - (aq ((aq ((aq ((365:Int) * (aq ((aq ((aq ((aq (((aq (day+730425)).tmod 146097) - (aq (((aq (day+730425)).tmod 146097).tdiv 1460))))+(aq (((aq (day+730425)).tmod 146097).tdiv 36524)))) - (aq (((aq (day+730425)).tmod 146097).tdiv 146096)))).tdiv 365))))+(aq ((aq ((aq ((aq ((aq (((aq (day+730425)).tmod 146097) - (aq (((aq (day+730425)).tmod 146097).tdiv 1460))))+(aq (((aq (day+730425)).tmod 146097).tdiv 36524)))) - (aq (((aq (day+730425)).tmod 146097).tdiv 146096)))).tdiv 365)).tdiv 4)))) - (aq ((aq ((aq ((aq ((aq (((aq (day+730425)).tmod 146097) - (aq (((aq (day+730425)).tmod 146097).tdiv 1460))))+(aq (((aq (day+730425)).tmod 146097).tdiv 36524)))) - (aq (((aq (day+730425)).tmod 146097).tdiv 146096)))).tdiv 365)).tdiv 100))))))))+2)).tdiv 153))))+2)).tdiv 5))))+1)))
 (.fin (aq ((aq ((aq ((aq ((aq (((aq (day+730425)).tmod 146097) - (aq (((aq (day+730425)).tmod 146097).tdiv 1460))))+(aq (((aq (day+730425)).tmod 146097).tdiv 36524)))) - (aq (((aq (day+730425)).tmod 146097).tdiv 146096)))).tdiv 365))+(aq ((400:Int) * (aq ((aq (day+730425)).tdiv 146097))))),b1,aq ((aq ((aq (((aq (day+730425)).tmod 146097) - (aq ((aq ((aq ((365:Int) * (aq ((aq ((aq ((aq (((aq (day+730425)).tmod 146097) - (aq (((aq (day+730425)).tmod 146097).tdiv 1460))))+(aq (((aq (day+730425)).tmod 146097).tdiv 36524)))) - (aq (((aq (day+730425)).tmod 146097).tdiv 146096)))).tdiv 365))))+(aq ((aq ((aq ((aq ((aq (((aq (day+730425)).tmod 146097) - (aq (((aq (day+730425)).tmod 146097).tdiv 1460))))+(aq (((aq (day+730425)).tmod 146097).tdiv 36524)))) - (aq (((aq (day+730425)).tmod 146097).tdiv 146096)))).tdiv 365)).tdiv 4)))) - (aq ((aq ((aq ((aq ((aq (((aq (day+730425)).tmod 146097) - (aq (((aq (day+730425)).tmod 146097).tdiv 1460))))+(aq (((aq (day+730425)).tmod 146097).tdiv 36524)))) - (aq (((aq (day+730425)).tmod 146097).tdiv 146096)))).tdiv 365)).tdiv 100)))))) - (aq ((aq ((aq ((153:Int) * (aq ((aq ((aq ((5:Int) * (aq (((aq (day+730425)).tmod 146097) - (aq ((aq ((aq ((365:Int) * (aq ((aq ((aq ((aq (((aq (day+730425)).tmod 146097) - (aq (((aq (day+730425)).tmod 146097).tdiv 1460))))+(aq (((aq (day+730425)).tmod 146097).tdiv 36524)))) - (aq (((aq (day+730425)).tmod 146097).tdiv 146096)))).tdiv 365))))+(aq ((aq ((aq ((aq ((aq (((aq (day+730425)).tmod 146097) - (aq (((aq (day+730425)).tmod 146097).tdiv 1460))))+(aq (((aq (day+730425)).tmod 146097).tdiv 36524)))) - (aq (((aq (day+730425)).tmod 146097).tdiv 146096)))).tdiv 365)).tdiv 4)))) - (aq ((aq ((aq ((aq ((aq (((aq (day+730425)).tmod 146097) - (aq (((aq (day+730425)).tmod 146097).tdiv 1460))))+(aq (((aq (day+730425)).tmod 146097).tdiv 36524)))) - (aq (((aq (day+730425)).tmod 146097).tdiv 146096)))).tdiv 365)).tdiv 100))))))))+2)).tdiv 153))))+2)).tdiv 5))))+1)))
def Hh day:=(j6 day).val
theorem BI (day:Int):(j6 day).aZ (fun _=>True):=by
 unfold j6
 exact mu
def kW day:=kk tok mixed Tryz.func229 [iv day] (fun x=>.eD [iv x.1,iv x.2.1,iv x.2.2]) true (j6 day) (Hh day) (u0 (BI day))
def jn (year:Int) (month:Int) (Ez:Int):Sk (Int) :=
 .br (decide (month < 3))
 (.r 3 (.al (.p ((4:Int)≠0)) (.al (.p ((100:Int)≠0)) (.al (.p ((400:Int)≠0)) (.p ((5:Int)≠0))))) fun _ =>
 .fin (aq ((aq ((aq ((aq ((aq ((aq ((aq ((aq ((365:Int) * (aq (year - 1))))+(aq ((aq (year - 1)).tdiv 4)))) - (aq ((aq (year - 1)).tdiv 100))))+(aq ((aq (year - 1)).tdiv 400))))+(aq ((aq ((aq ((153:Int) * (aq ((aq (month+12)) - 3))))+2)).tdiv 5))))+Ez)) - 1)) - 730425)))
 (.r 3 (.al (.p ((4:Int)≠0)) (.al (.p ((100:Int)≠0)) (.al (.p ((400:Int)≠0)) (.p ((5:Int)≠0))))) fun _ =>
 .fin (aq ((aq ((aq ((aq ((aq ((aq ((aq ((aq ((365:Int) * year))+(aq (year.tdiv 4)))) - (aq (year.tdiv 100))))+(aq (year.tdiv 400))))+(aq ((aq ((aq ((153:Int) * (aq (month - 3))))+2)).tdiv 5))))+Ez)) - 1)) - 730425)))
def EA year month Ez:=(jn year month Ez).val
theorem Ag (year:Int) (month:Int) (Ez:Int):(jn year month Ez).aZ (fun _=>True):=by
 unfold jn
 exact mu
def gK year month Ez:=kk tok mixed Tryz.func244 [iv year,iv month,iv Ez] (fun x=>iv x) true (jn year month Ez) (EA year month Ez) (u0 (Ag year month Ez))
def jo (year:Int) (month:Int):Sk (Int) :=
 .br (month == 12)
 (.fin 31)
 (.r 3 (.dep ((gK year (aq (month+1)) 1).c) fun _=>(gK year month 1).c) fun p3 =>
 .fin (aq (p3.1 - p3.2)))
def EB year month:=(jo year month).val
theorem Ah (year:Int) (month:Int):(jo year month).aZ (fun _=>True):=by
 unfold jo
 try simp only [gK]
 exact mO
def j8 year month:=kk tok mixed Tryz.func231 [iv year,iv month] (fun x=>iv x) true (jo year month) (EB year month) (u0 (Ah year month))
def lW (year:Int) (month:Int) (Ez:Int):Sk (Int × Int) :=
 .r 1 (.wh (((((decide (year < 2000))||(decide (year > 2300)))||(decide (month < 1)))||(decide (month > 12)))||(decide (Ez < 1))) false ((j8 year month).c)) fun x1 =>
 .br ((((((decide (year < 2000))||(decide (year > 2300)))||(decide (month < 1)))||(decide (month > 12)))||(decide (Ez < 1)))||(decide (Ez > x1)))
 (.fin (0,3))
 (.r 3 ((gK year month Ez).c) fun x2 =>
 .r 4 ((eK x2).c) fun x3 =>
 .br (!x3)
 (.fin (0,3))
 (.fin (x2,0)))
def LP year month Ez:=(lW year month Ez).val
theorem EC (year:Int) (month:Int) (Ez:Int):(lW year month Ez).aZ (fun _=>True):=by
 unfold lW
 try simp only [j8,gK,eK,ny]
 exact wx
def xP year month Ez:=kk tok mixed Tryz.func230 [iv year,iv month,iv Ez] (fun x=>.eD [iv x.1,iv x.2]) true (lW year month Ez) (LP year month Ez) (u0 (EC year month Ez))
def gj (day:Int) (n:Int):Sk (Int × Int) :=
 .r 1 ((eK day).c) fun x1 =>
 .br (((!x1)||(decide (n < (-5000))))||(decide (n > 5000)))
 (.fin (0,3))
 (.r 3 ((kW day).c) fun x2 =>
 .r 5 (.al (.p ((12:Int)≠0)) (.p ((12:Int)≠0))) fun _ =>
 .r 6 (.dep ((j8 (aq ((aq ((aq ((aq ((aq ((12:Int) * x2.1))+x2.2.1)) - 1))+n)).tdiv 12)) (aq (((aq ((aq ((aq ((aq ((12:Int) * x2.1))+x2.2.1)) - 1))+n)).tmod 12)+1))).c) fun x3=>(xP (aq ((aq ((aq ((aq ((aq ((12:Int) * x2.1))+x2.2.1)) - 1))+n)).tdiv 12)) (aq (((aq ((aq ((aq ((aq ((12:Int) * x2.1))+x2.2.1)) - 1))+n)).tmod 12)+1)) (ch x2.2.2 x3)).c) fun p5 =>
 .fin (p5.2.1,p5.2.2))
def Ai day n:=(gj day n).val
theorem wA (day:Int) (n:Int):(gj day n).aZ (fun _=>True):=by
 unfold gj
 try simp only [xP,kW,j8,eK,ny]
 exact wx
def pM day n:=kk tok mixed Tryz.func212 [iv day,iv n] (fun x=>.eD [iv x.1,iv x.2]) true (gj day n) (Ai day n) (u0 (wA day n))
def nz (day:Int) (t:pD):Sk (Int × Int) :=
 .br ((decide (t.n < 0))||(decide (t.n > 20000)))
 (.fin (0,3))
 (.br (t.unit == 1)
 (.r 4 ((pM day t.n).c) fun x1 =>
 .fin (x1.1,x1.2))
 (.fin (aq (day+t.n),0)))
def Oi day t:=(nz day t).val
theorem Hi (day:Int) (t:pD):(nz day t).aZ (fun _=>True):=by
 unfold nz
 try simp only [pM]
 exact mO
def tB day t:=kk tok mixed Tryz.func189 [iv day,av t.cells] (fun x=>.eD [iv x.1,iv x.2]) true (nz day t) (Oi day t) (u0 (Hi day t))
def lX (r:ai) (from_:Int) (bP:Int):Sk (Int × Int) :=
 .bt
 (.loop (default:Sum (Int × Int) (Unit)) (fun i2=>i2≤r.aJ.length) (fun i2=>r.aJ.length - i2) (0:Nat)
 (fun (i2:Nat)=>⟨[(13,iv (i2:Int))],[]⟩) fun i2 =>
 .lt 11 0 i2 r.aJ.length
 (.r 3 (.p (bA (i2:Int) r.aJ.length)) fun _ =>
 .br ((((r.aJ.getD i2 default).from_) == from_)&&(((r.aJ.getD i2 default).bP) == bP))
 (.fin (.inl (.inl ((r.aJ.getD i2 default).days,0))))
 (.nx 6 13 i2 (i2+1)))
 (.fin (.inl (.inr ()))))
 (fun (_:Unit)=>⟨[],[]⟩) fun _ =>
 .fin (0,4)
def LQ r from_ bP:=(lX r from_ bP).val
theorem ED (r:ai) (from_:Int) (bP:Int):(lX r from_ bP).aZ (fun _=>True):=by
 unfold lX
 exact mu
def xQ r from_ bP:=kk tok mixed Tryz.func190 [av r.cells,iv from_,iv bP] (fun x=>.eD [iv x.1,iv x.2]) true (lX r from_ bP) (LQ r from_ bP) (u0 (ED r from_ bP))
def pb (r:ai) (b:og) (seen:Int):Sk (Int × Int) :=
 .br (b.cU.kind == 0)
 (.fin (seen,0))
 (.br (b.cU.kind == 1)
 (.r 5 ((tB seen b.cU).c) fun x1 =>
 .fin (x1.1,x1.2))
 (.br (b.cU.kind == 2)
 (.r 7 ((tB b.day b.cU).c) fun x2 =>
 .fin (x2.1,x2.2))
 (.br (b.cU.kind == 4)
 (.r 9 ((xQ r b.bQ b.B8).c) fun x3 =>
 .fin (aq (b.day+x3.1),x3.2))
 (.fin (b.cU.n,0)))))
def Ql r b seen:=(pb r b seen).val
theorem I5 (r:ai) (b:og) (seen:Int):(pb r b seen).aZ (fun _=>True):=by
 unfold pb
 try simp only [xQ,tB]
 exact mO
def vz r b seen:=kk tok mixed Tryz.func141 [av r.cells,av b.cells,iv seen] (fun x=>.eD [iv x.1,iv x.2]) true (pb r b seen) (Ql r b seen) (u0 (I5 r b seen))
def jD (r:ai) (order:Int) (day:Int):Sk (Int) :=
 .bind true (fun b1=>day≤b1∧b1≤100001)
 (.loop (default:Sum (Int) (Int)) (fun i2=>day≤i2.1∧i2.1≤100001) (fun i2=>2 * (100001 - i2.1).toNat+(if i2.2 then 1 else 0)) ((day,true):Int × Bool)
 (fun (i2:Int × Bool)=>⟨[(2,iv i2.1),(7,bv i2.2)],[]⟩) fun i2 =>
 .br i2.2
 (.bind true (fun b3=>i2.1≤b3.1∧b3.1≤100001∧(b3.2.1=true→i2.1 < b3.1)∧(b3.2.1=false→b3.1=i2.1))
 (.bind true (fun b4=>i2.1≤b4.1∧b4.1≤100001∧(b4.2.1=true→i2.1 < b4.1)∧(b4.2.1=false→b4.1=i2.1))
 (.loop (default:Sum (Sum (Sum (Sum (Int) (Int)) (Int × Bool)) (Int × Bool × (List Halt) × Int × Int × Bool)) (Int × Bool × Int × Bool)) (fun i5=>i5.2.2≤r.dp.length∧i2.1≤i5.1∧i5.1≤100001∧(i5.2.1=true→i2.1 < i5.1)∧(i5.2.1=false→i5.1=i2.1)) (fun i5=>r.dp.length - i5.2.2) ((i2.1,false,0):Int × Bool × Nat)
 (fun (i5:Int × Bool × Nat)=>⟨[(2,iv i5.1),(7,bv i5.2.1),(14,iv (i5.2.2:Int))],[]⟩) fun i5 =>
 .lt 12 0 i5.2.2 r.dp.length
 (.r 6 (.p (bA (i5.2.2:Int) r.dp.length)) fun _ =>
 .br (((((r.dp.getD i5.2.2 default).order) == order)&&(decide (((r.dp.getD i5.2.2 default).from_)≤i5.1)))&&(decide (i5.1≤((r.dp.getD i5.2.2 default).bP))))
 (.r 9 .z fun _ =>
 .wi 14 (aq ((i5.2.2:Int)+1)) ((i5.2.2+1:Nat):Int) <|
 .fin (.inr (aq (((r.dp.getD i5.2.2 default).bP)+1),true,i5.2.2+1)))
 (.nx 9 14 i5.2.2 (i5.1,i5.2.1,i5.2.2+1)))
 (.fin (.inl (.inr (i5.1,i5.2.1,(i5.2.2:Int),decide ((i5.2.2:Int) < ((r.dp.length:Nat):Int)))))))
 (fun (b4:Int × Bool × Int × Bool)=>⟨[(2,iv b4.1),(7,bv b4.2.1),(14,iv b4.2.2.1),(15,bv b4.2.2.2)],[]⟩) fun b4 =>
 .fin (.inr (b4.1,b4.2.1,r.dp,((r.dp.length:Nat):Int),b4.2.2.1,b4.2.2.2)))
 (fun (b3:Int × Bool × (List Halt) × Int × Int × Bool)=>⟨[(2,iv b3.1),(7,bv b3.2.1),(12,lv Halt.cells b3.2.2.1),(13,iv b3.2.2.2.1),(14,iv b3.2.2.2.2.1),(15,bv b3.2.2.2.2.2)],[]⟩) fun b3 =>
 .fin (.inr (b3.1,b3.2.1)))
 (.fin (.inl (.inr i2.1))))
 (fun (b1:Int)=>⟨[(2,iv b1)],[]⟩) fun b1 =>
 .fin b1
def Hj r order day:=(jD r order day).val
theorem Hk (r:ai) (order:Int) (day:Int) (hP:r.c6∧0≤day∧day≤100001):(jD r order day).cC (fun (x:Int)=>day≤x∧x≤100001):=by
 refine Sk.aX _ ?_
 unfold jD
 simp only [Sk.cx,Sk.aI,reduceCtorEq,ON,kk,kp,ai.c6,maxLen]
 obtain ⟨hh,hd⟩:=hP
 refine ⟨⟨by omega,fun i hi=>⟨fun hch=>⟨⟨⟨⟨by omega,⟨by omega,by omega⟩⟩,fun j hj=>⟨fun hc _=>⟨fun ht _=>⟨⟨?_,?_⟩,?_⟩,fun ht _=>⟨⟨?_,hj.2⟩,?_⟩⟩,fun hc=>hj.2⟩⟩,fun b hb=>hb⟩,fun b _ hb=>⟨?_,?_⟩⟩,fun hch=>hi⟩⟩,fun b hb=>hb⟩
 all_goals (try simp only [LN] at hc)
 all_goals (try simp only [LN] at ht)
 ·omega
 ·have h2:=hh j.2.2 (by omega)
  rw [aD (by omega) (by omega)]
  omega
 ·omega
 ·omega
 ·omega
 ·omega
 ·rw [if_pos hch]
  cases wI:b.2.1 with
  | true=>have:=hb.2.2.1 wI; simp only [if_true]; omega
  | false=>have:=hb.2.2.2 wI; simp only [Bool.false_eq_true,if_false]; omega
theorem EE (r:ai) (order:Int) (day:Int):(fun (x:Int)=>(r.c6∧0≤day∧day≤100001)→(day≤x∧x≤100001)) (Hj r order day):=fun hP=>Sk.cZ _ (Hk r order day hP)
theorem I6 (r:ai) (order:Int) (day:Int) (hh:r.c6) (hd:0≤day∧day≤100001):(jD r order day).aZ (fun _=>True):=by
 simp only [ai.c6] at hh
 refine Sk.aU _ ?_
 unfold jD
 simp only [Sk.jb,Sk.aI,reduceCtorEq,ON,kk,kp,ai.c6,maxLen]
 refine ⟨⟨by omega,by omega⟩,fun i hi=>⟨fun hch=>⟨⟨⟨⟨by omega,by omega,by omega⟩,fun j hj hl=>⟨fun hc=>⟨⟨by omega,of_decide_eq_true hc⟩,fun _=>⟨fun ht _=>⟨?_,⟨?_,?_⟩,?_⟩,fun ht _=>⟨?_,⟨?_,hj.2⟩,?_⟩⟩⟩,fun hc=>hj.2⟩⟩,fun b hb=>hb⟩,fun b _ hb=>⟨?_,?_⟩⟩,fun hch=>hi⟩⟩
 all_goals (try simp only [LN] at hc)
 all_goals (try simp only [LN] at ht)
 ·exact aD (by omega) (by omega)
 ·omega
 ·have h2:=hh j.2.2 (by omega)
  rw [aD (by omega) (by omega)]
  omega
 ·omega
 ·exact aD (by omega) (by omega)
 ·omega
 ·omega
 ·omega
 ·rw [if_pos hch]
  cases wI:b.2.1 with
  | true=>have:=hb.2.2.1 wI; simp only [if_true]; omega
  | false=>have:=hb.2.2.2 wI; simp only [Bool.false_eq_true,if_false]; omega
def vA r order day:=kk tok mixed Tryz.func192 [av r.cells,iv order,iv day] (fun x=>iv x) true (jD r order day) (Hj r order day) (u2 (I6 r order day)) (fun (x:Int)=>(r.c6∧0≤day∧day≤100001)→(day≤x∧x≤100001)) (EE r order day)
def kX (c_:gX) (day:Int):Sk (Bool) :=
 .r 1 ((kW day).c) fun x1 =>
 .r 2 (.al (.p ((7:Int)≠0)) (.dep ((aF c_.rest ((aq (day+5)).tmod 7)).c) fun x2=>.dep (.wh (!x2) true ((aF c_.eG (aq ((aq ((100:Int) * x1.2.1))+x1.2.2))).c)) fun x3=>.wh ((!x2)&&(!x3)) true ((aF c_.shut day).c))) fun p5 =>
 .fin (((!p5.1)&&(!p5.2.1))&&(!p5.2.2))
def eX c_ day:=(kX c_ day).val
theorem C0 (c_:gX) (day:Int):(kX c_ day).aZ (fun _=>True):=by
 unfold kX
 try simp only [kW,aF]
 exact mu
def EF c_ day:=kk tok mixed Tryz.func233 [av c_.cells,iv day] (fun x=>bv x) true (kX c_ day) (eX c_ day) (u0 (C0 c_ day))
theorem C3 (c_:gX) (day:Int):fA Tryz.prog 233 [av c_.cells,iv day] [] (bv (eX c_ day)) []:=(EF c_ day).pf trivial
end
end Go.Proofs.YtgmnlkccjlnnbaaGreatDoor
