/- Functions, as sketches. -/
import Derived.Test.YtgmnlkccjlnnbaaGreatDoorLe
set_option linter.unusedSimpArgs false
set_option linter.unusedVariables false
set_option maxHeartbeats 1000000
set_option maxRecDepth 100000
namespace Go.Proofs.YtgmnlkccjlnnbaaGreatDoor
noncomputable section
open Go Go.Av
def oU (f:al) (day:Int):Sk (View) :=
 .r 1 ((ch f day).c) fun x1 =>
 .r 2 (.o [.ru (mkM dB)]) fun _ =>
 .bt
 (.loop (default:Sum (View) ((List (Int × Bool)))) (fun i3=>i3.1≤x1.aA.length) (fun i3=>x1.aA.length - i3.1) ((0,([]:List (Int × Bool))):Nat × (List (Int × Bool)))
 (fun (i3:Nat × (List (Int × Bool)))=>⟨[(22,iv ((i3.1:Nat):Int))],[(17,mpM dB i3.2)]⟩) fun i3 =>
 .lt 20 0 i3.1 x1.aA.length
 (.r 5 (.p (bG ((i3.1:Nat):Int) x1.aA.length)) fun _ =>
 .br (((x1.aA.getD i3.1 default).kind) == 7)
 (.r 7 (.aq (.t (E4 dB i3.2)) (.o [.ru (YN dB i3.2 ((x1.aA.getD i3.1 default).at_) true)])) fun _ =>
 .r 8 .z fun _ =>
 .wi 22 (au (((i3.1:Nat):Int)+1)) ((i3.1+1:Nat):Int) <|
 .fin (.inr (i3.1+1,sH i3.2 ((x1.aA.getD i3.1 default).at_) true)))
 (.nx 8 22 i3.1 (i3.1+1,i3.2)))
 (.fin (.inl (.inr i3.2))))
 (fun (b2:(List (Int × Bool)))=>⟨[],[(17,mpM dB b2)]⟩) fun b2 =>
 .bind true (fun b4=>b4.length≤0+x1.af.length)
 (.loop (default:Sum (View) ((List Int))) (fun i5=>i5.1≤x1.af.length∧i5.2.length≤0+i5.1) (fun i5=>x1.af.length - i5.1) ((0,[]):Nat × (List Int))
 (fun (i5:Nat × (List Int))=>⟨[(37,iv ((i5.1:Nat):Int))],[(100002,bO 3 1 bU i5.2),(5,.box (f.cells.map .d++x1.cells.map .d++[iv day,ow 100002 i5.2]))]⟩) fun i5 =>
 .lt 35 0 i5.1 x1.af.length
 (.r 11 (.p (bG ((i5.1:Nat):Int) x1.af.length)) fun _ =>
 .r 12 (.wh (((x1.af.getD i5.1 default).kind) == 2) true (.aq (.t (E4 dB b2)) (.o [.cast 48 (getM dB b2 ((i5.1:Nat):Int) false)]))) fun _ =>
 .br ((((x1.af.getD i5.1 default).kind) == 2)&&(!(Cu b2 ((i5.1:Nat):Int) false)))
 (.r 13 (.aq (.o [.fU (gA eA [(x1.af.getD i5.1 default).part])]) (.aq (.o [.fU (oe eA i5.2 [(x1.af.getD i5.1 default).part])]) (.aq (.t (eA.qb [(x1.af.getD i5.1 default).part])) (.p (yi i5.2.length [(x1.af.getD i5.1 default).part].length 8))))) fun _ =>
 .nx 14 37 i5.1 (i5.1+1,i5.2++[(x1.af.getD i5.1 default).part]))
 (.nx 14 37 i5.1 (i5.1+1,i5.2)))
 (.fin (.inl (.inr i5.2))))
 (fun (b4:(List Int))=>⟨[],[(100001,bO 3 1 bU b4),(5,.box (f.cells.map .d++x1.cells.map .d++[iv day,ow 100001 b4]))]⟩) fun b4 =>
 .r 15 ((qU 100001 b4).c) fun x6 =>
 .wn 100001 b4.length x6.length <|
 .r 16 ((mC 100001 64 x6).c) fun x7 =>
 .br (((x7.length:Nat):Int) == 0)
 (.r 18 (.o [.fU (gA eA [0])]) fun _ =>
 .fin ({ all:=f,now:=x1,day:=day,lead:=[0] }:View))
 (.fin ({ all:=f,now:=x1,day:=day,lead:=x7 }:View))
def aB f day:=(oU f day).val
theorem CM (f:al) (day:Int):(oU f day).cZ (fun (x:View)=>x.all=f∧x.now=ai f day∧x.day=day∧x.lead.length≠0∧x.lead.length≤1+f.af.length):=by
  unfold oU
  try simp only [ch,mC,qU,Fy.c,yL.c,al.Small,ah.Small]
  exact DB

theorem A5 (f:al) (day:Int):(fun (x:View)=>x.all=f∧x.now=ai f day∧x.day=day∧x.lead.length≠0∧x.lead.length≤1+f.af.length) (aB f day):=have h:=Sk.de _ (CM f day); h
theorem PV (f:al) (day:Int) (bM:f.Small):(oU f day).bz (fun _=>True):=by
  simp only [al.Small,ah.Small] at bM
  unfold oU
  try simp only [ch,mC,qU,Fy.c,yL.c,al.Small,ah.Small]
  exact oh

def Bv f day:=kp tok mixed Tryz.func52 [av f.cells,iv day] (fun x=>av x.cells) false (aB f day) (PV f day) (CM f day)
structure lV where
  cell:aH
  order:Int
  path:List Int
  err:Int
  deriving Inhabited
def lV.cells (c:lV):List D:=c.cell.cells++[dI c.order,mV bU c.path,dI c.err]
structure fw where
  file:al
  sign:Int
  jD:Int
  jN:Int
  due:Int
  day:Int
  deriving Inhabited
def fw.cells (c:fw):List D:=c.file.cells++[dI c.sign,dI c.jD,dI c.jN,dI c.due,dI c.day]
def lx (a:di) (v:fw):Sk (Bool) :=
 .fin (decide (a.at_≤v.sign))
def eZ a v:=(lx a v).val
theorem pD (a:di) (v:fw):eZ a v=(decide (a.at_≤v.sign)):=rfl
theorem CN (a:di) (v:fw):(lx a v).bz (fun _=>True):=by
  unfold lx
  exact pq

def qx a v:=kk tok mixed Tryz.func216 [av a.cells,.ref v.cells] (fun x=>bv x) true (lx a v) (eZ a v) (u0 (CN a v))
def eE (s:List di) (v:fw):Sk (Int) :=
 .bind true (fun b1=>∀ q,q < s.length→eZ (s.getD q default) v=false)
 (.loop (default:Sum (Int) (Unit)) (fun i2=>∀ q,q < i2→eZ (s.getD q default) v=false) (fun i2=>s.length - i2) (0:Nat)
 (fun (i2:Nat)=>⟨[(8,iv ((i2:Nat):Int))],[]⟩) fun i2 =>
 .lt 0 0 i2 s.length
 (.r 4 (.aq (.p (bG ((i2:Nat):Int) s.length)) ((qx (s.getD i2 default) v).c)) fun x3 =>
 .br x3
 (.fin (.inl (.inl ((i2:Nat):Int))))
 (.nx 6 8 i2 (i2+1)))
 (.fin (.inl (.inr ()))))
 (fun (_:Unit)=>⟨[],[]⟩) fun _ =>
 .fin (-1)
def zb s v:=(eE s v).val
theorem vd (s:List di) (v:fw):(eE s v).cZ (fun (x:Int)=>(x = -1∧∀ q,q < s.length→eZ (s.getD q default) v=false)∨(0≤x∧x < s.length∧eZ (s.getD x.toNat default) v=true∧∀ q,(q:Nat) < x.toNat→eZ (s.getD q default) v=false)):=by
  unfold eE
  try simp only [qx,pD]
  exact RS

theorem vW (s:List di) (v:fw):(eE s v).bz (fun _=>True):=by
  unfold eE
  try simp only [qx,pD]
  exact yj

def kC s v:=kp tok mixed Tryz.func234 [lv di.cells s,.fn 216 [.ref v.cells]] (fun x=>iv x) true (zb s v) (u0 (vW s v)) (vd s v)
def dk (s:List di) (v:fw):Sk (Bool) :=
 .r 1 ((kC s v).c) fun x1 =>
 .fin (decide (x1≥0))
def j3 s v:=(dk s v).val
theorem ly (s:List di) (v:fw):(dk s v).cZ (fun (x:Bool)=>(x=true↔∃ q,q < s.length∧eZ (s.getD q default) v=true)):=by
  unfold dk
  try simp only [kC]
  exact DB

theorem rY (s:List di) (v:fw):(fun (x:Bool)=>(x=true↔∃ q,q < s.length∧eZ (s.getD q default) v=true)) (j3 s v):=have h:=Sk.de _ (ly s v); h
theorem tP (s:List di) (v:fw):(dk s v).bz (fun _=>True):=by
  unfold dk
  try simp only [kC]
  exact pq

def fC s v:=kp tok mixed Tryz.func215 [lv di.cells s,.fn 216 [.ref v.cells]] (fun x=>bv x) true (j3 s v) (u0 (tP s v)) (ly s v)
def uO (i:Int) (n:Int):Sk (Bool) :=
 .fin ((decide (i≥0))&&(decide (i < n)))
def PW i n:=(uO i n).val
theorem jc (i:Int) (n:Int):PW i n=((decide (i≥0))&&(decide (i < n))):=rfl
theorem PX (i:Int) (n:Int):(uO i n).bz (fun _=>True):=by
  unfold uO
  exact pq

def cr i n:=kk tok mixed Tryz.func183 [iv i,iv n] (fun x=>bv x) true (uO i n) (PW i n) (u0 (PX i n))
def mD (r:ah) (bZ:Int):Sk (Int) :=
 .r 1 ((cr bZ ((r.aI.length:Nat):Int)).c) fun x1 =>
 .br (!x1)
 (.fin (-1))
 (.r 3 (.p (bG bZ r.aI.length)) fun _ =>
 .fin ((r.aI.getD bZ.toNat default).order))
def Kv r bZ:=(mD r bZ).val
theorem Ed (r:ah) (bZ:Int):(mD r bZ).bz (fun _=>True):=by
  unfold mD
  try simp only [cr,jc]
  exact yj

def cI r bZ:=kk tok mixed Tryz.func191 [av r.cells,iv bZ] (fun x=>iv x) true (mD r bZ) (Kv r bZ) (u0 (Ed r bZ))
def nH (Kw:Bool):Sk (aH) :=
 .br Kw
 (.fin ({ known:=true,n:=1 }:aH))
 (.fin ({ known:=true,n:=0 }:aH))
def sT Kw:=(nH Kw).val
theorem FC (Kw:Bool):(nH Kw).bz (fun _=>True):=by
  unfold nH
  exact pq

def j4 Kw:=kk tok mixed Tryz.func217 [bv Kw] (fun x=>av x.cells) true (nH Kw) (sT Kw) (u0 (FC Kw))
def lW (f:al) (kind:Int) (at_:Int):Sk (aH) :=
 .bt
 (.loop (default:Sum (aH) (Unit)) (fun i2=>i2≤f.facts.length) (fun i2=>f.facts.length - i2) (0:Nat)
 (fun (i2:Nat)=>⟨[(12,iv ((i2:Nat):Int))],[]⟩) fun i2 =>
 .lt 10 0 i2 f.facts.length
 (.r 3 (.p (bG ((i2:Nat):Int) f.facts.length)) fun _ =>
 .br ((((f.facts.getD i2 default).kind) == kind)&&(((f.facts.getD i2 default).at_) == at_))
 (.r 5 ((j4 (((f.facts.getD i2 default).n) != 0)).c) fun x3 =>
 .fin (.inl (.inl x3)))
 (.nx 6 12 i2 (i2+1)))
 (.fin (.inl (.inr ()))))
 (fun (_:Unit)=>⟨[],[]⟩) fun _ =>
 .fin ({ known:=false,n:=0 }:aH)
def bT f kind at_:=(lW f kind at_).val
theorem Ij (f:al) (kind:Int) (at_:Int):(lW f kind at_).bz (fun _=>True):=by
  unfold lW
  try simp only [j4]
  exact oh

def gK f kind at_:=kk tok mixed Tryz.func218 [av f.cells,iv kind,iv at_] (fun x=>av x.cells) true (lW f kind at_) (bT f kind at_) (u0 (Ij f kind at_))
def j5 (r:ah) (c_:fw):Sk ((List aH)) :=
 .r 3 (.dep ((ef c_.sign ((c_.file.af.length:Nat):Int)).c) fun x1=>.wh (((!x1)||(decide (c_.jD < (-1))))||(decide ((cg c_.jD 0)≥((c_.file.af.length:Nat):Int)))) false (.wh (c_.due != (-1)) true ((ef c_.due 100001).c))) fun p25 =>
 .br ((((!p25.1)||(decide (c_.jD < (-1))))||(decide ((cg c_.jD 0)≥((c_.file.af.length:Nat):Int))))||((c_.due != (-1))&&(!p25.2)))
 (.fin [])
 (.r 5 (.p (bG c_.sign c_.file.af.length)) fun _ =>
 .r 6 ((ef ((c_.file.af.getD c_.sign.toNat default).day) 100001).c) fun x3 =>
 .br (!x3)
 (.fin [])
 (.bind false (fun _=>True)
 (.br (c_.due != (-1))
 (.fin (.inr (au (((c_.file.af.getD c_.sign.toNat default).day) - c_.due))))
 (.fin (.inr 0)))
 (fun (b4:Int)=>⟨[(9,iv b4)],[]⟩) fun b4 =>
 .r 11 (.aq (.o [.fU (mkC aH.E 20 ({ known:=false,n:=0 }:aH))]) (.p (Vz (20:Int) 16))) fun _ =>
 .r 12 (.aq (.o [.ru ab7]) (.aq (.o [.ru (ab6 dI 0 c_.file.aR.sum)]) (.aq (.o [.ru (DW dI [0] [c_.file.aR.sum] rfl 1 c_.file.aR.parts)]) (.aq (.o [.ru (DW dI [0,1] [c_.file.aR.sum,c_.file.aR.parts] rfl 2 c_.file.aR.cR.kind)]) (.aq (.o [.ru (DW dI [0,1,2] [c_.file.aR.sum,c_.file.aR.parts,c_.file.aR.cR.kind] rfl 3 c_.file.aR.lf)]) (.aq (.o [.ru (DW dI [0,1,2,3] [c_.file.aR.sum,c_.file.aR.parts,c_.file.aR.cR.kind,c_.file.aR.lf] rfl 4 ((c_.file.af.getD c_.sign.toNat default).kind))]) (.aq (.o [.ru (DW dI [0,1,2,3,4] [c_.file.aR.sum,c_.file.aR.parts,c_.file.aR.cR.kind,c_.file.aR.lf,(c_.file.af.getD c_.sign.toNat default).kind] rfl 5 c_.jN)]) (.o [.ru (DW dI [0,1,2,3,4,5] [c_.file.aR.sum,c_.file.aR.parts,c_.file.aR.cR.kind,c_.file.aR.lf,(c_.file.af.getD c_.sign.toNat default).kind,c_.jN] rfl 6 b4)])))))))) fun _ =>
 .bind true (fun b5=>b5.length=20)
 (.mr 7 (fun g6=>g6.length=20) (List.replicate 20 ({ known:=false,n:=0 }:aH):(List aH))
 (fun g6 s8=>⟨[(10,ow 100002 g6)],[(100002,bO 71 2 aH.cells g6),(90,.it 74 7 s8)]⟩)
 (fun g9=>⟨[(10,ow 100002 g9)],[(100002,bO 71 2 aH.cells g9)]⟩)
 (fun g6 i7 =>
 .JQ <|
 .r 14 (.p (i7 < 7)) fun _ =>
 .r 15 (.aq (.p (bG (([0,1,2,3,4,5,6]:List Int).getD i7 0) g6.length)) (.aq (.o [.fU (vS aH.E g6 ((([0,1,2,3,4,5,6]:List Int).getD i7 0).toNat) ({ known:=true,n:=([c_.file.aR.sum,c_.file.aR.parts,c_.file.aR.cR.kind,c_.file.aR.lf,(c_.file.af.getD c_.sign.toNat default).kind,c_.jN,b4]:List Int).getD i7 default }:aH))]) (.p ((([0,1,2,3,4,5,6]:List Int).getD i7 0).toNat < g6.length)))) fun _ =>
 .wn 100002 g6.length (g6.set ((([0,1,2,3,4,5,6]:List Int).getD i7 0).toNat) ({ known:=true,n:=([c_.file.aR.sum,c_.file.aR.parts,c_.file.aR.cR.kind,c_.file.aR.lf,(c_.file.af.getD c_.sign.toNat default).kind,c_.jN,b4]:List Int).getD i7 default }:aH)).length <|
 .fin (g6.set ((([0,1,2,3,4,5,6]:List Int).getD i7 0).toNat) ({ known:=true,n:=([c_.file.aR.sum,c_.file.aR.parts,c_.file.aR.cR.kind,c_.file.aR.lf,(c_.file.af.getD c_.sign.toNat default).kind,c_.jN,b4]:List Int).getD i7 default }:aH))) fun g9 =>
 .JR <|
 .fin (.inr g9))
 (fun (b5:(List aH))=>⟨[(90,.any),(10,ow 100001 b5)],[(100001,bO 71 2 aH.cells b5)]⟩) fun b5 =>
 .r 16 ((fC c_.file.aN c_).c) fun N8 =>
 .r 17 (.dep ((cI r c_.file.aR.bZ).c) fun _=>(cI r c_.file.aR.yk).c) fun X2 =>
 .r 18 (.aq (.o [.ru ab7]) (.aq (.o [.ru (ab6 dB 7 ((dP .i64 c_.file.aR.flags 1) != 0))]) (.aq (.o [.ru (DW dB [7] [(dP .i64 c_.file.aR.flags 1) != 0] rfl 8 (c_.file.aR.kq == (-1)))]) (.aq (.o [.ru (DW dB [7,8] [(dP .i64 c_.file.aR.flags 1) != 0,c_.file.aR.kq == (-1)] rfl 9 ((dP .i64 c_.file.aR.flags 4) != 0))]) (.aq (.o [.ru (DW dB [7,8,9] [(dP .i64 c_.file.aR.flags 1) != 0,c_.file.aR.kq == (-1),(dP .i64 c_.file.aR.flags 4) != 0] rfl 10 ((dP .i64 c_.file.aR.flags 2) != 0))]) (.aq (.o [.ru (DW dB [7,8,9,10] [(dP .i64 c_.file.aR.flags 1) != 0,c_.file.aR.kq == (-1),(dP .i64 c_.file.aR.flags 4) != 0,(dP .i64 c_.file.aR.flags 2) != 0] rfl 11 (X2.1 != X2.2))]) (.aq (.o [.ru (DW dB [7,8,9,10,11] [(dP .i64 c_.file.aR.flags 1) != 0,c_.file.aR.kq == (-1),(dP .i64 c_.file.aR.flags 4) != 0,(dP .i64 c_.file.aR.flags 2) != 0,X2.1 != X2.2] rfl 12 N8)]) (.aq (.o [.ru (DW dB [7,8,9,10,11,12] [(dP .i64 c_.file.aR.flags 1) != 0,c_.file.aR.kq == (-1),(dP .i64 c_.file.aR.flags 4) != 0,(dP .i64 c_.file.aR.flags 2) != 0,X2.1 != X2.2,N8] rfl 13 ((dP .i64 ((c_.file.af.getD c_.sign.toNat default).flags) 1) != 0))]) (.o [.ru (DW dB [7,8,9,10,11,12,13] [(dP .i64 c_.file.aR.flags 1) != 0,c_.file.aR.kq == (-1),(dP .i64 c_.file.aR.flags 4) != 0,(dP .i64 c_.file.aR.flags 2) != 0,X2.1 != X2.2,N8,(dP .i64 ((c_.file.af.getD c_.sign.toNat default).flags) 1) != 0] rfl 14 (decide (b4 > 0)))]))))))))) fun _ =>
 .bind true (fun Bw=>Bw.length=20)
 (.mr 8 (fun g14=>g14.length=20) (b5:(List aH))
 (fun g14 s16=>⟨[(10,ow 100005 g14)],[(100005,bO 71 2 aH.cells g14),(139,.it 114 8 s16)]⟩)
 (fun g18=>⟨[(10,ow 100005 g18)],[(100005,bO 71 2 aH.cells g18)]⟩)
 (fun g14 i15 =>
 .JQ <|
 .r 20 (.p (i15 < 8)) fun _ =>
 .r 21 (.o8 ((j4 (([(dP .i64 c_.file.aR.flags 1) != 0,c_.file.aR.kq == (-1),(dP .i64 c_.file.aR.flags 4) != 0,(dP .i64 c_.file.aR.flags 2) != 0,X2.1 != X2.2,N8,(dP .i64 ((c_.file.af.getD c_.sign.toNat default).flags) 1) != 0,decide (b4 > 0)]:List Bool).getD i15 default)).c) fun X3=>.aq (.p (bG (([7,8,9,10,11,12,13,14]:List Int).getD i15 0) g14.length)) (.aq (.o [.fU (vS aH.E g14 ((([7,8,9,10,11,12,13,14]:List Int).getD i15 0).toNat) X3)]) (.p ((([7,8,9,10,11,12,13,14]:List Int).getD i15 0).toNat < g14.length)))) fun X3 =>
 .wn 100005 g14.length (g14.set ((([7,8,9,10,11,12,13,14]:List Int).getD i15 0).toNat) X3).length <|
 .fin (g14.set ((([7,8,9,10,11,12,13,14]:List Int).getD i15 0).toNat) X3)) fun g18 =>
 .JR <|
 .fin (.inr g18))
 (fun (Bw:(List aH))=>⟨[(139,.any),(10,ow 100004 Bw)],[(100004,bO 71 2 aH.cells Bw)]⟩) fun Bw =>
 .r 22 (.o8 ((gK c_.file 0 c_.sign).c) fun GL=>.aq (.p (bG (15:Int) Bw.length)) (.aq (.o [.fU (vS aH.E Bw 15 GL)]) (.p (15 < Bw.length)))) fun GL =>
 .wn 100004 Bw.length (Bw.set 15 GL).length <|
 .r 23 (.o8 ((gK c_.file 1 c_.sign).c) fun MT=>.aq (.p (bG (16:Int) ((Bw.set 15 GL).length))) (.aq (.o [.fU (vS aH.E (Bw.set 15 GL) 16 MT)]) (.p (16 < (Bw.set 15 GL).length)))) fun MT =>
 .wn 100004 (Bw.set 15 GL).length ((Bw.set 15 GL).set 16 MT).length <|
 .r 24 (.o8 ((gK c_.file 2 c_.sign).c) fun TB=>.aq (.p (bG (17:Int) (((Bw.set 15 GL).set 16 MT).length))) (.aq (.o [.fU (vS aH.E ((Bw.set 15 GL).set 16 MT) 17 TB)]) (.p (17 < ((Bw.set 15 GL).set 16 MT).length)))) fun TB =>
 .wn 100004 ((Bw.set 15 GL).set 16 MT).length (((Bw.set 15 GL).set 16 MT).set 17 TB).length <|
 .r 25 (.o8 ((gK c_.file 3 (cg c_.jD 0)).c) fun YY=>.aq (.p (bG (18:Int) ((((Bw.set 15 GL).set 16 MT).set 17 TB).length))) (.aq (.o [.fU (vS aH.E (((Bw.set 15 GL).set 16 MT).set 17 TB) 18 YY)]) (.p (18 < (((Bw.set 15 GL).set 16 MT).set 17 TB).length)))) fun YY =>
 .wn 100004 (((Bw.set 15 GL).set 16 MT).set 17 TB).length ((((Bw.set 15 GL).set 16 MT).set 17 TB).set 18 YY).length <|
 .r 26 (.o8 ((gK c_.file 4 (cg c_.jD 0)).c) fun x23=>.aq (.p (bG (19:Int) (((((Bw.set 15 GL).set 16 MT).set 17 TB).set 18 YY).length))) (.aq (.o [.fU (vS aH.E ((((Bw.set 15 GL).set 16 MT).set 17 TB).set 18 YY) 19 x23)]) (.p (19 < ((((Bw.set 15 GL).set 16 MT).set 17 TB).set 18 YY).length)))) fun x23 =>
 .wn 100004 ((((Bw.set 15 GL).set 16 MT).set 17 TB).set 18 YY).length (((((Bw.set 15 GL).set 16 MT).set 17 TB).set 18 YY).set 19 x23).length <|
 .fin (((((Bw.set 15 GL).set 16 MT).set 17 TB).set 18 YY).set 19 x23)))
def oV r c_:=(j5 r c_).val
theorem ZP:(∀ i,i < 7→0≤([0,1,2,3,4,5,6]:List Int).getD i 0∧([0,1,2,3,4,5,6]:List Int).getD i 0 < 20)∧∀ i,i < 7→∀ j,j < 7→i≠j→(([0,1,2,3,4,5,6]:List Int).getD j 0).toNat≠(([0,1,2,3,4,5,6]:List Int).getD i 0).toNat:=by decide
theorem ZQ:(∀ i,i < 8→0≤([7,8,9,10,11,12,13,14]:List Int).getD i 0∧([7,8,9,10,11,12,13,14]:List Int).getD i 0 < 20)∧∀ i,i < 8→∀ j,j < 8→i≠j→(([7,8,9,10,11,12,13,14]:List Int).getD j 0).toNat≠(([7,8,9,10,11,12,13,14]:List Int).getD i 0).toNat:=by decide
theorem FD (r:ah) (c_:fw):(j5 r c_).cZ (fun (x:(List aH))=>x=[]∨(x.length=20∧0≤c_.sign∧c_.sign < c_.file.af.length)):=by
  refine Sk.bp _ ?_
  unfold j5
  simp only [Sk.cU,Sk.aO,reduceCtorEq,ON,kk,kp,cI,gK,j4,ef,fC,j2,forall_eq,maxLen]
  all_goals (repeat' first | assumption | (apply And.intro) | (intro h))
  all_goals first | trivial | assumption | omega | ((try simp only [LN] at *) <;> first | omega | (refine (aG ?_ ?_).trans ?_ <;> omega) | (simp (disch:=omega) only [aG] at *; omega) | (grind) | (simp_all; done) | (simp_all; omega))

theorem Ik (r:ah) (c_:fw):(j5 r c_).bz (fun _=>True):=by
  refine Sk.aX _ ?_
  unfold j5
  simp only [Sk.km,Sk.aO,reduceCtorEq,ON,kk,kp,Sk.cZ,cI,gK,j4,ef,fC,j2,forall_eq,maxLen]
  all_goals (repeat' first | (apply And.intro) | (intro h))
  all_goals first | trivial | assumption | omega | (have:=ZP.1 _ ‹_ < 7›; (try simp only [LN] at *) <;> omega) | (have:=ZQ.1 _ ‹_ < 8›; (try simp only [LN] at *) <;> omega) | exact List.set_comm _ _ (ZP.2 _ ‹_› _ ‹_› ‹_›) | exact List.set_comm _ _ (ZQ.2 _ ‹_› _ ‹_› ‹_›) | ((try simp only [LN] at *) <;> omega)

def vf r c_:=kp tok mixed Tryz.func195 [av r.cells,av c_.cells] (fun x=>lv aH.cells x) false (oV r c_) (u0 (Ik r c_)) (FD r c_)
def vX (r:ah) (c_:fw):Sk (fw × (List aH)) :=
 .r 1 ((ch c_.file c_.day).c) fun x1 =>
 .r 2 ((vf r ({ file:=x1,sign:=c_.sign,jD:=c_.jD,jN:=c_.jN,due:=c_.due,day:=c_.day }:fw)).c) fun x2 =>
 .fin (({ file:=x1,sign:=c_.sign,jD:=c_.jD,jN:=c_.jN,due:=c_.due,day:=c_.day }:fw),x2)
def aaL r c_:=(vX r c_).val
theorem R8 (r:ah) (c_:fw):(vX r c_).cZ (fun (x:fw × (List aH))=>x.2=[]∨(x.2.length=20∧0≤x.1.sign∧x.1.sign < x.1.file.af.length)):=by
  unfold vX
  try simp only [ch,vf,al.Small,ah.Small]
  exact DB

theorem UT (r:ah) (c_:fw) (hf:c_.file.Small):(vX r c_).bz (fun _=>True):=by
  simp only [al.Small,ah.Small] at hf
  unfold vX
  try simp only [ch,vf,al.Small,ah.Small]
  exact oh

def Il r c_:=kp tok mixed Tryz.func155 [av r.cells,av c_.cells] (fun x=>.fL [av x.1.cells,lv aH.cells x.2]) false (aaL r c_) (UT r c_) (R8 r c_)
theorem rJ {α σ β:Type} (step:α→σ→β ⊕ σ) (fin:σ→β) (p:α→Bool):∀ (l:List α),(∀ x s,p x=false→step x s=.inr s)→∀ s,walk step fin (l.filter p) s=walk step fin l s
  | [],_,s=>rfl
  | x :: r,h,s=>by
    rw [List.filter_cons]
    cases hp:p x with
    | false =>
      rw [if_neg (by simp)]
      conv=>rhs; unfold walk
      rw [h x s hp]
      exact rJ step fin p r h s
    | true =>
      rw [if_pos rfl]
      unfold walk
      cases step x s with
      | inl b=>rfl
      | inr s'=>exact rJ step fin p r h s'
def dX (kind at_:Int) (x:Fact) (s:Unit):aH ⊕ Unit:=bif (x.kind == kind)&&(x.at_ == at_) then .inl (sT (x.n != 0)) else .inr ()
theorem uP (f:al) (kind at_:Int):bT f kind at_=walk (dX kind at_) (fun _=>⟨false,0⟩) f.facts ():=by
  simp only [bT,lW,Sk.dh,Sk.gd,Sk.iY,Sk.eQ,Sk.iE,Sk.lT,Sk.cO,gm.xP,kk,kp,j4]
  refine (eX f.facts (fun s i=>i) (dX kind at_) id _ (fun s i hi=>?_) (fun s=>?_) (by simp) ()).trans rfl
  · rw [decide_eq_true (by omega),cond_true]
    unfold dX
    cases (((f.facts.getD i default).kind == kind)&&((f.facts.getD i default).at_ == at_)) <;> rfl
  · rw [decide_eq_false (by omega),cond_false]
theorem TC (f:al) (d kind s:Int) (h:0≤s∧s < (ai f d).af.length):bT (ai f d) kind s=bT f kind s:=by
  rw [uP,uP]
  rw [gD] at h ⊢
  dsimp only at h
  refine rJ _ _ _ _ (fun x u hp=>?_) ()
  have:(x.at_ == s)=false:=by
    simp only [LN] at hp ⊢
    intro e
    subst e
    rcases hp with q | q <;> omega
  unfold dX
  rw [this,Bool.and_false,cond_false]
theorem Im {n:Nat} {g:Nat→Int} (h:∀ q,q < n→q≠0→g (q - 1)≤g q) (i:Nat):∀ k,i+k < n→g i≤g (i+k)
  | 0,_=>Int.le_refl _
  | k+1,hk=>Int.le_trans (Im h i k (by omega)) (h (i+(k+1)) hk (by omega))
theorem TE {α:Type} [Inhabited α] (p:α→Bool):∀ (l:List α) (i:Nat),i < l.length→(∀ q,q≤i→p (l.getD q default)=true)→i < (l.takeWhile p).length
  | [],i,h,_=>absurd h (by simp)
  | x :: r,i,h,hp=>by
    have h0:p x=true:=hp 0 (by omega)
    rw [List.takeWhile_cons,h0,if_pos rfl,List.length_cons]
    cases i with
    | zero=>omega
    | succ i=>have:=TE p r i (by simpa using h) (fun q hq=>by have:=hp (q+1) (by omega); simpa using this); omega
theorem cm.mono {r:ah} {f:al} (h:cm r f) {i j:Nat} (hij:i≤j) (hj:j < f.af.length):(f.af.getD i default).day≤(f.af.getD j default).day:=by
  have:=Im (n:=f.af.length) (g:=fun q=>(f.af.getD q default).day) (fun q hq h0=>(h.2.2.1 q hq).2.1 h0) i (j - i) (by omega)
  rwa [show i+(j - i)=j by omega] at this
theorem cm.ZR {r:ah} {f:al} (h:cm r f) {d y:Int} (h0:0≤y) (h1:y < f.af.length) (h2:(f.af.getD y.toNat default).day≤d):y < (ai f d).af.length:=by
  have:y.toNat < (ai f d).af.length:=by
    rw [gD]
    refine TE _ _ _ (by omega) (fun q hq=>decide_eq_true ?_)
    have:=h.mono hq (by omega)
    omega
  omega
theorem PY (f:al) (d:Int):(ai f d).aR=f.aR:=by rw [gD]
theorem vY (f:al) (d:Int) (i:Nat) (h:i < (ai f d).af.length):(ai f d).af.getD i default=f.af.getD i default:=by
  rw [gD] at h ⊢
  exact (za _ _ _ h).1
theorem mE (f:al) (d:Int):(ai f d).af.length≤f.af.length:=by
  rw [gD]
  exact (List.takeWhile_sublist _).length_le
theorem TF {f:al} (h:f.pv) (d:Int):(ai f d).pv:=by
  obtain ⟨h1,h2,h3,h4⟩:=h
  have h2:=(tK (P:=fun x:di=>jJ x.sum)).1 h2
  have h3:=(tK (P:=fun x:Sign=>jJ x.sum)).1 h3
  have h4:=(tK (P:=fun x:bh=>jJ x.sum)).1 h4
  unfold al.pv
  rw [gD]
  exact ⟨h1,(tK (P:=fun x:di=>jJ x.sum)).2 fun x hx=>h2 x (List.mem_filter.1 hx).1,(tK (P:=fun x:Sign=>jJ x.sum)).2 fun x hx=>h3 x ((List.takeWhile_sublist _).subset hx),(tK (P:=fun x:bh=>jJ x.sum)).2 fun x hx=>h4 x ((List.takeWhile_sublist _).subset hx)⟩
theorem cm.MU {r:ah} {f:al} (h:cm r f) (d:Int):(ai f d).pv:=TF h.UH d
theorem zc {f:al} (h:f.Small) (d:Int):(ai f d).Small:=by
  have h1:=Ih f d
  unfold al.Small at h ⊢
  dsimp only at h1
  omega
theorem cm.MV {r:ah} {f:al} (h:cm r f) (d:Int):∀ i,i < (ai f d).af.length→(((ai f d).af.getD i default).kind=3∨((ai f d).af.getD i default).kind=4)→0≤((ai f d).af.getD i default).for_∧((ai f d).af.getD i default).for_ < (i:Int):=by
  intro i hi
  rw [vY f d i hi]
  have:=mE f d
  exact (h.2.2.1 i (by omega)).2.2.2.2.2.2.2.2
theorem cm.W7 {r:ah} {f:al} (h:cm r f) (d:Int) {y:Int} (h0:0≤y) (h1:y < (ai f d).af.length):0≤((ai f d).af.getD y.toNat default).dt∧((ai f d).af.getD y.toNat default).dt < (r.bm.length:Int):=by
  rw [vY f d y.toNat (by omega)]
  have:=mE f d
  exact (h.2.2.1 y.toNat (by omega)).1
def kP (s:List Int) (v:Int):Sk (Int) :=
 .bind true (fun b1=>∀ q,q < s.length→(s.getD q default == v)=false)
 (.loop (default:Sum (Int) (Unit)) (fun i2=>∀ q,q < i2→(s.getD q default == v)=false) (fun i2=>s.length - i2) (0:Nat)
 (fun (i2:Nat)=>⟨[(8,iv ((i2:Nat):Int))],[]⟩) fun i2 =>
 .lt 0 0 i2 s.length
 (.r 4 (.p (bG ((i2:Nat):Int) s.length)) fun _ =>
 .br (v == (s.getD i2 default))
 (.fin (.inl (.inl ((i2:Nat):Int))))
 (.nx 6 8 i2 (i2+1)))
 (.fin (.inl (.inr ()))))
 (fun (_:Unit)=>⟨[],[]⟩) fun _ =>
 .fin (-1)
def MW s v:=(kP s v).val
theorem Ee (s:List Int) (v:Int):(kP s v).cZ (fun (x:Int)=>(x = -1∧∀ q,q < s.length→(s.getD q default == v)=false)∨(0≤x∧x < s.length∧(s.getD x.toNat default == v)=true∧∀ q,(q:Nat) < x.toNat→(s.getD q default == v)=false)):=by
  unfold kP
  exact DB

theorem FE (s:List Int) (v:Int):(kP s v).bz (fun _=>True):=by
  unfold kP
  exact oh

def tQ s v:=kp tok mixed Tryz.func111 [lv bU s,iv v] (fun x=>iv x) true (MW s v) (u0 (FE s v)) (Ee s v)
def gX (s:List Int) (v:Int):Sk (Bool) :=
 .r 1 ((tQ s v).c) fun x1 =>
 .fin (decide (x1≥0))
def bD s v:=(gX s v).val
theorem sx (s:List Int) (v:Int):(gX s v).cZ (fun (x:Bool)=>(x=true↔∃ q,q < s.length∧(s.getD q default == v)=true)):=by
  unfold gX
  try simp only [tQ]
  exact DB

theorem zd (s:List Int) (v:Int):(fun (x:Bool)=>(x=true↔∃ q,q < s.length∧(s.getD q default == v)=true)) (bD s v):=have h:=Sk.de _ (sx s v); h
theorem Bx (s:List Int) (v:Int):(gX s v).bz (fun _=>True):=by
  unfold gX
  try simp only [tQ]
  exact pq

def aJ s v:=kp tok mixed Tryz.func59 [lv bU s,iv v] (fun x=>bv x) true (bD s v) (u0 (Bx s v)) (sx s v)
def qV (ask:Int):Sk (Int × Bool) :=
 .br ((decide (ask < 0))||(decide (ask≥22)))
 (.fin (0,false))
 (.r 3 (.aq (.o [.fU (gA eA [6,7,10,12,13,14,15,16,20,21])]) ((aJ [6,7,10,12,13,14,15,16,20,21] ask).c)) fun x1 =>
 .br x1
 (.fin (0,true))
 (.fin (1,true)))
def xj ask:=(qV ask).val
theorem Kx (ask:Int):(qV ask).bz (fun _=>True):=by
  unfold qV
  try simp only [aJ]
  exact pq

def kD ask:=kk tok mixed Tryz.func156 [iv ask] (fun x=>.fL [iv x.1,bv x.2]) true (qV ask) (xj ask) (u0 (Kx ask))
def qW (r:ah) (forum:Int) (c_:fw):Sk ((List Int)) :=
 .r 1 (.p (bG c_.sign c_.file.af.length)) fun _ =>
 .br ((((decide (((c_.file.af.getD c_.sign.toNat default).dt) < 0))||(decide (((c_.file.af.getD c_.sign.toNat default).dt)≥((r.bm.length:Nat):Int))))||(decide (forum < 0)))||(decide (forum≥((r.aE.length:Nat):Int))))
 (.fin [])
 (.r 4 (.aq (.o [.fU (mkC eA 5 0)]) (.p (Vz (5:Int) 8))) fun _ =>
 .r 5 (.aq (.p (bG (0:Int) ((List.replicate 5 (0:Int)).length))) (.aq (.o [.fU (vS eA (List.replicate 5 (0:Int)) 0 forum)]) (.p (0 < (List.replicate 5 (0:Int)).length)))) fun _ =>
 .wn 42 (List.replicate 5 (0:Int)).length ((List.replicate 5 (0:Int)).set 0 forum).length <|
 .r 6 (.o8 ((cI r ((c_.file.af.getD c_.sign.toNat default).bZ)).c) fun x1=>.aq (.p (bG (1:Int) (((List.replicate 5 (0:Int)).set 0 forum).length))) (.aq (.o [.fU (vS eA ((List.replicate 5 (0:Int)).set 0 forum) 1 x1)]) (.p (1 < ((List.replicate 5 (0:Int)).set 0 forum).length)))) fun x1 =>
 .wn 42 ((List.replicate 5 (0:Int)).set 0 forum).length (((List.replicate 5 (0:Int)).set 0 forum).set 1 x1).length <|
 .r 7 (.o8 ((cI r c_.file.aR.yk).c) fun x2=>.aq (.p (bG (2:Int) ((((List.replicate 5 (0:Int)).set 0 forum).set 1 x1).length))) (.aq (.o [.fU (vS eA (((List.replicate 5 (0:Int)).set 0 forum).set 1 x1) 2 x2)]) (.p (2 < (((List.replicate 5 (0:Int)).set 0 forum).set 1 x1).length)))) fun x2 =>
 .wn 42 (((List.replicate 5 (0:Int)).set 0 forum).set 1 x1).length ((((List.replicate 5 (0:Int)).set 0 forum).set 1 x1).set 2 x2).length <|
 .r 8 (.o8 ((cI r c_.file.aR.bZ).c) fun x3=>.aq (.p (bG (3:Int) (((((List.replicate 5 (0:Int)).set 0 forum).set 1 x1).set 2 x2).length))) (.aq (.o [.fU (vS eA ((((List.replicate 5 (0:Int)).set 0 forum).set 1 x1).set 2 x2) 3 x3)]) (.p (3 < ((((List.replicate 5 (0:Int)).set 0 forum).set 1 x1).set 2 x2).length)))) fun x3 =>
 .wn 42 ((((List.replicate 5 (0:Int)).set 0 forum).set 1 x1).set 2 x2).length (((((List.replicate 5 (0:Int)).set 0 forum).set 1 x1).set 2 x2).set 3 x3).length <|
 .r 9 (.aq (.p (bG ((c_.file.af.getD c_.sign.toNat default).dt) r.bm.length)) (.o8 ((cI r ((r.bm.getD (((c_.file.af.getD c_.sign.toNat default).dt).toNat) default).bZ)).c) fun x4=>.aq (.p (bG (4:Int) ((((((List.replicate 5 (0:Int)).set 0 forum).set 1 x1).set 2 x2).set 3 x3).length))) (.aq (.o [.fU (vS eA (((((List.replicate 5 (0:Int)).set 0 forum).set 1 x1).set 2 x2).set 3 x3) 4 x4)]) (.p (4 < (((((List.replicate 5 (0:Int)).set 0 forum).set 1 x1).set 2 x2).set 3 x3).length))))) fun x4 =>
 .wn 42 (((((List.replicate 5 (0:Int)).set 0 forum).set 1 x1).set 2 x2).set 3 x3).length ((((((List.replicate 5 (0:Int)).set 0 forum).set 1 x1).set 2 x2).set 3 x3).set 4 x4).length <|
 .r 10 ((aJ ((((((List.replicate 5 (0:Int)).set 0 forum).set 1 x1).set 2 x2).set 3 x3).set 4 x4) (-1)).c) fun x5 =>
 .br x5
 (.fin [])
 (.fin ((((((List.replicate 5 (0:Int)).set 0 forum).set 1 x1).set 2 x2).set 3 x3).set 4 x4)))
def qy r forum c_:=(qW r forum c_).val
theorem Ky (r:ah) (forum:Int) (c_:fw) (hs:0≤c_.sign∧c_.sign < c_.file.af.length):(qW r forum c_).bz (fun _=>True):=by
  unfold qW
  try simp only [cI,aJ]
  exact oh

def xk r forum c_:=kk tok mixed Tryz.func157 [av r.cells,iv forum,av c_.cells] (fun x=>.d (bif x.isEmpty then .v (.slice none 0 0) else mV bU x)) false (qW r forum c_) (qy r forum c_) (Ky r forum c_)
def jO (o:Int) (v:Int):Sk (Bool) :=
 .fin ((decide (o < 0))||(decide (o≥v)))
def eF o v:=(jO o v).val
theorem na (o:Int) (v:Int):eF o v=((decide (o < 0))||(decide (o≥v))):=rfl
theorem Ax (o:Int) (v:Int):(jO o v).bz (fun _=>True):=by
  unfold jO
  exact pq

def oj o v:=kk tok mixed Tryz.func220 [iv o,.ref [dI v]] (fun x=>bv x) true (jO o v) (eF o v) (u0 (Ax o v))
def eG (s:List Int) (v:Int):Sk (Int) :=
 .bind true (fun b1=>∀ q,q < s.length→eF (s.getD q default) v=false)
 (.loop (default:Sum (Int) (Unit)) (fun i2=>∀ q,q < i2→eF (s.getD q default) v=false) (fun i2=>s.length - i2) (0:Nat)
 (fun (i2:Nat)=>⟨[(8,iv ((i2:Nat):Int))],[]⟩) fun i2 =>
 .lt 0 0 i2 s.length
 (.r 4 (.aq (.p (bG ((i2:Nat):Int) s.length)) ((oj (s.getD i2 default) v).c)) fun x3 =>
 .br x3
 (.fin (.inl (.inl ((i2:Nat):Int))))
 (.nx 6 8 i2 (i2+1)))
 (.fin (.inl (.inr ()))))
 (fun (_:Unit)=>⟨[],[]⟩) fun _ =>
 .fin (-1)
def zf s v:=(eG s v).val
theorem vg (s:List Int) (v:Int):(eG s v).cZ (fun (x:Int)=>(x = -1∧∀ q,q < s.length→eF (s.getD q default) v=false)∨(0≤x∧x < s.length∧eF (s.getD x.toNat default) v=true∧∀ q,(q:Nat) < x.toNat→eF (s.getD q default) v=false)):=by
  unfold eG
  try simp only [oj,na]
  exact RS

theorem vZ (s:List Int) (v:Int):(eG s v).bz (fun _=>True):=by
  unfold eG
  try simp only [oj,na]
  exact yj

def kE s v:=kp tok mixed Tryz.func235 [lv bU s,.fn 220 [.ref [dI v]]] (fun x=>iv x) true (zf s v) (u0 (vZ s v)) (vg s v)
def dm (s:List Int) (v:Int):Sk (Bool) :=
 .r 1 ((kE s v).c) fun x1 =>
 .fin (decide (x1≥0))
def v7 s v:=(dm s v).val
theorem sU (s:List Int) (v:Int):(dm s v).cZ (fun (x:Bool)=>(x=true↔∃ q,q < s.length∧eF (s.getD q default) v=true)):=by
  unfold dm
  try simp only [kE]
  exact DB

theorem tR (s:List Int) (v:Int):(dm s v).bz (fun _=>True):=by
  unfold dm
  try simp only [kE]
  exact pq

def fD s v:=kp tok mixed Tryz.func219 [lv bU s,.fn 220 [.ref [dI v]]] (fun x=>bv x) true (v7 s v) (u0 (tR s v)) (sU s v)
def gQ (r:ah) (order:Int) (ask:Int) (places:List Int):Sk (Bool) :=
 .br (((((decide (order < 0))||(decide (order≥((r.aE.length:Nat):Int))))||(decide (ask < 0)))||(decide (ask≥22)))||(((places.length:Nat):Int) != 5))
 (.fin false)
 (.r 4 ((fD places ((r.aE.length:Nat):Int)).c) fun x1 =>
 .fin (!x1))
def nr r order ask places:=(gQ r order ask places).val
theorem CO (r:ah) (order:Int) (ask:Int) (places:List Int):(gQ r order ask places).cZ (fun (x:Bool)=>x=true→0≤order∧order < r.aE.length∧places.length=5∧∀ i,i < 5→0≤places.getD i default∧places.getD i default < r.aE.length):=by
  refine Sk.bp _ ?_
  unfold gQ
  simp only [Sk.cU,Sk.aO,reduceCtorEq,ON,kk,kp,fD,maxLen]
  all_goals (repeat' first | (apply And.intro) | (intro h))
  all_goals first | trivial | (simp at *; done) | (simp only [LN] at *; omega) | (simp only [LN] at *; grind [na])

theorem Ef (r:ah) (order:Int) (ask:Int) (places:List Int):(gQ r order ask places).bz (fun _=>True):=by
  unfold gQ
  try simp only [fD]
  exact pq

def iM r order ask places:=kp tok mixed Tryz.func196 [av r.cells,iv order,iv ask,lv bU places] (fun x=>bv x) true (nr r order ask places) (u0 (Ef r order ask places)) (CO r order ask places)
def jd (r:ah) (order:Int) (ask:Int) (places:List Int):Sk (Int × Bool) :=
 .r 1 ((iM r order ask places).c) fun x1 =>
 .br (!x1)
 (.fin ((-1),false))
 (.r 3 (.p (bG order r.aE.length)) fun _ =>
 .bt
 (.loop (default:Sum (Int × Bool) (Unit)) (fun i3=>i3≤((r.aE.getD order.toNat default).aV).length) (fun i3=>((r.aE.getD order.toNat default).aV).length - i3) (0:Nat)
 (fun (i3:Nat)=>⟨[(25,iv ((i3:Nat):Int))],[]⟩) fun i3 =>
 .lt 23 0 i3 (((r.aE.getD order.toNat default).aV).length)
 (.r 5 (.p (bG ((i3:Nat):Int) (((r.aE.getD order.toNat default).aV).length))) fun _ =>
 .br ((((((r.aE.getD order.toNat default).aV).getD i3 default).ask) == ask)&&(((((r.aE.getD order.toNat default).aV).getD i3 default).cz) != 0))
 (.r 7 (.p (bG ((((r.aE.getD order.toNat default).aV).getD i3 default).cz) places.length)) fun _ =>
 .fin (.inl (.inl (places.getD (((((r.aE.getD order.toNat default).aV).getD i3 default).cz).toNat) default,(((r.aE.getD order.toNat default).aV).getD i3 default).whole))))
 (.nx 8 25 i3 (i3+1)))
 (.fin (.inl (.inr ()))))
 (fun (_:Unit)=>⟨[],[]⟩) fun _ =>
 .fin (order,false))
def Io r order ask places:=(jd r order ask places).val
theorem Lz {l:List Int} {n:Nat} (h0:0 < n) (h:∀ i,i < 5→0≤l.getD i default∧l.getD i default < n) (hl:l.length=5) (k:Nat):0≤l.getD k default∧l.getD k default < n:=by
  by_cases c:k < 5
  · exact h k c
  · have:l.getD k default=0:=by simp [List.getD,List.getElem?_eq_none (by omega:l.length≤k)]
    rw [this]; omega
theorem sy {r:ah} {a b ask:Int} {places:List Int} (h:nr r a ask places=true) (hb:0≤b∧b < r.aE.length):nr r b ask places=true:=by
  simp only [nr,gQ,Sk.val,gm.c,kk,kp,fD] at h ⊢
  revert h
  simp only [Bool.cond_eq_ite]
  split
  · intro h; cases h
  · rename_i h1
    intro h
    rw [if_neg]
    · exact h
    · simp only [Bool.or_eq_true,decide_eq_true_eq,not_or] at h1 ⊢
      exact ⟨⟨⟨⟨by omega,by omega⟩,h1.1.1.2⟩,h1.1.2⟩,h1.2⟩
theorem Bz (r:ah) (order:Int) (ask:Int) (places:List Int):(jd r order ask places).cZ (fun (x:Int × Bool)=>nr r order ask places=true→0≤x.1∧x.1 < r.aE.length):=by
  refine Sk.bp _ ?_
  unfold jd
  simp only [Sk.cU,Sk.aO,reduceCtorEq,ON,kk,kp,iM,ah.cG,maxLen]
  all_goals (repeat' first | (apply And.intro) | (intro h))
  all_goals first | trivial | omega | (simp only [LN] at *; first | omega | (exact (Lz (n:=r.aE.length) (by grind) (by grind) (by grind) _).1) | (exact (Lz (n:=r.aE.length) (by grind) (by grind) (by grind) _).2) | grind)

theorem CP (r:ah) (order:Int) (ask:Int) (places:List Int) (hb:r.cG):(jd r order ask places).bz (fun _=>True):=by
  simp only [ah.cG] at hb
  unfold jd
  try simp only [iM,ah.cG]
  exact oh

def qz r order ask places:=kp tok mixed Tryz.func197 [av r.cells,iv order,iv ask,lv bU places] (fun x=>.fL [iv x.1,bv x.2]) true (Io r order ask places) (CP r order ask places) (Bz r order ask places)
def pE (n:Nat) (l:List Int):Prop:=l.length≠0∧l.Nodup∧∀ x,x∈l→0≤x∧x < n
theorem pE.le {n:Nat} {l:List Int} (h:pE n l):l.length≤n:=by
  have h1:=List.Nodup.length_le_of_subset (l₁:=l) (l₂:=(List.range n).map Int.ofNat) h.2.1 (fun x hx=>by
    have:=h.2.2 x hx
    exact List.mem_map.2 ⟨x.toNat,List.mem_range.2 (by omega),by simp; omega⟩)
  simpa using h1
theorem pE.get {n:Nat} {l:List Int} (h:pE n l) (k:Nat):0≤l.getD k default∧l.getD k default < n:=by
  by_cases hk:k < l.length
  · have e:l.getD k default=l[k]:=by simp [List.getD,hk]
    rw [e]
    exact h.2.2 _ (List.getElem_mem hk)
  · have e:l.getD k default=0:=by simp [List.getD,List.getElem?_eq_none (by omega:l.length≤k)]
    have:=h.le
    have:=h.1
    rw [e]
    omega
theorem pE.ZS {n:Nat} {l:List Int} (h:pE n l) {x:Int} (hx:0≤x∧x < n):∀ y,y∈l++[x]→0≤y∧y < n:=fun y hy=>by
  rcases List.mem_append.1 hy with h1 | h1
  · exact h.2.2 y h1
  · simp only [List.mem_singleton] at h1; subst h1; exact hx
theorem pE.snoc {n:Nat} {l:List Int} (h:pE n l) {x:Int} (hx:0≤x∧x < n) (hn:¬ ∃ q,q < l.length∧(l.getD q default == x)=true):pE n (l++[x]):=by
  refine ⟨by simp,?_,h.ZS hx⟩
  refine List.nodup_append.2 ⟨h.2.1,by simp,fun a ha b hb e=>?_⟩
  simp only [List.mem_singleton] at hb
  subst hb; subst e
  obtain ⟨q,hq,e⟩:=List.getElem_of_mem ha
  exact hn ⟨q,hq,by simp [List.getD,hq,e]⟩
theorem pE.one {n:Nat} {x:Int} (hx:0≤x∧x < n):pE n [x]:=⟨by simp,by simp,fun y hy=>by simp only [List.mem_singleton] at hy; subst hy; exact hx⟩
def kQ (r:ah) (forum:Int) (ask:Int) (places:List Int):Sk ((List Int) × Int) :=
 .r 1 (.o8 ((iM r forum ask places).c) fun x1=>.wh (!x1) false (.p (bG (0:Int) places.length))) fun x1 =>
 .br ((!x1)||((places.getD 0 default) != forum))
 (.fin ([],1))
 (.r 3 (.o [.fU (gA eA [forum])]) fun _ =>
 .loop (default:(List Int) × Int) (fun i2=>pE r.aE.length i2) (fun i2=>r.aE.length+1 - i2.length) ([forum]:(List Int))
 (fun (i2:(List Int))=>⟨[(10,ow 100001 i2)],[(100001,bO 3 1 bU i2)]⟩) fun i2 =>
 .r 4 (.aq (.p (bG (au (((i2.length:Nat):Int) - 1)) i2.length)) (.p ((au (((i2.length:Nat):Int) - 1)).toNat < i2.length))) fun _ =>
 .r 5 ((qz r (i2.getD ((au (((i2.length:Nat):Int) - 1)).toNat) default) ask places).c) fun x3 =>
 .br (x3.1 == (i2.getD ((au (((i2.length:Nat):Int) - 1)).toNat) default))
 (.fin (.inl (i2,0)))
 (.r 8 ((aJ i2 x3.1).c) fun x4 =>
 .r 9 (.aq (.o [.fU (gA eA [x3.1])]) (.aq (.o [.fU (oe eA i2 [x3.1])]) (.aq (.t (eA.qb [x3.1])) (.p (yi i2.length [x3.1].length 8))))) fun _ =>
 .r 10 (.wh (!x3.2) false (.wh x4 true (.p (bG x3.1 r.aE.length)))) fun _ =>
 .br ((!x3.2)||(x4&&((r.aE.getD x3.1.toNat default).GH)))
 (.fin (.inl (i2++[x3.1],0)))
 (.br x4
 (.fin (.inl (i2++[x3.1],12)))
 (.fin (.inr (i2++[x3.1]))))))
def xl r forum ask places:=(kQ r forum ask places).val
theorem Eg (r:ah) (forum:Int) (ask:Int) (places:List Int):(kQ r forum ask places).cZ (fun (x:(List Int) × Int)=>x.2=0→x.1.length≠0∧(∀ y,y∈x.1→0≤y∧y < r.aE.length)∧x.1.length≤r.aE.length+1):=by
  refine Sk.bp _ ?_
  unfold kQ
  simp only [Sk.cU,Sk.aO,reduceCtorEq,ON,kk,kp,qz,iM,aJ,al.Small,ah.Small,ah.cG,maxLen]
  intro x hx hp
  refine ⟨fun _ h=>by omega,fun hc _=>?_⟩
  have JP:x=true:=by simp at hc; exact hc.1
  obtain ⟨h1,h2,h3,h4⟩:=hp JP
  refine ⟨pE.one ⟨h1,h2⟩,fun i hi _ y hy hy2=>?_⟩
  have hy3:=hy2 (sy (hx ▸ JP) (hi.get _))
  have hle:=hi.le
  refine ⟨fun _=>⟨hi.1,hi.2.2,by omega⟩,fun _ z hz hz2 _ _=>⟨fun _=>⟨by simp,hi.ZS hy3,by simp; omega⟩,fun _=>⟨fun _ h=>by omega,fun hz3=>?_⟩⟩⟩
  have hs:=hi.snoc hy3 (by rw [← hz2,hz3]; simp)
  have:=hs.le
  simp only [List.length_append,List.length_cons,List.length_nil] at this ⊢
  exact ⟨hs,by omega⟩

theorem FF (r:ah) (forum:Int) (ask:Int) (places:List Int) (hb:r.cG) (hr:r.Small):(kQ r forum ask places).bz (fun _=>True):=by
  simp only [al.Small,ah.Small,ah.cG] at hb
  simp only [al.Small,ah.Small,ah.cG] at hr
  refine Sk.aX _ ?_
  unfold kQ
  simp only [Sk.km,Sk.aO,reduceCtorEq,ON,kk,kp,qz,iM,aJ,al.Small,ah.Small,ah.cG,maxLen]
  refine ⟨fun x hx hp JP=>?_,fun x hx hp hc _=>?_⟩
  · have:=hp (by simpa using JP); omega
  have JP:x=true:=by simp at hc; exact hc.1
  obtain ⟨h1,h2,h3,h4⟩:=hp JP
  refine ⟨pE.one ⟨h1,h2⟩,fun i hi=>?_⟩
  have hle:=hi.le
  have xK:=hi.1
  have hw:au ((i.length:Int) - 1)=(i.length:Int) - 1:=aG (by omega) (by omega)
  rw [hw]
  refine ⟨⟨⟨by omega,by omega⟩,by omega⟩,fun _=>⟨hb,fun y hy hy2 ae1 z hz hz2=>?_⟩⟩
  have hy3:=hy2 (sy (hx ▸ JP) (hi.get _))
  refine ⟨⟨by simp only [List.length_cons,List.length_nil]; omega,by simp only [List.length_cons,List.length_nil]; omega⟩,fun _=>⟨fun _ _=>hy3,fun _ _ hz3=>?_⟩⟩
  have hs:=hi.snoc hy3 (by rw [← hz2,hz3]; simp)
  have:=hs.le
  simp only [List.length_append,List.length_cons,List.length_nil] at this ⊢
  exact ⟨hs,by omega⟩

def tS r forum ask places:=kp tok mixed Tryz.func158 [av r.cells,iv forum,iv ask,lv bU places] (fun x=>.fL [lv bU x.1,iv x.2]) false (xl r forum ask places) (u2 (FF r forum ask places)) (Eg r forum ask places)
theorem TG {n:Nat} {l:List Int} (h1:l.length≠0) (h2:∀ y,y∈l→0≤y∧y < (n:Int)) (k:Nat):0≤l.getD k default∧l.getD k default < n:=by
  by_cases hk:k < l.length
  · have e:l.getD k default=l[k]:=by simp [List.getD,hk]
    rw [e]
    exact h2 _ (List.getElem_mem hk)
  · have e:l.getD k default=0:=by simp [List.getD,List.getElem?_eq_none (by omega:l.length≤k)]
    have h3:=h2 l[0] (List.getElem_mem (by omega))
    rw [e]
    omega
def rK (r:ah) (forum:Int) (aU:Int) (c_:fw):Sk (lV × (List aH)) :=
 .r 2 ((Il r c_).c) fun x1 =>
 .br (((x1.2.length:Nat):Int) == 0)
 (.fin (({ cell:=({ known:=false,n:=0 }:aH),order:=(-1),path:=[],err:=1 }:lV),[]))
 (.r 5 ((kD aU).c) fun x2 =>
 .br (!x2.2)
 (.fin (({ cell:=({ known:=false,n:=0 }:aH),order:=(-1),path:=[],err:=1 }:lV),[]))
 (.r 8 ((xk r forum x1.1).c) fun x3 =>
 .Ti 14 x3.isEmpty nv (lv bU x3)
 (.JQ <|
 .fin (({ cell:=({ known:=false,n:=0 }:aH),order:=(-1),path:=[],err:=1 }:lV),[]))
 (.r 9 (.p (x3.length≠0)) fun _ =>
 .JR <|
 .r 11 ((tS r forum aU x3).c) fun x4 =>
 .br (x4.2 == 0)
 (.r 13 (.p (bG (au (((x4.1.length:Nat):Int) - 1)) x4.1.length)) fun _ =>
 .fin (({ cell:=({ known:=false,n:=0 }:aH),order:=x4.1.getD ((au (((x4.1.length:Nat):Int) - 1)).toNat) default,path:=x4.1,err:=x4.2 }:lV),x1.2))
 (.fin (({ cell:=({ known:=false,n:=0 }:aH),order:=(-1),path:=x4.1,err:=x4.2 }:lV),x1.2)))))
def nw r forum aU c_:=(rK r forum aU c_).val
theorem MX (r:ah) (forum:Int) (aU:Int) (c_:fw):(rK r forum aU c_).cZ (fun (x:lV × (List aH))=>x.1.order = -1∨(0≤x.1.order∧x.1.order < r.aE.length∧x.2.length=20)):=by
  refine Sk.bp _ ?_
  unfold rK
  simp only [Sk.cU,Sk.aO,reduceCtorEq,ON,kk,kp,Il,xk,tS,kD,al.Small,ah.Small,ah.cG,maxLen]
  intro x hx hp
  refine ⟨fun _=>.inl trivial,fun hc x1 _=>⟨fun _=>.inl trivial,fun _ x2 _=>⟨fun _=>.inl trivial,fun _ _ x4 _ hl=>⟨fun h0 _=>.inr ?_,fun _=>.inl trivial⟩⟩⟩⟩
  obtain ⟨h1,h2,h3⟩:=hl (by simpa using h0)
  have h20:x.2.length=20:=by
    rcases hp with h | h
    · rw [h] at hc; simp at hc
    · exact h.1
  exact ⟨(TG h1 h2 _).1,(TG h1 h2 _).2,h20⟩

theorem PZ (r:ah) (forum:Int) (aU:Int) (c_:fw) (hf:c_.file.Small) (hb:r.cG) (hr:r.Small):(rK r forum aU c_).bz (fun _=>True):=by
  simp only [al.Small,ah.Small,ah.cG] at hf
  simp only [al.Small,ah.Small,ah.cG] at hb
  simp only [al.Small,ah.Small,ah.cG] at hr
  refine Sk.aX _ ?_
  unfold rK
  simp only [Sk.km,Sk.aO,reduceCtorEq,ON,kk,kp,Il,xk,tS,kD,al.Small,ah.Small,ah.cG,maxLen]
  refine ⟨hf,fun x hx hp hc x1 _ _=>?_⟩
  have Yd:x.2.length=20∧0≤x.1.sign∧x.1.sign < x.1.file.af.length:=by
    rcases hp with h | h
    · rw [h] at hc; simp at hc
    · exact h
  refine ⟨Yd.2,fun x2 _ he=>⟨fun h=>by simp [List.length_eq_zero_iff.1 h] at he,fun _=>⟨⟨hb,hr⟩,fun x4 _ hl h0=>?_⟩⟩⟩
  obtain ⟨h1,h2,h3⟩:=hl (by simpa using h0)
  rw [aG (by omega) (by omega)]
  omega

def Ip r forum aU c_:=kp tok mixed Tryz.func120 [av r.cells,iv forum,iv aU,av c_.cells] (fun x=>.fL [av x.1.cells,lv aH.cells x.2]) false (nw r forum aU c_) (u3 (PZ r forum aU c_)) (MX r forum aU c_)
def mF (r:tJ) (v:Int):Sk (Bool) :=
 .fin (r.ask == v)
def jE r v:=(mF r v).val
theorem v8 (r:tJ) (v:Int):jE r v=(r.ask == v):=rfl
theorem Eh (r:tJ) (v:Int):(mF r v).bz (fun _=>True):=by
  unfold mF
  exact pq

def rZ r v:=kk tok mixed Tryz.func199 [av r.cells,.ref [dI v]] (fun x=>bv x) true (mF r v) (jE r v) (u0 (Eh r v))
def eH (s:List tJ) (v:Int):Sk (Int) :=
 .bind true (fun b1=>∀ q,q < s.length→jE (s.getD q default) v=false)
 (.loop (default:Sum (Int) (Unit)) (fun i2=>∀ q,q < i2→jE (s.getD q default) v=false) (fun i2=>s.length - i2) (0:Nat)
 (fun (i2:Nat)=>⟨[(8,iv ((i2:Nat):Int))],[]⟩) fun i2 =>
 .lt 0 0 i2 s.length
 (.r 4 (.aq (.p (bG ((i2:Nat):Int) s.length)) ((rZ (s.getD i2 default) v).c)) fun x3 =>
 .br x3
 (.fin (.inl (.inl ((i2:Nat):Int))))
 (.nx 6 8 i2 (i2+1)))
 (.fin (.inl (.inr ()))))
 (fun (_:Unit)=>⟨[],[]⟩) fun _ =>
 .fin (-1)
def zg s v:=(eH s v).val
theorem vh (s:List tJ) (v:Int):(eH s v).cZ (fun (x:Int)=>(x = -1∧∀ q,q < s.length→jE (s.getD q default) v=false)∨(0≤x∧x < s.length∧jE (s.getD x.toNat default) v=true∧∀ q,(q:Nat) < x.toNat→jE (s.getD q default) v=false)):=by
  unfold eH
  try simp only [rZ,v8]
  exact RS

theorem wa (s:List tJ) (v:Int):(eH s v).bz (fun _=>True):=by
  unfold eH
  try simp only [rZ,v8]
  exact yj

def pF s v:=kp tok mixed Tryz.func198 [lv tJ.cells s,.fn 199 [.ref [dI v]]] (fun x=>iv x) true (zg s v) (u0 (wa s v)) (vh s v)
def sa (rv:Term→Int→Int) (rp:Term→Int→Prop) (rf:∀ (t:Term) (level:Int),rp t level→gr Tryz.prog 221 [av t.cells,iv level] [] (iv (rv t level)) []) (t:Term) (level:Int):gm (Int):=⟨Tryz.prog,221,[av t.cells,iv level],fun x=>iv x,true,rv t level,rp t level,rf t level,fun _=>True,trivial⟩
def en (rv:Term→Int→Int) (rp:Term→Int→Prop) (rf:∀ (t:Term) (level:Int),rp t level→gr Tryz.prog 221 [av t.cells,iv level] [] (iv (rv t level)) []) (t:Term) (level:Int):Sk (Int) :=
 .br (decide (level > 8))
 (.fin 61)
 (.bind true (fun b1=>∀ B:Int,1≤B→B≤1000000→(∀ q,q < t.args.length→1≤rv (t.args.getD q default) (au (level+1))∧rv (t.args.getD q default) (au (level+1))≤B)→(1:Int)≤b1∧b1≤60+B∧(b1≤60→t.args.length≤60∧∀ q,q < t.args.length→rv (t.args.getD q default) (au (level+1))≤60))
 (.loop (default:Sum (Int) (Int)) (fun i2=>i2.2≤t.args.length∧(∀ B:Int,1≤B→B≤1000000→(∀ q,q < t.args.length→1≤rv (t.args.getD q default) (au (level+1))∧rv (t.args.getD q default) (au (level+1))≤B)→(1+(i2.2:Int))≤i2.1∧i2.1≤60∧∀ q,q < i2.2→rv (t.args.getD q default) (au (level+1))≤60)) (fun i2=>t.args.length - i2.2) ((1,0):Int × Nat)
 (fun (i2:Int × Nat)=>⟨[(5,iv i2.1),(13,iv ((i2.2:Nat):Int))],[]⟩) fun i2 =>
 .lt 11 0 i2.2 t.args.length
 (.r 6 (.aq (.p (bG ((i2.2:Nat):Int) t.args.length)) (.o [.cast 15 (YO (Term.HP (t.args.getD i2.2 default)))])) fun _ =>
 .r 7 ((sa rv rp rf (t.args.getD i2.2 default) (au (level+1))).c) fun x3 =>
 .br (decide ((au (i2.1+x3)) > 60))
 (.fin (.inl (.inr (au (i2.1+x3)))))
 (.nx 9 13 i2.2 (au (i2.1+x3),i2.2+1)))
 (.fin (.inl (.inr i2.1))))
 (fun (b1:Int)=>⟨[(5,iv b1)],[]⟩) fun b1 =>
 .fin b1)
def bI:Nat→Term→Int→Int
  | 0,_,_=>default
  | fu+1,t,level=>(en (bI fu) (fun _ _=>False) (fun _ _=>fun h=>h.elim) t level).val
/-- no node has too many parts -/
inductive Ei:Term→Prop
  | mk {t:Term} (h:t.args.length≤60) (h2:∀ q,q < t.args.length→Ei (t.args.getD q default)):Ei t
theorem FG (fu:Nat) (rf:∀ (t:Term) (level:Int),t.depth≤fu∧True→gr Tryz.prog 221 [av t.cells,iv level] [] (iv (bI fu t level)) []) (t:Term) (level:Int) (hm:t.depth≤fu+1):(en (bI fu) (fun t level=>t.depth≤fu∧True) rf t level).bz (fun _=>True):=by
  refine Sk.aX _ ?_
  unfold en
  simp only [Sk.km,Sk.aO,reduceCtorEq,ON,kk,kp,sa,maxLen]
  intro R9
  have R9:level≤8:=by simp only [LN] at R9; exact R9
  refine ⟨⟨Nat.zero_le _,fun B _ _ _=>⟨by omega,by omega,fun q hq=>absurd hq (by omega)⟩⟩,fun i hi hlen=>⟨fun hc=>⟨⟨by omega,of_decide_eq_true hc⟩,fun _=>⟨?_,fun x hx=>⟨fun hb B b1 b2 hq=>?_,fun hb _=>⟨?_,⟨?_,fun B b1 b2 hq=>?_⟩,?_⟩⟩⟩⟩,fun hc B b1 b2 hq=>?_⟩⟩
  all_goals (try simp only [LN] at hc)
  all_goals (try simp only [LN] at hb)
  · have:=t.kA i.2 (by omega); omega
  · subst hx
    have q1:=hi.2 B b1 b2 hq
    have q2:=hq i.2 (by omega)
    rw [aG (n:=i.1+_) (by omega) (by omega)] at hb ⊢
    exact ⟨by omega,by omega,fun h=>by omega⟩
  · exact aG (by omega) (by omega)
  · omega
  · subst hx
    have q1:=hi.2 B b1 b2 hq
    have q2:=hq i.2 (by omega)
    rw [aG (n:=i.1+_) (by omega) (by omega)] at hb ⊢
    refine ⟨by omega,by omega,fun q YZ=>?_⟩
    by_cases e:q=i.2
    · subst e; omega
    · exact q1.2.2 q (by omega)
  · omega
  · have q1:=hi.2 B b1 b2 hq
    exact ⟨by omega,by omega,fun _=>⟨by omega,fun q YZ=>q1.2.2 q (by omega)⟩⟩

theorem Ej (fu:Nat) (rp:Term→Int→Prop) (rf:∀ (t:Term) (level:Int),rp t level→gr Tryz.prog 221 [av t.cells,iv level] [] (iv (bI fu t level)) []) (t:Term) (level:Int):(en (bI fu) rp rf t level).val=bI (fu+1) t level:=by kernel_rfl
theorem Ek (fu:Nat):∀ (t:Term) (level:Int),t.depth≤fu→gr Tryz.prog 221 [av t.cells,iv level] [] (iv (bI fu t level)) []:=by
  induction fu with
  | zero=>intro t level hm; exact absurd hm (by have:=Term.tp t; omega)
  | succ fu ih =>
    intro t level hm
    have h:gr Tryz.prog 221 [av t.cells,iv level] [] (iv ((en (bI fu) (fun t level=>t.depth≤fu∧True) (fun t level h=>ih t level h.1) t level).val)) []:=gr.sk tok mixed (fun x=>iv x) (fun _=>[]) Tryz.func221 rfl (by kernel_rfl) 3000 (en (bI fu) (fun t level=>t.depth≤fu∧True) (fun t level h=>ih t level h.1) t level) (by kernel_rfl) (FG fu _ t level hm)
    rw [Ej] at h
    exact h
def CQ (t:Term) (level:Int):Int:=bI (t.depth) t level
theorem FH (t:Term) (level:Int):gr Tryz.prog 221 [av t.cells,iv level] [] (iv (CQ t level)) []:=Ek _ t level (Nat.le_refl _)
def tT (t:Term) (level:Int):gm (Int):=⟨Tryz.prog,221,[av t.cells,iv level],fun x=>iv x,true,CQ t level,True,fun _=>FH t level,fun _=>True,trivial⟩
theorem Term.LA {B:Nat}:∀ (l:List Term),(∀ q,q < l.length→(l.getD q default).depth≤B)→Term.eR l≤B
  | [],_=>by simp [Term.eR]
  | x :: r,h=>by
    have h0:=h 0 (by simp)
    have:=Term.LA r (fun q hq=>by simpa using h (q+1) (by simpa using hq))
    simp only [Term.eR]
    simp at h0
    omega

theorem sb:∀ (fu:Nat) (t:Term) (level:Int),t.depth≤fu→1≤level→level≤9→1≤bI fu t level∧bI fu t level≤61+60 * (9 - level)∧(bI fu t level≤60→t.depth+level≤9)∧(bI fu t level≤60→Ei t)
  | 0,t,_,hd,_,_=>absurd hd (by have:=t.tp; omega)
  | fu+1,t,level,hd,h1,h9=>by
    have ih:=sb fu
    have key:bI (fu+1) t level=(en (bI fu) (fun _ _=>False) (fun _ _ h=>h.elim) t level).val:=rfl
    rw [key]
    refine Sk.de (en (bI fu) (fun _ _=>False) (fun _ _ h=>h.elim) t level) (L:=fun x=>1≤x∧x≤61+60 * (9 - level)∧(x≤60→t.depth+level≤9)∧(x≤60→Ei t)) (Sk.bp _ ?_)
    have hw:au (level+1)=level+1:=aG (by omega) (by omega)
    unfold en
    simp only [Sk.cU,Sk.aO,reduceCtorEq,false_implies,qf,gI,bg.z,bg.p,bg.t,bg.pt,bg.o,bg.and,bg.aq,bg.Cw,bg.wh,bg.dep,bg.o8,gm.c,kk,kp,gm.nil,gm.Cy,iX.c,iX.nil,sa,implies_true,true_and,and_true,and_self,true_implies,forall_eq,forall_const,hw]
    refine ⟨fun h=>⟨by omega,by omega,fun h=>by omega,fun h=>by omega⟩,fun R9=>?_⟩
    have R9:level≤8:=by simp only [LN] at R9; exact R9
    have hq:∀ q,q < t.args.length→1≤bI fu (t.args.getD q default) (level+1)∧bI fu (t.args.getD q default) (level+1)≤61+60 * (8 - level):=fun q hq=>by
      have:=ih (t.args.getD q default) (level+1) (by have:=t.kA q hq; omega) (by omega) (by omega)
      omega
    refine ⟨⟨⟨Nat.zero_le _,fun B _ _ _=>⟨by omega,by omega,fun q hq=>absurd hq (by omega)⟩⟩,fun i hi=>⟨fun hc=>⟨fun hb=>?_,fun hb=>⟨⟨?_,fun B b1 b2 hq=>?_⟩,?_⟩⟩,fun hc=>?_⟩⟩,fun b hb=>?_⟩
    all_goals (try simp only [LN] at hc)
    all_goals (try simp only [LN] at hb)
    · intro B b1 b2 hq
      have q1:=hi.2 B b1 b2 hq
      have q2:=hq i.2 (by omega)
      rw [aG (by omega) (by omega)] at hb ⊢
      exact ⟨by omega,by omega,fun h=>by omega⟩
    · omega
    · have q1:=hi.2 B b1 b2 hq
      have q2:=hq i.2 (by omega)
      rw [aG (by omega) (by omega)] at hb ⊢
      refine ⟨by omega,by omega,fun q YZ=>?_⟩
      by_cases e:q=i.2
      · subst e; omega
      · exact q1.2.2 q (by omega)
    · omega
    · intro B b1 b2 hq
      have q1:=hi.2 B b1 b2 hq
      exact ⟨by omega,by omega,fun _=>⟨by omega,fun q YZ=>q1.2.2 q (by omega)⟩⟩
    · have:=hb _ (by omega) (by omega) hq
      refine ⟨this.1,by omega,fun h60=>?_,fun h60=>.mk (this.2.2 h60).1 fun q YZ=>?_⟩
      · have q3:=(this.2.2 h60).2
        have:Term.eR t.args≤(8 - level).toNat:=Term.LA _ (fun q YZ=>by
          have:=(ih (t.args.getD q default) (level+1) (by have:=t.kA q YZ; omega) (by omega) (by omega)).2.2.1 (q3 q YZ)
          omega)
        have e:t.depth=Term.eR t.args+1:=by obtain ⟨_,_,_⟩:=t; rfl
        omega
      · exact (ih (t.args.getD q default) (level+1) (by have:=t.kA q YZ; omega) (by omega) (by omega)).2.2.2 ((this.2.2 h60).2 q YZ)
def uQ (n:Int):Sk (Int) :=
 .fin (bL (cg n (-1099511627776)) 1099511627776)
def Iq n:=(uQ n).val
theorem rL (n:Int):Iq n=(bL (cg n (-1099511627776)) 1099511627776):=rfl
theorem P1 (n:Int):(uQ n).bz (fun _=>True):=by
  unfold uQ
  exact pq

def jF n:=kk tok mixed Tryz.func240 [iv n] (fun x=>iv x) true (uQ n) (Iq n) (u0 (P1 n))
def iO (v:Int):Sk (Int × Bool) :=
 .br ((decide (v < 0))||(decide (v > 19)))
 (.fin (0,false))
 (.br (decide (v < 7))
 (.fin (0,true))
 (.fin (1,true)))
def xm v:=(iO v).val
theorem FI (v:Int):(iO v).bz (fun _=>True):=by
  unfold iO
  exact pq

def j6 v:=kk tok mixed Tryz.func238 [iv v] (fun x=>.fL [iv x.1,bv x.2]) true (iO v) (xm v) (u0 (FI v))
def jf (t:Term):Sk (Int × Int) :=
 .br (decide (((t.args.length:Nat):Int) > 0))
 (.fin (0,2))
 (.br (t.op == 0)
 (.r 5 ((jF t.n).c) fun x1 =>
 .br (x1 != t.n)
 (.fin (0,3))
 (.fin (0,0)))
 (.br (t.op == 1)
 (.br ((decide (t.n < 0))||(decide (t.n > 1)))
 (.fin (0,3))
 (.fin (1,0)))
 (.r 12 ((j6 t.n).c) fun x2 =>
 .br (!x2.2)
 (.fin (0,10))
 (.fin (x2.1,0)))))
def oW t:=(jf t).val
theorem MY (t:Term):(jf t).bz (fun _=>True):=by
  unfold jf
  try simp only [j6,jF,rL]
  exact yj

def zh t:=kk tok mixed Tryz.func236 [av t.cells] (fun x=>.fL [iv x.1,iv x.2]) true (jf t) (oW t) (u0 (MY t))
structure Shape where
  args:List Int
  result:Int
  deriving Inhabited
def Shape.cells (c:Shape):List D:=[mV bU c.args,dI c.result]
def nI (op:Int):Sk (Shape) :=
 .br (op == 3)
 (.r 3 (.o [.fU (gA eA [1])]) fun _ =>
 .fin ({ args:=[1],result:=1 }:Shape))
 (.bind false (fun _=>True)
 (.br (op == 4)
 (.fin (.inr (op == 4)))
 (.fin (.inr (op == 5))))
 (fun (b1:Bool)=>⟨[(8,bv b1)],[]⟩) fun b1 =>
 .br b1
 (.r 6 (.o [.fU (gA eA [1,1])]) fun _ =>
 .fin ({ args:=[1,1],result:=1 }:Shape))
 (.br (op == 6)
 (.r 8 (.o [.fU (gA eA [1,(-1),(-1)])]) fun _ =>
 .fin ({ args:=[1,(-1),(-1)],result:=(-1) }:Shape))
 (.br (op == 7)
 (.r 10 (.o [.fU (gA eA [0,0])]) fun _ =>
 .fin ({ args:=[0,0],result:=1 }:Shape))
 (.br (op == 8)
 (.r 12 (.o [.fU (gA eA [(-1),(-1)])]) fun _ =>
 .fin ({ args:=[(-1),(-1)],result:=1 }:Shape))
 (.r 13 (.o [.fU (gA eA [0,0])]) fun _ =>
 .fin ({ args:=[0,0],result:=0 }:Shape))))))
def ca op:=(nI op).val
theorem FJ (op:Int):(nI op).bz (fun _=>True):=by
  unfold nI
  exact pq

def tU op:=kk tok mixed Tryz.func237 [iv op] (fun x=>av x.cells) false (nI op) (ca op) (u0 (FJ op))
inductive vE:Term→Int→Prop
 | int {n:Int} (h : -1099511627776≤n∧n≤1099511627776):vE ⟨0,n,[]⟩ 0
 | bool {n:Int} (h:0≤n∧n≤1):vE ⟨1,n,[]⟩ 1
 | var {n:Int} (h:0≤n∧n≤19):vE ⟨2,n,[]⟩ (if n < 7 then 0 else 1)
 | not {a:Term}:vE a 1→vE ⟨3,0,[a]⟩ 1
 | W8 {op:Int} {a b:Term} (h:op=4∨op=5):vE a 1→vE b 1→vE ⟨op,0,[a,b]⟩ 1
 | ite {a b c:Term} {k:Int}:vE a 1→vE b k→vE c k→vE ⟨6,0,[a,b,c]⟩ k
 | less {a b:Term}:vE a 0→vE b 0→vE ⟨7,0,[a,b]⟩ 1
 | eq {a b:Term} {k:Int}:vE a k→vE b k→vE ⟨8,0,[a,b]⟩ 1
 | arith {op:Int} {a b:Term} (h:9≤op∧op≤13):vE a 0→vE b 0→vE ⟨op,0,[a,b]⟩ 0
theorem vE.kind {t:Term} {k:Int} (h:vE t k):k=0∨k=1:=by
 induction h with
 | var _=>split <;> simp
 | ite _ _ _ _ ih _=>exact ih
 | _=>simp
def vi (rv:Term→Int × Int) (rp:Term→Prop) (rf:∀ (t:Term),rp t→gr Tryz.prog 222 [av t.cells] [] (.fL [iv ((rv t).1),iv ((rv t).2)]) []) (t:Term):gm (Int × Int):=⟨Tryz.prog,222,[av t.cells],fun x=>.fL [iv x.1,iv x.2],true,rv t,rp t,rf t,fun _=>True,trivial⟩
def eT (rv:Term→Int × Int) (rp:Term→Prop) (rf:∀ (t:Term),rp t→gr Tryz.prog 222 [av t.cells] [] (.fL [iv ((rv t).1),iv ((rv t).2)]) []) (t:Term):Sk (Int × Int) :=
 .r 1 (.aq (.o [.fU (mkC eA t.args.length 0)]) (.p (Vz ((t.args.length:Nat):Int) 8))) fun _ =>
 .bind true (fun b1=>b1.length=t.args.length∧∀ q,q < t.args.length→(rv (t.args.getD q default)).2=0∧b1.getD q default=(rv (t.args.getD q default)).1)
 (.loop (default:Sum (Int × Int) ((List Int))) (fun i2=>i2.1.length=t.args.length∧i2.2≤t.args.length∧∀ q,q < i2.2→(rv (t.args.getD q default)).2=0∧i2.1.getD q default=(rv (t.args.getD q default)).1) (fun i2=>t.args.length - i2.2) ((List.replicate t.args.length (0:Int),0):(List Int) × Nat)
 (fun (i2:(List Int) × Nat)=>⟨[(4,ow 100002 i2.1),(20,iv (i2.2:Int))],[(100002,bO 3 1 bU i2.1)]⟩) fun i2 =>
 .lt 18 0 i2.2 t.args.length
 (.r 4 (.aq (.p (bG (i2.2:Int) t.args.length)) (.o [.cast 23 (YO (Term.HP (t.args.getD i2.2 default)))])) fun _ =>
 .r 5 ((vi rv rp rf (t.args.getD i2.2 default)).c) fun x3 =>
 .br (x3.2 != 0)
 (.fin (.inl (.inl (0,x3.2))))
 (.r 8 (.aq (.p (bG (i2.2:Int) i2.1.length)) (.aq (.o [.fU (vS eA i2.1 i2.2 x3.1)]) (.p (i2.2 < i2.1.length)))) fun _ =>
 .wn 100002 i2.1.length (i2.1.set i2.2 x3.1).length <|
 .nx 9 20 i2.2 (i2.1.set i2.2 x3.1,i2.2+1)))
 (.fin (.inl (.inr i2.1))))
 (fun (b1:(List Int))=>⟨[(4,ow 100001 b1)],[(100001,bO 3 1 bU b1)]⟩) fun b1 =>
 .br ((decide (t.op < 0))||(decide (t.op > 13)))
 (.fin (0,1))
 (.br (((t.op == 0)||(t.op == 1))||(t.op == 2))
 (.r 13 ((zh t).c) fun x4 =>
 .fin (x4.1,x4.2))
 (.r 14 ((tU t.op).c) fun x5 =>
 .br ((((b1.length:Nat):Int) != ((x5.args.length:Nat):Int))||(t.n != 0))
 (.fin (0,2))
 (.bind true (fun b6=>∀ q,q < x5.args.length→(x5.args.getD q default = -1→b1.getD q default=b6∨b1.getD q default = -1)∧(x5.args.getD q default≠-1→b1.getD q default=x5.args.getD q default))
 (.loop (default:Sum (Int × Int) (Int)) (fun i7=>i7.2≤x5.args.length∧∀ q,q < i7.2→(x5.args.getD q default = -1→b1.getD q default=i7.1∨b1.getD q default = -1)∧(x5.args.getD q default≠-1→b1.getD q default=x5.args.getD q default)) (fun i7=>x5.args.length - i7.2) (((-1),0):Int × Nat)
 (fun (i7:Int × Nat)=>⟨[(10,iv i7.1),(82,iv (i7.2:Int))],[]⟩) fun i7 =>
 .lt 80 0 i7.2 x5.args.length
 (.r 20 (.p (bG (i7.2:Int) x5.args.length)) fun _ =>
 .bind false (fun b8=>b8=if (x5.args.getD i7.2 default) = -1∧i7.1 = -1 then b1.getD i7.2 default else i7.1)
 (.br (((x5.args.getD i7.2 default) == (-1))&&(i7.1 == (-1)))
 (.r 22 (.aq (.p (bG (i7.2:Int) b1.length)) (.p (i7.2 < b1.length))) fun _ =>
 .fin (.inr (b1.getD i7.2 default)))
 (.fin (.inr i7.1)))
 (fun (b8:Int)=>⟨[(10,iv b8)],[]⟩) fun b8 =>
 .bind false (fun b9=>b9=if (x5.args.getD i7.2 default) = -1 then b8 else (x5.args.getD i7.2 default))
 (.br ((x5.args.getD i7.2 default) == (-1))
 (.fin (.inr b8))
 (.fin (.inr (x5.args.getD i7.2 default))))
 (fun (b9:Int)=>⟨[(12,iv b9)],[]⟩) fun b9 =>
 .r 25 (.aq (.p (bG (i7.2:Int) b1.length)) (.p (i7.2 < b1.length))) fun _ =>
 .br ((b1.getD i7.2 default) != b9)
 (.fin (.inl (.inl (0,11))))
 (.nx 27 82 i7.2 (b8,i7.2+1)))
 (.fin (.inl (.inr i7.1))))
 (fun (b6:Int)=>⟨[(10,iv b6)],[]⟩) fun b6 =>
 .br (x5.result == (-1))
 (.fin (b6,0))
 (.fin (x5.result,0)))))
def ct:Nat→Term→Int × Int
 | 0,_=>default
 | fu+1,t=>(eT (ct fu) (fun _=>False) (fun _=>fun h=>h.elim) t).val
theorem Kz (fu:Nat) (rf:∀ (t:Term),t.depth≤fu∧(Ei t)→gr Tryz.prog 222 [av t.cells] [] (.fL [iv ((ct fu t).1),iv ((ct fu t).2)]) []) (t:Term) (hm:t.depth≤fu+1) (hth:Ei t):(eT (ct fu) (fun t=>t.depth≤fu∧(Ei t)) rf t).bz (fun _=>True):=by
 refine Sk.aX _ ?_
 unfold eT
 simp only [Sk.km,Sk.aO,reduceCtorEq,ON,kk,kp,zh,tU,vi,maxLen]
 have aen:=hth
 obtain ⟨ht1,ht2⟩:=aen
 refine ⟨⟨by omega,by omega,by omega⟩,fun _=>⟨⟨⟨by simp,by omega,fun q hq=>absurd hq (by omega)⟩,fun i hi hl=>⟨fun hc=>⟨⟨by omega,of_decide_eq_true hc⟩,fun _=>⟨⟨?_,?_⟩,fun x hx he=>⟨⟨⟨by omega,?_⟩,?_⟩,fun _=>⟨by simp,fun _=>⟨?_,⟨⟨by simp [hi.1],?_,fun q hq=>?_⟩,?_⟩⟩⟩⟩⟩⟩,fun hc=>⟨hi.1,fun q hq=>hi.2.2 q (by simp only [LN] at hc; omega)⟩⟩⟩,fun b hb hc wM x hx hl=>⟨⟨by omega,fun q hq=>absurd hq (by omega)⟩,fun i hi hl2=>⟨fun hc=>⟨⟨by omega,of_decide_eq_true hc⟩,fun _=>⟨⟨fun h=>⟨⟨⟨by omega,?_⟩,?_⟩,fun _=>?_⟩,fun h=>?_⟩,fun y _ hy=>⟨⟨fun h=>?_,fun h=>?_⟩,fun z _ hz=>⟨⟨⟨by omega,?_⟩,?_⟩,fun _=>fun he _=>⟨?_,⟨⟨?_,fun q hq=>?_⟩,?_⟩⟩⟩⟩⟩⟩,fun hc q hq=>hi.2 q (by simp only [LN] at hc; omega)⟩⟩⟩⟩
 all_goals (try simp only [LN] at hc)
 ·have:=t.kA i.2 (by omega); omega
 ·exact ht2 i.2 (by omega)
 ·omega
 ·omega
 ·exact aG (by omega) (by omega)
 ·omega
 ·simp only [LN] at he
  by_cases e:q=i.2
  ·subst e
   subst hx
   exact ⟨he,oG _ (by omega) _ _⟩
  ·have:=hi.2.2 q (by omega)
   refine ⟨this.1,?_⟩
   rw [← this.2]
   exact oH _ e _ _
 ·omega
 all_goals (try simp only [LN] at hl)
 ·omega
 ·omega
 ·simp only [LN] at h
  rw [if_pos h]
 ·rw [if_neg]
  simp only [LN] at h
  intro ⟨h1,h2⟩
  rcases h with h | h
  ·exact h h1
  ·exact h h2
 ·simp only [LN] at h; rw [if_pos h]
 ·simp only [LN] at h; rw [if_neg h]
 ·omega
 ·omega
 ·exact aG (by omega) (by omega)
 ·omega
 ·simp only [LN] at he
  by_cases e:q=i.2
  ·subst e
   refine ⟨fun h=>?_,fun h=>?_⟩
   ·rw [if_pos h] at hz; left; rw [he,hz]
   ·rw [if_neg h] at hz; rw [he,hz]
  ·have:=hi.2 q (by omega)
   refine ⟨fun h=>?_,this.2⟩
   rcases this.1 h with h1 | h1
   ·by_cases c:x.args.getD i.snd default = -1∧i.fst = -1
    ·right; rw [h1,c.2]
    ·rw [if_neg c] at hy; left; rw [h1,hy]
   ·exact .inr h1
 ·omega
theorem Ir (fu:Nat) (rp:Term→Prop) (rf:∀ (t:Term),rp t→gr Tryz.prog 222 [av t.cells] [] (.fL [iv ((ct fu t).1),iv ((ct fu t).2)]) []) (t:Term):(eT (ct fu) rp rf t).val=ct (fu+1) t:=by kernel_rfl
theorem Iu (fu:Nat):∀ (t:Term),t.depth≤fu→(Ei t)→gr Tryz.prog 222 [av t.cells] [] (.fL [iv ((ct fu t).1),iv ((ct fu t).2)]) []:=by
 induction fu with
 | zero=>intro t hm h0; exact absurd hm (by have:=Term.tp t; omega)
 | succ fu ih =>
  intro t hm h0
  have h:gr Tryz.prog 222 [av t.cells] [] (.fL [iv (((eT (ct fu) (fun t=>t.depth≤fu∧(Ei t)) (fun t h=>ih t h.1 h.2) t).val).1),iv (((eT (ct fu) (fun t=>t.depth≤fu∧(Ei t)) (fun t h=>ih t h.1 h.2) t).val).2)]) []:=gr.sk tok mixed (fun x=>.fL [iv x.1,iv x.2]) (fun _=>[]) Tryz.func222 rfl (by kernel_rfl) 3000 (eT (ct fu) (fun t=>t.depth≤fu∧(Ei t)) (fun t h=>ih t h.1 h.2) t) (by kernel_rfl) (Kz fu _ t hm h0)
  rw [Ir] at h
  exact h
def BA (t:Term):Int × Int:=ct (t.depth) t
theorem KA (t:Term) (hth:Ei t):gr Tryz.prog 222 [av t.cells] [] (.fL [iv ((BA t).1),iv ((BA t).2)]) []:=Iu _ t (Nat.le_refl _) hth
def xn (t:Term):gm (Int × Int):=⟨Tryz.prog,222,[av t.cells],fun x=>.fL [iv x.1,iv x.2],true,BA t,(Ei t),fun h=>KA t h,fun _=>True,trivial⟩
theorem FK (t:Term) (wM:t.op=0∨t.op=1∨t.op=2) (h:(oW t).2=0):vE t (oW t).1:=by
 obtain ⟨op,n,args⟩:=t
 simp only at wM
 revert h
 cases args with
 | cons a r =>
  intro h
  exfalso
  revert h
  simp only [oW,jf,Sk.eQ,Sk.cO]
  rw [show decide ((((a :: r).length:Nat):Int) > 0)=true from by simp]
  simp
 | nil =>
  rcases wM with rfl | rfl | rfl
  ·simp only [oW,jf,Sk.eQ,Sk.cO,Sk.iE,gm.xP,kk,kp,jF,rL]
   intro h
   by_cases c:bL (cg n (-1099511627776)) 1099511627776=n
   ·have : -1099511627776≤n∧n≤1099511627776:=by simp only [bL,cg] at c; omega
    have e:(bL (cg n (-1099511627776)) 1099511627776 != n)=false:=by simpa using c
    rw [e]
    exact vE.int this
   ·have e:(bL (cg n (-1099511627776)) 1099511627776 != n)=true:=by simpa using c
    rw [e] at h
    exact absurd (show (3:Int)=0 from h) (by decide)
  ·simp only [oW,jf,Sk.eQ,Sk.cO,Sk.iE,gm.xP,kk,kp,jF,rL]
   intro h
   by_cases c:n < 0∨n > 1
   ·have e:(decide (n < 0)||decide (n > 1))=true:=by simpa using c
    rw [e] at h
    exact absurd (show (3:Int)=0 from h) (by decide)
   ·have:0≤n∧n≤1:=by omega
    have e:(decide (n < 0)||decide (n > 1))=false:=by simp; omega
    rw [e]
    exact vE.bool this
  ·intro h
   have e:oW ⟨2,n,[]⟩=(if n < 0∨n > 19 then (0,10) else if n < 7 then (0,0) else (1,0)):=by
    simp only [oW,jf,Sk.eQ,Sk.cO,Sk.iE,gm.xP,kk,kp,j6,xm,iO]
    by_cases c:n < 0∨n > 19
    ·have:(decide (n < 0)||decide (n > 19))=true:=by simpa using c
     simp [this,c]
    ·have:(decide (n < 0)||decide (n > 19))=false:=by simp; omega
     by_cases d:n < 7 <;> simp [this,c,d]
   rw [e] at h ⊢
   by_cases c:n < 0∨n > 19
   ·simp [c] at h
   ·have:0≤n∧n≤19:=by omega
    have:=vE.var this
    by_cases d:n < 7 <;> simpa [c,d] using this
theorem aaM:ca 3=⟨[1],1⟩:=by kernel_rfl
theorem aaN:ca 4=⟨[1,1],1⟩:=by kernel_rfl
theorem aaO:ca 5=⟨[1,1],1⟩:=by kernel_rfl
theorem aaP:ca 6=⟨[1,-1,-1],-1⟩:=by kernel_rfl
theorem aaQ:ca 7=⟨[0,0],1⟩:=by kernel_rfl
theorem aaR:ca 8=⟨[-1,-1],1⟩:=by kernel_rfl
theorem W9:ca 9=⟨[0,0],0⟩:=by kernel_rfl
theorem UU:ca 10=⟨[0,0],0⟩:=by kernel_rfl
theorem UW:ca 11=⟨[0,0],0⟩:=by kernel_rfl
theorem UX:ca 12=⟨[0,0],0⟩:=by kernel_rfl
theorem UY:ca 13=⟨[0,0],0⟩:=by kernel_rfl
theorem aaS (op:Int) (h:9≤op∧op≤13):ca op=⟨[0,0],0⟩:=by
 have:op=9∨op=10∨op=11∨op=12∨op=13:=by omega
 rcases this with e | e | e | e | e <;> rw [e]
 ·exact W9
 ·exact UU
 ·exact UW
 ·exact UX
 ·exact UY
theorem acu {α:Type} {l:List α} (h:l.length=1):∃ a,l=[a]:=by
 match l,h with
 | [a],_=>exact ⟨a,rfl⟩
theorem P2 {α:Type} {l:List α} (h:l.length=2):∃ a b,l=[a,b]:=by
 match l,h with
 | [a,b],_=>exact ⟨a,b,rfl⟩
theorem acv {α:Type} {l:List α} (h:l.length=3):∃ a b c,l=[a,b,c]:=by
 match l,h with
 | [a,b,c],_=>exact ⟨a,b,c,rfl⟩
theorem Iv {t:Term} {b1:List Int} {common:Int} (wM:3≤t.op∧t.op≤13) (hn:t.n=0) (hl:b1.length=(ca t.op).args.length) (hb:b1.length=t.args.length) (Ml:∀ q,q < t.args.length→vE (t.args.getD q default) (b1.getD q default))
  (hc:∀ q,q < (ca t.op).args.length→((ca t.op).args.getD q default = -1→b1.getD q default=common∨b1.getD q default = -1)∧((ca t.op).args.getD q default≠-1→b1.getD q default=(ca t.op).args.getD q default)) :
  vE t (if (ca t.op).result = -1 then common else (ca t.op).result):=by
 obtain ⟨op,n,args⟩:=t
 simp only at wM hn hl hb Ml hc ⊢
 subst hn
 have aaT:op=3∨op=4∨op=5∨op=6∨op=7∨op=8∨(9≤op∧op≤13):=by omega
 rcases aaT with rfl | rfl | rfl | rfl | rfl | rfl | h9
 ·rw [aaM] at hl hc ⊢
  obtain ⟨a,rfl⟩:=acu (hb.symm.trans hl)
  have h0:=Ml 0 (by simp)
  have c0:=hc 0 (by simp)
  simp at h0 c0 ⊢
  rw [c0] at h0
  exact .not h0
 ·rw [aaN] at hl hc ⊢
  obtain ⟨a,b,rfl⟩:=P2 (hb.symm.trans hl)
  have h0:=Ml 0 (by simp); have h1:=Ml 1 (by simp)
  have c0:=hc 0 (by simp); have c1:=hc 1 (by simp)
  simp at h0 h1 c0 c1 ⊢
  rw [c0] at h0; rw [c1] at h1
  exact .W8 (.inl rfl) h0 h1
 ·rw [aaO] at hl hc ⊢
  obtain ⟨a,b,rfl⟩:=P2 (hb.symm.trans hl)
  have h0:=Ml 0 (by simp); have h1:=Ml 1 (by simp)
  have c0:=hc 0 (by simp); have c1:=hc 1 (by simp)
  simp at h0 h1 c0 c1 ⊢
  rw [c0] at h0; rw [c1] at h1
  exact .W8 (.inr rfl) h0 h1
 ·rw [aaP] at hl hc ⊢
  obtain ⟨a,b,c,rfl⟩:=acv (hb.symm.trans hl)
  have h0:=Ml 0 (by simp); have h1:=Ml 1 (by simp); have h2:=Ml 2 (by simp)
  have c0:=hc 0 (by simp); have c1:=hc 1 (by simp); have c2:=hc 2 (by simp)
  simp at h0 h1 h2 c0 c1 c2 ⊢
  have k1:=h1.kind; have k2:=h2.kind
  rw [c0] at h0
  have e1:b1[1]?.getD 0=common:=by omega
  have e2:b1[2]?.getD 0=common:=by omega
  rw [e1] at h1; rw [e2] at h2
  exact .ite h0 h1 h2
 ·rw [aaQ] at hl hc ⊢
  obtain ⟨a,b,rfl⟩:=P2 (hb.symm.trans hl)
  have h0:=Ml 0 (by simp); have h1:=Ml 1 (by simp)
  have c0:=hc 0 (by simp); have c1:=hc 1 (by simp)
  simp at h0 h1 c0 c1 ⊢
  rw [c0] at h0; rw [c1] at h1
  exact .less h0 h1
 ·rw [aaR] at hl hc ⊢
  obtain ⟨a,b,rfl⟩:=P2 (hb.symm.trans hl)
  have h0:=Ml 0 (by simp); have h1:=Ml 1 (by simp)
  have c0:=hc 0 (by simp); have c1:=hc 1 (by simp)
  simp at h0 h1 c0 c1 ⊢
  have k1:=h0.kind; have k2:=h1.kind
  have e1:b1[0]?.getD 0=common:=by omega
  have e2:b1[1]?.getD 0=common:=by omega
  rw [e1] at h0; rw [e2] at h1
  exact .eq h0 h1
 ·rw [aaS op h9] at hl hc ⊢
  obtain ⟨a,b,rfl⟩:=P2 (hb.symm.trans hl)
  have h0:=Ml 0 (by simp); have h1:=Ml 1 (by simp)
  have c0:=hc 0 (by simp); have c1:=hc 1 (by simp)
  simp at h0 h1 c0 c1 ⊢
  rw [c0] at h0; rw [c1] at h1
  exact .arith h9 h0 h1
theorem wb:∀ (fu:Nat) (t:Term),t.depth≤fu→(ct fu t).2=0→vE t (ct fu t).1
 | 0,t,hd,_=>absurd hd (by have:=t.tp; omega)
 | fu+1,t,hd,h=>by
  have ih:=wb fu
  have key:ct (fu+1) t=(eT (ct fu) (fun _=>False) (fun _ h=>h.elim) t).val:=rfl
  rw [key] at h ⊢
  refine (Sk.de (eT (ct fu) (fun _=>False) (fun _ h=>h.elim) t) (L:=fun x=>x.2=0→vE t x.1) (Sk.bp _ ?_)) h
  unfold eT
  simp only [Sk.cU,Sk.aO,reduceCtorEq,false_implies,qf,gI,bg.z,bg.p,bg.t,bg.pt,bg.o,bg.and,bg.aq,bg.Cw,bg.wh,bg.dep,bg.o8,gm.c,kk,kp,vi,zh,tU,implies_true,true_and,and_true,and_self,true_implies,forall_eq,forall_const]
  refine ⟨⟨⟨by simp,Nat.zero_le _,fun q hq=>absurd hq (by omega)⟩,fun i hi=>⟨fun hc=>⟨fun he h=>?_,fun he=>⟨⟨by simp [hi.1],?_,fun q hq=>?_⟩,?_⟩⟩,fun hc=>⟨hi.1,fun q hq=>hi.2.2 q (by simp at hc; omega)⟩⟩⟩,fun b hb=>⟨fun hc h=>absurd h (by decide),fun hc=>⟨fun wM h=>?_,fun wM=>⟨fun _ h=>absurd h (by decide),fun hl=>⟨⟨⟨Nat.zero_le _,fun q hq=>absurd hq (by omega)⟩,fun i hi=>⟨fun hc=>⟨⟨?_,?_⟩,fun y _ hy=>⟨⟨?_,?_⟩,fun z _ hz=>⟨fun _ h=>absurd h (by decide),fun he=>⟨⟨?_,fun q hq=>?_⟩,?_⟩⟩⟩⟩,fun hc q hq=>hi.2 q (by simp at hc; omega)⟩⟩,fun y hy=>⟨?_,?_⟩⟩⟩⟩⟩⟩
  ·rw [h] at he; exact absurd he (by decide)
  ·simp only [LN] at hc; omega
  ·simp only [LN] at hc he
   by_cases e:q=i.2
   ·subst e
    exact ⟨he,oG _ (by omega) _ _⟩
   ·have:=hi.2.2 q (by omega)
    refine ⟨this.1,?_⟩
    rw [← this.2]
    exact oH _ e _ _
  ·simp only [LN] at hc; omega
  ·exact FK t (by simp only [LN] at wM; omega) h
  ·intro h; simp only [LN] at h; rw [if_pos h]
  ·intro h
   rw [if_neg]
   simp only [LN] at h
   intro ⟨h1,h2⟩
   rcases h with h | h
   ·exact h h1
   ·exact h h2
  ·intro h; simp only [LN] at h; rw [if_pos h]
  ·intro h; simp only [LN] at h; rw [if_neg h]
  ·simp only [LN] at hc; omega
  ·simp only [LN] at hc he
   by_cases e:q=i.2
   ·subst e
    refine ⟨fun h=>?_,fun h=>?_⟩
    ·rw [if_pos h] at hz; left; rw [he,hz]
    ·rw [if_neg h] at hz; rw [he,hz]
   ·have:=hi.2 q (by omega)
    refine ⟨fun h=>?_,this.2⟩
    rcases this.1 h with h1 | h1
    ·by_cases c:(ca t.op).args.getD i.snd default = -1∧i.fst = -1
     ·right; rw [h1,c.2]
     ·rw [if_neg c] at hy; left; rw [h1,hy]
    ·exact .inr h1
  ·simp only [LN] at hc; omega
  ·intro h
   simp only [LN] at hc wM hl h
   have:=Iv (t:=t) (b1:=b) (common:=y) (by omega) hl.2 (by omega) hb.1 (fun q hq=>by
    have h1:=hb.2 q hq
    rw [h1.2]
    exact ih _ (by have:=t.kA q hq; omega) h1.1) hy
   rw [if_pos h] at this
   exact this
  ·intro h
   simp only [LN] at hc wM hl h
   have:=Iv (t:=t) (b1:=b) (common:=y) (by omega) hl.2 (by omega) hb.1 (fun q hq=>by
    have h1:=hb.2 q hq
    rw [h1.2]
    exact ih _ (by have:=t.kA q hq; omega) h1.1) hy
   rw [if_neg h] at this
   exact this
def ny (t:Term):Sk (Int × Int) :=
 .r 1 ((tT t 1).c) fun x1 =>
 .br (decide (x1 > 60))
 (.fin (0,6))
 (.r 3 ((xn t).c) fun x2 =>
 .fin (x2.1,x2.2))
def xo t:=(ny t).val
def Term.CR (t:Term):Prop:=(∃ k,vE t k)∧t.depth≤8
theorem zi (t:Term):(ny t).cZ (fun (x:Int × Int)=>x.2=0→vE t x.1∧t.depth≤8):=by
 refine Sk.bp _ ?_
 unfold ny
 simp only [Sk.cU,Sk.aO,reduceCtorEq,false_implies,qf,gI,bg.z,bg.p,bg.t,bg.pt,bg.o,bg.and,bg.aq,bg.Cw,bg.wh,bg.dep,bg.o8,gm.c,kk,kp,gm.nil,gm.Cy,iX.c,iX.nil,tT,xn,forall_eq,forall_const]
 have hm:=sb _ t 1 (Nat.le_refl _) (by omega) (by omega)
 have hc:=wb _ t (Nat.le_refl _)
 refine ⟨fun _ h=>absurd h (by decide),fun c h=>⟨hc h,?_⟩⟩
 simp only [decide_eq_false_iff_not] at c
 have:bI t.depth t 1≤60:=Int.not_lt.1 c
 have:=hm.2.2.1 this
 omega
theorem FL (t:Term):(fun (x:Int × Int)=>x.2=0→vE t x.1∧t.depth≤8) (xo t):=have h:=Sk.de _ (zi t); h
theorem KB (t:Term):(ny t).bz (fun _=>True):=by
 refine Sk.aX _ ?_
 unfold ny
 simp only [Sk.km,Sk.aO,reduceCtorEq,ON,kk,kp,xn,tT,maxLen]
 exact fun x hx h=>(sb _ t 1 (Nat.le_refl _) (by omega) (by omega)).2.2.2 (by subst hx; simp only [LN] at h; exact h)
def sV t:=kp tok mixed Tryz.func200 [av t.cells] (fun x=>.fL [iv x.1,iv x.2]) true (xo t) (u0 (KB t)) (zi t)
def qX (o:Order) (ask:Int):Sk (Term × Int) :=
 .r 1 ((kD ask).c) fun x1 =>
 .br (!x1.2)
 (.fin (({ op:=0,n:=0,args:=[] }:Term),1))
 (.r 4 ((pF o.rules ask).c) fun x2 =>
 .br (decide (x2 < 0))
 (.fin (({ op:=0,n:=0,args:=[] }:Term),4))
 (.r 7 (.p (bG x2 o.rules.length)) fun _ =>
 .r 8 ((sV ((o.rules.getD x2.toNat default).term)).c) fun x3 =>
 .br ((x3.2 != 0)||(x3.1 != x1.1))
 (.fin (({ op:=0,n:=0,args:=[] }:Term),11))
 (.fin ((o.rules.getD x2.toNat default).term,0))))
def gY o ask:=(qX o ask).val
theorem KC (o:Order) (ask:Int):(qX o ask).bz (fun _=>True):=by
 unfold qX
 try simp only [kD,pF,sV]
 exact oh
def CS o ask:=kk tok mixed Tryz.func159 [av o.cells,iv ask] (fun x=>.fL [av x.1.cells,iv x.2]) false (qX o ask) (gY o ask) (u0 (KC o ask))
structure Machine where
 eS:List aH
 deriving Inhabited
def uR (Kw:Bool):Sk (aH) :=
 .br Kw
 (.fin ({ known:=true,n:=1 }:aH))
 (.fin ({ known:=true,n:=0 }:aH))
def wc Kw:=(uR Kw).val
theorem P3 (Kw:Bool):(uR Kw).bz (fun _=>True):=by
 unfold uR
 exact pq
def gu Kw:=kk tok mixed Tryz.func239 [bv Kw] (fun x=>av x.cells) true (uR Kw) (wc Kw) (u0 (P3 Kw))
def fK (m:Machine) (v:Int):Sk (aH) :=
 .r 1 (.wh (decide (v≥((m.eS.length:Nat):Int))) false (.p (bG v m.eS.length))) fun _ =>
 .br ((decide (v≥((m.eS.length:Nat):Int)))||(!((m.eS.getD v.toNat default).known)))
 (.fin ({ known:=false,n:=0 }:aH))
 (.r 3 ((j6 v).c) fun x1 =>
 .br (x1.1 == 1)
 (.r 5 (.aq (.p (bG v m.eS.length)) ((gu (((m.eS.getD v.toNat default).n) != 0)).c)) fun x2 =>
 .fin x2)
 (.r 6 (.aq (.p (bG v m.eS.length)) ((jF ((m.eS.getD v.toNat default).n)).c)) fun x3 =>
 .fin ({ known:=true,n:=x3 }:aH)))
def gZ m v:=(fK m v).val
theorem xZ (m:Machine) (v:Int) (hv:0≤v):(fK m v).bz (fun _=>True):=by
 unfold fK
 try simp only [j6,jF,gu,rL]
 exact yj
def rM m v:=kk tok mixed Tryz.func223 [av [mV aH.cells m.eS],iv v] (fun x=>av x.cells) true (fK m v) (gZ m v) (xZ m v)
theorem Iw {a:Int} (h0:0≤a) (h1:a < 18446744073709551616):dP .u64 a 4294967295=a % 4294967296:=by
 obtain ⟨a,rfl⟩:=Int.eq_ofNat_of_zero_le h0
 unfold dP
 have h2:(BitVec.ofInt IntKind.u64.bits ((a:Nat):Int) &&& BitVec.ofInt IntKind.u64.bits 4294967295).toNat=a % 4294967296:=by
  have e:(4294967295:Int)=((4294967295:Nat):Int):=rfl
  rw [e,BitVec.toNat_and,BitVec.ofInt_natCast,BitVec.ofInt_natCast,BitVec.toNat_ofNat,BitVec.toNat_ofNat]
  have hb:IntKind.u64.bits=64:=rfl
  rw [hb,Nat.mod_eq_of_lt (by omega),Nat.mod_eq_of_lt (by omega)]
  exact Nat.and_two_pow_sub_one_eq_mod a 32
 rw [h2,dA (by omega) (by omega)]
 omega
theorem Y0 {x y:Int} (hx:0≤x∧x < 18446744073709551616) (hy:0≤y∧y < 18446744073709551616) :
  IntKind.u64.wrap ((IntKind.u64.wrap ((IntKind.u64.wrap ((dz .u64 x 32) * (dz .u64 y 32)))+(dz .u64 (IntKind.u64.wrap ((IntKind.u64.wrap ((dz .u64 x 32) * (dP .u64 y 4294967295)))+(dz .u64 (IntKind.u64.wrap ((dP .u64 x 4294967295) * (dP .u64 y 4294967295))) 32))) 32)))+(dz .u64 (IntKind.u64.wrap ((dP .u64 (IntKind.u64.wrap ((IntKind.u64.wrap ((dz .u64 x 32) * (dP .u64 y 4294967295)))+(dz .u64 (IntKind.u64.wrap ((dP .u64 x 4294967295) * (dP .u64 y 4294967295))) 32))) 4294967295)+(IntKind.u64.wrap ((dP .u64 x 4294967295) * (dz .u64 y 32))))) 32)) * 18446744073709551616+IntKind.u64.wrap (x * y)=x * y:=by
 have s32:∀ a:Int,dz .u64 a 32=a / 4294967296:=fun a=>DZ .u64 (b:=32) (by decide)
 have ax:=Iw hx.1 hx.2
 have ay:=Iw hy.1 hy.2
 rw [Iw (jM _).1 (jM _).2,ax,ay,s32,s32,s32,s32,s32]
 have bd:∀ a b:Int,0≤a∧a < 4294967296→0≤b∧b < 4294967296→0≤a * b∧a * b≤18446744065119617025:=fun a b ha hb =>
  ⟨Int.mul_nonneg ha.1 hb.1,by have:=Int.mul_le_mul (show a≤4294967295 by omega) (show b≤4294967295 by omega) hb.1 (by omega); omega⟩
 have JP:0≤x / 4294967296∧x / 4294967296 < 4294967296:=by omega
 have Zu:0≤x % 4294967296∧x % 4294967296 < 4294967296:=by omega
 have TH:0≤y / 4294967296∧y / 4294967296 < 4294967296:=by omega
 have Rj:0≤y % 4294967296∧y % 4294967296 < 4294967296:=by omega
 have UR:=bd _ _ JP TH
 have b10:=bd _ _ JP Rj
 have Y1:=bd _ _ Zu TH
 have b00:=bd _ _ Zu Rj
 have e:x * y=(x / 4294967296) * (y / 4294967296) * 18446744073709551616+((x / 4294967296) * (y % 4294967296)+(x % 4294967296) * (y / 4294967296)) * 4294967296+(x % 4294967296) * (y % 4294967296):=by
  have ex:x=x / 4294967296 * 4294967296+x % 4294967296:=by omega
  have ey:y=y / 4294967296 * 4294967296+y % 4294967296:=by omega
  generalize x / 4294967296=x1 at ex ⊢
  generalize x % 4294967296=x0 at ex ⊢
  generalize y / 4294967296=y1 at ey ⊢
  generalize y % 4294967296=y0 at ey ⊢
  subst ex; subst ey
  have a1:x1 * 4294967296 * (y1 * 4294967296)=x1 * y1 * 18446744073709551616:=by rw [Int.mul_assoc,Int.mul_left_comm 4294967296 y1,← Int.mul_assoc]; rfl
  have a2:x1 * 4294967296 * y0=x1 * y0 * 4294967296:=Int.mul_right_comm _ _ _
  have a3:x0 * (y1 * 4294967296)=x0 * y1 * 4294967296:=(Int.mul_assoc _ _ _).symm
  rw [Int.add_mul,Int.mul_add,Int.mul_add,a1,a2,a3,Int.add_mul]
  omega
 rw [e]
 generalize x / 4294967296 * (y / 4294967296)=UK at *
 generalize x / 4294967296 * (y % 4294967296)=RV at *
 generalize x % 4294967296 * (y / 4294967296)=p01 at *
 generalize x % 4294967296 * (y % 4294967296)=p00 at *
 simp only [HL]
 omega
def kW (x_:Int) (y:Int):Sk (Int × Int) :=
 .r 2 (.p (0≤(32:Int))) fun _ =>
 .r 4 (.p (0≤(32:Int))) fun _ =>
 .r 6 (.p (0≤(32:Int))) fun _ =>
 .r 8 (.p (0≤(32:Int))) fun _ =>
 .r 10 (.p (0≤(32:Int))) fun _ =>
 .fin (IntKind.u64.wrap ((IntKind.u64.wrap ((IntKind.u64.wrap ((dz .u64 x_ 32) * (dz .u64 y 32)))+(dz .u64 (IntKind.u64.wrap ((IntKind.u64.wrap ((dz .u64 x_ 32) * (dP .u64 y 4294967295)))+(dz .u64 (IntKind.u64.wrap ((dP .u64 x_ 4294967295) * (dP .u64 y 4294967295))) 32))) 32)))+(dz .u64 (IntKind.u64.wrap ((dP .u64 (IntKind.u64.wrap ((IntKind.u64.wrap ((dz .u64 x_ 32) * (dP .u64 y 4294967295)))+(dz .u64 (IntKind.u64.wrap ((dP .u64 x_ 4294967295) * (dP .u64 y 4294967295))) 32))) 4294967295)+(IntKind.u64.wrap ((dP .u64 x_ 4294967295) * (dz .u64 y 32))))) 32)),IntKind.u64.wrap (x_ * y))
def qA x_ y:=(kW x_ y).val
theorem Ix (x_:Int) (y:Int) (hP:(0≤x_∧x_ < 18446744073709551616)∧0≤y∧y < 18446744073709551616):(kW x_ y).cZ (fun (x:Int × Int)=>(0≤x.1∧x.1 < 18446744073709551616)∧(0≤x.2∧x.2 < 18446744073709551616)∧x.1 * 18446744073709551616+x.2=x_ * y):=by
 refine Sk.bp _ ?_
 unfold kW
 simp only [Sk.cU,Sk.aO,reduceCtorEq,ON,kk,kp,maxLen]
 intro _ _ _ _ _
 exact ⟨jM _,jM _,Y0 hP.1 hP.2⟩
theorem sc (x_:Int) (y:Int):(fun (x:Int × Int)=>((0≤x_∧x_ < 18446744073709551616)∧0≤y∧y < 18446744073709551616)→((0≤x.1∧x.1 < 18446744073709551616)∧(0≤x.2∧x.2 < 18446744073709551616)∧x.1 * 18446744073709551616+x.2=x_ * y)) (qA x_ y):=fun hP=>Sk.de _ (Ix x_ y hP)
theorem KD (x_:Int) (y:Int):(kW x_ y).bz (fun _=>True):=by
 unfold kW
 exact oh
def jg x_ y:=kk tok mixed Tryz.func165 [.d (.v (.int .u64 x_)),.d (.v (.int .u64 y))] (fun x=>.fL [.d (.v (.int .u64 x.1)),.d (.v (.int .u64 x.2))]) true (kW x_ y) (qA x_ y) (u0 (KD x_ y)) (fun (x:Int × Int)=>((0≤x_∧x_ < 18446744073709551616)∧0≤y∧y < 18446744073709551616)→((0≤x.1∧x.1 < 18446744073709551616)∧(0≤x.2∧x.2 < 18446744073709551616)∧x.1 * 18446744073709551616+x.2=x_ * y)) (sc x_ y)
def nJ (a:Int) (b:Int):Sk (Int) :=
 .r 1 ((jg (IntKind.u64.wrap (cg a (au (0 - a)))) (IntKind.u64.wrap (cg b (au (0 - b))))).c) fun x1 =>
 .bind false (fun _=>True)
 (.br ((x1.1 == 0)&&(decide (x1.2 < 1099511627776)))
 (.fin (.inr (au (x1.2))))
 (.fin (.inr 1099511627776)))
 (fun (b2:Int)=>⟨[(7,iv b2)],[]⟩) fun b2 =>
 .br (!((decide (a < 0)) == (decide (b < 0))))
 (.fin (au (0 - b2)))
 (.fin b2)
def MZ a b:=(nJ a b).val
theorem FM (a:Int) (b:Int):(nJ a b).bz (fun _=>True):=by
 unfold nJ
 try simp only [jg]
 exact pq
def zk a b:=kk tok mixed Tryz.func245 [iv a,iv b] (fun x=>iv x) true (nJ a b) (MZ a b) (u0 (FM a b))
def kF (op:Int) (a:Int) (b:Int):Sk (Int) :=
 .br (op == 9)
 (.r 3 ((jF (au (a+b))).c) fun x1 =>
 .fin x1)
 (.br (op == 10)
 (.r 5 ((jF (au (a - b))).c) fun x2 =>
 .fin x2)
 (.br (op == 11)
 (.r 7 ((zk a b).c) fun x3 =>
 .fin x3)
 (.br (op == 12)
 (.fin (bL a b))
 (.fin (cg a b)))))
def xR op a b:=(kF op a b).val
theorem BB (op:Int) (a:Int) (b:Int):(kF op a b).bz (fun _=>True):=by
 unfold kF
 try simp only [jF,zk,rL]
 exact yj
def pG op a b:=kk tok mixed Tryz.func241 [iv op,iv a,iv b] (fun x=>iv x) true (kF op a b) (xR op a b) (u0 (BB op a b))
def fx (op:Int) (l:List aH):Sk (aH) :=
 .bind true (fun b1=>op≠3∧op≠6)
 (.br (op == 3)
 (.r 3 (.p (bG (0:Int) l.length)) fun _ =>
 .br ((l.getD 0 default).known)
 (.r 4 (.aq (.p (bG (0:Int) l.length)) ((gu (((l.getD 0 default).n) == 0)).c)) fun x2 =>
 .fin (.inl x2))
 (.fin (.inl ({ known:=false,n:=0 }:aH))))
 (.bind false (fun b3=>b3=(op == 4||op == 5))
 (.br (op == 4)
 (.fin (.inr (op == 4)))
 (.fin (.inr (op == 5))))
 (fun (b3:Bool)=>⟨[(22,bv b3)],[]⟩) fun b3 =>
 .br b3
 (.r 8 ((gu (op == 5)).c) fun x4 =>
 .r 9 (.aq (.p (bG (0:Int) l.length)) (.wh ((((l.getD 0 default).known) == x4.known)&&((((l.getD 0 default).n) == x4.n)&&true)) false (.p (bG (1:Int) l.length)))) fun _ =>
 .br (((((l.getD 0 default).known) == x4.known)&&((((l.getD 0 default).n) == x4.n)&&true))||((((l.getD 1 default).known) == x4.known)&&((((l.getD 1 default).n) == x4.n)&&true)))
 (.fin (.inl x4))
 (.fin (.inr ())))
 (.br (op == 6)
 (.r 12 (.aq (.p (bG (1:Int) l.length)) (.aq (.wh ((l.getD 1 default).known) true (.p (bG (1:Int) l.length))) (.wh ((l.getD 1 default).known) true (.p (bG (2:Int) l.length))))) fun _ =>
 .br (((l.getD 1 default).known)&&((((l.getD 1 default).known) == ((l.getD 2 default).known))&&((((l.getD 1 default).n) == ((l.getD 2 default).n))&&true)))
 (.r 13 (.p (bG (1:Int) l.length)) fun _ =>
 .fin (.inl (l.getD 1 default)))
 (.fin (.inl ({ known:=false,n:=0 }:aH))))
 (.fin (.inr ())))))
 (fun (_:Unit)=>⟨[],[]⟩) fun _ =>
 .r 15 (.aq (.p (bG (0:Int) l.length)) (.wh (!((l.getD 0 default).known)) false (.p (bG (1:Int) l.length)))) fun _ =>
 .br ((!((l.getD 0 default).known))||(!((l.getD 1 default).known)))
 (.fin ({ known:=false,n:=0 }:aH))
 (.r 17 (.aq (.p (bG (0:Int) l.length)) (.p (bG (1:Int) l.length))) fun _ =>
 .bind false (fun _=>True)
 (.br (op == 4)
 (.fin (.inr (op == 4)))
 (.fin (.inr (op == 5))))
 (fun (b5:Bool)=>⟨[(82,bv b5)],[]⟩) fun b5 =>
 .br b5
 (.r 21 ((gu (op == 4)).c) fun x6 =>
 .fin x6)
 (.br (op == 7)
 (.r 23 ((gu (decide (((l.getD 0 default).n) < ((l.getD 1 default).n)))).c) fun x7 =>
 .fin x7)
 (.br (op == 8)
 (.r 25 ((gu (((l.getD 0 default).n) == ((l.getD 1 default).n))).c) fun x8 =>
 .fin x8)
 (.r 26 ((pG op ((l.getD 0 default).n) ((l.getD 1 default).n)).c) fun x9 =>
 .fin ({ known:=true,n:=x9 }:aH)))))
def bQ op l:=(fx op l).val
theorem FN (op:Int) (l:List aH) (ha:(op=3∧1≤l.length)∨(op=6∧3≤l.length)∨(op≠3∧op≠6∧2≤l.length)):(fx op l).bz (fun _=>True):=by
 unfold fx
 try simp only [pG,gu]
 exact oh
def zl op l:=kk tok mixed Tryz.func224 [iv op,lv aH.cells l] (fun x=>av x.cells) true (fx op l) (bQ op l) (FN op l)
def fQ (n:Int):Sk ((List Int)) :=
 .bind false (fun _=>True)
 (.br (decide (n < 0))
 (.dead default)
 (.fin (.inr ())))
 (fun (_:Unit)=>⟨[],[]⟩) fun _ =>
 .br (decide ((au (n - (au ((0:Int) - 0)))) > 0))
 (.r 5 (.aq (.p (0≤(0:Int)∧(0:Int)≤0)) (.aq (.aq (.o [.fU (mkC eA ((au (n - (au ((0:Int) - 0)))).toNat) (0:Int))]) (.p (Vz (au (n - (au ((0:Int) - 0)))) 8))) (.aq (.o [.fU (adX eA (List.replicate ((au (n - (au ((0:Int) - 0)))).toNat) (0:Int)) 0)]) (.p (0≤(0:Int)∧0≤(((List.replicate ((au (n - (au ((0:Int) - 0)))).toNat) (0:Int)).length:Nat):Int)))))) fun _ =>
 .fin (sI (List.replicate ((au (n - (au ((0:Int) - 0)))).toNat) (0:Int)) 0 0))
 (.fin [])
def nK n:=(fQ n).val
theorem Ay (n:Int):(fQ n).cZ (fun (x:(List Int))=>x=[]):=by
 unfold fQ
 exact DB
theorem zm (n:Int):(fun (x:(List Int))=>x=[]) (nK n):=have h:=Sk.de _ (Ay n); h
theorem BC (n:Int) (hn:0≤n∧n≤1000000000):(fQ n).bz (fun _=>True):=by
 unfold fQ
 exact oh
theorem Az (n:Int) (hn:0≤n∧n≤1000000000):gr Tryz.prog 242 [nv,iv n] [] (ow 777777 (nK n)) [(777777,bO 3 1 bU (nK n))] :=
 gr.sk tok mixed (fun x=>ow 777777 x) (fun x=>[(777777,bO 3 1 bU x)]) Tryz.func242 rfl (by kernel_rfl) 3000 (fQ n) (by kernel_rfl) (BC n hn)
def oo (κ:Nat) (n:Int):iX ((List Int)):=⟨Tryz.prog,242,[nv,iv n],fun x=>ow κ x,fun x=>[(κ,bO 3 1 bU x)],nK n,(0≤n∧n≤1000000000),fun h=>gr.WI κ (Az n h),fun (x:(List Int))=>x=[],zm n⟩
theorem El {α:Type} [Inhabited α] (l:List (List α)) (n:Nat) (h:n < l.length):(l.take (n+1)).flatten=(l.take n).flatten++l.getD n default:=by
 rw [List.take_succ_eq_append_getElem h,List.flatten_append]
 simp only [List.getD,h,List.getElem?_eq_getElem,Option.getD_some,List.flatten_cons,List.flatten_nil,List.append_nil]
theorem M0 {α:Type} [Inhabited α] (l:List (List α)) (B:Nat) (h:∀ i,i < l.length→(l.getD i default).length≤B):∀ n,n≤l.length→(l.take n).flatten.length≤B * n
 | 0,_=>by simp
 | n+1,hn=>by
  have:=M0 l B h n (by omega)
  rw [El l n (by omega),List.length_append,Nat.mul_add]
  have:=h n (by omega)
  omega
def j8 (bJ:List (List Int)):Sk ((List Int)) :=
 .bind true (fun b1=>(bJ.length≤100∧∀ i,i < bJ.length→(bJ.getD i default).length≤1000000)→(0:Int)≤b1∧b1≤100000000)
 (.loop (default:Sum ((List Int)) (Int)) (fun i2=>(bJ.length≤100∧∀ i,i < bJ.length→(bJ.getD i default).length≤1000000)→(0:Int)≤i2.1∧i2.1≤((1000000 * i2.2:Nat):Int)∧i2.2≤bJ.length) (fun i2=>bJ.length - i2.2) ((0,0):Int × Nat)
 (fun (i2:Int × Nat)=>⟨[(3,iv i2.1),(11,iv (i2.2:Int))],[]⟩) fun i2 =>
 .lt 0 0 i2.2 bJ.length
 (.r 4 (.p (bG (i2.2:Int) bJ.length)) fun _ =>
 .br (decide ((au (i2.1+(((bJ.getD i2.2 default).length:Nat):Int))) < 0))
 (.dead default)
 (.r 8 .z fun _ =>
 .wi 11 (au ((i2.2:Int)+1)) ((i2.2+1:Nat):Int) <|
 .fin (.inr (au (i2.1+(((bJ.getD i2.2 default).length:Nat):Int)),i2.2+1))))
 (.fin (.inl (.inr i2.1))))
 (fun (b1:Int)=>⟨[(3,iv b1)],[]⟩) fun b1 =>
 .r 9 ((oo 24 b1).c) fun x3 =>
 .bind true (fun b4=>(bJ.length≤100∧∀ i,i < bJ.length→(bJ.getD i default).length≤1000000)→b4=bJ.flatten)
 (.loop (default:Sum ((List Int)) ((List Int))) (fun i5=>(bJ.length≤100∧∀ i,i < bJ.length→(bJ.getD i default).length≤1000000)→i5.1=(bJ.take i5.2).flatten∧i5.2≤bJ.length) (fun i5=>bJ.length - i5.2) ((x3,0):(List Int) × Nat)
 (fun (i5:(List Int) × Nat)=>⟨[(6,ow 100002 i5.1),(27,iv (i5.2:Int))],[(100002,bO 3 1 bU i5.1)]⟩) fun i5 =>
 .lt 25 0 i5.2 bJ.length
 (.r 12 (.p (bG (i5.2:Int) bJ.length)) fun _ =>
 .r 13 (.aq (.o [.fU (oe eA i5.1 (bJ.getD i5.2 default))]) (.aq (.t (eA.src (bJ.getD i5.2 default))) (.p (yi i5.1.length (bJ.getD i5.2 default).length 8)))) fun _ =>
 .nx 14 27 i5.2 (i5.1++(bJ.getD i5.2 default),i5.2+1))
 (.fin (.inl (.inr i5.1))))
 (fun (b4:(List Int))=>⟨[(6,ow 100001 b4)],[(100001,bO 3 1 bU b4)]⟩) fun b4 =>
 .fin b4
def vj bJ:=(j8 bJ).val
theorem uS (bJ:List (List Int)):(j8 bJ).cZ (fun (x:(List Int))=>(bJ.length≤100∧∀ i,i < bJ.length→(bJ.getD i default).length≤1000000)→x=bJ.flatten):=by
 refine Sk.bp _ ?_
 unfold j8
 simp only [Sk.cU,Sk.aO,reduceCtorEq,ON,kk,kp,oo,maxLen]
 refine ⟨⟨fun h=>⟨by omega,by omega,by omega⟩,fun i hi=>⟨fun hc _=>⟨fun hd=>?_,fun hd _=>⟨fun h=>?_,?_⟩⟩,fun hc h=>?_⟩⟩,fun b hb x _ hx=>⟨⟨fun h=>⟨by simp [hx],by omega⟩,fun i hi=>⟨fun hc _ _ _=>⟨fun h=>⟨?_,?_⟩,?_⟩,fun hc h=>?_⟩⟩,fun b hb=>hb⟩⟩
 all_goals (try simp only [LN] at hc)
 all_goals (try simp only [LN] at hd)
 ·show (bJ.length≤100∧∀ (i:Nat),i < bJ.length→(bJ.getD i default).length≤1000000)→_
  intro h
  have h1:=hi h
  have h2:=h.2 i.2 (by omega)
  rw [aG (by omega) (by omega)] at hd
  omega
 ·have h1:=hi h
  have h2:=h.2 i.2 (by omega)
  rw [aG (by omega) (by omega)]
  omega
 ·omega
 ·have:=hi h
  omega
 ·rw [El bJ i.2 (by omega),(hi h).1]
 ·have:=hi h; omega
 ·omega
 ·have:=hi h
  rw [this.1,show i.2=bJ.length by omega,List.take_length]
theorem BD (bJ:List (List Int)):(fun (x:(List Int))=>(bJ.length≤100∧∀ i,i < bJ.length→(bJ.getD i default).length≤1000000)→x=bJ.flatten) (vj bJ):=have h:=Sk.de _ (uS bJ); h
theorem Em (bJ:List (List Int)) (hn:(bJ.length≤100∧∀ i,i < bJ.length→(bJ.getD i default).length≤1000000)):(j8 bJ).bz (fun _=>True):=by
 refine Sk.aX _ ?_
 unfold j8
 simp only [Sk.km,Sk.aO,reduceCtorEq,ON,kk,kp,oo,maxLen]
 refine ⟨⟨fun h=>⟨by omega,by omega,by omega⟩,fun i hi hl=>⟨fun hc=>⟨⟨by omega,of_decide_eq_true hc⟩,fun _=>⟨fun hd=>?_,fun hd _=>⟨?_,⟨fun h=>?_,?_⟩⟩⟩⟩,fun hc h=>?_⟩⟩,fun b hb=>⟨?_,fun x _ hx=>⟨fun h=>⟨by simp [hx],by omega⟩,fun i hi hl=>⟨fun hc=>⟨⟨by omega,of_decide_eq_true hc⟩,fun _=>⟨?_,fun _ _=>⟨?_,⟨fun h=>⟨?_,?_⟩,?_⟩⟩⟩⟩,fun hc h=>?_⟩⟩⟩⟩
 all_goals (try simp only [LN] at hc)
 all_goals (try simp only [LN] at hd)
 ·have h1:=hi hn
  have h2:=hn.2 i.2 (by omega)
  rw [aG (by omega) (by omega)] at hd
  omega
 ·exact aG (by omega) (by omega)
 ·have h1:=hi h
  have h2:=h.2 i.2 (by omega)
  rw [aG (by omega) (by omega)]
  omega
 ·omega
 ·have:=hi h
  omega
 ·have:=hb hn; omega
 ·have h1:=hi hn
  have h2:=hn.2 i.2 (by omega)
  have h3:=M0 bJ 1000000 hn.2 i.2 (by omega)
  rw [← h1.1] at h3
  omega
 ·exact aG (by omega) (by omega)
 ·rw [El bJ i.2 (by omega),(hi h).1]
 ·have:=hi h; omega
 ·omega
 ·have:=hi h
  rw [this.1,show i.2=bJ.length by omega,List.take_length]
def xS bJ:=kp tok mixed Tryz.func225 [lv (slE eA).cells bJ] (fun x=>lv bU x) false (vj bJ) (Em bJ) (uS bJ)
def sA (rv:Machine→Term→aH × (List Int)) (rp:Machine→Term→Prop) (rf:∀ (m:Machine) (t:Term),rp m t→gr Tryz.prog 201 [av [mV aH.cells m.eS],av t.cells] [] (.fL [av ((rv m t).1).cells,lv bU ((rv m t).2)]) []) (m:Machine) (t:Term):gm (aH × (List Int)):=⟨Tryz.prog,201,[av [mV aH.cells m.eS],av t.cells],fun x=>.fL [av x.1.cells,lv bU x.2],false,rv m t,rp m t,rf m t,fun _=>True,trivial⟩
def dS (rv:Machine→Term→aH × (List Int)) (rp:Machine→Term→Prop) (rf:∀ (m:Machine) (t:Term),rp m t→gr Tryz.prog 201 [av [mV aH.cells m.eS],av t.cells] [] (.fL [av ((rv m t).1).cells,lv bU ((rv m t).2)]) []) (m:Machine) (t:Term):Sk (aH × (List Int)) :=
 .bind false (fun b1=>b1=(t.op == 0||t.op == 1))
 (.br (t.op == 0)
 (.fin (.inr (t.op == 0)))
 (.fin (.inr (t.op == 1))))
 (fun (b1:Bool)=>⟨[(15,bv b1)],[]⟩) fun b1 =>
 .br b1
 (.fin (({ known:=true,n:=t.n }:aH),[]))
 (.br (t.op == 2)
 (.r 6 ((rM m t.n).c) fun x2 =>
 .br x2.known
 (.fin (x2,[]))
 (.r 9 (.o [.fU (gA eA [t.n])]) fun _ =>
 .fin (({ known:=false,n:=0 }:aH),[t.n])))
 (.r 10 (.aq (.o [.fU (mkC aH.E t.args.length ({ known:=false,n:=0 }:aH))]) (.p (Vz ((t.args.length:Nat):Int) 16))) fun _ =>
 .r 11 (.aq (.o [.fU (mkN (slE eA) t.args.length ([]:List Int) [.v (.slice none 0 0)] (by kernel_rfl))]) (.p (Vz ((t.args.length:Nat):Int) 24))) fun _ =>
 .bind true (fun b3=>b3.1.length=t.args.length∧b3.2.length=t.args.length∧∀ q,q < t.args.length→b3.1.getD q default=(rv m (t.args.getD q default)).1∧b3.2.getD q default=(rv m (t.args.getD q default)).2)
 (.loop (default:Sum (aH × (List Int)) ((List aH) × (List (List Int)))) (fun i4=>i4.1.length=t.args.length∧i4.2.1.length=t.args.length∧i4.2.2≤t.args.length∧∀ q,q < i4.2.2→i4.1.getD q default=(rv m (t.args.getD q default)).1∧i4.2.1.getD q default=(rv m (t.args.getD q default)).2) (fun i4=>t.args.length - i4.2.2) ((List.replicate t.args.length ({ known:=false,n:=0 }:aH),List.replicate t.args.length ([]:List Int),0):(List aH) × (List (List Int)) × Nat)
 (fun (i4:(List aH) × (List (List Int)) × Nat)=>⟨[(7,ow 100004 i4.1),(8,ow 100005 i4.2.1),(45,iv (i4.2.2:Int))],[(100004,bO 71 2 aH.cells i4.1),(100005,bO 64 1 (slE eA).cells i4.2.1)]⟩) fun i4 =>
 .lt 43 0 i4.2.2 t.args.length
 (.r 14 (.aq (.p (bG (i4.2.2:Int) t.args.length)) (.o [.cast 48 (YO (Term.HP (t.args.getD i4.2.2 default)))])) fun _ =>
 .r 15 (.o8 ((sA rv rp rf m (t.args.getD i4.2.2 default)).c) fun x5=>.aq (.p (bG (i4.2.2:Int) i4.1.length)) (.aq (.aq (.o [.fU (vS aH.E i4.1 i4.2.2 x5.1)]) (.p (i4.2.2 < i4.1.length))) (.aq (.p (bG (i4.2.2:Int) i4.2.1.length)) (.aq (.o [.fU (vS (slE eA) i4.2.1 i4.2.2 x5.2)]) (.p (i4.2.2 < i4.2.1.length)))))) fun x5 =>
 .wn 100004 i4.1.length (i4.1.set i4.2.2 x5.1).length <|
 .wn 100005 i4.2.1.length (i4.2.1.set i4.2.2 x5.2).length <|
 .nx 16 45 i4.2.2 (i4.1.set i4.2.2 x5.1,i4.2.1.set i4.2.2 x5.2,i4.2.2+1))
 (.fin (.inl (.inr (i4.1,i4.2.1)))))
 (fun (b3:(List aH) × (List (List Int)))=>⟨[(7,ow 100002 b3.1),(8,ow 100003 b3.2)],[(100002,bO 71 2 aH.cells b3.1),(100003,bO 64 1 (slE eA).cells b3.2)]⟩) fun b3 =>
 .r 17 (.aq (.wh (t.op == 6) true (.p (bG (0:Int) b3.1.length))) (.wh (t.op == 6) true (.p (0 < b3.1.length)))) fun _ =>
 .br ((t.op == 6)&&((b3.1.getD 0 default).known))
 (.r 18 (.aq (.p (bG (0:Int) b3.1.length)) (.p (0 < b3.1.length))) fun _ =>
 .r 19 (.aq (.p (bG (au ((2:Int) - ((b3.1.getD 0 default).n))) b3.1.length)) (.aq (.p ((au ((2:Int) - ((b3.1.getD 0 default).n))).toNat < b3.1.length)) (.aq (.p (bG (au ((2:Int) - ((b3.1.getD 0 default).n))) b3.2.length)) (.p ((au ((2:Int) - ((b3.1.getD 0 default).n))).toNat < b3.2.length))))) fun _ =>
 .fin (b3.1.getD ((au ((2:Int) - ((b3.1.getD 0 default).n))).toNat) default,b3.2.getD ((au ((2:Int) - ((b3.1.getD 0 default).n))).toNat) default))
 (.r 20 ((zl t.op b3.1).c) fun x6 =>
 .br x6.known
 (.fin (x6,[]))
 (.fz 100003 <|
 .r 23 ((xS b3.2).c) fun x7 =>
 .fin (({ known:=false,n:=0 }:aH),x7)))))
def ae:Nat→Machine→Term→aH × (List Int)
 | 0,_,_=>default
 | fu+1,m,t=>(dS (ae fu) (fun _ _=>False) (fun _ _=>fun h=>h.elim) m t).val
theorem M1 (fu:Nat) (m:Machine) (n:Int):ae (fu+1) m ⟨0,n,[]⟩=(⟨true,n⟩,[]):=by kernel_rfl
theorem Iy (fu:Nat) (m:Machine) (n:Int):ae (fu+1) m ⟨1,n,[]⟩=(⟨true,n⟩,[]):=by kernel_rfl
theorem M3 (fu:Nat) (m:Machine) (n:Int):ae (fu+1) m ⟨2,n,[]⟩=bif (gZ m n).known then (gZ m n,[]) else (⟨false,0⟩,[n]):=by kernel_rfl
def oX (op:Int) (cs:List aH) (ns:List (List Int)):aH × List Int:=bif (bQ op cs).known then (bQ op cs,[]) else (⟨false,0⟩,vj ns)
theorem M4 (fu:Nat) (m:Machine) (n:Int) (a:Term):ae (fu+1) m ⟨3,n,[a]⟩=oX 3 [(ae fu m a).1] [(ae fu m a).2]:=by kernel_rfl
theorem run_ite (fu:Nat) (m:Machine) (n:Int) (a b c:Term):ae (fu+1) m ⟨6,n,[a,b,c]⟩ = 
 (let x:=(ae fu m a); let y:=(ae fu m b); let z:=(ae fu m c);
  bif x.1.known then ([x.1,y.1,z.1].getD (au (2 - x.1.n)).toNat default,[x.2,y.2,z.2].getD (au (2 - x.1.n)).toNat default) else oX 6 [x.1,y.1,z.1] [x.2,y.2,z.2]):=by kernel_rfl
theorem Xa (fu:Nat) (m:Machine) (n:Int) (a b:Term):ae (fu+1) m ⟨4,n,[a,b]⟩=oX 4 [(ae fu m a).1,(ae fu m b).1] [(ae fu m a).2,(ae fu m b).2]:=by kernel_rfl
theorem Xb (fu:Nat) (m:Machine) (n:Int) (a b:Term):ae (fu+1) m ⟨5,n,[a,b]⟩=oX 5 [(ae fu m a).1,(ae fu m b).1] [(ae fu m a).2,(ae fu m b).2]:=by kernel_rfl
theorem Xc (fu:Nat) (m:Machine) (n:Int) (a b:Term):ae (fu+1) m ⟨7,n,[a,b]⟩=oX 7 [(ae fu m a).1,(ae fu m b).1] [(ae fu m a).2,(ae fu m b).2]:=by kernel_rfl
theorem Xd (fu:Nat) (m:Machine) (n:Int) (a b:Term):ae (fu+1) m ⟨8,n,[a,b]⟩=oX 8 [(ae fu m a).1,(ae fu m b).1] [(ae fu m a).2,(ae fu m b).2]:=by kernel_rfl
theorem Xe (fu:Nat) (m:Machine) (n:Int) (a b:Term):ae (fu+1) m ⟨9,n,[a,b]⟩=oX 9 [(ae fu m a).1,(ae fu m b).1] [(ae fu m a).2,(ae fu m b).2]:=by kernel_rfl
theorem UZ (fu:Nat) (m:Machine) (n:Int) (a b:Term):ae (fu+1) m ⟨10,n,[a,b]⟩=oX 10 [(ae fu m a).1,(ae fu m b).1] [(ae fu m a).2,(ae fu m b).2]:=by kernel_rfl
theorem U0 (fu:Nat) (m:Machine) (n:Int) (a b:Term):ae (fu+1) m ⟨11,n,[a,b]⟩=oX 11 [(ae fu m a).1,(ae fu m b).1] [(ae fu m a).2,(ae fu m b).2]:=by kernel_rfl
theorem U1 (fu:Nat) (m:Machine) (n:Int) (a b:Term):ae (fu+1) m ⟨12,n,[a,b]⟩=oX 12 [(ae fu m a).1,(ae fu m b).1] [(ae fu m a).2,(ae fu m b).2]:=by kernel_rfl
theorem U2 (fu:Nat) (m:Machine) (n:Int) (a b:Term):ae (fu+1) m ⟨13,n,[a,b]⟩=oX 13 [(ae fu m a).1,(ae fu m b).1] [(ae fu m a).2,(ae fu m b).2]:=by kernel_rfl
theorem uT (fu:Nat) (m:Machine) (op n:Int) (h:op=4∨op=5∨op=7∨op=8∨(9≤op∧op≤13)) (a b:Term):ae (fu+1) m ⟨op,n,[a,b]⟩=oX op [(ae fu m a).1,(ae fu m b).1] [(ae fu m a).2,(ae fu m b).2]:=by
 have:op=4∨op=5∨op=7∨op=8∨op=9∨op=10∨op=11∨op=12∨op=13:=by omega
 rcases this with rfl | rfl | rfl | rfl | rfl | rfl | rfl | rfl | rfl
 ·exact Xa fu m n a b
 ·exact Xb fu m n a b
 ·exact Xc fu m n a b
 ·exact Xd fu m n a b
 ·exact Xe fu m n a b
 ·exact UZ fu m n a b
 ·exact U0 fu m n a b
 ·exact U1 fu m n a b
 ·exact U2 fu m n a b
def Y1 (c:aH):Prop:=c.known=true→c.n=0∨c.n=1
theorem M5 (b:Bool):wc b=⟨true,if b then 1 else 0⟩:=by cases b <;> kernel_rfl
theorem Xf (b:Bool):Y1 (wc b):=by rw [M5]; intro _; cases b <;> simp
theorem Iz (a:aH):bQ 3 [a]=bif a.known then wc (a.n == 0) else ⟨false,0⟩:=by
 obtain ⟨k,n⟩:=a
 cases k <;> kernel_rfl
def KE (c:aH) (n:Int):aH:=bif c.known then (bif decide (n < 7) then ⟨true,Iq c.n⟩ else ⟨true,bif c.n != 0 then 1 else 0⟩) else ⟨false,0⟩
theorem IA (m:Machine) (n:Int) (h:0≤n∧n≤19):gZ m n=KE (m.eS.getD n.toNat default) n:=by
 simp only [gZ,fK,Sk.iE,Sk.eQ,Sk.cO,gm.xP,kk,kp,bg.pn,j6,gu,xm,iO,jF,KE,M5]
 rw [show (decide (n < 0)||decide (n > 19))=false from by simp; omega]
 by_cases hl:n≥m.eS.length
 ·have e:m.eS.getD n.toNat default=⟨false,0⟩:=by
   rw [List.getD,List.getElem?_eq_none (by omega)]
   rfl
  rw [e,decide_eq_true hl]
  rfl
 ·rw [decide_eq_false hl]
  cases hk:(m.eS.getD n.toNat default).known with
  | false=>rfl
  | true =>
   by_cases c:n < 7
   ·rw [decide_eq_true c]; rfl
   ·rw [decide_eq_false c]
    cases hn:((m.eS.getD n.toNat default).n != 0) <;> rfl
theorem aaU (c:aH) (n:Int) (h:7≤n):Y1 (KE c n):=by
 unfold KE
 rw [decide_eq_false (by omega)]
 intro hk
 cases hc:c.known with
 | false=>rw [hc] at hk; exact absurd (show false=true from hk) (by decide)
 | true =>
  cases hn:(c.n != 0)
  ·left; rfl
  ·right; rfl
theorem Eo (op:Int) (h:op=4∨op=5) (a b:aH):bQ op [a,b]=(let z:Int:=if op=5 then 1 else 0; bif (a.known&&a.n == z)||(b.known&&b.n == z) then ⟨true,z⟩ else bif a.known&&b.known then ⟨true,1 - z⟩ else ⟨false,0⟩):=by
 obtain ⟨k,n⟩:=a
 obtain ⟨k',n'⟩:=b
 rcases h with rfl | rfl
 ·cases k <;> cases k' <;> cases h1:(n == 0) <;> cases h2:(n' == 0) <;> simp [bQ,fx,gu,M5,h1,h2]
 ·cases k <;> cases k' <;> cases h1:(n == 1) <;> cases h2:(n' == 1) <;> simp [bQ,fx,gu,M5,h1,h2]
theorem M6 (a b c:aH):bQ 6 [a,b,c]=bif b.known&&(c.known&&b.n == c.n) then b else ⟨false,0⟩:=by
 obtain ⟨k,n⟩:=b
 obtain ⟨k',n'⟩:=c
 cases k <;> cases k' <;> cases h1:(n == n') <;> simp [bQ,fx,h1]
theorem xp (op:Int) (h:7≤op) (a b:aH):bQ op [a,b]=bif a.known&&b.known then (if op=7 then wc (decide (a.n < b.n)) else if op=8 then wc (a.n == b.n) else ⟨true,xR op a.n b.n⟩) else ⟨false,0⟩:=by
 obtain ⟨k,n⟩:=a
 obtain ⟨k',n'⟩:=b
 have e3:(op == 3)=false:=by simp; omega
 have e4:(op == 4)=false:=by simp; omega
 have e5:(op == 5)=false:=by simp; omega
 have e6:(op == 6)=false:=by simp; omega
 simp only [bQ,fx,Sk.dh,Sk.eQ,Sk.iE,Sk.cO,e3,e4,e5,e6,cond_false,UG,tl,gm.xP,kk,kp,gu,pG]
 cases k <;> cases k' <;> (try rfl)
 by_cases c7:op=7
 ·subst c7; rfl
 ·have e7:(op == 7)=false:=by simpa using c7
  by_cases c8:op=8
  ·subst c8; rfl
  ·have e8:(op == 8)=false:=by simpa using c8
   simp [e7,e8,c7,c8]
theorem we (op:Int) (cs:List aH) (ns:List (List Int)) (h:Y1 (bQ op cs)):Y1 (oX op cs ns).1:=by
 unfold oX
 cases hk:(bQ op cs).known with
 | true=>exact h
 | false=>intro h; exact absurd (show false=true from h) (by decide)
theorem tq (op:Int) (cs:List aH) (ns:List (List Int)) (B:Nat) (hB:B≤1000000) (hl:ns.length≤3) (h:∀ q,q < ns.length→(ns.getD q default).length≤B):(oX op cs ns).2.length≤3 * B:=by
 unfold oX
 cases hk:(bQ op cs).known with
 | true=>simp
 | false =>
  simp only [cond_false]
  rw [BD ns ⟨by omega,fun q hq=>Nat.le_trans (h q hq) hB⟩]
  have:=M0 ns B h ns.length (Nat.le_refl _)
  rw [List.take_length] at this
  have:B * ns.length≤B * 3:=Nat.mul_le_mul_left _ hl
  omega
theorem Xg (op n:Int) (a:Term):Term.depth ⟨op,n,[a]⟩=a.depth+1:=by simp [Term.depth,Term.eR]
theorem Ep (op n:Int) (a b:Term):Term.depth ⟨op,n,[a,b]⟩=max a.depth b.depth+1:=by simp [Term.depth,Term.eR]
theorem Xh (op n:Int) (a b c:Term):Term.depth ⟨op,n,[a,b,c]⟩=max a.depth (max b.depth c.depth)+1:=by simp [Term.depth,Term.eR]
theorem lz {a b:Nat} (h:a≤b):3 ^ a≤3 ^ b:=Nat.pow_le_pow_right (by omega) h
theorem Ab {t:Term} {k:Int} (h:vE t k):∀ (fu:Nat) (m:Machine),t.depth≤fu→t.depth≤8→(k=1→Y1 (ae fu m t).1)∧(ae fu m t).2.length≤3 ^ t.depth:=by
 have h8:∀ d,d≤8→3 ^ d≤1000000:=fun d hd=>Nat.le_trans (lz hd) (by decide)
 induction h with
 | int hn =>
  intro fu m hd _
  cases fu with
  | zero=>exact absurd hd (by simp [Term.depth,Term.eR])
  | succ fu=>rw [M1]; exact ⟨fun h=>absurd h (by decide),by simp⟩
 | @bool n hn =>
  intro fu m hd _
  cases fu with
  | zero=>exact absurd hd (by simp [Term.depth,Term.eR])
  | succ fu=>rw [Iy]; exact ⟨fun _ _=>by show n=0∨n=1; omega,by simp⟩
 | @var n hn =>
  intro fu m hd _
  cases fu with
  | zero=>exact absurd hd (by simp [Term.depth,Term.eR])
  | succ fu =>
   rw [M3,IA m n hn]
   refine ⟨fun h=>?_,?_⟩
   ·have:=aaU (m.eS.getD n.toNat default) n (by split at h <;> omega)
    cases hk:(KE (m.eS.getD n.toNat default) n).known with
    | true=>exact this
    | false=>intro h; exact absurd (show false=true from h) (by decide)
   ·cases hk:(KE (m.eS.getD n.toNat default) n).known <;> simp [Term.depth,Term.eR]
 | @not a _ ih =>
  intro fu m hd Xi
  cases fu with
  | zero=>exact absurd hd (by simp [Term.depth,Term.eR])
  | succ fu =>
   rw [Xg] at hd Xi ⊢
   have ih:=ih fu m (by omega) (by omega)
   rw [M4]
   refine ⟨fun _=>we _ _ _ ?_,?_⟩
   ·rw [Iz]
    cases hk:(ae fu m a).1.known with
    | true=>exact Xf _
    | false=>intro h; exact absurd (show false=true from h) (by decide)
   ·have:=tq 3 [(ae fu m a).1] [(ae fu m a).2] (3 ^ a.depth) (h8 _ (by omega)) (by simp) (fun q hq=>by
     have:q=0:=by simpa using hq
     subst this
     exact ih.2)
    rw [Nat.pow_succ]; omega
 | @W8 op a b wM _ _ E8 DC =>
  intro fu m hd Xi
  cases fu with
  | zero=>exact absurd hd (by simp [Term.depth,Term.eR])
  | succ fu =>
   rw [Ep] at hd Xi ⊢
   have E8:=E8 fu m (by omega) (by omega)
   have DC:=DC fu m (by omega) (by omega)
   rw [uT _ _ _ _ (by omega)]
   refine ⟨fun _=>we _ _ _ ?_,?_⟩
   ·rw [Eo op wM]
    dsimp only
    split
    ·cases (((ae fu m a).1.known&&(ae fu m a).1.n == 1)||((ae fu m b).1.known&&(ae fu m b).1.n == 1)) <;> cases ((ae fu m a).1.known&&(ae fu m b).1.known) <;> simp [Y1]
    ·cases (((ae fu m a).1.known&&(ae fu m a).1.n == 0)||((ae fu m b).1.known&&(ae fu m b).1.n == 0)) <;> cases ((ae fu m a).1.known&&(ae fu m b).1.known) <;> simp [Y1]
   ·have:=tq op [(ae fu m a).1,(ae fu m b).1] [(ae fu m a).2,(ae fu m b).2] (3 ^ (max a.depth b.depth)) (h8 _ (by omega)) (by simp) (fun q hq=>by
     have:q=0∨q=1:=by simp at hq; omega
     rcases this with rfl | rfl
     ·exact Nat.le_trans E8.2 (lz (by omega))
     ·exact Nat.le_trans DC.2 (lz (by omega)))
    rw [Nat.pow_succ]; omega
 | @ite a b c k ha _ _ E8 DC ihc =>
  intro fu m hd Xi
  cases fu with
  | zero=>exact absurd hd (by simp [Term.depth,Term.eR])
  | succ fu =>
   rw [Xh] at hd Xi ⊢
   have E8:=E8 fu m (by omega) (by omega)
   have DC:=DC fu m (by omega) (by omega)
   have ihc:=ihc fu m (by omega) (by omega)
   rw [run_ite]
   dsimp only
   have lb:=Nat.le_trans DC.2 (lz (b:=max a.depth (max b.depth c.depth)+1) (by omega))
   have lc:=Nat.le_trans ihc.2 (lz (b:=max a.depth (max b.depth c.depth)+1) (by omega))
   cases hk:(ae fu m a).1.known with
   | true =>
    simp only [cond_true]
    rcases E8.1 rfl hk with e | e
    ·rw [e]
     exact ⟨ihc.1,lc⟩
    ·rw [e]
     exact ⟨DC.1,lb⟩
   | false =>
    simp only [cond_false]
    refine ⟨fun h=>we _ _ _ ?_,?_⟩
    ·rw [M6]
     cases ((ae fu m b).1.known&&((ae fu m c).1.known&&(ae fu m b).1.n == (ae fu m c).1.n)) with
     | true=>exact DC.1 h
     | false=>intro h; exact absurd (show false=true from h) (by decide)
    ·have:=tq 6 [(ae fu m a).1,(ae fu m b).1,(ae fu m c).1] [(ae fu m a).2,(ae fu m b).2,(ae fu m c).2] (3 ^ (max a.depth (max b.depth c.depth))) (h8 _ (by omega)) (by simp) (fun q hq=>by
      have:q=0∨q=1∨q=2:=by simp at hq; omega
      rcases this with rfl | rfl | rfl
      ·exact Nat.le_trans E8.2 (lz (by omega))
      ·exact Nat.le_trans DC.2 (lz (by omega))
      ·exact Nat.le_trans ihc.2 (lz (by omega)))
     rw [Nat.pow_succ]; omega
 | @less a b _ _ E8 DC =>
  intro fu m hd Xi
  cases fu with
  | zero=>exact absurd hd (by simp [Term.depth,Term.eR])
  | succ fu =>
   rw [Ep] at hd Xi ⊢
   have E8:=E8 fu m (by omega) (by omega)
   have DC:=DC fu m (by omega) (by omega)
   rw [uT _ _ _ _ (by omega)]
   refine ⟨fun _=>we _ _ _ ?_,?_⟩
   ·rw [xp 7 (by omega)]
    cases ((ae fu m a).1.known&&(ae fu m b).1.known) with
    | true=>exact Xf _
    | false=>intro h; exact absurd (show false=true from h) (by decide)
   ·have:=tq 7 [(ae fu m a).1,(ae fu m b).1] [(ae fu m a).2,(ae fu m b).2] (3 ^ (max a.depth b.depth)) (h8 _ (by omega)) (by simp) (fun q hq=>by
     have:q=0∨q=1:=by simp at hq; omega
     rcases this with rfl | rfl
     ·exact Nat.le_trans E8.2 (lz (by omega))
     ·exact Nat.le_trans DC.2 (lz (by omega)))
    rw [Nat.pow_succ]; omega
 | @eq a b _ _ _ E8 DC =>
  intro fu m hd Xi
  cases fu with
  | zero=>exact absurd hd (by simp [Term.depth,Term.eR])
  | succ fu =>
   rw [Ep] at hd Xi ⊢
   have E8:=E8 fu m (by omega) (by omega)
   have DC:=DC fu m (by omega) (by omega)
   rw [uT _ _ _ _ (by omega)]
   refine ⟨fun _=>we _ _ _ ?_,?_⟩
   ·rw [xp 8 (by omega)]
    cases ((ae fu m a).1.known&&(ae fu m b).1.known) with
    | true=>exact Xf _
    | false=>intro h; exact absurd (show false=true from h) (by decide)
   ·have:=tq 8 [(ae fu m a).1,(ae fu m b).1] [(ae fu m a).2,(ae fu m b).2] (3 ^ (max a.depth b.depth)) (h8 _ (by omega)) (by simp) (fun q hq=>by
     have:q=0∨q=1:=by simp at hq; omega
     rcases this with rfl | rfl
     ·exact Nat.le_trans E8.2 (lz (by omega))
     ·exact Nat.le_trans DC.2 (lz (by omega)))
    rw [Nat.pow_succ]; omega
 | @arith op a b wM _ _ E8 DC =>
  intro fu m hd Xi
  cases fu with
  | zero=>exact absurd hd (by simp [Term.depth,Term.eR])
  | succ fu =>
   rw [Ep] at hd Xi ⊢
   have E8:=E8 fu m (by omega) (by omega)
   have DC:=DC fu m (by omega) (by omega)
   rw [uT _ _ _ _ (by omega)]
   refine ⟨fun h=>absurd h (by decide),?_⟩
   have:=tq op [(ae fu m a).1,(ae fu m b).1] [(ae fu m a).2,(ae fu m b).2] (3 ^ (max a.depth b.depth)) (h8 _ (by omega)) (by simp) (fun q hq=>by
    have:q=0∨q=1:=by simp at hq; omega
    rcases this with rfl | rfl
    ·exact Nat.le_trans E8.2 (lz (by omega))
    ·exact Nat.le_trans DC.2 (lz (by omega)))
   rw [Nat.pow_succ]; omega
theorem vE.parts {t:Term} {k:Int} (h:vE t k):(t.op=0∨t.op=1∨(t.op=2∧0≤t.n))∨((∀ q,q < t.args.length→∃ j,vE (t.args.getD q default) j)∧((t.op=3∧t.args.length=1)∨(t.op=6∧t.args.length=3∧vE (t.args.getD 0 default) 1)∨(t.op≠0∧t.op≠1∧t.op≠2∧t.op≠3∧t.op≠6∧t.args.length=2))):=by
 cases h with
 | int _=>left; left; rfl
 | bool _=>left; right; left; rfl
 | var h=>left; right; right; exact ⟨rfl,h.1⟩
 | not h =>
  right
  refine ⟨fun q hq=>?_,.inl ⟨rfl,rfl⟩⟩
  obtain rfl:q=0:=by simpa using hq
  exact ⟨_,h⟩
 | W8 o h1 h2 =>
  right
  refine ⟨fun q hq=>?_,.inr (.inr ⟨by dsimp only; omega,by dsimp only; omega,by dsimp only; omega,by dsimp only; omega,by dsimp only; omega,rfl⟩)⟩
  have:q=0∨q=1:=by simp at hq; omega
  rcases this with rfl | rfl
  ·exact ⟨_,h1⟩
  ·exact ⟨_,h2⟩
 | ite h1 h2 h3 =>
  right
  refine ⟨fun q hq=>?_,.inr (.inl ⟨rfl,rfl,h1⟩)⟩
  have:q=0∨q=1∨q=2:=by simp at hq; omega
  rcases this with rfl | rfl | rfl
  ·exact ⟨_,h1⟩
  ·exact ⟨_,h2⟩
  ·exact ⟨_,h3⟩
 | less h1 h2 =>
  right
  refine ⟨fun q hq=>?_,.inr (.inr ⟨by dsimp only; omega,by dsimp only; omega,by dsimp only; omega,by dsimp only; omega,by dsimp only; omega,rfl⟩)⟩
  have:q=0∨q=1:=by simp at hq; omega
  rcases this with rfl | rfl
  ·exact ⟨_,h1⟩
  ·exact ⟨_,h2⟩
 | eq h1 h2 =>
  right
  refine ⟨fun q hq=>?_,.inr (.inr ⟨by dsimp only; omega,by dsimp only; omega,by dsimp only; omega,by dsimp only; omega,by dsimp only; omega,rfl⟩)⟩
  have:q=0∨q=1:=by simp at hq; omega
  rcases this with rfl | rfl
  ·exact ⟨_,h1⟩
  ·exact ⟨_,h2⟩
 | arith o h1 h2 =>
  right
  refine ⟨fun q hq=>?_,.inr (.inr ⟨by dsimp only; omega,by dsimp only; omega,by dsimp only; omega,by dsimp only; omega,by dsimp only; omega,rfl⟩)⟩
  have:q=0∨q=1:=by simp at hq; omega
  rcases this with rfl | rfl
  ·exact ⟨_,h1⟩
  ·exact ⟨_,h2⟩
theorem AA (fu:Nat) (rf:∀ (m:Machine) (t:Term),t.depth≤fu∧(t.CR)→gr Tryz.prog 201 [av [mV aH.cells m.eS],av t.cells] [] (.fL [av ((ae fu m t).1).cells,lv bU ((ae fu m t).2)]) []) (m:Machine) (t:Term) (hm:t.depth≤fu+1) (ht:t.CR):(dS (ae fu) (fun m t=>t.depth≤fu∧(t.CR)) rf m t).bz (fun _=>True):=by
 refine Sk.aX _ ?_
 unfold dS
 simp only [Sk.km,Sk.aO,reduceCtorEq,ON,kk,kp,xS,zl,rM,sA,maxLen]
 obtain ⟨⟨k,hk⟩,h8⟩:=ht
 have Xj:=hk.parts
 refine ⟨⟨fun _=>by simp_all,fun _=>by simp_all⟩,fun b _ hb hbf=>?_⟩
 rw [hb] at hbf
 simp only [LN] at hbf
 refine ⟨fun h2=>?_,fun h2=>?_⟩
 ·simp only [LN] at h2
  rcases Xj with h | h
  ·omega
  ·omega
 ·simp only [LN] at h2
  have hp:(∀ q,q < t.args.length→∃ j,vE (t.args.getD q default) j)∧((t.op=3∧t.args.length=1)∨(t.op=6∧t.args.length=3∧vE (t.args.getD 0 default) 1)∨(t.op≠0∧t.op≠1∧t.op≠2∧t.op≠3∧t.op≠6∧t.args.length=2)):=by
   rcases Xj with h | h
   ·omega
   ·exact h
  obtain ⟨hp1,hp2⟩:=hp
  have hlen:t.args.length≤3:=by omega
  have Sa:∀ q,q < t.args.length→(t.args.getD q default).depth≤fu∧(t.args.getD q default).depth≤8:=fun q hq=>by have:=t.kA q hq; omega
  refine ⟨⟨by omega,by omega,by omega⟩,fun _=>⟨⟨by omega,by omega,by omega⟩,fun _=>⟨⟨⟨by simp,by simp,by omega,fun q hq=>absurd hq (by omega)⟩,fun i hi hl=>⟨fun hc=>⟨⟨by omega,of_decide_eq_true hc⟩,fun _=>⟨⟨⟨?_,?_⟩,fun x hx=>⟨⟨by omega,?_⟩,?_,⟨by omega,?_⟩,?_⟩⟩,fun x hx=>⟨by simp,by simp,fun _=>⟨?_,⟨⟨by simp [hi.1],by simp [hi.2.1],?_,fun q hq=>?_⟩,?_⟩⟩⟩⟩⟩,fun hc=>⟨hi.1,hi.2.1,fun q hq=>hi.2.2.2 q (by simp only [LN] at hc; omega)⟩⟩⟩,fun b hb=>?_⟩⟩⟩
  all_goals (try simp only [LN] at hc)
  ·exact (Sa _ (by omega)).1
  ·exact ⟨hp1 _ (by omega),(Sa _ (by omega)).2⟩
  ·omega
  ·omega
  ·omega
  ·omega
  ·exact aG (by omega) (by omega)
  ·omega
  ·by_cases e:q=i.2.2
   ·subst e
    subst hx
    exact ⟨oG _ (by omega) _ _,oG _ (by omega) _ _⟩
   ·have:=hi.2.2.2 q (by omega)
    rw [← this.1,← this.2]
    exact ⟨oH _ e _ _,oH _ e _ _⟩
  ·omega
  ·refine ⟨⟨fun _=>⟨by omega,by omega⟩,fun _=>by omega⟩,fun _=>⟨fun h6=>?_,fun _=>⟨?_,fun x _ _=>⟨?_,?_⟩⟩⟩⟩
   ·simp only [LN] at h6
    have h01:Y1 (b.1.getD 0 default):=by
     rw [(hb.2.2 0 (by omega)).1]
     rcases hp2 with h | h | h
     ·omega
     ·exact (Ab h.2.2 fu m (Sa 0 (by omega)).1 (Sa 0 (by omega)).2).1 rfl
     ·omega
    have h01:=h01 h6.2
    have hw:au (2 - (b.1.getD 0 default).n)=2 - (b.1.getD 0 default).n:=aG (by omega) (by omega)
    rw [hw]
    refine ⟨⟨by omega,by omega⟩,fun _=>⟨⟨by omega,by omega⟩,by omega,⟨by omega,by omega⟩,by omega⟩⟩
   ·omega
   ·omega
   ·intro q hq
    rw [hb.2.1] at hq
    rw [(hb.2.2 q hq).2]
    obtain ⟨j,hj⟩:=hp1 q hq
    have:=(Ab hj fu m (Sa q hq).1 (Sa q hq).2).2
    have h3:(3:Nat) ^ (t.args.getD q default).depth≤3 ^ 8:=Nat.pow_le_pow_right (by omega) (Sa q hq).2
    have:(3:Nat) ^ 8=6561:=by decide
    omega
theorem zn (fu:Nat) (rp:Machine→Term→Prop) (rf:∀ (m:Machine) (t:Term),rp m t→gr Tryz.prog 201 [av [mV aH.cells m.eS],av t.cells] [] (.fL [av ((ae fu m t).1).cells,lv bU ((ae fu m t).2)]) []) (m:Machine) (t:Term):(dS (ae fu) rp rf m t).val=ae (fu+1) m t:=by kernel_rfl
theorem zo (fu:Nat):∀ (m:Machine) (t:Term),t.depth≤fu→t.CR→gr Tryz.prog 201 [av [mV aH.cells m.eS],av t.cells] [] (.fL [av ((ae fu m t).1).cells,lv bU ((ae fu m t).2)]) []:=by
 induction fu with
 | zero=>intro m t hm h0; exact absurd hm (by have:=Term.tp t; omega)
 | succ fu ih =>
  intro m t hm h0
  have h:gr Tryz.prog 201 [av [mV aH.cells m.eS],av t.cells] [] (.fL [av (((dS (ae fu) (fun m t=>t.depth≤fu∧(t.CR)) (fun m t h=>ih m t h.1 h.2) m t).val).1).cells,lv bU (((dS (ae fu) (fun m t=>t.depth≤fu∧(t.CR)) (fun m t h=>ih m t h.1 h.2) m t).val).2)]) []:=gr.sk tok mixed (fun x=>.fL [av x.1.cells,lv bU x.2]) (fun _=>[]) Tryz.func201 rfl (by kernel_rfl) 3000 (dS (ae fu) (fun m t=>t.depth≤fu∧(t.CR)) (fun m t h=>ih m t h.1 h.2) m t) (by kernel_rfl) (AA fu _ m t hm h0)
  rw [zn] at h
  exact h
def mG (m:Machine) (t:Term):aH × (List Int):=ae (t.depth) m t
theorem AB (m:Machine) (t:Term) (ht:t.CR):gr Tryz.prog 201 [av [mV aH.cells m.eS],av t.cells] [] (.fL [av ((mG m t).1).cells,lv bU ((mG m t).2)]) []:=zo _ m t (Nat.le_refl _) ht
def tV (m:Machine) (t:Term):gm (aH × (List Int)):=⟨Tryz.prog,201,[av [mV aH.cells m.eS],av t.cells],fun x=>.fL [av x.1.cells,lv bU x.2],false,mG m t,(t.CR),fun h=>AB m t h,fun _=>True,trivial⟩
def sW (t:Term) (cells:List aH):Sk (aH) :=
 .r 1 ((sV t).c) fun x1 =>
 .br (x1.2 != 0)
 (.fin ({ known:=false,n:=0 }:aH))
 (.r 4 ((tV ({ eS:=cells }:Machine) t).c) fun x2 =>
 .fin x2.1)
def kX t cells:=(sW t cells).val
theorem M7 (t:Term) (cells:List aH):(sW t cells).bz (fun _=>True):=by
 refine Sk.aX _ ?_
 unfold sW
 simp only [Sk.km,Sk.aO,reduceCtorEq,ON,kk,kp,sV,tV,maxLen]
 intro x _ h hc
 simp only [LN] at hc
 exact ⟨⟨_,(h hc).1⟩,(h hc).2⟩
def E9 t cells:=kk tok mixed Tryz.func160 [av t.cells,lv aH.cells cells] (fun x=>av x.cells) true (sW t cells) (kX t cells) (u0 (M7 t cells))
def nL (o:Order) (ask:Int) (cells:List aH):Sk (aH × Int) :=
 .r 1 ((CS o ask).c) fun x1 =>
 .br (x1.2 != 0)
 (.fin (({ known:=false,n:=0 }:aH),x1.2))
 (.r 4 ((E9 x1.1 cells).c) fun x2 =>
 .r 5 ((kD ask).c) fun x3 =>
 .br ((x3.1 == 0)&&x2.known)
 (.fin (({ known:=x2.known,n:=bL (cg x2.n 0) 20000 }:aH),0))
 (.fin (x2,0)))
def jh o ask cells:=(nL o ask cells).val
theorem FO (o:Order) (ask:Int) (cells:List aH):(nL o ask cells).bz (fun _=>True):=by
 unfold nL
 try simp only [kD,CS,E9]
 exact pq
def zp o ask cells:=kk tok mixed Tryz.func121 [av o.cells,iv ask,lv aH.cells cells] (fun x=>.fL [av x.1.cells,iv x.2]) true (nL o ask cells) (jh o ask cells) (u0 (FO o ask cells))
def xq (r:ah) (forum:Int) (aU:Int) (c_:fw):Sk (lV) :=
 .r 1 ((Ip r forum aU c_).c) fun x1 =>
 .br (x1.1.order != (-1))
 (.r 3 (.aq (.p (bG x1.1.order r.aE.length)) ((zp (r.aE.getD x1.1.order.toNat default) aU x1.2).c)) fun x2 =>
 .fin ({ cell:=x2.1,order:=x1.1.order,path:=x1.1.path,err:=x2.2 }:lV))
 (.fin x1.1)
def qY r forum aU c_:=(xq r forum aU c_).val
theorem Sb (r:ah) (forum:Int) (aU:Int) (c_:fw) (hf:c_.file.Small) (hb:r.cG) (hr:r.Small):(xq r forum aU c_).bz (fun _=>True):=by
 simp only [al.Small,ah.Small,ah.cG] at hf
 simp only [al.Small,ah.Small,ah.cG] at hb
 simp only [al.Small,ah.Small,ah.cG] at hr
 unfold xq
 try simp only [Ip,zp,al.Small,ah.Small,ah.cG]
 exact oh
def gR r forum aU c_:=kk tok mixed Tryz.func68 [av r.cells,iv forum,iv aU,av c_.cells] (fun x=>av x.cells) false (xq r forum aU c_) (qY r forum aU c_) (u3 (Sb r forum aU c_))
theorem Xk (r:ah) (fo q:Int) (c:fw):qY r fo q c=bif (nw r fo q c).1.order != (-1) then (⟨(jh (r.aE.getD (nw r fo q c).1.order.toNat default) q (nw r fo q c).2).1,(nw r fo q c).1.order,(nw r fo q c).1.path,(jh (r.aE.getD (nw r fo q c).1.order.toNat default) q (nw r fo q c).2).2⟩:lV) else (nw r fo q c).1:=by
 kernel_rfl
def uU (r:ah) (forum:Int) (aU:Int) (f:al) (day:Int):Sk (lV) :=
 .r 2 (((gR r forum aU ({ file:={ f with facts:=[] },sign:=0,jD:=(-1),jN:=(-1),due:=(-1),day:=day }:fw)).Cy 3 18 _ rfl ⟨_,rfl⟩).c) fun x1 =>
 .fin x1
def rN r forum aU f day:=(uU r forum aU f day).val
theorem P4 (r:ah) (forum:Int) (aU:Int) (f:al) (day:Int) (hf:f.Small) (cu:r.cG) (bN:r.Small):(uU r forum aU f day).bz (fun _=>True):=by
 simp only [al.Small,ah.Small,ah.cG] at hf
 simp only [al.Small,ah.Small,ah.cG] at cu
 simp only [al.Small,ah.Small,ah.cG] at bN
 unfold uU
 try simp only [gR,al.Small,ah.Small,ah.cG]
 exact oh
def ot r forum aU f day:=kk tok mixed Tryz.func99 [av r.cells,iv forum,iv aU,av f.cells,iv day] (fun x=>av x.cells) false (uU r forum aU f day) (rN r forum aU f day) (u3 (P4 r forum aU f day))
def qZ (s:lV):Sk (Int) :=
 .br ((s.err != 0)||(!s.cell.known))
 (.fin (-1))
 (.fin s.cell.n)
def qB s:=(qZ s).val
theorem KF (s:lV):(qZ s).bz (fun _=>True):=by
 unfold qZ
 exact pq
def mH s:=kk tok mixed Tryz.func67 [av s.cells] (fun x=>iv x) true (qZ s) (qB s) (u0 (KF s))
def ra (x_:List Int):Sk (Int) :=
 .bind false (fun _=>True)
 (.br (decide (((x_.length:Nat):Int) < 1))
 (.dead default)
 (.fin (.inr ())))
 (fun (_:Unit)=>⟨[],[]⟩) fun _ =>
 .r 3 (.p (bG (0:Int) x_.length)) fun _ =>
 .bt
 (.loop (default:Sum (Int) (Int)) (fun i3=>(1:Int)≤i3.2∧i3.2≤(x_.length:Int)) (fun i3=>((x_.length:Int) - i3.2).toNat) ((x_.getD 0 default,1):Int × Int)
 (fun (i3:Int × Int)=>⟨[(3,iv i3.1),(4,iv i3.2)],[]⟩) fun i3 =>
 .br (decide (i3.2 < ((x_.length:Nat):Int)))
 (.r 7 (.p (bG i3.2 x_.length)) fun _ =>
 .fin (.inr (bL i3.1 (x_.getD i3.2.toNat default),au (i3.2+1))))
 (.fin (.inl (.inr i3.1))))
 (fun (b2:Int)=>⟨[(3,iv b2)],[]⟩) fun b2 =>
 .fin b2
def Sc x_:=(ra x_).val
theorem KG (x_:List Int) (hx:x_.length≠0) (hl:x_.length≤1000000000):(ra x_).bz (fun _=>True):=by
 unfold ra
 exact oh
def CU x_:=kk tok mixed Tryz.func143 [lv bU x_] (fun x=>iv x) true (ra x_) (Sc x_) (u2 (KG x_))
def pH (f:al):Sk (Int) :=
 .bind true (fun b1=>b1.length≤0+f.af.length)
 (.loop (default:Sum (Int) ((List Int))) (fun i2=>i2.2≤f.af.length∧i2.1.length≤0+i2.2) (fun i2=>f.af.length - i2.2) (([],0):(List Int) × Nat)
 (fun (i2:(List Int) × Nat)=>⟨[(3,ow 100002 i2.1),(16,iv (i2.2:Int))],[(100002,bO 3 1 bU i2.1)]⟩) fun i2 =>
 .lt 14 0 i2.2 f.af.length
 (.r 5 (.p (bG (i2.2:Int) f.af.length)) fun _ =>
 .br ((f.aR.cR.kind == 1)&&(((f.af.getD i2.2 default).kind) == 1))
 (.r 7 (.aq (.o [.fU (gA eA [(f.af.getD i2.2 default).day])]) (.aq (.o [.fU (oe eA i2.1 [(f.af.getD i2.2 default).day])]) (.aq (.t (eA.qb [(f.af.getD i2.2 default).day])) (.p (yi i2.1.length [(f.af.getD i2.2 default).day].length 8))))) fun _ =>
 .nx 8 16 i2.2 (i2.1++[(f.af.getD i2.2 default).day],i2.2+1))
 (.nx 8 16 i2.2 (i2.1,i2.2+1)))
 (.fin (.inl (.inr i2.1))))
 (fun (b1:(List Int))=>⟨[(3,ow 100001 b1)],[(100001,bO 3 1 bU b1)]⟩) fun b1 =>
 .bind true (fun b3=>b3.length≤b1.length+f.aA.length)
 (.loop (default:Sum (Int) ((List Int))) (fun i4=>i4.2≤f.aA.length∧i4.1.length≤b1.length+i4.2) (fun i4=>f.aA.length - i4.2) ((b1,0):(List Int) × Nat)
 (fun (i4:(List Int) × Nat)=>⟨[(3,ow 100005 i4.1),(36,iv (i4.2:Int))],[(100005,bO 3 1 bU i4.1)]⟩) fun i4 =>
 .lt 34 0 i4.2 f.aA.length
 (.r 11 (.p (bG (i4.2:Int) f.aA.length)) fun _ =>
 .br ((f.aR.cR.kind == 0)&&(((f.aA.getD i4.2 default).kind) == 2))
 (.fin (.inl (.inl ((f.aA.getD i4.2 default).day))))
 (.br ((f.aR.cR.kind == 1)&&(((f.aA.getD i4.2 default).kind) == 1))
 (.r 15 (.aq (.o [.fU (gA eA [(f.aA.getD i4.2 default).day])]) (.aq (.o [.fU (oe eA i4.1 [(f.aA.getD i4.2 default).day])]) (.aq (.t (eA.qb [(f.aA.getD i4.2 default).day])) (.p (yi i4.1.length [(f.aA.getD i4.2 default).day].length 8))))) fun _ =>
 .nx 16 36 i4.2 (i4.1++[(f.aA.getD i4.2 default).day],i4.2+1))
 (.nx 16 36 i4.2 (i4.1,i4.2+1))))
 (.fin (.inl (.inr i4.1))))
 (fun (b3:(List Int))=>⟨[(3,ow 100004 b3)],[(100004,bO 3 1 bU b3)]⟩) fun b3 =>
 .br (((b3.length:Nat):Int) == 0)
 (.fin (-1))
 (.r 19 ((CU b3).c) fun x5 =>
 .fin x5)
def lX f:=(pH f).val
theorem IB (f:al) (hf:f.Small):(pH f).bz (fun _=>True):=by
 simp only [al.Small,ah.Small] at hf
 unfold pH
 try simp only [CU,al.Small,ah.Small]
 exact oh
def nz f:=kk tok mixed Tryz.func101 [av f.cells] (fun x=>iv x) true (pH f) (lX f) (IB f)
def lY (r:ah):Sk ((List ByteArray) × (List ByteArray) × (List ByteArray)) :=
 .bind true (fun b1=>b1.length≤0+r.aI.length)
 (.loop (default:Sum ((List ByteArray) × (List ByteArray) × (List ByteArray)) ((List ByteArray))) (fun i2=>i2.2≤r.aI.length∧i2.1.length≤0+i2.2) (fun i2=>r.aI.length - i2.2) (([],0):(List ByteArray) × Nat)
 (fun (i2:(List ByteArray) × Nat)=>⟨[(2,ow 100002 i2.1),(14,iv (i2.2:Int))],[(100002,bO 9 1 jz i2.1)]⟩) fun i2 =>
 .lt 12 0 i2.2 r.aI.length
 (.r 3 (.p (bG (i2.2:Int) r.aI.length)) fun _ =>
 .r 4 (.aq (.o [.fU (gA vR [(r.aI.getD i2.2 default).name])]) (.aq (.o [.fU (oe vR i2.1 [(r.aI.getD i2.2 default).name])]) (.aq (.t (vR.qb [(r.aI.getD i2.2 default).name])) (.p (yi i2.1.length [(r.aI.getD i2.2 default).name].length 16))))) fun _ =>
 .nx 5 14 i2.2 (i2.1++[(r.aI.getD i2.2 default).name],i2.2+1))
 (.fin (.inl (.inr i2.1))))
 (fun (b1:(List ByteArray))=>⟨[(2,ow 100001 b1)],[(100001,bO 9 1 jz b1)]⟩) fun b1 =>
 .bind true (fun b3=>b3.length≤0+r.bm.length)
 (.loop (default:Sum ((List ByteArray) × (List ByteArray) × (List ByteArray)) ((List ByteArray))) (fun i4=>i4.2≤r.bm.length∧i4.1.length≤0+i4.2) (fun i4=>r.bm.length - i4.2) (([],0):(List ByteArray) × Nat)
 (fun (i4:(List ByteArray) × Nat)=>⟨[(3,ow 100005 i4.1),(27,iv (i4.2:Int))],[(100005,bO 9 1 jz i4.1)]⟩) fun i4 =>
 .lt 25 0 i4.2 r.bm.length
 (.r 8 (.p (bG (i4.2:Int) r.bm.length)) fun _ =>
 .r 9 (.aq (.o [.fU (gA vR [(r.bm.getD i4.2 default).name])]) (.aq (.o [.fU (oe vR i4.1 [(r.bm.getD i4.2 default).name])]) (.aq (.t (vR.qb [(r.bm.getD i4.2 default).name])) (.p (yi i4.1.length [(r.bm.getD i4.2 default).name].length 16))))) fun _ =>
 .nx 10 27 i4.2 (i4.1++[(r.bm.getD i4.2 default).name],i4.2+1))
 (.fin (.inl (.inr i4.1))))
 (fun (b3:(List ByteArray))=>⟨[(3,ow 100004 b3)],[(100004,bO 9 1 jz b3)]⟩) fun b3 =>
 .bind true (fun b5=>b5.length≤0+r.aE.length)
 (.loop (default:Sum ((List ByteArray) × (List ByteArray) × (List ByteArray)) ((List ByteArray))) (fun i6=>i6.2≤r.aE.length∧i6.1.length≤0+i6.2) (fun i6=>r.aE.length - i6.2) (([],0):(List ByteArray) × Nat)
 (fun (i6:(List ByteArray) × Nat)=>⟨[(4,ow 100008 i6.1),(40,iv (i6.2:Int))],[(100008,bO 9 1 jz i6.1)]⟩) fun i6 =>
 .lt 38 0 i6.2 r.aE.length
 (.r 13 (.p (bG (i6.2:Int) r.aE.length)) fun _ =>
 .r 14 (.aq (.o [.fU (gA vR [(r.aE.getD i6.2 default).name])]) (.aq (.o [.fU (oe vR i6.1 [(r.aE.getD i6.2 default).name])]) (.aq (.t (vR.qb [(r.aE.getD i6.2 default).name])) (.p (yi i6.1.length [(r.aE.getD i6.2 default).name].length 16))))) fun _ =>
 .nx 15 40 i6.2 (i6.1++[(r.aE.getD i6.2 default).name],i6.2+1))
 (.fin (.inl (.inr i6.1))))
 (fun (b5:(List ByteArray))=>⟨[(4,ow 100007 b5)],[(100007,bO 9 1 jz b5)]⟩) fun b5 =>
 .fin (b1,b3,b5)
def P5 r:=(lY r).val
theorem FP (r:ah):(lY r).cZ (fun (x:(List ByteArray) × (List ByteArray) × (List ByteArray))=>x.1.length≤r.aI.length∧x.2.1.length≤r.bm.length∧x.2.2.length≤r.aE.length):=by
 unfold lY
 try simp only [al.Small,ah.Small]
 exact DB
theorem IC (r:ah) (hr:r.Small):(lY r).bz (fun _=>True):=by
 simp only [al.Small,ah.Small] at hr
 unfold lY
 try simp only [al.Small,ah.Small]
 exact oh
def vk r:=kp tok mixed Tryz.func178 [av r.cells] (fun x=>.fL [lv jz x.1,lv jz x.2.1,lv jz x.2.2]) false (P5 r) (IC r) (FP r)
def nM (s:ByteArray):Sk (Bool) :=
 .br ((s.toList == (⟨#[]⟩:ByteArray).toList)||(decide (((s.size:Nat):Int) > 20)))
 (.fin false)
 (.r 3 (.aq (.o [.fU (aaF s)]) (.p (s.size≤maxLen))) fun _ =>
 .bt
 (.loop (default:Sum (Bool) (Unit)) (fun i2=>i2≤(mX s).length) (fun i2=>(mX s).length - i2) (0:Nat)
 (fun (i2:Nat)=>⟨[(16,iv (i2:Int))],[]⟩) fun i2 =>
 .lt 14 0 i2 ((mX s).length)
 (.r 5 (.p (bG (i2:Int) ((mX s).length))) fun _ =>
 .br ((!(((decide (((mX s).getD i2 default)≥97))&&(decide (((mX s).getD i2 default)≤122)))||((decide (((mX s).getD i2 default)≥65))&&(decide (((mX s).getD i2 default)≤90)))))&&(((i2:Int) == 0)||((((mX s).getD i2 default) != 95)&&((decide (((mX s).getD i2 default) < 48))||(decide (((mX s).getD i2 default) > 57))))))
 (.fin (.inl (.inl false)))
 (.nx 9 16 i2 (i2+1)))
 (.fin (.inl (.inr ()))))
 (fun (_:Unit)=>⟨[],[]⟩) fun _ =>
 .fin true)
def M8 s:=(nM s).val
theorem FQ (s:ByteArray):(nM s).bz (fun _=>True):=by
 unfold nM
 exact oh
def zq s:=kk tok mixed Tryz.func227 [sv s] (fun x=>bv x) true (nM s) (M8 s) (u0 (FQ s))
def j9 (s:List ByteArray) (v:ByteArray):Sk (Int) :=
 .bind true (fun b1=>∀ q,q < s.length→((s.getD q default).toList == v.toList)=false)
 (.loop (default:Sum (Int) (Unit)) (fun i2=>∀ q,q < i2→((s.getD q default).toList == v.toList)=false) (fun i2=>s.length - i2) (0:Nat)
 (fun (i2:Nat)=>⟨[(8,iv (i2:Int))],[]⟩) fun i2 =>
 .lt 0 0 i2 s.length
 (.r 4 (.p (bG (i2:Int) s.length)) fun _ =>
 .br (v.toList == (s.getD i2 default).toList)
 (.fin (.inl (.inl (i2:Int))))
 (.nx 6 8 i2 (i2+1)))
 (.fin (.inl (.inr ()))))
 (fun (_:Unit)=>⟨[],[]⟩) fun _ =>
 .fin (-1)
def KH s v:=(j9 s v).val
theorem CV (s:List ByteArray) (v:ByteArray):(j9 s v).cZ (fun (x:Int)=>(x = -1∧∀ q,q < s.length→((s.getD q default).toList == v.toList)=false)∨(0≤x∧x < s.length∧((s.getD x.toNat default).toList == v.toList)=true∧∀ q,(q:Nat) < x.toNat→((s.getD q default).toList == v.toList)=false)):=by
 unfold j9
 exact DB
theorem Er (s:List ByteArray) (v:ByteArray):(j9 s v).bz (fun _=>True):=by
 unfold j9
 exact oh
def sf s v:=kp tok mixed Tryz.func243 [lv jz s,sv v] (fun x=>iv x) true (KH s v) (u0 (Er s v)) (CV s v)
def gB (s:List ByteArray) (v:ByteArray):Sk (Bool) :=
 .r 1 ((sf s v).c) fun x1 =>
 .fin (decide (x1≥0))
def Es s v:=(gB s v).val
theorem zr (s:List ByteArray) (v:ByteArray):(gB s v).cZ (fun (x:Bool)=>(x=true↔∃ q,q < s.length∧((s.getD q default).toList == v.toList)=true)):=by
 unfold gB
 try simp only [sf]
 exact DB
theorem AD (s:List ByteArray) (v:ByteArray):(gB s v).bz (fun _=>True):=by
 unfold gB
 try simp only [sf]
 exact pq
def tW s v:=kp tok mixed Tryz.func228 [lv jz s,sv v] (fun x=>bv x) true (Es s v) (u0 (AD s v)) (zr s v)
def pI (names:List ByteArray) (i:Int):Sk (Int) :=
 .r 1 (.aq (.p (bG i names.length)) ((zq (names.getD i.toNat default)).c)) fun x1 =>
 .br (!x1)
 (.fin 2)
 (.r 3 (.aq (.aq (.o [.fU (ab8 vR names 0 i.toNat)]) (.pt (0≤i∧i≤((names.length:Nat):Int)) (vR.lens names))) (.aq (.p (bG i names.length)) ((tW (sI names 0 i.toNat) (names.getD i.toNat default)).c))) fun x2 =>
 .br x2
 (.fin 5)
 (.fin 0))
def P6 names i:=(pI names i).val
theorem ID (names:List ByteArray) (i:Int) (hi:0≤i∧i < (names.length:Int)):(pI names i).bz (fun _=>True):=by
 unfold pI
 try simp only [zq,tW]
 exact oh
def gL names i:=kk tok mixed Tryz.func210 [lv jz names,iv i] (fun x=>iv x) true (pI names i) (P6 names i) (ID names i)
def lA (p:Int):Sk (Bool) :=
 .fin true
def zt p:=(lA p).val
theorem CW (p:Int):zt p=true:=rfl
theorem CX (p:Int):(lA p).bz (fun _=>True):=by
 unfold lA
 exact pq
def wg p:=kk tok mixed Tryz.func180 [iv p] (fun x=>bv x) true (lA p) (zt p) (u0 (CX p))
def lB (names:List ByteArray) (fy:Int):Sk (Int) :=
 .br (decide (((names.length:Nat):Int) > fy))
 (.fin 6)
 (.bt
 (.loop (default:Sum (Int) (Unit)) (fun i2=>i2≤names.length) (fun i2=>names.length - i2) (0:Nat)
 (fun (i2:Nat)=>⟨[(15,iv (i2:Int))],[]⟩) fun i2 =>
 .lt 0 0 i2 names.length
 (.r 6 ((gL names (i2:Int)).c) fun x3 =>
 .br (x3 != 0)
 (.fin (.inl (.inl x3)))
 (.r 9 ((wg (i2:Int)).c) fun x4 =>
 .br (!x4)
 (.fin (.inl (.inl 1)))
 (.nx 11 15 i2 (i2+1))))
 (.fin (.inl (.inr ()))))
 (fun (_:Unit)=>⟨[],[]⟩) fun _ =>
 .fin 0)
def IE names fy:=(lB names fy).val
theorem CY (names:List ByteArray) (fy:Int):(lB names fy).bz (fun _=>True):=by
 unfold lB
 try simp only [wg,gL,CW]
 exact yj
def qC names fy:=kk tok mixed Tryz.func179 [lv jz names,iv fy,.fn 180 []] (fun x=>iv x) true (lB names fy) (IE names fy) (u0 (CY names fy))
def nN (l:List Int) (low:Int) (high:Int):Sk (Bool) :=
 .bt
 (.loop (default:Sum (Bool) (Unit)) (fun i2=>i2≤l.length) (fun i2=>l.length - i2) (0:Nat)
 (fun (i2:Nat)=>⟨[(11,iv (i2:Int))],[]⟩) fun i2 =>
 .lt 0 0 i2 l.length
 (.r 3 (.p (bG (i2:Int) l.length)) fun _ =>
 .r 4 (.wh ((decide ((l.getD i2 default) < low))||(decide ((l.getD i2 default) > high))) false (.wh (decide ((i2:Int) > 0)) true (.p (bG (au ((i2:Int) - 1)) l.length)))) fun _ =>
 .br (((decide ((l.getD i2 default) < low))||(decide ((l.getD i2 default) > high)))||((decide ((i2:Int) > 0))&&(decide ((l.getD i2 default)≤(l.getD ((au ((i2:Int) - 1)).toNat) default)))))
 (.fin (.inl (.inl false)))
 (.nx 6 11 i2 (i2+1)))
 (.fin (.inl (.inr ()))))
 (fun (_:Unit)=>⟨[],[]⟩) fun _ =>
 .fin true
def M9 l low high:=(nN l low high).val
theorem FR (l:List Int) (low:Int) (high:Int):(nN l low high).bz (fun _=>True):=by
 unfold nN
 exact oh
def hX l low high:=kk tok mixed Tryz.func211 [lv bU l,iv low,iv high] (fun x=>bv x) true (nN l low high) (M9 l low high) (u0 (FR l low high))
def rb (r:ah) (c_:jA):Sk (Bool) :=
 .bt
 (.loop (default:Sum (Bool) (Unit)) (fun i2=>i2≤c_.fO.length) (fun i2=>c_.fO.length - i2) (0:Nat)
 (fun (i2:Nat)=>⟨[(10,iv (i2:Int))],[]⟩) fun i2 =>
 .lt 8 0 i2 c_.fO.length
 (.r 3 (.p (bG (i2:Int) c_.fO.length)) fun _ =>
 .r 4 (.aq (.p ((100:Int)≠0)) (.wh (decide (((c_.fO.getD i2 default).tmod 100) < 1)) false (.p ((100:Int)≠0)))) fun _ =>
 .br ((decide (((c_.fO.getD i2 default).tmod 100) < 1))||(decide (((c_.fO.getD i2 default).tmod 100) > 31)))
 (.fin (.inl (.inl false)))
 (.nx 6 10 i2 (i2+1)))
 (.fin (.inl (.inr ()))))
 (fun (_:Unit)=>⟨[],[]⟩) fun _ =>
 .r 7 (.dep (.wh ((decide (((c_.fO.length:Nat):Int) > 60))||(decide (((c_.shut.length:Nat):Int) > 200))) false ((cr c_.order ((r.aE.length:Nat):Int)).c)) fun x3=>.wh (((decide (((c_.fO.length:Nat):Int) > 60))||(decide (((c_.shut.length:Nat):Int) > 200)))||(!x3)) false ((cr c_.az ((r.ck.length:Nat):Int)).c)) fun p9 =>
 .br ((((decide (((c_.fO.length:Nat):Int) > 60))||(decide (((c_.shut.length:Nat):Int) > 200)))||(!p9.1))||(!p9.2))
 (.fin false)
 (.r 9 (.dep ((hX c_.rest 0 6).c) fun x5=>.dep (.wh x5 true ((hX c_.fO 101 1231).c)) fun x6=>.wh (x5&&x6) true ((hX c_.shut 0 100000).c)) fun p8 =>
 .fin ((p8.1&&p8.2.1)&&p8.2.2))
def Sd r c_:=(rb r c_).val
theorem KI (r:ah) (c_:jA):(rb r c_).bz (fun _=>True):=by
 unfold rb
 try simp only [cr,hX,jc]
 exact yj
def CZ r c_:=kk tok mixed Tryz.func182 [av r.cells,av c_.cells] (fun x=>bv x) true (rb r c_) (Sd r c_) (u0 (KI r c_))
def lC (i:Int) (v:ah):Sk (Bool) :=
 .r 1 (.aq (.p (bG i v.aI.length)) ((CZ v (v.aI.getD i.toNat default)).c)) fun x1 =>
 .fin x1
def IG i v:=(lC i v).val
theorem C0 (i:Int) (v:ah) (hi:0≤i∧i < (v.aI.length:Int)):(lC i v).bz (fun _=>True):=by
 unfold lC
 try simp only [CZ]
 exact oh
def wj i v:=kk tok mixed Tryz.func181 [iv i,.ref v.cells] (fun x=>bv x) true (lC i v) (IG i v) (C0 i v)
def lD (names:List ByteArray) (fy:Int) (v:ah):Sk (Int) :=
 .br (decide (((names.length:Nat):Int) > fy))
 (.fin 6)
 (.bt
 (.loop (default:Sum (Int) (Unit)) (fun i2=>i2≤names.length) (fun i2=>names.length - i2) (0:Nat)
 (fun (i2:Nat)=>⟨[(15,iv (i2:Int))],[]⟩) fun i2 =>
 .lt 0 0 i2 names.length
 (.r 6 ((gL names (i2:Int)).c) fun x3 =>
 .br (x3 != 0)
 (.fin (.inl (.inl x3)))
 (.r 9 ((wj (i2:Int) v).c) fun x4 =>
 .br (!x4)
 (.fin (.inl (.inl 1)))
 (.nx 11 15 i2 (i2+1))))
 (.fin (.inl (.inr ()))))
 (fun (_:Unit)=>⟨[],[]⟩) fun _ =>
 .fin 0)
def IH names fy v:=(lD names fy v).val
theorem C3 (names:List ByteArray) (fy:Int) (v:ah) (hv:names.length≤v.aI.length):(lD names fy v).bz (fun _=>True):=by
 unfold lD
 try simp only [wj,gL]
 exact oh
def qD names fy v:=kk tok mixed Tryz.func179 [lv jz names,iv fy,.fn 181 [.ref v.cells]] (fun x=>iv x) true (lD names fy v) (IH names fy v) (C3 names fy v)
def lE (i:Int) (v:ah):Sk (Bool) :=
 .r 1 (.aq (.p (bG i v.bm.length)) (.dep ((cr ((v.bm.getD i.toNat default).bZ) ((v.aI.length:Nat):Int)).c) fun x1=>.aq (.wh x1 true (.p (bG i v.bm.length))) (.wh x1 true ((cr ((v.bm.getD i.toNat default).group) ((v.fP.length:Nat):Int)).c)))) fun p3 =>
 .fin (p3.1&&p3.2)
def II i v:=(lE i v).val
theorem C4 (i:Int) (v:ah) (hi:0≤i∧i < (v.bm.length:Int)):(lE i v).bz (fun _=>True):=by
 unfold lE
 try simp only [cr,jc]
 exact yj
def wm i v:=kk tok mixed Tryz.func184 [iv i,.ref v.cells] (fun x=>bv x) true (lE i v) (II i v) (C4 i v)
def lF (names:List ByteArray) (fy:Int) (v:ah):Sk (Int) :=
 .br (decide (((names.length:Nat):Int) > fy))
 (.fin 6)
 (.bt
 (.loop (default:Sum (Int) (Unit)) (fun i2=>i2≤names.length) (fun i2=>names.length - i2) (0:Nat)
 (fun (i2:Nat)=>⟨[(15,iv (i2:Int))],[]⟩) fun i2 =>
 .lt 0 0 i2 names.length
 (.r 6 ((gL names (i2:Int)).c) fun x3 =>
 .br (x3 != 0)
 (.fin (.inl (.inl x3)))
 (.r 9 ((wm (i2:Int) v).c) fun x4 =>
 .br (!x4)
 (.fin (.inl (.inl 1)))
 (.nx 11 15 i2 (i2+1))))
 (.fin (.inl (.inr ()))))
 (fun (_:Unit)=>⟨[],[]⟩) fun _ =>
 .fin 0)
def IJ names fy v:=(lF names fy v).val
theorem C6 (names:List ByteArray) (fy:Int) (v:ah) (hv:names.length≤v.bm.length):(lF names fy v).bz (fun _=>True):=by
 unfold lF
 try simp only [wm,gL]
 exact oh
def qE names fy v:=kk tok mixed Tryz.func179 [lv jz names,iv fy,.fn 184 [.ref v.cells]] (fun x=>iv x) true (lF names fy v) (IJ names fy v) (C6 names fy v)
def pJ (o:Order):Sk (Bool) :=
 .bind true (fun b1=>b1.length≤0+o.aV.length)
 (.loop (default:Sum (Bool) ((List Int))) (fun i2=>i2.2≤o.aV.length∧i2.1.length≤0+i2.2) (fun i2=>o.aV.length - i2.2) (([],0):(List Int) × Nat)
 (fun (i2:(List Int) × Nat)=>⟨[(3,ow 100002 i2.1),(12,iv (i2.2:Int))],[(100002,bO 3 1 bU i2.1)]⟩) fun i2 =>
 .lt 10 0 i2.2 o.aV.length
 (.r 4 (.p (bG (i2.2:Int) o.aV.length)) fun _ =>
 .r 5 (.aq (.o [.fU (gA eA [(o.aV.getD i2.2 default).ask])]) (.aq (.o [.fU (oe eA i2.1 [(o.aV.getD i2.2 default).ask])]) (.aq (.t (eA.qb [(o.aV.getD i2.2 default).ask])) (.p (yi i2.1.length [(o.aV.getD i2.2 default).ask].length 8))))) fun _ =>
 .r 6 ((cr ((o.aV.getD i2.2 default).cz) 5).c) fun x3 =>
 .br (!x3)
 (.fin (.inl (.inl false)))
 (.nx 8 12 i2.2 (i2.1++[(o.aV.getD i2.2 default).ask],i2.2+1)))
 (.fin (.inl (.inr i2.1))))
 (fun (b1:(List Int))=>⟨[(3,ow 100001 b1)],[(100001,bO 3 1 bU b1)]⟩) fun b1 =>
 .bind true (fun b4=>b4.length≤0+o.rules.length)
 (.loop (default:Sum (Bool) ((List Int))) (fun i5=>i5.2≤o.rules.length∧i5.1.length≤0+i5.2) (fun i5=>o.rules.length - i5.2) (([],0):(List Int) × Nat)
 (fun (i5:(List Int) × Nat)=>⟨[(4,ow 100005 i5.1),(29,iv (i5.2:Int))],[(100005,bO 3 1 bU i5.1)]⟩) fun i5 =>
 .lt 27 0 i5.2 o.rules.length
 (.r 11 (.p (bG (i5.2:Int) o.rules.length)) fun _ =>
 .r 12 (.aq (.o [.fU (gA eA [(o.rules.getD i5.2 default).ask])]) (.aq (.o [.fU (oe eA i5.1 [(o.rules.getD i5.2 default).ask])]) (.aq (.t (eA.qb [(o.rules.getD i5.2 default).ask])) (.p (yi i5.1.length [(o.rules.getD i5.2 default).ask].length 8))))) fun _ =>
 .nx 13 29 i5.2 (i5.1++[(o.rules.getD i5.2 default).ask],i5.2+1))
 (.fin (.inl (.inr i5.1))))
 (fun (b4:(List Int))=>⟨[(4,ow 100004 b4)],[(100004,bO 3 1 bU b4)]⟩) fun b4 =>
 .r 14 (.dep ((hX b1 0 21).c) fun x6=>.wh x6 true ((hX b4 0 21).c)) fun p8 =>
 .fin (p8.1&&p8.2)
def P7 o:=(pJ o).val
theorem IK (o:Order) (ho:o.aV.length≤1000000∧o.rules.length≤1000000):(pJ o).bz (fun _=>True):=by
 unfold pJ
 try simp only [cr,hX,jc]
 exact yj
def A6 o:=kk tok mixed Tryz.func186 [av o.cells] (fun x=>bv x) true (pJ o) (P7 o) (IK o)
def lG (i:Int) (v:ah):Sk (Bool) :=
 .r 1 (.aq (.p (bG i v.aE.length)) ((A6 (v.aE.getD i.toNat default)).c)) fun x1 =>
 .fin x1
def IL i v:=(lG i v).val
theorem C7 (i:Int) (v:ah) (hi:0≤i∧i < (v.aE.length:Int)) (hv:v.Small):(lG i v).bz (fun _=>True):=by
 simp only [al.Small,ah.Small] at hv
 unfold lG
 try simp only [A6,al.Small,ah.Small]
 exact oh
def wo i v:=kk tok mixed Tryz.func185 [iv i,.ref v.cells] (fun x=>bv x) true (lG i v) (IL i v) (u2 (C7 i v))
def lH (names:List ByteArray) (fy:Int) (v:ah):Sk (Int) :=
 .br (decide (((names.length:Nat):Int) > fy))
 (.fin 6)
 (.bt
 (.loop (default:Sum (Int) (Unit)) (fun i2=>i2≤names.length) (fun i2=>names.length - i2) (0:Nat)
 (fun (i2:Nat)=>⟨[(15,iv (i2:Int))],[]⟩) fun i2 =>
 .lt 0 0 i2 names.length
 (.r 6 ((gL names (i2:Int)).c) fun x3 =>
 .br (x3 != 0)
 (.fin (.inl (.inl x3)))
 (.r 9 ((wo (i2:Int) v).c) fun x4 =>
 .br (!x4)
 (.fin (.inl (.inl 1)))
 (.nx 11 15 i2 (i2+1))))
 (.fin (.inl (.inr ()))))
 (fun (_:Unit)=>⟨[],[]⟩) fun _ =>
 .fin 0)
def IM names fy v:=(lH names fy v).val
theorem C8 (names:List ByteArray) (fy:Int) (v:ah) (hv:names.length≤v.aE.length) (hs:v.Small):(lH names fy v).bz (fun _=>True):=by
 simp only [al.Small,ah.Small] at hs
 unfold lH
 try simp only [wo,gL,al.Small,ah.Small]
 exact oh
def qF names fy v:=kk tok mixed Tryz.func179 [lv jz names,iv fy,.fn 185 [.ref v.cells]] (fun x=>iv x) true (lH names fy v) (IM names fy v) (u2 (C8 names fy v))
def mI (r:ah):Sk (Int) :=
 .br (decide (((r.aM.length:Nat):Int) > 100))
 (.fin 6)
 (.bt
 (.loop (default:Sum (Int) (Unit)) (fun i2=>i2≤r.aM.length) (fun i2=>r.aM.length - i2) (0:Nat)
 (fun (i2:Nat)=>⟨[(14,iv (i2:Int))],[]⟩) fun i2 =>
 .lt 12 0 i2 r.aM.length
 (.bt
 (.r 5 (.p (bG (i2:Int) r.aM.length)) fun _ =>
 .r 6 (.dep ((cr ((r.aM.getD i2 default).from_) ((r.aI.length:Nat):Int)).c) fun x4=>.wh (!x4) false ((cr ((r.aM.getD i2 default).cj) ((r.aI.length:Nat):Int)).c)) fun p8 =>
 .br ((((!p8.1)||(!p8.2))||(decide (((r.aM.getD i2 default).days) < 1)))||(decide (((r.aM.getD i2 default).days) > 20000)))
 (.fin (.inl (.inl (.inl 1))))
 (.r 8 (.aq (.o [.fU (ab8 dC.E r.aM 0 i2)]) (.pt (0≤(i2:Int)∧(i2:Int)≤((r.aM.length:Nat):Int)) (dC.E.lens r.aM))) fun _ =>
 .bt
 (.loop (default:Sum (Sum (Sum (Sum (Int) (Unit)) (Nat)) (Int × Int × dC × Int × (List jA) × Int × Bool × Bool × Bool × Bool × Bool × Bool × Bool × Bool × (List dC) × Int × (List dC) × Int × Int × Bool)) (Int × Bool)) (fun i7=>i7≤(sI r.aM 0 i2).length) (fun i7=>(sI r.aM 0 i2).length - i7) (0:Nat)
 (fun (i7:Nat)=>⟨[(50,iv (i7:Int))],[]⟩) fun i7 =>
 .lt 48 0 i7 ((sI r.aM 0 i2).length)
 (.r 10 (.p (bG (i7:Int) ((sI r.aM 0 i2).length))) fun _ =>
 .br (((((sI r.aM 0 i2).getD i7 default).from_) == ((r.aM.getD i2 default).from_))&&((((sI r.aM 0 i2).getD i7 default).cj) == ((r.aM.getD i2 default).cj)))
 (.fin (.inl (.inl (.inl (.inl (.inl 5))))))
 (.nx 13 50 i7 (i7+1)))
 (.fin (.inl (.inr ((i7:Int),decide ((i7:Int) < (((sI r.aM 0 i2).length:Nat):Int)))))))
 (fun (b6:Int × Bool)=>⟨[(50,iv b6.1),(51,bv b6.2)],[]⟩) fun b6 =>
 .fin (.inr ((i2:Int),(i2:Int),r.aM.getD i2 default,(r.aM.getD i2 default).from_,r.aI,((r.aI.length:Nat):Int),p8.1,!p8.1,!p8.1,(!p8.1)||(!p8.2),(!p8.1)||(!p8.2),((!p8.1)||(!p8.2))||(decide (((r.aM.getD i2 default).days) < 1)),((!p8.1)||(!p8.2))||(decide (((r.aM.getD i2 default).days) < 1)),(((!p8.1)||(!p8.2))||(decide (((r.aM.getD i2 default).days) < 1)))||(decide (((r.aM.getD i2 default).days) > 20000)),r.aM,(i2:Int),sI r.aM 0 i2,(((sI r.aM 0 i2).length:Nat):Int),b6.1,b6.2))))
 (fun (b3:Int × Int × dC × Int × (List jA) × Int × Bool × Bool × Bool × Bool × Bool × Bool × Bool × Bool × (List dC) × Int × (List dC) × Int × Int × Bool)=>⟨[(3,iv b3.1),(16,iv b3.2.1),(18,av b3.2.2.1.cells),(20,iv b3.2.2.2.1),(22,lv jA.cells b3.2.2.2.2.1),(23,iv b3.2.2.2.2.2.1),(24,bv b3.2.2.2.2.2.2.1),(25,bv b3.2.2.2.2.2.2.2.1),(26,bv b3.2.2.2.2.2.2.2.2.1),(34,bv b3.2.2.2.2.2.2.2.2.2.1),(35,bv b3.2.2.2.2.2.2.2.2.2.2.1),(39,bv b3.2.2.2.2.2.2.2.2.2.2.2.1),(40,bv b3.2.2.2.2.2.2.2.2.2.2.2.2.1),(44,bv b3.2.2.2.2.2.2.2.2.2.2.2.2.2.1),(46,lv dC.cells b3.2.2.2.2.2.2.2.2.2.2.2.2.2.2.1),(47,iv b3.2.2.2.2.2.2.2.2.2.2.2.2.2.2.2.1),(48,lv dC.cells b3.2.2.2.2.2.2.2.2.2.2.2.2.2.2.2.2.1),(49,iv b3.2.2.2.2.2.2.2.2.2.2.2.2.2.2.2.2.2.1),(50,iv b3.2.2.2.2.2.2.2.2.2.2.2.2.2.2.2.2.2.2.1),(51,bv b3.2.2.2.2.2.2.2.2.2.2.2.2.2.2.2.2.2.2.2)],[]⟩) fun _ =>
 .nx 14 14 i2 (i2+1))
 (.fin (.inl (.inr ()))))
 (fun (_:Unit)=>⟨[],[]⟩) fun _ =>
 .fin 0)
def KJ r:=(mI r).val
theorem Et (r:ah):(mI r).bz (fun _=>True):=by
 unfold mI
 try simp only [cr,jc]
 exact yj
def sh r:=kk tok mixed Tryz.func187 [av r.cells] (fun x=>iv x) true (mI r) (KJ r) (u0 (Et r))
def nA (r:ah):Sk (Int) :=
 .br (decide (((r.bE.length:Nat):Int) > 100))
 (.fin 6)
 (.bt
 (.loop (default:Sum (Int) (Unit)) (fun i2=>i2≤r.bE.length) (fun i2=>r.bE.length - i2) (0:Nat)
 (fun (i2:Nat)=>⟨[(14,iv (i2:Int))],[]⟩) fun i2 =>
 .lt 12 0 i2 r.bE.length
 (.r 5 (.p (bG (i2:Int) r.bE.length)) fun _ =>
 .r 6 (.dep ((cr ((r.bE.getD i2 default).from_) ((r.ck.length:Nat):Int)).c) fun x3=>.dep (.wh (!x3) false ((cr ((r.bE.getD i2 default).cj) ((r.ck.length:Nat):Int)).c)) fun x4=>.dep (.wh (((!x3)||(!x4))||(((r.bE.getD i2 default).from_) == ((r.bE.getD i2 default).cj))) false ((cr (au (((r.bE.getD i2 default).num) - 1)) 1073741824).c)) fun x5=>.dep (.wh ((((!x3)||(!x4))||(((r.bE.getD i2 default).from_) == ((r.bE.getD i2 default).cj)))||(!x5)) false ((cr (au (((r.bE.getD i2 default).den) - 1)) 1073741824).c)) fun x6=>.wh (((((!x3)||(!x4))||(((r.bE.getD i2 default).from_) == ((r.bE.getD i2 default).cj)))||(!x5))||(!x6)) false ((cr ((r.bE.getD i2 default).since) 100001).c)) fun p8 =>
 .br ((((((!p8.1)||(!p8.2.1))||(((r.bE.getD i2 default).from_) == ((r.bE.getD i2 default).cj)))||(!p8.2.2.1))||(!p8.2.2.2.1))||(!p8.2.2.2.2))
 (.fin (.inl (.inl 1)))
 (.nx 8 14 i2 (i2+1)))
 (.fin (.inl (.inr ()))))
 (fun (_:Unit)=>⟨[],[]⟩) fun _ =>
 .br (decide (((r.ep.length:Nat):Int) > 20))
 (.fin 6)
 (.bind true (fun b9=>r.dQ)
 (.loop (default:Sum (Int) (Unit)) (fun i10=>(∀ i,i < i10→(r.ep.getD i default).cj≤100000)∧i10≤r.ep.length) (fun i10=>r.ep.length - i10) (0:Nat)
 (fun (i10:Nat)=>⟨[(69,iv (i10:Int))],[]⟩) fun i10 =>
 .lt 67 0 i10 r.ep.length
 (.r 13 (.p (bG (i10:Int) r.ep.length)) fun _ =>
 .r 14 ((cr ((r.ep.getD i10 default).order) ((r.aE.length:Nat):Int)).c) fun x11 =>
 .br ((((!x11)||(decide (((r.ep.getD i10 default).from_) < 0)))||(decide (((r.ep.getD i10 default).from_) > ((r.ep.getD i10 default).cj))))||(decide (((r.ep.getD i10 default).cj) > 100000)))
 (.fin (.inl (.inl 1)))
 (.nx 16 69 i10 (i10+1)))
 (.fin (.inl (.inr ()))))
 (fun (_:Unit)=>⟨[],[]⟩) fun _ =>
 .fin 0))
def Se r:=(nA r).val
theorem IP (r:ah):(nA r).cZ (fun (x:Int)=>x=0→r.dQ):=by
 unfold nA
 try simp only [cr,jc,ah.dQ]
 exact RS
theorem KK (r:ah):(nA r).bz (fun _=>True):=by
 unfold nA
 try simp only [cr,jc,ah.dQ]
 exact yj
def xr r:=kp tok mixed Tryz.func188 [av r.cells] (fun x=>iv x) true (Se r) (u0 (KK r)) (IP r)
def lZ (r:ah):Sk (Int) :=
 .r 1 ((vk r).c) fun x1 =>
 .r 2 ((qC r.ck 8).c) fun x2 =>
 .br (x2 != 0)
 (.fin x2)
 (.r 5 ((qD x1.1 40 r).c) fun x3 =>
 .br (x3 != 0)
 (.fin x3)
 (.br (decide (((r.fP.length:Nat):Int) > 20))
 (.fin 6)
 (.bt
 (.loop (default:Sum (Int) (Unit)) (fun i5=>i5≤r.fP.length) (fun i5=>r.fP.length - i5) (0:Nat)
 (fun (i5:Nat)=>⟨[(38,iv (i5:Int))],[]⟩) fun i5 =>
 .lt 36 0 i5 r.fP.length
 (.r 12 (.p (bG (i5:Int) r.fP.length)) fun _ =>
 .r 13 ((cr ((r.fP.getD i5 default).Pt) 10).c) fun x6 =>
 .br (!x6)
 (.fin (.inl (.inl 1)))
 (.nx 15 38 i5 (i5+1)))
 (.fin (.inl (.inr ()))))
 (fun (_:Unit)=>⟨[],[]⟩) fun _ =>
 .r 16 ((qE x1.2.1 200 r).c) fun x7 =>
 .br (x7 != 0)
 (.fin x7)
 (.r 19 ((qF x1.2.2 20 r).c) fun x8 =>
 .br (x8 != 0)
 (.fin x8)
 (.r 22 ((sh r).c) fun x9 =>
 .br (x9 != 0)
 (.fin x9)
 (.r 25 ((xr r).c) fun N8 =>
 .fin N8))))))
def P8 r:=(lZ r).val
theorem FT (r:ah):(lZ r).cZ (fun (x:Int)=>x=0→r.dQ):=by
 unfold lZ
 try simp only [qC,qD,qE,qF,cr,vk,xr,sh,jc,al.Small,ah.Small,ah.dQ]
 exact RS
theorem IQ (r:ah) (hr:r.Small):(lZ r).bz (fun _=>True):=by
 simp only [al.Small,ah.Small,ah.dQ] at hr
 unfold lZ
 try simp only [qC,qD,qE,qF,cr,vk,xr,sh,jc,al.Small,ah.Small,ah.dQ]
 exact yj
def vl r:=kp tok mixed Tryz.func137 [av r.cells] (fun x=>iv x) true (P8 r) (IQ r) (FT r)
def nP (r:ah) (bZ:Int):Sk (Bool) :=
 .fin ((decide (bZ≥0))&&(decide (bZ < ((r.aI.length:Nat):Int))))
def C9 r bZ:=(nP r bZ).val
theorem xT (r:ah) (bZ:Int):C9 r bZ=((decide (bZ≥0))&&(decide (bZ < ((r.aI.length:Nat):Int)))):=rfl
theorem FU (r:ah) (bZ:Int):(nP r bZ).bz (fun _=>True):=by
 unfold nP
 exact pq
def pK r bZ:=kk tok mixed Tryz.func138 [av r.cells,iv bZ] (fun x=>bv x) true (nP r bZ) (C9 r bZ) (u0 (FU r bZ))
def pL (n:Int):Sk (Bool) :=
 .fin ((decide (n≥0))&&(decide (n≤100000)))
def Fa n:=(pL n).val
theorem zu (n:Int):Fa n=((decide (n≥0))&&(decide (n≤100000))):=rfl
theorem IU (n:Int):(pL n).bz (fun _=>True):=by
 unfold pL
 exact pq
def nB n:=kk tok mixed Tryz.func139 [iv n] (fun x=>bv x) true (pL n) (Fa n) (u0 (IU n))
def nQ (t:rD):Sk (Bool) :=
 .fin ((t.kind == 0)||(t.kind == 1))
def Da t:=(nQ t).val
theorem xU (t:rD):Da t=((t.kind == 0)||(t.kind == 1)):=rfl
theorem FV (t:rD):(nQ t).bz (fun _=>True):=by
 unfold nQ
 exact pq
def tX t:=kk tok mixed Tryz.func140 [av t.cells] (fun x=>bv x) true (nQ t) (Da t) (u0 (FV t))
def ji (day:Int):Sk (Bool) :=
 .fin ((decide ((0:Int)≤day))&&(decide (day≤100000)))
def fa day:=(ji day).val
theorem pM (day:Int):fa day=((decide ((0:Int)≤day))&&(decide (day≤100000))):=rfl
theorem Db (day:Int):(ji day).bz (fun _=>True):=by
 unfold ji
 exact pq
def fR day:=kk tok mixed Tryz.func213 [iv day] (fun x=>bv x) true (ji day) (fa day) (u0 (Db day))
theorem Dc (day:Int):gr Tryz.prog 213 [iv day] [] (bv (fa day)) []:=(fR day).pf trivial
def lI (day:Int):Sk (Int × Int × Int) :=
 .r 2 (.aq (.p ((146097:Int)≠0)) (.p ((146097:Int)≠0))) fun _ =>
 .r 3 (.aq (.p ((1460:Int)≠0)) (.aq (.p ((36524:Int)≠0)) (.aq (.p ((146096:Int)≠0)) (.p ((365:Int)≠0))))) fun _ =>
 .r 4 (.aq (.p ((4:Int)≠0)) (.p ((100:Int)≠0))) fun _ =>
 .r 5 (.p ((153:Int)≠0)) fun _ =>
 .r 6 (.p ((5:Int)≠0)) fun _ =>
 .bind false (fun _=>True)
 (.br (decide ((au ((au ((au ((au ((5:Int) * (au (((au (day+730425)).tmod 146097) - (au ((au ((au ((365:Int) * (au ((au ((au ((au (((au (day+730425)).tmod 146097) - (au (((au (day+730425)).tmod 146097).tdiv 1460))))+(au (((au (day+730425)).tmod 146097).tdiv 36524)))) - (au (((au (day+730425)).tmod 146097).tdiv 146096)))).tdiv 365))))+(au ((au ((au ((au ((au (((au (day+730425)).tmod 146097) - (au (((au (day+730425)).tmod 146097).tdiv 1460))))+(au (((au (day+730425)).tmod 146097).tdiv 36524)))) - (au (((au (day+730425)).tmod 146097).tdiv 146096)))).tdiv 365)).tdiv 4)))) - (au ((au ((au ((au ((au (((au (day+730425)).tmod 146097) - (au (((au (day+730425)).tmod 146097).tdiv 1460))))+(au (((au (day+730425)).tmod 146097).tdiv 36524)))) - (au (((au (day+730425)).tmod 146097).tdiv 146096)))).tdiv 365)).tdiv 100))))))))+2)).tdiv 153))+3)) > 12))
 (.fin (.inr (au ((au ((au ((au ((au ((5:Int) * (au (((au (day+730425)).tmod 146097) - (au ((au ((au ((365:Int) * (au ((au ((au ((au (((au (day+730425)).tmod 146097) - (au (((au (day+730425)).tmod 146097).tdiv 1460))))+(au (((au (day+730425)).tmod 146097).tdiv 36524)))) - (au (((au (day+730425)).tmod 146097).tdiv 146096)))).tdiv 365))))+(au ((au ((au ((au ((au (((au (day+730425)).tmod 146097) - (au (((au (day+730425)).tmod 146097).tdiv 1460))))+(au (((au (day+730425)).tmod 146097).tdiv 36524)))) - (au (((au (day+730425)).tmod 146097).tdiv 146096)))).tdiv 365)).tdiv 4)))) - (au ((au ((au ((au ((au (((au (day+730425)).tmod 146097) - (au (((au (day+730425)).tmod 146097).tdiv 1460))))+(au (((au (day+730425)).tmod 146097).tdiv 36524)))) - (au (((au (day+730425)).tmod 146097).tdiv 146096)))).tdiv 365)).tdiv 100))))))))+2)).tdiv 153))+3)) - 12))))
 (.fin (.inr (au ((au ((au ((au ((5:Int) * (au (((au (day+730425)).tmod 146097) - (au ((au ((au ((365:Int) * (au ((au ((au ((au (((au (day+730425)).tmod 146097) - (au (((au (day+730425)).tmod 146097).tdiv 1460))))+(au (((au (day+730425)).tmod 146097).tdiv 36524)))) - (au (((au (day+730425)).tmod 146097).tdiv 146096)))).tdiv 365))))+(au ((au ((au ((au ((au (((au (day+730425)).tmod 146097) - (au (((au (day+730425)).tmod 146097).tdiv 1460))))+(au (((au (day+730425)).tmod 146097).tdiv 36524)))) - (au (((au (day+730425)).tmod 146097).tdiv 146096)))).tdiv 365)).tdiv 4)))) - (au ((au ((au ((au ((au (((au (day+730425)).tmod 146097) - (au (((au (day+730425)).tmod 146097).tdiv 1460))))+(au (((au (day+730425)).tmod 146097).tdiv 36524)))) - (au (((au (day+730425)).tmod 146097).tdiv 146096)))).tdiv 365)).tdiv 100))))))))+2)).tdiv 153))+3)))))
 (fun (b1:Int)=>⟨[(3,iv b1)],[]⟩) fun b1 =>
 .br (decide (b1 < 3))
 (.fin (au ((au ((au ((au ((au ((au (((au (day+730425)).tmod 146097) - (au (((au (day+730425)).tmod 146097).tdiv 1460))))+(au (((au (day+730425)).tmod 146097).tdiv 36524)))) - (au (((au (day+730425)).tmod 146097).tdiv 146096)))).tdiv 365))+(au ((400:Int) * (au ((au (day+730425)).tdiv 146097))))))+1),b1,au ((au ((au (((au (day+730425)).tmod 146097) - (au ((au ((au ((365:Int) * (au ((au ((au ((au (((au (day+730425)).tmod 146097) - (au (((au (day+730425)).tmod 146097).tdiv 1460))))+(au (((au (day+730425)).tmod 146097).tdiv 36524)))) - (au (((au (day+730425)).tmod 146097).tdiv 146096)))).tdiv 365))))+(au ((au ((au ((au ((au (((au (day+730425)).tmod 146097) - (au (((au (day+730425)).tmod 146097).tdiv 1460))))+(au (((au (day+730425)).tmod 146097).tdiv 36524)))) - (au (((au (day+730425)).tmod 146097).tdiv 146096)))).tdiv 365)).tdiv 4)))) - (au ((au ((au ((au ((au (((au (day+730425)).tmod 146097) - (au (((au (day+730425)).tmod 146097).tdiv 1460))))+(au (((au (day+730425)).tmod 146097).tdiv 36524)))) - (au (((au (day+730425)).tmod 146097).tdiv 146096)))).tdiv 365)).tdiv 100)))))) - (au ((au ((au ((153:Int) * (au ((au ((au ((5:Int) * (au (((au (day+730425)).tmod 146097) - (au ((au ((au ((365:Int) * (au ((au ((au ((au (((au (day+730425)).tmod 146097) - (au (((au (day+730425)).tmod 146097).tdiv 1460))))+(au (((au (day+730425)).tmod 146097).tdiv 36524)))) - (au (((au (day+730425)).tmod 146097).tdiv 146096)))).tdiv 365))))+(au ((au ((au ((au ((au (((au (day+730425)).tmod 146097) - (au (((au (day+730425)).tmod 146097).tdiv 1460))))+(au (((au (day+730425)).tmod 146097).tdiv 36524)))) - (au (((au (day+730425)).tmod 146097).tdiv 146096)))).tdiv 365)).tdiv 4)))) - (au ((au ((au ((au ((au (((au (day+730425)).tmod 146097) - (au (((au (day+730425)).tmod 146097).tdiv 1460))))+(au (((au (day+730425)).tmod 146097).tdiv 36524)))) - (au (((au (day+730425)).tmod 146097).tdiv 146096)))).tdiv 365)).tdiv 100))))))))+2)).tdiv 153))))+2)).tdiv 5))))+1)))
 (.fin (au ((au ((au ((au ((au (((au (day+730425)).tmod 146097) - (au (((au (day+730425)).tmod 146097).tdiv 1460))))+(au (((au (day+730425)).tmod 146097).tdiv 36524)))) - (au (((au (day+730425)).tmod 146097).tdiv 146096)))).tdiv 365))+(au ((400:Int) * (au ((au (day+730425)).tdiv 146097))))),b1,au ((au ((au (((au (day+730425)).tmod 146097) - (au ((au ((au ((365:Int) * (au ((au ((au ((au (((au (day+730425)).tmod 146097) - (au (((au (day+730425)).tmod 146097).tdiv 1460))))+(au (((au (day+730425)).tmod 146097).tdiv 36524)))) - (au (((au (day+730425)).tmod 146097).tdiv 146096)))).tdiv 365))))+(au ((au ((au ((au ((au (((au (day+730425)).tmod 146097) - (au (((au (day+730425)).tmod 146097).tdiv 1460))))+(au (((au (day+730425)).tmod 146097).tdiv 36524)))) - (au (((au (day+730425)).tmod 146097).tdiv 146096)))).tdiv 365)).tdiv 4)))) - (au ((au ((au ((au ((au (((au (day+730425)).tmod 146097) - (au (((au (day+730425)).tmod 146097).tdiv 1460))))+(au (((au (day+730425)).tmod 146097).tdiv 36524)))) - (au (((au (day+730425)).tmod 146097).tdiv 146096)))).tdiv 365)).tdiv 100)))))) - (au ((au ((au ((153:Int) * (au ((au ((au ((5:Int) * (au (((au (day+730425)).tmod 146097) - (au ((au ((au ((365:Int) * (au ((au ((au ((au (((au (day+730425)).tmod 146097) - (au (((au (day+730425)).tmod 146097).tdiv 1460))))+(au (((au (day+730425)).tmod 146097).tdiv 36524)))) - (au (((au (day+730425)).tmod 146097).tdiv 146096)))).tdiv 365))))+(au ((au ((au ((au ((au (((au (day+730425)).tmod 146097) - (au (((au (day+730425)).tmod 146097).tdiv 1460))))+(au (((au (day+730425)).tmod 146097).tdiv 36524)))) - (au (((au (day+730425)).tmod 146097).tdiv 146096)))).tdiv 365)).tdiv 4)))) - (au ((au ((au ((au ((au (((au (day+730425)).tmod 146097) - (au (((au (day+730425)).tmod 146097).tdiv 1460))))+(au (((au (day+730425)).tmod 146097).tdiv 36524)))) - (au (((au (day+730425)).tmod 146097).tdiv 146096)))).tdiv 365)).tdiv 100))))))))+2)).tdiv 153))))+2)).tdiv 5))))+1)))
def IV day:=(lI day).val
theorem Dd (day:Int):(lI day).bz (fun _=>True):=by
 unfold lI
 exact oh
def mJ day:=kk tok mixed Tryz.func229 [iv day] (fun x=>.fL [iv x.1,iv x.2.1,iv x.2.2]) true (lI day) (IV day) (u0 (Dd day))
def kG (year:Int) (month:Int) (FW:Int):Sk (Int) :=
 .br (decide (month < 3))
 (.r 3 (.aq (.p ((4:Int)≠0)) (.aq (.p ((100:Int)≠0)) (.aq (.p ((400:Int)≠0)) (.p ((5:Int)≠0))))) fun _ =>
 .fin (au ((au ((au ((au ((au ((au ((au ((au ((365:Int) * (au (year - 1))))+(au ((au (year - 1)).tdiv 4)))) - (au ((au (year - 1)).tdiv 100))))+(au ((au (year - 1)).tdiv 400))))+(au ((au ((au ((153:Int) * (au ((au (month+12)) - 3))))+2)).tdiv 5))))+FW)) - 1)) - 730425)))
 (.r 3 (.aq (.p ((4:Int)≠0)) (.aq (.p ((100:Int)≠0)) (.aq (.p ((400:Int)≠0)) (.p ((5:Int)≠0))))) fun _ =>
 .fin (au ((au ((au ((au ((au ((au ((au ((au ((365:Int) * year))+(au (year.tdiv 4)))) - (au (year.tdiv 100))))+(au (year.tdiv 400))))+(au ((au ((au ((153:Int) * (au (month - 3))))+2)).tdiv 5))))+FW)) - 1)) - 730425)))
def FX year month FW:=(kG year month FW).val
theorem BE (year:Int) (month:Int) (FW:Int):(kG year month FW).bz (fun _=>True):=by
 unfold kG
 exact oh
def jj year month FW:=kk tok mixed Tryz.func244 [iv year,iv month,iv FW] (fun x=>iv x) true (kG year month FW) (FX year month FW) (u0 (BE year month FW))
def kH (year:Int) (month:Int):Sk (Int) :=
 .br (month == 12)
 (.fin 31)
 (.r 3 (.dep ((jj year (au (month+1)) 1).c) fun _=>(jj year month 1).c) fun p3 =>
 .fin (au (p3.1 - p3.2)))
def FY year month:=(kH year month).val
theorem BF (year:Int) (month:Int):(kH year month).bz (fun _=>True):=by
 unfold kH
 try simp only [jj]
 exact pq
def lJ year month:=kk tok mixed Tryz.func231 [iv year,iv month] (fun x=>iv x) true (kH year month) (FY year month) (u0 (BF year month))
def nR (year:Int) (month:Int) (FW:Int):Sk (Int × Int) :=
 .r 1 (.wh (((((decide (year < 2000))||(decide (year > 2300)))||(decide (month < 1)))||(decide (month > 12)))||(decide (FW < 1))) false ((lJ year month).c)) fun x1 =>
 .br ((((((decide (year < 2000))||(decide (year > 2300)))||(decide (month < 1)))||(decide (month > 12)))||(decide (FW < 1)))||(decide (FW > x1)))
 (.fin (0,3))
 (.r 3 ((jj year month FW).c) fun x2 =>
 .r 4 ((fR x2).c) fun x3 =>
 .br (!x3)
 (.fin (0,3))
 (.fin (x2,0)))
def Na year month FW:=(nR year month FW).val
theorem FZ (year:Int) (month:Int) (FW:Int):(nR year month FW).bz (fun _=>True):=by
 unfold nR
 try simp only [lJ,jj,fR,pM]
 exact yj
def zw year month FW:=kk tok mixed Tryz.func230 [iv year,iv month,iv FW] (fun x=>.fL [iv x.1,iv x.2]) true (nR year month FW) (Na year month FW) (u0 (FZ year month FW))
def iw (day:Int) (n:Int):Sk (Int × Int) :=
 .r 1 ((fR day).c) fun x1 =>
 .br (((!x1)||(decide (n < (-5000))))||(decide (n > 5000)))
 (.fin (0,3))
 (.r 3 ((mJ day).c) fun x2 =>
 .r 5 (.aq (.p ((12:Int)≠0)) (.p ((12:Int)≠0))) fun _ =>
 .r 6 (.dep ((lJ (au ((au ((au ((au ((au ((12:Int) * x2.1))+x2.2.1)) - 1))+n)).tdiv 12)) (au (((au ((au ((au ((au ((12:Int) * x2.1))+x2.2.1)) - 1))+n)).tmod 12)+1))).c) fun x3=>(zw (au ((au ((au ((au ((au ((12:Int) * x2.1))+x2.2.1)) - 1))+n)).tdiv 12)) (au (((au ((au ((au ((au ((12:Int) * x2.1))+x2.2.1)) - 1))+n)).tmod 12)+1)) (bL x2.2.2 x3)).c) fun p5 =>
 .fin (p5.2.1,p5.2.2))
def BG day n:=(iw day n).val
theorem yb (day:Int) (n:Int):(iw day n).bz (fun _=>True):=by
 unfold iw
 try simp only [zw,mJ,lJ,fR,pM]
 exact yj
def rO day n:=kk tok mixed Tryz.func212 [iv day,iv n] (fun x=>.fL [iv x.1,iv x.2]) true (iw day n) (BG day n) (u0 (yb day n))
def pN (day:Int) (t:rD):Sk (Int × Int) :=
 .br ((decide (t.n < 0))||(decide (t.n > 20000)))
 (.fin (0,3))
 (.br (t.unit == 1)
 (.r 4 ((rO day t.n).c) fun x1 =>
 .fin (x1.1,x1.2))
 (.fin (au (day+t.n),0)))
def P9 day t:=(pN day t).val
theorem IW (day:Int) (t:rD):(pN day t).bz (fun _=>True):=by
 unfold pN
 try simp only [rO]
 exact pq
def vm day t:=kk tok mixed Tryz.func189 [iv day,av t.cells] (fun x=>.fL [iv x.1,iv x.2]) true (pN day t) (P9 day t) (u0 (IW day t))
def nT (r:ah) (from_:Int) (cj:Int):Sk (Int × Int) :=
 .bt
 (.loop (default:Sum (Int × Int) (Unit)) (fun i2=>i2≤r.aM.length) (fun i2=>r.aM.length - i2) (0:Nat)
 (fun (i2:Nat)=>⟨[(13,iv (i2:Int))],[]⟩) fun i2 =>
 .lt 11 0 i2 r.aM.length
 (.r 3 (.p (bG (i2:Int) r.aM.length)) fun _ =>
 .br ((((r.aM.getD i2 default).from_) == from_)&&(((r.aM.getD i2 default).cj) == cj))
 (.fin (.inl (.inl ((r.aM.getD i2 default).days,0))))
 (.nx 6 13 i2 (i2+1)))
 (.fin (.inl (.inr ()))))
 (fun (_:Unit)=>⟨[],[]⟩) fun _ =>
 .fin (0,4)
def Nb r from_ cj:=(nT r from_ cj).val
theorem F3 (r:ah) (from_:Int) (cj:Int):(nT r from_ cj).bz (fun _=>True):=by
 unfold nT
 exact oh
def zx r from_ cj:=kk tok mixed Tryz.func190 [av r.cells,iv from_,iv cj] (fun x=>.fL [iv x.1,iv x.2]) true (nT r from_ cj) (Nb r from_ cj) (u0 (F3 r from_ cj))
def re (r:ah) (b:qc) (seen:Int):Sk (Int × Int) :=
 .br (b.cR.kind == 0)
 (.fin (seen,0))
 (.br (b.cR.kind == 1)
 (.r 5 ((vm seen b.cR).c) fun x1 =>
 .fin (x1.1,x1.2))
 (.br (b.cR.kind == 2)
 (.r 7 ((vm b.day b.cR).c) fun x2 =>
 .fin (x2.1,x2.2))
 (.br (b.cR.kind == 4)
 (.r 9 ((zx r b.bZ b.yk).c) fun x3 =>
 .fin (au (b.day+x3.1),x3.2))
 (.fin (b.cR.n,0)))))
def Sf r b seen:=(re r b seen).val
theorem KL (r:ah) (b:qc) (seen:Int):(re r b seen).bz (fun _=>True):=by
 unfold re
 try simp only [zx,vm]
 exact pq
def xt r b seen:=kk tok mixed Tryz.func141 [av r.cells,av b.cells,iv seen] (fun x=>.fL [iv x.1,iv x.2]) true (re r b seen) (Sf r b seen) (u0 (KL r b seen))
def kY (r:ah) (order:Int) (day:Int):Sk (Int) :=
 .bind true (fun b1=>day≤b1∧b1≤100001)
 (.loop (default:Sum (Int) (Int)) (fun i2=>day≤i2.1∧i2.1≤100001) (fun i2=>2 * (100001 - i2.1).toNat+(if i2.2 then 1 else 0)) ((day,true):Int × Bool)
 (fun (i2:Int × Bool)=>⟨[(2,iv i2.1),(7,bv i2.2)],[]⟩) fun i2 =>
 .br i2.2
 (.bind true (fun b3=>i2.1≤b3.1∧b3.1≤100001∧(b3.2.1=true→i2.1 < b3.1)∧(b3.2.1=false→b3.1=i2.1))
 (.bind true (fun b4=>i2.1≤b4.1∧b4.1≤100001∧(b4.2.1=true→i2.1 < b4.1)∧(b4.2.1=false→b4.1=i2.1))
 (.loop (default:Sum (Sum (Sum (Sum (Int) (Int)) (Int × Bool)) (Int × Bool × (List Halt) × Int × Int × Bool)) (Int × Bool × Int × Bool)) (fun i5=>i5.2.2≤r.ep.length∧i2.1≤i5.1∧i5.1≤100001∧(i5.2.1=true→i2.1 < i5.1)∧(i5.2.1=false→i5.1=i2.1)) (fun i5=>r.ep.length - i5.2.2) ((i2.1,false,0):Int × Bool × Nat)
 (fun (i5:Int × Bool × Nat)=>⟨[(2,iv i5.1),(7,bv i5.2.1),(14,iv (i5.2.2:Int))],[]⟩) fun i5 =>
 .lt 12 0 i5.2.2 r.ep.length
 (.r 6 (.p (bG (i5.2.2:Int) r.ep.length)) fun _ =>
 .br (((((r.ep.getD i5.2.2 default).order) == order)&&(decide (((r.ep.getD i5.2.2 default).from_)≤i5.1)))&&(decide (i5.1≤((r.ep.getD i5.2.2 default).cj))))
 (.r 9 .z fun _ =>
 .wi 14 (au ((i5.2.2:Int)+1)) ((i5.2.2+1:Nat):Int) <|
 .fin (.inr (au (((r.ep.getD i5.2.2 default).cj)+1),true,i5.2.2+1)))
 (.nx 9 14 i5.2.2 (i5.1,i5.2.1,i5.2.2+1)))
 (.fin (.inl (.inr (i5.1,i5.2.1,(i5.2.2:Int),decide ((i5.2.2:Int) < ((r.ep.length:Nat):Int)))))))
 (fun (b4:Int × Bool × Int × Bool)=>⟨[(2,iv b4.1),(7,bv b4.2.1),(14,iv b4.2.2.1),(15,bv b4.2.2.2)],[]⟩) fun b4 =>
 .fin (.inr (b4.1,b4.2.1,r.ep,((r.ep.length:Nat):Int),b4.2.2.1,b4.2.2.2)))
 (fun (b3:Int × Bool × (List Halt) × Int × Int × Bool)=>⟨[(2,iv b3.1),(7,bv b3.2.1),(12,lv Halt.cells b3.2.2.1),(13,iv b3.2.2.2.1),(14,iv b3.2.2.2.2.1),(15,bv b3.2.2.2.2.2)],[]⟩) fun b3 =>
 .fin (.inr (b3.1,b3.2.1)))
 (.fin (.inl (.inr i2.1))))
 (fun (b1:Int)=>⟨[(2,iv b1)],[]⟩) fun b1 =>
 .fin b1
def IX r order day:=(kY r order day).val
theorem IY (r:ah) (order:Int) (day:Int) (hP:r.dQ∧0≤day∧day≤100001):(kY r order day).cZ (fun (x:Int)=>day≤x∧x≤100001):=by
 refine Sk.bp _ ?_
 unfold kY
 simp only [Sk.cU,Sk.aO,reduceCtorEq,ON,kk,kp,ah.dQ,maxLen]
 obtain ⟨hh,hd⟩:=hP
 refine ⟨⟨by omega,fun i hi=>⟨fun hch=>⟨⟨⟨⟨by omega,⟨by omega,by omega⟩⟩,fun j hj=>⟨fun hc _=>⟨fun ht _=>⟨⟨?_,?_⟩,?_⟩,fun ht _=>⟨⟨?_,hj.2⟩,?_⟩⟩,fun hc=>hj.2⟩⟩,fun b hb=>hb⟩,fun b _ hb=>⟨?_,?_⟩⟩,fun hch=>hi⟩⟩,fun b hb=>hb⟩
 all_goals (try simp only [LN] at hc)
 all_goals (try simp only [LN] at ht)
 ·omega
 ·have h2:=hh j.2.2 (by omega)
  rw [aG (by omega) (by omega)]
  omega
 ·omega
 ·omega
 ·omega
 ·omega
 ·rw [if_pos hch]
  cases wK:b.2.1 with
  | true=>have:=hb.2.2.1 wK; simp only [if_true]; omega
  | false=>have:=hb.2.2.2 wK; simp only [Bool.false_eq_true,if_false]; omega
theorem F4 (r:ah) (order:Int) (day:Int):(fun (x:Int)=>(r.dQ∧0≤day∧day≤100001)→(day≤x∧x≤100001)) (IX r order day):=fun hP=>Sk.de _ (IY r order day hP)
theorem KM (r:ah) (order:Int) (day:Int) (hh:r.dQ) (hd:0≤day∧day≤100001):(kY r order day).bz (fun _=>True):=by
 simp only [ah.dQ] at hh
 refine Sk.aX _ ?_
 unfold kY
 simp only [Sk.km,Sk.aO,reduceCtorEq,ON,kk,kp,ah.dQ,maxLen]
 refine ⟨⟨by omega,by omega⟩,fun i hi=>⟨fun hch=>⟨⟨⟨⟨by omega,by omega,by omega⟩,fun j hj hl=>⟨fun hc=>⟨⟨by omega,of_decide_eq_true hc⟩,fun _=>⟨fun ht _=>⟨?_,⟨?_,?_⟩,?_⟩,fun ht _=>⟨?_,⟨?_,hj.2⟩,?_⟩⟩⟩,fun hc=>hj.2⟩⟩,fun b hb=>hb⟩,fun b _ hb=>⟨?_,?_⟩⟩,fun hch=>hi⟩⟩
 all_goals (try simp only [LN] at hc)
 all_goals (try simp only [LN] at ht)
 ·exact aG (by omega) (by omega)
 ·omega
 ·have h2:=hh j.2.2 (by omega)
  rw [aG (by omega) (by omega)]
  omega
 ·omega
 ·exact aG (by omega) (by omega)
 ·omega
 ·omega
 ·omega
 ·rw [if_pos hch]
  cases wK:b.2.1 with
  | true=>have:=hb.2.2.1 wK; simp only [if_true]; omega
  | false=>have:=hb.2.2.2 wK; simp only [Bool.false_eq_true,if_false]; omega
def xu r order day:=kk tok mixed Tryz.func192 [av r.cells,iv order,iv day] (fun x=>iv x) true (kY r order day) (IX r order day) (u2 (KM r order day)) (fun (x:Int)=>(r.dQ∧0≤day∧day≤100001)→(day≤x∧x≤100001)) (F4 r order day)
def mK (c_:jA) (day:Int):Sk (Bool) :=
 .r 1 ((mJ day).c) fun x1 =>
 .r 2 (.aq (.p ((7:Int)≠0)) (.dep ((aJ c_.rest ((au (day+5)).tmod 7)).c) fun x2=>.dep (.wh (!x2) true ((aJ c_.fO (au ((au ((100:Int) * x1.2.1))+x1.2.2))).c)) fun x3=>.wh ((!x2)&&(!x3)) true ((aJ c_.shut day).c))) fun p5 =>
 .fin (((!p5.1)&&(!p5.2.1))&&(!p5.2.2))
def fX c_ day:=(mK c_ day).val
theorem Eu (c_:jA) (day:Int):(mK c_ day).bz (fun _=>True):=by
 unfold mK
 try simp only [mJ,aJ]
 exact oh
def F5 c_ day:=kk tok mixed Tryz.func233 [av c_.cells,iv day] (fun x=>bv x) true (mK c_ day) (fX c_ day) (u0 (Eu c_ day))
theorem Ev (c_:jA) (day:Int):gr Tryz.prog 233 [av c_.cells,iv day] [] (bv (fX c_ day)) []:=(F5 c_ day).pf trivial
end
end Go.Proofs.YtgmnlkccjlnnbaaGreatDoor
