/- Functions, as sketches. -/
import Derived.Test.YtgmnlkccjlnnbaaGreatDoorLe
set_option linter.unusedSimpArgs false
set_option linter.unusedVariables false
set_option maxHeartbeats 1000000
set_option maxRecDepth 100000
namespace Go.Proofs.YtgmnlkccjlnnbaaGreatDoor
noncomputable section
open Go Go.Av
def oV (f:al) (day:Int):Sk (View) :=
 .r 1 ((ch f day).c) fun x1 =>
 .r 2 (.o [.rz (mkM dB)]) fun _ =>
 .bt
 (.loop (default:Sum (View) ((List (Int × Bool)))) (fun i3=>i3.1≤x1.aA.length) (fun i3=>x1.aA.length - i3.1) ((0,([]:List (Int × Bool))):Nat × (List (Int × Bool)))
 (fun (i3:Nat × (List (Int × Bool)))=>⟨[(22,iv ((i3.1:Nat):Int))],[(17,mpM dB i3.2)]⟩) fun i3 =>
 .lt 20 0 i3.1 x1.aA.length
 (.r 5 (.p (bG ((i3.1:Nat):Int) x1.aA.length)) fun _ =>
 .br (((x1.aA.getD i3.1 default).kind) == 7)
 (.r 7 (.aq (.t (E7 dB i3.2)) (.o [.rz (YQ dB i3.2 ((x1.aA.getD i3.1 default).at_) true)])) fun _ =>
 .r 8 .z fun _ =>
 .wi 22 (au (((i3.1:Nat):Int)+1)) ((i3.1+1:Nat):Int) <|
 .fin (.inr (i3.1+1,sJ i3.2 ((x1.aA.getD i3.1 default).at_) true)))
 (.nx 8 22 i3.1 (i3.1+1,i3.2)))
 (.fin (.inl (.inr i3.2))))
 (fun (b2:(List (Int × Bool)))=>⟨[],[(17,mpM dB b2)]⟩) fun b2 =>
 .bind true (fun b4=>b4.length≤0+x1.af.length)
 (.loop (default:Sum (View) ((List Int))) (fun i5=>i5.1≤x1.af.length∧i5.2.length≤0+i5.1) (fun i5=>x1.af.length - i5.1) ((0,[]):Nat × (List Int))
 (fun (i5:Nat × (List Int))=>⟨[(37,iv ((i5.1:Nat):Int))],[(100002,bO 3 1 bU i5.2),(5,.box (f.cells.map .d++x1.cells.map .d++[iv day,ow 100002 i5.2]))]⟩) fun i5 =>
 .lt 35 0 i5.1 x1.af.length
 (.r 11 (.p (bG ((i5.1:Nat):Int) x1.af.length)) fun _ =>
 .r 12 (.wh (((x1.af.getD i5.1 default).kind) == 2) true (.aq (.t (E7 dB b2)) (.o [.cast 48 (getM dB b2 ((i5.1:Nat):Int) false)]))) fun _ =>
 .br ((((x1.af.getD i5.1 default).kind) == 2)&&(!(Cy b2 ((i5.1:Nat):Int) false)))
 (.r 13 (.aq (.o [.fU (gB eA [(x1.af.getD i5.1 default).part])]) (.aq (.o [.fU (og eA i5.2 [(x1.af.getD i5.1 default).part])]) (.aq (.t (eA.qc [(x1.af.getD i5.1 default).part])) (.p (ym i5.2.length [(x1.af.getD i5.1 default).part].length 8))))) fun _ =>
 .nx 14 37 i5.1 (i5.1+1,i5.2++[(x1.af.getD i5.1 default).part]))
 (.nx 14 37 i5.1 (i5.1+1,i5.2)))
 (.fin (.inl (.inr i5.2))))
 (fun (b4:(List Int))=>⟨[],[(100001,bO 3 1 bU b4),(5,.box (f.cells.map .d++x1.cells.map .d++[iv day,ow 100001 b4]))]⟩) fun b4 =>
 .r 15 ((qV 100001 b4).c) fun x6 =>
 .wn 100001 b4.length x6.length <|
 .r 16 ((mE 100001 64 x6).c) fun x7 =>
 .br (((x7.length:Nat):Int) == 0)
 (.r 18 (.o [.fU (gB eA [0])]) fun _ =>
 .fin ({ all:=f,now:=x1,day:=day,lead:=[0] }:View))
 (.fin ({ all:=f,now:=x1,day:=day,lead:=x7 }:View))
def aB f day:=(oV f day).val
theorem CP (f:al) (day:Int):(oV f day).cZ (fun (x:View)=>x.all=f∧x.now=ai f day∧x.day=day∧x.lead.length≠0∧x.lead.length≤1+f.af.length):=by
  unfold oV
  try simp only [ch,mE,qV,FB.c,yO.c,al.Small,ah.Small]
  exact DE

theorem A9 (f:al) (day:Int):(fun (x:View)=>x.all=f∧x.now=ai f day∧x.day=day∧x.lead.length≠0∧x.lead.length≤1+f.af.length) (aB f day):=have h:=Sk.de _ (CP f day); h
theorem PZ (f:al) (day:Int) (bM:f.Small):(oV f day).bz (fun _=>True):=by
  simp only [al.Small,ah.Small] at bM
  unfold oV
  try simp only [ch,mE,qV,FB.c,yO.c,al.Small,ah.Small]
  exact oj

def BA f day:=kp tok mixed Tryz.func52 [av f.cells,iv day] (fun x=>av x.cells) false (aB f day) (PZ f day) (CP f day)
structure lW where
  cell:aH
  order:Int
  path:List Int
  err:Int
  deriving Inhabited
def lW.cells (c:lW):List D:=c.cell.cells++[dI c.order,mW bU c.path,dI c.err]
structure fw where
  file:al
  sign:Int
  jE:Int
  jO:Int
  due:Int
  day:Int
  deriving Inhabited
def fw.cells (c:fw):List D:=c.file.cells++[dI c.sign,dI c.jE,dI c.jO,dI c.due,dI c.day]
def ly (a:di) (v:fw):Sk (Bool) :=
 .fin (decide (a.at_≤v.sign))
def eZ a v:=(ly a v).val
theorem pE (a:di) (v:fw):eZ a v=(decide (a.at_≤v.sign)):=rfl
theorem CQ (a:di) (v:fw):(ly a v).bz (fun _=>True):=by
  unfold ly
  exact pv

def qy a v:=kk tok mixed Tryz.func216 [av a.cells,.ref v.cells] (fun x=>bv x) true (ly a v) (eZ a v) (u0 (CQ a v))
def eE (s:List di) (v:fw):Sk (Int) :=
 .bind true (fun b1=>∀ q,q < s.length→eZ (s.getD q default) v=false)
 (.loop (default:Sum (Int) (Unit)) (fun i2=>∀ q,q < i2→eZ (s.getD q default) v=false) (fun i2=>s.length - i2) (0:Nat)
 (fun (i2:Nat)=>⟨[(8,iv ((i2:Nat):Int))],[]⟩) fun i2 =>
 .lt 0 0 i2 s.length
 (.r 4 (.aq (.p (bG ((i2:Nat):Int) s.length)) ((qy (s.getD i2 default) v).c)) fun x3 =>
 .br x3
 (.fin (.inl (.inl ((i2:Nat):Int))))
 (.nx 6 8 i2 (i2+1)))
 (.fin (.inl (.inr ()))))
 (fun (_:Unit)=>⟨[],[]⟩) fun _ =>
 .fin (-1)
def zf s v:=(eE s v).val
theorem vg (s:List di) (v:fw):(eE s v).cZ (fun (x:Int)=>(x = -1∧∀ q,q < s.length→eZ (s.getD q default) v=false)∨(0≤x∧x < s.length∧eZ (s.getD x.toNat default) v=true∧∀ q,(q:Nat) < x.toNat→eZ (s.getD q default) v=false)):=by
  unfold eE
  try simp only [qy,pE]
  exact RW

theorem vY (s:List di) (v:fw):(eE s v).bz (fun _=>True):=by
  unfold eE
  try simp only [qy,pE]
  exact yn

def kD s v:=kp tok mixed Tryz.func234 [lv di.cells s,.fn 216 [.ref v.cells]] (fun x=>iv x) true (zf s v) (u0 (vY s v)) (vg s v)
def dk (s:List di) (v:fw):Sk (Bool) :=
 .r 1 ((kD s v).c) fun x1 =>
 .fin (decide (x1≥0))
def j4 s v:=(dk s v).val
theorem lz (s:List di) (v:fw):(dk s v).cZ (fun (x:Bool)=>(x=true↔∃ q,q < s.length∧eZ (s.getD q default) v=true)):=by
  unfold dk
  try simp only [kD]
  exact DE

theorem sa (s:List di) (v:fw):(fun (x:Bool)=>(x=true↔∃ q,q < s.length∧eZ (s.getD q default) v=true)) (j4 s v):=have h:=Sk.de _ (lz s v); h
theorem tR (s:List di) (v:fw):(dk s v).bz (fun _=>True):=by
  unfold dk
  try simp only [kD]
  exact pv

def fC s v:=kp tok mixed Tryz.func215 [lv di.cells s,.fn 216 [.ref v.cells]] (fun x=>bv x) true (j4 s v) (u0 (tR s v)) (lz s v)
def uQ (i:Int) (n:Int):Sk (Bool) :=
 .fin ((decide (i≥0))&&(decide (i < n)))
def P1 i n:=(uQ i n).val
theorem jd (i:Int) (n:Int):P1 i n=((decide (i≥0))&&(decide (i < n))):=rfl
theorem P2 (i:Int) (n:Int):(uQ i n).bz (fun _=>True):=by
  unfold uQ
  exact pv

def cr i n:=kk tok mixed Tryz.func183 [iv i,iv n] (fun x=>bv x) true (uQ i n) (P1 i n) (u0 (P2 i n))
def mF (r:ah) (bZ:Int):Sk (Int) :=
 .r 1 ((cr bZ ((r.aI.length:Nat):Int)).c) fun x1 =>
 .br (!x1)
 (.fin (-1))
 (.r 3 (.p (bG bZ r.aI.length)) fun _ =>
 .fin ((r.aI.getD bZ.toNat default).order))
def Ky r bZ:=(mF r bZ).val
theorem Eg (r:ah) (bZ:Int):(mF r bZ).bz (fun _=>True):=by
  unfold mF
  try simp only [cr,jd]
  exact yn

def cI r bZ:=kk tok mixed Tryz.func191 [av r.cells,iv bZ] (fun x=>iv x) true (mF r bZ) (Ky r bZ) (u0 (Eg r bZ))
def nI (Kz:Bool):Sk (aH) :=
 .br Kz
 (.fin ({ known:=true,n:=1 }:aH))
 (.fin ({ known:=true,n:=0 }:aH))
def sV Kz:=(nI Kz).val
theorem FF (Kz:Bool):(nI Kz).bz (fun _=>True):=by
  unfold nI
  exact pv

def j5 Kz:=kk tok mixed Tryz.func217 [bv Kz] (fun x=>av x.cells) true (nI Kz) (sV Kz) (u0 (FF Kz))
def lX (f:al) (kind:Int) (at_:Int):Sk (aH) :=
 .bt
 (.loop (default:Sum (aH) (Unit)) (fun i2=>i2≤f.facts.length) (fun i2=>f.facts.length - i2) (0:Nat)
 (fun (i2:Nat)=>⟨[(12,iv ((i2:Nat):Int))],[]⟩) fun i2 =>
 .lt 10 0 i2 f.facts.length
 (.r 3 (.p (bG ((i2:Nat):Int) f.facts.length)) fun _ =>
 .br ((((f.facts.getD i2 default).kind) == kind)&&(((f.facts.getD i2 default).at_) == at_))
 (.r 5 ((j5 (((f.facts.getD i2 default).n) != 0)).c) fun x3 =>
 .fin (.inl (.inl x3)))
 (.nx 6 12 i2 (i2+1)))
 (.fin (.inl (.inr ()))))
 (fun (_:Unit)=>⟨[],[]⟩) fun _ =>
 .fin ({ known:=false,n:=0 }:aH)
def bT f kind at_:=(lX f kind at_).val
theorem Im (f:al) (kind:Int) (at_:Int):(lX f kind at_).bz (fun _=>True):=by
  unfold lX
  try simp only [j5]
  exact oj

def gL f kind at_:=kk tok mixed Tryz.func218 [av f.cells,iv kind,iv at_] (fun x=>av x.cells) true (lX f kind at_) (bT f kind at_) (u0 (Im f kind at_))
def j6 (r:ah) (c_:fw):Sk ((List aH)) :=
 .r 3 (.dep ((ef c_.sign ((c_.file.af.length:Nat):Int)).c) fun x1=>.wh (((!x1)||(decide (c_.jE < (-1))))||(decide ((cg c_.jE 0)≥((c_.file.af.length:Nat):Int)))) false (.wh (c_.due != (-1)) true ((ef c_.due 100001).c))) fun p25 =>
 .br ((((!p25.1)||(decide (c_.jE < (-1))))||(decide ((cg c_.jE 0)≥((c_.file.af.length:Nat):Int))))||((c_.due != (-1))&&(!p25.2)))
 (.fin [])
 (.r 5 (.p (bG c_.sign c_.file.af.length)) fun _ =>
 .r 6 ((ef ((c_.file.af.getD c_.sign.toNat default).day) 100001).c) fun x3 =>
 .br (!x3)
 (.fin [])
 (.bind false (fun _=>True)
 (.br (c_.due != (-1))
 (.fin (.inr (au (((c_.file.af.getD c_.sign.toNat default).day) - c_.due))))
 (.fin (.inr 0)))
 (fun (b4:Int)=>⟨[(9,iv b4)],[]⟩) fun b4 =>
 .r 11 (.aq (.o [.fU (mkC aH.E 20 ({ known:=false,n:=0 }:aH))]) (.p (VC (20:Int) 16))) fun _ =>
 .r 12 (.aq (.o [.rz aca]) (.aq (.o [.rz (ab9 dI 0 c_.file.aR.sum)]) (.aq (.o [.rz (DZ dI [0] [c_.file.aR.sum] rfl 1 c_.file.aR.parts)]) (.aq (.o [.rz (DZ dI [0,1] [c_.file.aR.sum,c_.file.aR.parts] rfl 2 c_.file.aR.cR.kind)]) (.aq (.o [.rz (DZ dI [0,1,2] [c_.file.aR.sum,c_.file.aR.parts,c_.file.aR.cR.kind] rfl 3 c_.file.aR.lg)]) (.aq (.o [.rz (DZ dI [0,1,2,3] [c_.file.aR.sum,c_.file.aR.parts,c_.file.aR.cR.kind,c_.file.aR.lg] rfl 4 ((c_.file.af.getD c_.sign.toNat default).kind))]) (.aq (.o [.rz (DZ dI [0,1,2,3,4] [c_.file.aR.sum,c_.file.aR.parts,c_.file.aR.cR.kind,c_.file.aR.lg,(c_.file.af.getD c_.sign.toNat default).kind] rfl 5 c_.jO)]) (.o [.rz (DZ dI [0,1,2,3,4,5] [c_.file.aR.sum,c_.file.aR.parts,c_.file.aR.cR.kind,c_.file.aR.lg,(c_.file.af.getD c_.sign.toNat default).kind,c_.jO] rfl 6 b4)])))))))) fun _ =>
 .bind true (fun b5=>b5.length=20)
 (.mr 7 (fun g6=>g6.length=20) (List.replicate 20 ({ known:=false,n:=0 }:aH):(List aH))
 (fun g6 s8=>⟨[(10,ow 100002 g6)],[(100002,bO 71 2 aH.cells g6),(90,.it 74 7 s8)]⟩)
 (fun g9=>⟨[(10,ow 100002 g9)],[(100002,bO 71 2 aH.cells g9)]⟩)
 (fun g6 i7 =>
 .JU <|
 .r 14 (.p (i7 < 7)) fun _ =>
 .r 15 (.aq (.p (bG (([0,1,2,3,4,5,6]:List Int).getD i7 0) g6.length)) (.aq (.o [.fU (vU aH.E g6 ((([0,1,2,3,4,5,6]:List Int).getD i7 0).toNat) ({ known:=true,n:=([c_.file.aR.sum,c_.file.aR.parts,c_.file.aR.cR.kind,c_.file.aR.lg,(c_.file.af.getD c_.sign.toNat default).kind,c_.jO,b4]:List Int).getD i7 default }:aH))]) (.p ((([0,1,2,3,4,5,6]:List Int).getD i7 0).toNat < g6.length)))) fun _ =>
 .wn 100002 g6.length (g6.set ((([0,1,2,3,4,5,6]:List Int).getD i7 0).toNat) ({ known:=true,n:=([c_.file.aR.sum,c_.file.aR.parts,c_.file.aR.cR.kind,c_.file.aR.lg,(c_.file.af.getD c_.sign.toNat default).kind,c_.jO,b4]:List Int).getD i7 default }:aH)).length <|
 .fin (g6.set ((([0,1,2,3,4,5,6]:List Int).getD i7 0).toNat) ({ known:=true,n:=([c_.file.aR.sum,c_.file.aR.parts,c_.file.aR.cR.kind,c_.file.aR.lg,(c_.file.af.getD c_.sign.toNat default).kind,c_.jO,b4]:List Int).getD i7 default }:aH))) fun g9 =>
 .JV <|
 .fin (.inr g9))
 (fun (b5:(List aH))=>⟨[(90,.any),(10,ow 100001 b5)],[(100001,bO 71 2 aH.cells b5)]⟩) fun b5 =>
 .r 16 ((fC c_.file.aN c_).c) fun Oc =>
 .r 17 (.dep ((cI r c_.file.aR.bZ).c) fun _=>(cI r c_.file.aR.yo).c) fun X5 =>
 .r 18 (.aq (.o [.rz aca]) (.aq (.o [.rz (ab9 dB 7 ((dP .i64 c_.file.aR.flags 1) != 0))]) (.aq (.o [.rz (DZ dB [7] [(dP .i64 c_.file.aR.flags 1) != 0] rfl 8 (c_.file.aR.kr == (-1)))]) (.aq (.o [.rz (DZ dB [7,8] [(dP .i64 c_.file.aR.flags 1) != 0,c_.file.aR.kr == (-1)] rfl 9 ((dP .i64 c_.file.aR.flags 4) != 0))]) (.aq (.o [.rz (DZ dB [7,8,9] [(dP .i64 c_.file.aR.flags 1) != 0,c_.file.aR.kr == (-1),(dP .i64 c_.file.aR.flags 4) != 0] rfl 10 ((dP .i64 c_.file.aR.flags 2) != 0))]) (.aq (.o [.rz (DZ dB [7,8,9,10] [(dP .i64 c_.file.aR.flags 1) != 0,c_.file.aR.kr == (-1),(dP .i64 c_.file.aR.flags 4) != 0,(dP .i64 c_.file.aR.flags 2) != 0] rfl 11 (X5.1 != X5.2))]) (.aq (.o [.rz (DZ dB [7,8,9,10,11] [(dP .i64 c_.file.aR.flags 1) != 0,c_.file.aR.kr == (-1),(dP .i64 c_.file.aR.flags 4) != 0,(dP .i64 c_.file.aR.flags 2) != 0,X5.1 != X5.2] rfl 12 Oc)]) (.aq (.o [.rz (DZ dB [7,8,9,10,11,12] [(dP .i64 c_.file.aR.flags 1) != 0,c_.file.aR.kr == (-1),(dP .i64 c_.file.aR.flags 4) != 0,(dP .i64 c_.file.aR.flags 2) != 0,X5.1 != X5.2,Oc] rfl 13 ((dP .i64 ((c_.file.af.getD c_.sign.toNat default).flags) 1) != 0))]) (.o [.rz (DZ dB [7,8,9,10,11,12,13] [(dP .i64 c_.file.aR.flags 1) != 0,c_.file.aR.kr == (-1),(dP .i64 c_.file.aR.flags 4) != 0,(dP .i64 c_.file.aR.flags 2) != 0,X5.1 != X5.2,Oc,(dP .i64 ((c_.file.af.getD c_.sign.toNat default).flags) 1) != 0] rfl 14 (decide (b4 > 0)))]))))))))) fun _ =>
 .bind true (fun BB=>BB.length=20)
 (.mr 8 (fun g14=>g14.length=20) (b5:(List aH))
 (fun g14 s16=>⟨[(10,ow 100005 g14)],[(100005,bO 71 2 aH.cells g14),(139,.it 114 8 s16)]⟩)
 (fun g18=>⟨[(10,ow 100005 g18)],[(100005,bO 71 2 aH.cells g18)]⟩)
 (fun g14 i15 =>
 .JU <|
 .r 20 (.p (i15 < 8)) fun _ =>
 .r 21 (.o9 ((j5 (([(dP .i64 c_.file.aR.flags 1) != 0,c_.file.aR.kr == (-1),(dP .i64 c_.file.aR.flags 4) != 0,(dP .i64 c_.file.aR.flags 2) != 0,X5.1 != X5.2,Oc,(dP .i64 ((c_.file.af.getD c_.sign.toNat default).flags) 1) != 0,decide (b4 > 0)]:List Bool).getD i15 default)).c) fun X6=>.aq (.p (bG (([7,8,9,10,11,12,13,14]:List Int).getD i15 0) g14.length)) (.aq (.o [.fU (vU aH.E g14 ((([7,8,9,10,11,12,13,14]:List Int).getD i15 0).toNat) X6)]) (.p ((([7,8,9,10,11,12,13,14]:List Int).getD i15 0).toNat < g14.length)))) fun X6 =>
 .wn 100005 g14.length (g14.set ((([7,8,9,10,11,12,13,14]:List Int).getD i15 0).toNat) X6).length <|
 .fin (g14.set ((([7,8,9,10,11,12,13,14]:List Int).getD i15 0).toNat) X6)) fun g18 =>
 .JV <|
 .fin (.inr g18))
 (fun (BB:(List aH))=>⟨[(139,.any),(10,ow 100004 BB)],[(100004,bO 71 2 aH.cells BB)]⟩) fun BB =>
 .r 22 (.o9 ((gL c_.file 0 c_.sign).c) fun GP=>.aq (.p (bG (15:Int) BB.length)) (.aq (.o [.fU (vU aH.E BB 15 GP)]) (.p (15 < BB.length)))) fun GP =>
 .wn 100004 BB.length (BB.set 15 GP).length <|
 .r 23 (.o9 ((gL c_.file 1 c_.sign).c) fun MW=>.aq (.p (bG (16:Int) ((BB.set 15 GP).length))) (.aq (.o [.fU (vU aH.E (BB.set 15 GP) 16 MW)]) (.p (16 < (BB.set 15 GP).length)))) fun MW =>
 .wn 100004 (BB.set 15 GP).length ((BB.set 15 GP).set 16 MW).length <|
 .r 24 (.o9 ((gL c_.file 2 c_.sign).c) fun TG=>.aq (.p (bG (17:Int) (((BB.set 15 GP).set 16 MW).length))) (.aq (.o [.fU (vU aH.E ((BB.set 15 GP).set 16 MW) 17 TG)]) (.p (17 < ((BB.set 15 GP).set 16 MW).length)))) fun TG =>
 .wn 100004 ((BB.set 15 GP).set 16 MW).length (((BB.set 15 GP).set 16 MW).set 17 TG).length <|
 .r 25 (.o9 ((gL c_.file 3 (cg c_.jE 0)).c) fun Y1=>.aq (.p (bG (18:Int) ((((BB.set 15 GP).set 16 MW).set 17 TG).length))) (.aq (.o [.fU (vU aH.E (((BB.set 15 GP).set 16 MW).set 17 TG) 18 Y1)]) (.p (18 < (((BB.set 15 GP).set 16 MW).set 17 TG).length)))) fun Y1 =>
 .wn 100004 (((BB.set 15 GP).set 16 MW).set 17 TG).length ((((BB.set 15 GP).set 16 MW).set 17 TG).set 18 Y1).length <|
 .r 26 (.o9 ((gL c_.file 4 (cg c_.jE 0)).c) fun x23=>.aq (.p (bG (19:Int) (((((BB.set 15 GP).set 16 MW).set 17 TG).set 18 Y1).length))) (.aq (.o [.fU (vU aH.E ((((BB.set 15 GP).set 16 MW).set 17 TG).set 18 Y1) 19 x23)]) (.p (19 < ((((BB.set 15 GP).set 16 MW).set 17 TG).set 18 Y1).length)))) fun x23 =>
 .wn 100004 ((((BB.set 15 GP).set 16 MW).set 17 TG).set 18 Y1).length (((((BB.set 15 GP).set 16 MW).set 17 TG).set 18 Y1).set 19 x23).length <|
 .fin (((((BB.set 15 GP).set 16 MW).set 17 TG).set 18 Y1).set 19 x23)))
def oW r c_:=(j6 r c_).val
theorem ZS:(∀ i,i < 7→0≤([0,1,2,3,4,5,6]:List Int).getD i 0∧([0,1,2,3,4,5,6]:List Int).getD i 0 < 20)∧∀ i,i < 7→∀ j,j < 7→i≠j→(([0,1,2,3,4,5,6]:List Int).getD j 0).toNat≠(([0,1,2,3,4,5,6]:List Int).getD i 0).toNat:=by decide
theorem ZT:(∀ i,i < 8→0≤([7,8,9,10,11,12,13,14]:List Int).getD i 0∧([7,8,9,10,11,12,13,14]:List Int).getD i 0 < 20)∧∀ i,i < 8→∀ j,j < 8→i≠j→(([7,8,9,10,11,12,13,14]:List Int).getD j 0).toNat≠(([7,8,9,10,11,12,13,14]:List Int).getD i 0).toNat:=by decide
theorem FG (r:ah) (c_:fw):(j6 r c_).cZ (fun (x:(List aH))=>x=[]∨(x.length=20∧0≤c_.sign∧c_.sign < c_.file.af.length)):=by
  refine Sk.bp _ ?_
  unfold j6
  simp only [Sk.cV,Sk.aO,reduceCtorEq,ON,kk,kp,cI,gL,j5,ef,fC,j3,forall_eq,maxLen]
  all_goals (repeat' first | assumption | (apply And.intro) | (intro h))
  all_goals first | trivial | assumption | omega | ((try simp only [LN] at *) <;> first | omega | (refine (aG ?_ ?_).trans ?_ <;> omega) | (simp (disch:=omega) only [aG] at *; omega) | (grind) | (simp_all; done) | (simp_all; omega))

theorem Io (r:ah) (c_:fw):(j6 r c_).bz (fun _=>True):=by
  refine Sk.aX _ ?_
  unfold j6
  simp only [Sk.kq,Sk.aO,reduceCtorEq,ON,kk,kp,Sk.cZ,cI,gL,j5,ef,fC,j3,forall_eq,maxLen]
  all_goals (repeat' first | (apply And.intro) | (intro h))
  all_goals first | trivial | assumption | omega | (have:=ZS.1 _ ‹_ < 7›; (try simp only [LN] at *) <;> omega) | (have:=ZT.1 _ ‹_ < 8›; (try simp only [LN] at *) <;> omega) | exact List.set_comm _ _ (ZS.2 _ ‹_› _ ‹_› ‹_›) | exact List.set_comm _ _ (ZT.2 _ ‹_› _ ‹_› ‹_›) | ((try simp only [LN] at *) <;> omega)

def vh r c_:=kp tok mixed Tryz.func195 [av r.cells,av c_.cells] (fun x=>lv aH.cells x) false (oW r c_) (u0 (Io r c_)) (FG r c_)
def vZ (r:ah) (c_:fw):Sk (fw × (List aH)) :=
 .r 1 ((ch c_.file c_.day).c) fun x1 =>
 .r 2 ((vh r ({ file:=x1,sign:=c_.sign,jE:=c_.jE,jO:=c_.jO,due:=c_.due,day:=c_.day }:fw)).c) fun x2 =>
 .fin (({ file:=x1,sign:=c_.sign,jE:=c_.jE,jO:=c_.jO,due:=c_.due,day:=c_.day }:fw),x2)
def aaO r c_:=(vZ r c_).val
theorem Sc (r:ah) (c_:fw):(vZ r c_).cZ (fun (x:fw × (List aH))=>x.2=[]∨(x.2.length=20∧0≤x.1.sign∧x.1.sign < x.1.file.af.length)):=by
  unfold vZ
  try simp only [ch,vh,al.Small,ah.Small]
  exact DE

theorem UX (r:ah) (c_:fw) (hf:c_.file.Small):(vZ r c_).bz (fun _=>True):=by
  simp only [al.Small,ah.Small] at hf
  unfold vZ
  try simp only [ch,vh,al.Small,ah.Small]
  exact oj

def Ip r c_:=kp tok mixed Tryz.func155 [av r.cells,av c_.cells] (fun x=>.fL [av x.1.cells,lv aH.cells x.2]) false (aaO r c_) (UX r c_) (Sc r c_)
theorem rL {α σ β:Type} (step:α→σ→β ⊕ σ) (fin:σ→β) (p:α→Bool):∀ (l:List α),(∀ x s,p x=false→step x s=.inr s)→∀ s,walk step fin (l.filter p) s=walk step fin l s
  | [],_,s=>rfl
  | x :: r,h,s=>by
    rw [List.filter_cons]
    cases hp:p x with
    | false =>
      rw [if_neg (by simp)]
      conv=>rhs; unfold walk
      rw [h x s hp]
      exact rL step fin p r h s
    | true =>
      rw [if_pos rfl]
      unfold walk
      cases step x s with
      | inl b=>rfl
      | inr s'=>exact rL step fin p r h s'
def dX (kind at_:Int) (x:Fact) (s:Unit):aH ⊕ Unit:=bif (x.kind == kind)&&(x.at_ == at_) then .inl (sV (x.n != 0)) else .inr ()
theorem uR (f:al) (kind at_:Int):bT f kind at_=walk (dX kind at_) (fun _=>⟨false,0⟩) f.facts ():=by
  simp only [bT,lX,Sk.dh,Sk.gd,Sk.iZ,Sk.eQ,Sk.iG,Sk.lU,Sk.cO,gn.xS,kk,kp,j5]
  refine (eX f.facts (fun s i=>i) (dX kind at_) id _ (fun s i hi=>?_) (fun s=>?_) (by simp) ()).trans rfl
  · rw [decide_eq_true (by omega),cond_true]
    unfold dX
    cases (((f.facts.getD i default).kind == kind)&&((f.facts.getD i default).at_ == at_)) <;> rfl
  · rw [decide_eq_false (by omega),cond_false]
theorem TH (f:al) (d kind s:Int) (h:0≤s∧s < (ai f d).af.length):bT (ai f d) kind s=bT f kind s:=by
  rw [uR,uR]
  rw [gE] at h ⊢
  dsimp only at h
  refine rL _ _ _ _ (fun x u hp=>?_) ()
  have:(x.at_ == s)=false:=by
    simp only [LN] at hp ⊢
    intro e
    subst e
    rcases hp with q | q <;> omega
  unfold dX
  rw [this,Bool.and_false,cond_false]
theorem Iq {n:Nat} {g:Nat→Int} (h:∀ q,q < n→q≠0→g (q - 1)≤g q) (i:Nat):∀ k,i+k < n→g i≤g (i+k)
  | 0,_=>Int.le_refl _
  | k+1,hk=>Int.le_trans (Iq h i k (by omega)) (h (i+(k+1)) hk (by omega))
theorem TJ {α:Type} [Inhabited α] (p:α→Bool):∀ (l:List α) (i:Nat),i < l.length→(∀ q,q≤i→p (l.getD q default)=true)→i < (l.takeWhile p).length
  | [],i,h,_=>absurd h (by simp)
  | x :: r,i,h,hp=>by
    have h0:p x=true:=hp 0 (by omega)
    rw [List.takeWhile_cons,h0,if_pos rfl,List.length_cons]
    cases i with
    | zero=>omega
    | succ i=>have:=TJ p r i (by simpa using h) (fun q hq=>by have:=hp (q+1) (by omega); simpa using this); omega
theorem cm.mono {r:ah} {f:al} (h:cm r f) {i j:Nat} (hij:i≤j) (hj:j < f.af.length):(f.af.getD i default).day≤(f.af.getD j default).day:=by
  have:=Iq (n:=f.af.length) (g:=fun q=>(f.af.getD q default).day) (fun q hq h0=>(h.2.2.1 q hq).2.1 h0) i (j - i) (by omega)
  rwa [show i+(j - i)=j by omega] at this
theorem cm.ZU {r:ah} {f:al} (h:cm r f) {d y:Int} (h0:0≤y) (h1:y < f.af.length) (h2:(f.af.getD y.toNat default).day≤d):y < (ai f d).af.length:=by
  have:y.toNat < (ai f d).af.length:=by
    rw [gE]
    refine TJ _ _ _ (by omega) (fun q hq=>decide_eq_true ?_)
    have:=h.mono hq (by omega)
    omega
  omega
theorem P3 (f:al) (d:Int):(ai f d).aR=f.aR:=by rw [gE]
theorem v7 (f:al) (d:Int) (i:Nat) (h:i < (ai f d).af.length):(ai f d).af.getD i default=f.af.getD i default:=by
  rw [gE] at h ⊢
  exact (zd _ _ _ h).1
theorem mG (f:al) (d:Int):(ai f d).af.length≤f.af.length:=by
  rw [gE]
  exact (List.takeWhile_sublist _).length_le
theorem TL {f:al} (h:f.pw) (d:Int):(ai f d).pw:=by
  obtain ⟨h1,h2,h3,h4⟩:=h
  have h2:=(tM (P:=fun x:di=>jK x.sum)).1 h2
  have h3:=(tM (P:=fun x:Sign=>jK x.sum)).1 h3
  have h4:=(tM (P:=fun x:bh=>jK x.sum)).1 h4
  unfold al.pw
  rw [gE]
  exact ⟨h1,(tM (P:=fun x:di=>jK x.sum)).2 fun x hx=>h2 x (List.mem_filter.1 hx).1,(tM (P:=fun x:Sign=>jK x.sum)).2 fun x hx=>h3 x ((List.takeWhile_sublist _).subset hx),(tM (P:=fun x:bh=>jK x.sum)).2 fun x hx=>h4 x ((List.takeWhile_sublist _).subset hx)⟩
theorem cm.MX {r:ah} {f:al} (h:cm r f) (d:Int):(ai f d).pw:=TL h.UK d
theorem zg {f:al} (h:f.Small) (d:Int):(ai f d).Small:=by
  have h1:=Ik f d
  unfold al.Small at h ⊢
  dsimp only at h1
  omega
theorem cm.MY {r:ah} {f:al} (h:cm r f) (d:Int):∀ i,i < (ai f d).af.length→(((ai f d).af.getD i default).kind=3∨((ai f d).af.getD i default).kind=4)→0≤((ai f d).af.getD i default).for_∧((ai f d).af.getD i default).for_ < (i:Int):=by
  intro i hi
  rw [v7 f d i hi]
  have:=mG f d
  exact (h.2.2.1 i (by omega)).2.2.2.2.2.2.2.2
theorem cm.Xa {r:ah} {f:al} (h:cm r f) (d:Int) {y:Int} (h0:0≤y) (h1:y < (ai f d).af.length):0≤((ai f d).af.getD y.toNat default).dt∧((ai f d).af.getD y.toNat default).dt < (r.bm.length:Int):=by
  rw [v7 f d y.toNat (by omega)]
  have:=mG f d
  exact (h.2.2.1 y.toNat (by omega)).1
def kQ (s:List Int) (v:Int):Sk (Int) :=
 .bind true (fun b1=>∀ q,q < s.length→(s.getD q default == v)=false)
 (.loop (default:Sum (Int) (Unit)) (fun i2=>∀ q,q < i2→(s.getD q default == v)=false) (fun i2=>s.length - i2) (0:Nat)
 (fun (i2:Nat)=>⟨[(8,iv ((i2:Nat):Int))],[]⟩) fun i2 =>
 .lt 0 0 i2 s.length
 (.r 4 (.p (bG ((i2:Nat):Int) s.length)) fun _ =>
 .br (v == (s.getD i2 default))
 (.fin (.inl (.inl ((i2:Nat):Int))))
 (.nx 6 8 i2 (i2+1)))
 (.fin (.inl (.inr ()))))
 (fun (_:Unit)=>⟨[],[]⟩) fun _ =>
 .fin (-1)
def MZ s v:=(kQ s v).val
theorem Eh (s:List Int) (v:Int):(kQ s v).cZ (fun (x:Int)=>(x = -1∧∀ q,q < s.length→(s.getD q default == v)=false)∨(0≤x∧x < s.length∧(s.getD x.toNat default == v)=true∧∀ q,(q:Nat) < x.toNat→(s.getD q default == v)=false)):=by
  unfold kQ
  exact DE

theorem FH (s:List Int) (v:Int):(kQ s v).bz (fun _=>True):=by
  unfold kQ
  exact oj

def tS s v:=kp tok mixed Tryz.func111 [lv bU s,iv v] (fun x=>iv x) true (MZ s v) (u0 (FH s v)) (Eh s v)
def gY (s:List Int) (v:Int):Sk (Bool) :=
 .r 1 ((tS s v).c) fun x1 =>
 .fin (decide (x1≥0))
def bD s v:=(gY s v).val
theorem sA (s:List Int) (v:Int):(gY s v).cZ (fun (x:Bool)=>(x=true↔∃ q,q < s.length∧(s.getD q default == v)=true)):=by
  unfold gY
  try simp only [tS]
  exact DE

theorem zh (s:List Int) (v:Int):(fun (x:Bool)=>(x=true↔∃ q,q < s.length∧(s.getD q default == v)=true)) (bD s v):=have h:=Sk.de _ (sA s v); h
theorem BC (s:List Int) (v:Int):(gY s v).bz (fun _=>True):=by
  unfold gY
  try simp only [tS]
  exact pv

def aJ s v:=kp tok mixed Tryz.func59 [lv bU s,iv v] (fun x=>bv x) true (bD s v) (u0 (BC s v)) (sA s v)
def qW (ask:Int):Sk (Int × Bool) :=
 .br ((decide (ask < 0))||(decide (ask≥22)))
 (.fin (0,false))
 (.r 3 (.aq (.o [.fU (gB eA [6,7,10,12,13,14,15,16,20,21])]) ((aJ [6,7,10,12,13,14,15,16,20,21] ask).c)) fun x1 =>
 .br x1
 (.fin (0,true))
 (.fin (1,true)))
def xm ask:=(qW ask).val
theorem KA (ask:Int):(qW ask).bz (fun _=>True):=by
  unfold qW
  try simp only [aJ]
  exact pv

def kE ask:=kk tok mixed Tryz.func156 [iv ask] (fun x=>.fL [iv x.1,bv x.2]) true (qW ask) (xm ask) (u0 (KA ask))
def qX (r:ah) (forum:Int) (c_:fw):Sk ((List Int)) :=
 .r 1 (.p (bG c_.sign c_.file.af.length)) fun _ =>
 .br ((((decide (((c_.file.af.getD c_.sign.toNat default).dt) < 0))||(decide (((c_.file.af.getD c_.sign.toNat default).dt)≥((r.bm.length:Nat):Int))))||(decide (forum < 0)))||(decide (forum≥((r.aE.length:Nat):Int))))
 (.fin [])
 (.r 4 (.aq (.o [.fU (mkC eA 5 0)]) (.p (VC (5:Int) 8))) fun _ =>
 .r 5 (.aq (.p (bG (0:Int) ((List.replicate 5 (0:Int)).length))) (.aq (.o [.fU (vU eA (List.replicate 5 (0:Int)) 0 forum)]) (.p (0 < (List.replicate 5 (0:Int)).length)))) fun _ =>
 .wn 42 (List.replicate 5 (0:Int)).length ((List.replicate 5 (0:Int)).set 0 forum).length <|
 .r 6 (.o9 ((cI r ((c_.file.af.getD c_.sign.toNat default).bZ)).c) fun x1=>.aq (.p (bG (1:Int) (((List.replicate 5 (0:Int)).set 0 forum).length))) (.aq (.o [.fU (vU eA ((List.replicate 5 (0:Int)).set 0 forum) 1 x1)]) (.p (1 < ((List.replicate 5 (0:Int)).set 0 forum).length)))) fun x1 =>
 .wn 42 ((List.replicate 5 (0:Int)).set 0 forum).length (((List.replicate 5 (0:Int)).set 0 forum).set 1 x1).length <|
 .r 7 (.o9 ((cI r c_.file.aR.yo).c) fun x2=>.aq (.p (bG (2:Int) ((((List.replicate 5 (0:Int)).set 0 forum).set 1 x1).length))) (.aq (.o [.fU (vU eA (((List.replicate 5 (0:Int)).set 0 forum).set 1 x1) 2 x2)]) (.p (2 < (((List.replicate 5 (0:Int)).set 0 forum).set 1 x1).length)))) fun x2 =>
 .wn 42 (((List.replicate 5 (0:Int)).set 0 forum).set 1 x1).length ((((List.replicate 5 (0:Int)).set 0 forum).set 1 x1).set 2 x2).length <|
 .r 8 (.o9 ((cI r c_.file.aR.bZ).c) fun x3=>.aq (.p (bG (3:Int) (((((List.replicate 5 (0:Int)).set 0 forum).set 1 x1).set 2 x2).length))) (.aq (.o [.fU (vU eA ((((List.replicate 5 (0:Int)).set 0 forum).set 1 x1).set 2 x2) 3 x3)]) (.p (3 < ((((List.replicate 5 (0:Int)).set 0 forum).set 1 x1).set 2 x2).length)))) fun x3 =>
 .wn 42 ((((List.replicate 5 (0:Int)).set 0 forum).set 1 x1).set 2 x2).length (((((List.replicate 5 (0:Int)).set 0 forum).set 1 x1).set 2 x2).set 3 x3).length <|
 .r 9 (.aq (.p (bG ((c_.file.af.getD c_.sign.toNat default).dt) r.bm.length)) (.o9 ((cI r ((r.bm.getD (((c_.file.af.getD c_.sign.toNat default).dt).toNat) default).bZ)).c) fun x4=>.aq (.p (bG (4:Int) ((((((List.replicate 5 (0:Int)).set 0 forum).set 1 x1).set 2 x2).set 3 x3).length))) (.aq (.o [.fU (vU eA (((((List.replicate 5 (0:Int)).set 0 forum).set 1 x1).set 2 x2).set 3 x3) 4 x4)]) (.p (4 < (((((List.replicate 5 (0:Int)).set 0 forum).set 1 x1).set 2 x2).set 3 x3).length))))) fun x4 =>
 .wn 42 (((((List.replicate 5 (0:Int)).set 0 forum).set 1 x1).set 2 x2).set 3 x3).length ((((((List.replicate 5 (0:Int)).set 0 forum).set 1 x1).set 2 x2).set 3 x3).set 4 x4).length <|
 .r 10 ((aJ ((((((List.replicate 5 (0:Int)).set 0 forum).set 1 x1).set 2 x2).set 3 x3).set 4 x4) (-1)).c) fun x5 =>
 .br x5
 (.fin [])
 (.fin ((((((List.replicate 5 (0:Int)).set 0 forum).set 1 x1).set 2 x2).set 3 x3).set 4 x4)))
def qz r forum c_:=(qX r forum c_).val
theorem KB (r:ah) (forum:Int) (c_:fw) (hs:0≤c_.sign∧c_.sign < c_.file.af.length):(qX r forum c_).bz (fun _=>True):=by
  unfold qX
  try simp only [cI,aJ]
  exact oj

def xn r forum c_:=kk tok mixed Tryz.func157 [av r.cells,iv forum,av c_.cells] (fun x=>.d (bif x.isEmpty then .v (.slice none 0 0) else mW bU x)) false (qX r forum c_) (qz r forum c_) (KB r forum c_)
def jP (o:Int) (v:Int):Sk (Bool) :=
 .fin ((decide (o < 0))||(decide (o≥v)))
def eF o v:=(jP o v).val
theorem nc (o:Int) (v:Int):eF o v=((decide (o < 0))||(decide (o≥v))):=rfl
theorem AB (o:Int) (v:Int):(jP o v).bz (fun _=>True):=by
  unfold jP
  exact pv

def oo o v:=kk tok mixed Tryz.func220 [iv o,.ref [dI v]] (fun x=>bv x) true (jP o v) (eF o v) (u0 (AB o v))
def eG (s:List Int) (v:Int):Sk (Int) :=
 .bind true (fun b1=>∀ q,q < s.length→eF (s.getD q default) v=false)
 (.loop (default:Sum (Int) (Unit)) (fun i2=>∀ q,q < i2→eF (s.getD q default) v=false) (fun i2=>s.length - i2) (0:Nat)
 (fun (i2:Nat)=>⟨[(8,iv ((i2:Nat):Int))],[]⟩) fun i2 =>
 .lt 0 0 i2 s.length
 (.r 4 (.aq (.p (bG ((i2:Nat):Int) s.length)) ((oo (s.getD i2 default) v).c)) fun x3 =>
 .br x3
 (.fin (.inl (.inl ((i2:Nat):Int))))
 (.nx 6 8 i2 (i2+1)))
 (.fin (.inl (.inr ()))))
 (fun (_:Unit)=>⟨[],[]⟩) fun _ =>
 .fin (-1)
def zi s v:=(eG s v).val
theorem vi (s:List Int) (v:Int):(eG s v).cZ (fun (x:Int)=>(x = -1∧∀ q,q < s.length→eF (s.getD q default) v=false)∨(0≤x∧x < s.length∧eF (s.getD x.toNat default) v=true∧∀ q,(q:Nat) < x.toNat→eF (s.getD q default) v=false)):=by
  unfold eG
  try simp only [oo,nc]
  exact RW

theorem v8 (s:List Int) (v:Int):(eG s v).bz (fun _=>True):=by
  unfold eG
  try simp only [oo,nc]
  exact yn

def kF s v:=kp tok mixed Tryz.func235 [lv bU s,.fn 220 [.ref [dI v]]] (fun x=>iv x) true (zi s v) (u0 (v8 s v)) (vi s v)
def dm (s:List Int) (v:Int):Sk (Bool) :=
 .r 1 ((kF s v).c) fun x1 =>
 .fin (decide (x1≥0))
def wa s v:=(dm s v).val
theorem sW (s:List Int) (v:Int):(dm s v).cZ (fun (x:Bool)=>(x=true↔∃ q,q < s.length∧eF (s.getD q default) v=true)):=by
  unfold dm
  try simp only [kF]
  exact DE

theorem tT (s:List Int) (v:Int):(dm s v).bz (fun _=>True):=by
  unfold dm
  try simp only [kF]
  exact pv

def fD s v:=kp tok mixed Tryz.func219 [lv bU s,.fn 220 [.ref [dI v]]] (fun x=>bv x) true (wa s v) (u0 (tT s v)) (sW s v)
def gR (r:ah) (order:Int) (ask:Int) (places:List Int):Sk (Bool) :=
 .br (((((decide (order < 0))||(decide (order≥((r.aE.length:Nat):Int))))||(decide (ask < 0)))||(decide (ask≥22)))||(((places.length:Nat):Int) != 5))
 (.fin false)
 (.r 4 ((fD places ((r.aE.length:Nat):Int)).c) fun x1 =>
 .fin (!x1))
def nw r order ask places:=(gR r order ask places).val
theorem CR (r:ah) (order:Int) (ask:Int) (places:List Int):(gR r order ask places).cZ (fun (x:Bool)=>x=true→0≤order∧order < r.aE.length∧places.length=5∧∀ i,i < 5→0≤places.getD i default∧places.getD i default < r.aE.length):=by
  refine Sk.bp _ ?_
  unfold gR
  simp only [Sk.cV,Sk.aO,reduceCtorEq,ON,kk,kp,fD,maxLen]
  all_goals (repeat' first | (apply And.intro) | (intro h))
  all_goals first | trivial | (simp at *; done) | (simp only [LN] at *; omega) | (simp only [LN] at *; grind [nc])

theorem Ei (r:ah) (order:Int) (ask:Int) (places:List Int):(gR r order ask places).bz (fun _=>True):=by
  unfold gR
  try simp only [fD]
  exact pv

def iO r order ask places:=kp tok mixed Tryz.func196 [av r.cells,iv order,iv ask,lv bU places] (fun x=>bv x) true (nw r order ask places) (u0 (Ei r order ask places)) (CR r order ask places)
def jf (r:ah) (order:Int) (ask:Int) (places:List Int):Sk (Int × Bool) :=
 .r 1 ((iO r order ask places).c) fun x1 =>
 .br (!x1)
 (.fin ((-1),false))
 (.r 3 (.p (bG order r.aE.length)) fun _ =>
 .bt
 (.loop (default:Sum (Int × Bool) (Unit)) (fun i3=>i3≤((r.aE.getD order.toNat default).aV).length) (fun i3=>((r.aE.getD order.toNat default).aV).length - i3) (0:Nat)
 (fun (i3:Nat)=>⟨[(25,iv ((i3:Nat):Int))],[]⟩) fun i3 =>
 .lt 23 0 i3 (((r.aE.getD order.toNat default).aV).length)
 (.r 5 (.p (bG ((i3:Nat):Int) (((r.aE.getD order.toNat default).aV).length))) fun _ =>
 .br ((((((r.aE.getD order.toNat default).aV).getD i3 default).ask) == ask)&&(((((r.aE.getD order.toNat default).aV).getD i3 default).cz) != 0))
 (.r 7 (.p (bG ((((r.aE.getD order.toNat default).aV).getD i3 default).cz) places.length)) fun _ =>
 .fin (.inl (.inl (places.getD (((((r.aE.getD order.toNat default).aV).getD i3 default).cz).toNat) default,(((r.aE.getD order.toNat default).aV).getD i3 default).whole))))
 (.nx 8 25 i3 (i3+1)))
 (.fin (.inl (.inr ()))))
 (fun (_:Unit)=>⟨[],[]⟩) fun _ =>
 .fin (order,false))
def Ir r order ask places:=(jf r order ask places).val
theorem LC {l:List Int} {n:Nat} (h0:0 < n) (h:∀ i,i < 5→0≤l.getD i default∧l.getD i default < n) (hl:l.length=5) (k:Nat):0≤l.getD k default∧l.getD k default < n:=by
  by_cases c:k < 5
  · exact h k c
  · have:l.getD k default=0:=by simp [List.getD,List.getElem?_eq_none (by omega:l.length≤k)]
    rw [this]; omega
theorem sB {r:ah} {a b ask:Int} {places:List Int} (h:nw r a ask places=true) (hb:0≤b∧b < r.aE.length):nw r b ask places=true:=by
  simp only [nw,gR,Sk.val,gn.c,kk,kp,fD] at h ⊢
  revert h
  simp only [Bool.cond_eq_ite]
  split
  · intro h; cases h
  · rename_i h1
    intro h
    rw [if_neg]
    · exact h
    · simp only [Bool.or_eq_true,decide_eq_true_eq,not_or] at h1 ⊢
      exact ⟨⟨⟨⟨by omega,by omega⟩,h1.1.1.2⟩,h1.1.2⟩,h1.2⟩
theorem BD (r:ah) (order:Int) (ask:Int) (places:List Int):(jf r order ask places).cZ (fun (x:Int × Bool)=>nw r order ask places=true→0≤x.1∧x.1 < r.aE.length):=by
  refine Sk.bp _ ?_
  unfold jf
  simp only [Sk.cV,Sk.aO,reduceCtorEq,ON,kk,kp,iO,ah.cG,maxLen]
  all_goals (repeat' first | (apply And.intro) | (intro h))
  all_goals first | trivial | omega | (simp only [LN] at *; first | omega | (exact (LC (n:=r.aE.length) (by grind) (by grind) (by grind) _).1) | (exact (LC (n:=r.aE.length) (by grind) (by grind) (by grind) _).2) | grind)

theorem CS (r:ah) (order:Int) (ask:Int) (places:List Int) (hb:r.cG):(jf r order ask places).bz (fun _=>True):=by
  simp only [ah.cG] at hb
  unfold jf
  try simp only [iO,ah.cG]
  exact oj

def qA r order ask places:=kp tok mixed Tryz.func197 [av r.cells,iv order,iv ask,lv bU places] (fun x=>.fL [iv x.1,bv x.2]) true (Ir r order ask places) (CS r order ask places) (BD r order ask places)
def pF (n:Nat) (l:List Int):Prop:=l.length≠0∧l.Nodup∧∀ x,x∈l→0≤x∧x < n
theorem pF.le {n:Nat} {l:List Int} (h:pF n l):l.length≤n:=by
  have h1:=List.Nodup.length_le_of_subset (l₁:=l) (l₂:=(List.range n).map Int.ofNat) h.2.1 (fun x hx=>by
    have:=h.2.2 x hx
    exact List.mem_map.2 ⟨x.toNat,List.mem_range.2 (by omega),by simp; omega⟩)
  simpa using h1
theorem pF.get {n:Nat} {l:List Int} (h:pF n l) (k:Nat):0≤l.getD k default∧l.getD k default < n:=by
  by_cases hk:k < l.length
  · have e:l.getD k default=l[k]:=by simp [List.getD,hk]
    rw [e]
    exact h.2.2 _ (List.getElem_mem hk)
  · have e:l.getD k default=0:=by simp [List.getD,List.getElem?_eq_none (by omega:l.length≤k)]
    have:=h.le
    have:=h.1
    rw [e]
    omega
theorem pF.ZV {n:Nat} {l:List Int} (h:pF n l) {x:Int} (hx:0≤x∧x < n):∀ y,y∈l++[x]→0≤y∧y < n:=fun y hy=>by
  rcases List.mem_append.1 hy with h1 | h1
  · exact h.2.2 y h1
  · simp only [List.mem_singleton] at h1; subst h1; exact hx
theorem pF.snoc {n:Nat} {l:List Int} (h:pF n l) {x:Int} (hx:0≤x∧x < n) (hn:¬ ∃ q,q < l.length∧(l.getD q default == x)=true):pF n (l++[x]):=by
  refine ⟨by simp,?_,h.ZV hx⟩
  refine List.nodup_append.2 ⟨h.2.1,by simp,fun a ha b hb e=>?_⟩
  simp only [List.mem_singleton] at hb
  subst hb; subst e
  obtain ⟨q,hq,e⟩:=List.getElem_of_mem ha
  exact hn ⟨q,hq,by simp [List.getD,hq,e]⟩
theorem pF.one {n:Nat} {x:Int} (hx:0≤x∧x < n):pF n [x]:=⟨by simp,by simp,fun y hy=>by simp only [List.mem_singleton] at hy; subst hy; exact hx⟩
def kR (r:ah) (forum:Int) (ask:Int) (places:List Int):Sk ((List Int) × Int) :=
 .r 1 (.o9 ((iO r forum ask places).c) fun x1=>.wh (!x1) false (.p (bG (0:Int) places.length))) fun x1 =>
 .br ((!x1)||((places.getD 0 default) != forum))
 (.fin ([],1))
 (.r 3 (.o [.fU (gB eA [forum])]) fun _ =>
 .loop (default:(List Int) × Int) (fun i2=>pF r.aE.length i2) (fun i2=>r.aE.length+1 - i2.length) ([forum]:(List Int))
 (fun (i2:(List Int))=>⟨[(10,ow 100001 i2)],[(100001,bO 3 1 bU i2)]⟩) fun i2 =>
 .r 4 (.aq (.p (bG (au (((i2.length:Nat):Int) - 1)) i2.length)) (.p ((au (((i2.length:Nat):Int) - 1)).toNat < i2.length))) fun _ =>
 .r 5 ((qA r (i2.getD ((au (((i2.length:Nat):Int) - 1)).toNat) default) ask places).c) fun x3 =>
 .br (x3.1 == (i2.getD ((au (((i2.length:Nat):Int) - 1)).toNat) default))
 (.fin (.inl (i2,0)))
 (.r 8 ((aJ i2 x3.1).c) fun x4 =>
 .r 9 (.aq (.o [.fU (gB eA [x3.1])]) (.aq (.o [.fU (og eA i2 [x3.1])]) (.aq (.t (eA.qc [x3.1])) (.p (ym i2.length [x3.1].length 8))))) fun _ =>
 .r 10 (.wh (!x3.2) false (.wh x4 true (.p (bG x3.1 r.aE.length)))) fun _ =>
 .br ((!x3.2)||(x4&&((r.aE.getD x3.1.toNat default).GK)))
 (.fin (.inl (i2++[x3.1],0)))
 (.br x4
 (.fin (.inl (i2++[x3.1],12)))
 (.fin (.inr (i2++[x3.1]))))))
def xo r forum ask places:=(kR r forum ask places).val
theorem Ej (r:ah) (forum:Int) (ask:Int) (places:List Int):(kR r forum ask places).cZ (fun (x:(List Int) × Int)=>x.2=0→x.1.length≠0∧(∀ y,y∈x.1→0≤y∧y < r.aE.length)∧x.1.length≤r.aE.length+1):=by
  refine Sk.bp _ ?_
  unfold kR
  simp only [Sk.cV,Sk.aO,reduceCtorEq,ON,kk,kp,qA,iO,aJ,al.Small,ah.Small,ah.cG,maxLen]
  intro x hx hp
  refine ⟨fun _ h=>by omega,fun hc _=>?_⟩
  have JT:x=true:=by simp at hc; exact hc.1
  obtain ⟨h1,h2,h3,h4⟩:=hp JT
  refine ⟨pF.one ⟨h1,h2⟩,fun i hi _ y hy hy2=>?_⟩
  have hy3:=hy2 (sB (hx ▸ JT) (hi.get _))
  have hle:=hi.le
  refine ⟨fun _=>⟨hi.1,hi.2.2,by omega⟩,fun _ z hz hz2 _ _=>⟨fun _=>⟨by simp,hi.ZV hy3,by simp; omega⟩,fun _=>⟨fun _ h=>by omega,fun hz3=>?_⟩⟩⟩
  have hs:=hi.snoc hy3 (by rw [← hz2,hz3]; simp)
  have:=hs.le
  simp only [List.length_append,List.length_cons,List.length_nil] at this ⊢
  exact ⟨hs,by omega⟩

theorem FI (r:ah) (forum:Int) (ask:Int) (places:List Int) (hb:r.cG) (hr:r.Small):(kR r forum ask places).bz (fun _=>True):=by
  simp only [al.Small,ah.Small,ah.cG] at hb
  simp only [al.Small,ah.Small,ah.cG] at hr
  refine Sk.aX _ ?_
  unfold kR
  simp only [Sk.kq,Sk.aO,reduceCtorEq,ON,kk,kp,qA,iO,aJ,al.Small,ah.Small,ah.cG,maxLen]
  refine ⟨fun x hx hp JT=>?_,fun x hx hp hc _=>?_⟩
  · have:=hp (by simpa using JT); omega
  have JT:x=true:=by simp at hc; exact hc.1
  obtain ⟨h1,h2,h3,h4⟩:=hp JT
  refine ⟨pF.one ⟨h1,h2⟩,fun i hi=>?_⟩
  have hle:=hi.le
  have xN:=hi.1
  have hw:au ((i.length:Int) - 1)=(i.length:Int) - 1:=aG (by omega) (by omega)
  rw [hw]
  refine ⟨⟨⟨by omega,by omega⟩,by omega⟩,fun _=>⟨hb,fun y hy hy2 ae3 z hz hz2=>?_⟩⟩
  have hy3:=hy2 (sB (hx ▸ JT) (hi.get _))
  refine ⟨⟨by simp only [List.length_cons,List.length_nil]; omega,by simp only [List.length_cons,List.length_nil]; omega⟩,fun _=>⟨fun _ _=>hy3,fun _ _ hz3=>?_⟩⟩
  have hs:=hi.snoc hy3 (by rw [← hz2,hz3]; simp)
  have:=hs.le
  simp only [List.length_append,List.length_cons,List.length_nil] at this ⊢
  exact ⟨hs,by omega⟩

def tU r forum ask places:=kp tok mixed Tryz.func158 [av r.cells,iv forum,iv ask,lv bU places] (fun x=>.fL [lv bU x.1,iv x.2]) false (xo r forum ask places) (u2 (FI r forum ask places)) (Ej r forum ask places)
theorem TM {n:Nat} {l:List Int} (h1:l.length≠0) (h2:∀ y,y∈l→0≤y∧y < (n:Int)) (k:Nat):0≤l.getD k default∧l.getD k default < n:=by
  by_cases hk:k < l.length
  · have e:l.getD k default=l[k]:=by simp [List.getD,hk]
    rw [e]
    exact h2 _ (List.getElem_mem hk)
  · have e:l.getD k default=0:=by simp [List.getD,List.getElem?_eq_none (by omega:l.length≤k)]
    have h3:=h2 l[0] (List.getElem_mem (by omega))
    rw [e]
    omega
def rM (r:ah) (forum:Int) (aU:Int) (c_:fw):Sk (lW × (List aH)) :=
 .r 2 ((Ip r c_).c) fun x1 =>
 .br (((x1.2.length:Nat):Int) == 0)
 (.fin (({ cell:=({ known:=false,n:=0 }:aH),order:=(-1),path:=[],err:=1 }:lW),[]))
 (.r 5 ((kE aU).c) fun x2 =>
 .br (!x2.2)
 (.fin (({ cell:=({ known:=false,n:=0 }:aH),order:=(-1),path:=[],err:=1 }:lW),[]))
 (.r 8 ((xn r forum x1.1).c) fun x3 =>
 .Tm 14 x3.isEmpty nv (lv bU x3)
 (.JU <|
 .fin (({ cell:=({ known:=false,n:=0 }:aH),order:=(-1),path:=[],err:=1 }:lW),[]))
 (.r 9 (.p (x3.length≠0)) fun _ =>
 .JV <|
 .r 11 ((tU r forum aU x3).c) fun x4 =>
 .br (x4.2 == 0)
 (.r 13 (.p (bG (au (((x4.1.length:Nat):Int) - 1)) x4.1.length)) fun _ =>
 .fin (({ cell:=({ known:=false,n:=0 }:aH),order:=x4.1.getD ((au (((x4.1.length:Nat):Int) - 1)).toNat) default,path:=x4.1,err:=x4.2 }:lW),x1.2))
 (.fin (({ cell:=({ known:=false,n:=0 }:aH),order:=(-1),path:=x4.1,err:=x4.2 }:lW),x1.2)))))
def ny r forum aU c_:=(rM r forum aU c_).val
theorem M0 (r:ah) (forum:Int) (aU:Int) (c_:fw):(rM r forum aU c_).cZ (fun (x:lW × (List aH))=>x.1.order = -1∨(0≤x.1.order∧x.1.order < r.aE.length∧x.2.length=20)):=by
  refine Sk.bp _ ?_
  unfold rM
  simp only [Sk.cV,Sk.aO,reduceCtorEq,ON,kk,kp,Ip,xn,tU,kE,al.Small,ah.Small,ah.cG,maxLen]
  intro x hx hp
  refine ⟨fun _=>.inl trivial,fun hc x1 _=>⟨fun _=>.inl trivial,fun _ x2 _=>⟨fun _=>.inl trivial,fun _ _ x4 _ hl=>⟨fun h0 _=>.inr ?_,fun _=>.inl trivial⟩⟩⟩⟩
  obtain ⟨h1,h2,h3⟩:=hl (by simpa using h0)
  have h20:x.2.length=20:=by
    rcases hp with h | h
    · rw [h] at hc; simp at hc
    · exact h.1
  exact ⟨(TM h1 h2 _).1,(TM h1 h2 _).2,h20⟩

theorem P4 (r:ah) (forum:Int) (aU:Int) (c_:fw) (hf:c_.file.Small) (hb:r.cG) (hr:r.Small):(rM r forum aU c_).bz (fun _=>True):=by
  simp only [al.Small,ah.Small,ah.cG] at hf
  simp only [al.Small,ah.Small,ah.cG] at hb
  simp only [al.Small,ah.Small,ah.cG] at hr
  refine Sk.aX _ ?_
  unfold rM
  simp only [Sk.kq,Sk.aO,reduceCtorEq,ON,kk,kp,Ip,xn,tU,kE,al.Small,ah.Small,ah.cG,maxLen]
  refine ⟨hf,fun x hx hp hc x1 _ _=>?_⟩
  have Yg:x.2.length=20∧0≤x.1.sign∧x.1.sign < x.1.file.af.length:=by
    rcases hp with h | h
    · rw [h] at hc; simp at hc
    · exact h
  refine ⟨Yg.2,fun x2 _ he=>⟨fun h=>by simp [List.length_eq_zero_iff.1 h] at he,fun _=>⟨⟨hb,hr⟩,fun x4 _ hl h0=>?_⟩⟩⟩
  obtain ⟨h1,h2,h3⟩:=hl (by simpa using h0)
  rw [aG (by omega) (by omega)]
  omega

def Iu r forum aU c_:=kp tok mixed Tryz.func120 [av r.cells,iv forum,iv aU,av c_.cells] (fun x=>.fL [av x.1.cells,lv aH.cells x.2]) false (ny r forum aU c_) (u3 (P4 r forum aU c_)) (M0 r forum aU c_)
def mH (r:tL) (v:Int):Sk (Bool) :=
 .fin (r.ask == v)
def jF r v:=(mH r v).val
theorem wb (r:tL) (v:Int):jF r v=(r.ask == v):=rfl
theorem Ek (r:tL) (v:Int):(mH r v).bz (fun _=>True):=by
  unfold mH
  exact pv

def sb r v:=kk tok mixed Tryz.func199 [av r.cells,.ref [dI v]] (fun x=>bv x) true (mH r v) (jF r v) (u0 (Ek r v))
def eH (s:List tL) (v:Int):Sk (Int) :=
 .bind true (fun b1=>∀ q,q < s.length→jF (s.getD q default) v=false)
 (.loop (default:Sum (Int) (Unit)) (fun i2=>∀ q,q < i2→jF (s.getD q default) v=false) (fun i2=>s.length - i2) (0:Nat)
 (fun (i2:Nat)=>⟨[(8,iv ((i2:Nat):Int))],[]⟩) fun i2 =>
 .lt 0 0 i2 s.length
 (.r 4 (.aq (.p (bG ((i2:Nat):Int) s.length)) ((sb (s.getD i2 default) v).c)) fun x3 =>
 .br x3
 (.fin (.inl (.inl ((i2:Nat):Int))))
 (.nx 6 8 i2 (i2+1)))
 (.fin (.inl (.inr ()))))
 (fun (_:Unit)=>⟨[],[]⟩) fun _ =>
 .fin (-1)
def zk s v:=(eH s v).val
theorem vj (s:List tL) (v:Int):(eH s v).cZ (fun (x:Int)=>(x = -1∧∀ q,q < s.length→jF (s.getD q default) v=false)∨(0≤x∧x < s.length∧jF (s.getD x.toNat default) v=true∧∀ q,(q:Nat) < x.toNat→jF (s.getD q default) v=false)):=by
  unfold eH
  try simp only [sb,wb]
  exact RW

theorem we (s:List tL) (v:Int):(eH s v).bz (fun _=>True):=by
  unfold eH
  try simp only [sb,wb]
  exact yn

def pG s v:=kp tok mixed Tryz.func198 [lv tL.cells s,.fn 199 [.ref [dI v]]] (fun x=>iv x) true (zk s v) (u0 (we s v)) (vj s v)
def sc (rv:Term→Int→Int) (rp:Term→Int→Prop) (rf:∀ (t:Term) (level:Int),rp t level→gu Tryz.prog 221 [av t.cells,iv level] [] (iv (rv t level)) []) (t:Term) (level:Int):gn (Int):=⟨Tryz.prog,221,[av t.cells,iv level],fun x=>iv x,true,rv t level,rp t level,rf t level,fun _=>True,trivial⟩
def en (rv:Term→Int→Int) (rp:Term→Int→Prop) (rf:∀ (t:Term) (level:Int),rp t level→gu Tryz.prog 221 [av t.cells,iv level] [] (iv (rv t level)) []) (t:Term) (level:Int):Sk (Int) :=
 .br (decide (level > 8))
 (.fin 61)
 (.bind true (fun b1=>∀ B:Int,1≤B→B≤1000000→(∀ q,q < t.args.length→1≤rv (t.args.getD q default) (au (level+1))∧rv (t.args.getD q default) (au (level+1))≤B)→(1:Int)≤b1∧b1≤60+B∧(b1≤60→t.args.length≤60∧∀ q,q < t.args.length→rv (t.args.getD q default) (au (level+1))≤60))
 (.loop (default:Sum (Int) (Int)) (fun i2=>i2.2≤t.args.length∧(∀ B:Int,1≤B→B≤1000000→(∀ q,q < t.args.length→1≤rv (t.args.getD q default) (au (level+1))∧rv (t.args.getD q default) (au (level+1))≤B)→(1+(i2.2:Int))≤i2.1∧i2.1≤60∧∀ q,q < i2.2→rv (t.args.getD q default) (au (level+1))≤60)) (fun i2=>t.args.length - i2.2) ((1,0):Int × Nat)
 (fun (i2:Int × Nat)=>⟨[(5,iv i2.1),(13,iv ((i2.2:Nat):Int))],[]⟩) fun i2 =>
 .lt 11 0 i2.2 t.args.length
 (.r 6 (.aq (.p (bG ((i2.2:Nat):Int) t.args.length)) (.o [.cast 15 (YR (Term.HT (t.args.getD i2.2 default)))])) fun _ =>
 .r 7 ((sc rv rp rf (t.args.getD i2.2 default) (au (level+1))).c) fun x3 =>
 .br (decide ((au (i2.1+x3)) > 60))
 (.fin (.inl (.inr (au (i2.1+x3)))))
 (.nx 9 13 i2.2 (au (i2.1+x3),i2.2+1)))
 (.fin (.inl (.inr i2.1))))
 (fun (b1:Int)=>⟨[(5,iv b1)],[]⟩) fun b1 =>
 .fin b1)
def bI:Nat→Term→Int→Int
  | 0,_,_=>default
  | fu+1,t,level=>(en (bI fu) (fun _ _=>False) (fun _ _=>fun h=>h.elim) t level).val
/-- no node has too many parts -/
inductive El:Term→Prop
  | mk {t:Term} (h:t.args.length≤60) (h2:∀ q,q < t.args.length→El (t.args.getD q default)):El t
theorem FJ (fu:Nat) (rf:∀ (t:Term) (level:Int),t.depth≤fu∧True→gu Tryz.prog 221 [av t.cells,iv level] [] (iv (bI fu t level)) []) (t:Term) (level:Int) (hm:t.depth≤fu+1):(en (bI fu) (fun t level=>t.depth≤fu∧True) rf t level).bz (fun _=>True):=by
  refine Sk.aX _ ?_
  unfold en
  simp only [Sk.kq,Sk.aO,reduceCtorEq,ON,kk,kp,sc,maxLen]
  intro Sd
  have Sd:level≤8:=by simp only [LN] at Sd; exact Sd
  refine ⟨⟨Nat.zero_le _,fun B _ _ _=>⟨by omega,by omega,fun q hq=>absurd hq (by omega)⟩⟩,fun i hi hlen=>⟨fun hc=>⟨⟨by omega,of_decide_eq_true hc⟩,fun _=>⟨?_,fun x hx=>⟨fun hb B b1 b2 hq=>?_,fun hb _=>⟨?_,⟨?_,fun B b1 b2 hq=>?_⟩,?_⟩⟩⟩⟩,fun hc B b1 b2 hq=>?_⟩⟩
  all_goals (try simp only [LN] at hc)
  all_goals (try simp only [LN] at hb)
  · have:=t.kB i.2 (by omega); omega
  · subst hx
    have q1:=hi.2 B b1 b2 hq
    have q2:=hq i.2 (by omega)
    rw [aG (n:=i.1+_) (by omega) (by omega)] at hb ⊢
    exact ⟨by omega,by omega,fun h=>by omega⟩
  · exact aG (by omega) (by omega)
  · omega
  · subst hx
    have q1:=hi.2 B b1 b2 hq
    have q2:=hq i.2 (by omega)
    rw [aG (n:=i.1+_) (by omega) (by omega)] at hb ⊢
    refine ⟨by omega,by omega,fun q Y2=>?_⟩
    by_cases e:q=i.2
    · subst e; omega
    · exact q1.2.2 q (by omega)
  · omega
  · have q1:=hi.2 B b1 b2 hq
    exact ⟨by omega,by omega,fun _=>⟨by omega,fun q Y2=>q1.2.2 q (by omega)⟩⟩

theorem Em (fu:Nat) (rp:Term→Int→Prop) (rf:∀ (t:Term) (level:Int),rp t level→gu Tryz.prog 221 [av t.cells,iv level] [] (iv (bI fu t level)) []) (t:Term) (level:Int):(en (bI fu) rp rf t level).val=bI (fu+1) t level:=by kernel_rfl
theorem Eo (fu:Nat):∀ (t:Term) (level:Int),t.depth≤fu→gu Tryz.prog 221 [av t.cells,iv level] [] (iv (bI fu t level)) []:=by
  induction fu with
  | zero=>intro t level hm; exact absurd hm (by have:=Term.tu t; omega)
  | succ fu ih =>
    intro t level hm
    have h:gu Tryz.prog 221 [av t.cells,iv level] [] (iv ((en (bI fu) (fun t level=>t.depth≤fu∧True) (fun t level h=>ih t level h.1) t level).val)) []:=gu.sk tok mixed (fun x=>iv x) (fun _=>[]) Tryz.func221 rfl (by kernel_rfl) 3000 (en (bI fu) (fun t level=>t.depth≤fu∧True) (fun t level h=>ih t level h.1) t level) (by kernel_rfl) (FJ fu _ t level hm)
    rw [Em] at h
    exact h
def CU (t:Term) (level:Int):Int:=bI (t.depth) t level
theorem FK (t:Term) (level:Int):gu Tryz.prog 221 [av t.cells,iv level] [] (iv (CU t level)) []:=Eo _ t level (Nat.le_refl _)
def tV (t:Term) (level:Int):gn (Int):=⟨Tryz.prog,221,[av t.cells,iv level],fun x=>iv x,true,CU t level,True,fun _=>FK t level,fun _=>True,trivial⟩
theorem Term.LD {B:Nat}:∀ (l:List Term),(∀ q,q < l.length→(l.getD q default).depth≤B)→Term.eR l≤B
  | [],_=>by simp [Term.eR]
  | x :: r,h=>by
    have h0:=h 0 (by simp)
    have:=Term.LD r (fun q hq=>by simpa using h (q+1) (by simpa using hq))
    simp only [Term.eR]
    simp at h0
    omega

theorem sf:∀ (fu:Nat) (t:Term) (level:Int),t.depth≤fu→1≤level→level≤9→1≤bI fu t level∧bI fu t level≤61+60 * (9 - level)∧(bI fu t level≤60→t.depth+level≤9)∧(bI fu t level≤60→El t)
  | 0,t,_,hd,_,_=>absurd hd (by have:=t.tu; omega)
  | fu+1,t,level,hd,h1,h9=>by
    have ih:=sf fu
    have key:bI (fu+1) t level=(en (bI fu) (fun _ _=>False) (fun _ _ h=>h.elim) t level).val:=rfl
    rw [key]
    refine Sk.de (en (bI fu) (fun _ _=>False) (fun _ _ h=>h.elim) t level) (L:=fun x=>1≤x∧x≤61+60 * (9 - level)∧(x≤60→t.depth+level≤9)∧(x≤60→El t)) (Sk.bp _ ?_)
    have hw:au (level+1)=level+1:=aG (by omega) (by omega)
    unfold en
    simp only [Sk.cV,Sk.aO,reduceCtorEq,false_implies,qg,gJ,bg.z,bg.p,bg.t,bg.pt,bg.o,bg.and,bg.aq,bg.CA,bg.wh,bg.dep,bg.o9,gn.c,kk,kp,gn.nil,gn.CB,iY.c,iY.nil,sc,implies_true,true_and,and_true,and_self,true_implies,forall_eq,forall_const,hw]
    refine ⟨fun h=>⟨by omega,by omega,fun h=>by omega,fun h=>by omega⟩,fun Sd=>?_⟩
    have Sd:level≤8:=by simp only [LN] at Sd; exact Sd
    have hq:∀ q,q < t.args.length→1≤bI fu (t.args.getD q default) (level+1)∧bI fu (t.args.getD q default) (level+1)≤61+60 * (8 - level):=fun q hq=>by
      have:=ih (t.args.getD q default) (level+1) (by have:=t.kB q hq; omega) (by omega) (by omega)
      omega
    refine ⟨⟨⟨Nat.zero_le _,fun B _ _ _=>⟨by omega,by omega,fun q hq=>absurd hq (by omega)⟩⟩,fun i hi=>⟨fun hc=>⟨fun hb=>?_,fun hb=>⟨⟨?_,fun B b1 b2 hq=>?_⟩,?_⟩⟩,fun hc=>?_⟩⟩,fun b hb=>?_⟩
    all_goals (try simp only [LN] at hc)
    all_goals (try simp only [LN] at hb)
    · intro B b1 b2 hq
      have q1:=hi.2 B b1 b2 hq
      have q2:=hq i.2 (by omega)
      rw [aG (by omega) (by omega)] at hb ⊢
      exact ⟨by omega,by omega,fun h=>by omega⟩
    · omega
    · have q1:=hi.2 B b1 b2 hq
      have q2:=hq i.2 (by omega)
      rw [aG (by omega) (by omega)] at hb ⊢
      refine ⟨by omega,by omega,fun q Y2=>?_⟩
      by_cases e:q=i.2
      · subst e; omega
      · exact q1.2.2 q (by omega)
    · omega
    · intro B b1 b2 hq
      have q1:=hi.2 B b1 b2 hq
      exact ⟨by omega,by omega,fun _=>⟨by omega,fun q Y2=>q1.2.2 q (by omega)⟩⟩
    · have:=hb _ (by omega) (by omega) hq
      refine ⟨this.1,by omega,fun h60=>?_,fun h60=>.mk (this.2.2 h60).1 fun q Y2=>?_⟩
      · have q3:=(this.2.2 h60).2
        have:Term.eR t.args≤(8 - level).toNat:=Term.LD _ (fun q Y2=>by
          have:=(ih (t.args.getD q default) (level+1) (by have:=t.kB q Y2; omega) (by omega) (by omega)).2.2.1 (q3 q Y2)
          omega)
        have e:t.depth=Term.eR t.args+1:=by obtain ⟨_,_,_⟩:=t; rfl
        omega
      · exact (ih (t.args.getD q default) (level+1) (by have:=t.kB q Y2; omega) (by omega) (by omega)).2.2.2 ((this.2.2 h60).2 q Y2)
def uS (n:Int):Sk (Int) :=
 .fin (bL (cg n (-1099511627776)) 1099511627776)
def Iv n:=(uS n).val
theorem rN (n:Int):Iv n=(bL (cg n (-1099511627776)) 1099511627776):=rfl
theorem P5 (n:Int):(uS n).bz (fun _=>True):=by
  unfold uS
  exact pv

def jG n:=kk tok mixed Tryz.func240 [iv n] (fun x=>iv x) true (uS n) (Iv n) (u0 (P5 n))
def iP (v:Int):Sk (Int × Bool) :=
 .br ((decide (v < 0))||(decide (v > 19)))
 (.fin (0,false))
 (.br (decide (v < 7))
 (.fin (0,true))
 (.fin (1,true)))
def xp v:=(iP v).val
theorem FL (v:Int):(iP v).bz (fun _=>True):=by
  unfold iP
  exact pv

def j8 v:=kk tok mixed Tryz.func238 [iv v] (fun x=>.fL [iv x.1,bv x.2]) true (iP v) (xp v) (u0 (FL v))
def jg (t:Term):Sk (Int × Int) :=
 .br (decide (((t.args.length:Nat):Int) > 0))
 (.fin (0,2))
 (.br (t.op == 0)
 (.r 5 ((jG t.n).c) fun x1 =>
 .br (x1 != t.n)
 (.fin (0,3))
 (.fin (0,0)))
 (.br (t.op == 1)
 (.br ((decide (t.n < 0))||(decide (t.n > 1)))
 (.fin (0,3))
 (.fin (1,0)))
 (.r 12 ((j8 t.n).c) fun x2 =>
 .br (!x2.2)
 (.fin (0,10))
 (.fin (x2.1,0)))))
def oX t:=(jg t).val
theorem M1 (t:Term):(jg t).bz (fun _=>True):=by
  unfold jg
  try simp only [j8,jG,rN]
  exact yn

def zl t:=kk tok mixed Tryz.func236 [av t.cells] (fun x=>.fL [iv x.1,iv x.2]) true (jg t) (oX t) (u0 (M1 t))
structure Shape where
  args:List Int
  result:Int
  deriving Inhabited
def Shape.cells (c:Shape):List D:=[mW bU c.args,dI c.result]
def nJ (op:Int):Sk (Shape) :=
 .br (op == 3)
 (.r 3 (.o [.fU (gB eA [1])]) fun _ =>
 .fin ({ args:=[1],result:=1 }:Shape))
 (.bind false (fun _=>True)
 (.br (op == 4)
 (.fin (.inr (op == 4)))
 (.fin (.inr (op == 5))))
 (fun (b1:Bool)=>⟨[(8,bv b1)],[]⟩) fun b1 =>
 .br b1
 (.r 6 (.o [.fU (gB eA [1,1])]) fun _ =>
 .fin ({ args:=[1,1],result:=1 }:Shape))
 (.br (op == 6)
 (.r 8 (.o [.fU (gB eA [1,(-1),(-1)])]) fun _ =>
 .fin ({ args:=[1,(-1),(-1)],result:=(-1) }:Shape))
 (.br (op == 7)
 (.r 10 (.o [.fU (gB eA [0,0])]) fun _ =>
 .fin ({ args:=[0,0],result:=1 }:Shape))
 (.br (op == 8)
 (.r 12 (.o [.fU (gB eA [(-1),(-1)])]) fun _ =>
 .fin ({ args:=[(-1),(-1)],result:=1 }:Shape))
 (.r 13 (.o [.fU (gB eA [0,0])]) fun _ =>
 .fin ({ args:=[0,0],result:=0 }:Shape))))))
def ca op:=(nJ op).val
theorem FM (op:Int):(nJ op).bz (fun _=>True):=by
  unfold nJ
  exact pv

def tW op:=kk tok mixed Tryz.func237 [iv op] (fun x=>av x.cells) false (nJ op) (ca op) (u0 (FM op))
inductive vH:Term→Int→Prop
 | int {n:Int} (h : -1099511627776≤n∧n≤1099511627776):vH ⟨0,n,[]⟩ 0
 | bool {n:Int} (h:0≤n∧n≤1):vH ⟨1,n,[]⟩ 1
 | var {n:Int} (h:0≤n∧n≤19):vH ⟨2,n,[]⟩ (if n < 7 then 0 else 1)
 | not {a:Term}:vH a 1→vH ⟨3,0,[a]⟩ 1
 | Xb {op:Int} {a b:Term} (h:op=4∨op=5):vH a 1→vH b 1→vH ⟨op,0,[a,b]⟩ 1
 | ite {a b c:Term} {k:Int}:vH a 1→vH b k→vH c k→vH ⟨6,0,[a,b,c]⟩ k
 | less {a b:Term}:vH a 0→vH b 0→vH ⟨7,0,[a,b]⟩ 1
 | eq {a b:Term} {k:Int}:vH a k→vH b k→vH ⟨8,0,[a,b]⟩ 1
 | arith {op:Int} {a b:Term} (h:9≤op∧op≤13):vH a 0→vH b 0→vH ⟨op,0,[a,b]⟩ 0
theorem vH.kind {t:Term} {k:Int} (h:vH t k):k=0∨k=1:=by
 induction h with
 | var _=>split <;> simp
 | ite _ _ _ _ ih _=>exact ih
 | _=>simp
def vk (rv:Term→Int × Int) (rp:Term→Prop) (rf:∀ (t:Term),rp t→gu Tryz.prog 222 [av t.cells] [] (.fL [iv ((rv t).1),iv ((rv t).2)]) []) (t:Term):gn (Int × Int):=⟨Tryz.prog,222,[av t.cells],fun x=>.fL [iv x.1,iv x.2],true,rv t,rp t,rf t,fun _=>True,trivial⟩
def eT (rv:Term→Int × Int) (rp:Term→Prop) (rf:∀ (t:Term),rp t→gu Tryz.prog 222 [av t.cells] [] (.fL [iv ((rv t).1),iv ((rv t).2)]) []) (t:Term):Sk (Int × Int) :=
 .r 1 (.aq (.o [.fU (mkC eA t.args.length 0)]) (.p (VC ((t.args.length:Nat):Int) 8))) fun _ =>
 .bind true (fun b1=>b1.length=t.args.length∧∀ q,q < t.args.length→(rv (t.args.getD q default)).2=0∧b1.getD q default=(rv (t.args.getD q default)).1)
 (.loop (default:Sum (Int × Int) ((List Int))) (fun i2=>i2.1.length=t.args.length∧i2.2≤t.args.length∧∀ q,q < i2.2→(rv (t.args.getD q default)).2=0∧i2.1.getD q default=(rv (t.args.getD q default)).1) (fun i2=>t.args.length - i2.2) ((List.replicate t.args.length (0:Int),0):(List Int) × Nat)
 (fun (i2:(List Int) × Nat)=>⟨[(4,ow 100002 i2.1),(20,iv (i2.2:Int))],[(100002,bO 3 1 bU i2.1)]⟩) fun i2 =>
 .lt 18 0 i2.2 t.args.length
 (.r 4 (.aq (.p (bG (i2.2:Int) t.args.length)) (.o [.cast 23 (YR (Term.HT (t.args.getD i2.2 default)))])) fun _ =>
 .r 5 ((vk rv rp rf (t.args.getD i2.2 default)).c) fun x3 =>
 .br (x3.2 != 0)
 (.fin (.inl (.inl (0,x3.2))))
 (.r 8 (.aq (.p (bG (i2.2:Int) i2.1.length)) (.aq (.o [.fU (vU eA i2.1 i2.2 x3.1)]) (.p (i2.2 < i2.1.length)))) fun _ =>
 .wn 100002 i2.1.length (i2.1.set i2.2 x3.1).length <|
 .nx 9 20 i2.2 (i2.1.set i2.2 x3.1,i2.2+1)))
 (.fin (.inl (.inr i2.1))))
 (fun (b1:(List Int))=>⟨[(4,ow 100001 b1)],[(100001,bO 3 1 bU b1)]⟩) fun b1 =>
 .br ((decide (t.op < 0))||(decide (t.op > 13)))
 (.fin (0,1))
 (.br (((t.op == 0)||(t.op == 1))||(t.op == 2))
 (.r 13 ((zl t).c) fun x4 =>
 .fin (x4.1,x4.2))
 (.r 14 ((tW t.op).c) fun x5 =>
 .br ((((b1.length:Nat):Int) != ((x5.args.length:Nat):Int))||(t.n != 0))
 (.fin (0,2))
 (.bind true (fun b6=>∀ q,q < x5.args.length→(x5.args.getD q default = -1→b1.getD q default=b6∨b1.getD q default = -1)∧(x5.args.getD q default≠-1→b1.getD q default=x5.args.getD q default))
 (.loop (default:Sum (Int × Int) (Int)) (fun i7=>i7.2≤x5.args.length∧∀ q,q < i7.2→(x5.args.getD q default = -1→b1.getD q default=i7.1∨b1.getD q default = -1)∧(x5.args.getD q default≠-1→b1.getD q default=x5.args.getD q default)) (fun i7=>x5.args.length - i7.2) (((-1),0):Int × Nat)
 (fun (i7:Int × Nat)=>⟨[(10,iv i7.1),(82,iv (i7.2:Int))],[]⟩) fun i7 =>
 .lt 80 0 i7.2 x5.args.length
 (.r 20 (.p (bG (i7.2:Int) x5.args.length)) fun _ =>
 .bind false (fun b8=>b8=if (x5.args.getD i7.2 default) = -1∧i7.1 = -1 then b1.getD i7.2 default else i7.1)
 (.br (((x5.args.getD i7.2 default) == (-1))&&(i7.1 == (-1)))
 (.r 22 (.aq (.p (bG (i7.2:Int) b1.length)) (.p (i7.2 < b1.length))) fun _ =>
 .fin (.inr (b1.getD i7.2 default)))
 (.fin (.inr i7.1)))
 (fun (b8:Int)=>⟨[(10,iv b8)],[]⟩) fun b8 =>
 .bind false (fun b9=>b9=if (x5.args.getD i7.2 default) = -1 then b8 else (x5.args.getD i7.2 default))
 (.br ((x5.args.getD i7.2 default) == (-1))
 (.fin (.inr b8))
 (.fin (.inr (x5.args.getD i7.2 default))))
 (fun (b9:Int)=>⟨[(12,iv b9)],[]⟩) fun b9 =>
 .r 25 (.aq (.p (bG (i7.2:Int) b1.length)) (.p (i7.2 < b1.length))) fun _ =>
 .br ((b1.getD i7.2 default) != b9)
 (.fin (.inl (.inl (0,11))))
 (.nx 27 82 i7.2 (b8,i7.2+1)))
 (.fin (.inl (.inr i7.1))))
 (fun (b6:Int)=>⟨[(10,iv b6)],[]⟩) fun b6 =>
 .br (x5.result == (-1))
 (.fin (b6,0))
 (.fin (x5.result,0)))))
def ct:Nat→Term→Int × Int
 | 0,_=>default
 | fu+1,t=>(eT (ct fu) (fun _=>False) (fun _=>fun h=>h.elim) t).val
theorem KC (fu:Nat) (rf:∀ (t:Term),t.depth≤fu∧(El t)→gu Tryz.prog 222 [av t.cells] [] (.fL [iv ((ct fu t).1),iv ((ct fu t).2)]) []) (t:Term) (hm:t.depth≤fu+1) (hth:El t):(eT (ct fu) (fun t=>t.depth≤fu∧(El t)) rf t).bz (fun _=>True):=by
 refine Sk.aX _ ?_
 unfold eT
 simp only [Sk.kq,Sk.aO,reduceCtorEq,ON,kk,kp,zl,tW,vk,maxLen]
 have aep:=hth
 obtain ⟨ht1,ht2⟩:=aep
 refine ⟨⟨by omega,by omega,by omega⟩,fun _=>⟨⟨⟨by simp,by omega,fun q hq=>absurd hq (by omega)⟩,fun i hi hl=>⟨fun hc=>⟨⟨by omega,of_decide_eq_true hc⟩,fun _=>⟨⟨?_,?_⟩,fun x hx he=>⟨⟨⟨by omega,?_⟩,?_⟩,fun _=>⟨by simp,fun _=>⟨?_,⟨⟨by simp [hi.1],?_,fun q hq=>?_⟩,?_⟩⟩⟩⟩⟩⟩,fun hc=>⟨hi.1,fun q hq=>hi.2.2 q (by simp only [LN] at hc; omega)⟩⟩⟩,fun b hb hc wP x hx hl=>⟨⟨by omega,fun q hq=>absurd hq (by omega)⟩,fun i hi hl2=>⟨fun hc=>⟨⟨by omega,of_decide_eq_true hc⟩,fun _=>⟨⟨fun h=>⟨⟨⟨by omega,?_⟩,?_⟩,fun _=>?_⟩,fun h=>?_⟩,fun y _ hy=>⟨⟨fun h=>?_,fun h=>?_⟩,fun z _ hz=>⟨⟨⟨by omega,?_⟩,?_⟩,fun _=>fun he _=>⟨?_,⟨⟨?_,fun q hq=>?_⟩,?_⟩⟩⟩⟩⟩⟩,fun hc q hq=>hi.2 q (by simp only [LN] at hc; omega)⟩⟩⟩⟩
 all_goals (try simp only [LN] at hc)
 ·have:=t.kB i.2 (by omega); omega
 ·exact ht2 i.2 (by omega)
 ·omega
 ·omega
 ·exact aG (by omega) (by omega)
 ·omega
 ·simp only [LN] at he
  by_cases e:q=i.2
  ·subst e
   subst hx
   exact ⟨he,oH _ (by omega) _ _⟩
  ·have:=hi.2.2 q (by omega)
   refine ⟨this.1,?_⟩
   rw [← this.2]
   exact oI _ e _ _
 ·omega
 all_goals (try simp only [LN] at hl)
 ·omega
 ·omega
 ·simp only [LN] at h
  rw [if_pos h]
 ·rw [if_neg]
  simp only [LN] at h
  intro ⟨h1,h2⟩
  rcases h with h | h
  ·exact h h1
  ·exact h h2
 ·simp only [LN] at h; rw [if_pos h]
 ·simp only [LN] at h; rw [if_neg h]
 ·omega
 ·omega
 ·exact aG (by omega) (by omega)
 ·omega
 ·simp only [LN] at he
  by_cases e:q=i.2
  ·subst e
   refine ⟨fun h=>?_,fun h=>?_⟩
   ·rw [if_pos h] at hz; left; rw [he,hz]
   ·rw [if_neg h] at hz; rw [he,hz]
  ·have:=hi.2 q (by omega)
   refine ⟨fun h=>?_,this.2⟩
   rcases this.1 h with h1 | h1
   ·by_cases c:x.args.getD i.snd default = -1∧i.fst = -1
    ·right; rw [h1,c.2]
    ·rw [if_neg c] at hy; left; rw [h1,hy]
   ·exact .inr h1
 ·omega
theorem Iw (fu:Nat) (rp:Term→Prop) (rf:∀ (t:Term),rp t→gu Tryz.prog 222 [av t.cells] [] (.fL [iv ((ct fu t).1),iv ((ct fu t).2)]) []) (t:Term):(eT (ct fu) rp rf t).val=ct (fu+1) t:=by kernel_rfl
theorem Ix (fu:Nat):∀ (t:Term),t.depth≤fu→(El t)→gu Tryz.prog 222 [av t.cells] [] (.fL [iv ((ct fu t).1),iv ((ct fu t).2)]) []:=by
 induction fu with
 | zero=>intro t hm h0; exact absurd hm (by have:=Term.tu t; omega)
 | succ fu ih =>
  intro t hm h0
  have h:gu Tryz.prog 222 [av t.cells] [] (.fL [iv (((eT (ct fu) (fun t=>t.depth≤fu∧(El t)) (fun t h=>ih t h.1 h.2) t).val).1),iv (((eT (ct fu) (fun t=>t.depth≤fu∧(El t)) (fun t h=>ih t h.1 h.2) t).val).2)]) []:=gu.sk tok mixed (fun x=>.fL [iv x.1,iv x.2]) (fun _=>[]) Tryz.func222 rfl (by kernel_rfl) 3000 (eT (ct fu) (fun t=>t.depth≤fu∧(El t)) (fun t h=>ih t h.1 h.2) t) (by kernel_rfl) (KC fu _ t hm h0)
  rw [Iw] at h
  exact h
def BE (t:Term):Int × Int:=ct (t.depth) t
theorem KD (t:Term) (hth:El t):gu Tryz.prog 222 [av t.cells] [] (.fL [iv ((BE t).1),iv ((BE t).2)]) []:=Ix _ t (Nat.le_refl _) hth
def xq (t:Term):gn (Int × Int):=⟨Tryz.prog,222,[av t.cells],fun x=>.fL [iv x.1,iv x.2],true,BE t,(El t),fun h=>KD t h,fun _=>True,trivial⟩
theorem FN (t:Term) (wP:t.op=0∨t.op=1∨t.op=2) (h:(oX t).2=0):vH t (oX t).1:=by
 obtain ⟨op,n,args⟩:=t
 simp only at wP
 revert h
 cases args with
 | cons a r =>
  intro h
  exfalso
  revert h
  simp only [oX,jg,Sk.eQ,Sk.cO]
  rw [show decide ((((a :: r).length:Nat):Int) > 0)=true from by simp]
  simp
 | nil =>
  rcases wP with rfl | rfl | rfl
  ·simp only [oX,jg,Sk.eQ,Sk.cO,Sk.iG,gn.xS,kk,kp,jG,rN]
   intro h
   by_cases c:bL (cg n (-1099511627776)) 1099511627776=n
   ·have : -1099511627776≤n∧n≤1099511627776:=by simp only [bL,cg] at c; omega
    have e:(bL (cg n (-1099511627776)) 1099511627776 != n)=false:=by simpa using c
    rw [e]
    exact vH.int this
   ·have e:(bL (cg n (-1099511627776)) 1099511627776 != n)=true:=by simpa using c
    rw [e] at h
    exact absurd (show (3:Int)=0 from h) (by decide)
  ·simp only [oX,jg,Sk.eQ,Sk.cO,Sk.iG,gn.xS,kk,kp,jG,rN]
   intro h
   by_cases c:n < 0∨n > 1
   ·have e:(decide (n < 0)||decide (n > 1))=true:=by simpa using c
    rw [e] at h
    exact absurd (show (3:Int)=0 from h) (by decide)
   ·have:0≤n∧n≤1:=by omega
    have e:(decide (n < 0)||decide (n > 1))=false:=by simp; omega
    rw [e]
    exact vH.bool this
  ·intro h
   have e:oX ⟨2,n,[]⟩=(if n < 0∨n > 19 then (0,10) else if n < 7 then (0,0) else (1,0)):=by
    simp only [oX,jg,Sk.eQ,Sk.cO,Sk.iG,gn.xS,kk,kp,j8,xp,iP]
    by_cases c:n < 0∨n > 19
    ·have:(decide (n < 0)||decide (n > 19))=true:=by simpa using c
     simp [this,c]
    ·have:(decide (n < 0)||decide (n > 19))=false:=by simp; omega
     by_cases d:n < 7 <;> simp [this,c,d]
   rw [e] at h ⊢
   by_cases c:n < 0∨n > 19
   ·simp [c] at h
   ·have:0≤n∧n≤19:=by omega
    have:=vH.var this
    by_cases d:n < 7 <;> simpa [c,d] using this
theorem aaP:ca 3=⟨[1],1⟩:=by kernel_rfl
theorem aaQ:ca 4=⟨[1,1],1⟩:=by kernel_rfl
theorem aaR:ca 5=⟨[1,1],1⟩:=by kernel_rfl
theorem aaS:ca 6=⟨[1,-1,-1],-1⟩:=by kernel_rfl
theorem aaT:ca 7=⟨[0,0],1⟩:=by kernel_rfl
theorem aaU:ca 8=⟨[-1,-1],1⟩:=by kernel_rfl
theorem Xc:ca 9=⟨[0,0],0⟩:=by kernel_rfl
theorem UY:ca 10=⟨[0,0],0⟩:=by kernel_rfl
theorem UZ:ca 11=⟨[0,0],0⟩:=by kernel_rfl
theorem U0:ca 12=⟨[0,0],0⟩:=by kernel_rfl
theorem U1:ca 13=⟨[0,0],0⟩:=by kernel_rfl
theorem aaV (op:Int) (h:9≤op∧op≤13):ca op=⟨[0,0],0⟩:=by
 have:op=9∨op=10∨op=11∨op=12∨op=13:=by omega
 rcases this with e | e | e | e | e <;> rw [e]
 ·exact Xc
 ·exact UY
 ·exact UZ
 ·exact U0
 ·exact U1
theorem acw {α:Type} {l:List α} (h:l.length=1):∃ a,l=[a]:=by
 match l,h with
 | [a],_=>exact ⟨a,rfl⟩
theorem P6 {α:Type} {l:List α} (h:l.length=2):∃ a b,l=[a,b]:=by
 match l,h with
 | [a,b],_=>exact ⟨a,b,rfl⟩
theorem acx {α:Type} {l:List α} (h:l.length=3):∃ a b c,l=[a,b,c]:=by
 match l,h with
 | [a,b,c],_=>exact ⟨a,b,c,rfl⟩
theorem Iy {t:Term} {b1:List Int} {common:Int} (wP:3≤t.op∧t.op≤13) (hn:t.n=0) (hl:b1.length=(ca t.op).args.length) (hb:b1.length=t.args.length) (Mo:∀ q,q < t.args.length→vH (t.args.getD q default) (b1.getD q default))
  (hc:∀ q,q < (ca t.op).args.length→((ca t.op).args.getD q default = -1→b1.getD q default=common∨b1.getD q default = -1)∧((ca t.op).args.getD q default≠-1→b1.getD q default=(ca t.op).args.getD q default)) :
  vH t (if (ca t.op).result = -1 then common else (ca t.op).result):=by
 obtain ⟨op,n,args⟩:=t
 simp only at wP hn hl hb Mo hc ⊢
 subst hn
 have aaW:op=3∨op=4∨op=5∨op=6∨op=7∨op=8∨(9≤op∧op≤13):=by omega
 rcases aaW with rfl | rfl | rfl | rfl | rfl | rfl | h9
 ·rw [aaP] at hl hc ⊢
  obtain ⟨a,rfl⟩:=acw (hb.symm.trans hl)
  have h0:=Mo 0 (by simp)
  have c0:=hc 0 (by simp)
  simp at h0 c0 ⊢
  rw [c0] at h0
  exact .not h0
 ·rw [aaQ] at hl hc ⊢
  obtain ⟨a,b,rfl⟩:=P6 (hb.symm.trans hl)
  have h0:=Mo 0 (by simp); have h1:=Mo 1 (by simp)
  have c0:=hc 0 (by simp); have c1:=hc 1 (by simp)
  simp at h0 h1 c0 c1 ⊢
  rw [c0] at h0; rw [c1] at h1
  exact .Xb (.inl rfl) h0 h1
 ·rw [aaR] at hl hc ⊢
  obtain ⟨a,b,rfl⟩:=P6 (hb.symm.trans hl)
  have h0:=Mo 0 (by simp); have h1:=Mo 1 (by simp)
  have c0:=hc 0 (by simp); have c1:=hc 1 (by simp)
  simp at h0 h1 c0 c1 ⊢
  rw [c0] at h0; rw [c1] at h1
  exact .Xb (.inr rfl) h0 h1
 ·rw [aaS] at hl hc ⊢
  obtain ⟨a,b,c,rfl⟩:=acx (hb.symm.trans hl)
  have h0:=Mo 0 (by simp); have h1:=Mo 1 (by simp); have h2:=Mo 2 (by simp)
  have c0:=hc 0 (by simp); have c1:=hc 1 (by simp); have c2:=hc 2 (by simp)
  simp at h0 h1 h2 c0 c1 c2 ⊢
  have k1:=h1.kind; have k2:=h2.kind
  rw [c0] at h0
  have e1:b1[1]?.getD 0=common:=by omega
  have e2:b1[2]?.getD 0=common:=by omega
  rw [e1] at h1; rw [e2] at h2
  exact .ite h0 h1 h2
 ·rw [aaT] at hl hc ⊢
  obtain ⟨a,b,rfl⟩:=P6 (hb.symm.trans hl)
  have h0:=Mo 0 (by simp); have h1:=Mo 1 (by simp)
  have c0:=hc 0 (by simp); have c1:=hc 1 (by simp)
  simp at h0 h1 c0 c1 ⊢
  rw [c0] at h0; rw [c1] at h1
  exact .less h0 h1
 ·rw [aaU] at hl hc ⊢
  obtain ⟨a,b,rfl⟩:=P6 (hb.symm.trans hl)
  have h0:=Mo 0 (by simp); have h1:=Mo 1 (by simp)
  have c0:=hc 0 (by simp); have c1:=hc 1 (by simp)
  simp at h0 h1 c0 c1 ⊢
  have k1:=h0.kind; have k2:=h1.kind
  have e1:b1[0]?.getD 0=common:=by omega
  have e2:b1[1]?.getD 0=common:=by omega
  rw [e1] at h0; rw [e2] at h1
  exact .eq h0 h1
 ·rw [aaV op h9] at hl hc ⊢
  obtain ⟨a,b,rfl⟩:=P6 (hb.symm.trans hl)
  have h0:=Mo 0 (by simp); have h1:=Mo 1 (by simp)
  have c0:=hc 0 (by simp); have c1:=hc 1 (by simp)
  simp at h0 h1 c0 c1 ⊢
  rw [c0] at h0; rw [c1] at h1
  exact .arith h9 h0 h1
theorem wg:∀ (fu:Nat) (t:Term),t.depth≤fu→(ct fu t).2=0→vH t (ct fu t).1
 | 0,t,hd,_=>absurd hd (by have:=t.tu; omega)
 | fu+1,t,hd,h=>by
  have ih:=wg fu
  have key:ct (fu+1) t=(eT (ct fu) (fun _=>False) (fun _ h=>h.elim) t).val:=rfl
  rw [key] at h ⊢
  refine (Sk.de (eT (ct fu) (fun _=>False) (fun _ h=>h.elim) t) (L:=fun x=>x.2=0→vH t x.1) (Sk.bp _ ?_)) h
  unfold eT
  simp only [Sk.cV,Sk.aO,reduceCtorEq,false_implies,qg,gJ,bg.z,bg.p,bg.t,bg.pt,bg.o,bg.and,bg.aq,bg.CA,bg.wh,bg.dep,bg.o9,gn.c,kk,kp,vk,zl,tW,implies_true,true_and,and_true,and_self,true_implies,forall_eq,forall_const]
  refine ⟨⟨⟨by simp,Nat.zero_le _,fun q hq=>absurd hq (by omega)⟩,fun i hi=>⟨fun hc=>⟨fun he h=>?_,fun he=>⟨⟨by simp [hi.1],?_,fun q hq=>?_⟩,?_⟩⟩,fun hc=>⟨hi.1,fun q hq=>hi.2.2 q (by simp at hc; omega)⟩⟩⟩,fun b hb=>⟨fun hc h=>absurd h (by decide),fun hc=>⟨fun wP h=>?_,fun wP=>⟨fun _ h=>absurd h (by decide),fun hl=>⟨⟨⟨Nat.zero_le _,fun q hq=>absurd hq (by omega)⟩,fun i hi=>⟨fun hc=>⟨⟨?_,?_⟩,fun y _ hy=>⟨⟨?_,?_⟩,fun z _ hz=>⟨fun _ h=>absurd h (by decide),fun he=>⟨⟨?_,fun q hq=>?_⟩,?_⟩⟩⟩⟩,fun hc q hq=>hi.2 q (by simp at hc; omega)⟩⟩,fun y hy=>⟨?_,?_⟩⟩⟩⟩⟩⟩
  ·rw [h] at he; exact absurd he (by decide)
  ·simp only [LN] at hc; omega
  ·simp only [LN] at hc he
   by_cases e:q=i.2
   ·subst e
    exact ⟨he,oH _ (by omega) _ _⟩
   ·have:=hi.2.2 q (by omega)
    refine ⟨this.1,?_⟩
    rw [← this.2]
    exact oI _ e _ _
  ·simp only [LN] at hc; omega
  ·exact FN t (by simp only [LN] at wP; omega) h
  ·intro h; simp only [LN] at h; rw [if_pos h]
  ·intro h
   rw [if_neg]
   simp only [LN] at h
   intro ⟨h1,h2⟩
   rcases h with h | h
   ·exact h h1
   ·exact h h2
  ·intro h; simp only [LN] at h; rw [if_pos h]
  ·intro h; simp only [LN] at h; rw [if_neg h]
  ·simp only [LN] at hc; omega
  ·simp only [LN] at hc he
   by_cases e:q=i.2
   ·subst e
    refine ⟨fun h=>?_,fun h=>?_⟩
    ·rw [if_pos h] at hz; left; rw [he,hz]
    ·rw [if_neg h] at hz; rw [he,hz]
   ·have:=hi.2 q (by omega)
    refine ⟨fun h=>?_,this.2⟩
    rcases this.1 h with h1 | h1
    ·by_cases c:(ca t.op).args.getD i.snd default = -1∧i.fst = -1
     ·right; rw [h1,c.2]
     ·rw [if_neg c] at hy; left; rw [h1,hy]
    ·exact .inr h1
  ·simp only [LN] at hc; omega
  ·intro h
   simp only [LN] at hc wP hl h
   have:=Iy (t:=t) (b1:=b) (common:=y) (by omega) hl.2 (by omega) hb.1 (fun q hq=>by
    have h1:=hb.2 q hq
    rw [h1.2]
    exact ih _ (by have:=t.kB q hq; omega) h1.1) hy
   rw [if_pos h] at this
   exact this
  ·intro h
   simp only [LN] at hc wP hl h
   have:=Iy (t:=t) (b1:=b) (common:=y) (by omega) hl.2 (by omega) hb.1 (fun q hq=>by
    have h1:=hb.2 q hq
    rw [h1.2]
    exact ih _ (by have:=t.kB q hq; omega) h1.1) hy
   rw [if_neg h] at this
   exact this
def nz (t:Term):Sk (Int × Int) :=
 .r 1 ((tV t 1).c) fun x1 =>
 .br (decide (x1 > 60))
 (.fin (0,6))
 (.r 3 ((xq t).c) fun x2 =>
 .fin (x2.1,x2.2))
def xr t:=(nz t).val
def Term.CV (t:Term):Prop:=(∃ k,vH t k)∧t.depth≤8
theorem zm (t:Term):(nz t).cZ (fun (x:Int × Int)=>x.2=0→vH t x.1∧t.depth≤8):=by
 refine Sk.bp _ ?_
 unfold nz
 simp only [Sk.cV,Sk.aO,reduceCtorEq,false_implies,qg,gJ,bg.z,bg.p,bg.t,bg.pt,bg.o,bg.and,bg.aq,bg.CA,bg.wh,bg.dep,bg.o9,gn.c,kk,kp,gn.nil,gn.CB,iY.c,iY.nil,tV,xq,forall_eq,forall_const]
 have hm:=sf _ t 1 (Nat.le_refl _) (by omega) (by omega)
 have hc:=wg _ t (Nat.le_refl _)
 refine ⟨fun _ h=>absurd h (by decide),fun c h=>⟨hc h,?_⟩⟩
 simp only [decide_eq_false_iff_not] at c
 have:bI t.depth t 1≤60:=Int.not_lt.1 c
 have:=hm.2.2.1 this
 omega
theorem FO (t:Term):(fun (x:Int × Int)=>x.2=0→vH t x.1∧t.depth≤8) (xr t):=have h:=Sk.de _ (zm t); h
theorem KE (t:Term):(nz t).bz (fun _=>True):=by
 refine Sk.aX _ ?_
 unfold nz
 simp only [Sk.kq,Sk.aO,reduceCtorEq,ON,kk,kp,xq,tV,maxLen]
 exact fun x hx h=>(sf _ t 1 (Nat.le_refl _) (by omega) (by omega)).2.2.2 (by subst hx; simp only [LN] at h; exact h)
def sX t:=kp tok mixed Tryz.func200 [av t.cells] (fun x=>.fL [iv x.1,iv x.2]) true (xr t) (u0 (KE t)) (zm t)
def qY (o:Order) (ask:Int):Sk (Term × Int) :=
 .r 1 ((kE ask).c) fun x1 =>
 .br (!x1.2)
 (.fin (({ op:=0,n:=0,args:=[] }:Term),1))
 (.r 4 ((pG o.rules ask).c) fun x2 =>
 .br (decide (x2 < 0))
 (.fin (({ op:=0,n:=0,args:=[] }:Term),4))
 (.r 7 (.p (bG x2 o.rules.length)) fun _ =>
 .r 8 ((sX ((o.rules.getD x2.toNat default).term)).c) fun x3 =>
 .br ((x3.2 != 0)||(x3.1 != x1.1))
 (.fin (({ op:=0,n:=0,args:=[] }:Term),11))
 (.fin ((o.rules.getD x2.toNat default).term,0))))
def gZ o ask:=(qY o ask).val
theorem KF (o:Order) (ask:Int):(qY o ask).bz (fun _=>True):=by
 unfold qY
 try simp only [kE,pG,sX]
 exact oj
def CW o ask:=kk tok mixed Tryz.func159 [av o.cells,iv ask] (fun x=>.fL [av x.1.cells,iv x.2]) false (qY o ask) (gZ o ask) (u0 (KF o ask))
structure Machine where
 eS:List aH
 deriving Inhabited
def uT (Kz:Bool):Sk (aH) :=
 .br Kz
 (.fin ({ known:=true,n:=1 }:aH))
 (.fin ({ known:=true,n:=0 }:aH))
def wj Kz:=(uT Kz).val
theorem P7 (Kz:Bool):(uT Kz).bz (fun _=>True):=by
 unfold uT
 exact pv
def gv Kz:=kk tok mixed Tryz.func239 [bv Kz] (fun x=>av x.cells) true (uT Kz) (wj Kz) (u0 (P7 Kz))
def fK (m:Machine) (v:Int):Sk (aH) :=
 .r 1 (.wh (decide (v≥((m.eS.length:Nat):Int))) false (.p (bG v m.eS.length))) fun _ =>
 .br ((decide (v≥((m.eS.length:Nat):Int)))||(!((m.eS.getD v.toNat default).known)))
 (.fin ({ known:=false,n:=0 }:aH))
 (.r 3 ((j8 v).c) fun x1 =>
 .br (x1.1 == 1)
 (.r 5 (.aq (.p (bG v m.eS.length)) ((gv (((m.eS.getD v.toNat default).n) != 0)).c)) fun x2 =>
 .fin x2)
 (.r 6 (.aq (.p (bG v m.eS.length)) ((jG ((m.eS.getD v.toNat default).n)).c)) fun x3 =>
 .fin ({ known:=true,n:=x3 }:aH)))
def hX m v:=(fK m v).val
theorem yd (m:Machine) (v:Int) (hv:0≤v):(fK m v).bz (fun _=>True):=by
 unfold fK
 try simp only [j8,jG,gv,rN]
 exact yn
def rO m v:=kk tok mixed Tryz.func223 [av [mW aH.cells m.eS],iv v] (fun x=>av x.cells) true (fK m v) (hX m v) (yd m v)
theorem Iz {a:Int} (h0:0≤a) (h1:a < 18446744073709551616):dP .u64 a 4294967295=a % 4294967296:=by
 obtain ⟨a,rfl⟩:=Int.eq_ofNat_of_zero_le h0
 unfold dP
 have h2:(BitVec.ofInt IntKind.u64.bits ((a:Nat):Int) &&& BitVec.ofInt IntKind.u64.bits 4294967295).toNat=a % 4294967296:=by
  have e:(4294967295:Int)=((4294967295:Nat):Int):=rfl
  rw [e,BitVec.toNat_and,BitVec.ofInt_natCast,BitVec.ofInt_natCast,BitVec.toNat_ofNat,BitVec.toNat_ofNat]
  have hb:IntKind.u64.bits=64:=rfl
  rw [hb,Nat.mod_eq_of_lt (by omega),Nat.mod_eq_of_lt (by omega)]
  exact Nat.and_two_pow_sub_one_eq_mod a 32
 rw [h2,dA (by omega) (by omega)]
 omega
theorem Y3 {x y:Int} (hx:0≤x∧x < 18446744073709551616) (hy:0≤y∧y < 18446744073709551616) :
  IntKind.u64.wrap ((IntKind.u64.wrap ((IntKind.u64.wrap ((dz .u64 x 32) * (dz .u64 y 32)))+(dz .u64 (IntKind.u64.wrap ((IntKind.u64.wrap ((dz .u64 x 32) * (dP .u64 y 4294967295)))+(dz .u64 (IntKind.u64.wrap ((dP .u64 x 4294967295) * (dP .u64 y 4294967295))) 32))) 32)))+(dz .u64 (IntKind.u64.wrap ((dP .u64 (IntKind.u64.wrap ((IntKind.u64.wrap ((dz .u64 x 32) * (dP .u64 y 4294967295)))+(dz .u64 (IntKind.u64.wrap ((dP .u64 x 4294967295) * (dP .u64 y 4294967295))) 32))) 4294967295)+(IntKind.u64.wrap ((dP .u64 x 4294967295) * (dz .u64 y 32))))) 32)) * 18446744073709551616+IntKind.u64.wrap (x * y)=x * y:=by
 have s32:∀ a:Int,dz .u64 a 32=a / 4294967296:=fun a=>D2 .u64 (b:=32) (by decide)
 have ax:=Iz hx.1 hx.2
 have ay:=Iz hy.1 hy.2
 rw [Iz (jN _).1 (jN _).2,ax,ay,s32,s32,s32,s32,s32]
 have bd:∀ a b:Int,0≤a∧a < 4294967296→0≤b∧b < 4294967296→0≤a * b∧a * b≤18446744065119617025:=fun a b ha hb =>
  ⟨Int.mul_nonneg ha.1 hb.1,by have:=Int.mul_le_mul (show a≤4294967295 by omega) (show b≤4294967295 by omega) hb.1 (by omega); omega⟩
 have JT:0≤x / 4294967296∧x / 4294967296 < 4294967296:=by omega
 have Zx:0≤x % 4294967296∧x % 4294967296 < 4294967296:=by omega
 have TN:0≤y / 4294967296∧y / 4294967296 < 4294967296:=by omega
 have Rn:0≤y % 4294967296∧y % 4294967296 < 4294967296:=by omega
 have UU:=bd _ _ JT TN
 have b10:=bd _ _ JT Rn
 have Y4:=bd _ _ Zx TN
 have b00:=bd _ _ Zx Rn
 have e:x * y=(x / 4294967296) * (y / 4294967296) * 18446744073709551616+((x / 4294967296) * (y % 4294967296)+(x % 4294967296) * (y / 4294967296)) * 4294967296+(x % 4294967296) * (y % 4294967296):=by
  have ex:x=x / 4294967296 * 4294967296+x % 4294967296:=by omega
  have ey:y=y / 4294967296 * 4294967296+y % 4294967296:=by omega
  generalize x / 4294967296=x1 at ex ⊢
  generalize x % 4294967296=x0 at ex ⊢
  generalize y / 4294967296=y1 at ey ⊢
  generalize y % 4294967296=y0 at ey ⊢
  subst ex; subst ey
  have a1:x1 * 4294967296 * (y1 * 4294967296)=x1 * y1 * 18446744073709551616:=by rw [Int.mul_assoc,Int.mul_left_comm 4294967296 y1,← Int.mul_assoc]; rfl
  have a2:x1 * 4294967296 * y0=x1 * y0 * 4294967296:=Int.mul_right_comm _ _ _
  have a3:x0 * (y1 * 4294967296)=x0 * y1 * 4294967296:=(Int.mul_assoc _ _ _).symm
  rw [Int.add_mul,Int.mul_add,Int.mul_add,a1,a2,a3,Int.add_mul]
  omega
 rw [e]
 generalize x / 4294967296 * (y / 4294967296)=UN at *
 generalize x / 4294967296 * (y % 4294967296)=RZ at *
 generalize x % 4294967296 * (y / 4294967296)=p01 at *
 generalize x % 4294967296 * (y % 4294967296)=p00 at *
 simp only [HO]
 omega
def kX (x_:Int) (y:Int):Sk (Int × Int) :=
 .r 2 (.p (0≤(32:Int))) fun _ =>
 .r 4 (.p (0≤(32:Int))) fun _ =>
 .r 6 (.p (0≤(32:Int))) fun _ =>
 .r 8 (.p (0≤(32:Int))) fun _ =>
 .r 10 (.p (0≤(32:Int))) fun _ =>
 .fin (IntKind.u64.wrap ((IntKind.u64.wrap ((IntKind.u64.wrap ((dz .u64 x_ 32) * (dz .u64 y 32)))+(dz .u64 (IntKind.u64.wrap ((IntKind.u64.wrap ((dz .u64 x_ 32) * (dP .u64 y 4294967295)))+(dz .u64 (IntKind.u64.wrap ((dP .u64 x_ 4294967295) * (dP .u64 y 4294967295))) 32))) 32)))+(dz .u64 (IntKind.u64.wrap ((dP .u64 (IntKind.u64.wrap ((IntKind.u64.wrap ((dz .u64 x_ 32) * (dP .u64 y 4294967295)))+(dz .u64 (IntKind.u64.wrap ((dP .u64 x_ 4294967295) * (dP .u64 y 4294967295))) 32))) 4294967295)+(IntKind.u64.wrap ((dP .u64 x_ 4294967295) * (dz .u64 y 32))))) 32)),IntKind.u64.wrap (x_ * y))
def qB x_ y:=(kX x_ y).val
theorem IA (x_:Int) (y:Int) (hP:(0≤x_∧x_ < 18446744073709551616)∧0≤y∧y < 18446744073709551616):(kX x_ y).cZ (fun (x:Int × Int)=>(0≤x.1∧x.1 < 18446744073709551616)∧(0≤x.2∧x.2 < 18446744073709551616)∧x.1 * 18446744073709551616+x.2=x_ * y):=by
 refine Sk.bp _ ?_
 unfold kX
 simp only [Sk.cV,Sk.aO,reduceCtorEq,ON,kk,kp,maxLen]
 intro _ _ _ _ _
 exact ⟨jN _,jN _,Y3 hP.1 hP.2⟩
theorem sh (x_:Int) (y:Int):(fun (x:Int × Int)=>((0≤x_∧x_ < 18446744073709551616)∧0≤y∧y < 18446744073709551616)→((0≤x.1∧x.1 < 18446744073709551616)∧(0≤x.2∧x.2 < 18446744073709551616)∧x.1 * 18446744073709551616+x.2=x_ * y)) (qB x_ y):=fun hP=>Sk.de _ (IA x_ y hP)
theorem KG (x_:Int) (y:Int):(kX x_ y).bz (fun _=>True):=by
 unfold kX
 exact oj
def jh x_ y:=kk tok mixed Tryz.func165 [.d (.v (.int .u64 x_)),.d (.v (.int .u64 y))] (fun x=>.fL [.d (.v (.int .u64 x.1)),.d (.v (.int .u64 x.2))]) true (kX x_ y) (qB x_ y) (u0 (KG x_ y)) (fun (x:Int × Int)=>((0≤x_∧x_ < 18446744073709551616)∧0≤y∧y < 18446744073709551616)→((0≤x.1∧x.1 < 18446744073709551616)∧(0≤x.2∧x.2 < 18446744073709551616)∧x.1 * 18446744073709551616+x.2=x_ * y)) (sh x_ y)
def nK (a:Int) (b:Int):Sk (Int) :=
 .r 1 ((jh (IntKind.u64.wrap (cg a (au (0 - a)))) (IntKind.u64.wrap (cg b (au (0 - b))))).c) fun x1 =>
 .bind false (fun _=>True)
 (.br ((x1.1 == 0)&&(decide (x1.2 < 1099511627776)))
 (.fin (.inr (au (x1.2))))
 (.fin (.inr 1099511627776)))
 (fun (b2:Int)=>⟨[(7,iv b2)],[]⟩) fun b2 =>
 .br (!((decide (a < 0)) == (decide (b < 0))))
 (.fin (au (0 - b2)))
 (.fin b2)
def M3 a b:=(nK a b).val
theorem FP (a:Int) (b:Int):(nK a b).bz (fun _=>True):=by
 unfold nK
 try simp only [jh]
 exact pv
def zn a b:=kk tok mixed Tryz.func245 [iv a,iv b] (fun x=>iv x) true (nK a b) (M3 a b) (u0 (FP a b))
def kG (op:Int) (a:Int) (b:Int):Sk (Int) :=
 .br (op == 9)
 (.r 3 ((jG (au (a+b))).c) fun x1 =>
 .fin x1)
 (.br (op == 10)
 (.r 5 ((jG (au (a - b))).c) fun x2 =>
 .fin x2)
 (.br (op == 11)
 (.r 7 ((zn a b).c) fun x3 =>
 .fin x3)
 (.br (op == 12)
 (.fin (bL a b))
 (.fin (cg a b)))))
def xU op a b:=(kG op a b).val
theorem BF (op:Int) (a:Int) (b:Int):(kG op a b).bz (fun _=>True):=by
 unfold kG
 try simp only [jG,zn,rN]
 exact yn
def pH op a b:=kk tok mixed Tryz.func241 [iv op,iv a,iv b] (fun x=>iv x) true (kG op a b) (xU op a b) (u0 (BF op a b))
def fx (op:Int) (l:List aH):Sk (aH) :=
 .bind true (fun b1=>op≠3∧op≠6)
 (.br (op == 3)
 (.r 3 (.p (bG (0:Int) l.length)) fun _ =>
 .br ((l.getD 0 default).known)
 (.r 4 (.aq (.p (bG (0:Int) l.length)) ((gv (((l.getD 0 default).n) == 0)).c)) fun x2 =>
 .fin (.inl x2))
 (.fin (.inl ({ known:=false,n:=0 }:aH))))
 (.bind false (fun b3=>b3=(op == 4||op == 5))
 (.br (op == 4)
 (.fin (.inr (op == 4)))
 (.fin (.inr (op == 5))))
 (fun (b3:Bool)=>⟨[(22,bv b3)],[]⟩) fun b3 =>
 .br b3
 (.r 8 ((gv (op == 5)).c) fun x4 =>
 .r 9 (.aq (.p (bG (0:Int) l.length)) (.wh ((((l.getD 0 default).known) == x4.known)&&((((l.getD 0 default).n) == x4.n)&&true)) false (.p (bG (1:Int) l.length)))) fun _ =>
 .br (((((l.getD 0 default).known) == x4.known)&&((((l.getD 0 default).n) == x4.n)&&true))||((((l.getD 1 default).known) == x4.known)&&((((l.getD 1 default).n) == x4.n)&&true)))
 (.fin (.inl x4))
 (.fin (.inr ())))
 (.br (op == 6)
 (.r 12 (.aq (.p (bG (1:Int) l.length)) (.aq (.wh ((l.getD 1 default).known) true (.p (bG (1:Int) l.length))) (.wh ((l.getD 1 default).known) true (.p (bG (2:Int) l.length))))) fun _ =>
 .br (((l.getD 1 default).known)&&((((l.getD 1 default).known) == ((l.getD 2 default).known))&&((((l.getD 1 default).n) == ((l.getD 2 default).n))&&true)))
 (.r 13 (.p (bG (1:Int) l.length)) fun _ =>
 .fin (.inl (l.getD 1 default)))
 (.fin (.inl ({ known:=false,n:=0 }:aH))))
 (.fin (.inr ())))))
 (fun (_:Unit)=>⟨[],[]⟩) fun _ =>
 .r 15 (.aq (.p (bG (0:Int) l.length)) (.wh (!((l.getD 0 default).known)) false (.p (bG (1:Int) l.length)))) fun _ =>
 .br ((!((l.getD 0 default).known))||(!((l.getD 1 default).known)))
 (.fin ({ known:=false,n:=0 }:aH))
 (.r 17 (.aq (.p (bG (0:Int) l.length)) (.p (bG (1:Int) l.length))) fun _ =>
 .bind false (fun _=>True)
 (.br (op == 4)
 (.fin (.inr (op == 4)))
 (.fin (.inr (op == 5))))
 (fun (b5:Bool)=>⟨[(82,bv b5)],[]⟩) fun b5 =>
 .br b5
 (.r 21 ((gv (op == 4)).c) fun x6 =>
 .fin x6)
 (.br (op == 7)
 (.r 23 ((gv (decide (((l.getD 0 default).n) < ((l.getD 1 default).n)))).c) fun x7 =>
 .fin x7)
 (.br (op == 8)
 (.r 25 ((gv (((l.getD 0 default).n) == ((l.getD 1 default).n))).c) fun x8 =>
 .fin x8)
 (.r 26 ((pH op ((l.getD 0 default).n) ((l.getD 1 default).n)).c) fun x9 =>
 .fin ({ known:=true,n:=x9 }:aH)))))
def bQ op l:=(fx op l).val
theorem FQ (op:Int) (l:List aH) (ha:(op=3∧1≤l.length)∨(op=6∧3≤l.length)∨(op≠3∧op≠6∧2≤l.length)):(fx op l).bz (fun _=>True):=by
 unfold fx
 try simp only [pH,gv]
 exact oj
def zo op l:=kk tok mixed Tryz.func224 [iv op,lv aH.cells l] (fun x=>av x.cells) true (fx op l) (bQ op l) (FQ op l)
def fQ (n:Int):Sk ((List Int)) :=
 .bind false (fun _=>True)
 (.br (decide (n < 0))
 (.dead default)
 (.fin (.inr ())))
 (fun (_:Unit)=>⟨[],[]⟩) fun _ =>
 .br (decide ((au (n - (au ((0:Int) - 0)))) > 0))
 (.r 5 (.aq (.p (0≤(0:Int)∧(0:Int)≤0)) (.aq (.aq (.o [.fU (mkC eA ((au (n - (au ((0:Int) - 0)))).toNat) (0:Int))]) (.p (VC (au (n - (au ((0:Int) - 0)))) 8))) (.aq (.o [.fU (adZ eA (List.replicate ((au (n - (au ((0:Int) - 0)))).toNat) (0:Int)) 0)]) (.p (0≤(0:Int)∧0≤(((List.replicate ((au (n - (au ((0:Int) - 0)))).toNat) (0:Int)).length:Nat):Int)))))) fun _ =>
 .fin (sK (List.replicate ((au (n - (au ((0:Int) - 0)))).toNat) (0:Int)) 0 0))
 (.fin [])
def nL n:=(fQ n).val
theorem AD (n:Int):(fQ n).cZ (fun (x:(List Int))=>x=[]):=by
 unfold fQ
 exact DE
theorem zp (n:Int):(fun (x:(List Int))=>x=[]) (nL n):=have h:=Sk.de _ (AD n); h
theorem BG (n:Int) (hn:0≤n∧n≤1000000000):(fQ n).bz (fun _=>True):=by
 unfold fQ
 exact oj
theorem AE (n:Int) (hn:0≤n∧n≤1000000000):gu Tryz.prog 242 [nv,iv n] [] (ow 777777 (nL n)) [(777777,bO 3 1 bU (nL n))] :=
 gu.sk tok mixed (fun x=>ow 777777 x) (fun x=>[(777777,bO 3 1 bU x)]) Tryz.func242 rfl (by kernel_rfl) 3000 (fQ n) (by kernel_rfl) (BG n hn)
def ot (κ:Nat) (n:Int):iY ((List Int)):=⟨Tryz.prog,242,[nv,iv n],fun x=>ow κ x,fun x=>[(κ,bO 3 1 bU x)],nL n,(0≤n∧n≤1000000000),fun h=>gu.WL κ (AE n h),fun (x:(List Int))=>x=[],zp n⟩
theorem Ep {α:Type} [Inhabited α] (l:List (List α)) (n:Nat) (h:n < l.length):(l.take (n+1)).flatten=(l.take n).flatten++l.getD n default:=by
 rw [List.take_succ_eq_append_getElem h,List.flatten_append]
 simp only [List.getD,h,List.getElem?_eq_getElem,Option.getD_some,List.flatten_cons,List.flatten_nil,List.append_nil]
theorem M4 {α:Type} [Inhabited α] (l:List (List α)) (B:Nat) (h:∀ i,i < l.length→(l.getD i default).length≤B):∀ n,n≤l.length→(l.take n).flatten.length≤B * n
 | 0,_=>by simp
 | n+1,hn=>by
  have:=M4 l B h n (by omega)
  rw [Ep l n (by omega),List.length_append,Nat.mul_add]
  have:=h n (by omega)
  omega
def j9 (bJ:List (List Int)):Sk ((List Int)) :=
 .bind true (fun b1=>(bJ.length≤100∧∀ i,i < bJ.length→(bJ.getD i default).length≤1000000)→(0:Int)≤b1∧b1≤100000000)
 (.loop (default:Sum ((List Int)) (Int)) (fun i2=>(bJ.length≤100∧∀ i,i < bJ.length→(bJ.getD i default).length≤1000000)→(0:Int)≤i2.1∧i2.1≤((1000000 * i2.2:Nat):Int)∧i2.2≤bJ.length) (fun i2=>bJ.length - i2.2) ((0,0):Int × Nat)
 (fun (i2:Int × Nat)=>⟨[(3,iv i2.1),(11,iv (i2.2:Int))],[]⟩) fun i2 =>
 .lt 0 0 i2.2 bJ.length
 (.r 4 (.p (bG (i2.2:Int) bJ.length)) fun _ =>
 .br (decide ((au (i2.1+(((bJ.getD i2.2 default).length:Nat):Int))) < 0))
 (.dead default)
 (.r 8 .z fun _ =>
 .wi 11 (au ((i2.2:Int)+1)) ((i2.2+1:Nat):Int) <|
 .fin (.inr (au (i2.1+(((bJ.getD i2.2 default).length:Nat):Int)),i2.2+1))))
 (.fin (.inl (.inr i2.1))))
 (fun (b1:Int)=>⟨[(3,iv b1)],[]⟩) fun b1 =>
 .r 9 ((ot 24 b1).c) fun x3 =>
 .bind true (fun b4=>(bJ.length≤100∧∀ i,i < bJ.length→(bJ.getD i default).length≤1000000)→b4=bJ.flatten)
 (.loop (default:Sum ((List Int)) ((List Int))) (fun i5=>(bJ.length≤100∧∀ i,i < bJ.length→(bJ.getD i default).length≤1000000)→i5.1=(bJ.take i5.2).flatten∧i5.2≤bJ.length) (fun i5=>bJ.length - i5.2) ((x3,0):(List Int) × Nat)
 (fun (i5:(List Int) × Nat)=>⟨[(6,ow 100002 i5.1),(27,iv (i5.2:Int))],[(100002,bO 3 1 bU i5.1)]⟩) fun i5 =>
 .lt 25 0 i5.2 bJ.length
 (.r 12 (.p (bG (i5.2:Int) bJ.length)) fun _ =>
 .r 13 (.aq (.o [.fU (og eA i5.1 (bJ.getD i5.2 default))]) (.aq (.t (eA.src (bJ.getD i5.2 default))) (.p (ym i5.1.length (bJ.getD i5.2 default).length 8)))) fun _ =>
 .nx 14 27 i5.2 (i5.1++(bJ.getD i5.2 default),i5.2+1))
 (.fin (.inl (.inr i5.1))))
 (fun (b4:(List Int))=>⟨[(6,ow 100001 b4)],[(100001,bO 3 1 bU b4)]⟩) fun b4 =>
 .fin b4
def vl bJ:=(j9 bJ).val
theorem uU (bJ:List (List Int)):(j9 bJ).cZ (fun (x:(List Int))=>(bJ.length≤100∧∀ i,i < bJ.length→(bJ.getD i default).length≤1000000)→x=bJ.flatten):=by
 refine Sk.bp _ ?_
 unfold j9
 simp only [Sk.cV,Sk.aO,reduceCtorEq,ON,kk,kp,ot,maxLen]
 refine ⟨⟨fun h=>⟨by omega,by omega,by omega⟩,fun i hi=>⟨fun hc _=>⟨fun hd=>?_,fun hd _=>⟨fun h=>?_,?_⟩⟩,fun hc h=>?_⟩⟩,fun b hb x _ hx=>⟨⟨fun h=>⟨by simp [hx],by omega⟩,fun i hi=>⟨fun hc _ _ _=>⟨fun h=>⟨?_,?_⟩,?_⟩,fun hc h=>?_⟩⟩,fun b hb=>hb⟩⟩
 all_goals (try simp only [LN] at hc)
 all_goals (try simp only [LN] at hd)
 ·show (bJ.length≤100∧∀ (i:Nat),i < bJ.length→(bJ.getD i default).length≤1000000)→_
  intro h
  have h1:=hi h
  have h2:=h.2 i.2 (by omega)
  rw [aG (by omega) (by omega)] at hd
  omega
 ·have h1:=hi h
  have h2:=h.2 i.2 (by omega)
  rw [aG (by omega) (by omega)]
  omega
 ·omega
 ·have:=hi h
  omega
 ·rw [Ep bJ i.2 (by omega),(hi h).1]
 ·have:=hi h; omega
 ·omega
 ·have:=hi h
  rw [this.1,show i.2=bJ.length by omega,List.take_length]
theorem BH (bJ:List (List Int)):(fun (x:(List Int))=>(bJ.length≤100∧∀ i,i < bJ.length→(bJ.getD i default).length≤1000000)→x=bJ.flatten) (vl bJ):=have h:=Sk.de _ (uU bJ); h
theorem Er (bJ:List (List Int)) (hn:(bJ.length≤100∧∀ i,i < bJ.length→(bJ.getD i default).length≤1000000)):(j9 bJ).bz (fun _=>True):=by
 refine Sk.aX _ ?_
 unfold j9
 simp only [Sk.kq,Sk.aO,reduceCtorEq,ON,kk,kp,ot,maxLen]
 refine ⟨⟨fun h=>⟨by omega,by omega,by omega⟩,fun i hi hl=>⟨fun hc=>⟨⟨by omega,of_decide_eq_true hc⟩,fun _=>⟨fun hd=>?_,fun hd _=>⟨?_,⟨fun h=>?_,?_⟩⟩⟩⟩,fun hc h=>?_⟩⟩,fun b hb=>⟨?_,fun x _ hx=>⟨fun h=>⟨by simp [hx],by omega⟩,fun i hi hl=>⟨fun hc=>⟨⟨by omega,of_decide_eq_true hc⟩,fun _=>⟨?_,fun _ _=>⟨?_,⟨fun h=>⟨?_,?_⟩,?_⟩⟩⟩⟩,fun hc h=>?_⟩⟩⟩⟩
 all_goals (try simp only [LN] at hc)
 all_goals (try simp only [LN] at hd)
 ·have h1:=hi hn
  have h2:=hn.2 i.2 (by omega)
  rw [aG (by omega) (by omega)] at hd
  omega
 ·exact aG (by omega) (by omega)
 ·have h1:=hi h
  have h2:=h.2 i.2 (by omega)
  rw [aG (by omega) (by omega)]
  omega
 ·omega
 ·have:=hi h
  omega
 ·have:=hb hn; omega
 ·have h1:=hi hn
  have h2:=hn.2 i.2 (by omega)
  have h3:=M4 bJ 1000000 hn.2 i.2 (by omega)
  rw [← h1.1] at h3
  omega
 ·exact aG (by omega) (by omega)
 ·rw [Ep bJ i.2 (by omega),(hi h).1]
 ·have:=hi h; omega
 ·omega
 ·have:=hi h
  rw [this.1,show i.2=bJ.length by omega,List.take_length]
def xV bJ:=kp tok mixed Tryz.func225 [lv (slE eA).cells bJ] (fun x=>lv bU x) false (vl bJ) (Er bJ) (uU bJ)
def sC (rv:Machine→Term→aH × (List Int)) (rp:Machine→Term→Prop) (rf:∀ (m:Machine) (t:Term),rp m t→gu Tryz.prog 201 [av [mW aH.cells m.eS],av t.cells] [] (.fL [av ((rv m t).1).cells,lv bU ((rv m t).2)]) []) (m:Machine) (t:Term):gn (aH × (List Int)):=⟨Tryz.prog,201,[av [mW aH.cells m.eS],av t.cells],fun x=>.fL [av x.1.cells,lv bU x.2],false,rv m t,rp m t,rf m t,fun _=>True,trivial⟩
def dS (rv:Machine→Term→aH × (List Int)) (rp:Machine→Term→Prop) (rf:∀ (m:Machine) (t:Term),rp m t→gu Tryz.prog 201 [av [mW aH.cells m.eS],av t.cells] [] (.fL [av ((rv m t).1).cells,lv bU ((rv m t).2)]) []) (m:Machine) (t:Term):Sk (aH × (List Int)) :=
 .bind false (fun b1=>b1=(t.op == 0||t.op == 1))
 (.br (t.op == 0)
 (.fin (.inr (t.op == 0)))
 (.fin (.inr (t.op == 1))))
 (fun (b1:Bool)=>⟨[(15,bv b1)],[]⟩) fun b1 =>
 .br b1
 (.fin (({ known:=true,n:=t.n }:aH),[]))
 (.br (t.op == 2)
 (.r 6 ((rO m t.n).c) fun x2 =>
 .br x2.known
 (.fin (x2,[]))
 (.r 9 (.o [.fU (gB eA [t.n])]) fun _ =>
 .fin (({ known:=false,n:=0 }:aH),[t.n])))
 (.r 10 (.aq (.o [.fU (mkC aH.E t.args.length ({ known:=false,n:=0 }:aH))]) (.p (VC ((t.args.length:Nat):Int) 16))) fun _ =>
 .r 11 (.aq (.o [.fU (mkN (slE eA) t.args.length ([]:List Int) [.v (.slice none 0 0)] (by kernel_rfl))]) (.p (VC ((t.args.length:Nat):Int) 24))) fun _ =>
 .bind true (fun b3=>b3.1.length=t.args.length∧b3.2.length=t.args.length∧∀ q,q < t.args.length→b3.1.getD q default=(rv m (t.args.getD q default)).1∧b3.2.getD q default=(rv m (t.args.getD q default)).2)
 (.loop (default:Sum (aH × (List Int)) ((List aH) × (List (List Int)))) (fun i4=>i4.1.length=t.args.length∧i4.2.1.length=t.args.length∧i4.2.2≤t.args.length∧∀ q,q < i4.2.2→i4.1.getD q default=(rv m (t.args.getD q default)).1∧i4.2.1.getD q default=(rv m (t.args.getD q default)).2) (fun i4=>t.args.length - i4.2.2) ((List.replicate t.args.length ({ known:=false,n:=0 }:aH),List.replicate t.args.length ([]:List Int),0):(List aH) × (List (List Int)) × Nat)
 (fun (i4:(List aH) × (List (List Int)) × Nat)=>⟨[(7,ow 100004 i4.1),(8,ow 100005 i4.2.1),(45,iv (i4.2.2:Int))],[(100004,bO 71 2 aH.cells i4.1),(100005,bO 64 1 (slE eA).cells i4.2.1)]⟩) fun i4 =>
 .lt 43 0 i4.2.2 t.args.length
 (.r 14 (.aq (.p (bG (i4.2.2:Int) t.args.length)) (.o [.cast 48 (YR (Term.HT (t.args.getD i4.2.2 default)))])) fun _ =>
 .r 15 (.o9 ((sC rv rp rf m (t.args.getD i4.2.2 default)).c) fun x5=>.aq (.p (bG (i4.2.2:Int) i4.1.length)) (.aq (.aq (.o [.fU (vU aH.E i4.1 i4.2.2 x5.1)]) (.p (i4.2.2 < i4.1.length))) (.aq (.p (bG (i4.2.2:Int) i4.2.1.length)) (.aq (.o [.fU (vU (slE eA) i4.2.1 i4.2.2 x5.2)]) (.p (i4.2.2 < i4.2.1.length)))))) fun x5 =>
 .wn 100004 i4.1.length (i4.1.set i4.2.2 x5.1).length <|
 .wn 100005 i4.2.1.length (i4.2.1.set i4.2.2 x5.2).length <|
 .nx 16 45 i4.2.2 (i4.1.set i4.2.2 x5.1,i4.2.1.set i4.2.2 x5.2,i4.2.2+1))
 (.fin (.inl (.inr (i4.1,i4.2.1)))))
 (fun (b3:(List aH) × (List (List Int)))=>⟨[(7,ow 100002 b3.1),(8,ow 100003 b3.2)],[(100002,bO 71 2 aH.cells b3.1),(100003,bO 64 1 (slE eA).cells b3.2)]⟩) fun b3 =>
 .r 17 (.aq (.wh (t.op == 6) true (.p (bG (0:Int) b3.1.length))) (.wh (t.op == 6) true (.p (0 < b3.1.length)))) fun _ =>
 .br ((t.op == 6)&&((b3.1.getD 0 default).known))
 (.r 18 (.aq (.p (bG (0:Int) b3.1.length)) (.p (0 < b3.1.length))) fun _ =>
 .r 19 (.aq (.p (bG (au ((2:Int) - ((b3.1.getD 0 default).n))) b3.1.length)) (.aq (.p ((au ((2:Int) - ((b3.1.getD 0 default).n))).toNat < b3.1.length)) (.aq (.p (bG (au ((2:Int) - ((b3.1.getD 0 default).n))) b3.2.length)) (.p ((au ((2:Int) - ((b3.1.getD 0 default).n))).toNat < b3.2.length))))) fun _ =>
 .fin (b3.1.getD ((au ((2:Int) - ((b3.1.getD 0 default).n))).toNat) default,b3.2.getD ((au ((2:Int) - ((b3.1.getD 0 default).n))).toNat) default))
 (.r 20 ((zo t.op b3.1).c) fun x6 =>
 .br x6.known
 (.fin (x6,[]))
 (.fz 100003 <|
 .r 23 ((xV b3.2).c) fun x7 =>
 .fin (({ known:=false,n:=0 }:aH),x7)))))
def ae:Nat→Machine→Term→aH × (List Int)
 | 0,_,_=>default
 | fu+1,m,t=>(dS (ae fu) (fun _ _=>False) (fun _ _=>fun h=>h.elim) m t).val
theorem M5 (fu:Nat) (m:Machine) (n:Int):ae (fu+1) m ⟨0,n,[]⟩=(⟨true,n⟩,[]):=by kernel_rfl
theorem IB (fu:Nat) (m:Machine) (n:Int):ae (fu+1) m ⟨1,n,[]⟩=(⟨true,n⟩,[]):=by kernel_rfl
theorem M6 (fu:Nat) (m:Machine) (n:Int):ae (fu+1) m ⟨2,n,[]⟩=bif (hX m n).known then (hX m n,[]) else (⟨false,0⟩,[n]):=by kernel_rfl
def oY (op:Int) (cs:List aH) (ns:List (List Int)):aH × List Int:=bif (bQ op cs).known then (bQ op cs,[]) else (⟨false,0⟩,vl ns)
theorem M7 (fu:Nat) (m:Machine) (n:Int) (a:Term):ae (fu+1) m ⟨3,n,[a]⟩=oY 3 [(ae fu m a).1] [(ae fu m a).2]:=by kernel_rfl
theorem run_ite (fu:Nat) (m:Machine) (n:Int) (a b c:Term):ae (fu+1) m ⟨6,n,[a,b,c]⟩ = 
 (let x:=(ae fu m a); let y:=(ae fu m b); let z:=(ae fu m c);
  bif x.1.known then ([x.1,y.1,z.1].getD (au (2 - x.1.n)).toNat default,[x.2,y.2,z.2].getD (au (2 - x.1.n)).toNat default) else oY 6 [x.1,y.1,z.1] [x.2,y.2,z.2]):=by kernel_rfl
theorem Xd (fu:Nat) (m:Machine) (n:Int) (a b:Term):ae (fu+1) m ⟨4,n,[a,b]⟩=oY 4 [(ae fu m a).1,(ae fu m b).1] [(ae fu m a).2,(ae fu m b).2]:=by kernel_rfl
theorem Xe (fu:Nat) (m:Machine) (n:Int) (a b:Term):ae (fu+1) m ⟨5,n,[a,b]⟩=oY 5 [(ae fu m a).1,(ae fu m b).1] [(ae fu m a).2,(ae fu m b).2]:=by kernel_rfl
theorem Xf (fu:Nat) (m:Machine) (n:Int) (a b:Term):ae (fu+1) m ⟨7,n,[a,b]⟩=oY 7 [(ae fu m a).1,(ae fu m b).1] [(ae fu m a).2,(ae fu m b).2]:=by kernel_rfl
theorem Xg (fu:Nat) (m:Machine) (n:Int) (a b:Term):ae (fu+1) m ⟨8,n,[a,b]⟩=oY 8 [(ae fu m a).1,(ae fu m b).1] [(ae fu m a).2,(ae fu m b).2]:=by kernel_rfl
theorem Xh (fu:Nat) (m:Machine) (n:Int) (a b:Term):ae (fu+1) m ⟨9,n,[a,b]⟩=oY 9 [(ae fu m a).1,(ae fu m b).1] [(ae fu m a).2,(ae fu m b).2]:=by kernel_rfl
theorem U2 (fu:Nat) (m:Machine) (n:Int) (a b:Term):ae (fu+1) m ⟨10,n,[a,b]⟩=oY 10 [(ae fu m a).1,(ae fu m b).1] [(ae fu m a).2,(ae fu m b).2]:=by kernel_rfl
theorem U3 (fu:Nat) (m:Machine) (n:Int) (a b:Term):ae (fu+1) m ⟨11,n,[a,b]⟩=oY 11 [(ae fu m a).1,(ae fu m b).1] [(ae fu m a).2,(ae fu m b).2]:=by kernel_rfl
theorem U4 (fu:Nat) (m:Machine) (n:Int) (a b:Term):ae (fu+1) m ⟨12,n,[a,b]⟩=oY 12 [(ae fu m a).1,(ae fu m b).1] [(ae fu m a).2,(ae fu m b).2]:=by kernel_rfl
theorem U5 (fu:Nat) (m:Machine) (n:Int) (a b:Term):ae (fu+1) m ⟨13,n,[a,b]⟩=oY 13 [(ae fu m a).1,(ae fu m b).1] [(ae fu m a).2,(ae fu m b).2]:=by kernel_rfl
theorem uV (fu:Nat) (m:Machine) (op n:Int) (h:op=4∨op=5∨op=7∨op=8∨(9≤op∧op≤13)) (a b:Term):ae (fu+1) m ⟨op,n,[a,b]⟩=oY op [(ae fu m a).1,(ae fu m b).1] [(ae fu m a).2,(ae fu m b).2]:=by
 have:op=4∨op=5∨op=7∨op=8∨op=9∨op=10∨op=11∨op=12∨op=13:=by omega
 rcases this with rfl | rfl | rfl | rfl | rfl | rfl | rfl | rfl | rfl
 ·exact Xd fu m n a b
 ·exact Xe fu m n a b
 ·exact Xf fu m n a b
 ·exact Xg fu m n a b
 ·exact Xh fu m n a b
 ·exact U2 fu m n a b
 ·exact U3 fu m n a b
 ·exact U4 fu m n a b
 ·exact U5 fu m n a b
def Y4 (c:aH):Prop:=c.known=true→c.n=0∨c.n=1
theorem M8 (b:Bool):wj b=⟨true,if b then 1 else 0⟩:=by cases b <;> kernel_rfl
theorem Xi (b:Bool):Y4 (wj b):=by rw [M8]; intro _; cases b <;> simp
theorem IC (a:aH):bQ 3 [a]=bif a.known then wj (a.n == 0) else ⟨false,0⟩:=by
 obtain ⟨k,n⟩:=a
 cases k <;> kernel_rfl
def KH (c:aH) (n:Int):aH:=bif c.known then (bif decide (n < 7) then ⟨true,Iv c.n⟩ else ⟨true,bif c.n != 0 then 1 else 0⟩) else ⟨false,0⟩
theorem ID (m:Machine) (n:Int) (h:0≤n∧n≤19):hX m n=KH (m.eS.getD n.toNat default) n:=by
 simp only [hX,fK,Sk.iG,Sk.eQ,Sk.cO,gn.xS,kk,kp,bg.pq,j8,gv,xp,iP,jG,KH,M8]
 rw [show (decide (n < 0)||decide (n > 19))=false from by simp; omega]
 by_cases hl:n≥m.eS.length
 ·have e:m.eS.getD n.toNat default=⟨false,0⟩:=by
   rw [List.getD,List.getElem?_eq_none (by omega)]
   rfl
  rw [e,decide_eq_true hl]
  rfl
 ·rw [decide_eq_false hl]
  cases hk:(m.eS.getD n.toNat default).known with
  | false=>rfl
  | true =>
   by_cases c:n < 7
   ·rw [decide_eq_true c]; rfl
   ·rw [decide_eq_false c]
    cases hn:((m.eS.getD n.toNat default).n != 0) <;> rfl
theorem aaX (c:aH) (n:Int) (h:7≤n):Y4 (KH c n):=by
 unfold KH
 rw [decide_eq_false (by omega)]
 intro hk
 cases hc:c.known with
 | false=>rw [hc] at hk; exact absurd (show false=true from hk) (by decide)
 | true =>
  cases hn:(c.n != 0)
  ·left; rfl
  ·right; rfl
theorem Es (op:Int) (h:op=4∨op=5) (a b:aH):bQ op [a,b]=(let z:Int:=if op=5 then 1 else 0; bif (a.known&&a.n == z)||(b.known&&b.n == z) then ⟨true,z⟩ else bif a.known&&b.known then ⟨true,1 - z⟩ else ⟨false,0⟩):=by
 obtain ⟨k,n⟩:=a
 obtain ⟨k',n'⟩:=b
 rcases h with rfl | rfl
 ·cases k <;> cases k' <;> cases h1:(n == 0) <;> cases h2:(n' == 0) <;> simp [bQ,fx,gv,M8,h1,h2]
 ·cases k <;> cases k' <;> cases h1:(n == 1) <;> cases h2:(n' == 1) <;> simp [bQ,fx,gv,M8,h1,h2]
theorem M9 (a b c:aH):bQ 6 [a,b,c]=bif b.known&&(c.known&&b.n == c.n) then b else ⟨false,0⟩:=by
 obtain ⟨k,n⟩:=b
 obtain ⟨k',n'⟩:=c
 cases k <;> cases k' <;> cases h1:(n == n') <;> simp [bQ,fx,h1]
theorem xt (op:Int) (h:7≤op) (a b:aH):bQ op [a,b]=bif a.known&&b.known then (if op=7 then wj (decide (a.n < b.n)) else if op=8 then wj (a.n == b.n) else ⟨true,xU op a.n b.n⟩) else ⟨false,0⟩:=by
 obtain ⟨k,n⟩:=a
 obtain ⟨k',n'⟩:=b
 have e3:(op == 3)=false:=by simp; omega
 have e4:(op == 4)=false:=by simp; omega
 have e5:(op == 5)=false:=by simp; omega
 have e6:(op == 6)=false:=by simp; omega
 simp only [bQ,fx,Sk.dh,Sk.eQ,Sk.iG,Sk.cO,e3,e4,e5,e6,cond_false,UJ,tq,gn.xS,kk,kp,gv,pH]
 cases k <;> cases k' <;> (try rfl)
 by_cases c7:op=7
 ·subst c7; rfl
 ·have e7:(op == 7)=false:=by simpa using c7
  by_cases c8:op=8
  ·subst c8; rfl
  ·have e8:(op == 8)=false:=by simpa using c8
   simp [e7,e8,c7,c8]
theorem wm (op:Int) (cs:List aH) (ns:List (List Int)) (h:Y4 (bQ op cs)):Y4 (oY op cs ns).1:=by
 unfold oY
 cases hk:(bQ op cs).known with
 | true=>exact h
 | false=>intro h; exact absurd (show false=true from h) (by decide)
theorem tv (op:Int) (cs:List aH) (ns:List (List Int)) (B:Nat) (hB:B≤1000000) (hl:ns.length≤3) (h:∀ q,q < ns.length→(ns.getD q default).length≤B):(oY op cs ns).2.length≤3 * B:=by
 unfold oY
 cases hk:(bQ op cs).known with
 | true=>simp
 | false =>
  simp only [cond_false]
  rw [BH ns ⟨by omega,fun q hq=>Nat.le_trans (h q hq) hB⟩]
  have:=M4 ns B h ns.length (Nat.le_refl _)
  rw [List.take_length] at this
  have:B * ns.length≤B * 3:=Nat.mul_le_mul_left _ hl
  omega
theorem Xj (op n:Int) (a:Term):Term.depth ⟨op,n,[a]⟩=a.depth+1:=by simp [Term.depth,Term.eR]
theorem Et (op n:Int) (a b:Term):Term.depth ⟨op,n,[a,b]⟩=max a.depth b.depth+1:=by simp [Term.depth,Term.eR]
theorem Xk (op n:Int) (a b c:Term):Term.depth ⟨op,n,[a,b,c]⟩=max a.depth (max b.depth c.depth)+1:=by simp [Term.depth,Term.eR]
theorem lA {a b:Nat} (h:a≤b):3 ^ a≤3 ^ b:=Nat.pow_le_pow_right (by omega) h
theorem Ae {t:Term} {k:Int} (h:vH t k):∀ (fu:Nat) (m:Machine),t.depth≤fu→t.depth≤8→(k=1→Y4 (ae fu m t).1)∧(ae fu m t).2.length≤3 ^ t.depth:=by
 have h8:∀ d,d≤8→3 ^ d≤1000000:=fun d hd=>Nat.le_trans (lA hd) (by decide)
 induction h with
 | int hn =>
  intro fu m hd _
  cases fu with
  | zero=>exact absurd hd (by simp [Term.depth,Term.eR])
  | succ fu=>rw [M5]; exact ⟨fun h=>absurd h (by decide),by simp⟩
 | @bool n hn =>
  intro fu m hd _
  cases fu with
  | zero=>exact absurd hd (by simp [Term.depth,Term.eR])
  | succ fu=>rw [IB]; exact ⟨fun _ _=>by show n=0∨n=1; omega,by simp⟩
 | @var n hn =>
  intro fu m hd _
  cases fu with
  | zero=>exact absurd hd (by simp [Term.depth,Term.eR])
  | succ fu =>
   rw [M6,ID m n hn]
   refine ⟨fun h=>?_,?_⟩
   ·have:=aaX (m.eS.getD n.toNat default) n (by split at h <;> omega)
    cases hk:(KH (m.eS.getD n.toNat default) n).known with
    | true=>exact this
    | false=>intro h; exact absurd (show false=true from h) (by decide)
   ·cases hk:(KH (m.eS.getD n.toNat default) n).known <;> simp [Term.depth,Term.eR]
 | @not a _ ih =>
  intro fu m hd Xl
  cases fu with
  | zero=>exact absurd hd (by simp [Term.depth,Term.eR])
  | succ fu =>
   rw [Xj] at hd Xl ⊢
   have ih:=ih fu m (by omega) (by omega)
   rw [M7]
   refine ⟨fun _=>wm _ _ _ ?_,?_⟩
   ·rw [IC]
    cases hk:(ae fu m a).1.known with
    | true=>exact Xi _
    | false=>intro h; exact absurd (show false=true from h) (by decide)
   ·have:=tv 3 [(ae fu m a).1] [(ae fu m a).2] (3 ^ a.depth) (h8 _ (by omega)) (by simp) (fun q hq=>by
     have:q=0:=by simpa using hq
     subst this
     exact ih.2)
    rw [Nat.pow_succ]; omega
 | @Xb op a b wP _ _ Fb DF =>
  intro fu m hd Xl
  cases fu with
  | zero=>exact absurd hd (by simp [Term.depth,Term.eR])
  | succ fu =>
   rw [Et] at hd Xl ⊢
   have Fb:=Fb fu m (by omega) (by omega)
   have DF:=DF fu m (by omega) (by omega)
   rw [uV _ _ _ _ (by omega)]
   refine ⟨fun _=>wm _ _ _ ?_,?_⟩
   ·rw [Es op wP]
    dsimp only
    split
    ·cases (((ae fu m a).1.known&&(ae fu m a).1.n == 1)||((ae fu m b).1.known&&(ae fu m b).1.n == 1)) <;> cases ((ae fu m a).1.known&&(ae fu m b).1.known) <;> simp [Y4]
    ·cases (((ae fu m a).1.known&&(ae fu m a).1.n == 0)||((ae fu m b).1.known&&(ae fu m b).1.n == 0)) <;> cases ((ae fu m a).1.known&&(ae fu m b).1.known) <;> simp [Y4]
   ·have:=tv op [(ae fu m a).1,(ae fu m b).1] [(ae fu m a).2,(ae fu m b).2] (3 ^ (max a.depth b.depth)) (h8 _ (by omega)) (by simp) (fun q hq=>by
     have:q=0∨q=1:=by simp at hq; omega
     rcases this with rfl | rfl
     ·exact Nat.le_trans Fb.2 (lA (by omega))
     ·exact Nat.le_trans DF.2 (lA (by omega)))
    rw [Nat.pow_succ]; omega
 | @ite a b c k ha _ _ Fb DF ihc =>
  intro fu m hd Xl
  cases fu with
  | zero=>exact absurd hd (by simp [Term.depth,Term.eR])
  | succ fu =>
   rw [Xk] at hd Xl ⊢
   have Fb:=Fb fu m (by omega) (by omega)
   have DF:=DF fu m (by omega) (by omega)
   have ihc:=ihc fu m (by omega) (by omega)
   rw [run_ite]
   dsimp only
   have lb:=Nat.le_trans DF.2 (lA (b:=max a.depth (max b.depth c.depth)+1) (by omega))
   have lc:=Nat.le_trans ihc.2 (lA (b:=max a.depth (max b.depth c.depth)+1) (by omega))
   cases hk:(ae fu m a).1.known with
   | true =>
    simp only [cond_true]
    rcases Fb.1 rfl hk with e | e
    ·rw [e]
     exact ⟨ihc.1,lc⟩
    ·rw [e]
     exact ⟨DF.1,lb⟩
   | false =>
    simp only [cond_false]
    refine ⟨fun h=>wm _ _ _ ?_,?_⟩
    ·rw [M9]
     cases ((ae fu m b).1.known&&((ae fu m c).1.known&&(ae fu m b).1.n == (ae fu m c).1.n)) with
     | true=>exact DF.1 h
     | false=>intro h; exact absurd (show false=true from h) (by decide)
    ·have:=tv 6 [(ae fu m a).1,(ae fu m b).1,(ae fu m c).1] [(ae fu m a).2,(ae fu m b).2,(ae fu m c).2] (3 ^ (max a.depth (max b.depth c.depth))) (h8 _ (by omega)) (by simp) (fun q hq=>by
      have:q=0∨q=1∨q=2:=by simp at hq; omega
      rcases this with rfl | rfl | rfl
      ·exact Nat.le_trans Fb.2 (lA (by omega))
      ·exact Nat.le_trans DF.2 (lA (by omega))
      ·exact Nat.le_trans ihc.2 (lA (by omega)))
     rw [Nat.pow_succ]; omega
 | @less a b _ _ Fb DF =>
  intro fu m hd Xl
  cases fu with
  | zero=>exact absurd hd (by simp [Term.depth,Term.eR])
  | succ fu =>
   rw [Et] at hd Xl ⊢
   have Fb:=Fb fu m (by omega) (by omega)
   have DF:=DF fu m (by omega) (by omega)
   rw [uV _ _ _ _ (by omega)]
   refine ⟨fun _=>wm _ _ _ ?_,?_⟩
   ·rw [xt 7 (by omega)]
    cases ((ae fu m a).1.known&&(ae fu m b).1.known) with
    | true=>exact Xi _
    | false=>intro h; exact absurd (show false=true from h) (by decide)
   ·have:=tv 7 [(ae fu m a).1,(ae fu m b).1] [(ae fu m a).2,(ae fu m b).2] (3 ^ (max a.depth b.depth)) (h8 _ (by omega)) (by simp) (fun q hq=>by
     have:q=0∨q=1:=by simp at hq; omega
     rcases this with rfl | rfl
     ·exact Nat.le_trans Fb.2 (lA (by omega))
     ·exact Nat.le_trans DF.2 (lA (by omega)))
    rw [Nat.pow_succ]; omega
 | @eq a b _ _ _ Fb DF =>
  intro fu m hd Xl
  cases fu with
  | zero=>exact absurd hd (by simp [Term.depth,Term.eR])
  | succ fu =>
   rw [Et] at hd Xl ⊢
   have Fb:=Fb fu m (by omega) (by omega)
   have DF:=DF fu m (by omega) (by omega)
   rw [uV _ _ _ _ (by omega)]
   refine ⟨fun _=>wm _ _ _ ?_,?_⟩
   ·rw [xt 8 (by omega)]
    cases ((ae fu m a).1.known&&(ae fu m b).1.known) with
    | true=>exact Xi _
    | false=>intro h; exact absurd (show false=true from h) (by decide)
   ·have:=tv 8 [(ae fu m a).1,(ae fu m b).1] [(ae fu m a).2,(ae fu m b).2] (3 ^ (max a.depth b.depth)) (h8 _ (by omega)) (by simp) (fun q hq=>by
     have:q=0∨q=1:=by simp at hq; omega
     rcases this with rfl | rfl
     ·exact Nat.le_trans Fb.2 (lA (by omega))
     ·exact Nat.le_trans DF.2 (lA (by omega)))
    rw [Nat.pow_succ]; omega
 | @arith op a b wP _ _ Fb DF =>
  intro fu m hd Xl
  cases fu with
  | zero=>exact absurd hd (by simp [Term.depth,Term.eR])
  | succ fu =>
   rw [Et] at hd Xl ⊢
   have Fb:=Fb fu m (by omega) (by omega)
   have DF:=DF fu m (by omega) (by omega)
   rw [uV _ _ _ _ (by omega)]
   refine ⟨fun h=>absurd h (by decide),?_⟩
   have:=tv op [(ae fu m a).1,(ae fu m b).1] [(ae fu m a).2,(ae fu m b).2] (3 ^ (max a.depth b.depth)) (h8 _ (by omega)) (by simp) (fun q hq=>by
    have:q=0∨q=1:=by simp at hq; omega
    rcases this with rfl | rfl
    ·exact Nat.le_trans Fb.2 (lA (by omega))
    ·exact Nat.le_trans DF.2 (lA (by omega)))
   rw [Nat.pow_succ]; omega
theorem vH.parts {t:Term} {k:Int} (h:vH t k):(t.op=0∨t.op=1∨(t.op=2∧0≤t.n))∨((∀ q,q < t.args.length→∃ j,vH (t.args.getD q default) j)∧((t.op=3∧t.args.length=1)∨(t.op=6∧t.args.length=3∧vH (t.args.getD 0 default) 1)∨(t.op≠0∧t.op≠1∧t.op≠2∧t.op≠3∧t.op≠6∧t.args.length=2))):=by
 cases h with
 | int _=>left; left; rfl
 | bool _=>left; right; left; rfl
 | var h=>left; right; right; exact ⟨rfl,h.1⟩
 | not h =>
  right
  refine ⟨fun q hq=>?_,.inl ⟨rfl,rfl⟩⟩
  obtain rfl:q=0:=by simpa using hq
  exact ⟨_,h⟩
 | Xb o h1 h2 =>
  right
  refine ⟨fun q hq=>?_,.inr (.inr ⟨by dsimp only; omega,by dsimp only; omega,by dsimp only; omega,by dsimp only; omega,by dsimp only; omega,rfl⟩)⟩
  have:q=0∨q=1:=by simp at hq; omega
  rcases this with rfl | rfl
  ·exact ⟨_,h1⟩
  ·exact ⟨_,h2⟩
 | ite h1 h2 h3 =>
  right
  refine ⟨fun q hq=>?_,.inr (.inl ⟨rfl,rfl,h1⟩)⟩
  have:q=0∨q=1∨q=2:=by simp at hq; omega
  rcases this with rfl | rfl | rfl
  ·exact ⟨_,h1⟩
  ·exact ⟨_,h2⟩
  ·exact ⟨_,h3⟩
 | less h1 h2 =>
  right
  refine ⟨fun q hq=>?_,.inr (.inr ⟨by dsimp only; omega,by dsimp only; omega,by dsimp only; omega,by dsimp only; omega,by dsimp only; omega,rfl⟩)⟩
  have:q=0∨q=1:=by simp at hq; omega
  rcases this with rfl | rfl
  ·exact ⟨_,h1⟩
  ·exact ⟨_,h2⟩
 | eq h1 h2 =>
  right
  refine ⟨fun q hq=>?_,.inr (.inr ⟨by dsimp only; omega,by dsimp only; omega,by dsimp only; omega,by dsimp only; omega,by dsimp only; omega,rfl⟩)⟩
  have:q=0∨q=1:=by simp at hq; omega
  rcases this with rfl | rfl
  ·exact ⟨_,h1⟩
  ·exact ⟨_,h2⟩
 | arith o h1 h2 =>
  right
  refine ⟨fun q hq=>?_,.inr (.inr ⟨by dsimp only; omega,by dsimp only; omega,by dsimp only; omega,by dsimp only; omega,by dsimp only; omega,rfl⟩)⟩
  have:q=0∨q=1:=by simp at hq; omega
  rcases this with rfl | rfl
  ·exact ⟨_,h1⟩
  ·exact ⟨_,h2⟩
theorem AF (fu:Nat) (rf:∀ (m:Machine) (t:Term),t.depth≤fu∧(t.CV)→gu Tryz.prog 201 [av [mW aH.cells m.eS],av t.cells] [] (.fL [av ((ae fu m t).1).cells,lv bU ((ae fu m t).2)]) []) (m:Machine) (t:Term) (hm:t.depth≤fu+1) (ht:t.CV):(dS (ae fu) (fun m t=>t.depth≤fu∧(t.CV)) rf m t).bz (fun _=>True):=by
 refine Sk.aX _ ?_
 unfold dS
 simp only [Sk.kq,Sk.aO,reduceCtorEq,ON,kk,kp,xV,zo,rO,sC,maxLen]
 obtain ⟨⟨k,hk⟩,h8⟩:=ht
 have Xm:=hk.parts
 refine ⟨⟨fun _=>by simp_all,fun _=>by simp_all⟩,fun b _ hb hbf=>?_⟩
 rw [hb] at hbf
 simp only [LN] at hbf
 refine ⟨fun h2=>?_,fun h2=>?_⟩
 ·simp only [LN] at h2
  rcases Xm with h | h
  ·omega
  ·omega
 ·simp only [LN] at h2
  have hp:(∀ q,q < t.args.length→∃ j,vH (t.args.getD q default) j)∧((t.op=3∧t.args.length=1)∨(t.op=6∧t.args.length=3∧vH (t.args.getD 0 default) 1)∨(t.op≠0∧t.op≠1∧t.op≠2∧t.op≠3∧t.op≠6∧t.args.length=2)):=by
   rcases Xm with h | h
   ·omega
   ·exact h
  obtain ⟨hp1,hp2⟩:=hp
  have hlen:t.args.length≤3:=by omega
  have Se:∀ q,q < t.args.length→(t.args.getD q default).depth≤fu∧(t.args.getD q default).depth≤8:=fun q hq=>by have:=t.kB q hq; omega
  refine ⟨⟨by omega,by omega,by omega⟩,fun _=>⟨⟨by omega,by omega,by omega⟩,fun _=>⟨⟨⟨by simp,by simp,by omega,fun q hq=>absurd hq (by omega)⟩,fun i hi hl=>⟨fun hc=>⟨⟨by omega,of_decide_eq_true hc⟩,fun _=>⟨⟨⟨?_,?_⟩,fun x hx=>⟨⟨by omega,?_⟩,?_,⟨by omega,?_⟩,?_⟩⟩,fun x hx=>⟨by simp,by simp,fun _=>⟨?_,⟨⟨by simp [hi.1],by simp [hi.2.1],?_,fun q hq=>?_⟩,?_⟩⟩⟩⟩⟩,fun hc=>⟨hi.1,hi.2.1,fun q hq=>hi.2.2.2 q (by simp only [LN] at hc; omega)⟩⟩⟩,fun b hb=>?_⟩⟩⟩
  all_goals (try simp only [LN] at hc)
  ·exact (Se _ (by omega)).1
  ·exact ⟨hp1 _ (by omega),(Se _ (by omega)).2⟩
  ·omega
  ·omega
  ·omega
  ·omega
  ·exact aG (by omega) (by omega)
  ·omega
  ·by_cases e:q=i.2.2
   ·subst e
    subst hx
    exact ⟨oH _ (by omega) _ _,oH _ (by omega) _ _⟩
   ·have:=hi.2.2.2 q (by omega)
    rw [← this.1,← this.2]
    exact ⟨oI _ e _ _,oI _ e _ _⟩
  ·omega
  ·refine ⟨⟨fun _=>⟨by omega,by omega⟩,fun _=>by omega⟩,fun _=>⟨fun h6=>?_,fun _=>⟨?_,fun x _ _=>⟨?_,?_⟩⟩⟩⟩
   ·simp only [LN] at h6
    have h01:Y4 (b.1.getD 0 default):=by
     rw [(hb.2.2 0 (by omega)).1]
     rcases hp2 with h | h | h
     ·omega
     ·exact (Ae h.2.2 fu m (Se 0 (by omega)).1 (Se 0 (by omega)).2).1 rfl
     ·omega
    have h01:=h01 h6.2
    have hw:au (2 - (b.1.getD 0 default).n)=2 - (b.1.getD 0 default).n:=aG (by omega) (by omega)
    rw [hw]
    refine ⟨⟨by omega,by omega⟩,fun _=>⟨⟨by omega,by omega⟩,by omega,⟨by omega,by omega⟩,by omega⟩⟩
   ·omega
   ·omega
   ·intro q hq
    rw [hb.2.1] at hq
    rw [(hb.2.2 q hq).2]
    obtain ⟨j,hj⟩:=hp1 q hq
    have:=(Ae hj fu m (Se q hq).1 (Se q hq).2).2
    have h3:(3:Nat) ^ (t.args.getD q default).depth≤3 ^ 8:=Nat.pow_le_pow_right (by omega) (Se q hq).2
    have:(3:Nat) ^ 8=6561:=by decide
    omega
theorem zq (fu:Nat) (rp:Machine→Term→Prop) (rf:∀ (m:Machine) (t:Term),rp m t→gu Tryz.prog 201 [av [mW aH.cells m.eS],av t.cells] [] (.fL [av ((ae fu m t).1).cells,lv bU ((ae fu m t).2)]) []) (m:Machine) (t:Term):(dS (ae fu) rp rf m t).val=ae (fu+1) m t:=by kernel_rfl
theorem zr (fu:Nat):∀ (m:Machine) (t:Term),t.depth≤fu→t.CV→gu Tryz.prog 201 [av [mW aH.cells m.eS],av t.cells] [] (.fL [av ((ae fu m t).1).cells,lv bU ((ae fu m t).2)]) []:=by
 induction fu with
 | zero=>intro m t hm h0; exact absurd hm (by have:=Term.tu t; omega)
 | succ fu ih =>
  intro m t hm h0
  have h:gu Tryz.prog 201 [av [mW aH.cells m.eS],av t.cells] [] (.fL [av (((dS (ae fu) (fun m t=>t.depth≤fu∧(t.CV)) (fun m t h=>ih m t h.1 h.2) m t).val).1).cells,lv bU (((dS (ae fu) (fun m t=>t.depth≤fu∧(t.CV)) (fun m t h=>ih m t h.1 h.2) m t).val).2)]) []:=gu.sk tok mixed (fun x=>.fL [av x.1.cells,lv bU x.2]) (fun _=>[]) Tryz.func201 rfl (by kernel_rfl) 3000 (dS (ae fu) (fun m t=>t.depth≤fu∧(t.CV)) (fun m t h=>ih m t h.1 h.2) m t) (by kernel_rfl) (AF fu _ m t hm h0)
  rw [zq] at h
  exact h
def mI (m:Machine) (t:Term):aH × (List Int):=ae (t.depth) m t
theorem AG (m:Machine) (t:Term) (ht:t.CV):gu Tryz.prog 201 [av [mW aH.cells m.eS],av t.cells] [] (.fL [av ((mI m t).1).cells,lv bU ((mI m t).2)]) []:=zr _ m t (Nat.le_refl _) ht
def tX (m:Machine) (t:Term):gn (aH × (List Int)):=⟨Tryz.prog,201,[av [mW aH.cells m.eS],av t.cells],fun x=>.fL [av x.1.cells,lv bU x.2],false,mI m t,(t.CV),fun h=>AG m t h,fun _=>True,trivial⟩
def sY (t:Term) (cells:List aH):Sk (aH) :=
 .r 1 ((sX t).c) fun x1 =>
 .br (x1.2 != 0)
 (.fin ({ known:=false,n:=0 }:aH))
 (.r 4 ((tX ({ eS:=cells }:Machine) t).c) fun x2 =>
 .fin x2.1)
def kY t cells:=(sY t cells).val
theorem Na (t:Term) (cells:List aH):(sY t cells).bz (fun _=>True):=by
 refine Sk.aX _ ?_
 unfold sY
 simp only [Sk.kq,Sk.aO,reduceCtorEq,ON,kk,kp,sX,tX,maxLen]
 intro x _ h hc
 simp only [LN] at hc
 exact ⟨⟨_,(h hc).1⟩,(h hc).2⟩
def Fc t cells:=kk tok mixed Tryz.func160 [av t.cells,lv aH.cells cells] (fun x=>av x.cells) true (sY t cells) (kY t cells) (u0 (Na t cells))
def nM (o:Order) (ask:Int) (cells:List aH):Sk (aH × Int) :=
 .r 1 ((CW o ask).c) fun x1 =>
 .br (x1.2 != 0)
 (.fin (({ known:=false,n:=0 }:aH),x1.2))
 (.r 4 ((Fc x1.1 cells).c) fun x2 =>
 .r 5 ((kE ask).c) fun x3 =>
 .br ((x3.1 == 0)&&x2.known)
 (.fin (({ known:=x2.known,n:=bL (cg x2.n 0) 20000 }:aH),0))
 (.fin (x2,0)))
def ji o ask cells:=(nM o ask cells).val
theorem FR (o:Order) (ask:Int) (cells:List aH):(nM o ask cells).bz (fun _=>True):=by
 unfold nM
 try simp only [kE,CW,Fc]
 exact pv
def zt o ask cells:=kk tok mixed Tryz.func121 [av o.cells,iv ask,lv aH.cells cells] (fun x=>.fL [av x.1.cells,iv x.2]) true (nM o ask cells) (ji o ask cells) (u0 (FR o ask cells))
def xu (r:ah) (forum:Int) (aU:Int) (c_:fw):Sk (lW) :=
 .r 1 ((Iu r forum aU c_).c) fun x1 =>
 .br (x1.1.order != (-1))
 (.r 3 (.aq (.p (bG x1.1.order r.aE.length)) ((zt (r.aE.getD x1.1.order.toNat default) aU x1.2).c)) fun x2 =>
 .fin ({ cell:=x2.1,order:=x1.1.order,path:=x1.1.path,err:=x2.2 }:lW))
 (.fin x1.1)
def qZ r forum aU c_:=(xu r forum aU c_).val
theorem Sf (r:ah) (forum:Int) (aU:Int) (c_:fw) (hf:c_.file.Small) (hb:r.cG) (hr:r.Small):(xu r forum aU c_).bz (fun _=>True):=by
 simp only [al.Small,ah.Small,ah.cG] at hf
 simp only [al.Small,ah.Small,ah.cG] at hb
 simp only [al.Small,ah.Small,ah.cG] at hr
 unfold xu
 try simp only [Iu,zt,al.Small,ah.Small,ah.cG]
 exact oj
def gS r forum aU c_:=kk tok mixed Tryz.func68 [av r.cells,iv forum,iv aU,av c_.cells] (fun x=>av x.cells) false (xu r forum aU c_) (qZ r forum aU c_) (u3 (Sf r forum aU c_))
theorem Xn (r:ah) (fo q:Int) (c:fw):qZ r fo q c=bif (ny r fo q c).1.order != (-1) then (⟨(ji (r.aE.getD (ny r fo q c).1.order.toNat default) q (ny r fo q c).2).1,(ny r fo q c).1.order,(ny r fo q c).1.path,(ji (r.aE.getD (ny r fo q c).1.order.toNat default) q (ny r fo q c).2).2⟩:lW) else (ny r fo q c).1:=by
 kernel_rfl
def uW (r:ah) (forum:Int) (aU:Int) (f:al) (day:Int):Sk (lW) :=
 .r 2 (((gS r forum aU ({ file:={ f with facts:=[] },sign:=0,jE:=(-1),jO:=(-1),due:=(-1),day:=day }:fw)).CB 3 18 _ rfl ⟨_,rfl⟩).c) fun x1 =>
 .fin x1
def rP r forum aU f day:=(uW r forum aU f day).val
theorem P8 (r:ah) (forum:Int) (aU:Int) (f:al) (day:Int) (hf:f.Small) (cu:r.cG) (bN:r.Small):(uW r forum aU f day).bz (fun _=>True):=by
 simp only [al.Small,ah.Small,ah.cG] at hf
 simp only [al.Small,ah.Small,ah.cG] at cu
 simp only [al.Small,ah.Small,ah.cG] at bN
 unfold uW
 try simp only [gS,al.Small,ah.Small,ah.cG]
 exact oj
def ou r forum aU f day:=kk tok mixed Tryz.func99 [av r.cells,iv forum,iv aU,av f.cells,iv day] (fun x=>av x.cells) false (uW r forum aU f day) (rP r forum aU f day) (u3 (P8 r forum aU f day))
def ra (s:lW):Sk (Int) :=
 .br ((s.err != 0)||(!s.cell.known))
 (.fin (-1))
 (.fin s.cell.n)
def qC s:=(ra s).val
theorem KI (s:lW):(ra s).bz (fun _=>True):=by
 unfold ra
 exact pv
def mJ s:=kk tok mixed Tryz.func67 [av s.cells] (fun x=>iv x) true (ra s) (qC s) (u0 (KI s))
def rb (x_:List Int):Sk (Int) :=
 .bind false (fun _=>True)
 (.br (decide (((x_.length:Nat):Int) < 1))
 (.dead default)
 (.fin (.inr ())))
 (fun (_:Unit)=>⟨[],[]⟩) fun _ =>
 .r 3 (.p (bG (0:Int) x_.length)) fun _ =>
 .bt
 (.loop (default:Sum (Int) (Int)) (fun i3=>(1:Int)≤i3.2∧i3.2≤(x_.length:Int)) (fun i3=>((x_.length:Int) - i3.2).toNat) ((x_.getD 0 default,1):Int × Int)
 (fun (i3:Int × Int)=>⟨[(3,iv i3.1),(4,iv i3.2)],[]⟩) fun i3 =>
 .br (decide (i3.2 < ((x_.length:Nat):Int)))
 (.r 7 (.p (bG i3.2 x_.length)) fun _ =>
 .fin (.inr (bL i3.1 (x_.getD i3.2.toNat default),au (i3.2+1))))
 (.fin (.inl (.inr i3.1))))
 (fun (b2:Int)=>⟨[(3,iv b2)],[]⟩) fun b2 =>
 .fin b2
def Sg x_:=(rb x_).val
theorem KJ (x_:List Int) (hx:x_.length≠0) (hl:x_.length≤1000000000):(rb x_).bz (fun _=>True):=by
 unfold rb
 exact oj
def CX x_:=kk tok mixed Tryz.func143 [lv bU x_] (fun x=>iv x) true (rb x_) (Sg x_) (u2 (KJ x_))
def pI (f:al):Sk (Int) :=
 .bind true (fun b1=>b1.length≤0+f.af.length)
 (.loop (default:Sum (Int) ((List Int))) (fun i2=>i2.2≤f.af.length∧i2.1.length≤0+i2.2) (fun i2=>f.af.length - i2.2) (([],0):(List Int) × Nat)
 (fun (i2:(List Int) × Nat)=>⟨[(3,ow 100002 i2.1),(16,iv (i2.2:Int))],[(100002,bO 3 1 bU i2.1)]⟩) fun i2 =>
 .lt 14 0 i2.2 f.af.length
 (.r 5 (.p (bG (i2.2:Int) f.af.length)) fun _ =>
 .br ((f.aR.cR.kind == 1)&&(((f.af.getD i2.2 default).kind) == 1))
 (.r 7 (.aq (.o [.fU (gB eA [(f.af.getD i2.2 default).day])]) (.aq (.o [.fU (og eA i2.1 [(f.af.getD i2.2 default).day])]) (.aq (.t (eA.qc [(f.af.getD i2.2 default).day])) (.p (ym i2.1.length [(f.af.getD i2.2 default).day].length 8))))) fun _ =>
 .nx 8 16 i2.2 (i2.1++[(f.af.getD i2.2 default).day],i2.2+1))
 (.nx 8 16 i2.2 (i2.1,i2.2+1)))
 (.fin (.inl (.inr i2.1))))
 (fun (b1:(List Int))=>⟨[(3,ow 100001 b1)],[(100001,bO 3 1 bU b1)]⟩) fun b1 =>
 .bind true (fun b3=>b3.length≤b1.length+f.aA.length)
 (.loop (default:Sum (Int) ((List Int))) (fun i4=>i4.2≤f.aA.length∧i4.1.length≤b1.length+i4.2) (fun i4=>f.aA.length - i4.2) ((b1,0):(List Int) × Nat)
 (fun (i4:(List Int) × Nat)=>⟨[(3,ow 100005 i4.1),(36,iv (i4.2:Int))],[(100005,bO 3 1 bU i4.1)]⟩) fun i4 =>
 .lt 34 0 i4.2 f.aA.length
 (.r 11 (.p (bG (i4.2:Int) f.aA.length)) fun _ =>
 .br ((f.aR.cR.kind == 0)&&(((f.aA.getD i4.2 default).kind) == 2))
 (.fin (.inl (.inl ((f.aA.getD i4.2 default).day))))
 (.br ((f.aR.cR.kind == 1)&&(((f.aA.getD i4.2 default).kind) == 1))
 (.r 15 (.aq (.o [.fU (gB eA [(f.aA.getD i4.2 default).day])]) (.aq (.o [.fU (og eA i4.1 [(f.aA.getD i4.2 default).day])]) (.aq (.t (eA.qc [(f.aA.getD i4.2 default).day])) (.p (ym i4.1.length [(f.aA.getD i4.2 default).day].length 8))))) fun _ =>
 .nx 16 36 i4.2 (i4.1++[(f.aA.getD i4.2 default).day],i4.2+1))
 (.nx 16 36 i4.2 (i4.1,i4.2+1))))
 (.fin (.inl (.inr i4.1))))
 (fun (b3:(List Int))=>⟨[(3,ow 100004 b3)],[(100004,bO 3 1 bU b3)]⟩) fun b3 =>
 .br (((b3.length:Nat):Int) == 0)
 (.fin (-1))
 (.r 19 ((CX b3).c) fun x5 =>
 .fin x5)
def lY f:=(pI f).val
theorem IE (f:al) (hf:f.Small):(pI f).bz (fun _=>True):=by
 simp only [al.Small,ah.Small] at hf
 unfold pI
 try simp only [CX,al.Small,ah.Small]
 exact oj
def nA f:=kk tok mixed Tryz.func101 [av f.cells] (fun x=>iv x) true (pI f) (lY f) (IE f)
def lZ (r:ah):Sk ((List ByteArray) × (List ByteArray) × (List ByteArray)) :=
 .bind true (fun b1=>b1.length≤0+r.aI.length)
 (.loop (default:Sum ((List ByteArray) × (List ByteArray) × (List ByteArray)) ((List ByteArray))) (fun i2=>i2.2≤r.aI.length∧i2.1.length≤0+i2.2) (fun i2=>r.aI.length - i2.2) (([],0):(List ByteArray) × Nat)
 (fun (i2:(List ByteArray) × Nat)=>⟨[(2,ow 100002 i2.1),(14,iv (i2.2:Int))],[(100002,bO 9 1 jA i2.1)]⟩) fun i2 =>
 .lt 12 0 i2.2 r.aI.length
 (.r 3 (.p (bG (i2.2:Int) r.aI.length)) fun _ =>
 .r 4 (.aq (.o [.fU (gB vT [(r.aI.getD i2.2 default).name])]) (.aq (.o [.fU (og vT i2.1 [(r.aI.getD i2.2 default).name])]) (.aq (.t (vT.qc [(r.aI.getD i2.2 default).name])) (.p (ym i2.1.length [(r.aI.getD i2.2 default).name].length 16))))) fun _ =>
 .nx 5 14 i2.2 (i2.1++[(r.aI.getD i2.2 default).name],i2.2+1))
 (.fin (.inl (.inr i2.1))))
 (fun (b1:(List ByteArray))=>⟨[(2,ow 100001 b1)],[(100001,bO 9 1 jA b1)]⟩) fun b1 =>
 .bind true (fun b3=>b3.length≤0+r.bm.length)
 (.loop (default:Sum ((List ByteArray) × (List ByteArray) × (List ByteArray)) ((List ByteArray))) (fun i4=>i4.2≤r.bm.length∧i4.1.length≤0+i4.2) (fun i4=>r.bm.length - i4.2) (([],0):(List ByteArray) × Nat)
 (fun (i4:(List ByteArray) × Nat)=>⟨[(3,ow 100005 i4.1),(27,iv (i4.2:Int))],[(100005,bO 9 1 jA i4.1)]⟩) fun i4 =>
 .lt 25 0 i4.2 r.bm.length
 (.r 8 (.p (bG (i4.2:Int) r.bm.length)) fun _ =>
 .r 9 (.aq (.o [.fU (gB vT [(r.bm.getD i4.2 default).name])]) (.aq (.o [.fU (og vT i4.1 [(r.bm.getD i4.2 default).name])]) (.aq (.t (vT.qc [(r.bm.getD i4.2 default).name])) (.p (ym i4.1.length [(r.bm.getD i4.2 default).name].length 16))))) fun _ =>
 .nx 10 27 i4.2 (i4.1++[(r.bm.getD i4.2 default).name],i4.2+1))
 (.fin (.inl (.inr i4.1))))
 (fun (b3:(List ByteArray))=>⟨[(3,ow 100004 b3)],[(100004,bO 9 1 jA b3)]⟩) fun b3 =>
 .bind true (fun b5=>b5.length≤0+r.aE.length)
 (.loop (default:Sum ((List ByteArray) × (List ByteArray) × (List ByteArray)) ((List ByteArray))) (fun i6=>i6.2≤r.aE.length∧i6.1.length≤0+i6.2) (fun i6=>r.aE.length - i6.2) (([],0):(List ByteArray) × Nat)
 (fun (i6:(List ByteArray) × Nat)=>⟨[(4,ow 100008 i6.1),(40,iv (i6.2:Int))],[(100008,bO 9 1 jA i6.1)]⟩) fun i6 =>
 .lt 38 0 i6.2 r.aE.length
 (.r 13 (.p (bG (i6.2:Int) r.aE.length)) fun _ =>
 .r 14 (.aq (.o [.fU (gB vT [(r.aE.getD i6.2 default).name])]) (.aq (.o [.fU (og vT i6.1 [(r.aE.getD i6.2 default).name])]) (.aq (.t (vT.qc [(r.aE.getD i6.2 default).name])) (.p (ym i6.1.length [(r.aE.getD i6.2 default).name].length 16))))) fun _ =>
 .nx 15 40 i6.2 (i6.1++[(r.aE.getD i6.2 default).name],i6.2+1))
 (.fin (.inl (.inr i6.1))))
 (fun (b5:(List ByteArray))=>⟨[(4,ow 100007 b5)],[(100007,bO 9 1 jA b5)]⟩) fun b5 =>
 .fin (b1,b3,b5)
def P9 r:=(lZ r).val
theorem FT (r:ah):(lZ r).cZ (fun (x:(List ByteArray) × (List ByteArray) × (List ByteArray))=>x.1.length≤r.aI.length∧x.2.1.length≤r.bm.length∧x.2.2.length≤r.aE.length):=by
 unfold lZ
 try simp only [al.Small,ah.Small]
 exact DE
theorem IG (r:ah) (hr:r.Small):(lZ r).bz (fun _=>True):=by
 simp only [al.Small,ah.Small] at hr
 unfold lZ
 try simp only [al.Small,ah.Small]
 exact oj
def vm r:=kp tok mixed Tryz.func178 [av r.cells] (fun x=>.fL [lv jA x.1,lv jA x.2.1,lv jA x.2.2]) false (P9 r) (IG r) (FT r)
def nN (s:ByteArray):Sk (Bool) :=
 .br ((s.toList == (⟨#[]⟩:ByteArray).toList)||(decide (((s.size:Nat):Int) > 20)))
 (.fin false)
 (.r 3 (.aq (.o [.fU (aaI s)]) (.p (s.size≤maxLen))) fun _ =>
 .bt
 (.loop (default:Sum (Bool) (Unit)) (fun i2=>i2≤(mY s).length) (fun i2=>(mY s).length - i2) (0:Nat)
 (fun (i2:Nat)=>⟨[(16,iv (i2:Int))],[]⟩) fun i2 =>
 .lt 14 0 i2 ((mY s).length)
 (.r 5 (.p (bG (i2:Int) ((mY s).length))) fun _ =>
 .br ((!(((decide (((mY s).getD i2 default)≥97))&&(decide (((mY s).getD i2 default)≤122)))||((decide (((mY s).getD i2 default)≥65))&&(decide (((mY s).getD i2 default)≤90)))))&&(((i2:Int) == 0)||((((mY s).getD i2 default) != 95)&&((decide (((mY s).getD i2 default) < 48))||(decide (((mY s).getD i2 default) > 57))))))
 (.fin (.inl (.inl false)))
 (.nx 9 16 i2 (i2+1)))
 (.fin (.inl (.inr ()))))
 (fun (_:Unit)=>⟨[],[]⟩) fun _ =>
 .fin true)
def Nb s:=(nN s).val
theorem FU (s:ByteArray):(nN s).bz (fun _=>True):=by
 unfold nN
 exact oj
def zu s:=kk tok mixed Tryz.func227 [sv s] (fun x=>bv x) true (nN s) (Nb s) (u0 (FU s))
def ka (s:List ByteArray) (v:ByteArray):Sk (Int) :=
 .bind true (fun b1=>∀ q,q < s.length→((s.getD q default).toList == v.toList)=false)
 (.loop (default:Sum (Int) (Unit)) (fun i2=>∀ q,q < i2→((s.getD q default).toList == v.toList)=false) (fun i2=>s.length - i2) (0:Nat)
 (fun (i2:Nat)=>⟨[(8,iv (i2:Int))],[]⟩) fun i2 =>
 .lt 0 0 i2 s.length
 (.r 4 (.p (bG (i2:Int) s.length)) fun _ =>
 .br (v.toList == (s.getD i2 default).toList)
 (.fin (.inl (.inl (i2:Int))))
 (.nx 6 8 i2 (i2+1)))
 (.fin (.inl (.inr ()))))
 (fun (_:Unit)=>⟨[],[]⟩) fun _ =>
 .fin (-1)
def KK s v:=(ka s v).val
theorem CY (s:List ByteArray) (v:ByteArray):(ka s v).cZ (fun (x:Int)=>(x = -1∧∀ q,q < s.length→((s.getD q default).toList == v.toList)=false)∨(0≤x∧x < s.length∧((s.getD x.toNat default).toList == v.toList)=true∧∀ q,(q:Nat) < x.toNat→((s.getD q default).toList == v.toList)=false)):=by
 unfold ka
 exact DE
theorem Eu (s:List ByteArray) (v:ByteArray):(ka s v).bz (fun _=>True):=by
 unfold ka
 exact oj
def si s v:=kp tok mixed Tryz.func243 [lv jA s,sv v] (fun x=>iv x) true (KK s v) (u0 (Eu s v)) (CY s v)
def gC (s:List ByteArray) (v:ByteArray):Sk (Bool) :=
 .r 1 ((si s v).c) fun x1 =>
 .fin (decide (x1≥0))
def Ev s v:=(gC s v).val
theorem zw (s:List ByteArray) (v:ByteArray):(gC s v).cZ (fun (x:Bool)=>(x=true↔∃ q,q < s.length∧((s.getD q default).toList == v.toList)=true)):=by
 unfold gC
 try simp only [si]
 exact DE
theorem AH (s:List ByteArray) (v:ByteArray):(gC s v).bz (fun _=>True):=by
 unfold gC
 try simp only [si]
 exact pv
def tY s v:=kp tok mixed Tryz.func228 [lv jA s,sv v] (fun x=>bv x) true (Ev s v) (u0 (AH s v)) (zw s v)
def pJ (names:List ByteArray) (i:Int):Sk (Int) :=
 .r 1 (.aq (.p (bG i names.length)) ((zu (names.getD i.toNat default)).c)) fun x1 =>
 .br (!x1)
 (.fin 2)
 (.r 3 (.aq (.aq (.o [.fU (acb vT names 0 i.toNat)]) (.pt (0≤i∧i≤((names.length:Nat):Int)) (vT.lens names))) (.aq (.p (bG i names.length)) ((tY (sK names 0 i.toNat) (names.getD i.toNat default)).c))) fun x2 =>
 .br x2
 (.fin 5)
 (.fin 0))
def Qa names i:=(pJ names i).val
theorem IH (names:List ByteArray) (i:Int) (hi:0≤i∧i < (names.length:Int)):(pJ names i).bz (fun _=>True):=by
 unfold pJ
 try simp only [zu,tY]
 exact oj
def gM names i:=kk tok mixed Tryz.func210 [lv jA names,iv i] (fun x=>iv x) true (pJ names i) (Qa names i) (IH names i)
def lB (p:Int):Sk (Bool) :=
 .fin true
def zx p:=(lB p).val
theorem CZ (p:Int):zx p=true:=rfl
theorem C0 (p:Int):(lB p).bz (fun _=>True):=by
 unfold lB
 exact pv
def wo p:=kk tok mixed Tryz.func180 [iv p] (fun x=>bv x) true (lB p) (zx p) (u0 (C0 p))
def lC (names:List ByteArray) (fy:Int):Sk (Int) :=
 .br (decide (((names.length:Nat):Int) > fy))
 (.fin 6)
 (.bt
 (.loop (default:Sum (Int) (Unit)) (fun i2=>i2≤names.length) (fun i2=>names.length - i2) (0:Nat)
 (fun (i2:Nat)=>⟨[(15,iv (i2:Int))],[]⟩) fun i2 =>
 .lt 0 0 i2 names.length
 (.r 6 ((gM names (i2:Int)).c) fun x3 =>
 .br (x3 != 0)
 (.fin (.inl (.inl x3)))
 (.r 9 ((wo (i2:Int)).c) fun x4 =>
 .br (!x4)
 (.fin (.inl (.inl 1)))
 (.nx 11 15 i2 (i2+1))))
 (.fin (.inl (.inr ()))))
 (fun (_:Unit)=>⟨[],[]⟩) fun _ =>
 .fin 0)
def II names fy:=(lC names fy).val
theorem C3 (names:List ByteArray) (fy:Int):(lC names fy).bz (fun _=>True):=by
 unfold lC
 try simp only [wo,gM,CZ]
 exact yn
def qD names fy:=kk tok mixed Tryz.func179 [lv jA names,iv fy,.fn 180 []] (fun x=>iv x) true (lC names fy) (II names fy) (u0 (C3 names fy))
def nP (l:List Int) (low:Int) (high:Int):Sk (Bool) :=
 .bt
 (.loop (default:Sum (Bool) (Unit)) (fun i2=>i2≤l.length) (fun i2=>l.length - i2) (0:Nat)
 (fun (i2:Nat)=>⟨[(11,iv (i2:Int))],[]⟩) fun i2 =>
 .lt 0 0 i2 l.length
 (.r 3 (.p (bG (i2:Int) l.length)) fun _ =>
 .r 4 (.wh ((decide ((l.getD i2 default) < low))||(decide ((l.getD i2 default) > high))) false (.wh (decide ((i2:Int) > 0)) true (.p (bG (au ((i2:Int) - 1)) l.length)))) fun _ =>
 .br (((decide ((l.getD i2 default) < low))||(decide ((l.getD i2 default) > high)))||((decide ((i2:Int) > 0))&&(decide ((l.getD i2 default)≤(l.getD ((au ((i2:Int) - 1)).toNat) default)))))
 (.fin (.inl (.inl false)))
 (.nx 6 11 i2 (i2+1)))
 (.fin (.inl (.inr ()))))
 (fun (_:Unit)=>⟨[],[]⟩) fun _ =>
 .fin true
def Nc l low high:=(nP l low high).val
theorem FV (l:List Int) (low:Int) (high:Int):(nP l low high).bz (fun _=>True):=by
 unfold nP
 exact oj
def hZ l low high:=kk tok mixed Tryz.func211 [lv bU l,iv low,iv high] (fun x=>bv x) true (nP l low high) (Nc l low high) (u0 (FV l low high))
def re (r:ah) (c_:jB):Sk (Bool) :=
 .bt
 (.loop (default:Sum (Bool) (Unit)) (fun i2=>i2≤c_.fO.length) (fun i2=>c_.fO.length - i2) (0:Nat)
 (fun (i2:Nat)=>⟨[(10,iv (i2:Int))],[]⟩) fun i2 =>
 .lt 8 0 i2 c_.fO.length
 (.r 3 (.p (bG (i2:Int) c_.fO.length)) fun _ =>
 .r 4 (.aq (.p ((100:Int)≠0)) (.wh (decide (((c_.fO.getD i2 default).tmod 100) < 1)) false (.p ((100:Int)≠0)))) fun _ =>
 .br ((decide (((c_.fO.getD i2 default).tmod 100) < 1))||(decide (((c_.fO.getD i2 default).tmod 100) > 31)))
 (.fin (.inl (.inl false)))
 (.nx 6 10 i2 (i2+1)))
 (.fin (.inl (.inr ()))))
 (fun (_:Unit)=>⟨[],[]⟩) fun _ =>
 .r 7 (.dep (.wh ((decide (((c_.fO.length:Nat):Int) > 60))||(decide (((c_.shut.length:Nat):Int) > 200))) false ((cr c_.order ((r.aE.length:Nat):Int)).c)) fun x3=>.wh (((decide (((c_.fO.length:Nat):Int) > 60))||(decide (((c_.shut.length:Nat):Int) > 200)))||(!x3)) false ((cr c_.az ((r.ck.length:Nat):Int)).c)) fun p9 =>
 .br ((((decide (((c_.fO.length:Nat):Int) > 60))||(decide (((c_.shut.length:Nat):Int) > 200)))||(!p9.1))||(!p9.2))
 (.fin false)
 (.r 9 (.dep ((hZ c_.rest 0 6).c) fun x5=>.dep (.wh x5 true ((hZ c_.fO 101 1231).c)) fun x6=>.wh (x5&&x6) true ((hZ c_.shut 0 100000).c)) fun p8 =>
 .fin ((p8.1&&p8.2.1)&&p8.2.2))
def Sh r c_:=(re r c_).val
theorem KL (r:ah) (c_:jB):(re r c_).bz (fun _=>True):=by
 unfold re
 try simp only [cr,hZ,jd]
 exact yn
def C4 r c_:=kk tok mixed Tryz.func182 [av r.cells,av c_.cells] (fun x=>bv x) true (re r c_) (Sh r c_) (u0 (KL r c_))
def lD (i:Int) (v:ah):Sk (Bool) :=
 .r 1 (.aq (.p (bG i v.aI.length)) ((C4 v (v.aI.getD i.toNat default)).c)) fun x1 =>
 .fin x1
def IJ i v:=(lD i v).val
theorem C6 (i:Int) (v:ah) (hi:0≤i∧i < (v.aI.length:Int)):(lD i v).bz (fun _=>True):=by
 unfold lD
 try simp only [C4]
 exact oj
def wq i v:=kk tok mixed Tryz.func181 [iv i,.ref v.cells] (fun x=>bv x) true (lD i v) (IJ i v) (C6 i v)
def lE (names:List ByteArray) (fy:Int) (v:ah):Sk (Int) :=
 .br (decide (((names.length:Nat):Int) > fy))
 (.fin 6)
 (.bt
 (.loop (default:Sum (Int) (Unit)) (fun i2=>i2≤names.length) (fun i2=>names.length - i2) (0:Nat)
 (fun (i2:Nat)=>⟨[(15,iv (i2:Int))],[]⟩) fun i2 =>
 .lt 0 0 i2 names.length
 (.r 6 ((gM names (i2:Int)).c) fun x3 =>
 .br (x3 != 0)
 (.fin (.inl (.inl x3)))
 (.r 9 ((wq (i2:Int) v).c) fun x4 =>
 .br (!x4)
 (.fin (.inl (.inl 1)))
 (.nx 11 15 i2 (i2+1))))
 (.fin (.inl (.inr ()))))
 (fun (_:Unit)=>⟨[],[]⟩) fun _ =>
 .fin 0)
def IK names fy v:=(lE names fy v).val
theorem C7 (names:List ByteArray) (fy:Int) (v:ah) (hv:names.length≤v.aI.length):(lE names fy v).bz (fun _=>True):=by
 unfold lE
 try simp only [wq,gM]
 exact oj
def qE names fy v:=kk tok mixed Tryz.func179 [lv jA names,iv fy,.fn 181 [.ref v.cells]] (fun x=>iv x) true (lE names fy v) (IK names fy v) (C7 names fy v)
def lF (i:Int) (v:ah):Sk (Bool) :=
 .r 1 (.aq (.p (bG i v.bm.length)) (.dep ((cr ((v.bm.getD i.toNat default).bZ) ((v.aI.length:Nat):Int)).c) fun x1=>.aq (.wh x1 true (.p (bG i v.bm.length))) (.wh x1 true ((cr ((v.bm.getD i.toNat default).group) ((v.fP.length:Nat):Int)).c)))) fun p3 =>
 .fin (p3.1&&p3.2)
def IL i v:=(lF i v).val
theorem C8 (i:Int) (v:ah) (hi:0≤i∧i < (v.bm.length:Int)):(lF i v).bz (fun _=>True):=by
 unfold lF
 try simp only [cr,jd]
 exact yn
def wu i v:=kk tok mixed Tryz.func184 [iv i,.ref v.cells] (fun x=>bv x) true (lF i v) (IL i v) (C8 i v)
def lG (names:List ByteArray) (fy:Int) (v:ah):Sk (Int) :=
 .br (decide (((names.length:Nat):Int) > fy))
 (.fin 6)
 (.bt
 (.loop (default:Sum (Int) (Unit)) (fun i2=>i2≤names.length) (fun i2=>names.length - i2) (0:Nat)
 (fun (i2:Nat)=>⟨[(15,iv (i2:Int))],[]⟩) fun i2 =>
 .lt 0 0 i2 names.length
 (.r 6 ((gM names (i2:Int)).c) fun x3 =>
 .br (x3 != 0)
 (.fin (.inl (.inl x3)))
 (.r 9 ((wu (i2:Int) v).c) fun x4 =>
 .br (!x4)
 (.fin (.inl (.inl 1)))
 (.nx 11 15 i2 (i2+1))))
 (.fin (.inl (.inr ()))))
 (fun (_:Unit)=>⟨[],[]⟩) fun _ =>
 .fin 0)
def IM names fy v:=(lG names fy v).val
theorem C9 (names:List ByteArray) (fy:Int) (v:ah) (hv:names.length≤v.bm.length):(lG names fy v).bz (fun _=>True):=by
 unfold lG
 try simp only [wu,gM]
 exact oj
def qF names fy v:=kk tok mixed Tryz.func179 [lv jA names,iv fy,.fn 184 [.ref v.cells]] (fun x=>iv x) true (lG names fy v) (IM names fy v) (C9 names fy v)
def pK (o:Order):Sk (Bool) :=
 .bind true (fun b1=>b1.length≤0+o.aV.length)
 (.loop (default:Sum (Bool) ((List Int))) (fun i2=>i2.2≤o.aV.length∧i2.1.length≤0+i2.2) (fun i2=>o.aV.length - i2.2) (([],0):(List Int) × Nat)
 (fun (i2:(List Int) × Nat)=>⟨[(3,ow 100002 i2.1),(12,iv (i2.2:Int))],[(100002,bO 3 1 bU i2.1)]⟩) fun i2 =>
 .lt 10 0 i2.2 o.aV.length
 (.r 4 (.p (bG (i2.2:Int) o.aV.length)) fun _ =>
 .r 5 (.aq (.o [.fU (gB eA [(o.aV.getD i2.2 default).ask])]) (.aq (.o [.fU (og eA i2.1 [(o.aV.getD i2.2 default).ask])]) (.aq (.t (eA.qc [(o.aV.getD i2.2 default).ask])) (.p (ym i2.1.length [(o.aV.getD i2.2 default).ask].length 8))))) fun _ =>
 .r 6 ((cr ((o.aV.getD i2.2 default).cz) 5).c) fun x3 =>
 .br (!x3)
 (.fin (.inl (.inl false)))
 (.nx 8 12 i2.2 (i2.1++[(o.aV.getD i2.2 default).ask],i2.2+1)))
 (.fin (.inl (.inr i2.1))))
 (fun (b1:(List Int))=>⟨[(3,ow 100001 b1)],[(100001,bO 3 1 bU b1)]⟩) fun b1 =>
 .bind true (fun b4=>b4.length≤0+o.rules.length)
 (.loop (default:Sum (Bool) ((List Int))) (fun i5=>i5.2≤o.rules.length∧i5.1.length≤0+i5.2) (fun i5=>o.rules.length - i5.2) (([],0):(List Int) × Nat)
 (fun (i5:(List Int) × Nat)=>⟨[(4,ow 100005 i5.1),(29,iv (i5.2:Int))],[(100005,bO 3 1 bU i5.1)]⟩) fun i5 =>
 .lt 27 0 i5.2 o.rules.length
 (.r 11 (.p (bG (i5.2:Int) o.rules.length)) fun _ =>
 .r 12 (.aq (.o [.fU (gB eA [(o.rules.getD i5.2 default).ask])]) (.aq (.o [.fU (og eA i5.1 [(o.rules.getD i5.2 default).ask])]) (.aq (.t (eA.qc [(o.rules.getD i5.2 default).ask])) (.p (ym i5.1.length [(o.rules.getD i5.2 default).ask].length 8))))) fun _ =>
 .nx 13 29 i5.2 (i5.1++[(o.rules.getD i5.2 default).ask],i5.2+1))
 (.fin (.inl (.inr i5.1))))
 (fun (b4:(List Int))=>⟨[(4,ow 100004 b4)],[(100004,bO 3 1 bU b4)]⟩) fun b4 =>
 .r 14 (.dep ((hZ b1 0 21).c) fun x6=>.wh x6 true ((hZ b4 0 21).c)) fun p8 =>
 .fin (p8.1&&p8.2)
def Qb o:=(pK o).val
theorem IP (o:Order) (ho:o.aV.length≤1000000∧o.rules.length≤1000000):(pK o).bz (fun _=>True):=by
 unfold pK
 try simp only [cr,hZ,jd]
 exact yn
def Ba o:=kk tok mixed Tryz.func186 [av o.cells] (fun x=>bv x) true (pK o) (Qb o) (IP o)
def lH (i:Int) (v:ah):Sk (Bool) :=
 .r 1 (.aq (.p (bG i v.aE.length)) ((Ba (v.aE.getD i.toNat default)).c)) fun x1 =>
 .fin x1
def IQ i v:=(lH i v).val
theorem Da (i:Int) (v:ah) (hi:0≤i∧i < (v.aE.length:Int)) (hv:v.Small):(lH i v).bz (fun _=>True):=by
 simp only [al.Small,ah.Small] at hv
 unfold lH
 try simp only [Ba,al.Small,ah.Small]
 exact oj
def wv i v:=kk tok mixed Tryz.func185 [iv i,.ref v.cells] (fun x=>bv x) true (lH i v) (IQ i v) (u2 (Da i v))
def lI (names:List ByteArray) (fy:Int) (v:ah):Sk (Int) :=
 .br (decide (((names.length:Nat):Int) > fy))
 (.fin 6)
 (.bt
 (.loop (default:Sum (Int) (Unit)) (fun i2=>i2≤names.length) (fun i2=>names.length - i2) (0:Nat)
 (fun (i2:Nat)=>⟨[(15,iv (i2:Int))],[]⟩) fun i2 =>
 .lt 0 0 i2 names.length
 (.r 6 ((gM names (i2:Int)).c) fun x3 =>
 .br (x3 != 0)
 (.fin (.inl (.inl x3)))
 (.r 9 ((wv (i2:Int) v).c) fun x4 =>
 .br (!x4)
 (.fin (.inl (.inl 1)))
 (.nx 11 15 i2 (i2+1))))
 (.fin (.inl (.inr ()))))
 (fun (_:Unit)=>⟨[],[]⟩) fun _ =>
 .fin 0)
def IU names fy v:=(lI names fy v).val
theorem Db (names:List ByteArray) (fy:Int) (v:ah) (hv:names.length≤v.aE.length) (hs:v.Small):(lI names fy v).bz (fun _=>True):=by
 simp only [al.Small,ah.Small] at hs
 unfold lI
 try simp only [wv,gM,al.Small,ah.Small]
 exact oj
def qG names fy v:=kk tok mixed Tryz.func179 [lv jA names,iv fy,.fn 185 [.ref v.cells]] (fun x=>iv x) true (lI names fy v) (IU names fy v) (u2 (Db names fy v))
def mK (r:ah):Sk (Int) :=
 .br (decide (((r.aM.length:Nat):Int) > 100))
 (.fin 6)
 (.bt
 (.loop (default:Sum (Int) (Unit)) (fun i2=>i2≤r.aM.length) (fun i2=>r.aM.length - i2) (0:Nat)
 (fun (i2:Nat)=>⟨[(14,iv (i2:Int))],[]⟩) fun i2 =>
 .lt 12 0 i2 r.aM.length
 (.bt
 (.r 5 (.p (bG (i2:Int) r.aM.length)) fun _ =>
 .r 6 (.dep ((cr ((r.aM.getD i2 default).from_) ((r.aI.length:Nat):Int)).c) fun x4=>.wh (!x4) false ((cr ((r.aM.getD i2 default).cj) ((r.aI.length:Nat):Int)).c)) fun p8 =>
 .br ((((!p8.1)||(!p8.2))||(decide (((r.aM.getD i2 default).days) < 1)))||(decide (((r.aM.getD i2 default).days) > 20000)))
 (.fin (.inl (.inl (.inl 1))))
 (.r 8 (.aq (.o [.fU (acb dC.E r.aM 0 i2)]) (.pt (0≤(i2:Int)∧(i2:Int)≤((r.aM.length:Nat):Int)) (dC.E.lens r.aM))) fun _ =>
 .bt
 (.loop (default:Sum (Sum (Sum (Sum (Int) (Unit)) (Nat)) (Int × Int × dC × Int × (List jB) × Int × Bool × Bool × Bool × Bool × Bool × Bool × Bool × Bool × (List dC) × Int × (List dC) × Int × Int × Bool)) (Int × Bool)) (fun i7=>i7≤(sK r.aM 0 i2).length) (fun i7=>(sK r.aM 0 i2).length - i7) (0:Nat)
 (fun (i7:Nat)=>⟨[(50,iv (i7:Int))],[]⟩) fun i7 =>
 .lt 48 0 i7 ((sK r.aM 0 i2).length)
 (.r 10 (.p (bG (i7:Int) ((sK r.aM 0 i2).length))) fun _ =>
 .br (((((sK r.aM 0 i2).getD i7 default).from_) == ((r.aM.getD i2 default).from_))&&((((sK r.aM 0 i2).getD i7 default).cj) == ((r.aM.getD i2 default).cj)))
 (.fin (.inl (.inl (.inl (.inl (.inl 5))))))
 (.nx 13 50 i7 (i7+1)))
 (.fin (.inl (.inr ((i7:Int),decide ((i7:Int) < (((sK r.aM 0 i2).length:Nat):Int)))))))
 (fun (b6:Int × Bool)=>⟨[(50,iv b6.1),(51,bv b6.2)],[]⟩) fun b6 =>
 .fin (.inr ((i2:Int),(i2:Int),r.aM.getD i2 default,(r.aM.getD i2 default).from_,r.aI,((r.aI.length:Nat):Int),p8.1,!p8.1,!p8.1,(!p8.1)||(!p8.2),(!p8.1)||(!p8.2),((!p8.1)||(!p8.2))||(decide (((r.aM.getD i2 default).days) < 1)),((!p8.1)||(!p8.2))||(decide (((r.aM.getD i2 default).days) < 1)),(((!p8.1)||(!p8.2))||(decide (((r.aM.getD i2 default).days) < 1)))||(decide (((r.aM.getD i2 default).days) > 20000)),r.aM,(i2:Int),sK r.aM 0 i2,(((sK r.aM 0 i2).length:Nat):Int),b6.1,b6.2))))
 (fun (b3:Int × Int × dC × Int × (List jB) × Int × Bool × Bool × Bool × Bool × Bool × Bool × Bool × Bool × (List dC) × Int × (List dC) × Int × Int × Bool)=>⟨[(3,iv b3.1),(16,iv b3.2.1),(18,av b3.2.2.1.cells),(20,iv b3.2.2.2.1),(22,lv jB.cells b3.2.2.2.2.1),(23,iv b3.2.2.2.2.2.1),(24,bv b3.2.2.2.2.2.2.1),(25,bv b3.2.2.2.2.2.2.2.1),(26,bv b3.2.2.2.2.2.2.2.2.1),(34,bv b3.2.2.2.2.2.2.2.2.2.1),(35,bv b3.2.2.2.2.2.2.2.2.2.2.1),(39,bv b3.2.2.2.2.2.2.2.2.2.2.2.1),(40,bv b3.2.2.2.2.2.2.2.2.2.2.2.2.1),(44,bv b3.2.2.2.2.2.2.2.2.2.2.2.2.2.1),(46,lv dC.cells b3.2.2.2.2.2.2.2.2.2.2.2.2.2.2.1),(47,iv b3.2.2.2.2.2.2.2.2.2.2.2.2.2.2.2.1),(48,lv dC.cells b3.2.2.2.2.2.2.2.2.2.2.2.2.2.2.2.2.1),(49,iv b3.2.2.2.2.2.2.2.2.2.2.2.2.2.2.2.2.2.1),(50,iv b3.2.2.2.2.2.2.2.2.2.2.2.2.2.2.2.2.2.2.1),(51,bv b3.2.2.2.2.2.2.2.2.2.2.2.2.2.2.2.2.2.2.2)],[]⟩) fun _ =>
 .nx 14 14 i2 (i2+1))
 (.fin (.inl (.inr ()))))
 (fun (_:Unit)=>⟨[],[]⟩) fun _ =>
 .fin 0)
def KM r:=(mK r).val
theorem Ew (r:ah):(mK r).bz (fun _=>True):=by
 unfold mK
 try simp only [cr,jd]
 exact yn
def sj r:=kk tok mixed Tryz.func187 [av r.cells] (fun x=>iv x) true (mK r) (KM r) (u0 (Ew r))
def nB (r:ah):Sk (Int) :=
 .br (decide (((r.bE.length:Nat):Int) > 100))
 (.fin 6)
 (.bt
 (.loop (default:Sum (Int) (Unit)) (fun i2=>i2≤r.bE.length) (fun i2=>r.bE.length - i2) (0:Nat)
 (fun (i2:Nat)=>⟨[(14,iv (i2:Int))],[]⟩) fun i2 =>
 .lt 12 0 i2 r.bE.length
 (.r 5 (.p (bG (i2:Int) r.bE.length)) fun _ =>
 .r 6 (.dep ((cr ((r.bE.getD i2 default).from_) ((r.ck.length:Nat):Int)).c) fun x3=>.dep (.wh (!x3) false ((cr ((r.bE.getD i2 default).cj) ((r.ck.length:Nat):Int)).c)) fun x4=>.dep (.wh (((!x3)||(!x4))||(((r.bE.getD i2 default).from_) == ((r.bE.getD i2 default).cj))) false ((cr (au (((r.bE.getD i2 default).num) - 1)) 1073741824).c)) fun x5=>.dep (.wh ((((!x3)||(!x4))||(((r.bE.getD i2 default).from_) == ((r.bE.getD i2 default).cj)))||(!x5)) false ((cr (au (((r.bE.getD i2 default).den) - 1)) 1073741824).c)) fun x6=>.wh (((((!x3)||(!x4))||(((r.bE.getD i2 default).from_) == ((r.bE.getD i2 default).cj)))||(!x5))||(!x6)) false ((cr ((r.bE.getD i2 default).since) 100001).c)) fun p8 =>
 .br ((((((!p8.1)||(!p8.2.1))||(((r.bE.getD i2 default).from_) == ((r.bE.getD i2 default).cj)))||(!p8.2.2.1))||(!p8.2.2.2.1))||(!p8.2.2.2.2))
 (.fin (.inl (.inl 1)))
 (.nx 8 14 i2 (i2+1)))
 (.fin (.inl (.inr ()))))
 (fun (_:Unit)=>⟨[],[]⟩) fun _ =>
 .br (decide (((r.ep.length:Nat):Int) > 20))
 (.fin 6)
 (.bind true (fun b9=>r.dQ)
 (.loop (default:Sum (Int) (Unit)) (fun i10=>(∀ i,i < i10→(r.ep.getD i default).cj≤100000)∧i10≤r.ep.length) (fun i10=>r.ep.length - i10) (0:Nat)
 (fun (i10:Nat)=>⟨[(69,iv (i10:Int))],[]⟩) fun i10 =>
 .lt 67 0 i10 r.ep.length
 (.r 13 (.p (bG (i10:Int) r.ep.length)) fun _ =>
 .r 14 ((cr ((r.ep.getD i10 default).order) ((r.aE.length:Nat):Int)).c) fun x11 =>
 .br ((((!x11)||(decide (((r.ep.getD i10 default).from_) < 0)))||(decide (((r.ep.getD i10 default).from_) > ((r.ep.getD i10 default).cj))))||(decide (((r.ep.getD i10 default).cj) > 100000)))
 (.fin (.inl (.inl 1)))
 (.nx 16 69 i10 (i10+1)))
 (.fin (.inl (.inr ()))))
 (fun (_:Unit)=>⟨[],[]⟩) fun _ =>
 .fin 0))
def Si r:=(nB r).val
theorem IV (r:ah):(nB r).cZ (fun (x:Int)=>x=0→r.dQ):=by
 unfold nB
 try simp only [cr,jd,ah.dQ]
 exact RW
theorem KN (r:ah):(nB r).bz (fun _=>True):=by
 unfold nB
 try simp only [cr,jd,ah.dQ]
 exact yn
def xw r:=kp tok mixed Tryz.func188 [av r.cells] (fun x=>iv x) true (Si r) (u0 (KN r)) (IV r)
def l4 (r:ah):Sk (Int) :=
 .r 1 ((vm r).c) fun x1 =>
 .r 2 ((qD r.ck 8).c) fun x2 =>
 .br (x2 != 0)
 (.fin x2)
 (.r 5 ((qE x1.1 40 r).c) fun x3 =>
 .br (x3 != 0)
 (.fin x3)
 (.br (decide (((r.fP.length:Nat):Int) > 20))
 (.fin 6)
 (.bt
 (.loop (default:Sum (Int) (Unit)) (fun i5=>i5≤r.fP.length) (fun i5=>r.fP.length - i5) (0:Nat)
 (fun (i5:Nat)=>⟨[(38,iv (i5:Int))],[]⟩) fun i5 =>
 .lt 36 0 i5 r.fP.length
 (.r 12 (.p (bG (i5:Int) r.fP.length)) fun _ =>
 .r 13 ((cr ((r.fP.getD i5 default).Px) 10).c) fun x6 =>
 .br (!x6)
 (.fin (.inl (.inl 1)))
 (.nx 15 38 i5 (i5+1)))
 (.fin (.inl (.inr ()))))
 (fun (_:Unit)=>⟨[],[]⟩) fun _ =>
 .r 16 ((qF x1.2.1 200 r).c) fun x7 =>
 .br (x7 != 0)
 (.fin x7)
 (.r 19 ((qG x1.2.2 20 r).c) fun x8 =>
 .br (x8 != 0)
 (.fin x8)
 (.r 22 ((sj r).c) fun x9 =>
 .br (x9 != 0)
 (.fin x9)
 (.r 25 ((xw r).c) fun Oc =>
 .fin Oc))))))
def Qc r:=(l4 r).val
theorem FW (r:ah):(l4 r).cZ (fun (x:Int)=>x=0→r.dQ):=by
 unfold l4
 try simp only [qD,qE,qF,qG,cr,vm,xw,sj,jd,al.Small,ah.Small,ah.dQ]
 exact RW
theorem IW (r:ah) (hr:r.Small):(l4 r).bz (fun _=>True):=by
 simp only [al.Small,ah.Small,ah.dQ] at hr
 unfold l4
 try simp only [qD,qE,qF,qG,cr,vm,xw,sj,jd,al.Small,ah.Small,ah.dQ]
 exact yn
def vn r:=kp tok mixed Tryz.func137 [av r.cells] (fun x=>iv x) true (Qc r) (IW r) (FW r)
def nQ (r:ah) (bZ:Int):Sk (Bool) :=
 .fin ((decide (bZ≥0))&&(decide (bZ < ((r.aI.length:Nat):Int))))
def Dc r bZ:=(nQ r bZ).val
theorem xW (r:ah) (bZ:Int):Dc r bZ=((decide (bZ≥0))&&(decide (bZ < ((r.aI.length:Nat):Int)))):=rfl
theorem FX (r:ah) (bZ:Int):(nQ r bZ).bz (fun _=>True):=by
 unfold nQ
 exact pv
def pL r bZ:=kk tok mixed Tryz.func138 [av r.cells,iv bZ] (fun x=>bv x) true (nQ r bZ) (Dc r bZ) (u0 (FX r bZ))
def pM (n:Int):Sk (Bool) :=
 .fin ((decide (n≥0))&&(decide (n≤100000)))
def Fe n:=(pM n).val
theorem zy (n:Int):Fe n=((decide (n≥0))&&(decide (n≤100000))):=rfl
theorem IX (n:Int):(pM n).bz (fun _=>True):=by
 unfold pM
 exact pv
def nC n:=kk tok mixed Tryz.func139 [iv n] (fun x=>bv x) true (pM n) (Fe n) (u0 (IX n))
def nR (t:rF):Sk (Bool) :=
 .fin ((t.kind == 0)||(t.kind == 1))
def Dd t:=(nR t).val
theorem xX (t:rF):Dd t=((t.kind == 0)||(t.kind == 1)):=rfl
theorem FY (t:rF):(nR t).bz (fun _=>True):=by
 unfold nR
 exact pv
def tZ t:=kk tok mixed Tryz.func140 [av t.cells] (fun x=>bv x) true (nR t) (Dd t) (u0 (FY t))
def jj (day:Int):Sk (Bool) :=
 .fin ((decide ((0:Int)≤day))&&(decide (day≤100000)))
def fa day:=(jj day).val
theorem pN (day:Int):fa day=((decide ((0:Int)≤day))&&(decide (day≤100000))):=rfl
theorem De (day:Int):(jj day).bz (fun _=>True):=by
 unfold jj
 exact pv
def fR day:=kk tok mixed Tryz.func213 [iv day] (fun x=>bv x) true (jj day) (fa day) (u0 (De day))
theorem Df (day:Int):gu Tryz.prog 213 [iv day] [] (bv (fa day)) []:=(fR day).pf trivial
def lJ (day:Int):Sk (Int × Int × Int) :=
 .r 2 (.aq (.p ((146097:Int)≠0)) (.p ((146097:Int)≠0))) fun _ =>
 .r 3 (.aq (.p ((1460:Int)≠0)) (.aq (.p ((36524:Int)≠0)) (.aq (.p ((146096:Int)≠0)) (.p ((365:Int)≠0))))) fun _ =>
 .r 4 (.aq (.p ((4:Int)≠0)) (.p ((100:Int)≠0))) fun _ =>
 .r 5 (.p ((153:Int)≠0)) fun _ =>
 .r 6 (.p ((5:Int)≠0)) fun _ =>
 .bind false (fun _=>True)
 (.br (decide ((au ((au ((au ((au ((5:Int) * (au (((au (day+730425)).tmod 146097) - (au ((au ((au ((365:Int) * (au ((au ((au ((au (((au (day+730425)).tmod 146097) - (au (((au (day+730425)).tmod 146097).tdiv 1460))))+(au (((au (day+730425)).tmod 146097).tdiv 36524)))) - (au (((au (day+730425)).tmod 146097).tdiv 146096)))).tdiv 365))))+(au ((au ((au ((au ((au (((au (day+730425)).tmod 146097) - (au (((au (day+730425)).tmod 146097).tdiv 1460))))+(au (((au (day+730425)).tmod 146097).tdiv 36524)))) - (au (((au (day+730425)).tmod 146097).tdiv 146096)))).tdiv 365)).tdiv 4)))) - (au ((au ((au ((au ((au (((au (day+730425)).tmod 146097) - (au (((au (day+730425)).tmod 146097).tdiv 1460))))+(au (((au (day+730425)).tmod 146097).tdiv 36524)))) - (au (((au (day+730425)).tmod 146097).tdiv 146096)))).tdiv 365)).tdiv 100))))))))+2)).tdiv 153))+3)) > 12))
 (.fin (.inr (au ((au ((au ((au ((au ((5:Int) * (au (((au (day+730425)).tmod 146097) - (au ((au ((au ((365:Int) * (au ((au ((au ((au (((au (day+730425)).tmod 146097) - (au (((au (day+730425)).tmod 146097).tdiv 1460))))+(au (((au (day+730425)).tmod 146097).tdiv 36524)))) - (au (((au (day+730425)).tmod 146097).tdiv 146096)))).tdiv 365))))+(au ((au ((au ((au ((au (((au (day+730425)).tmod 146097) - (au (((au (day+730425)).tmod 146097).tdiv 1460))))+(au (((au (day+730425)).tmod 146097).tdiv 36524)))) - (au (((au (day+730425)).tmod 146097).tdiv 146096)))).tdiv 365)).tdiv 4)))) - (au ((au ((au ((au ((au (((au (day+730425)).tmod 146097) - (au (((au (day+730425)).tmod 146097).tdiv 1460))))+(au (((au (day+730425)).tmod 146097).tdiv 36524)))) - (au (((au (day+730425)).tmod 146097).tdiv 146096)))).tdiv 365)).tdiv 100))))))))+2)).tdiv 153))+3)) - 12))))
 (.fin (.inr (au ((au ((au ((au ((5:Int) * (au (((au (day+730425)).tmod 146097) - (au ((au ((au ((365:Int) * (au ((au ((au ((au (((au (day+730425)).tmod 146097) - (au (((au (day+730425)).tmod 146097).tdiv 1460))))+(au (((au (day+730425)).tmod 146097).tdiv 36524)))) - (au (((au (day+730425)).tmod 146097).tdiv 146096)))).tdiv 365))))+(au ((au ((au ((au ((au (((au (day+730425)).tmod 146097) - (au (((au (day+730425)).tmod 146097).tdiv 1460))))+(au (((au (day+730425)).tmod 146097).tdiv 36524)))) - (au (((au (day+730425)).tmod 146097).tdiv 146096)))).tdiv 365)).tdiv 4)))) - (au ((au ((au ((au ((au (((au (day+730425)).tmod 146097) - (au (((au (day+730425)).tmod 146097).tdiv 1460))))+(au (((au (day+730425)).tmod 146097).tdiv 36524)))) - (au (((au (day+730425)).tmod 146097).tdiv 146096)))).tdiv 365)).tdiv 100))))))))+2)).tdiv 153))+3)))))
 (fun (b1:Int)=>⟨[(3,iv b1)],[]⟩) fun b1 =>
 .br (decide (b1 < 3))
 (.fin (au ((au ((au ((au ((au ((au (((au (day+730425)).tmod 146097) - (au (((au (day+730425)).tmod 146097).tdiv 1460))))+(au (((au (day+730425)).tmod 146097).tdiv 36524)))) - (au (((au (day+730425)).tmod 146097).tdiv 146096)))).tdiv 365))+(au ((400:Int) * (au ((au (day+730425)).tdiv 146097))))))+1),b1,au ((au ((au (((au (day+730425)).tmod 146097) - (au ((au ((au ((365:Int) * (au ((au ((au ((au (((au (day+730425)).tmod 146097) - (au (((au (day+730425)).tmod 146097).tdiv 1460))))+(au (((au (day+730425)).tmod 146097).tdiv 36524)))) - (au (((au (day+730425)).tmod 146097).tdiv 146096)))).tdiv 365))))+(au ((au ((au ((au ((au (((au (day+730425)).tmod 146097) - (au (((au (day+730425)).tmod 146097).tdiv 1460))))+(au (((au (day+730425)).tmod 146097).tdiv 36524)))) - (au (((au (day+730425)).tmod 146097).tdiv 146096)))).tdiv 365)).tdiv 4)))) - (au ((au ((au ((au ((au (((au (day+730425)).tmod 146097) - (au (((au (day+730425)).tmod 146097).tdiv 1460))))+(au (((au (day+730425)).tmod 146097).tdiv 36524)))) - (au (((au (day+730425)).tmod 146097).tdiv 146096)))).tdiv 365)).tdiv 100)))))) - (au ((au ((au ((153:Int) * (au ((au ((au ((5:Int) * (au (((au (day+730425)).tmod 146097) - (au ((au ((au ((365:Int) * (au ((au ((au ((au (((au (day+730425)).tmod 146097) - (au (((au (day+730425)).tmod 146097).tdiv 1460))))+(au (((au (day+730425)).tmod 146097).tdiv 36524)))) - (au (((au (day+730425)).tmod 146097).tdiv 146096)))).tdiv 365))))+(au ((au ((au ((au ((au (((au (day+730425)).tmod 146097) - (au (((au (day+730425)).tmod 146097).tdiv 1460))))+(au (((au (day+730425)).tmod 146097).tdiv 36524)))) - (au (((au (day+730425)).tmod 146097).tdiv 146096)))).tdiv 365)).tdiv 4)))) - (au ((au ((au ((au ((au (((au (day+730425)).tmod 146097) - (au (((au (day+730425)).tmod 146097).tdiv 1460))))+(au (((au (day+730425)).tmod 146097).tdiv 36524)))) - (au (((au (day+730425)).tmod 146097).tdiv 146096)))).tdiv 365)).tdiv 100))))))))+2)).tdiv 153))))+2)).tdiv 5))))+1)))
 (.fin (au ((au ((au ((au ((au (((au (day+730425)).tmod 146097) - (au (((au (day+730425)).tmod 146097).tdiv 1460))))+(au (((au (day+730425)).tmod 146097).tdiv 36524)))) - (au (((au (day+730425)).tmod 146097).tdiv 146096)))).tdiv 365))+(au ((400:Int) * (au ((au (day+730425)).tdiv 146097))))),b1,au ((au ((au (((au (day+730425)).tmod 146097) - (au ((au ((au ((365:Int) * (au ((au ((au ((au (((au (day+730425)).tmod 146097) - (au (((au (day+730425)).tmod 146097).tdiv 1460))))+(au (((au (day+730425)).tmod 146097).tdiv 36524)))) - (au (((au (day+730425)).tmod 146097).tdiv 146096)))).tdiv 365))))+(au ((au ((au ((au ((au (((au (day+730425)).tmod 146097) - (au (((au (day+730425)).tmod 146097).tdiv 1460))))+(au (((au (day+730425)).tmod 146097).tdiv 36524)))) - (au (((au (day+730425)).tmod 146097).tdiv 146096)))).tdiv 365)).tdiv 4)))) - (au ((au ((au ((au ((au (((au (day+730425)).tmod 146097) - (au (((au (day+730425)).tmod 146097).tdiv 1460))))+(au (((au (day+730425)).tmod 146097).tdiv 36524)))) - (au (((au (day+730425)).tmod 146097).tdiv 146096)))).tdiv 365)).tdiv 100)))))) - (au ((au ((au ((153:Int) * (au ((au ((au ((5:Int) * (au (((au (day+730425)).tmod 146097) - (au ((au ((au ((365:Int) * (au ((au ((au ((au (((au (day+730425)).tmod 146097) - (au (((au (day+730425)).tmod 146097).tdiv 1460))))+(au (((au (day+730425)).tmod 146097).tdiv 36524)))) - (au (((au (day+730425)).tmod 146097).tdiv 146096)))).tdiv 365))))+(au ((au ((au ((au ((au (((au (day+730425)).tmod 146097) - (au (((au (day+730425)).tmod 146097).tdiv 1460))))+(au (((au (day+730425)).tmod 146097).tdiv 36524)))) - (au (((au (day+730425)).tmod 146097).tdiv 146096)))).tdiv 365)).tdiv 4)))) - (au ((au ((au ((au ((au (((au (day+730425)).tmod 146097) - (au (((au (day+730425)).tmod 146097).tdiv 1460))))+(au (((au (day+730425)).tmod 146097).tdiv 36524)))) - (au (((au (day+730425)).tmod 146097).tdiv 146096)))).tdiv 365)).tdiv 100))))))))+2)).tdiv 153))))+2)).tdiv 5))))+1)))
def IY day:=(lJ day).val
theorem Dg (day:Int):(lJ day).bz (fun _=>True):=by
 unfold lJ
 exact oj
def mL day:=kk tok mixed Tryz.func229 [iv day] (fun x=>.fL [iv x.1,iv x.2.1,iv x.2.2]) true (lJ day) (IY day) (u0 (Dg day))
def kH (year:Int) (month:Int) (FZ:Int):Sk (Int) :=
 .br (decide (month < 3))
 (.r 3 (.aq (.p ((4:Int)≠0)) (.aq (.p ((100:Int)≠0)) (.aq (.p ((400:Int)≠0)) (.p ((5:Int)≠0))))) fun _ =>
 .fin (au ((au ((au ((au ((au ((au ((au ((au ((365:Int) * (au (year - 1))))+(au ((au (year - 1)).tdiv 4)))) - (au ((au (year - 1)).tdiv 100))))+(au ((au (year - 1)).tdiv 400))))+(au ((au ((au ((153:Int) * (au ((au (month+12)) - 3))))+2)).tdiv 5))))+FZ)) - 1)) - 730425)))
 (.r 3 (.aq (.p ((4:Int)≠0)) (.aq (.p ((100:Int)≠0)) (.aq (.p ((400:Int)≠0)) (.p ((5:Int)≠0))))) fun _ =>
 .fin (au ((au ((au ((au ((au ((au ((au ((au ((365:Int) * year))+(au (year.tdiv 4)))) - (au (year.tdiv 100))))+(au (year.tdiv 400))))+(au ((au ((au ((153:Int) * (au (month - 3))))+2)).tdiv 5))))+FZ)) - 1)) - 730425)))
def F3 year month FZ:=(kH year month FZ).val
theorem BI (year:Int) (month:Int) (FZ:Int):(kH year month FZ).bz (fun _=>True):=by
 unfold kH
 exact oj
def jl year month FZ:=kk tok mixed Tryz.func244 [iv year,iv month,iv FZ] (fun x=>iv x) true (kH year month FZ) (F3 year month FZ) (u0 (BI year month FZ))
def kI (year:Int) (month:Int):Sk (Int) :=
 .br (month == 12)
 (.fin 31)
 (.r 3 (.dep ((jl year (au (month+1)) 1).c) fun _=>(jl year month 1).c) fun p3 =>
 .fin (au (p3.1 - p3.2)))
def F4 year month:=(kI year month).val
theorem BJ (year:Int) (month:Int):(kI year month).bz (fun _=>True):=by
 unfold kI
 try simp only [jl]
 exact pv
def lL year month:=kk tok mixed Tryz.func231 [iv year,iv month] (fun x=>iv x) true (kI year month) (F4 year month) (u0 (BJ year month))
def nT (year:Int) (month:Int) (FZ:Int):Sk (Int × Int) :=
 .r 1 (.wh (((((decide (year < 2000))||(decide (year > 2300)))||(decide (month < 1)))||(decide (month > 12)))||(decide (FZ < 1))) false ((lL year month).c)) fun x1 =>
 .br ((((((decide (year < 2000))||(decide (year > 2300)))||(decide (month < 1)))||(decide (month > 12)))||(decide (FZ < 1)))||(decide (FZ > x1)))
 (.fin (0,3))
 (.r 3 ((jl year month FZ).c) fun x2 =>
 .r 4 ((fR x2).c) fun x3 =>
 .br (!x3)
 (.fin (0,3))
 (.fin (x2,0)))
def Nd year month FZ:=(nT year month FZ).val
theorem F5 (year:Int) (month:Int) (FZ:Int):(nT year month FZ).bz (fun _=>True):=by
 unfold nT
 try simp only [lL,jl,fR,pN]
 exact yn
def zA year month FZ:=kk tok mixed Tryz.func230 [iv year,iv month,iv FZ] (fun x=>.fL [iv x.1,iv x.2]) true (nT year month FZ) (Nd year month FZ) (u0 (F5 year month FZ))
def iz (day:Int) (n:Int):Sk (Int × Int) :=
 .r 1 ((fR day).c) fun x1 =>
 .br (((!x1)||(decide (n < (-5000))))||(decide (n > 5000)))
 (.fin (0,3))
 (.r 3 ((mL day).c) fun x2 =>
 .r 5 (.aq (.p ((12:Int)≠0)) (.p ((12:Int)≠0))) fun _ =>
 .r 6 (.dep ((lL (au ((au ((au ((au ((au ((12:Int) * x2.1))+x2.2.1)) - 1))+n)).tdiv 12)) (au (((au ((au ((au ((au ((12:Int) * x2.1))+x2.2.1)) - 1))+n)).tmod 12)+1))).c) fun x3=>(zA (au ((au ((au ((au ((au ((12:Int) * x2.1))+x2.2.1)) - 1))+n)).tdiv 12)) (au (((au ((au ((au ((au ((12:Int) * x2.1))+x2.2.1)) - 1))+n)).tmod 12)+1)) (bL x2.2.2 x3)).c) fun p5 =>
 .fin (p5.2.1,p5.2.2))
def BK day n:=(iz day n).val
theorem ye (day:Int) (n:Int):(iz day n).bz (fun _=>True):=by
 unfold iz
 try simp only [zA,mL,lL,fR,pN]
 exact yn
def rQ day n:=kk tok mixed Tryz.func212 [iv day,iv n] (fun x=>.fL [iv x.1,iv x.2]) true (iz day n) (BK day n) (u0 (ye day n))
def pO (day:Int) (t:rF):Sk (Int × Int) :=
 .br ((decide (t.n < 0))||(decide (t.n > 20000)))
 (.fin (0,3))
 (.br (t.unit == 1)
 (.r 4 ((rQ day t.n).c) fun x1 =>
 .fin (x1.1,x1.2))
 (.fin (au (day+t.n),0)))
def Qd day t:=(pO day t).val
theorem IZ (day:Int) (t:rF):(pO day t).bz (fun _=>True):=by
 unfold pO
 try simp only [rQ]
 exact pv
def vp day t:=kk tok mixed Tryz.func189 [iv day,av t.cells] (fun x=>.fL [iv x.1,iv x.2]) true (pO day t) (Qd day t) (u0 (IZ day t))
def nU (r:ah) (from_:Int) (cj:Int):Sk (Int × Int) :=
 .bt
 (.loop (default:Sum (Int × Int) (Unit)) (fun i2=>i2≤r.aM.length) (fun i2=>r.aM.length - i2) (0:Nat)
 (fun (i2:Nat)=>⟨[(13,iv (i2:Int))],[]⟩) fun i2 =>
 .lt 11 0 i2 r.aM.length
 (.r 3 (.p (bG (i2:Int) r.aM.length)) fun _ =>
 .br ((((r.aM.getD i2 default).from_) == from_)&&(((r.aM.getD i2 default).cj) == cj))
 (.fin (.inl (.inl ((r.aM.getD i2 default).days,0))))
 (.nx 6 13 i2 (i2+1)))
 (.fin (.inl (.inr ()))))
 (fun (_:Unit)=>⟨[],[]⟩) fun _ =>
 .fin (0,4)
def Nf r from_ cj:=(nU r from_ cj).val
theorem F6 (r:ah) (from_:Int) (cj:Int):(nU r from_ cj).bz (fun _=>True):=by
 unfold nU
 exact oj
def zB r from_ cj:=kk tok mixed Tryz.func190 [av r.cells,iv from_,iv cj] (fun x=>.fL [iv x.1,iv x.2]) true (nU r from_ cj) (Nf r from_ cj) (u0 (F6 r from_ cj))
def rh (r:ah) (b:qd) (seen:Int):Sk (Int × Int) :=
 .br (b.cR.kind == 0)
 (.fin (seen,0))
 (.br (b.cR.kind == 1)
 (.r 5 ((vp seen b.cR).c) fun x1 =>
 .fin (x1.1,x1.2))
 (.br (b.cR.kind == 2)
 (.r 7 ((vp b.day b.cR).c) fun x2 =>
 .fin (x2.1,x2.2))
 (.br (b.cR.kind == 4)
 (.r 9 ((zB r b.bZ b.yo).c) fun x3 =>
 .fin (au (b.day+x3.1),x3.2))
 (.fin (b.cR.n,0)))))
def Sj r b seen:=(rh r b seen).val
theorem KO (r:ah) (b:qd) (seen:Int):(rh r b seen).bz (fun _=>True):=by
 unfold rh
 try simp only [zB,vp]
 exact pv
def xy r b seen:=kk tok mixed Tryz.func141 [av r.cells,av b.cells,iv seen] (fun x=>.fL [iv x.1,iv x.2]) true (rh r b seen) (Sj r b seen) (u0 (KO r b seen))
def kZ (r:ah) (order:Int) (day:Int):Sk (Int) :=
 .bind true (fun b1=>day≤b1∧b1≤100001)
 (.loop (default:Sum (Int) (Int)) (fun i2=>day≤i2.1∧i2.1≤100001) (fun i2=>2 * (100001 - i2.1).toNat+(if i2.2 then 1 else 0)) ((day,true):Int × Bool)
 (fun (i2:Int × Bool)=>⟨[(2,iv i2.1),(7,bv i2.2)],[]⟩) fun i2 =>
 .br i2.2
 (.bind true (fun b3=>i2.1≤b3.1∧b3.1≤100001∧(b3.2.1=true→i2.1 < b3.1)∧(b3.2.1=false→b3.1=i2.1))
 (.bind true (fun b4=>i2.1≤b4.1∧b4.1≤100001∧(b4.2.1=true→i2.1 < b4.1)∧(b4.2.1=false→b4.1=i2.1))
 (.loop (default:Sum (Sum (Sum (Sum (Int) (Int)) (Int × Bool)) (Int × Bool × (List Halt) × Int × Int × Bool)) (Int × Bool × Int × Bool)) (fun i5=>i5.2.2≤r.ep.length∧i2.1≤i5.1∧i5.1≤100001∧(i5.2.1=true→i2.1 < i5.1)∧(i5.2.1=false→i5.1=i2.1)) (fun i5=>r.ep.length - i5.2.2) ((i2.1,false,0):Int × Bool × Nat)
 (fun (i5:Int × Bool × Nat)=>⟨[(2,iv i5.1),(7,bv i5.2.1),(14,iv (i5.2.2:Int))],[]⟩) fun i5 =>
 .lt 12 0 i5.2.2 r.ep.length
 (.r 6 (.p (bG (i5.2.2:Int) r.ep.length)) fun _ =>
 .br (((((r.ep.getD i5.2.2 default).order) == order)&&(decide (((r.ep.getD i5.2.2 default).from_)≤i5.1)))&&(decide (i5.1≤((r.ep.getD i5.2.2 default).cj))))
 (.r 9 .z fun _ =>
 .wi 14 (au ((i5.2.2:Int)+1)) ((i5.2.2+1:Nat):Int) <|
 .fin (.inr (au (((r.ep.getD i5.2.2 default).cj)+1),true,i5.2.2+1)))
 (.nx 9 14 i5.2.2 (i5.1,i5.2.1,i5.2.2+1)))
 (.fin (.inl (.inr (i5.1,i5.2.1,(i5.2.2:Int),decide ((i5.2.2:Int) < ((r.ep.length:Nat):Int)))))))
 (fun (b4:Int × Bool × Int × Bool)=>⟨[(2,iv b4.1),(7,bv b4.2.1),(14,iv b4.2.2.1),(15,bv b4.2.2.2)],[]⟩) fun b4 =>
 .fin (.inr (b4.1,b4.2.1,r.ep,((r.ep.length:Nat):Int),b4.2.2.1,b4.2.2.2)))
 (fun (b3:Int × Bool × (List Halt) × Int × Int × Bool)=>⟨[(2,iv b3.1),(7,bv b3.2.1),(12,lv Halt.cells b3.2.2.1),(13,iv b3.2.2.2.1),(14,iv b3.2.2.2.2.1),(15,bv b3.2.2.2.2.2)],[]⟩) fun b3 =>
 .fin (.inr (b3.1,b3.2.1)))
 (.fin (.inl (.inr i2.1))))
 (fun (b1:Int)=>⟨[(2,iv b1)],[]⟩) fun b1 =>
 .fin b1
def I0 r order day:=(kZ r order day).val
theorem I1 (r:ah) (order:Int) (day:Int) (hP:r.dQ∧0≤day∧day≤100001):(kZ r order day).cZ (fun (x:Int)=>day≤x∧x≤100001):=by
 refine Sk.bp _ ?_
 unfold kZ
 simp only [Sk.cV,Sk.aO,reduceCtorEq,ON,kk,kp,ah.dQ,maxLen]
 obtain ⟨hh,hd⟩:=hP
 refine ⟨⟨by omega,fun i hi=>⟨fun hch=>⟨⟨⟨⟨by omega,⟨by omega,by omega⟩⟩,fun j hj=>⟨fun hc _=>⟨fun ht _=>⟨⟨?_,?_⟩,?_⟩,fun ht _=>⟨⟨?_,hj.2⟩,?_⟩⟩,fun hc=>hj.2⟩⟩,fun b hb=>hb⟩,fun b _ hb=>⟨?_,?_⟩⟩,fun hch=>hi⟩⟩,fun b hb=>hb⟩
 all_goals (try simp only [LN] at hc)
 all_goals (try simp only [LN] at ht)
 ·omega
 ·have h2:=hh j.2.2 (by omega)
  rw [aG (by omega) (by omega)]
  omega
 ·omega
 ·omega
 ·omega
 ·omega
 ·rw [if_pos hch]
  cases wN:b.2.1 with
  | true=>have:=hb.2.2.1 wN; simp only [if_true]; omega
  | false=>have:=hb.2.2.2 wN; simp only [Bool.false_eq_true,if_false]; omega
theorem F7 (r:ah) (order:Int) (day:Int):(fun (x:Int)=>(r.dQ∧0≤day∧day≤100001)→(day≤x∧x≤100001)) (I0 r order day):=fun hP=>Sk.de _ (I1 r order day hP)
theorem KP (r:ah) (order:Int) (day:Int) (hh:r.dQ) (hd:0≤day∧day≤100001):(kZ r order day).bz (fun _=>True):=by
 simp only [ah.dQ] at hh
 refine Sk.aX _ ?_
 unfold kZ
 simp only [Sk.kq,Sk.aO,reduceCtorEq,ON,kk,kp,ah.dQ,maxLen]
 refine ⟨⟨by omega,by omega⟩,fun i hi=>⟨fun hch=>⟨⟨⟨⟨by omega,by omega,by omega⟩,fun j hj hl=>⟨fun hc=>⟨⟨by omega,of_decide_eq_true hc⟩,fun _=>⟨fun ht _=>⟨?_,⟨?_,?_⟩,?_⟩,fun ht _=>⟨?_,⟨?_,hj.2⟩,?_⟩⟩⟩,fun hc=>hj.2⟩⟩,fun b hb=>hb⟩,fun b _ hb=>⟨?_,?_⟩⟩,fun hch=>hi⟩⟩
 all_goals (try simp only [LN] at hc)
 all_goals (try simp only [LN] at ht)
 ·exact aG (by omega) (by omega)
 ·omega
 ·have h2:=hh j.2.2 (by omega)
  rw [aG (by omega) (by omega)]
  omega
 ·omega
 ·exact aG (by omega) (by omega)
 ·omega
 ·omega
 ·omega
 ·rw [if_pos hch]
  cases wN:b.2.1 with
  | true=>have:=hb.2.2.1 wN; simp only [if_true]; omega
  | false=>have:=hb.2.2.2 wN; simp only [Bool.false_eq_true,if_false]; omega
def xz r order day:=kk tok mixed Tryz.func192 [av r.cells,iv order,iv day] (fun x=>iv x) true (kZ r order day) (I0 r order day) (u2 (KP r order day)) (fun (x:Int)=>(r.dQ∧0≤day∧day≤100001)→(day≤x∧x≤100001)) (F7 r order day)
def mM (c_:jB) (day:Int):Sk (Bool) :=
 .r 1 ((mL day).c) fun x1 =>
 .r 2 (.aq (.p ((7:Int)≠0)) (.dep ((aJ c_.rest ((au (day+5)).tmod 7)).c) fun x2=>.dep (.wh (!x2) true ((aJ c_.fO (au ((au ((100:Int) * x1.2.1))+x1.2.2))).c)) fun x3=>.wh ((!x2)&&(!x3)) true ((aJ c_.shut day).c))) fun p5 =>
 .fin (((!p5.1)&&(!p5.2.1))&&(!p5.2.2))
def fX c_ day:=(mM c_ day).val
theorem Ex (c_:jB) (day:Int):(mM c_ day).bz (fun _=>True):=by
 unfold mM
 try simp only [mL,aJ]
 exact oj
def F8 c_ day:=kk tok mixed Tryz.func233 [av c_.cells,iv day] (fun x=>bv x) true (mM c_ day) (fX c_ day) (u0 (Ex c_ day))
theorem Ey (c_:jB) (day:Int):gu Tryz.prog 233 [av c_.cells,iv day] [] (bv (fX c_ day)) []:=(F8 c_ day).pf trivial
end
end Go.Proofs.YtgmnlkccjlnnbaaGreatDoor
